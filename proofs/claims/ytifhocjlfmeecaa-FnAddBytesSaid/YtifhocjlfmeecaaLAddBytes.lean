/- The law FnAddBytes: for every input it answers true, and changes nothing that was there. No condition. -/
import Derived.Test.YtifhocjlfmeecaaDrawByte
namespace Go.Proofs.Ytifhocjlfmeecaa
open Go.ChangeShapes Go.WideShapes Go.ChangeAt Go.RowKit
set_option linter.unusedVariables false

theorem add_comm3 (x y : Int) (c : Bool) : add1 y x c = add1 x y c ∧ add2 y x c = add2 x y c ∧ add3 y x c = add3 x y c := by
  unfold add1 add2 add3
  rw [Bool.and_comm (byteB y) (byteB x), Int.add_comm y x, Int.add_comm (sgn y) (sgn x)]
  exact ⟨rfl, rfl, rfl⟩
theorem add_facts (x y : Int) (c : Bool) (hx : byteB x = true) (hy : byteB y = true) : byteB (add1 x y c) = true ∧ add1 x y c = x + y + bit c - (if add2 x y c then 256 else 0) ∧ add3 x y c = (sgn (add1 x y c) != sgn x + sgn y + bit c) := by
  obtain ⟨x1, x2⟩ := byteB_iff.1 hx
  obtain ⟨y1, y2⟩ := byteB_iff.1 hy
  obtain ⟨c1, c2⟩ := bit_bd c
  have e : add1 x y c = (x + y + bit c) % 256 := by simp [add1, hx, hy]
  have hs : byteB (add1 x y c) = true := by rw [e]; exact byteB_iff.2 ⟨by omega, by omega⟩
  refine ⟨hs, ?_, ?_⟩
  · rw [e]
    unfold add2
    rw [hx, hy]
    by_cases h : 255 < x + y + bit c
    · simp [h]; omega
    · simp [h]; omega
  · have q : sgn (add1 x y c) = (if 128 ≤ add1 x y c then add1 x y c - 256 else add1 x y c) := by simp [sgn, hs]
    have qx : sgn x = (if 128 ≤ x then x - 256 else x) := by simp [sgn, hx]
    have qy : sgn y = (if 128 ≤ y then y - 256 else y) := by simp [sgn, hy]
    unfold add3
    rw [hx, hy, q, qx, qy, e, Bool.eq_iff_iff]
    simp only [Bool.and_self, Bool.true_and, bne_iff_ne, ne_eq, Bool.not_eq_true', inR_false]
    split <;> split <;> split <;> omega
theorem walk_FnAddBytes (v0 : Value) (w : World) (y0 : IsBytes w v0) : Calls Try.prog 11 #[v0] w fun e w' => e = .returned (.bool true) ∧ Below w.heap.size w w' := by
  have hY := Lib.hid y0
  obtain ⟨a, len, cap, zs, rfl, _⟩ := y0
  by_cases hl : (1048576 : Int) < (len : Int)
  · go_enter Try.func11, Try.ntmps11
    go_wp2_with fail
    go_ret
    exact ⟨rfl, Below.refl _ _⟩
  go_enter Try.func11, Try.ntmps11
  go_wp2_with fail
  refine (draw_AddBytes hY.out).mono ?_
  rintro e w1 ⟨v, rfl, ⟨x, y, c, rfl⟩, hB⟩
  cases hx : byteB x
  · have e1 : add1 x y c = 0 := by simp [add1, hx]
    have e2 : add2 x y c = false := by simp [add2, hx]
    have e3 : add3 x y c = false := by simp [add3, hx]
    go_wp2_with (first | (go_at_call 49; refine (spec_AddBytes _ _ _ _).mono ?_; rintro e w' ⟨rfl, rfl⟩; unfold addV) | (go_at_call 48; refine (impl_AddBytes _ _ _ _).mono ?_; rintro e w' ⟨rfl, rfl⟩; unfold addV) | (go_at_call 24; refine (laws_alive _).mono ?_; rintro e w' ⟨rfl, rfl⟩) | (go_at_call 31; refine (laws_isByte _ _).mono ?_; rintro e w' ⟨rfl, rfl⟩) | (go_at_call 29; refine (impl_SignedByte _ _).mono ?_; rintro e w' ⟨rfl, rfl⟩))
    go_ret
    exact ⟨rfl, hB⟩
  cases hy : byteB y
  · have e1 : add1 x y c = 0 := by simp [add1, hy]
    have e2 : add2 x y c = false := by simp [add2, hy]
    have e3 : add3 x y c = false := by simp [add3, hy]
    go_wp2_with (first | (go_at_call 49; refine (spec_AddBytes _ _ _ _).mono ?_; rintro e w' ⟨rfl, rfl⟩; unfold addV) | (go_at_call 48; refine (impl_AddBytes _ _ _ _).mono ?_; rintro e w' ⟨rfl, rfl⟩; unfold addV) | (go_at_call 24; refine (laws_alive _).mono ?_; rintro e w' ⟨rfl, rfl⟩) | (go_at_call 31; refine (laws_isByte _ _).mono ?_; rintro e w' ⟨rfl, rfl⟩) | (go_at_call 29; refine (impl_SignedByte _ _).mono ?_; rintro e w' ⟨rfl, rfl⟩))
    go_ret
    exact ⟨rfl, hB⟩
  obtain ⟨k1, k2, k3⟩ := add_comm3 x y c
  obtain ⟨f1, f2, f3⟩ := add_facts x y c hx hy
  obtain ⟨x1, x2⟩ := byteB_iff.1 hx
  obtain ⟨y1, y2⟩ := byteB_iff.1 hy
  obtain ⟨s1, s2⟩ := sgn_bd x
  obtain ⟨t1, t2⟩ := sgn_bd y
  have F3 := Lib.hid f3
  clear f3
  cases c
  · cases ho : add2 x y false
    all_goals
      rw [ho] at f2 k2
      simp only [bit, if_true, if_false, Bool.false_eq_true, Int.add_zero, Int.sub_zero] at f2
      rw [f2] at k1 f1 F3
      go_wp2_with (first | (go_at_call 49; refine (spec_AddBytes _ _ _ _).mono ?_; rintro e w' ⟨rfl, rfl⟩; unfold addV) | (go_at_call 48; refine (impl_AddBytes _ _ _ _).mono ?_; rintro e w' ⟨rfl, rfl⟩; unfold addV) | (go_at_call 24; refine (laws_alive _).mono ?_; rintro e w' ⟨rfl, rfl⟩) | (go_at_call 31; refine (laws_isByte _ _).mono ?_; rintro e w' ⟨rfl, rfl⟩) | (go_at_call 29; refine (impl_SignedByte _ _).mono ?_; rintro e w' ⟨rfl, rfl⟩))
      go_ret
      refine ⟨ret_bool ?_, hB⟩
      rw [F3.out, show sgn x + sgn y + (x + y) - x - y = sgn x + sgn y by omega]
      simp [bit]
  · cases ho : add2 x y true
    all_goals
      rw [ho] at f2 k2
      simp only [bit, if_true, if_false, Bool.false_eq_true, Int.sub_zero] at f2
      rw [f2] at k1 f1 F3
      go_wp2_with (first | (go_at_call 49; refine (spec_AddBytes _ _ _ _).mono ?_; rintro e w' ⟨rfl, rfl⟩; unfold addV) | (go_at_call 48; refine (impl_AddBytes _ _ _ _).mono ?_; rintro e w' ⟨rfl, rfl⟩; unfold addV) | (go_at_call 24; refine (laws_alive _).mono ?_; rintro e w' ⟨rfl, rfl⟩) | (go_at_call 31; refine (laws_isByte _ _).mono ?_; rintro e w' ⟨rfl, rfl⟩) | (go_at_call 29; refine (impl_SignedByte _ _).mono ?_; rintro e w' ⟨rfl, rfl⟩))
      go_ret
      refine ⟨ret_bool ?_, hB⟩
      rw [F3.out, show sgn x + sgn y + (x + y + 1) - x - y = sgn x + sgn y + 1 by omega]
      simp [bit]
set_option maxRecDepth 100000 in
theorem lifted_FnAddBytes (os : Os) (started : os.Started) (H : Type) (enc : TypeId × Value → H) :
    ReturnsInHanded {} Try.checked os 11 .any (Rows.fnAddBytesSpec.pre6 enc Try.prog Try.f11 Rows.fnAddBytesRow.domain false) (Rows.fnAddBytesSpec.post enc Try.prog Try.f11 false true false false) := by
  refine returnsInHanded_of_change (C := Try.checked) own started (by kernel_rfl) Try.func11
    (ChangeSpec.witness6 (enc := enc) (C := Try.checked) false ⟨#[], #[.slice none 0 0], []⟩ 8 (by kernel_rfl) (by kernel_rfl) (by kernel_rfl) (by kernel_rfl)) ?_
  intro W base args ds gs before hval0 hW hcnd _
  have hval : ∀ (j : Nat) t v, Try.f11.params[j]? = some t → args[j]? = some v → Value.okWide Try.prog W .any base t v := hval0
  have hW' := hW
  obtain ⟨p, q, hA0, hV, rfl, hfz, hnd⟩ := hW
  have hA : DataW.TrodAll enc Try.prog W 0 (fun _ => true) true Try.f11.params.toList args.toList ds p := hA0
  rw [Try.params11] at hA hval
  obtain ⟨v0, vs0, d0, ds0, p0, q0, hargs, rfl, rfl, h0, r0⟩ := trodAll_cons hA
  obtain ⟨rfl, rfl, rfl⟩ := trodAll_nil r0
  obtain rfl : args = #[v0] := by cases args; simp_all
  obtain ⟨rfl, rfl⟩ := trodVars_none hV
  have lt0 : ∀ x ∈ p0, x.block < W.heap.size := by obtain ⟨m, hm⟩ := h0; exact DataW.trod_lt m _ _ _ hm
  have y0 := read_bytes (hval 0 22 v0 rfl rfl) h0
  clear hA0 hval0
  refine (walk_FnAddBytes v0 W y0).mono fun e W' ⟨he, bel⟩ => ?_
  subst he
  exact ⟨_, rfl, _, _, _, [], _, [], hW', trodAll_mk1 (shut_bool Try.underlying4 _), (trodAll_cons_mk (Below.trod laidOut (by kernel_rfl) (of_decide_eq_true (by kernel_rfl)) h0 bel lt0) trodAll_mk0), rfl, bel.frame _, fun h => by cases h⟩
theorem closed_FnAddBytes : joinedFacts Try.prog 11 Try.f11 Rows.fnAddBytesSpec Rows.fnAddBytesRow = true := by
  unfold joinedFacts
  rw [shared.1, shared.2.1, shared.2.2.1, shared.2.2.2]
  kernel_rfl
/-- The given statement of FnAddBytes. -/
theorem FnAddBytes_holds : Rows.FnAddBytesSaid :=
  OpenClaim.holds_of_wide 11 Try.f11 rfl rfl rfl rfl rfl rfl rfl ⟨rfl, rfl, rfl, rfl, rfl⟩ rfl rfl rfl rfl rfl (by kernel_rfl) Try.func11 closed_FnAddBytes
    (of_decide_eq_true (by kernel_rfl)) (by unfold Func.isWrapper; first | (rw [if_pos (by decide +kernel)]; kernel_rfl) | (rw [if_neg (by decide +kernel)]; exact ⟨rfl, rfl⟩))
    (fun os started H enc _ => lifted_FnAddBytes os started H enc)

end Go.Proofs.Ytifhocjlfmeecaa
