/- The law FnSubBytes: for every input it answers true, and changes nothing that was there. No condition. -/
import Derived.Test.YtifhocjlfmeecaaDrawByte
namespace Go.Proofs.Ytifhocjlfmeecaa
open Go.ChangeShapes Go.WideShapes Go.ChangeAt Go.RowKit
set_option linter.unusedVariables false

theorem sub_add (x y : Int) (c : Bool) (h : (byteB x && byteB y) = true) : byteB (sub1 x y c) = true ∧ add1 (sub1 x y c) y c = x ∧ add2 (sub1 x y c) y c = sub2 x y c := by
  simp only [Bool.and_eq_true] at h
  obtain ⟨hx, hy⟩ := h
  obtain ⟨x1, x2⟩ := byteB_iff.1 hx
  obtain ⟨y1, y2⟩ := byteB_iff.1 hy
  obtain ⟨c1, c2⟩ := bit_bd c
  have e : sub1 x y c = (x - y - bit c + 256) % 256 := by simp [sub1, hx, hy]
  have hs : byteB (sub1 x y c) = true := by rw [e]; exact byteB_iff.2 ⟨by omega, by omega⟩
  refine ⟨hs, ?_, ?_⟩
  · unfold add1
    rw [hs, hy, e]
    simp only [Bool.and_self, if_true]
    omega
  · unfold add2 sub2
    rw [hs, hx, hy, e]
    simp only [Bool.and_self, Bool.true_and]
    rw [decide_eq_decide]
    omega
theorem walk_FnSubBytes (v0 : Value) (w : World) (y0 : IsBytes w v0) : Calls Try.prog 13 #[v0] w fun e w' => e = .returned (.bool true) ∧ Below w.heap.size w w' := by
  have hY := Lib.hid y0
  obtain ⟨a, len, cap, zs, rfl, _⟩ := y0
  by_cases hl : (1048576 : Int) < (len : Int)
  · go_enter Try.func13, Try.ntmps13
    go_wp2_with fail
    go_ret
    exact ⟨rfl, Below.refl _ _⟩
  go_enter Try.func13, Try.ntmps13
  go_wp2_with fail
  refine (draw_SubBytes hY.out).mono ?_
  rintro e w1 ⟨v, rfl, ⟨x, y, c, rfl⟩, hB⟩
  cases hb : byteB x && byteB y
  · have e1 : sub1 x y c = 0 := by simp [sub1, hb]
    have e2 : sub2 x y c = false := by simp [sub2, hb]
    cases hx : byteB x
    · go_wp2_with (first | (go_at_call 52; refine (spec_SubBytes _ _ _ _).mono ?_; rintro e w' ⟨rfl, rfl⟩; unfold subV) | (go_at_call 51; refine (impl_SubBytes _ _ _ _).mono ?_; rintro e w' ⟨rfl, rfl⟩; unfold subV) | (go_at_call 48; refine (impl_AddBytes _ _ _ _).mono ?_; rintro e w' ⟨rfl, rfl⟩; unfold addV) | (go_at_call 24; refine (laws_alive _).mono ?_; rintro e w' ⟨rfl, rfl⟩) | (go_at_call 31; refine (laws_isByte _ _).mono ?_; rintro e w' ⟨rfl, rfl⟩))
      go_ret
      exact ⟨rfl, hB⟩
    · have hy : byteB y = false := by simpa [hx] using hb
      go_wp2_with (first | (go_at_call 52; refine (spec_SubBytes _ _ _ _).mono ?_; rintro e w' ⟨rfl, rfl⟩; unfold subV) | (go_at_call 51; refine (impl_SubBytes _ _ _ _).mono ?_; rintro e w' ⟨rfl, rfl⟩; unfold subV) | (go_at_call 48; refine (impl_AddBytes _ _ _ _).mono ?_; rintro e w' ⟨rfl, rfl⟩; unfold addV) | (go_at_call 24; refine (laws_alive _).mono ?_; rintro e w' ⟨rfl, rfl⟩) | (go_at_call 31; refine (laws_isByte _ _).mono ?_; rintro e w' ⟨rfl, rfl⟩))
      go_ret
      exact ⟨rfl, hB⟩
  · obtain ⟨u1, u2, u3⟩ := sub_add x y c hb
    simp only [Bool.and_eq_true] at hb
    obtain ⟨hx, hy⟩ := hb
    go_wp2_with (first | (go_at_call 52; refine (spec_SubBytes _ _ _ _).mono ?_; rintro e w' ⟨rfl, rfl⟩; unfold subV) | (go_at_call 51; refine (impl_SubBytes _ _ _ _).mono ?_; rintro e w' ⟨rfl, rfl⟩; unfold subV) | (go_at_call 48; refine (impl_AddBytes _ _ _ _).mono ?_; rintro e w' ⟨rfl, rfl⟩; unfold addV) | (go_at_call 24; refine (laws_alive _).mono ?_; rintro e w' ⟨rfl, rfl⟩) | (go_at_call 31; refine (laws_isByte _ _).mono ?_; rintro e w' ⟨rfl, rfl⟩))
    go_ret
    exact ⟨rfl, hB⟩
set_option maxRecDepth 100000 in
theorem lifted_FnSubBytes (os : Os) (started : os.Started) (H : Type) (enc : TypeId × Value → H) :
    ReturnsInHanded {} Try.checked os 13 .any (Rows.fnSubBytesSpec.pre6 enc Try.prog Try.f13 Rows.fnSubBytesRow.domain false) (Rows.fnSubBytesSpec.post enc Try.prog Try.f13 false true false false) := by
  refine returnsInHanded_of_change (C := Try.checked) own started (by kernel_rfl) Try.func13
    (ChangeSpec.witness6 (enc := enc) (C := Try.checked) false ⟨#[], #[.slice none 0 0], []⟩ 8 (by kernel_rfl) (by kernel_rfl) (by kernel_rfl) (by kernel_rfl)) ?_
  intro W base args ds gs before hval0 hW hcnd _
  have hval : ∀ (j : Nat) t v, Try.f13.params[j]? = some t → args[j]? = some v → Value.okWide Try.prog W .any base t v := hval0
  have hW' := hW
  obtain ⟨p, q, hA0, hV, rfl, hfz, hnd⟩ := hW
  have hA : DataW.TrodAll enc Try.prog W 0 (fun _ => true) true Try.f13.params.toList args.toList ds p := hA0
  rw [Try.params13] at hA hval
  obtain ⟨v0, vs0, d0, ds0, p0, q0, hargs, rfl, rfl, h0, r0⟩ := trodAll_cons hA
  obtain ⟨rfl, rfl, rfl⟩ := trodAll_nil r0
  obtain rfl : args = #[v0] := by cases args; simp_all
  obtain ⟨rfl, rfl⟩ := trodVars_none hV
  have lt0 : ∀ x ∈ p0, x.block < W.heap.size := by obtain ⟨m, hm⟩ := h0; exact DataW.trod_lt m _ _ _ hm
  have y0 := read_bytes (hval 0 22 v0 rfl rfl) h0
  clear hA0 hval0
  refine (walk_FnSubBytes v0 W y0).mono fun e W' ⟨he, bel⟩ => ?_
  subst he
  exact ⟨_, rfl, _, _, _, [], _, [], hW', trodAll_mk1 (shut_bool Try.underlying4 _), (trodAll_cons_mk (Below.trod laidOut (by kernel_rfl) (of_decide_eq_true (by kernel_rfl)) h0 bel lt0) trodAll_mk0), rfl, bel.frame _, fun h => by cases h⟩
theorem closed_FnSubBytes : joinedFacts Try.prog 13 Try.f13 Rows.fnSubBytesSpec Rows.fnSubBytesRow = true := by
  unfold joinedFacts
  rw [shared.1, shared.2.1, shared.2.2.1, shared.2.2.2]
  kernel_rfl
/-- The given statement of FnSubBytes. -/
theorem FnSubBytes_holds : Rows.FnSubBytesSaid :=
  OpenClaim.holds_of_wide 13 Try.f13 rfl rfl rfl rfl rfl rfl rfl ⟨rfl, rfl, rfl, rfl, rfl⟩ rfl rfl rfl rfl rfl (by kernel_rfl) Try.func13 closed_FnSubBytes
    (of_decide_eq_true (by kernel_rfl)) (by unfold Func.isWrapper; first | (rw [if_pos (by decide +kernel)]; kernel_rfl) | (rw [if_neg (by decide +kernel)]; exact ⟨rfl, rfl⟩))
    (fun os started H enc _ => lifted_FnSubBytes os started H enc)

end Go.Proofs.Ytifhocjlfmeecaa
