/- The law FnAddChain: for every input it answers true, and changes nothing that was there. No condition. -/
import Derived.Test.YtifhocjlfmeecaaDrawByte
namespace Go.Proofs.Ytifhocjlfmeecaa
open Go.ChangeShapes Go.WideShapes Go.ChangeAt Go.RowKit
set_option linter.unusedVariables false

theorem chain (x y u v : Int) (hx : byteB x = true) (hy : byteB y = true) (hu : byteB u = true) (hv : byteB v = true) : add1 x y false + 256 * add1 u v (add2 x y false) = (x + 256 * u + y + 256 * v) % 65536 ∧ add2 u v (add2 x y false) = decide (65535 < x + 256 * u + y + 256 * v) := by
  obtain ⟨x1, x2⟩ := byteB_iff.1 hx
  obtain ⟨y1, y2⟩ := byteB_iff.1 hy
  obtain ⟨u1, u2⟩ := byteB_iff.1 hu
  obtain ⟨v1, v2⟩ := byteB_iff.1 hv
  unfold add1 add2
  rw [hx, hy, hu, hv]
  by_cases h : 255 < x + y + bit false
  · simp only [bit, Bool.and_self, Bool.true_and, if_true, if_false, Bool.false_eq_true, decide_eq_true_eq, Int.add_zero, decide_eq_decide] at h ⊢
    rw [if_pos h]
    omega
  · simp only [bit, Bool.and_self, Bool.true_and, if_true, if_false, Bool.false_eq_true, decide_eq_true_eq, Int.add_zero, decide_eq_decide] at h ⊢
    rw [if_neg h]
    omega
set_option maxHeartbeats 1000000 in
theorem walk_FnAddChain (v0 v1 : Value) (w : World) (y0 : IsBytes w v0) (y1 : IsBytes w v1) : Calls Try.prog 12 #[v0, v1] w fun e w' => e = .returned (.bool true) ∧ Below w.heap.size w w' := by
  have hY := Lib.hid y0
  have hZ := Lib.hid y1
  obtain ⟨a, len, cap, zs, rfl, _, _, _⟩ := y0
  obtain ⟨a', len', cap', zs', rfl, _, _, _⟩ := y1
  by_cases hl : (1048576 : Int) < (len : Int)
  · go_enter Try.func12, Try.ntmps12
    go_wp2_with fail
    go_ret
    exact ⟨rfl, Below.refl _ _⟩
  by_cases hl' : (1048576 : Int) < (len' : Int)
  · go_enter Try.func12, Try.ntmps12
    go_wp2_with fail
    go_ret
    exact ⟨rfl, Below.refl _ _⟩
  go_enter Try.func12, Try.ntmps12
  go_wp2_with fail
  refine (draw_AddBytes hY.out).mono ?_
  rintro e w1 ⟨v, rfl, ⟨x, y, c, rfl⟩, hB⟩
  go_wp2_with fail
  refine (draw_AddBytes (hZ.out.below hB)).mono ?_
  rintro e w2 ⟨v, rfl, ⟨u, z, d, rfl⟩, hB2⟩
  have hb : Below w.heap.size w w2 := hB.trans (hB2.mono hB.size)
  cases hx : byteB x
  · go_wp2_with (first | (go_at_call 49; refine (spec_AddBytes _ _ _ _).mono ?_; rintro e w' ⟨rfl, rfl⟩; unfold addV) | (go_at_call 48; refine (impl_AddBytes _ _ _ _).mono ?_; rintro e w' ⟨rfl, rfl⟩; unfold addV) | (go_at_call 24; refine (laws_alive _).mono ?_; rintro e w' ⟨rfl, rfl⟩) | (go_at_call 31; refine (laws_isByte _ _).mono ?_; rintro e w' ⟨rfl, rfl⟩))
    go_ret
    exact ⟨rfl, hb⟩
  cases hy : byteB y
  · go_wp2_with (first | (go_at_call 49; refine (spec_AddBytes _ _ _ _).mono ?_; rintro e w' ⟨rfl, rfl⟩; unfold addV) | (go_at_call 48; refine (impl_AddBytes _ _ _ _).mono ?_; rintro e w' ⟨rfl, rfl⟩; unfold addV) | (go_at_call 24; refine (laws_alive _).mono ?_; rintro e w' ⟨rfl, rfl⟩) | (go_at_call 31; refine (laws_isByte _ _).mono ?_; rintro e w' ⟨rfl, rfl⟩))
    go_ret
    exact ⟨rfl, hb⟩
  cases hu : byteB u
  · go_wp2_with (first | (go_at_call 49; refine (spec_AddBytes _ _ _ _).mono ?_; rintro e w' ⟨rfl, rfl⟩; unfold addV) | (go_at_call 48; refine (impl_AddBytes _ _ _ _).mono ?_; rintro e w' ⟨rfl, rfl⟩; unfold addV) | (go_at_call 24; refine (laws_alive _).mono ?_; rintro e w' ⟨rfl, rfl⟩) | (go_at_call 31; refine (laws_isByte _ _).mono ?_; rintro e w' ⟨rfl, rfl⟩))
    go_ret
    exact ⟨rfl, hb⟩
  cases hz : byteB z
  · go_wp2_with (first | (go_at_call 49; refine (spec_AddBytes _ _ _ _).mono ?_; rintro e w' ⟨rfl, rfl⟩; unfold addV) | (go_at_call 48; refine (impl_AddBytes _ _ _ _).mono ?_; rintro e w' ⟨rfl, rfl⟩; unfold addV) | (go_at_call 24; refine (laws_alive _).mono ?_; rintro e w' ⟨rfl, rfl⟩) | (go_at_call 31; refine (laws_isByte _ _).mono ?_; rintro e w' ⟨rfl, rfl⟩))
    go_ret
    exact ⟨rfl, hb⟩
  obtain ⟨E1, E2⟩ := chain x y u z hx hy hu hz
  obtain ⟨x1, x2⟩ := byteB_iff.1 hx
  obtain ⟨y1, y2⟩ := byteB_iff.1 hy
  obtain ⟨u1, u2⟩ := byteB_iff.1 hu
  obtain ⟨z1, z2⟩ := byteB_iff.1 hz
  have b1 : 0 ≤ add1 x y false ∧ add1 x y false ≤ 255 := by
    unfold add1; rw [hx, hy]; simp only [Bool.and_self, if_true]; omega
  have b2 : 0 ≤ add1 u z (add2 x y false) ∧ add1 u z (add2 x y false) ≤ 255 := by
    unfold add1; rw [hu, hz]; simp only [Bool.and_self, if_true]; omega
  obtain ⟨b3, b4⟩ := b1
  obtain ⟨b5, b6⟩ := b2
  have H1 := Lib.hid E1
  have H2 := Lib.hid E2
  clear E1 E2
  go_wp2_with (first | (go_at_call 49; refine (spec_AddBytes _ _ _ _).mono ?_; rintro e w' ⟨rfl, rfl⟩; unfold addV) | (go_at_call 48; refine (impl_AddBytes _ _ _ _).mono ?_; rintro e w' ⟨rfl, rfl⟩; unfold addV) | (go_at_call 24; refine (laws_alive _).mono ?_; rintro e w' ⟨rfl, rfl⟩) | (go_at_call 31; refine (laws_isByte _ _).mono ?_; rintro e w' ⟨rfl, rfl⟩))
  go_ret
  refine ⟨ret_bool ?_, hb⟩
  rw [H2.out]
  simp
set_option maxRecDepth 100000 in
theorem lifted_FnAddChain (os : Os) (started : os.Started) (H : Type) (enc : TypeId × Value → H) :
    ReturnsInHanded {} Try.checked os 12 .any (Rows.fnAddChainSpec.pre6 enc Try.prog Try.f12 Rows.fnAddChainRow.domain false) (Rows.fnAddChainSpec.post enc Try.prog Try.f12 false true false false) := by
  refine returnsInHanded_of_change (C := Try.checked) own started (by kernel_rfl) Try.func12
    (ChangeSpec.witness6 (enc := enc) (C := Try.checked) false ⟨#[], #[.slice none 0 0, .slice none 0 0], []⟩ 8 (by kernel_rfl) (by kernel_rfl) (by kernel_rfl) (by kernel_rfl)) ?_
  intro W base args ds gs before hval0 hW hcnd _
  have hval : ∀ (j : Nat) t v, Try.f12.params[j]? = some t → args[j]? = some v → Value.okWide Try.prog W .any base t v := hval0
  have hW' := hW
  obtain ⟨p, q, hA0, hV, rfl, hfz, hnd⟩ := hW
  have hA : DataW.TrodAll enc Try.prog W 0 (fun _ => true) true Try.f12.params.toList args.toList ds p := hA0
  rw [Try.params12] at hA hval
  obtain ⟨v0, vs0, d0, ds0, p0, q0, hargs, rfl, rfl, h0, r0⟩ := trodAll_cons hA
  obtain ⟨v1, vs1, d1, ds1, p1, q1, rfl, rfl, rfl, h1, r1⟩ := trodAll_cons r0
  obtain ⟨rfl, rfl, rfl⟩ := trodAll_nil r1
  obtain rfl : args = #[v0, v1] := by cases args; simp_all
  obtain ⟨rfl, rfl⟩ := trodVars_none hV
  have lt0 : ∀ x ∈ p0, x.block < W.heap.size := by obtain ⟨m, hm⟩ := h0; exact DataW.trod_lt m _ _ _ hm
  have y0 := read_bytes (hval 0 22 v0 rfl rfl) h0
  have lt1 : ∀ x ∈ p1, x.block < W.heap.size := by obtain ⟨m, hm⟩ := h1; exact DataW.trod_lt m _ _ _ hm
  have y1 := read_bytes (hval 1 22 v1 rfl rfl) h1
  clear hA0 hval0
  refine (walk_FnAddChain v0 v1 W y0 y1).mono fun e W' ⟨he, bel⟩ => ?_
  subst he
  exact ⟨_, rfl, _, _, _, [], _, [], hW', trodAll_mk1 (shut_bool Try.underlying4 _), (trodAll_cons_mk (Below.trod laidOut (by kernel_rfl) (of_decide_eq_true (by kernel_rfl)) h0 bel lt0) (trodAll_cons_mk (Below.trod laidOut (by kernel_rfl) (of_decide_eq_true (by kernel_rfl)) h1 bel lt1) trodAll_mk0)), rfl, bel.frame _, fun h => by cases h⟩
theorem closed_FnAddChain : joinedFacts Try.prog 12 Try.f12 Rows.fnAddChainSpec Rows.fnAddChainRow = true := by
  unfold joinedFacts
  rw [shared.1, shared.2.1, shared.2.2.1, shared.2.2.2]
  kernel_rfl
/-- The given statement of FnAddChain. -/
theorem FnAddChain_holds : Rows.FnAddChainSaid :=
  OpenClaim.holds_of_wide 12 Try.f12 rfl rfl rfl rfl rfl rfl rfl ⟨rfl, rfl, rfl, rfl, rfl⟩ rfl rfl rfl rfl rfl (by kernel_rfl) Try.func12 closed_FnAddChain
    (of_decide_eq_true (by kernel_rfl)) (by unfold Func.isWrapper; first | (rw [if_pos (by decide +kernel)]; kernel_rfl) | (rw [if_neg (by decide +kernel)]; exact ⟨rfl, rfl⟩))
    (fun os started H enc _ => lifted_FnAddChain os started H enc)

end Go.Proofs.Ytifhocjlfmeecaa
