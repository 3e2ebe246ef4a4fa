/- The law FnRotateRight: for every input it answers true, and changes nothing that was there. No condition. -/
import Derived.Test.YtifhocjlfmeecaaDrawByte
namespace Go.Proofs.Ytifhocjlfmeecaa
open Go.ChangeShapes Go.WideShapes Go.ChangeAt Go.RowKit
set_option linter.unusedVariables false

theorem rot_undo' (x : Int) (c : Bool) (h1 : 0 ≤ x) (h2 : x ≤ 255) : byteB (rotr1 x c) = true ∧ rotl1 (rotr1 x c) (rotr2 x c) = x ∧ rotl2 (rotr1 x c) (rotr2 x c) = c ∧ ones (rotr1 x c) + bit (rotr2 x c) = ones x + bit c := by
  obtain ⟨n, rfl⟩ := Int.eq_ofNat_of_zero_le h1
  have all : ∀ (j : Fin 256) (c : Bool), byteB (rotr1 (j.val : Int) c) = true ∧ rotl1 (rotr1 (j.val : Int) c) (rotr2 (j.val : Int) c) = (j.val : Int) ∧ rotl2 (rotr1 (j.val : Int) c) (rotr2 (j.val : Int) c) = c ∧ ones (rotr1 (j.val : Int) c) + bit (rotr2 (j.val : Int) c) = ones (j.val : Int) + bit c := by decide +kernel
  exact all ⟨n, by omega⟩ c
theorem ones_bd' (x : Int) : 0 ≤ ones x ∧ ones x ≤ 8 := by
  unfold ones pop8
  split <;> omega
theorem walk_FnRotateRight (v0 : Value) (w : World) (y0 : IsBytes w v0) : Calls Try.prog 15 #[v0] w fun e w' => e = .returned (.bool true) ∧ Below w.heap.size w w' := by
  have hY := Lib.hid y0
  obtain ⟨a, len, cap, zs, rfl, _⟩ := y0
  by_cases hl : (1048576 : Int) < (len : Int)
  · go_enter Try.func15, Try.ntmps15
    go_wp2_with fail
    go_ret
    exact ⟨rfl, Below.refl _ _⟩
  go_enter Try.func15, Try.ntmps15
  go_wp2_with fail
  refine (draw_RotateRight hY.out).mono ?_
  rintro e w1 ⟨v, rfl, ⟨x, c, rfl⟩, hB⟩
  cases hb : byteB x
  · have e1 : rotr1 x c = 0 := by simp [rotr1, hb]
    have e2 : rotr2 x c = false := by simp [rotr2, hb]
    go_wp2_with (first | (go_at_call 57; refine (spec_RotateRight _ _ _).mono ?_; rintro e w' ⟨rfl, rfl⟩; unfold rotrV) | (go_at_call 39; refine (impl_RotateRight _ _ _).mono ?_; rintro e w' ⟨rfl, rfl⟩; unfold rotrV) | (go_at_call 24; refine (laws_alive _).mono ?_; rintro e w' ⟨rfl, rfl⟩) | (go_at_call 31; refine (laws_isByte _ _).mono ?_; rintro e w' ⟨rfl, rfl⟩))
    go_ret
    exact ⟨rfl, hB⟩
  obtain ⟨h1, h2⟩ := byteB_iff.1 hb
  obtain ⟨u1, u2, u3, u4⟩ := rot_undo' x c h1 h2
  obtain ⟨o1, o2⟩ := ones_bd' x
  obtain ⟨o3, o4⟩ := ones_bd' (rotr1 x c)
  cases c
  · cases hr : rotr2 x false
    all_goals
      rw [hr] at u2 u3 u4
      simp only [bit, if_true, if_false, Bool.false_eq_true] at u4
      have u5 : ones x = ones (rotr1 x false) + bit (rotr2 x false) := by rw [hr]; simp only [bit, if_true, if_false, Bool.false_eq_true]; omega
      clear u4
      rw [hr] at u5
      simp only [bit, if_true, if_false, Bool.false_eq_true, Int.add_zero] at u5
      go_wp2_with (first | (go_at_call 57; refine (spec_RotateRight _ _ _).mono ?_; rintro e w' ⟨rfl, rfl⟩; unfold rotrV) | (go_at_call 39; refine (impl_RotateRight _ _ _).mono ?_; rintro e w' ⟨rfl, rfl⟩; unfold rotrV) | (go_at_call 37; refine (impl_RotateLeft _ _ _).mono ?_; rintro e w' ⟨rfl, rfl⟩; unfold rotlV) | (go_at_call 24; refine (laws_alive _).mono ?_; rintro e w' ⟨rfl, rfl⟩) | (go_at_call 31; refine (laws_isByte _ _).mono ?_; rintro e w' ⟨rfl, rfl⟩) | (go_at_call 33; refine (impl_CountOnes _ _).mono ?_; rintro e w' ⟨rfl, rfl⟩))
      go_ret
      exact ⟨rfl, hB⟩
  · cases hr : rotr2 x true
    all_goals
      rw [hr] at u2 u3 u4
      have u5 : ones x = ones (rotr1 x true) + bit (rotr2 x true) - 1 := by rw [hr]; simp only [bit, if_true, if_false, Bool.false_eq_true] at u4 ⊢; omega
      clear u4
      rw [hr] at u5
      simp only [bit, if_true, if_false, Bool.false_eq_true, Int.add_zero, Int.add_sub_cancel] at u5
      go_wp2_with (first | (go_at_call 57; refine (spec_RotateRight _ _ _).mono ?_; rintro e w' ⟨rfl, rfl⟩; unfold rotrV) | (go_at_call 39; refine (impl_RotateRight _ _ _).mono ?_; rintro e w' ⟨rfl, rfl⟩; unfold rotrV) | (go_at_call 37; refine (impl_RotateLeft _ _ _).mono ?_; rintro e w' ⟨rfl, rfl⟩; unfold rotlV) | (go_at_call 24; refine (laws_alive _).mono ?_; rintro e w' ⟨rfl, rfl⟩) | (go_at_call 31; refine (laws_isByte _ _).mono ?_; rintro e w' ⟨rfl, rfl⟩) | (go_at_call 33; refine (impl_CountOnes _ _).mono ?_; rintro e w' ⟨rfl, rfl⟩))
      go_ret
      exact ⟨rfl, hB⟩
set_option maxRecDepth 100000 in
theorem lifted_FnRotateRight (os : Os) (started : os.Started) (H : Type) (enc : TypeId × Value → H) :
    ReturnsInHanded {} Try.checked os 15 .any (Rows.fnRotateRightSpec.pre6 enc Try.prog Try.f15 Rows.fnRotateRightRow.domain false) (Rows.fnRotateRightSpec.post enc Try.prog Try.f15 false true false false) := by
  refine returnsInHanded_of_change (C := Try.checked) own started (by kernel_rfl) Try.func15
    (ChangeSpec.witness6 (enc := enc) (C := Try.checked) false ⟨#[], #[.slice none 0 0], []⟩ 8 (by kernel_rfl) (by kernel_rfl) (by kernel_rfl) (by kernel_rfl)) ?_
  intro W base args ds gs before hval0 hW hcnd _
  have hval : ∀ (j : Nat) t v, Try.f15.params[j]? = some t → args[j]? = some v → Value.okWide Try.prog W .any base t v := hval0
  have hW' := hW
  obtain ⟨p, q, hA0, hV, rfl, hfz, hnd⟩ := hW
  have hA : DataW.TrodAll enc Try.prog W 0 (fun _ => true) true Try.f15.params.toList args.toList ds p := hA0
  rw [Try.params15] at hA hval
  obtain ⟨v0, vs0, d0, ds0, p0, q0, hargs, rfl, rfl, h0, r0⟩ := trodAll_cons hA
  obtain ⟨rfl, rfl, rfl⟩ := trodAll_nil r0
  obtain rfl : args = #[v0] := by cases args; simp_all
  obtain ⟨rfl, rfl⟩ := trodVars_none hV
  have lt0 : ∀ x ∈ p0, x.block < W.heap.size := by obtain ⟨m, hm⟩ := h0; exact DataW.trod_lt m _ _ _ hm
  have y0 := read_bytes (hval 0 22 v0 rfl rfl) h0
  clear hA0 hval0
  refine (walk_FnRotateRight v0 W y0).mono fun e W' ⟨he, bel⟩ => ?_
  subst he
  exact ⟨_, rfl, _, _, _, [], _, [], hW', trodAll_mk1 (shut_bool Try.underlying4 _), (trodAll_cons_mk (Below.trod laidOut (by kernel_rfl) (of_decide_eq_true (by kernel_rfl)) h0 bel lt0) trodAll_mk0), rfl, bel.frame _, fun h => by cases h⟩
theorem closed_FnRotateRight : joinedFacts Try.prog 15 Try.f15 Rows.fnRotateRightSpec Rows.fnRotateRightRow = true := by
  unfold joinedFacts
  rw [shared.1, shared.2.1, shared.2.2.1, shared.2.2.2]
  kernel_rfl
/-- The given statement of FnRotateRight. -/
theorem FnRotateRight_holds : Rows.FnRotateRightSaid :=
  OpenClaim.holds_of_wide 15 Try.f15 rfl rfl rfl rfl rfl rfl rfl ⟨rfl, rfl, rfl, rfl, rfl⟩ rfl rfl rfl rfl rfl (by kernel_rfl) Try.func15 closed_FnRotateRight
    (of_decide_eq_true (by kernel_rfl)) (by unfold Func.isWrapper; first | (rw [if_pos (by decide +kernel)]; kernel_rfl) | (rw [if_neg (by decide +kernel)]; exact ⟨rfl, rfl⟩))
    (fun os started H enc _ => lifted_FnRotateRight os started H enc)

end Go.Proofs.Ytifhocjlfmeecaa
