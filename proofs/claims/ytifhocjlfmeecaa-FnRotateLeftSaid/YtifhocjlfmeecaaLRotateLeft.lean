/- The law FnRotateLeft: for every input it answers true, and changes nothing that was there. No condition. -/
import Derived.Test.YtifhocjlfmeecaaDrawByte
namespace Go.Proofs.Ytifhocjlfmeecaa
open Go.ChangeShapes Go.WideShapes Go.ChangeAt Go.RowKit
set_option linter.unusedVariables false

theorem rot_undo (x : Int) (c : Bool) (h1 : 0 ≤ x) (h2 : x ≤ 255) : byteB (rotl1 x c) = true ∧ rotr1 (rotl1 x c) (rotl2 x c) = x ∧ rotr2 (rotl1 x c) (rotl2 x c) = c ∧ byteB (rotr1 x c) = true ∧ rotl1 (rotr1 x c) (rotr2 x c) = x ∧ rotl2 (rotr1 x c) (rotr2 x c) = c ∧ ones (rotr1 x c) + bit (rotr2 x c) = ones x + bit c := by
  obtain ⟨n, rfl⟩ := Int.eq_ofNat_of_zero_le h1
  have all : ∀ (j : Fin 256) (c : Bool), byteB (rotl1 (j.val : Int) c) = true ∧ rotr1 (rotl1 (j.val : Int) c) (rotl2 (j.val : Int) c) = (j.val : Int) ∧ rotr2 (rotl1 (j.val : Int) c) (rotl2 (j.val : Int) c) = c ∧ byteB (rotr1 (j.val : Int) c) = true ∧ rotl1 (rotr1 (j.val : Int) c) (rotr2 (j.val : Int) c) = (j.val : Int) ∧ rotl2 (rotr1 (j.val : Int) c) (rotr2 (j.val : Int) c) = c ∧ ones (rotr1 (j.val : Int) c) + bit (rotr2 (j.val : Int) c) = ones (j.val : Int) + bit c := by decide +kernel
  exact all ⟨n, by omega⟩ c
def rotP (p : Int × Bool) : Int × Bool := (rotl1 p.1 p.2, rotl2 p.1 p.2)
def rotN : Nat → Int × Bool → Int × Bool | 0, p => p | n + 1, p => rotP (rotN n p)
theorem rot_nine (x : Int) (c : Bool) (h1 : 0 ≤ x) (h2 : x ≤ 255) : rotN 9 (x, c) = (x, c) := by
  obtain ⟨n, rfl⟩ := Int.eq_ofNat_of_zero_le h1
  have all : ∀ (j : Fin 256) (c : Bool), rotN 9 ((j.val : Int), c) = ((j.val : Int), c) := by decide +kernel
  exact all ⟨n, by omega⟩ c
theorem walk_FnRotateLeft (v0 : Value) (w : World) (y0 : IsBytes w v0) : Calls Try.prog 8 #[v0] w fun e w' => e = .returned (.bool true) ∧ Below w.heap.size w w' := by
  have hY := Lib.hid y0
  obtain ⟨a, len, cap, zs, rfl, _⟩ := y0
  by_cases hl : (1048576 : Int) < (len : Int)
  · go_enter Try.func8, Try.ntmps8
    go_wp2_with fail
    go_ret
    exact ⟨rfl, Below.refl _ _⟩
  go_enter Try.func8, Try.ntmps8
  go_wp2_with fail
  refine (draw_RotateLeft hY.out).mono ?_
  rintro e w1 ⟨v, rfl, ⟨x, c, rfl⟩, hB⟩
  cases hb : byteB x
  · have e1 : rotl1 x c = 0 := by simp [rotl1, hb]
    have e2 : rotl2 x c = false := by simp [rotl2, hb]
    go_wp2_with (first | (go_at_call 38; refine (spec_RotateLeft _ _ _).mono ?_; rintro e w' ⟨rfl, rfl⟩; unfold rotlV) | (go_at_call 37; refine (impl_RotateLeft _ _ _).mono ?_; rintro e w' ⟨rfl, rfl⟩; unfold rotlV) | (go_at_call 24; refine (laws_alive _).mono ?_; rintro e w' ⟨rfl, rfl⟩) | (go_at_call 31; refine (laws_isByte _ _).mono ?_; rintro e w' ⟨rfl, rfl⟩))
    go_ret
    exact ⟨rfl, hB⟩
  obtain ⟨h1, h2⟩ := byteB_iff.1 hb
  obtain ⟨u1, u2, u3, _⟩ := rot_undo x c h1 h2
  have H9 := rot_nine x c h1 h2
  simp only [rotN, rotP, Prod.mk.injEq] at H9
  obtain ⟨n1, n2⟩ := H9
  go_wp2_with (first | (go_at_call 38; refine (spec_RotateLeft _ _ _).mono ?_; rintro e w' ⟨rfl, rfl⟩; unfold rotlV) | (go_at_call 37; refine (impl_RotateLeft _ _ _).mono ?_; rintro e w' ⟨rfl, rfl⟩; unfold rotlV) | (go_at_call 39; refine (impl_RotateRight _ _ _).mono ?_; rintro e w' ⟨rfl, rfl⟩; unfold rotrV) | (go_at_call 24; refine (laws_alive _).mono ?_; rintro e w' ⟨rfl, rfl⟩) | (go_at_call 31; refine (laws_isByte _ _).mono ?_; rintro e w' ⟨rfl, rfl⟩))
  refine wp_loop_rounds 10 ?_
  repeat any_goals (rw [rounds_succ]; go_wp2_with (first | (go_at_call 37; refine (impl_RotateLeft _ _ _).mono ?_; rintro e w' ⟨rfl, rfl⟩; unfold rotlV) | (go_at_call 24; refine (laws_alive _).mono ?_; rintro e w' ⟨rfl, rfl⟩) | (go_at_call 31; refine (laws_isByte _ _).mono ?_; rintro e w' ⟨rfl, rfl⟩)))
  go_ret
  exact ⟨rfl, hB⟩
set_option maxRecDepth 100000 in
theorem lifted_FnRotateLeft (os : Os) (started : os.Started) (H : Type) (enc : TypeId × Value → H) :
    ReturnsInHanded {} Try.checked os 8 .any (Rows.fnRotateLeftSpec.pre6 enc Try.prog Try.f8 Rows.fnRotateLeftRow.domain false) (Rows.fnRotateLeftSpec.post enc Try.prog Try.f8 false true false false) := by
  refine returnsInHanded_of_change (C := Try.checked) own started (by kernel_rfl) Try.func8
    (ChangeSpec.witness6 (enc := enc) (C := Try.checked) false ⟨#[], #[.slice none 0 0], []⟩ 8 (by kernel_rfl) (by kernel_rfl) (by kernel_rfl) (by kernel_rfl)) ?_
  intro W base args ds gs before hval0 hW hcnd _
  have hval : ∀ (j : Nat) t v, Try.f8.params[j]? = some t → args[j]? = some v → Value.okWide Try.prog W .any base t v := hval0
  have hW' := hW
  obtain ⟨p, q, hA0, hV, rfl, hfz, hnd⟩ := hW
  have hA : DataW.TrodAll enc Try.prog W 0 (fun _ => true) true Try.f8.params.toList args.toList ds p := hA0
  rw [Try.params8] at hA hval
  obtain ⟨v0, vs0, d0, ds0, p0, q0, hargs, rfl, rfl, h0, r0⟩ := trodAll_cons hA
  obtain ⟨rfl, rfl, rfl⟩ := trodAll_nil r0
  obtain rfl : args = #[v0] := by cases args; simp_all
  obtain ⟨rfl, rfl⟩ := trodVars_none hV
  have lt0 : ∀ x ∈ p0, x.block < W.heap.size := by obtain ⟨m, hm⟩ := h0; exact DataW.trod_lt m _ _ _ hm
  have y0 := read_bytes (hval 0 22 v0 rfl rfl) h0
  clear hA0 hval0
  refine (walk_FnRotateLeft v0 W y0).mono fun e W' ⟨he, bel⟩ => ?_
  subst he
  exact ⟨_, rfl, _, _, _, [], _, [], hW', trodAll_mk1 (shut_bool Try.underlying4 _), (trodAll_cons_mk (Below.trod laidOut (by kernel_rfl) (of_decide_eq_true (by kernel_rfl)) h0 bel lt0) trodAll_mk0), rfl, bel.frame _, fun h => by cases h⟩
theorem closed_FnRotateLeft : joinedFacts Try.prog 8 Try.f8 Rows.fnRotateLeftSpec Rows.fnRotateLeftRow = true := by
  unfold joinedFacts
  rw [shared.1, shared.2.1, shared.2.2.1, shared.2.2.2]
  kernel_rfl
/-- The given statement of FnRotateLeft. -/
theorem FnRotateLeft_holds : Rows.FnRotateLeftSaid :=
  OpenClaim.holds_of_wide 8 Try.f8 rfl rfl rfl rfl rfl rfl rfl ⟨rfl, rfl, rfl, rfl, rfl⟩ rfl rfl rfl rfl rfl (by kernel_rfl) Try.func8 closed_FnRotateLeft
    (of_decide_eq_true (by kernel_rfl)) (by unfold Func.isWrapper; first | (rw [if_pos (by decide +kernel)]; kernel_rfl) | (rw [if_neg (by decide +kernel)]; exact ⟨rfl, rfl⟩))
    (fun os started H enc _ => lifted_FnRotateLeft os started H enc)

end Go.Proofs.Ytifhocjlfmeecaa
