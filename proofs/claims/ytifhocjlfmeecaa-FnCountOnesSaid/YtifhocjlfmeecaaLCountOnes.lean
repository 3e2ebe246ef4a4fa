/- The law FnCountOnes: for every input it answers true, and changes nothing that was there. No condition. -/
import Derived.Test.YtifhocjlfmeecaaDrawByte
namespace Go.Proofs.Ytifhocjlfmeecaa
open Go.ChangeShapes Go.WideShapes Go.ChangeAt Go.RowKit
set_option linter.unusedVariables false

theorem ones_sum (x : Int) (h1 : 0 ≤ x) (h2 : x ≤ 255) : 0 ≤ ones x ∧ ones x + ones (255 - x) = 8 := by
  obtain ⟨n, rfl⟩ := Int.eq_ofNat_of_zero_le h1
  have all : ∀ (j : Fin 256), 0 ≤ ones (j.val : Int) ∧ ones (j.val : Int) + ones (255 - (j.val : Int)) = 8 := by decide +kernel
  exact all ⟨n, by omega⟩
theorem walk_FnCountOnes (v0 : Value) (w : World) (y0 : IsBytes w v0) : Calls Try.prog 6 #[v0] w fun e w' => e = .returned (.bool true) ∧ Below w.heap.size w w' := by
  have hY := Lib.hid y0
  obtain ⟨a, len, cap, zs, rfl, _⟩ := y0
  by_cases hl : (1048576 : Int) < (len : Int)
  · go_enter Try.func6, Try.ntmps6
    go_wp2_with fail
    go_ret
    exact ⟨rfl, Below.refl _ _⟩
  go_enter Try.func6, Try.ntmps6
  go_wp2_with fail
  refine (draw_CountOnes hY.out).mono ?_
  rintro e w1 ⟨v, rfl, ⟨x, rfl⟩, hB⟩
  cases hb : byteB x
  · have h0 : ones x = 0 := by simp [ones, hb]
    go_wp2_with (first | (go_at_call 33; refine (impl_CountOnes _ _).mono ?_; rintro e w' ⟨rfl, rfl⟩) | (go_at_call 34; refine (spec_CountOnes _ _).mono ?_; rintro e w' ⟨rfl, rfl⟩) | (go_at_call 24; refine (laws_alive _).mono ?_; rintro e w' ⟨rfl, rfl⟩) | (go_at_call 31; refine (laws_isByte _ _).mono ?_; rintro e w' ⟨rfl, rfl⟩))
    go_ret
    exact ⟨rfl, hB⟩
  · obtain ⟨h1, h2⟩ := byteB_iff.1 hb
    obtain ⟨h3, h4⟩ := ones_sum x h1 h2
    obtain ⟨h5, _⟩ := ones_sum (255 - x) (by omega) (by omega)
    have h6 : ones x ≤ 8 := by omega
    have h7 : ones (255 - x) ≤ 8 := by omega
    go_wp2_with (first | (go_at_call 33; refine (impl_CountOnes _ _).mono ?_; rintro e w' ⟨rfl, rfl⟩) | (go_at_call 34; refine (spec_CountOnes _ _).mono ?_; rintro e w' ⟨rfl, rfl⟩) | (go_at_call 24; refine (laws_alive _).mono ?_; rintro e w' ⟨rfl, rfl⟩) | (go_at_call 31; refine (laws_isByte _ _).mono ?_; rintro e w' ⟨rfl, rfl⟩))
    go_ret
    exact ⟨rfl, hB⟩
set_option maxRecDepth 100000 in
theorem lifted_FnCountOnes (os : Os) (started : os.Started) (H : Type) (enc : TypeId × Value → H) :
    ReturnsInHanded {} Try.checked os 6 .any (Rows.fnCountOnesSpec.pre6 enc Try.prog Try.f6 Rows.fnCountOnesRow.domain false) (Rows.fnCountOnesSpec.post enc Try.prog Try.f6 false true false false) := by
  refine returnsInHanded_of_change (C := Try.checked) own started (by kernel_rfl) Try.func6
    (ChangeSpec.witness6 (enc := enc) (C := Try.checked) false ⟨#[], #[.slice none 0 0], []⟩ 8 (by kernel_rfl) (by kernel_rfl) (by kernel_rfl) (by kernel_rfl)) ?_
  intro W base args ds gs before hval0 hW hcnd _
  have hval : ∀ (j : Nat) t v, Try.f6.params[j]? = some t → args[j]? = some v → Value.okWide Try.prog W .any base t v := hval0
  have hW' := hW
  obtain ⟨p, q, hA0, hV, rfl, hfz, hnd⟩ := hW
  have hA : DataW.TrodAll enc Try.prog W 0 (fun _ => true) true Try.f6.params.toList args.toList ds p := hA0
  rw [Try.params6] at hA hval
  obtain ⟨v0, vs0, d0, ds0, p0, q0, hargs, rfl, rfl, h0, r0⟩ := trodAll_cons hA
  obtain ⟨rfl, rfl, rfl⟩ := trodAll_nil r0
  obtain rfl : args = #[v0] := by cases args; simp_all
  obtain ⟨rfl, rfl⟩ := trodVars_none hV
  have lt0 : ∀ x ∈ p0, x.block < W.heap.size := by obtain ⟨m, hm⟩ := h0; exact DataW.trod_lt m _ _ _ hm
  have y0 := read_bytes (hval 0 22 v0 rfl rfl) h0
  clear hA0 hval0
  refine (walk_FnCountOnes v0 W y0).mono fun e W' ⟨he, bel⟩ => ?_
  subst he
  exact ⟨_, rfl, _, _, _, [], _, [], hW', trodAll_mk1 (shut_bool Try.underlying4 _), (trodAll_cons_mk (Below.trod laidOut (by kernel_rfl) (of_decide_eq_true (by kernel_rfl)) h0 bel lt0) trodAll_mk0), rfl, bel.frame _, fun h => by cases h⟩
theorem closed_FnCountOnes : joinedFacts Try.prog 6 Try.f6 Rows.fnCountOnesSpec Rows.fnCountOnesRow = true := by
  unfold joinedFacts
  rw [shared.1, shared.2.1, shared.2.2.1, shared.2.2.2]
  kernel_rfl
/-- The given statement of FnCountOnes. -/
theorem FnCountOnes_holds : Rows.FnCountOnesSaid :=
  OpenClaim.holds_of_wide 6 Try.f6 rfl rfl rfl rfl rfl rfl rfl ⟨rfl, rfl, rfl, rfl, rfl⟩ rfl rfl rfl rfl rfl (by kernel_rfl) Try.func6 closed_FnCountOnes
    (of_decide_eq_true (by kernel_rfl)) (by unfold Func.isWrapper; first | (rw [if_pos (by decide +kernel)]; kernel_rfl) | (rw [if_neg (by decide +kernel)]; exact ⟨rfl, rfl⟩))
    (fun os started H enc _ => lifted_FnCountOnes os started H enc)

end Go.Proofs.Ytifhocjlfmeecaa
