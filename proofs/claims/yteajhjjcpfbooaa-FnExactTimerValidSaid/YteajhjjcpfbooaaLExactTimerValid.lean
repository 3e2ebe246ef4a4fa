/- The exact law FnExactTimerValid: the program's function returns what the reference's returns, for all arguments. No condition. -/
import Derived.Test.YteajhjjcpfbooaaRead
import Derived.Test.YteajhjjcpfbooaaTimer
import Derived.Test.YteajhjjcpfbooaaOrd
namespace Go.Proofs.Yteajhjjcpfbooaa
open Go.ChangeShapes Go.WideShapes Go.ChangeAt Go.RowKit
set_option linter.unusedVariables false

theorem walk_FnExactTimerValid (v0 : Value) (w : World) (y0 : IsTimer w v0) : Calls Try.prog 4 #[v0] w fun e w' => e = .returned (.bool true) ∧ Below w.heap.size w w' := by
  obtain ⟨l, r, f, rfl⟩ := y0
  go_enter Try.func4, Try.ntmps4
  go_wp2_with (first | (go_at_call 17; refine (laws_toTimer _ _ _ _).mono ?_; rintro e w' ⟨rfl, hb⟩; obtain ⟨hc, hf⟩ := bcell hb; have hl := below_lts hb; (try simp only [World.size_drew] at hl); (try simp only [World.size_alloc] at hl); (try have hm := fun n (hn : n < _) => hl n (Nat.lt_add_right _ hn)); have hy : w.heap.size ≤ w'.heap.size := Nat.le_trans (by go_size) hb.size) | (go_at_call 16; refine (spec_TimerValid _ _ _ _).mono ?_; rintro e w' ⟨rfl, rfl⟩) | (go_at_call 18; refine (impl_TimerValid _ _ _ _).mono ?_; rintro e w' ⟨rfl, rfl⟩))
  go_ret
  refine ⟨rfl, ?_⟩
  repeat (first | with_reducible exact Below.refl _ _ | with_reducible refine below_via (by assumption) ?_ (by go_size) | with_reducible refine Below.alloc ?_ (by go_size) _ | with_reducible refine Below.setCell ?_ (by go_size) _ | with_reducible refine Below.drew ?_)
set_option maxRecDepth 100000 in
theorem lifted_FnExactTimerValid (os : Os) (started : os.Started) (H : Type) (enc : TypeId × Value → H) :
    ReturnsInHanded {} Try.checked os 4 .any (Rows.fnExactTimerValidSpec.pre6 enc Try.prog Try.f4 Rows.fnExactTimerValidRow.domain false) (Rows.fnExactTimerValidSpec.post enc Try.prog Try.f4 false true false false) := by
  refine returnsInHanded_of_change (C := Try.checked) own started (by kernel_rfl) Try.func4
    (ChangeSpec.witness6 (enc := enc) (C := Try.checked) false ⟨#[], #[.agg #[.int .i64 0, .int .i64 0, .int .i64 0]], []⟩ 8 (by kernel_rfl) (by kernel_rfl) (by kernel_rfl) (by kernel_rfl)) ?_
  intro W base args ds gs before hval0 hW hcnd _
  have hval : ∀ (j : Nat) t v, Try.f4.params[j]? = some t → args[j]? = some v → Value.okWide Try.prog W .any base t v := hval0
  have hW' := hW
  obtain ⟨p, q, hA0, hV, rfl, hfz, hnd⟩ := hW
  have hA : DataW.TrodAll enc Try.prog W 0 (fun _ => true) true Try.f4.params.toList args.toList ds p := hA0
  rw [Try.params4] at hA hval
  obtain ⟨v0, vs0, d0, ds0, p0, q0, hargs, rfl, rfl, h0, r0⟩ := trodAll_cons hA
  obtain ⟨rfl, rfl, rfl⟩ := trodAll_nil r0
  obtain rfl : args = #[v0] := by cases args; simp_all
  obtain ⟨rfl, rfl⟩ := trodVars_none hV
  have lt0 : ∀ x ∈ p0, x.block < W.heap.size := by obtain ⟨m, hm⟩ := h0; exact DataW.trod_lt m _ _ _ hm
  have y0 := read_Timer (hval 0 24 v0 rfl rfl) h0
  clear hA0 hval0
  refine (walk_FnExactTimerValid v0 W y0).mono fun e W' ⟨he, bel⟩ => ?_
  subst he
  exact ⟨_, rfl, _, _, _, [], _, [], hW', trodAll_mk1 (shut_bool Try.underlying4 _), (trodAll_cons_mk (Below.trod laidOut (by kernel_rfl) (of_decide_eq_true (by kernel_rfl)) h0 bel lt0) trodAll_mk0), rfl, bel.frame _, fun h => by cases h⟩
theorem closed_FnExactTimerValid : joinedFacts Try.prog 4 Try.f4 Rows.fnExactTimerValidSpec Rows.fnExactTimerValidRow = true := by
  unfold joinedFacts
  rw [shared.1, shared.2.1, shared.2.2.1, shared.2.2.2]
  kernel_rfl
/-- The given statement of FnExactTimerValid. -/
theorem FnExactTimerValid_holds : Rows.FnExactTimerValidSaid :=
  OpenClaim.holds_of_wide 4 Try.f4 rfl rfl rfl rfl rfl rfl rfl ⟨rfl, rfl, rfl, rfl, rfl⟩ rfl rfl rfl rfl rfl (by kernel_rfl) Try.func4 closed_FnExactTimerValid
    (of_decide_eq_true (by kernel_rfl)) (by unfold Func.isWrapper; first | (rw [if_pos (by decide +kernel)]; kernel_rfl) | (rw [if_neg (by decide +kernel)]; exact ⟨rfl, rfl⟩))
    (fun os started H enc _ => lifted_FnExactTimerValid os started H enc)

end Go.Proofs.Yteajhjjcpfbooaa
