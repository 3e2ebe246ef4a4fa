/- The law FnTimerValid: for every input it answers true, and changes nothing that was there. No condition. -/
import Derived.Test.YtpoiojknahmicaaDrawTimers
import Derived.Test.YtpoiojknahmicaaClone
import Derived.Test.YtpoiojknahmicaaTimer
import Derived.Test.YtpoiojknahmicaaMemRead
import Derived.Deep.RegionWith
namespace Go.Proofs.Ytpoiojknahmicaa
open Go.ChangeShapes Go.WideShapes Go.ChangeAt Go.RowKit
set_option linter.unusedVariables false

theorem tv_neg (r f : Int) : tvB (-1) r f = false := by simp [tvB, inR]
theorem tv_big (l f : Int) : tvB l 1001 f = false := by simp [tvB, inR]
set_option maxHeartbeats 1000000 in
theorem walk_FnTimerValid (v0 : Value) (w : World) (y0 : IsBytes w v0) : Calls Try.prog 3 #[v0] w fun e w' => e = .returned (.bool true) ∧ Below w.heap.size w w' := by
  have hY := Lib.hid y0
  obtain ⟨a, len, cap, zs, rfl, _, _, _⟩ := y0
  by_cases hl : (1048576 : Int) < (len : Int)
  · go_enter Try.func3, Try.ntmps3
    go_wp2_with fail
    go_ret
    exact ⟨rfl, Below.refl _ _⟩
  have g1 := tv_neg
  have g2 := tv_big
  go_enter Try.func3, Try.ntmps3
  go_wp2_with fail
  refine (draw_TimerValid hY.out).mono ?_
  rintro e w1 ⟨v, rfl, ⟨l, r, f, rfl, h8⟩, hb1⟩
  have hy1 : w.heap.size ≤ w1.heap.size := hb1.size
  go_wp2_with fail
  refine (impl_TimerValid _ _ _ _).mono ?_
  rintro e w' ⟨rfl, rfl⟩
  go_wp2_with fail
  refine (spec_TimerValid _ _ _ _).mono ?_
  rintro e w' ⟨rfl, rfl⟩
  go_wp2_with fail
  refine (impl_TimerValid _ _ _ _).mono ?_
  rintro e w' ⟨rfl, rfl⟩
  go_wp2_with fail
  refine (impl_TimerValid _ _ _ _).mono ?_
  rintro e w' ⟨rfl, rfl⟩
  go_wp2_with fail
  refine (laws_alive _).mono ?_
  rintro e w' ⟨rfl, rfl⟩
  go_wp2_with fail
  go_ret
  refine ⟨rfl, ?_⟩
  repeat (first | with_reducible exact Below.refl _ _ | with_reducible refine below_via (by assumption) ?_ (by go_size) | with_reducible refine below_within (by assumption) ?_ (by go_size) (by omega) | with_reducible refine Below.alloc ?_ (by go_size) _ | with_reducible refine Below.setCell ?_ (by go_size) _ | with_reducible refine Below.drew ?_)
set_option maxRecDepth 100000 in
theorem lifted_FnTimerValid (os : Os) (started : os.Started) (H : Type) (enc : TypeId × Value → H) :
    ReturnsInHanded {} Try.checked os 3 .any (Rows.fnTimerValidSpec.pre6 enc Try.prog Try.f3 Rows.fnTimerValidRow.domain false) (Rows.fnTimerValidSpec.post enc Try.prog Try.f3 false true false false) := by
  refine returnsInHanded_of_change (C := Try.checked) own started (by kernel_rfl) Try.func3
    (ChangeSpec.witness6 (enc := enc) (C := Try.checked) false ⟨#[], #[.slice none 0 0], []⟩ 8 (by kernel_rfl) (by kernel_rfl) (by kernel_rfl) (by kernel_rfl)) ?_
  intro W base args ds gs before hval0 hW hcnd _
  have hval : ∀ (j : Nat) t v, Try.f3.params[j]? = some t → args[j]? = some v → Value.okWide Try.prog W .any base t v := hval0
  have hW' := hW
  obtain ⟨p, q, hA0, hV, rfl, hfz, hnd⟩ := hW
  have hA : DataW.TrodAll enc Try.prog W 0 (fun _ => true) true Try.f3.params.toList args.toList ds p := hA0
  rw [Try.params3] at hA hval
  obtain ⟨v0, vs0, d0, ds0, p0, q0, hargs, rfl, rfl, h0, r0⟩ := trodAll_cons hA
  obtain ⟨rfl, rfl, rfl⟩ := trodAll_nil r0
  obtain rfl : args = #[v0] := by cases args; simp_all
  obtain ⟨rfl, rfl⟩ := trodVars_none hV
  have lt0 : ∀ x ∈ p0, x.block < W.heap.size := by obtain ⟨m, hm⟩ := h0; exact DataW.trod_lt m _ _ _ hm
  have y0 := read_bytes (hval 0 22 v0 rfl rfl) h0
  clear hA0 hval0
  refine (walk_FnTimerValid v0 W y0).mono fun e W' ⟨he, bel⟩ => ?_
  subst he
  exact ⟨_, rfl, _, _, _, [], _, [], hW', trodAll_mk1 (shut_bool Try.underlying4 _), (trodAll_cons_mk (Below.trod laidOut (by kernel_rfl) (of_decide_eq_true (by kernel_rfl)) h0 bel lt0) trodAll_mk0), rfl, bel.frame _, fun h => by cases h⟩
theorem closed_FnTimerValid : joinedFacts Try.prog 3 Try.f3 Rows.fnTimerValidSpec Rows.fnTimerValidRow = true := by
  unfold joinedFacts
  rw [shared.1, shared.2.1, shared.2.2.1, shared.2.2.2]
  kernel_rfl
/-- The given statement of FnTimerValid. -/
theorem FnTimerValid_holds : Rows.FnTimerValidSaid :=
  OpenClaim.holds_of_wide 3 Try.f3 rfl rfl rfl rfl rfl rfl rfl ⟨rfl, rfl, rfl, rfl, rfl⟩ rfl rfl rfl rfl rfl (by kernel_rfl) Try.func3 closed_FnTimerValid
    (of_decide_eq_true (by kernel_rfl)) (by unfold Func.isWrapper; first | (rw [if_pos (by decide +kernel)]; kernel_rfl) | (rw [if_neg (by decide +kernel)]; exact ⟨rfl, rfl⟩))
    (fun os started H enc _ => lifted_FnTimerValid os started H enc)

end Go.Proofs.Ytpoiojknahmicaa
