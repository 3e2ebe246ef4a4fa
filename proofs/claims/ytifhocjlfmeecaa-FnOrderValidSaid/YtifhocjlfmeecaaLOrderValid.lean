/- The law FnOrderValid: for every input it answers true, and changes nothing that was there. No condition. -/
import Derived.Test.YtifhocjlfmeecaaDrawOrd
namespace Go.Proofs.Ytifhocjlfmeecaa
open Go.ChangeShapes Go.WideShapes Go.ChangeAt Go.RowKit
set_option linter.unusedVariables false

theorem ov_1024 (op : Int) : ovB op 1024 = false := by
  rcases olen_vals op with h | h | h | h
  · exact ovB_0 h
  · rw [ovB_1 h]; decide
  · rw [ovB_2 h]; decide
  · rw [ovB_3 h]; decide
theorem ov_16 (a : Int) : ovB 16 a = false := ovB_0 (by decide)
set_option maxHeartbeats 1000000 in
theorem walk_FnOrderValid (v0 : Value) (w : World) (y0 : IsBytes w v0) : Calls Try.prog 14 #[v0] w fun e w' => e = .returned (.bool true) ∧ Below w.heap.size w w' := by
  have hY := Lib.hid y0
  obtain ⟨a, len, cap, zs, rfl, _, _, _⟩ := y0
  by_cases hl : (1048576 : Int) < (len : Int)
  · go_enter Try.func14, Try.ntmps14
    go_wp2_with fail
    go_ret
    exact ⟨rfl, Below.refl _ _⟩
  have g1 := ov_1024
  have g2 := ov_16
  go_enter Try.func14, Try.ntmps14
  go_wp2_with fail
  refine (draw_OrderValid hY.out).mono ?_
  rintro e w1 ⟨v, rfl, ⟨o, ar, rfl⟩, hb1⟩
  have hy1 : w.heap.size ≤ w1.heap.size := hb1.size
  go_wp2_with fail
  refine (impl_OrderValid _ _ _).mono ?_
  rintro e w2 ⟨rfl, hb2⟩
  obtain ⟨hc2, hf2⟩ := bcell hb2
  have hy2 : w.heap.size ≤ w2.heap.size := Nat.le_trans (by go_size) hb2.size
  have z2_0 : w1.heap.size < w2.heap.size := Nat.lt_of_lt_of_le (by go_size) hb2.size
  go_wp2_with fail
  refine (spec_OrderValid _ _ _).mono ?_
  rintro e w3 ⟨rfl, hb3⟩
  obtain ⟨hc3, hf3⟩ := bcell hb3
  have hy3 : w.heap.size ≤ w3.heap.size := Nat.le_trans (by go_size) hb3.size
  have z3_0 : w1.heap.size < w3.heap.size := Nat.lt_of_lt_of_le (by go_size) hb3.size
  go_wp2_with fail
  refine (impl_OrderValid _ _ _).mono ?_
  rintro e w4 ⟨rfl, hb4⟩
  obtain ⟨hc4, hf4⟩ := bcell hb4
  have hy4 : w.heap.size ≤ w4.heap.size := Nat.le_trans (by go_size) hb4.size
  have z4_0 : w1.heap.size < w4.heap.size := Nat.lt_of_lt_of_le (by go_size) hb4.size
  have z4_1 : w3.heap.size < w4.heap.size := Nat.lt_of_lt_of_le (by go_size) hb4.size
  have z4_2 : w3.heap.size + 1 < w4.heap.size := Nat.lt_of_lt_of_le (by go_size) hb4.size
  go_wp2_with fail
  refine (impl_OrderValid _ _ _).mono ?_
  rintro e w5 ⟨rfl, hb5⟩
  obtain ⟨hc5, hf5⟩ := bcell hb5
  have hy5 : w.heap.size ≤ w5.heap.size := Nat.le_trans (by go_size) hb5.size
  have z5_0 : w1.heap.size < w5.heap.size := Nat.lt_of_lt_of_le (by go_size) hb5.size
  have z5_1 : w3.heap.size < w5.heap.size := Nat.lt_of_lt_of_le (by go_size) hb5.size
  have z5_2 : w3.heap.size + 1 < w5.heap.size := Nat.lt_of_lt_of_le (by go_size) hb5.size
  go_wp2_with fail
  refine (laws_alive _).mono ?_
  rintro e w' ⟨rfl, rfl⟩
  go_wp2_with fail
  go_ret
  refine ⟨rfl, ?_⟩
  repeat (first | with_reducible exact Below.refl _ _ | with_reducible refine below_via (by assumption) ?_ (by go_size) | with_reducible refine Below.alloc ?_ (by go_size) _ | with_reducible refine Below.setCell ?_ (by go_size) _ | with_reducible refine Below.drew ?_)
set_option maxRecDepth 100000 in
theorem lifted_FnOrderValid (os : Os) (started : os.Started) (H : Type) (enc : TypeId × Value → H) :
    ReturnsInHanded {} Try.checked os 14 .any (Rows.fnOrderValidSpec.pre6 enc Try.prog Try.f14 Rows.fnOrderValidRow.domain false) (Rows.fnOrderValidSpec.post enc Try.prog Try.f14 false true false false) := by
  refine returnsInHanded_of_change (C := Try.checked) own started (by kernel_rfl) Try.func14
    (ChangeSpec.witness6 (enc := enc) (C := Try.checked) false ⟨#[], #[.slice none 0 0], []⟩ 8 (by kernel_rfl) (by kernel_rfl) (by kernel_rfl) (by kernel_rfl)) ?_
  intro W base args ds gs before hval0 hW hcnd _
  have hval : ∀ (j : Nat) t v, Try.f14.params[j]? = some t → args[j]? = some v → Value.okWide Try.prog W .any base t v := hval0
  have hW' := hW
  obtain ⟨p, q, hA0, hV, rfl, hfz, hnd⟩ := hW
  have hA : DataW.TrodAll enc Try.prog W 0 (fun _ => true) true Try.f14.params.toList args.toList ds p := hA0
  rw [Try.params14] at hA hval
  obtain ⟨v0, vs0, d0, ds0, p0, q0, hargs, rfl, rfl, h0, r0⟩ := trodAll_cons hA
  obtain ⟨rfl, rfl, rfl⟩ := trodAll_nil r0
  obtain rfl : args = #[v0] := by cases args; simp_all
  obtain ⟨rfl, rfl⟩ := trodVars_none hV
  have lt0 : ∀ x ∈ p0, x.block < W.heap.size := by obtain ⟨m, hm⟩ := h0; exact DataW.trod_lt m _ _ _ hm
  have y0 := read_bytes (hval 0 22 v0 rfl rfl) h0
  clear hA0 hval0
  refine (walk_FnOrderValid v0 W y0).mono fun e W' ⟨he, bel⟩ => ?_
  subst he
  exact ⟨_, rfl, _, _, _, [], _, [], hW', trodAll_mk1 (shut_bool Try.underlying4 _), (trodAll_cons_mk (Below.trod laidOut (by kernel_rfl) (of_decide_eq_true (by kernel_rfl)) h0 bel lt0) trodAll_mk0), rfl, bel.frame _, fun h => by cases h⟩
theorem closed_FnOrderValid : joinedFacts Try.prog 14 Try.f14 Rows.fnOrderValidSpec Rows.fnOrderValidRow = true := by
  unfold joinedFacts
  rw [shared.1, shared.2.1, shared.2.2.1, shared.2.2.2]
  kernel_rfl
/-- The given statement of FnOrderValid. -/
theorem FnOrderValid_holds : Rows.FnOrderValidSaid :=
  OpenClaim.holds_of_wide 14 Try.f14 rfl rfl rfl rfl rfl rfl rfl ⟨rfl, rfl, rfl, rfl, rfl⟩ rfl rfl rfl rfl rfl (by kernel_rfl) Try.func14 closed_FnOrderValid
    (of_decide_eq_true (by kernel_rfl)) (by unfold Func.isWrapper; first | (rw [if_pos (by decide +kernel)]; kernel_rfl) | (rw [if_neg (by decide +kernel)]; exact ⟨rfl, rfl⟩))
    (fun os started H enc _ => lifted_FnOrderValid os started H enc)

end Go.Proofs.Ytifhocjlfmeecaa
