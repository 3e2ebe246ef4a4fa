/- The law FnExactOrderBytes: for every input it answers true, and changes nothing that was there. No condition. -/
import Derived.Test.YtkddgcdlhamafaaDecode
import Derived.Test.YtkddgcdlhamafaaApp
import Derived.Test.YtkddgcdlhamafaaDrawOrd
namespace Go.Proofs.Ytkddgcdlhamafaa
open Go.ChangeShapes Go.WideShapes Go.ChangeAt Go.RowKit
set_option linter.unusedVariables false

set_option maxHeartbeats 2000000 in
theorem walk_FnExactOrderBytes (v0 : Value) (w : World) (y0 : IsOrder w v0) : Calls Try.prog 9 #[v0] w fun e w' => e = .returned (.bool true) ∧ Below w.heap.size w w' := by
  obtain ⟨o, a, rfl⟩ := y0
  have hn := obytes_len o a
  have k1 : (0 : Int) ≤ 1 := by omega
  have k2 : (1 : Int) ≤ 1000000000000 := by omega
  go_enter Try.func9, Try.ntmps9
  go_wp2_with fail
  refine (laws_toOrder _ _ _).mono ?_
  rintro e w1 ⟨rfl, hb1⟩
  obtain ⟨hc1, hf1⟩ := bcell hb1
  have hs1 : w.heap.size + 1 ≤ w1.heap.size := Nat.le_trans (by go_size) hb1.size
  have z1_0 : w.heap.size < w1.heap.size := Nat.lt_of_lt_of_le (by go_size) hb1.size
  have hB1 : Hid (Below w.heap.size w w1) := below_via hb1 (by repeat (first | with_reducible exact Below.refl _ _ | with_reducible refine below_via (by assumption) ?_ (by go_size) | with_reducible refine below_within (by assumption) ?_ (by go_size) (by omega) | with_reducible refine Below.alloc ?_ (by go_size) _ | with_reducible refine Below.setCell ?_ (by go_size) _ | with_reducible refine Below.drew ?_)) (by go_size)
  go_wp2_with fail
  refine (spec_OrderBytes _ _ _).mono ?_
  rintro e w2 ⟨v2, rfl, o2, hb2⟩
  obtain ⟨hc2, hf2⟩ := bcell hb2
  have hs2 : w1.heap.size + 0 ≤ w2.heap.size := Nat.le_trans (by go_size) hb2.size
  have z2_0 : w.heap.size < w2.heap.size := Nat.lt_of_lt_of_le (by go_size) hb2.size
  have hB2 : Hid (Below w.heap.size w w2) := below_via hb2 (by repeat (first | with_reducible exact Below.refl _ _ | with_reducible refine below_via (by assumption) ?_ (by go_size) | with_reducible refine below_within (by assumption) ?_ (by go_size) (by omega) | with_reducible refine Below.alloc ?_ (by go_size) _ | with_reducible refine Below.setCell ?_ (by go_size) _ | with_reducible refine Below.drew ?_)) (by go_size)
  go_wp2_with fail
  refine (laws_toOrder _ _ _).mono ?_
  rintro e w3 ⟨rfl, hb3⟩
  obtain ⟨hc3, hf3⟩ := bcell hb3
  have hs3 : w2.heap.size + 0 ≤ w3.heap.size := Nat.le_trans (by go_size) hb3.size
  have z3_0 : w.heap.size < w3.heap.size := Nat.lt_of_lt_of_le (by go_size) hb3.size
  have hB3 : Hid (Below w.heap.size w w3) := below_via hb3 (by repeat (first | with_reducible exact Below.refl _ _ | with_reducible refine below_via (by assumption) ?_ (by go_size) | with_reducible refine below_within (by assumption) ?_ (by go_size) (by omega) | with_reducible refine Below.alloc ?_ (by go_size) _ | with_reducible refine Below.setCell ?_ (by go_size) _ | with_reducible refine Below.drew ?_)) (by go_size)
  go_wp2_with fail
  refine (impl_OrderBytes _ _ _).mono ?_
  rintro e w4 ⟨v4, rfl, o4, hb4⟩
  obtain ⟨hc4, hf4⟩ := bcell hb4
  have hs4 : w3.heap.size + 0 ≤ w4.heap.size := Nat.le_trans (by go_size) hb4.size
  have z4_0 : w.heap.size < w4.heap.size := Nat.lt_of_lt_of_le (by go_size) hb4.size
  have hB4 : Hid (Below w.heap.size w w4) := below_via hb4 (by repeat (first | with_reducible exact Below.refl _ _ | with_reducible refine below_via (by assumption) ?_ (by go_size) | with_reducible refine below_within (by assumption) ?_ (by go_size) (by omega) | with_reducible refine Below.alloc ?_ (by go_size) _ | with_reducible refine Below.setCell ?_ (by go_size) _ | with_reducible refine Below.drew ?_)) (by go_size)
  go_wp2_with fail
  refine (eqIntS_b (o4.agree (by (repeat (first | assumption | with_reducible exact Agree.refl _ _ _ | with_reducible refine agree_below (by assumption) ?_ (by first | omega | go_size) | with_reducible refine agree_within (by assumption) ?_ (by first | omega | go_size) (by omega) | with_reducible refine Agree.alloc ?_ (by first | omega | go_size) _ | with_reducible refine Agree.setCell ?_ (by omega) _ | with_reducible refine Agree.drew ?_)))).ints (o2.agree (by (repeat (first | assumption | with_reducible exact Agree.refl _ _ _ | with_reducible refine agree_below (by assumption) ?_ (by first | omega | go_size) | with_reducible refine agree_within (by assumption) ?_ (by first | omega | go_size) (by omega) | with_reducible refine Agree.alloc ?_ (by first | omega | go_size) _ | with_reducible refine Agree.setCell ?_ (by omega) _ | with_reducible refine Agree.drew ?_)))).ints).mono ?_
  rintro e w5 ⟨rfl, hb5⟩
  obtain ⟨hc5, hf5⟩ := bcell hb5
  have hs5 : w4.heap.size + 0 ≤ w5.heap.size := Nat.le_trans (by go_size) hb5.size
  have z5_0 : w.heap.size < w5.heap.size := Nat.lt_of_lt_of_le (by go_size) hb5.size
  have hB5 : Hid (Below w.heap.size w w5) := below_via hb5 (by repeat (first | with_reducible exact Below.refl _ _ | with_reducible refine below_via (by assumption) ?_ (by go_size) | with_reducible refine below_within (by assumption) ?_ (by go_size) (by omega) | with_reducible refine Below.alloc ?_ (by go_size) _ | with_reducible refine Below.setCell ?_ (by go_size) _ | with_reducible refine Below.drew ?_)) (by go_size)
  go_wp2_with fail
  refine (laws_markIntS (o4.agree (by (repeat (first | assumption | with_reducible exact Agree.refl _ _ _ | with_reducible refine agree_below (by assumption) ?_ (by first | omega | go_size) | with_reducible refine agree_within (by assumption) ?_ (by first | omega | go_size) (by omega) | with_reducible refine Agree.alloc ?_ (by first | omega | go_size) _ | with_reducible refine Agree.setCell ?_ (by omega) _ | with_reducible refine Agree.drew ?_)))) k1 k2 (by omega)).mono ?_
  rintro e w6 ⟨rfl, o6, hw6⟩
  obtain ⟨hc6, hf6, hd6, hg6⟩ := wcell hw6
  have hs6 : w5.heap.size + 0 ≤ w6.heap.size := Nat.le_trans (by go_size) hw6.size
  have z6_0 : w.heap.size < w6.heap.size := Nat.lt_of_lt_of_le (by go_size) hw6.size
  have hB6 : Hid (Below w.heap.size w w6) := below_within hw6 (by repeat (first | with_reducible exact Below.refl _ _ | with_reducible refine below_via (by assumption) ?_ (by go_size) | with_reducible refine below_within (by assumption) ?_ (by go_size) (by omega) | with_reducible refine Below.alloc ?_ (by go_size) _ | with_reducible refine Below.setCell ?_ (by go_size) _ | with_reducible refine Below.drew ?_)) (by go_size) (by omega)
  go_wp2_with fail
  refine (laws_heldIntS (o6.agree (by (repeat (first | assumption | with_reducible exact Agree.refl _ _ _ | with_reducible refine agree_below (by assumption) ?_ (by first | omega | go_size) | with_reducible refine agree_within (by assumption) ?_ (by first | omega | go_size) (by omega) | with_reducible refine Agree.alloc ?_ (by first | omega | go_size) _ | with_reducible refine Agree.setCell ?_ (by omega) _ | with_reducible refine Agree.drew ?_)))).ints k1 k2 (by omega)).mono ?_
  rintro e w' ⟨rfl, rfl⟩
  go_wp2_with fail
  refine (laws_toOrder _ _ _).mono ?_
  rintro e w7 ⟨rfl, hb7⟩
  obtain ⟨hc7, hf7⟩ := bcell hb7
  have hs7 : w6.heap.size + 0 ≤ w7.heap.size := Nat.le_trans (by go_size) hb7.size
  have z7_0 : w.heap.size < w7.heap.size := Nat.lt_of_lt_of_le (by go_size) hb7.size
  have hB7 : Hid (Below w.heap.size w w7) := below_via hb7 (by repeat (first | with_reducible exact Below.refl _ _ | with_reducible refine below_via (by assumption) ?_ (by go_size) | with_reducible refine below_within (by assumption) ?_ (by go_size) (by omega) | with_reducible refine Below.alloc ?_ (by go_size) _ | with_reducible refine Below.setCell ?_ (by go_size) _ | with_reducible refine Below.drew ?_)) (by go_size)
  go_wp2_with fail
  refine (impl_OrderBytes _ _ _).mono ?_
  rintro e w8 ⟨v8, rfl, o8, hb8⟩
  obtain ⟨hc8, hf8⟩ := bcell hb8
  have hs8 : w7.heap.size + 0 ≤ w8.heap.size := Nat.le_trans (by go_size) hb8.size
  have z8_0 : w.heap.size < w8.heap.size := Nat.lt_of_lt_of_le (by go_size) hb8.size
  have hB8 : Hid (Below w.heap.size w w8) := below_via hb8 (by repeat (first | with_reducible exact Below.refl _ _ | with_reducible refine below_via (by assumption) ?_ (by go_size) | with_reducible refine below_within (by assumption) ?_ (by go_size) (by omega) | with_reducible refine Below.alloc ?_ (by go_size) _ | with_reducible refine Below.setCell ?_ (by go_size) _ | with_reducible refine Below.drew ?_)) (by go_size)
  go_wp2_with fail
  refine (eqIntS_b (o8.agree (by (repeat (first | assumption | with_reducible exact Agree.refl _ _ _ | with_reducible refine agree_below (by assumption) ?_ (by first | omega | go_size) | with_reducible refine agree_within (by assumption) ?_ (by first | omega | go_size) (by omega) | with_reducible refine Agree.alloc ?_ (by first | omega | go_size) _ | with_reducible refine Agree.setCell ?_ (by omega) _ | with_reducible refine Agree.drew ?_)))).ints (o2.agree (by (repeat (first | assumption | with_reducible exact Agree.refl _ _ _ | with_reducible refine agree_below (by assumption) ?_ (by first | omega | go_size) | with_reducible refine agree_within (by assumption) ?_ (by first | omega | go_size) (by omega) | with_reducible refine Agree.alloc ?_ (by first | omega | go_size) _ | with_reducible refine Agree.setCell ?_ (by omega) _ | with_reducible refine Agree.drew ?_)))).ints).mono ?_
  rintro e w9 ⟨rfl, hb9⟩
  obtain ⟨hc9, hf9⟩ := bcell hb9
  have hs9 : w8.heap.size + 0 ≤ w9.heap.size := Nat.le_trans (by go_size) hb9.size
  have z9_0 : w.heap.size < w9.heap.size := Nat.lt_of_lt_of_le (by go_size) hb9.size
  have hB9 : Hid (Below w.heap.size w w9) := below_via hb9 (by repeat (first | with_reducible exact Below.refl _ _ | with_reducible refine below_via (by assumption) ?_ (by go_size) | with_reducible refine below_within (by assumption) ?_ (by go_size) (by omega) | with_reducible refine Below.alloc ?_ (by go_size) _ | with_reducible refine Below.setCell ?_ (by go_size) _ | with_reducible refine Below.drew ?_)) (by go_size)
  go_wp2_with fail
  refine (laws_heldIntS (o6.agree (by (repeat (first | assumption | with_reducible exact Agree.refl _ _ _ | with_reducible refine agree_below (by assumption) ?_ (by first | omega | go_size) | with_reducible refine agree_within (by assumption) ?_ (by first | omega | go_size) (by omega) | with_reducible refine Agree.alloc ?_ (by first | omega | go_size) _ | with_reducible refine Agree.setCell ?_ (by omega) _ | with_reducible refine Agree.drew ?_)))).ints k1 k2 (by omega)).mono ?_
  rintro e w' ⟨rfl, rfl⟩
  go_wp2_with fail
  go_ret
  refine ⟨rfl, ?_⟩
  repeat (first | with_reducible exact Below.refl _ _ | with_reducible refine below_via (by assumption) ?_ (by go_size) | with_reducible refine below_within (by assumption) ?_ (by go_size) (by omega) | with_reducible refine Below.alloc ?_ (by go_size) _ | with_reducible refine Below.setCell ?_ (by go_size) _ | with_reducible refine Below.drew ?_)
set_option maxRecDepth 100000 in
theorem lifted_FnExactOrderBytes (os : Os) (started : os.Started) (H : Type) (enc : TypeId × Value → H) :
    ReturnsInHanded {} Try.checked os 9 .any (Rows.fnExactOrderBytesSpec.pre6 enc Try.prog Try.f9 Rows.fnExactOrderBytesRow.domain false) (Rows.fnExactOrderBytesSpec.post enc Try.prog Try.f9 false true false false) := by
  refine returnsInHanded_of_change (C := Try.checked) own started (by kernel_rfl) Try.func9
    (ChangeSpec.witness6 (enc := enc) (C := Try.checked) false ⟨#[], #[.agg #[.int .i64 0, .int .i64 0]], []⟩ 8 (by kernel_rfl) (by kernel_rfl) (by kernel_rfl) (by kernel_rfl)) ?_
  intro W base args ds gs before hval0 hW hcnd _
  have hval : ∀ (j : Nat) t v, Try.f9.params[j]? = some t → args[j]? = some v → Value.okWide Try.prog W .any base t v := hval0
  have hW' := hW
  obtain ⟨p, q, hA0, hV, rfl, hfz, hnd⟩ := hW
  have hA : DataW.TrodAll enc Try.prog W 0 (fun _ => true) true Try.f9.params.toList args.toList ds p := hA0
  rw [Try.params9] at hA hval
  obtain ⟨v0, vs0, d0, ds0, p0, q0, hargs, rfl, rfl, h0, r0⟩ := trodAll_cons hA
  obtain ⟨rfl, rfl, rfl⟩ := trodAll_nil r0
  obtain rfl : args = #[v0] := by cases args; simp_all
  obtain ⟨rfl, rfl⟩ := trodVars_none hV
  have lt0 : ∀ x ∈ p0, x.block < W.heap.size := by obtain ⟨m, hm⟩ := h0; exact DataW.trod_lt m _ _ _ hm
  have y0 := read_Order (hval 0 45 v0 rfl rfl) h0
  clear hA0 hval0
  refine (walk_FnExactOrderBytes v0 W y0).mono fun e W' ⟨he, bel⟩ => ?_
  subst he
  exact ⟨_, rfl, _, _, _, [], _, [], hW', trodAll_mk1 (shut_bool Try.underlying4 _), (trodAll_cons_mk (Below.trod laidOut (by kernel_rfl) (of_decide_eq_true (by kernel_rfl)) h0 bel lt0) trodAll_mk0), rfl, bel.frame _, fun h => by cases h⟩
theorem closed_FnExactOrderBytes : joinedFacts Try.prog 9 Try.f9 Rows.fnExactOrderBytesSpec Rows.fnExactOrderBytesRow = true := by
  unfold joinedFacts
  rw [shared.1, shared.2.1, shared.2.2.1, shared.2.2.2]
  kernel_rfl
/-- The given statement of FnExactOrderBytes. -/
theorem FnExactOrderBytes_holds : Rows.FnExactOrderBytesSaid :=
  OpenClaim.holds_of_wide 9 Try.f9 rfl rfl rfl rfl rfl rfl rfl ⟨rfl, rfl, rfl, rfl, rfl⟩ rfl rfl rfl rfl rfl (by kernel_rfl) Try.func9 closed_FnExactOrderBytes
    (of_decide_eq_true (by kernel_rfl)) (by unfold Func.isWrapper; first | (rw [if_pos (by decide +kernel)]; kernel_rfl) | (rw [if_neg (by decide +kernel)]; exact ⟨rfl, rfl⟩))
    (fun os started H enc _ => lifted_FnExactOrderBytes os started H enc)

end Go.Proofs.Ytkddgcdlhamafaa
