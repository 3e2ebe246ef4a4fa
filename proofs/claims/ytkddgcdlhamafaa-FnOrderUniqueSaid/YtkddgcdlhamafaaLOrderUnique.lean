/- The law FnOrderUnique: for every input it answers true, and changes nothing that was there. No condition. -/
import Derived.Test.YtkddgcdlhamafaaDecode
import Derived.Test.YtkddgcdlhamafaaApp
import Derived.Test.YtkddgcdlhamafaaDrawOrd
namespace Go.Proofs.Ytkddgcdlhamafaa
open Go.ChangeShapes Go.WideShapes Go.ChangeAt Go.RowKit
set_option linter.unusedVariables false

theorem ovB_arg {o a b : Int} (h : ovB o a = true) (g : ovB o b = true) (e : (olen o = 2 → a % 256 = b % 256) ∧ (olen o = 3 → a % 256 = b % 256 ∧ a / 256 = b / 256)) : a = b := by
  rcases olen_vals o with k | k | k | k
  · rw [ovB_0 k] at h; cases h
  · rw [ovB_1 k] at h g
    have h1 : a = 0 := by simpa using h
    have g1 : b = 0 := by simpa using g
    omega
  · rw [ovB_2 k] at h g
    have h1 := byteB_iff.1 h
    have g1 := byteB_iff.1 g
    have := e.1 k
    omega
  · have := e.2 k
    omega
theorem obytes_eq {o1 a1 o2 a2 : Int} (h : obytes o1 a1 ≠ []) : (obytes o1 a1 == obytes o2 a2) = ((o1 == o2) && (a1 == a2)) := by
  have hv : ovB o1 a1 = true := by
    cases hv : ovB o1 a1
    · exact absurd (obytes_no hv) h
    · rfl
  cases hw : ovB o2 a2
  · rw [obytes_no hw]
    have e1 : (obytes o1 a1 == []) = false := by simpa using h
    rw [e1]
    symm
    rw [Bool.and_eq_false_iff]
    by_cases e : o1 = o2
    · subst e
      right
      simp only [beq_eq_false_iff_ne]
      rintro rfl
      rw [hv] at hw; cases hw
    · left; simpa using e
  · by_cases e : o1 = o2
    · subst e
      by_cases ea : a1 = a2
      · subst ea; simp
      · have e2 : (a1 == a2) = false := by simpa using ea
        rw [e2, Bool.and_false, beq_eq_false_iff_ne]
        intro hh
        apply ea
        refine ovB_arg hv hw ⟨fun k => ?_, fun k => ?_⟩
        · rw [obytes_2 hv k, obytes_2 hw k] at hh
          simpa using hh
        · rw [obytes_3 hv k, obytes_3 hw k] at hh
          simpa using hh
    · have e2 : (o1 == o2) = false := by simpa using e
      rw [e2, Bool.false_and, beq_eq_false_iff_ne]
      intro hh
      apply e
      have hd : ∀ {o a : Int}, ovB o a = true → (obytes o a).head? = some o := by
        intro o a hv
        rcases olen_vals o with k | k | k | k
        · rw [ovB_0 k] at hv; cases hv
        · rw [obytes_1 hv k]; rfl
        · rw [obytes_2 hv k]; rfl
        · rw [obytes_3 hv k]; rfl
      have := congrArg List.head? hh
      rw [hd hv, hd hw] at this
      simpa using this
set_option maxHeartbeats 4000000 in
theorem walk_FnOrderUnique (v0 v1 : Value) (w : World) (y0 : IsBytes w v0) (y1 : IsBytes w v1) : Calls Try.prog 6 #[v0, v1] w fun e w' => e = .returned (.bool true) ∧ Below w.heap.size w w' := by
  have hY0 := Lib.hid y0
  have hY1 := Lib.hid y1
  obtain ⟨a0, len0, cap0, zs0, rfl, _⟩ := y0
  obtain ⟨a1, len1, cap1, zs1, rfl, _⟩ := y1
  by_cases hl : (1048576 : Int) < (len0 : Int)
  · go_enter Try.func6, Try.ntmps6
    go_wp2_with fail
    go_ret
    exact ⟨rfl, Below.refl _ _⟩
  by_cases hl1 : (1048576 : Int) < (len1 : Int)
  · go_enter Try.func6, Try.ntmps6
    go_wp2_with fail
    go_ret
    exact ⟨rfl, Below.refl _ _⟩
  go_enter Try.func6, Try.ntmps6
  go_wp2_with fail
  refine (draw_OrderBytes hY0.out).mono ?_
  rintro e w1 ⟨v, rfl, ⟨o1, a1, rfl⟩, hb1⟩
  obtain ⟨hc1, hf1⟩ := bcell hb1
  have hs1 : w.heap.size + 0 ≤ w1.heap.size := Nat.le_trans (by go_size) hb1.size
  have hB1 : Hid (Below w.heap.size w w1) := below_via hb1 (by repeat (first | with_reducible exact Below.refl _ _ | with_reducible refine below_via (by assumption) ?_ (by go_size) | with_reducible refine below_within (by assumption) ?_ (by go_size) (by omega) | with_reducible refine Below.alloc ?_ (by go_size) _ | with_reducible refine Below.setCell ?_ (by go_size) _ | with_reducible refine Below.drew ?_)) (by go_size)
  go_wp2_with fail
  refine (draw_OrderBytes ((hY1.out.below hB1.out).alloc _)).mono ?_
  rintro e w2 ⟨v, rfl, ⟨o2, a2, rfl⟩, hb2⟩
  obtain ⟨hc2, hf2⟩ := bcell hb2
  have hs2 : w1.heap.size + 1 ≤ w2.heap.size := Nat.le_trans (by go_size) hb2.size
  have z2_0 : w1.heap.size < w2.heap.size := Nat.lt_of_lt_of_le (by go_size) hb2.size
  have hB2 : Hid (Below w.heap.size w w2) := below_via hb2 (by repeat (first | with_reducible exact Below.refl _ _ | with_reducible refine below_via (by assumption) ?_ (by go_size) | with_reducible refine below_within (by assumption) ?_ (by go_size) (by omega) | with_reducible refine Below.alloc ?_ (by go_size) _ | with_reducible refine Below.setCell ?_ (by go_size) _ | with_reducible refine Below.drew ?_)) (by go_size)
  go_wp2_with fail
  refine (impl_OrderBytes _ _ _).mono ?_
  rintro e w3 ⟨v3, rfl, o3, hb3⟩
  obtain ⟨hc3, hf3⟩ := bcell hb3
  have hs3 : w2.heap.size + 1 ≤ w3.heap.size := Nat.le_trans (by go_size) hb3.size
  have z3_0 : w1.heap.size < w3.heap.size := Nat.lt_of_lt_of_le (by go_size) hb3.size
  have z3_1 : w2.heap.size < w3.heap.size := Nat.lt_of_lt_of_le (by go_size) hb3.size
  have hB3 : Hid (Below w.heap.size w w3) := below_via hb3 (by repeat (first | with_reducible exact Below.refl _ _ | with_reducible refine below_via (by assumption) ?_ (by go_size) | with_reducible refine below_within (by assumption) ?_ (by go_size) (by omega) | with_reducible refine Below.alloc ?_ (by go_size) _ | with_reducible refine Below.setCell ?_ (by go_size) _ | with_reducible refine Below.drew ?_)) (by go_size)
  obtain ⟨ad3, cp3, rfl⟩ := own_shape o3
  obtain ⟨n, hn⟩ : ∃ n, n = (obytes o1 a1).length := ⟨_, rfl⟩
  have ho3 : Own w2.heap.size w3.heap.size w3 (.slice ad3 n cp3) (obytes o1 a1) := by rw [hn]; exact o3.wide (by simp) (Nat.le_refl _)
  rw [← hn]
  have hn3 : n ≤ 3 := by rw [hn]; exact obytes_len o1 a1
  have N := Lib.hid hn
  clear hn o3
  go_wp2_with fail
  refine (spec_OrderBytes _ _ _).mono ?_
  rintro e w4 ⟨v4, rfl, o4, hb4⟩
  obtain ⟨hc4, hf4⟩ := bcell hb4
  have hs4 : w3.heap.size + 0 ≤ w4.heap.size := Nat.le_trans (by go_size) hb4.size
  have z4_0 : w1.heap.size < w4.heap.size := Nat.lt_of_lt_of_le (by go_size) hb4.size
  have z4_1 : w2.heap.size < w4.heap.size := Nat.lt_of_lt_of_le (by go_size) hb4.size
  have hB4 : Hid (Below w.heap.size w w4) := below_via hb4 (by repeat (first | with_reducible exact Below.refl _ _ | with_reducible refine below_via (by assumption) ?_ (by go_size) | with_reducible refine below_within (by assumption) ?_ (by go_size) (by omega) | with_reducible refine Below.alloc ?_ (by go_size) _ | with_reducible refine Below.setCell ?_ (by go_size) _ | with_reducible refine Below.drew ?_)) (by go_size)
  cases hz : ((n : Int) == 0)
  · have hp := obytes_eq (o1 := o1) (a1 := a1) (o2 := o2) (a2 := a2) (by intro e; rw [N.out, e] at hz; simp at hz)
    have P := Lib.hid hp
    clear hp
    go_wp2_with fail
    refine (sameInts_b (ho3.agree (by (repeat (first | assumption | with_reducible exact Agree.refl _ _ _ | with_reducible refine agree_below (by assumption) ?_ (by first | omega | go_size) | with_reducible refine agree_within (by assumption) ?_ (by first | omega | go_size) (by omega) | with_reducible refine Agree.alloc ?_ (by first | omega | go_size) _ | with_reducible refine Agree.setCell ?_ (by omega) _ | with_reducible refine Agree.drew ?_)))).ints (o4.agree (by (repeat (first | assumption | with_reducible exact Agree.refl _ _ _ | with_reducible refine agree_below (by assumption) ?_ (by first | omega | go_size) | with_reducible refine agree_within (by assumption) ?_ (by first | omega | go_size) (by omega) | with_reducible refine Agree.alloc ?_ (by first | omega | go_size) _ | with_reducible refine Agree.setCell ?_ (by omega) _ | with_reducible refine Agree.drew ?_)))).ints).mono ?_
    rintro e w5 ⟨rfl, hb5⟩
    obtain ⟨hc5, hf5⟩ := bcell hb5
    have hs5 : w4.heap.size + 0 ≤ w5.heap.size := Nat.le_trans (by go_size) hb5.size
    have z5_0 : w1.heap.size < w5.heap.size := Nat.lt_of_lt_of_le (by go_size) hb5.size
    have z5_1 : w2.heap.size < w5.heap.size := Nat.lt_of_lt_of_le (by go_size) hb5.size
    have hB5 : Hid (Below w.heap.size w w5) := below_via hb5 (by repeat (first | with_reducible exact Below.refl _ _ | with_reducible refine below_via (by assumption) ?_ (by go_size) | with_reducible refine below_within (by assumption) ?_ (by go_size) (by omega) | with_reducible refine Below.alloc ?_ (by go_size) _ | with_reducible refine Below.setCell ?_ (by go_size) _ | with_reducible refine Below.drew ?_)) (by go_size)
    go_wp2_with fail
    have q0 : w5.cell? ⟨w1.heap.size, 0, none⟩ = some (.int .i64 o1) := (by (repeat (first | assumption | (simp [go_sem]; done) | with_reducible refine cell_be (by assumption) ?_ (by go_size) | with_reducible refine cell_al _ ?_)))
    have q1 : w5.cell? ⟨w1.heap.size, 1, none⟩ = some (.int .i64 a1) := (by (repeat (first | assumption | (simp [go_sem]; done) | with_reducible refine cell_be (by assumption) ?_ (by go_size) | with_reducible refine cell_al _ ?_)))
    have q2 : w5.cell? ⟨w2.heap.size, 0, none⟩ = some (.int .i64 o2) := (by (repeat (first | assumption | (simp [go_sem]; done) | with_reducible refine cell_be (by assumption) ?_ (by go_size) | with_reducible refine cell_al _ ?_)))
    have q3 : w5.cell? ⟨w2.heap.size, 1, none⟩ = some (.int .i64 a2) := (by (repeat (first | assumption | (simp [go_sem]; done) | with_reducible refine cell_be (by assumption) ?_ (by go_size) | with_reducible refine cell_al _ ?_)))
    have hE := eqOrd o1 a1 o2 a2
    have hG := eqOrdG
    clear hc1 hc2 hc3 hc4 hc5 hf1 hf2 hf3 hf4 hf5
    go_region_with (first
      | (go_at_call 30; refine (impl_OrderBytes _ _ _).mono ?_; rintro e w6 ⟨v6, rfl, o6, hb6⟩; (have q60 := carry_cell hb6 q0); (have q61 := carry_cell hb6 q1); (have q62 := carry_cell hb6 q2); (have q63 := carry_cell hb6 q3))
      | (go_at_call 31; refine (sameInts_b (ho3.agree (by (repeat (first | assumption | with_reducible exact Agree.refl _ _ _ | with_reducible refine agree_below (by assumption) ?_ (by first | omega | go_size) | with_reducible refine agree_within (by assumption) ?_ (by first | omega | go_size) (by omega) | with_reducible refine Agree.alloc ?_ (by first | omega | go_size) _ | with_reducible refine Agree.setCell ?_ (by omega) _ | with_reducible refine Agree.drew ?_)))).ints (o6.agree (by (repeat (first | assumption | with_reducible exact Agree.refl _ _ _ | with_reducible refine agree_below (by assumption) ?_ (by first | omega | go_size) | with_reducible refine agree_within (by assumption) ?_ (by first | omega | go_size) (by omega) | with_reducible refine Agree.alloc ?_ (by first | omega | go_size) _ | with_reducible refine Agree.setCell ?_ (by omega) _ | with_reducible refine Agree.drew ?_)))).ints).mono ?_; rintro e w7 ⟨rfl, hb7⟩; (have q70 := carry_cell hb7 q60); (have q71 := carry_cell hb7 q61); (have q72 := carry_cell hb7 q62); (have q73 := carry_cell hb7 q63)))
    all_goals
      go_wp2_with fail
      go_ret
      refine ⟨ret_bool ?_, ?_⟩
      · rw [P.out]; simp
      · exact (hB5.out.drew.trans (hb6.mono hB5.out.size)).trans (hb7.mono (Nat.le_trans hB5.out.size hb6.size))
  · have hw : w2.heap.size + 1 ≤ w3.heap.size := hs3
    go_wp2_with fail
    refine (sameInts_b (ho3.agree (by (repeat (first | assumption | with_reducible exact Agree.refl _ _ _ | with_reducible refine agree_below (by assumption) ?_ (by first | omega | go_size) | with_reducible refine agree_within (by assumption) ?_ (by first | omega | go_size) (by omega) | with_reducible refine Agree.alloc ?_ (by first | omega | go_size) _ | with_reducible refine Agree.setCell ?_ (by omega) _ | with_reducible refine Agree.drew ?_)))).ints (o4.agree (by (repeat (first | assumption | with_reducible exact Agree.refl _ _ _ | with_reducible refine agree_below (by assumption) ?_ (by first | omega | go_size) | with_reducible refine agree_within (by assumption) ?_ (by first | omega | go_size) (by omega) | with_reducible refine Agree.alloc ?_ (by first | omega | go_size) _ | with_reducible refine Agree.setCell ?_ (by omega) _ | with_reducible refine Agree.drew ?_)))).ints).mono ?_
    rintro e w5 ⟨rfl, hb5⟩
    obtain ⟨hc5, hf5⟩ := bcell hb5
    have hs5 : w4.heap.size + 0 ≤ w5.heap.size := Nat.le_trans (by go_size) hb5.size
    have hB5 : Hid (Below w.heap.size w w5) := below_via hb5 (by repeat (first | with_reducible exact Below.refl _ _ | with_reducible refine below_via (by assumption) ?_ (by go_size) | with_reducible refine below_within (by assumption) ?_ (by go_size) (by omega) | with_reducible refine Below.alloc ?_ (by go_size) _ | with_reducible refine Below.setCell ?_ (by go_size) _ | with_reducible refine Below.drew ?_)) (by go_size)
    go_wp2_with fail
    go_wp2_with (first | (go_at_call 21; refine (laws_alive _).mono ?_; rintro e w' ⟨rfl, rfl⟩))
    go_ret
    exact ⟨rfl, by repeat (first | with_reducible exact Below.refl _ _ | with_reducible refine below_via (by assumption) ?_ (by go_size) | with_reducible refine below_within (by assumption) ?_ (by go_size) (by omega) | with_reducible refine Below.alloc ?_ (by go_size) _ | with_reducible refine Below.setCell ?_ (by go_size) _ | with_reducible refine Below.drew ?_)⟩
set_option maxRecDepth 100000 in
theorem lifted_FnOrderUnique (os : Os) (started : os.Started) (H : Type) (enc : TypeId × Value → H) :
    ReturnsInHanded {} Try.checked os 6 .any (Rows.fnOrderUniqueSpec.pre6 enc Try.prog Try.f6 Rows.fnOrderUniqueRow.domain false) (Rows.fnOrderUniqueSpec.post enc Try.prog Try.f6 false true false false) := by
  refine returnsInHanded_of_change (C := Try.checked) own started (by kernel_rfl) Try.func6
    (ChangeSpec.witness6 (enc := enc) (C := Try.checked) false ⟨#[], #[.slice none 0 0, .slice none 0 0], []⟩ 8 (by kernel_rfl) (by kernel_rfl) (by kernel_rfl) (by kernel_rfl)) ?_
  intro W base args ds gs before hval0 hW hcnd _
  have hval : ∀ (j : Nat) t v, Try.f6.params[j]? = some t → args[j]? = some v → Value.okWide Try.prog W .any base t v := hval0
  have hW' := hW
  obtain ⟨p, q, hA0, hV, rfl, hfz, hnd⟩ := hW
  have hA : DataW.TrodAll enc Try.prog W 0 (fun _ => true) true Try.f6.params.toList args.toList ds p := hA0
  rw [Try.params6] at hA hval
  obtain ⟨v0, vs0, d0, ds0, p0, q0, hargs, rfl, rfl, h0, r0⟩ := trodAll_cons hA
  obtain ⟨v1, vs1, d1, ds1, p1, q1, rfl, rfl, rfl, h1, r1⟩ := trodAll_cons r0
  obtain ⟨rfl, rfl, rfl⟩ := trodAll_nil r1
  obtain rfl : args = #[v0, v1] := by cases args; simp_all
  obtain ⟨rfl, rfl⟩ := trodVars_none hV
  have lt0 : ∀ x ∈ p0, x.block < W.heap.size := by obtain ⟨m, hm⟩ := h0; exact DataW.trod_lt m _ _ _ hm
  have y0 := read_bytes (hval 0 22 v0 rfl rfl) h0
  have lt1 : ∀ x ∈ p1, x.block < W.heap.size := by obtain ⟨m, hm⟩ := h1; exact DataW.trod_lt m _ _ _ hm
  have y1 := read_bytes (hval 1 22 v1 rfl rfl) h1
  clear hA0 hval0
  refine (walk_FnOrderUnique v0 v1 W y0 y1).mono fun e W' ⟨he, bel⟩ => ?_
  subst he
  exact ⟨_, rfl, _, _, _, [], _, [], hW', trodAll_mk1 (shut_bool Try.underlying4 _), (trodAll_cons_mk (Below.trod laidOut (by kernel_rfl) (of_decide_eq_true (by kernel_rfl)) h0 bel lt0) (trodAll_cons_mk (Below.trod laidOut (by kernel_rfl) (of_decide_eq_true (by kernel_rfl)) h1 bel lt1) trodAll_mk0)), rfl, bel.frame _, fun h => by cases h⟩
theorem closed_FnOrderUnique : joinedFacts Try.prog 6 Try.f6 Rows.fnOrderUniqueSpec Rows.fnOrderUniqueRow = true := by
  unfold joinedFacts
  rw [shared.1, shared.2.1, shared.2.2.1, shared.2.2.2]
  kernel_rfl
/-- The given statement of FnOrderUnique. -/
theorem FnOrderUnique_holds : Rows.FnOrderUniqueSaid :=
  OpenClaim.holds_of_wide 6 Try.f6 rfl rfl rfl rfl rfl rfl rfl ⟨rfl, rfl, rfl, rfl, rfl⟩ rfl rfl rfl rfl rfl (by kernel_rfl) Try.func6 closed_FnOrderUnique
    (of_decide_eq_true (by kernel_rfl)) (by unfold Func.isWrapper; first | (rw [if_pos (by decide +kernel)]; kernel_rfl) | (rw [if_neg (by decide +kernel)]; exact ⟨rfl, rfl⟩))
    (fun os started H enc _ => lifted_FnOrderUnique os started H enc)

end Go.Proofs.Ytkddgcdlhamafaa
