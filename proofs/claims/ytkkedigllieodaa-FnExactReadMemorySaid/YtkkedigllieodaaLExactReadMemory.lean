/- The law FnExactReadMemory: for every input it answers true, and changes nothing that was there. No condition. -/
import Derived.Test.YtkkedigllieodaaReadMem
import Derived.Deep.RegionWith
import Derived.Test.YtkkedigllieodaaMemRead
namespace Go.Proofs.Ytkkedigllieodaa
open Go.ChangeShapes Go.WideShapes Go.ChangeAt Go.RowKit
set_option linter.unusedVariables false

set_option maxHeartbeats 4000000 in
theorem walk_FnExactReadMemory (v0 v1 : Value) (w : World) (y0 : IsMem w v0) (y1 : IsInt w v1) : Calls Try.prog 8 #[v0, v1] w fun e w' => e = .returned (.bool true) ∧ Below w.heap.size w w' := by
  obtain ⟨ram, rom, bank, y0⟩ := y0
  obtain ⟨p, rfl⟩ := y1
  have hY := Lib.hid y0
  obtain ⟨za, zc, zb, zd, rfl, _, _, _, _⟩ := memV_shape y0
  clear y0
  have k1 : (1048576 : Int) ≤ 1048576 := by omega
  have k2 : (0 : Int) ≤ 1048576 := by omega
  go_enter Try.func8, Try.ntmps8
  go_wp2_with fail
  refine (laws_szMemory (hY.out.alloc _) k1 k2).mono ?_
  rintro e w1 ⟨rfl, hb1⟩
  obtain ⟨hc1, hf1⟩ := bcell hb1
  have hs1 : w.heap.size + 1 ≤ w1.heap.size := Nat.le_trans (by go_size) hb1.size
  have z1_0 : w.heap.size < w1.heap.size := Nat.lt_of_lt_of_le (by go_size) hb1.size
  have hB1 : Hid (Below w.heap.size w w1) := below_via hb1 (by repeat (first | with_reducible exact Below.refl _ _ | with_reducible refine below_via (by assumption) ?_ (by go_size) | with_reducible refine below_within (by assumption) ?_ (by go_size) (by omega) | with_reducible refine Below.alloc ?_ (by go_size) _ | with_reducible refine Below.setCell ?_ (by go_size) _ | with_reducible refine Below.drew ?_)) (by go_size)
  by_cases hneg : szMem 1048576 ram rom < 0
  · go_wp2_with fail
    go_ret
    refine ⟨rfl, ?_⟩
    repeat (first | with_reducible exact Below.refl _ _ | with_reducible refine below_via (by assumption) ?_ (by go_size) | with_reducible refine below_within (by assumption) ?_ (by go_size) (by omega) | with_reducible refine Below.alloc ?_ (by go_size) _ | with_reducible refine Below.setCell ?_ (by go_size) _ | with_reducible refine Below.drew ?_)
  obtain ⟨b1, b2, b3⟩ := szMem_ok hneg
  go_wp2_with fail
  refine (laws_toMemory (hY.out.below hB1.out) (by omega) (by omega) (by omega)).mono ?_
  rintro e w2 ⟨v2, rfl, o2, hb2⟩
  obtain ⟨hc2, hf2⟩ := bcell hb2
  have hs2 : w1.heap.size + 0 ≤ w2.heap.size := Nat.le_trans (by go_size) hb2.size
  have z2_0 : w.heap.size < w2.heap.size := Nat.lt_of_lt_of_le (by go_size) hb2.size
  have hB2 : Hid (Below w.heap.size w w2) := below_via hb2 (by repeat (first | with_reducible exact Below.refl _ _ | with_reducible refine below_via (by assumption) ?_ (by go_size) | with_reducible refine below_within (by assumption) ?_ (by go_size) (by omega) | with_reducible refine Below.alloc ?_ (by go_size) _ | with_reducible refine Below.setCell ?_ (by go_size) _ | with_reducible refine Below.drew ?_)) (by go_size)
  go_wp2_with fail
  refine (spec_ReadMemory p (o2.agree (by (repeat (first | assumption | with_reducible exact Agree.refl _ _ _ | with_reducible refine agree_below (by assumption) ?_ (by first | omega | go_size) | with_reducible refine agree_within (by assumption) ?_ (by first | omega | go_size) (by omega) | with_reducible refine Agree.alloc ?_ (by first | omega | go_size) _ | with_reducible refine Agree.setCell ?_ (by first | omega | (dsimp only; omega)) _ | with_reducible refine Agree.drew ?_)))).mem).mono ?_
  rintro e w3 ⟨rfl, hb3⟩
  obtain ⟨hc3, hf3⟩ := bcell hb3
  have hs3 : w2.heap.size + 0 ≤ w3.heap.size := Nat.le_trans (by go_size) hb3.size
  have z3_0 : w.heap.size < w3.heap.size := Nat.lt_of_lt_of_le (by go_size) hb3.size
  have hB3 : Hid (Below w.heap.size w w3) := below_via hb3 (by repeat (first | with_reducible exact Below.refl _ _ | with_reducible refine below_via (by assumption) ?_ (by go_size) | with_reducible refine below_within (by assumption) ?_ (by go_size) (by omega) | with_reducible refine Below.alloc ?_ (by go_size) _ | with_reducible refine Below.setCell ?_ (by go_size) _ | with_reducible refine Below.drew ?_)) (by go_size)
  go_wp2_with fail
  refine (laws_toMemory (hY.out.below hB3.out) (by omega) (by omega) (by omega)).mono ?_
  rintro e w4 ⟨v4, rfl, o4, hb4⟩
  obtain ⟨hc4, hf4⟩ := bcell hb4
  have hs4 : w3.heap.size + 0 ≤ w4.heap.size := Nat.le_trans (by go_size) hb4.size
  have z4_0 : w.heap.size < w4.heap.size := Nat.lt_of_lt_of_le (by go_size) hb4.size
  have hB4 : Hid (Below w.heap.size w w4) := below_via hb4 (by repeat (first | with_reducible exact Below.refl _ _ | with_reducible refine below_via (by assumption) ?_ (by go_size) | with_reducible refine below_within (by assumption) ?_ (by go_size) (by omega) | with_reducible refine Below.alloc ?_ (by go_size) _ | with_reducible refine Below.setCell ?_ (by go_size) _ | with_reducible refine Below.drew ?_)) (by go_size)
  have O4 := Lib.hid o4
  obtain ⟨a4, c4, b4, d4, rfl, _, _, _, _⟩ := memV_shape O4.out.mem
  clear o4
  go_wp2_with fail
  refine (impl_ReadMemory p (O4.out.agree (by (repeat (first | assumption | with_reducible exact Agree.refl _ _ _ | with_reducible refine agree_below (by assumption) ?_ (by first | omega | go_size) | with_reducible refine agree_within (by assumption) ?_ (by first | omega | go_size) (by omega) | with_reducible refine Agree.alloc ?_ (by first | omega | go_size) _ | with_reducible refine Agree.setCell ?_ (by first | omega | (dsimp only; omega)) _ | with_reducible refine Agree.drew ?_)))).mem).mono ?_
  rintro e w5 ⟨rfl, hb5⟩
  obtain ⟨hc5, hf5⟩ := bcell hb5
  have hs5 : w4.heap.size + 1 ≤ w5.heap.size := Nat.le_trans (by go_size) hb5.size
  have z5_0 : w.heap.size < w5.heap.size := Nat.lt_of_lt_of_le (by go_size) hb5.size
  have z5_1 : w4.heap.size < w5.heap.size := Nat.lt_of_lt_of_le (by go_size) hb5.size
  have hB5 : Hid (Below w.heap.size w w5) := below_via hb5 (by repeat (first | with_reducible exact Below.refl _ _ | with_reducible refine below_via (by assumption) ?_ (by go_size) | with_reducible refine below_within (by assumption) ?_ (by go_size) (by omega) | with_reducible refine Below.alloc ?_ (by go_size) _ | with_reducible refine Below.setCell ?_ (by go_size) _ | with_reducible refine Below.drew ?_)) (by go_size)
  go_wp2_with fail
  have q0 : w5.cell? ⟨w.heap.size, 0, none⟩ = some (.slice za ram.length zc) := (by (repeat (first | assumption | (simp [go_sem]; done) | with_reducible refine cell_be (by assumption) ?_ (by go_size) | with_reducible refine cell_sc ?_ (by omega) | with_reducible refine cell_al _ ?_)))
  have q1 : w5.cell? ⟨w.heap.size, 1, none⟩ = some (.slice zb rom.length zd) := (by (repeat (first | assumption | (simp [go_sem]; done) | with_reducible refine cell_be (by assumption) ?_ (by go_size) | with_reducible refine cell_sc ?_ (by omega) | with_reducible refine cell_al _ ?_)))
  have q2 : w5.cell? ⟨w.heap.size, 2, none⟩ = some (.int .i64 bank) := (by (repeat (first | assumption | (simp [go_sem]; done) | with_reducible refine cell_be (by assumption) ?_ (by go_size) | with_reducible refine cell_sc ?_ (by omega) | with_reducible refine cell_al _ ?_)))
  have p0 : w5.cell? ⟨w4.heap.size, 0, none⟩ = some (.slice a4 ram.length c4) := (by (repeat (first | assumption | (simp [go_sem]; done) | with_reducible refine cell_be (by assumption) ?_ (by go_size) | with_reducible refine cell_sc ?_ (by omega) | with_reducible refine cell_al _ ?_)))
  have p1 : w5.cell? ⟨w4.heap.size, 1, none⟩ = some (.slice b4 rom.length d4) := (by (repeat (first | assumption | (simp [go_sem]; done) | with_reducible refine cell_be (by assumption) ?_ (by go_size) | with_reducible refine cell_sc ?_ (by omega) | with_reducible refine cell_al _ ?_)))
  have p2 : w5.cell? ⟨w4.heap.size, 2, none⟩ = some (.int .i64 bank) := (by (repeat (first | assumption | (simp [go_sem]; done) | with_reducible refine cell_be (by assumption) ?_ (by go_size) | with_reducible refine cell_sc ?_ (by omega) | with_reducible refine cell_al _ ?_)))
  have hE : eqM ram rom bank ram rom bank = true := by simp [eqM]
  clear hc1 hc2 hc3 hc4 hc5 hf1 hf2 hf3 hf4 hf5
  go_region_with (first
    | (go_at_call 49; refine (laws_toMemory (hY.out.below hB5.out.drew) (by omega) (by omega) (by omega)).mono ?_; rintro e w6 ⟨v6, rfl, o6, hb6⟩; (have r0 := cell_be (w' := w6) hb6 p0 z5_1); (have r1 := cell_be (w' := w6) hb6 p1 z5_1); (have r2 := cell_be (w' := w6) hb6 p2 z5_1))
    | (go_at_call 51; refine (laws_eqMemory (O4.out.agree (by (repeat (first | assumption | with_reducible exact Agree.refl _ _ _ | with_reducible refine agree_below (by assumption) ?_ (by first | omega | go_size) | with_reducible refine agree_within (by assumption) ?_ (by first | omega | go_size) (by omega) | with_reducible refine Agree.alloc ?_ (by first | omega | go_size) _ | with_reducible refine Agree.setCell ?_ (by first | omega | (dsimp only; omega)) _ | with_reducible refine Agree.drew ?_)))).mem o6.mem).mono ?_; rintro e w7 ⟨rfl, hb7⟩))
  all_goals
    go_wp2_with fail
    go_ret
    refine ⟨rfl, ?_⟩
    exact (hB5.out.drew.trans (hb6.mono hB5.out.size)).trans (hb7.mono (Nat.le_trans hB5.out.size hb6.size))
set_option maxRecDepth 100000 in
theorem lifted_FnExactReadMemory (os : Os) (started : os.Started) (H : Type) (enc : TypeId × Value → H) :
    ReturnsInHanded {} Try.checked os 8 .any (Rows.fnExactReadMemorySpec.pre6 enc Try.prog Try.f8 Rows.fnExactReadMemoryRow.domain false) (Rows.fnExactReadMemorySpec.post enc Try.prog Try.f8 false true false false) := by
  refine returnsInHanded_of_change (C := Try.checked) own started (by kernel_rfl) Try.func8
    (ChangeSpec.witness6 (enc := enc) (C := Try.checked) false ⟨#[], #[.agg #[.slice none 0 0, .slice none 0 0, .int .i64 0], .int .i64 0], []⟩ 8 (by kernel_rfl) (by kernel_rfl) (by kernel_rfl) (by kernel_rfl)) ?_
  intro W base args ds gs before hval0 hW hcnd _
  have hval : ∀ (j : Nat) t v, Try.f8.params[j]? = some t → args[j]? = some v → Value.okWide Try.prog W .any base t v := hval0
  have hW' := hW
  obtain ⟨p, q, hA0, hV, rfl, hfz, hnd⟩ := hW
  have hA : DataW.TrodAll enc Try.prog W 0 (fun _ => true) true Try.f8.params.toList args.toList ds p := hA0
  rw [Try.params8] at hA hval
  obtain ⟨v0, vs0, d0, ds0, p0, q0, hargs, rfl, rfl, h0, r0⟩ := trodAll_cons hA
  obtain ⟨v1, vs1, d1, ds1, p1, q1, rfl, rfl, rfl, h1, r1⟩ := trodAll_cons r0
  obtain ⟨rfl, rfl, rfl⟩ := trodAll_nil r1
  obtain rfl : args = #[v0, v1] := by cases args; simp_all
  obtain ⟨rfl, rfl⟩ := trodVars_none hV
  have lt0 : ∀ x ∈ p0, x.block < W.heap.size := by obtain ⟨m, hm⟩ := h0; exact DataW.trod_lt m _ _ _ hm
  have y0 := read_Memory (hval 0 44 v0 rfl rfl) h0
  have lt1 : ∀ x ∈ p1, x.block < W.heap.size := by obtain ⟨m, hm⟩ := h1; exact DataW.trod_lt m _ _ _ hm
  have y1 := read_int (hval 1 3 v1 rfl rfl) h1
  clear hA0 hval0
  refine (walk_FnExactReadMemory v0 v1 W y0 y1).mono fun e W' ⟨he, bel⟩ => ?_
  subst he
  exact ⟨_, rfl, _, _, _, [], _, [], hW', trodAll_mk1 (shut_bool Try.underlying4 _), (trodAll_cons_mk (Below.trod laidOut (by kernel_rfl) (of_decide_eq_true (by kernel_rfl)) h0 bel lt0) (trodAll_cons_mk (Below.trod laidOut (by kernel_rfl) (of_decide_eq_true (by kernel_rfl)) h1 bel lt1) trodAll_mk0)), rfl, bel.frame _, fun h => by cases h⟩
theorem closed_FnExactReadMemory : joinedFacts Try.prog 8 Try.f8 Rows.fnExactReadMemorySpec Rows.fnExactReadMemoryRow = true := by
  unfold joinedFacts
  rw [shared.1, shared.2.1, shared.2.2.1, shared.2.2.2]
  kernel_rfl
/-- The given statement of FnExactReadMemory. -/
theorem FnExactReadMemory_holds : Rows.FnExactReadMemorySaid :=
  OpenClaim.holds_of_wide 8 Try.f8 rfl rfl rfl rfl rfl rfl rfl ⟨rfl, rfl, rfl, rfl, rfl⟩ rfl rfl rfl rfl rfl (by kernel_rfl) Try.func8 closed_FnExactReadMemory
    (of_decide_eq_true (by kernel_rfl)) (by unfold Func.isWrapper; first | (rw [if_pos (by decide +kernel)]; kernel_rfl) | (rw [if_neg (by decide +kernel)]; exact ⟨rfl, rfl⟩))
    (fun os started H enc _ => lifted_FnExactReadMemory os started H enc)

end Go.Proofs.Ytkkedigllieodaa
