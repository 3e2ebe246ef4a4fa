/- The walk of the function that copies a memory for the laws; a memory as an argument. No condition. -/
import Derived.Test.YtkkgolgmhckgoaaMemory
import Derived.Test.YtkkgolgmhckgoaaReadMore
namespace Go.Proofs.Ytkkgolgmhckgoaa
open Go.RowKit

/-- A memory of the call's own. -/
def MadeMem (ram : List Int) (rom : List (List Int)) (bank : Int) (w : World) (e : Ending) (w' : World) : Prop := ∃ v, e = .returned v ∧ OwnMem w.heap.size w'.heap.size w' v ram rom bank ∧ Below w.heap.size w w'
set_option maxHeartbeats 1000000 in
theorem laws_toMemory {v : Value} {ram : List Int} {rom : List (List Int)} {bank : Int} {w : World} (h : MemV w v ram rom bank) (z1 : ram.length ≤ 1000000000) (z2 : rom.length ≤ 1000000000) (z3 : sumLen rom ≤ 1000000000) :
    Calls Try.prog 84 #[v] w (MadeMem ram rom bank w) := by
  obtain ⟨v1, v2, rfl, h1, h2⟩ := h
  have H1 := Lib.hid h1
  have H2 := Lib.hid h2
  obtain ⟨a1, c1, rfl, _, _⟩ := ints_shape h1
  obtain ⟨a2, c2, rfl, _, _⟩ := mat_shape h2
  clear h1 h2
  go_enter Try.func84, Try.ntmps84
  go_wp2_with fail
  refine (laws_toIntS (((H1.out.alloc _).alloc _).alloc _) (by omega)).mono ?_
  rintro e w1 ⟨u1, rfl, o1, hb1⟩
  obtain ⟨hc1, hf1⟩ := bcell hb1
  have hs1 : w.heap.size + 3 ≤ w1.heap.size := Nat.le_trans (by go_size) hb1.size
  have z1_0 : w.heap.size < w1.heap.size := Nat.lt_of_lt_of_le (by go_size) hb1.size
  have z1_1 : w.heap.size + 1 < w1.heap.size := Nat.lt_of_lt_of_le (by go_size) hb1.size
  have z1_2 : w.heap.size + 2 < w1.heap.size := Nat.lt_of_lt_of_le (by go_size) hb1.size
  have hB1 : Hid (Below w.heap.size w w1) := below_via hb1 (by repeat (first | with_reducible exact Below.refl _ _ | with_reducible refine below_via (by assumption) ?_ (by go_size) | with_reducible refine below_within (by assumption) ?_ (by go_size) (by omega) | with_reducible refine Below.alloc ?_ (by go_size) _ | with_reducible refine Below.setCell ?_ (by go_size) _ | with_reducible refine Below.drew ?_)) (by go_size)
  have O1 := Lib.hid o1.own
  obtain ⟨x1, y1, rfl⟩ := own_shape O1.out
  clear o1
  go_wp2_with fail
  refine (laws_toIntSS (H2.out.below (hB1.out.setCell (p := ⟨w.heap.size + 1 + 1, 0, none⟩) (by show w.heap.size ≤ w.heap.size + 1 + 1; omega) _)) z2 z3).mono ?_
  rintro e w2 ⟨u2, rfl, o2, hb2⟩
  obtain ⟨hc2, hf2⟩ := bcell hb2
  have hs2 : w1.heap.size + 0 ≤ w2.heap.size := Nat.le_trans (by go_size) hb2.size
  have z2_0 : w.heap.size < w2.heap.size := Nat.lt_of_lt_of_le (by go_size) hb2.size
  have z2_1 : w.heap.size + 1 < w2.heap.size := Nat.lt_of_lt_of_le (by go_size) hb2.size
  have z2_2 : w.heap.size + 2 < w2.heap.size := Nat.lt_of_lt_of_le (by go_size) hb2.size
  have hB2 : Hid (Below w.heap.size w w2) := below_via hb2 (by repeat (first | with_reducible exact Below.refl _ _ | with_reducible refine below_via (by assumption) ?_ (by go_size) | with_reducible refine below_within (by assumption) ?_ (by go_size) (by omega) | with_reducible refine Below.alloc ?_ (by go_size) _ | with_reducible refine Below.setCell ?_ (by go_size) _ | with_reducible refine Below.drew ?_)) (by go_size)
  have O2 := Lib.hid o2
  obtain ⟨x2, y2, rfl, _, _⟩ := mat_shape O2.out.mat
  clear o2
  go_wp2_with fail
  have q0 : w2.cell? ⟨w.heap.size + 1, 0, none⟩ = some (.slice none 0 0) := (by (repeat (first | assumption | (simp [go_sem]; done) | with_reducible refine cell_be (by assumption) ?_ (by go_size) | with_reducible refine cell_sc ?_ (by omega) | with_reducible refine cell_al _ ?_)))
  have q1 : w2.cell? ⟨w.heap.size + 1, 1, none⟩ = some (.slice none 0 0) := (by (repeat (first | assumption | (simp [go_sem]; done) | with_reducible refine cell_be (by assumption) ?_ (by go_size) | with_reducible refine cell_sc ?_ (by omega) | with_reducible refine cell_al _ ?_)))
  have q2 : w2.cell? ⟨w.heap.size + 1, 2, none⟩ = some (.int .i64 0) := (by (repeat (first | assumption | (simp [go_sem]; done) | with_reducible refine cell_be (by assumption) ?_ (by go_size) | with_reducible refine cell_sc ?_ (by omega) | with_reducible refine cell_al _ ?_)))
  have O1' : Own (w.heap.size + 3) w1.heap.size w1 (.slice x1 ram.length y1) ram := O1.out.wide (by simp) (Nat.le_refl _)
  have O2' : OwnMat w1.heap.size w2.heap.size w2 (.slice x2 rom.length y2) rom := O2.out.wide (by rw [size_set]; exact Nat.le_refl _) (Nat.le_refl _)
  refine bodyPost_ret (v := .agg #[.slice x1 ram.length y1, .slice x2 rom.length y2, .int .i64 bank]) (by simp [results, Try.results84, go_sem, q0, q1, q2]) rfl ⟨_, rfl, ⟨_, _, w.heap.size + 3, w1.heap.size, w1.heap.size, w2.heap.size, rfl, ⟨by omega, by simp only [size_set]; omega, by omega, by simp only [size_set]; exact Nat.le_refl _, .inl (Nat.le_refl _)⟩, ?_, ?_⟩, ?_⟩
  · exact O1'.agree (by (repeat (first | assumption | with_reducible exact Agree.refl _ _ _ | with_reducible refine agree_below (by assumption) ?_ (by first | omega | go_size) | with_reducible refine agree_within (by assumption) ?_ (by first | omega | go_size) (by omega) | with_reducible refine Agree.alloc ?_ (by first | omega | go_size) _ | with_reducible refine Agree.setCell ?_ (by first | omega | (dsimp only; omega)) _ | with_reducible refine Agree.drew ?_)))
  · exact O2'.agree (by (repeat (first | assumption | with_reducible exact Agree.refl _ _ _ | with_reducible refine agree_below (by assumption) ?_ (by first | omega | go_size) | with_reducible refine agree_within (by assumption) ?_ (by first | omega | go_size) (by omega) | with_reducible refine Agree.alloc ?_ (by first | omega | go_size) _ | with_reducible refine Agree.setCell ?_ (by first | omega | (dsimp only; omega)) _ | with_reducible refine Agree.drew ?_)))
  · repeat (first | with_reducible exact Below.refl _ _ | with_reducible refine below_via (by assumption) ?_ (by go_size) | with_reducible refine below_within (by assumption) ?_ (by go_size) (by omega) | with_reducible refine Below.alloc ?_ (by go_size) _ | with_reducible refine Below.setCell ?_ (by go_size) _ | with_reducible refine Below.drew ?_)
end Go.Proofs.Ytkkgolgmhckgoaa
