/- The walks of the functions that compare memories and machines, at equal ones. No condition. -/
import Derived.Test.YtkkgolgmhckgoaaNewMach
namespace Go.Proofs.Ytkkgolgmhckgoaa
open Go.RowKit
set_option linter.unusedVariables false

theorem calls_at {P : Program} {f : FuncId} {args : Array Value} {w : World} {b b' : Bool} {R : World → Prop} (h : Calls P f args w fun e w' => e = .returned (.bool b) ∧ R w') (hb : b = b') : Calls P f args w fun e w' => e = .returned (.bool b') ∧ R w' := hb ▸ h
theorem sameRows_b {v u : Value} {xs ys : List (List Int)} {w : World} (h : Mat w v xs) (g : Mat w u ys) : Calls Try.prog 34 #[v, u] w fun e w' => e = .returned (.bool (xs == ys)) ∧ Below w.heap.size w w' := (laws_sameRows h g).mono fun _ _ ⟨he, q⟩ => ⟨he, q.below⟩
set_option maxHeartbeats 1000000 in
theorem laws_sameMemory {v u : Value} {ram : List Int} {rom : List (List Int)} {bank : Int} {w : World} (h : MemV w v ram rom bank) (g : MemV w u ram rom bank) :
    Calls Try.prog 26 #[v, u] w fun e w' => e = .returned (.bool true) ∧ Below w.heap.size w w' := by
  obtain ⟨a1, c1, b1, d1, rfl, _, _, _, _⟩ := memV_shape h
  obtain ⟨a2, c2, b2, d2, rfl, _, _, _, _⟩ := memV_shape g
  obtain ⟨i1, m1⟩ := memV_parts h
  obtain ⟨i2, m2⟩ := memV_parts g
  have I1 := Lib.hid i1
  have I2 := Lib.hid i2
  have M1 := Lib.hid m1
  have M2 := Lib.hid m2
  have e1 : (ram == ram) = true := by simp
  have e2 : (rom == rom) = true := by simp
  clear h g i1 i2 m1 m2
  go_enter Try.func26, Try.ntmps26
  go_wp2_with fail
  refine (calls_at (sameInts_b (I1.out.below (by go_grown)) (I2.out.below (by go_grown))) e1).mono ?_
  rintro e w1 ⟨rfl, hb1⟩
  obtain ⟨hc1, hf1⟩ := bcell hb1
  have hs1 : w.heap.size + 2 ≤ w1.heap.size := Nat.le_trans (by go_size) hb1.size
  have z1_0 : w.heap.size < w1.heap.size := Nat.lt_of_lt_of_le (by go_size) hb1.size
  have z1_1 : w.heap.size + 1 < w1.heap.size := Nat.lt_of_lt_of_le (by go_size) hb1.size
  have hB1 : Hid (Below w.heap.size w w1) := below_via hb1 (by repeat (first | with_reducible exact Below.refl _ _ | with_reducible refine below_via (by assumption) ?_ (by go_size) | with_reducible refine below_within (by assumption) ?_ (by go_size) (by omega) | with_reducible refine Below.alloc ?_ (by go_size) _ | with_reducible refine Below.setCell ?_ (by go_size) _ | with_reducible refine Below.drew ?_)) (by go_size)
  go_wp2_with fail
  refine (calls_at (sameRows_b (M1.out.below hB1.out) (M2.out.below hB1.out)) e2).mono ?_
  rintro e w2 ⟨rfl, hb2⟩
  obtain ⟨hc2, hf2⟩ := bcell hb2
  have hs2 : w1.heap.size + 0 ≤ w2.heap.size := Nat.le_trans (by go_size) hb2.size
  have z2_0 : w.heap.size < w2.heap.size := Nat.lt_of_lt_of_le (by go_size) hb2.size
  have z2_1 : w.heap.size + 1 < w2.heap.size := Nat.lt_of_lt_of_le (by go_size) hb2.size
  have hB2 : Hid (Below w.heap.size w w2) := below_via hb2 (by repeat (first | with_reducible exact Below.refl _ _ | with_reducible refine below_via (by assumption) ?_ (by go_size) | with_reducible refine below_within (by assumption) ?_ (by go_size) (by omega) | with_reducible refine Below.alloc ?_ (by go_size) _ | with_reducible refine Below.setCell ?_ (by go_size) _ | with_reducible refine Below.drew ?_)) (by go_size)
  go_wp2_with fail
  go_ret
  exact ⟨rfl, hB2.out⟩
set_option maxHeartbeats 1000000 in
theorem laws_sameMachine {v u : Value} {m : Mach} {w : World} (h : MachV w v m) (g : MachV w u m) :
    Calls Try.prog 37 #[v, u] w fun e w' => e = .returned (.bool true) ∧ Below w.heap.size w w' := by
  obtain ⟨r, mm, b, a, p, k, back, s, cy⟩ := m
  obtain ⟨a1, c1, b1, d1, f1, g1, rfl, _, _, _, _, _, _⟩ := machV_shape h
  obtain ⟨a2, c2, b2, d2, f2, g2, rfl, _, _, _, _, _, _⟩ := machV_shape g
  obtain ⟨m1, i1⟩ := machV_parts h
  obtain ⟨m2, i2⟩ := machV_parts g
  dsimp only at *
  have M1 := Lib.hid m1
  have M2 := Lib.hid m2
  have I1 := Lib.hid i1
  have I2 := Lib.hid i2
  have e1 : (back == back) = true := by simp
  clear h g m1 m2 i1 i2
  go_enter Try.func37, Try.ntmps37
  go_wp2_with fail
  refine (laws_sameMemory (M1.out.below (by go_grown)) (M2.out.below (by go_grown))).mono ?_
  rintro e w1 ⟨rfl, hb1⟩
  obtain ⟨hc1, hf1⟩ := bcell hb1
  have hs1 : w.heap.size + 2 ≤ w1.heap.size := Nat.le_trans (by go_size) hb1.size
  have z1_0 : w.heap.size < w1.heap.size := Nat.lt_of_lt_of_le (by go_size) hb1.size
  have z1_1 : w.heap.size + 1 < w1.heap.size := Nat.lt_of_lt_of_le (by go_size) hb1.size
  have hB1 : Hid (Below w.heap.size w w1) := below_via hb1 (by repeat (first | with_reducible exact Below.refl _ _ | with_reducible refine below_via (by assumption) ?_ (by go_size) | with_reducible refine below_within (by assumption) ?_ (by go_size) (by omega) | with_reducible refine Below.alloc ?_ (by go_size) _ | with_reducible refine Below.setCell ?_ (by go_size) _ | with_reducible refine Below.drew ?_)) (by go_size)
  go_wp2_with fail
  refine (calls_at (sameInts_b (I1.out.below hB1.out) (I2.out.below hB1.out)) e1).mono ?_
  rintro e w2 ⟨rfl, hb2⟩
  obtain ⟨hc2, hf2⟩ := bcell hb2
  have hs2 : w1.heap.size + 0 ≤ w2.heap.size := Nat.le_trans (by go_size) hb2.size
  have z2_0 : w.heap.size < w2.heap.size := Nat.lt_of_lt_of_le (by go_size) hb2.size
  have z2_1 : w.heap.size + 1 < w2.heap.size := Nat.lt_of_lt_of_le (by go_size) hb2.size
  have hB2 : Hid (Below w.heap.size w w2) := below_via hb2 (by repeat (first | with_reducible exact Below.refl _ _ | with_reducible refine below_via (by assumption) ?_ (by go_size) | with_reducible refine below_within (by assumption) ?_ (by go_size) (by omega) | with_reducible refine Below.alloc ?_ (by go_size) _ | with_reducible refine Below.setCell ?_ (by go_size) _ | with_reducible refine Below.drew ?_)) (by go_size)
  go_wp2_with fail
  go_ret
  exact ⟨rfl, hB2.out⟩
end Go.Proofs.Ytkkgolgmhckgoaa
