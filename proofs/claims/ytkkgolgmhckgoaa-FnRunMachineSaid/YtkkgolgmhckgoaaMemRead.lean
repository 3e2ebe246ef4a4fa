/- The walks of ReadMemory. No condition. -/
import Derived.Test.YtkkgolgmhckgoaaPoke
namespace Go.Proofs.Ytkkgolgmhckgoaa
open Go.RowKit
set_option linter.unusedVariables false

theorem calls_eqv {P : Program} {f : FuncId} {args : Array Value} {w : World} {b b' : Bool} {R : World → Prop} (h : Calls P f args w fun e w' => e = .returned (.bool b) ∧ R w') (hb : b = b') : Calls P f args w fun e w' => e = .returned (.bool b') ∧ R w' := hb ▸ h
theorem readV_no {ram : List Int} {rom : List (List Int)} {bank p : Int} (h : (memB ram rom bank && inR p 0 1023) = false) : readV ram rom bank p = 0 := by simp [readV, h]
theorem readV_yes {ram : List Int} {rom : List (List Int)} {bank p : Int} (h : memB ram rom bank = true) (h1 : inR p 0 1023 = true) : readV ram rom bank p = peekL ram rom bank p := by simp [readV, h, h1]
set_option maxHeartbeats 1000000 in
theorem impl_ReadMemory {v : Value} {ram : List Int} {rom : List (List Int)} {bank : Int} (p : Int) {w : World} (h : MemV w v ram rom bank) :
    Calls Try.prog 28 #[v, .int .i64 p] w fun e w' => e = .returned (.int .i64 (readV ram rom bank p)) ∧ Below w.heap.size w w' := by
  have H := Lib.hid h
  obtain ⟨a, c, b, d, rfl, k1, k2, k3, k4⟩ := memV_shape h
  clear h
  cases hv : memB ram rom bank
  · have E : Hid (readV ram rom bank p = 0) := readV_no (by simp [hv])
    go_enter Try.func28, Try.ntmps28
    go_wp2_with fail
    refine (calls_eqv (impl_MemoryValid (H.out.below (by go_grown))) hv).mono ?_
    rintro e w1 ⟨rfl, hb1⟩
    obtain ⟨hc1, hf1⟩ := bcell hb1
    have hs1 : w.heap.size + 1 ≤ w1.heap.size := Nat.le_trans (by go_size) hb1.size
    have z1_0 : w.heap.size < w1.heap.size := Nat.lt_of_lt_of_le (by go_size) hb1.size
    have hB1 : Hid (Below w.heap.size w w1) := below_via hb1 (by repeat (first | with_reducible exact Below.refl _ _ | with_reducible refine below_via (by assumption) ?_ (by go_size) | with_reducible refine below_within (by assumption) ?_ (by go_size) (by omega) | with_reducible refine Below.alloc ?_ (by go_size) _ | with_reducible refine Below.setCell ?_ (by go_size) _ | with_reducible refine Below.drew ?_)) (by go_size)
    go_wp2_with fail
    go_ret
    exact ⟨ret_int E.out.symm, by repeat (first | with_reducible exact Below.refl _ _ | with_reducible refine below_via (by assumption) ?_ (by go_size) | with_reducible refine below_within (by assumption) ?_ (by go_size) (by omega) | with_reducible refine Below.alloc ?_ (by go_size) _ | with_reducible refine Below.setCell ?_ (by go_size) _ | with_reducible refine Below.drew ?_)⟩
  cases hi : inR p 0 1023
  · have E : Hid (readV ram rom bank p = 0) := readV_no (by simp [hi])
    go_enter Try.func28, Try.ntmps28
    go_wp2_with fail
    refine (calls_eqv (impl_MemoryValid (H.out.below (by go_grown))) hv).mono ?_
    rintro e w1 ⟨rfl, hb1⟩
    obtain ⟨hc1, hf1⟩ := bcell hb1
    have hs1 : w.heap.size + 1 ≤ w1.heap.size := Nat.le_trans (by go_size) hb1.size
    have z1_0 : w.heap.size < w1.heap.size := Nat.lt_of_lt_of_le (by go_size) hb1.size
    have hB1 : Hid (Below w.heap.size w w1) := below_via hb1 (by repeat (first | with_reducible exact Below.refl _ _ | with_reducible refine below_via (by assumption) ?_ (by go_size) | with_reducible refine below_within (by assumption) ?_ (by go_size) (by omega) | with_reducible refine Below.alloc ?_ (by go_size) _ | with_reducible refine Below.setCell ?_ (by go_size) _ | with_reducible refine Below.drew ?_)) (by go_size)
    go_wp2_with fail
    refine (calls_eqv (impl_within _ _ _ _) hi).mono ?_
    rintro e w' ⟨rfl, rfl⟩
    go_wp2_with fail
    go_ret
    exact ⟨ret_int E.out.symm, by repeat (first | with_reducible exact Below.refl _ _ | with_reducible refine below_via (by assumption) ?_ (by go_size) | with_reducible refine below_within (by assumption) ?_ (by go_size) (by omega) | with_reducible refine Below.alloc ?_ (by go_size) _ | with_reducible refine Below.setCell ?_ (by go_size) _ | with_reducible refine Below.drew ?_)⟩
  · have E : Hid (readV ram rom bank p = peekL ram rom bank p) := readV_yes hv hi
    obtain ⟨i0, i1⟩ := inR_iff.1 hi
    have hs := shp_of hv
    go_enter Try.func28, Try.ntmps28
    go_wp2_with fail
    refine (calls_eqv (impl_MemoryValid (H.out.below (by go_grown))) hv).mono ?_
    rintro e w1 ⟨rfl, hb1⟩
    obtain ⟨hc1, hf1⟩ := bcell hb1
    have hs1 : w.heap.size + 1 ≤ w1.heap.size := Nat.le_trans (by go_size) hb1.size
    have z1_0 : w.heap.size < w1.heap.size := Nat.lt_of_lt_of_le (by go_size) hb1.size
    have hB1 : Hid (Below w.heap.size w w1) := below_via hb1 (by repeat (first | with_reducible exact Below.refl _ _ | with_reducible refine below_via (by assumption) ?_ (by go_size) | with_reducible refine below_within (by assumption) ?_ (by go_size) (by omega) | with_reducible refine Below.alloc ?_ (by go_size) _ | with_reducible refine Below.setCell ?_ (by go_size) _ | with_reducible refine Below.drew ?_)) (by go_size)
    go_wp2_with fail
    refine (calls_eqv (impl_within _ _ _ _) hi).mono ?_
    rintro e w' ⟨rfl, rfl⟩
    go_wp2_with fail
    have hm := H.out.below hB1.out
    obtain ⟨x1, x2, e0, hi1, hm1⟩ := hm
    simp only [Value.agg.injEq, Array.mk.injEq, List.cons.injEq, and_true] at e0
    obtain ⟨rfl, rfl⟩ := e0
    have hA : Hid (MemAt w1 w.heap.size ram rom bank a c b d) := ⟨by rw [hc1 _ _ (by go_size)]; simp [go_sem], by rw [hc1 _ _ (by go_size)]; simp [go_sem], by rw [hc1 _ _ (by go_size)]; simp [go_sem], hi1, hm1⟩
    clear hi1 hm1
    refine (impl_peek hA.out hs i0 i1).mono ?_
    rintro e w2 ⟨rfl, n2, rfl⟩
    go_wp2_with fail
    go_ret
    exact ⟨ret_int E.out.symm, hB1.out.trans ⟨rfl, rfl, rfl, Nat.le_refl _, fun _ _ => rfl⟩⟩
end Go.Proofs.Ytkkgolgmhckgoaa
