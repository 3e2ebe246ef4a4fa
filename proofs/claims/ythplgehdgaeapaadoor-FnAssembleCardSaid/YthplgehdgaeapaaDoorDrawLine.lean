/- The drawn texts of instructions: whatever the code, a text of at most 40 bytes. No condition. -/
import Derived.Test.YthplgehdgaeapaaDoorDrawOrd
import Derived.Test.YthplgehdgaeapaaDoorParseS
import Derived.Deep.RegionHeld3
import Derived.Deep.RegionWith
import Derived.Deep.DrawnRows
import Derived.Deep.DeepCutAuto
namespace Go.Proofs.YthplgehdgaeapaaDoor
open Go.RowKit
set_option linter.unusedVariables false
set_option linter.unusedSimpArgs false

def StrUpTo (n : Nat) (v : Value) : Prop := ∃ s : ByteArray, v = .string s ∧ s.size ≤ n
theorem Reader.drewM' {w : World} {rb B : Nat} (h : Reader w rb B) : Reader w.drew rb B := h.below (Below.refl _ _).drew
theorem six_at {j : Nat} (h : j < 6) : ∃ m : ByteArray, m.size ≤ 1 ∧ ∀ X : World, (X.alloc (.cells #[.string ⟨#[]⟩, .string ⟨#[32]⟩, .string ⟨#[48]⟩, .string ⟨#[120]⟩, .string ⟨#[49]⟩, .string ⟨#[45]⟩] 9)).cell? ⟨X.heap.size, j, none⟩ = some (.string m) := by
  match j, h with
  | 0, _ => exact ⟨⟨#[]⟩, by decide, fun X => by rw [World.cell?_alloc_new]; rfl⟩
  | 1, _ => exact ⟨⟨#[32]⟩, by decide, fun X => by rw [World.cell?_alloc_new]; rfl⟩
  | 2, _ => exact ⟨⟨#[48]⟩, by decide, fun X => by rw [World.cell?_alloc_new]; rfl⟩
  | 3, _ => exact ⟨⟨#[120]⟩, by decide, fun X => by rw [World.cell?_alloc_new]; rfl⟩
  | 4, _ => exact ⟨⟨#[49]⟩, by decide, fun X => by rw [World.cell?_alloc_new]; rfl⟩
  | 5, _ => exact ⟨⟨#[45]⟩, by decide, fun X => by rw [World.cell?_alloc_new]; rfl⟩
  | n + 6, h => omega
theorem fmt_len' (op arg : Int) : (fmtS op arg).size ≤ 11 := by
  cases h : ovB op arg
  · rw [fmtS_no h]; exact Nat.zero_le _
  · exact fmt_len h
set_option maxHeartbeats 4000000 in
set_option maxRecDepth 20000 in
theorem l20Line {rb B : Nat} {w0 : World} (n : Int) (hR0 : Reader w0 rb B) (hB : B ≤ 100000) :
    Calls Tryd.prog 60 #[.pointer (some ⟨rb, 0, none⟩), .int .i64 n] w0 (Picks rb (B + 16) w0 (StrUpTo 40)) := by
  go_enter Tryd.func60, Tryd.ntmps60
  go_wp2_with fail
  refine (l20Order 0 hR0 (by omega)).mono ?_
  rintro e w1 ⟨v, rfl, ⟨o, a, rfl⟩, hR1, hK1⟩
  go_wp2_with fail
  refine (spec_FormatOrder o a _).mono ?_
  rintro e w2 ⟨rfl, hb2⟩
  have hz := fmt_len' o a
  have hR2 := hR1.below hb2
  have hK2 : Keep rb w0 w2 := hK1.trans (Keep.ofBelow hb2)
  obtain ⟨s, hs⟩ : ∃ s, s = fmtS o a := ⟨_, rfl⟩
  rw [← hs] at hz ⊢
  clear hs hb2 hR1 hK1
  go_wp2_with fail
  refine (odd n hR2 (by omega)).mono ?_
  rintro e w3 ⟨v, rfl, ⟨b, rfl⟩, hR3, hK3⟩
  have hK03 := hK2.trans hK3
  clear hK2 hK3 hR2
  cases b
  · go_wp2_with fail
    go_ret
    exact ⟨_, rfl, ⟨s, rfl, by omega⟩, hR3.mono (by omega), hK03⟩
  · go_wp2_with fail
    refine (pick _ hR3 (by omega)).mono ?_
    rintro e w4 ⟨v, rfl, ⟨x4, rfl, y4, z4⟩, hR4, hK4⟩
    have hK04 := hK03.trans hK4
    have hx4 : x4 ≤ s.size := by omega
    have hlt := hR4.lt
    have hne : w4.heap.size ≠ rb := by omega
    clear hK03 hK4 hR3 hR0 z4
    go_upto_region 4 with fail
    go_cut [5] (fun s5 wx => ∃ t : ByteArray, s5 = .string t ∧ t.size ≤ 40 ∧ Reader wx rb (B + 16) ∧ Keep rb w4 wx)
    case first =>
      go_region_with (first
        | (go_at_call_of 55 (Value.int IntKind.i64 6); refine (pick 6 (B := B + 14) (Reader.mono (B := B + 14) (by first | exact hR4.drewM' | exact (hR4.alloc _).drewM') (Nat.le_refl _)) (by omega)).mono ?_; rintro e w5 ⟨v, rfl, ⟨y, rfl, y0, y1⟩, hR5, hK5⟩; (obtain ⟨j, rfl⟩ := Int.eq_ofNat_of_zero_le y0); (have j6 : (j : Int) < 6 := by omega); (obtain ⟨m, hm1, hm⟩ := six_at (j := j) (by omega)); (have hz5 := hK5.size); (have hc5 := hK5.cells.1); (first | (have k5 := (hc5 w4.heap.size j (by go_size) hne).trans (hm w4); have hz5' : w4.heap.size < w5.heap.size := Nat.lt_of_lt_of_le (by go_size) hz5) | (have hz5' : w4.heap.size ≤ w5.heap.size := hz5)); (have hlt5 := hR5.lt); (have hne5 : w5.heap.size ≠ rb := by omega))
        | (go_at_call_of 55 (Value.int IntKind.i64 2); refine (pick 2 (B := B + 15) (by first | exact hR5 | exact hR5.alloc _) (by omega)).mono ?_; rintro e w6 ⟨v, rfl, ⟨x, rfl, x0, x1⟩, hR6, hK6⟩; (have hz6 := hK6.size); (have hc6 := hK6.cells.1); (have hxw : IntKind.i64.wrap (x4 + x) = x4 + x := by rw [IntKind.wrap_i64]; omega); (obtain ⟨q, q0, q1, hq⟩ : ∃ q : Int, 0 ≤ q ∧ q ≤ s.size ∧ min (s.size : Int) (x4 + x) = q := ⟨_, by omega, by omega, rfl⟩)))
      all_goals
        go_wp2_with fail
        go_meet
        refine ⟨_, rfl, ?_, ?_, ?_⟩
        · simp only [ByteArray.size_append, ByteArray.size_extract]; omega
        · first | exact hR6.mono (by omega) | exact (hR6.alloc _).mono (by omega) | exact hR6.drewM'.mono (by omega) | exact (hR6.alloc _).drewM'.mono (by omega)
        · first | exact ((((Keep.refl _ _).alloc _).drew).trans hK5).trans hK6 | exact (((Keep.refl _ _).drew.trans hK5).alloc _).trans hK6 | exact (((Keep.refl _ _).drew.trans hK5).trans hK6).alloc _
    case rest =>
      obtain ⟨t, rfl, ht, hRx, hKx⟩ := hcut
      go_wp2_with fail
      go_ret
      exact ⟨_, rfl, ⟨t, rfl, ht⟩, hRx, hK04.trans hKx⟩
end Go.Proofs.YthplgehdgaeapaaDoor
