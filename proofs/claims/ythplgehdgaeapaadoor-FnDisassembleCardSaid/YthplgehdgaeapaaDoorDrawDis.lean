/- The drawn list of Disassemble's law. No condition. -/
import Derived.Test.YthplgehdgaeapaaDoorDrawCode
import Derived.Test.YthplgehdgaeapaaDoorDisL
namespace Go.Proofs.YthplgehdgaeapaaDoor
open Go.RowKit
set_option linter.unusedVariables false
def DrawnInts (w : World) (e : Ending) (w' : World) : Prop := ∃ v zs, e = .returned v ∧ Ints w' v zs ∧ zs.length ≤ 1000 ∧ Below w.heap.size w w'
set_option maxHeartbeats 1000000 in
theorem draw_Disassemble {v : Value} {w : World} (h : IsBytes w v) : Calls Tryd.prog 34 #[v] w (DrawnInts w) := by
  have H := Lib.hid h
  clear h
  go_enter Tryd.func34, Tryd.ntmps34
  go_wp2_with fail
  refine (l20Open H.out).mono ?_
  rintro e w0 ⟨rb, rfl, hrb, hR0, hB0⟩
  have HB0 := Lib.hid hB0
  clear hB0
  go_wp2_with fail
  refine (odd _ hR0 (by omega)).mono ?_
  rintro e w1 ⟨v1, rfl, ⟨b, rfl⟩, hR1, hK1⟩
  have HB1 : Hid (Below w.heap.size w w1) := hK1.below HB0.out hrb
  cases b
  · go_wp2_with fail
    refine (l20Code _ hR1 (by omega)).mono ?_
    rintro e w2 ⟨v2, zs, rfl, ho, hl, hR2, hK2⟩
    have HB2 : Hid (Below w.heap.size w w2) := hK2.below HB1.out hrb
    have HO := Lib.hid ho.ints
    clear ho
    go_wp2_with fail
    go_ret
    exact ⟨_, zs, rfl, HO.out, by omega, HB2.out⟩
  · go_wp2_with fail
    refine (pick _ hR1 (by omega)).mono ?_
    rintro e w2 ⟨v2, rfl, ⟨x, rfl, x0, x1⟩, hR2, hK2⟩
    have HB2 : Hid (Below w.heap.size w w2) := hK2.below HB1.out hrb
    obtain ⟨j, rfl⟩ := Int.eq_ofNat_of_zero_le x0
    obtain ⟨n, hn⟩ : ∃ n, n = 60 + j := ⟨_, rfl⟩
    have hnn : n ≤ 61 := by omega
    have hni : (60 : Int) + (j : Int) = (n : Int) := by omega
    have hmk := fun W => run_make_row' (P := Tryd.prog) 24 3 (.int .i64 0) 8 Tryd.underlying24 infoInt rfl .i64 .i64 n (by omega) (by omega) W
    have R0 : (w2.alloc (.cells (madeCells #[.int .i64 0] n) 3)).rowIs w2.heap.size 3 n (fun _ => .int .i64 0) := (World.rowIs_made w2 (.int .i64 0) n 3).congr (fun i _ => by simp)
    have RI : Ints (w2.alloc (.cells (madeCells #[.int .i64 0] n) 3)) (.slice (some ⟨w2.heap.size, 0, none⟩) n n) (List.replicate n 0) := by
      refine ⟨_, n, by rw [List.length_replicate], by rw [List.length_replicate]; exact Nat.le_refl _, by unfold maxLen; omega, .inr ⟨_, 0, rfl, fun i hi => ?_⟩⟩
      rw [List.length_replicate] at hi
      rw [Nat.zero_add, R0.cell hi, List.getD_eq_getElem?_getD, List.getElem?_replicate, if_pos hi]
      rfl
    have HR := Lib.hid RI
    clear R0 RI hn
    go_wp2_with fail
    go_ret
    exact ⟨_, _, rfl, HR.out, by rw [List.length_replicate]; omega, HB2.out.alloc HB2.out.size _⟩
end Go.Proofs.YthplgehdgaeapaaDoor
