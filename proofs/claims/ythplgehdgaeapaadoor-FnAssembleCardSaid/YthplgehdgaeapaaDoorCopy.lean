/- The walks of the functions that copy slices of integers and of slices of integers: the copy is of the call's own. No condition. -/
import Derived.Test.YthplgehdgaeapaaDoorApp
namespace Go.Proofs.YthplgehdgaeapaaDoor
open Go.RowKit

theorem rowIs_ownV {w : World} {base b n : Nat} {e : TypeId} {f : Nat → Value} {vs : List Value} (h : w.rowIs b e n f) (hb : base ≤ b) (hm : n ≤ maxLen) (hl : vs.length = n) (hf : ∀ i, i < n → some (f i) = vs[i]?) : OwnV w base e (.slice (some ⟨b, 0, none⟩) n n) vs := by
  obtain ⟨c, hc, hn, hi⟩ := h
  subst hl
  refine ⟨by simp, .inr ⟨b, vs.length, c, rfl, hb, hc, Nat.le_refl _, hm, by simpa using hn, ?_⟩⟩
  rw [Nat.mul_one]
  apply List.ext_getElem?
  intro i
  by_cases h : i < vs.length
  · rw [List.getElem?_take_of_lt h, ← hf i h, ← hi i h]; simp
  · rw [List.getElem?_eq_none (by simp; omega), List.getElem?_eq_none (by omega)]
/-- A slice of the call's own, whole and to be appended to, which holds zs. -/
def MadeV (zs : List Int) (w : World) (e : Ending) (w' : World) : Prop := ∃ v, e = .returned v ∧ OwnV w' w.heap.size 3 v (zs.map (.int .i64)) ∧ Below w.heap.size w w'
def upto (zs : List Int) (k : Nat) (i : Nat) : Value := if i < k then .int .i64 (zs.getD i 0) else .int .i64 0
set_option maxHeartbeats 1000000 in
theorem laws_toIntS {v : Value} {zs : List Int} {w : World} (h : Ints w v zs) (hz : zs.length ≤ 1000000000000) : Calls Tryd.prog 24 #[v] w (MadeV zs w) := by
  obtain ⟨a, cap, rfl, hlc, hcap, hcells⟩ := h
  obtain ⟨n, hn⟩ : ∃ n, n = zs.length := ⟨_, rfl⟩
  have fin : ∀ wr : World, wr.rowIs w.heap.size 3 n (upto zs n) → Below w.heap.size w wr → MadeV zs w (.returned (.slice (some ⟨w.heap.size, 0, none⟩) n n)) wr := fun wr hr hb =>
    ⟨_, rfl, rowIs_ownV hr (Nat.le_refl _) (by unfold maxLen; omega) (by simp [hn]) (fun i hi => by
      have hi' : i < zs.length := by omega
      rw [List.getElem?_map, List.getElem?_eq_getElem hi']
      simp [upto, hi, List.getD_eq_getElem?_getD, hi']), hb⟩
  have hmk := fun W => run_make_row' (P := Tryd.prog) 24 3 (.int .i64 0) 8 Tryd.underlying24 infoInt rfl .i64 .i64 n (by omega) (by omega) W
  have R0 : (w.alloc (.cells (madeCells #[.int .i64 0] n) 3)).rowIs w.heap.size 3 n (upto zs 0) := (World.rowIs_made w (.int .i64 0) n 3).congr (fun i _ => by simp [upto])
  have hsrc : ∀ k, k < n → ∃ b off, a = some ⟨b, off, none⟩ ∧ b < w.heap.size ∧ w.cell? ⟨b, off + k, none⟩ = some (.int .i64 (zs.getD k 0)) := fun k hk => by
    rcases hcells with h0 | ⟨b, off, rfl, hc⟩
    · rw [h0] at hn; simp at hn; omega
    · exact ⟨b, off, rfl, block_lt_of_cell (hc k (by omega)), hc k (by omega)⟩
  rw [← hn] at hlc ⊢
  have hn1 : (n : Int) ≤ 1000000000000 := by omega
  have F := Lib.hid fin
  have S := Lib.hid hsrc
  have RH := Lib.hid R0
  clear fin hsrc R0 hcells hn
  go_enter Tryd.func24, Tryd.ntmps24
  go_wp2
  go_loopw [4] (fun i wr => ∃ k : Nat, k ≤ n ∧ i = .int .i64 k ∧ Hid (wr.rowIs w.heap.size 3 n (upto zs k)) ∧ Hid (Below w.heap.size w wr)) (fun i _ => n - (intOf i).toNat)
  case atStart => exact ⟨0, Nat.zero_le _, rfl, RH.out, (Below.refl _ _).alloc (Nat.le_refl _) _⟩
  case round =>
    obtain ⟨k, hk, rfl, hr, hb⟩ := hrel
    by_cases hlt : k < n
    · obtain ⟨b, off, rfl, hbl, hc⟩ := S.out k hlt
      have g0 := (hb.out.cell (p := ⟨b, off + k, none⟩) hbl).trans hc
      have g1 := hr.out.cell hlt
      have g2 := hr.out.frozen k
      have hi : (k : Int) < (n : Int) := by omega
      have R1 : Hid ((wr.setCell ⟨w.heap.size, k, none⟩ (.int .i64 (zs.getD k 0))).rowIs w.heap.size 3 n (upto zs (k + 1))) := (hr.out.set k _).congr (fun i hi => by
        unfold upto
        by_cases e : i = k
        · subst e; simp
        · by_cases h2 : i < k
          · rw [if_neg e, if_pos h2, if_pos (by omega)]
          · rw [if_neg e, if_neg h2, if_neg (by omega)])
      have B1 : Hid (Below w.heap.size w (wr.setCell ⟨w.heap.size, k, none⟩ (.int .i64 (zs.getD k 0)))) := hb.out.setCell (Nat.le_refl _) _
      clear hc hbl
      generalize zs.getD k 0 = x at *
      go_wp2
      go_roundw
      case rel => exact ⟨k + 1, by omega, by go_num, R1.out, B1.out⟩
      case measure => simp [intOf]; omega
    · have hi : ¬ (k : Int) < (n : Int) := by omega
      have e : k = n := by omega
      subst e
      have fo := Lib.hid (F.out _ hr.out hb.out)
      go_wp2
      go_ret
      exact fo.out
end Go.Proofs.YthplgehdgaeapaaDoor
