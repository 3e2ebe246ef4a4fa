/- The walks of the functions that measure, copy, mark and hold machines for the laws, and of MachineValid. No condition. -/
import Derived.Test.YtkkgolgmhckgoaaMach
import Derived.Test.YtkkgolgmhckgoaaReadMem
namespace Go.Proofs.Ytkkgolgmhckgoaa
open Go.RowKit
set_option linter.unusedVariables false

/-- A machine of the call's own. -/
def MadeMach (m : Mach) (w : World) (e : Ending) (w' : World) : Prop := ∃ v, e = .returned v ∧ OwnMach w.heap.size w'.heap.size w' v m ∧ Below w.heap.size w w'
def szMach (left : Int) (m : Mach) : Int := if szMem left m.ram m.rom < 0 then -1 else if szMem left m.ram m.rom - m.back.length < 0 then -1 else szMem left m.ram m.rom - m.back.length
theorem szMem_bd (left : Int) (ram : List Int) (rom : List (List Int)) (h : left ≤ 1048576) : szMem left ram rom ≤ 1048576 ∧ -1 ≤ szMem left ram rom := by
  unfold szMem szM
  split
  · omega
  · split <;> omega
theorem szMach_ok {m : Mach} (h : ¬ szMach 1048576 m < 0) : m.ram.length ≤ 1048576 ∧ m.rom.length ≤ 1048576 ∧ sumLen m.rom ≤ 1048576 ∧ m.back.length ≤ 1048576 := by
  unfold szMach at h
  have hb := szMem_bd 1048576 m.ram m.rom (Int.le_refl _)
  split at h
  · omega
  · rename_i h1
    obtain ⟨q1, q2, q3⟩ := szMem_ok h1
    split at h
    · omega
    · exact ⟨q1, q2, q3, by omega⟩
set_option maxHeartbeats 1000000 in
theorem laws_szMachine {v : Value} {m : Mach} {left : Int} {w : World} (h : MachV w v m) (hl0 : left ≤ 1048576) (hl1 : 0 ≤ left) :
    Calls Try.prog 47 #[v, .int .i64 left] w fun e w' => e = .returned (.int .i64 (szMach left m)) ∧ Below w.heap.size w w' := by
  have hbd := szMem_bd left m.ram m.rom hl0
  obtain ⟨a1, c1, b1, d1, f1, g1, rfl, _, _, _, _, _, _⟩ := machV_shape h
  obtain ⟨M1, I1⟩ := machV_parts h
  have HM := Lib.hid M1
  have HI := Lib.hid I1
  have HS : Hid (∀ z, szMem left m.ram m.rom = z → szMach left m = if z < 0 then -1 else if z - m.back.length < 0 then -1 else z - m.back.length) := fun z hz => by subst hz; rfl
  clear h M1 I1
  go_enter Try.func47, Try.ntmps47
  go_wp2_with fail
  refine (laws_szMemory (HM.out.below (by go_grown)) hl0 hl1).mono ?_
  rintro e w1 ⟨rfl, hb1⟩
  obtain ⟨hc1, hf1⟩ := bcell hb1
  have hs1 : w.heap.size + 1 ≤ w1.heap.size := Nat.le_trans (by go_size) hb1.size
  have z1_0 : w.heap.size < w1.heap.size := Nat.lt_of_lt_of_le (by go_size) hb1.size
  have hB1 : Hid (Below w.heap.size w w1) := below_via hb1 (by repeat (first | with_reducible exact Below.refl _ _ | with_reducible refine below_via (by assumption) ?_ (by go_size) | with_reducible refine below_within (by assumption) ?_ (by go_size) (by omega) | with_reducible refine Below.alloc ?_ (by go_size) _ | with_reducible refine Below.setCell ?_ (by go_size) _ | with_reducible refine Below.drew ?_)) (by go_size)
  obtain ⟨z, hz⟩ : ∃ z, z = szMem left m.ram m.rom := ⟨_, rfl⟩
  have hE := Lib.hid (HS.out z hz.symm)
  rw [← hz] at hbd ⊢
  clear hz HS
  by_cases hn : z < 0
  · go_wp2_with fail
    go_ret
    exact ⟨ret_int (by rw [hE.out, if_pos hn]), hB1.out⟩
  · go_wp2_with fail
    refine (laws_szIntS (HI.out.below hB1.out) hbd.1 hbd.2).mono ?_
    rintro e w2 ⟨rfl, rfl⟩
    by_cases hn2 : z - (m.back.length : Int) < 0
    · rw [if_pos hn2]
      go_wp2_with fail
      go_ret
      exact ⟨ret_int (by rw [hE.out, if_neg (by omega), if_pos (by omega)]), hB1.out⟩
    · rw [if_neg hn2]
      go_wp2_with fail
      go_ret
      exact ⟨ret_int (by rw [hE.out, if_neg (by omega), if_neg (by omega)]), hB1.out⟩
/-- The cells of a machine in a block. -/
def Mc (W : World) (B : Nat) (x y z : Value) (m : Mach) : Prop :=
  (W.cell? ⟨B, 0, none⟩ = some x ∧ W.cell? ⟨B, 1, none⟩ = some y ∧ W.cell? ⟨B, 2, none⟩ = some (.int .i64 m.bank)) ∧ (W.cell? ⟨B, 3, none⟩ = some (.int .i64 m.a) ∧ W.cell? ⟨B, 4, none⟩ = some (.int .i64 m.pc) ∧ W.cell? ⟨B, 5, none⟩ = some (.bool m.carry)) ∧
    W.cell? ⟨B, 6, none⟩ = some z ∧ W.cell? ⟨B, 7, none⟩ = some (.bool m.stop) ∧ W.cell? ⟨B, 8, none⟩ = some (.int .i64 m.cyc)
/-- None of them is frozen. -/
def McF (W : World) (B : Nat) : Prop := ∀ i, i < 9 → W.frozen? ⟨B, i, none⟩ = false
section
variable {W w' : World} {B n : Nat} {x y z : Value} {m : Mach}
theorem Mc.lt (h : Mc W B x y z m) : B < W.heap.size := block_lt_of_cell h.1.1
theorem mc_be (hb : Below n W w') (h : Mc W B x y z m) (hB : B < n) : Mc w' B x y z m := by
  obtain ⟨⟨h0, h1, h2⟩, ⟨h3, h4, h5⟩, h6, h7, h8⟩ := h
  exact ⟨⟨cell_be hb h0 hB, cell_be hb h1 hB, cell_be hb h2 hB⟩, ⟨cell_be hb h3 hB, cell_be hb h4 hB, cell_be hb h5 hB⟩, cell_be hb h6 hB, cell_be hb h7 hB, cell_be hb h8 hB⟩
theorem mc_below (hb : Below W.heap.size W w') (h : Mc W B x y z m) : Mc w' B x y z m := mc_be hb h h.lt
theorem mc_alloc (o : Obj) (h : Mc W B x y z m) : Mc (W.alloc o) B x y z m := mc_below ((Below.refl _ _).alloc (Nat.le_refl _) o) h
theorem mc_drew (h : Mc W B x y z m) : Mc W.drew B x y z m := h
theorem mc_lit {b : Nat} {e : TypeId} (he : b = W.heap.size) : Mc (W.alloc (.cells #[x, y, .int .i64 m.bank, .int .i64 m.a, .int .i64 m.pc, .bool m.carry, z, .bool m.stop, .int .i64 m.cyc] e)) b x y z m := by
  subst he
  refine ⟨⟨?_, ?_, ?_⟩, ⟨?_, ?_, ?_⟩, ?_, ?_, ?_⟩ <;> simp [go_sem]
theorem mc_within {l h : Nat} (hw : Within l h W w') (t : Mc W B x y z m) (hd : B < l ∨ h ≤ B) : Mc w' B x y z m := by
  have lp := t.lt
  have k := fun o => World.cell?_of_block (w := W) (a := ⟨B, o, none⟩) (hw.block B lp hd)
  obtain ⟨⟨h0, h1, h2⟩, ⟨h3, h4, h5⟩, h6, h7, h8⟩ := t
  exact ⟨⟨(k 0).trans h0, (k 1).trans h1, (k 2).trans h2⟩, ⟨(k 3).trans h3, (k 4).trans h4, (k 5).trans h5⟩, (k 6).trans h6, (k 7).trans h7, (k 8).trans h8⟩
end
/-- Stores to another block. -/
theorem mc_sc {W : World} {B b i : Nat} {x y z v : Value} {m : Mach} (h : Mc W B x y z m) (hn : B ≠ b) : Mc (W.setCell ⟨b, i, none⟩ v) B x y z m := by
  have k : ∀ o, (W.setCell ⟨b, i, none⟩ v).cell? ⟨B, o, none⟩ = W.cell? ⟨B, o, none⟩ := fun o => World.cell?_setCell_other _ _ _ _ (by intro e; injection e with e1; exact hn e1.symm)
  obtain ⟨⟨h0, h1, h2⟩, ⟨h3, h4, h5⟩, h6, h7, h8⟩ := h
  exact ⟨⟨(k 0).trans h0, (k 1).trans h1, (k 2).trans h2⟩, ⟨(k 3).trans h3, (k 4).trans h4, (k 5).trans h5⟩, (k 6).trans h6, (k 7).trans h7, (k 8).trans h8⟩
def zeroM : Mach := ⟨[], [], 0, 0, 0, false, [], false, 0⟩
theorem mc_zero {W : World} {b : Nat} {e : TypeId} (he : b = W.heap.size) : Mc (W.alloc (.cells #[.slice none 0 0, .slice none 0 0, .int .i64 0, .int .i64 0, .int .i64 0, .bool false, .slice none 0 0, .bool false, .int .i64 0] e)) b (.slice none 0 0) (.slice none 0 0) (.slice none 0 0) zeroM := mc_lit (m := zeroM) he
set_option maxHeartbeats 1000000 in
theorem laws_toMachine {v : Value} {m : Mach} {w : World} (h : MachV w v m) (z1 : m.ram.length ≤ 1000000000) (z2 : m.rom.length ≤ 1000000000) (z3 : sumLen m.rom ≤ 1000000000) (z4 : m.back.length ≤ 1000000000) :
    Calls Try.prog 48 #[v] w (MadeMach m w) := by
  obtain ⟨a1, c1, b1, d1, f1, g1, rfl, _, _, _, _, _, _⟩ := machV_shape h
  obtain ⟨M1, I1⟩ := machV_parts h
  have HM := Lib.hid M1
  have HI := Lib.hid I1
  clear h M1 I1
  go_enter Try.func48, Try.ntmps48
  go_wp2_with fail
  refine (laws_toMemory (HM.out.below (by go_grown)) (by omega) (by omega) (by omega)).mono ?_
  rintro e w1 ⟨v2, rfl, o2, hb1⟩
  obtain ⟨hc1, hf1⟩ := bcell hb1
  have hs1 : w.heap.size + 3 ≤ w1.heap.size := Nat.le_trans (by go_size) hb1.size
  have z1_0 : w.heap.size < w1.heap.size := Nat.lt_of_lt_of_le (by go_size) hb1.size
  have z1_1 : w.heap.size + 1 < w1.heap.size := Nat.lt_of_lt_of_le (by go_size) hb1.size
  have z1_2 : w.heap.size + 2 < w1.heap.size := Nat.lt_of_lt_of_le (by go_size) hb1.size
  have hB1 : Hid (Below w.heap.size w w1) := below_via hb1 (by repeat (first | with_reducible exact Below.refl _ _ | with_reducible refine below_via (by assumption) ?_ (by go_size) | with_reducible refine below_within (by assumption) ?_ (by go_size) (by omega) | with_reducible refine Below.alloc ?_ (by go_size) _ | with_reducible refine Below.setCell ?_ (by go_size) _ | with_reducible refine Below.drew ?_)) (by go_size)
  have tR1 : Mc w1 (w.heap.size + 1) (.slice none 0 0) (.slice none 0 0) (.slice none 0 0) zeroM := mc_below hb1 (mc_alloc _ (mc_zero (by simp)))
  have O1 := Lib.hid o2
  have TR := Lib.hid tR1
  obtain ⟨a2, c2, b2, d2, rfl, _, _, _, _⟩ := memV_shape O1.out.mem
  clear o2 tR1
  go_wp2_with fail
  refine (laws_toIntS (HI.out.below (by repeat (first | with_reducible exact Below.refl _ _ | with_reducible refine below_via (by assumption) ?_ (by go_size) | with_reducible refine below_within (by assumption) ?_ (by go_size) (by omega) | with_reducible refine Below.alloc ?_ (by go_size) _ | with_reducible refine Below.setCell ?_ (by go_size) _ | with_reducible refine Below.drew ?_))) (by omega)).mono ?_
  rintro e w2 ⟨v3, rfl, o3, hb2⟩
  obtain ⟨hc2, hf2⟩ := bcell hb2
  have hs2 : w1.heap.size + 0 ≤ w2.heap.size := Nat.le_trans (by go_size) hb2.size
  have z2_0 : w.heap.size < w2.heap.size := Nat.lt_of_lt_of_le (by go_size) hb2.size
  have z2_1 : w.heap.size + 1 < w2.heap.size := Nat.lt_of_lt_of_le (by go_size) hb2.size
  have z2_2 : w.heap.size + 2 < w2.heap.size := Nat.lt_of_lt_of_le (by go_size) hb2.size
  have hB2 : Hid (Below w.heap.size w w2) := below_via hb2 (by repeat (first | with_reducible exact Below.refl _ _ | with_reducible refine below_via (by assumption) ?_ (by go_size) | with_reducible refine below_within (by assumption) ?_ (by go_size) (by omega) | with_reducible refine Below.alloc ?_ (by go_size) _ | with_reducible refine Below.setCell ?_ (by go_size) _ | with_reducible refine Below.drew ?_)) (by go_size)
  have O2 := Lib.hid o3.own
  obtain ⟨a3, c3, rfl⟩ := own_shape O2.out
  clear o3
  go_wp2_with fail
  have ne : w.heap.size + 1 ≠ w.heap.size + 1 + 1 := by omega
  obtain ⟨⟨r0, r1, r2⟩, ⟨r3, r4, r5⟩, r6, r7, r8⟩ := mc_below hb2 (mc_sc (mc_sc (mc_sc (mc_sc (mc_sc (mc_sc TR.out ne) ne) ne) ne) ne) ne)
  have O1' := O1.out.wide (lo' := w.heap.size + 3) (by simp) (Nat.le_refl _)
  have O2' := O2.out.wide (lo' := w1.heap.size) (by simp only [size_set]; exact Nat.le_refl _) (Nat.le_refl _)
  have hs1' : w.heap.size + 3 ≤ w1.heap.size := by omega
  refine bodyPost_ret (v := .agg #[.slice a2 m.ram.length c2, .slice b2 m.rom.length d2, .int .i64 m.bank, .int .i64 m.a, .int .i64 m.pc, .bool m.carry, .slice a3 m.back.length c3, .bool m.stop, .int .i64 m.cyc]) (by simp [results, Try.results48, go_sem, r0, r1, r2, r3, r4, r5, r6, r7, r8]) rfl ⟨_, rfl, ⟨_, _, _, w1.heap.size, rfl, by omega, by have := hb2.size; simp only [size_set] at this ⊢; omega, ?_, ?_⟩, ?_⟩
  · exact (O1'.agree (by (repeat (first | assumption | with_reducible exact Agree.refl _ _ _ | with_reducible refine agree_below (by assumption) ?_ (by first | omega | go_size) | with_reducible refine agree_within (by assumption) ?_ (by first | omega | go_size) (by omega) | with_reducible refine Agree.alloc ?_ (by first | omega | go_size) _ | with_reducible refine Agree.setCell ?_ (by first | omega | (dsimp only; omega)) _ | with_reducible refine Agree.drew ?_)))).wide (by omega) (Nat.le_refl _)
  · exact (O2'.agree (by (repeat (first | assumption | with_reducible exact Agree.refl _ _ _ | with_reducible refine agree_below (by assumption) ?_ (by first | omega | go_size) | with_reducible refine agree_within (by assumption) ?_ (by first | omega | go_size) (by omega) | with_reducible refine Agree.alloc ?_ (by first | omega | go_size) _ | with_reducible refine Agree.setCell ?_ (by first | omega | (dsimp only; omega)) _ | with_reducible refine Agree.drew ?_)))).wide (Nat.le_refl _) (by simp only [size_set]; exact Nat.le_refl _)
  · repeat (first | with_reducible exact Below.refl _ _ | with_reducible refine below_via (by assumption) ?_ (by go_size) | with_reducible refine below_within (by assumption) ?_ (by go_size) (by omega) | with_reducible refine Below.alloc ?_ (by go_size) _ | with_reducible refine Below.setCell ?_ (by go_size) _ | with_reducible refine Below.drew ?_)
/-- A machine, marked from k on. -/
def markM (k : Int) (m : Mach) : Mach := { m with ram := marks k m.ram.length, rom := markRows (k + m.ram.length) m.rom, back := marks (k + m.ram.length + sumLen m.rom) m.back.length }
theorem markedOwn_mach {lo hi : Nat} {w : World} {x y z : Value} {m : Mach} {k : Int} {mi : Nat} (h1 : lo ≤ mi) (h2 : mi ≤ hi) (g1 : MarkedOwn lo mi w (.agg #[x, y, .int .i64 m.bank]) k m.ram m.rom m.bank) (g2 : Own mi hi w z (marks (k + m.ram.length + sumLen m.rom) m.back.length)) :
    OwnMach lo hi w (.agg #[x, y, .int .i64 m.bank, .int .i64 m.a, .int .i64 m.pc, .bool m.carry, z, .bool m.stop, .int .i64 m.cyc]) (markM k m) := ⟨x, y, z, mi, rfl, h1, h2, g1, g2⟩
set_option maxHeartbeats 1000000 in
theorem laws_markMachine {lo hi : Nat} {v : Value} {m : Mach} {k : Int} {w : World} (h : OwnMach lo hi w v m) (hs : hi ≤ w.heap.size) (h0 : 0 ≤ k) (h1 : k ≤ 1000000) (h2 : m.ram.length ≤ 1048576) (h3 : sumLen m.rom ≤ 1048576) (h4 : m.back.length ≤ 1048576) :
    Calls Try.prog 50 #[v, .int .i64 k] w fun e w' => e = .returned (.int .i64 (k + m.ram.length + sumLen m.rom + m.back.length)) ∧ OwnMach lo hi w' v (markM k m) ∧ Within lo hi w w' := by
  obtain ⟨x, y, z, mi, rfl, k1, k2, g1, g2⟩ := h
  obtain ⟨a1, c1, b1, d1, e0, _, _, _, _⟩ := memV_shape g1.mem
  simp only [Value.agg.injEq, Array.mk.injEq, List.cons.injEq, and_true] at e0
  obtain ⟨rfl, rfl⟩ := e0
  obtain ⟨a3, c3, rfl⟩ := own_shape g2
  have G1 := Lib.hid (g1.agree ((Agree.refl _ _ w).alloc (by omega) (.cells #[.slice a1 m.ram.length c1, .slice b1 m.rom.length d1, .int .i64 m.bank, .int .i64 m.a, .int .i64 m.pc, .bool m.carry, .slice a3 m.back.length c3, .bool m.stop, .int .i64 m.cyc] 39)))
  have G2 := Lib.hid (g2.agree ((Agree.refl _ _ w).alloc (by omega) (.cells #[.slice a1 m.ram.length c1, .slice b1 m.rom.length d1, .int .i64 m.bank, .int .i64 m.a, .int .i64 m.pc, .bool m.carry, .slice a3 m.back.length c3, .bool m.stop, .int .i64 m.cyc] 39)))
  clear g1 g2
  have hq : ¬ k + (m.ram.length : Int) + (sumLen m.rom : Int) < 0 := by omega
  go_enter Try.func50, Try.ntmps50
  go_wp2_with fail
  refine (laws_markMemory G1.out (by simp; omega) h0 (by omega) (by omega) (by omega)).mono ?_
  rintro e w1 ⟨rfl, o1, hw1⟩
  have tB := mc_within hw1 (mc_lit (x := .slice a1 m.ram.length c1) (y := .slice b1 m.rom.length d1) (z := .slice a3 m.back.length c3) (m := m) (e := 39) rfl) (.inr (by omega))
  obtain ⟨⟨r0, r1, r2⟩, ⟨r3, r4, r5⟩, r6, r7, r8⟩ := tB
  have hs1 : w.heap.size + 1 ≤ w1.heap.size := Nat.le_trans (by simp) hw1.size
  have O1 := Lib.hid o1
  have G21 := Lib.hid (G2.out.agree (agree_within hw1 (Agree.refl _ _ _) (by simp; omega) (.inr (Nat.le_refl _))))
  clear o1
  go_wp2_with fail
  refine (laws_markIntS G21.out (by omega) (by omega) (by omega)).mono ?_
  rintro e w2 ⟨rfl, o2, hw2⟩
  go_wp2_with fail
  go_ret
  refine ⟨rfl, markedOwn_mach k1 k2 (O1.out.agree (agree_within hw2 (Agree.refl _ _ _) (by omega) (.inl (Nat.le_refl _)))) o2, ?_⟩
  have b1 := (hw1.wide (Nat.le_refl _) k2).trans (hw2.wide k1 (Nat.le_refl _))
  exact ⟨b1.os, b1.tape, b1.output, Nat.le_trans (by simp) b1.size, fun j hj hd => (b1.block j (by simp; omega) hd).trans (Below.heap_alloc _ _ _ hj)⟩
theorem markedM_below {w w' : World} {v : Value} {k : Int} {ram : List Int} {rom : List (List Int)} {bank : Int} (h : MarkedM w v k ram rom bank) (hb : Below w.heap.size w w') : MarkedM w' v k ram rom bank := MemV.below h hb
set_option maxHeartbeats 1000000 in
theorem laws_heldMachine {v : Value} {m : Mach} {k : Int} {w : World} (h : MachV w v (markM k m)) (h0 : 0 ≤ k) (h1 : k ≤ 1000000) (h2 : m.ram.length ≤ 1048576) (h3 : sumLen m.rom ≤ 1048576) (h4 : m.back.length ≤ 1048576) :
    Calls Try.prog 51 #[v, .int .i64 k] w fun e w' => e = .returned (.int .i64 (k + m.ram.length + sumLen m.rom + m.back.length)) ∧ Below w.heap.size w w' := by
  obtain ⟨x, y, z, rfl, g1, g2, g3⟩ := h
  have HM : Hid (MarkedM w (.agg #[x, y, .int .i64 m.bank]) k m.ram m.rom m.bank) := ⟨x, y, rfl, g1, g2⟩
  have HI : Hid (Ints w z (marks (k + m.ram.length + sumLen m.rom) m.back.length)) := g3
  obtain ⟨a1, c1, rfl, _, _⟩ := ints_shape g1
  obtain ⟨b1, d1, rfl, _, _⟩ := mat_shape g2
  obtain ⟨a3, c3, rfl, _, _⟩ := ints_shape g3
  clear g1 g2 g3
  have hq : ¬ k + (m.ram.length : Int) + (sumLen m.rom : Int) < 0 := by omega
  have hq2 : ¬ k + (m.ram.length : Int) + (sumLen m.rom : Int) + (m.back.length : Int) < 0 := by omega
  go_enter Try.func51, Try.ntmps51
  go_wp2_with fail
  refine (laws_heldMemory (markedM_below HM.out (by go_grown)) h0 (by omega) (by omega) (by omega)).mono ?_
  rintro e w1 ⟨rfl, hb1⟩
  obtain ⟨hc1, hf1⟩ := bcell hb1
  have hs1 : w.heap.size + 1 ≤ w1.heap.size := Nat.le_trans (by go_size) hb1.size
  have z1_0 : w.heap.size < w1.heap.size := Nat.lt_of_lt_of_le (by go_size) hb1.size
  have hB1 : Hid (Below w.heap.size w w1) := below_via hb1 (by repeat (first | with_reducible exact Below.refl _ _ | with_reducible refine below_via (by assumption) ?_ (by go_size) | with_reducible refine below_within (by assumption) ?_ (by go_size) (by omega) | with_reducible refine Below.alloc ?_ (by go_size) _ | with_reducible refine Below.setCell ?_ (by go_size) _ | with_reducible refine Below.drew ?_)) (by go_size)
  go_wp2_with fail
  refine (laws_heldIntS (HI.out.below hB1.out) (by omega) (by omega) (by omega)).mono ?_
  rintro e w2 ⟨rfl, rfl⟩
  go_wp2_with fail
  go_ret
  exact ⟨rfl, hB1.out⟩
end Go.Proofs.Ytkkgolgmhckgoaa
