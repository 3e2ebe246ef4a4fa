/- The walk of impl.copyMachine: the copy is of the call's own. No condition. -/
import Derived.Test.YtpoiojknahmicaaBranch
import Derived.Test.YtpoiojknahmicaaCopyFns
namespace Go.Proofs.Ytpoiojknahmicaa
open Go.RowKit
set_option linter.unusedVariables false

/-- A machine that a call has made, its parts each in a stretch of blocks of its own. -/
def CopyM (m : Mach) (w : World) (e : Ending) (w' : World) : Prop :=
  ∃ a c b d l1 t1 l2 t2 za zc, e = .returned (.agg #[.slice a m.ram.length c, .slice b m.rom.length d, .int .i64 m.bank, .int .i64 m.a, .int .i64 m.pc, .bool m.carry, .slice za m.back.length zc, .bool m.stop, .int .i64 m.cyc]) ∧
    (w.heap.size ≤ l1 ∧ w.heap.size ≤ l2 ∧ t1 ≤ w'.heap.size ∧ t2 ≤ w'.heap.size ∧ (t1 ≤ l2 ∨ t2 ≤ l1)) ∧ Own l1 t1 w' (.slice a m.ram.length c) m.ram ∧ OwnMat l2 t2 w' (.slice b m.rom.length d) m.rom ∧
    OwnV w' w.heap.size 3 (.slice za m.back.length zc) (m.back.map (.int .i64)) ∧ (∀ g, (Value.slice za m.back.length zc).ownBlock = some g → t1 ≤ g ∧ t2 ≤ g) ∧ Below w.heap.size w w'
section
variable {m : Mach} {w w' : World} {a : Option Addr} {c : Nat} {b : Option Addr} {d l1 t1 l2 t2 : Nat} {za : Option Addr} {zc : Nat}
theorem machIn_new {L : Nat} (t : TypeId) (k1 : L ≤ l1) (k2 : L ≤ l2) (k3 : t1 ≤ w'.heap.size) (k4 : t2 ≤ w'.heap.size) (sep : t1 ≤ l2 ∨ t2 ≤ l1) (o1 : Own l1 t1 w' (.slice a m.ram.length c) m.ram) (o2 : OwnMat l2 t2 w' (.slice b m.rom.length d) m.rom)
    (o3 : OwnV w' L 3 (.slice za m.back.length zc) (m.back.map (.int .i64))) (bs : ∀ g, (Value.slice za m.back.length zc).ownBlock = some g → t1 ≤ g ∧ t2 ≤ g) (hL : L ≤ w'.heap.size) :
    MachIn L (w'.alloc (.cells #[.slice a m.ram.length c, .slice b m.rom.length d, .int .i64 m.bank, .int .i64 m.a, .int .i64 m.pc, .bool m.carry, .slice za m.back.length zc, .bool m.stop, .int .i64 m.cyc] t)) w'.heap.size m a c b d l1 t1 l2 t2 (.slice za m.back.length zc) := by
  refine ⟨⟨by simp [go_sem], by simp [go_sem], by simp [go_sem], by simp [go_sem], hL, k1, k2, by simp; omega, by simp; omega, sep, .inr k3, .inr k4, o1.agree ((Agree.refl _ _ _).alloc k3 _), o2.agree ((Agree.refl _ _ _).alloc k4 _)⟩, mc_lit rfl, fun i _ => by simp [go_sem], o3.alloc _, fun g hg => ?_⟩
  have := bs g hg
  have := (o3.lt g hg).2
  exact ⟨by omega, by omega, by omega⟩
end
theorem CopyM.made {m : Mach} {w w' : World} {e : Ending} (h : CopyM m w e w') : MadeMach m w e w' := by
  obtain ⟨a, c, b, d, l1, t1, l2, t2, za, zc, rfl, ⟨k1, k2, k3, k4, sep⟩, o1, o2, o3, bs, hb⟩ := h
  have hs := hb.size
  refine ⟨_, rfl, ⟨_, _, _, max w.heap.size (max t1 t2), rfl, by omega, by omega, ⟨_, _, l1, t1, l2, t2, rfl, ⟨by omega, by omega, by omega, by omega, sep⟩, o1, o2⟩, ?_⟩, hb⟩
  exact (o3.raise fun g hg => by
    have := bs g hg
    have := o3.lt g hg
    omega).own
theorem mc_set012 {W : World} {B : Nat} {x y z x' y' : Value} {m : Mach} (h : Mc W B x y z m) : Mc (((W.setCell ⟨B, 0, none⟩ x').setCell ⟨B, 1, none⟩ y').setCell ⟨B, 2, none⟩ (.int .i64 m.bank)) B x' y' z m := by
  obtain ⟨⟨h0, h1, h2⟩, ⟨h3, h4, h5⟩, h6, h7, h8⟩ := h
  have k : ∀ o, o ≠ 0 → o ≠ 1 → o ≠ 2 → (((W.setCell ⟨B, 0, none⟩ x').setCell ⟨B, 1, none⟩ y').setCell ⟨B, 2, none⟩ (.int .i64 m.bank)).cell? ⟨B, o, none⟩ = W.cell? ⟨B, o, none⟩ := fun o n0 n1 n2 =>
    (World.cell?_setCell_other _ _ _ _ (by intro e; injection e with _ e1; omega)).trans ((World.cell?_setCell_other _ _ _ _ (by intro e; injection e with _ e1; omega)).trans (World.cell?_setCell_other _ _ _ _ (by intro e; injection e with _ e1; omega)))
  refine ⟨⟨?_, ?_, ?_⟩, ⟨(k 3 (by decide) (by decide) (by decide)).trans h3, (k 4 (by decide) (by decide) (by decide)).trans h4, (k 5 (by decide) (by decide) (by decide)).trans h5⟩, (k 6 (by decide) (by decide) (by decide)).trans h6, (k 7 (by decide) (by decide) (by decide)).trans h7, (k 8 (by decide) (by decide) (by decide)).trans h8⟩
  · exact (World.cell?_setCell_other _ _ _ _ (by simp)).trans ((World.cell?_setCell_other _ _ _ _ (by simp)).trans (World.cell?_setCell_same _ _ _ h0))
  · exact (World.cell?_setCell_other _ _ _ _ (by simp)).trans (World.cell?_setCell_same _ _ _ ((World.cell?_setCell_other _ _ _ _ (by simp)).trans h1))
  · exact World.cell?_setCell_same _ _ _ ((World.cell?_setCell_other _ _ _ _ (by simp)).trans ((World.cell?_setCell_other _ _ _ _ (by simp)).trans h2))
/-- W' is w3, but for two blocks. -/
def Two (X R : Nat) (w3 W' : World) : Prop := (W'.os = w3.os ∧ W'.tape = w3.tape ∧ W'.output = w3.output) ∧ W'.heap.size = w3.heap.size ∧ ∀ k, k ≠ X → k ≠ R → W'.heap[k]? = w3.heap[k]?
theorem two_refl (X R : Nat) (w : World) : Two X R w w := ⟨⟨rfl, rfl, rfl⟩, rfl, fun _ _ _ => rfl⟩
theorem two_setX {X R i : Nat} {w W : World} {v : Value} (h : Two X R w W) : Two X R w (W.setCell ⟨X, i, none⟩ v) := ⟨h.1, by rw [size_set]; exact h.2.1, fun k k1 k2 => (Below.heap_setCell _ _ _ _ k1).trans (h.2.2 k k1 k2)⟩
theorem two_setR {X R i : Nat} {w W : World} {v : Value} (h : Two X R w W) : Two X R w (W.setCell ⟨R, i, none⟩ v) := ⟨h.1, by rw [size_set]; exact h.2.1, fun k k1 k2 => (Below.heap_setCell _ _ _ _ k2).trans (h.2.2 k k1 k2)⟩
theorem copyM_of {m : Mach} {w w3 W' : World} {e : Ending} {X R S a c b d l1 t1 l2 t2 za zc} (hT : Two X R w3 W') (he : e = .returned (.agg #[.slice a m.ram.length c, .slice b m.rom.length d, .int .i64 m.bank, .int .i64 m.a, .int .i64 m.pc, .bool m.carry, .slice za m.back.length zc, .bool m.stop, .int .i64 m.cyc]))
    (hX : w.heap.size ≤ X) (hR : w.heap.size ≤ R) (k1 : X < l1 ∧ R < l1) (k2 : X < l2 ∧ R < l2) (k3 : t1 ≤ w3.heap.size ∧ t1 ≤ S) (k4 : t2 ≤ w3.heap.size ∧ t2 ≤ S) (sep : t1 ≤ l2 ∨ t2 ≤ l1) (o1 : Own l1 t1 w3 (.slice a m.ram.length c) m.ram) (o2 : OwnMat l2 t2 w3 (.slice b m.rom.length d) m.rom)
    (o3 : OwnV w3 S 3 (.slice za m.back.length zc) (m.back.map (.int .i64))) (hS : w.heap.size + 2 ≤ S) (hb : Below w.heap.size w w3) (hXS : X < S) (hRS : R < S) : CopyM m w e W' := by
  obtain ⟨⟨q1, q2, q3⟩, q4, q5⟩ := hT
  have A : ∀ l t, X < l → R < l → Agree l t w3 W' := fun l t h1 h2 k hk _ => q5 k (by omega) (by omega)
  have far : ∀ g, (Value.slice za m.back.length zc).ownBlock = some g → S ≤ g := fun g hg => (o3.lt g hg).1
  refine ⟨a, c, b, d, l1, t1, l2, t2, za, zc, he, ⟨by omega, by omega, by omega, by omega, sep⟩, o1.agree (A l1 t1 k1.1 k1.2), o2.agree (A l2 t2 k2.1 k2.2), ?_, fun g hg => by have := far g hg; omega, ?_⟩
  · exact OwnV.of (o3.raise fun g hg => by have := far g hg; omega) fun g hg => by have := far g hg; exact q5 g (by omega) (by omega)
  · exact ⟨q1.trans hb.os, q2.trans hb.tape, q3.trans hb.output, by rw [q4]; exact hb.size, fun k hk => (q5 k (by omega) (by omega)).trans (hb.block k hk)⟩
set_option maxHeartbeats 4000000 in
set_option maxRecDepth 20000 in
theorem impl_copyMachine {v : Value} {m : Mach} {w : World} (h : MachV w v m) (z1 : m.ram.length ≤ 1000000000) (z2 : m.rom.length ≤ 1048576) (z3 : sumLen m.rom ≤ 1000000000) (z4 : m.back.length ≤ 1000000000) : Calls Try.prog 113 #[v] w (CopyM m w) := by
  obtain ⟨a1, c1, b1, d1, f1, g1, rfl, _, _, _, _, _, _⟩ := machV_shape h
  obtain ⟨M1, I1⟩ := machV_parts h
  have HM := Lib.hid M1
  have HI := Lib.hid I1
  clear h M1 I1
  go_enter Try.func113, Try.ntmps113
  go_wp2_with fail
  refine (impl_copyMemory (HM.out.below (by go_grown)) z1 z2 z3).mono ?_
  rintro e w1 ⟨v1, rfl, o1, hb1⟩
  have tX1 := mc_below hb1 (mc_alloc _ (mc_lit rfl))
  have tR1 := mc_below hb1 (mc_zero (b := w.heap.size + 1) (by simp))
  have fX1 : ∀ i, w1.frozen? ⟨w.heap.size, i, none⟩ = false := fun i => (hb1.frozen (p := ⟨w.heap.size, i, none⟩) (by simp; omega)).trans (by simp [go_sem])
  have fR1 : ∀ i, w1.frozen? ⟨w.heap.size + 1, i, none⟩ = false := fun i => (hb1.frozen (p := ⟨w.heap.size + 1, i, none⟩) (by simp)).trans (by simp [go_sem])
  have hs1 : w.heap.size + 2 ≤ w1.heap.size := Nat.le_trans (by simp) hb1.size
  have hB1 : Hid (Below w.heap.size w w1) := below_via hb1 (by repeat (first | with_reducible exact Below.refl _ _ | with_reducible refine below_via (by assumption) ?_ (by go_size) | with_reducible refine below_within (by assumption) ?_ (by go_size) (by omega) | with_reducible refine Below.alloc ?_ (by go_size) _ | with_reducible refine Below.setCell ?_ (by go_size) _ | with_reducible refine Below.drew ?_)) (by go_size)
  obtain ⟨va, vb, l1, t1, l2, t2, rfl, ⟨k1, k3, k2, k4, sep⟩, o1, o2⟩ := o1
  obtain ⟨a2, c2, rfl⟩ := own_shape o1
  obtain ⟨b2, d2, rfl, _, _⟩ := mat_shape o2.mat
  simp only [World.size_alloc] at k1 k2
  have O1 := Lib.hid o1
  have O2 := Lib.hid o2
  have T1 := Lib.hid tX1
  have R1 := Lib.hid tR1
  obtain ⟨⟨p0, p1, p2⟩, ⟨p3, p4, p5⟩, p6, p7, p8⟩ := id tX1
  clear o1 o2 hb1 tX1 tR1
  go_wp2_with (at_builtin; refine wp_appI rfl _ _ rfl w1.heap.size (.slice none 0 0) (.slice f1 m.back.length g1) [] m.back rfl rfl (OwnV.nil _ _ _) (HI.out.below (((hB1.out.setCell (p := ⟨w.heap.size, 0, none⟩) (Nat.le_refl _) _).setCell (p := ⟨w.heap.size, 1, none⟩) (Nat.le_refl _) _).setCell (p := ⟨w.heap.size, 2, none⟩) (Nat.le_refl _) _)) (by simp; omega) (by simp only [size_set]; omega) ?_; intro z w3 ow hg _; rw [List.nil_append] at ow; obtain ⟨za, zc, rfl⟩ := ownV_shape ow; simp only [List.length_map] at ow; (have OW := Lib.hid ow); (have hb3 := Lib.hid (grown_below hg)); clear ow hg; (have t3 := mc_below hb3.out (mc_set012 T1.out)); (have r3 := mc_below hb3.out (mc_sc (mc_sc (mc_sc R1.out (by omega)) (by omega)) (by omega))); (have fX3 : ∀ i, w3.frozen? ⟨w.heap.size, i, none⟩ = false := fun i => (hb3.out.frozen (p := ⟨w.heap.size, i, none⟩) (by simp only [size_set]; omega)).trans (by have := fX1 i; simpa [go_sem] using this)); (have fR3 : ∀ i, w3.frozen? ⟨w.heap.size + 1, i, none⟩ = false := fun i => (hb3.out.frozen (p := ⟨w.heap.size + 1, i, none⟩) (by simp only [size_set]; omega)).trans (by have := fR1 i; simpa [go_sem] using this)); obtain ⟨⟨x30, x31, x32⟩, ⟨x33, x34, x35⟩, x36, x37, x38⟩ := t3; obtain ⟨⟨r30, r31, r32⟩, ⟨r33, r34, r35⟩, r36, r37, r38⟩ := r3)
  have hs3 : w1.heap.size ≤ w3.heap.size := Nat.le_trans (by simp only [size_set]; omega) hb3.out.size
  refine bodyPost_ret (v := .agg #[.slice a2 m.ram.length c2, .slice b2 m.rom.length d2, .int .i64 m.bank, .int .i64 m.a, .int .i64 m.pc, .bool m.carry, .slice za m.back.length zc, .bool m.stop, .int .i64 m.cyc]) (by simp [results, Try.results113, go_sem, r30, r31, r32, r33, r34, r35, r36, r37, r38]) rfl ?_
  have B3 : Hid (Below w.heap.size w w3) := ((((hB1.out.setCell (p := ⟨w.heap.size, 0, none⟩) (Nat.le_refl _) _).setCell (p := ⟨w.heap.size, 1, none⟩) (Nat.le_refl _) _).setCell (p := ⟨w.heap.size, 2, none⟩) (Nat.le_refl _) _)).trans (hb3.out.mono (by simp only [size_set]; omega))
  have P1 : Hid (Own l1 t1 w3 (.slice a2 m.ram.length c2) m.ram) := O1.out.agree (agree_below hb3.out ((((Agree.refl _ _ _).setCell (by show w.heap.size < l1 ∨ t1 ≤ w.heap.size; omega) _).setCell (by show w.heap.size < l1 ∨ t1 ≤ w.heap.size; omega) _).setCell (by show w.heap.size < l1 ∨ t1 ≤ w.heap.size; omega) _) (by simp only [size_set]; omega))
  have P2 : Hid (OwnMat l2 t2 w3 (.slice b2 m.rom.length d2) m.rom) := O2.out.agree (agree_below hb3.out ((((Agree.refl _ _ _).setCell (by show w.heap.size < l2 ∨ t2 ≤ w.heap.size; omega) _).setCell (by show w.heap.size < l2 ∨ t2 ≤ w.heap.size; omega) _).setCell (by show w.heap.size < l2 ∨ t2 ≤ w.heap.size; omega) _) (by simp only [size_set]; omega))
  have far : ∀ g, (Value.slice za m.back.length zc).ownBlock = some g → w1.heap.size ≤ g := fun g hg => (OW.out.lt g hg).1
  refine copyM_of (X := w.heap.size) (R := w.heap.size + 1) (w3 := w3) ?_ rfl (Nat.le_refl _) (by omega) (by omega) (by omega) (by omega) (by omega) sep P1.out P2.out OW.out hs1 B3.out (by omega) (by omega)
  repeat (first | with_reducible exact two_refl _ _ _ | with_reducible refine two_setX ?_ | with_reducible refine two_setR ?_)
end Go.Proofs.Ytpoiojknahmicaa
