/- The walk of the reference's function that copies a machine: the copy is of the call's own. No condition. -/
import Derived.Test.YtpoiojknahmicaaCopyMach
import Derived.Test.YtpoiojknahmicaaCloneS
namespace Go.Proofs.Ytpoiojknahmicaa
open Go.RowKit
set_option linter.unusedVariables false

set_option maxHeartbeats 4000000 in
set_option maxRecDepth 20000 in
theorem spec_l5Copy {v : Value} {m : Mach} {w : World} (h : MachV w v m) (z1 : m.ram.length ≤ 1000000000) (z2 : m.rom.length ≤ 1048576) (z3 : sumLen m.rom ≤ 1000000000) (z4 : m.back.length ≤ 1000000000) : Calls Try.prog 109 #[v] w (CopyM m w) := by
  obtain ⟨a1, c1, b1, d1, f1, g1, rfl, _, _, _, _, _, _⟩ := machV_shape h
  obtain ⟨M1, I1⟩ := machV_parts h
  have HM := Lib.hid M1
  have HI := Lib.hid I1
  clear h M1 I1
  go_enter Try.func109, Try.ntmps109
  go_wp2_with fail
  refine (spec_l2Copy (HM.out.below (by go_grown)) z1 z2 z3).mono ?_
  rintro e w1 ⟨v1, rfl, o1, hb1⟩
  have tX1 := mc_below hb1 (mc_alloc _ (mc_alloc _ (mc_lit rfl)))
  have tR1 := mc_below hb1 (mc_alloc _ (mc_zero (b := w.heap.size + 1) (by simp)))
  have tY1 := mc_below hb1 (mc_lit (m := m) (x := .slice a1 m.ram.length c1) (y := .slice b1 m.rom.length d1) (z := .slice f1 m.back.length g1) (b := w.heap.size + 2) (by simp))
  have fY1 : ∀ i, w1.frozen? ⟨w.heap.size + 2, i, none⟩ = false := fun i => (hb1.frozen (p := ⟨w.heap.size + 2, i, none⟩) (by simp)).trans (by simp [go_sem])
  have fR1 : ∀ i, w1.frozen? ⟨w.heap.size + 1, i, none⟩ = false := fun i => (hb1.frozen (p := ⟨w.heap.size + 1, i, none⟩) (by simp)).trans (by simp [go_sem])
  have hs1 : w.heap.size + 3 ≤ w1.heap.size := Nat.le_trans (by simp) hb1.size
  have hB1 : Hid (Below w.heap.size w w1) := below_via hb1 (by repeat (first | with_reducible exact Below.refl _ _ | with_reducible refine below_via (by assumption) ?_ (by go_size) | with_reducible refine below_within (by assumption) ?_ (by go_size) (by omega) | with_reducible refine Below.alloc ?_ (by go_size) _ | with_reducible refine Below.setCell ?_ (by go_size) _ | with_reducible refine Below.drew ?_)) (by go_size)
  obtain ⟨va, vb, l1, t1, l2, t2, rfl, ⟨k1, k3, k2, k4, sep⟩, o1, o2⟩ := o1
  obtain ⟨a2, c2, rfl⟩ := own_shape o1
  obtain ⟨b2, d2, rfl, _, _⟩ := mat_shape o2.mat
  simp only [World.size_alloc] at k1 k2
  have O1 := Lib.hid o1
  have O2 := Lib.hid o2
  have T1 := Lib.hid tX1
  have R1 := Lib.hid tR1
  have Y1 := Lib.hid tY1
  obtain ⟨⟨p0, p1, p2⟩, ⟨p3, p4, p5⟩, p6, p7, p8⟩ := id tX1
  obtain ⟨⟨e0, e1, e2⟩, ⟨e3, e4, e5⟩, e6, e7, e8⟩ := id tY1
  clear o1 o2 hb1 tX1 tR1 tY1
  have hxl : w.heap.size < w1.heap.size := by omega
  have hyl : w.heap.size + 2 < w1.heap.size := by omega
  have hrl : w.heap.size + 1 < w1.heap.size := by omega
  go_wp2_with (at_builtin; refine wp_appI rfl _ _ rfl w1.heap.size (.slice (some ⟨_, 0, none⟩) 0 0) (.slice f1 m.back.length g1) [] m.back rfl rfl (ownV_lit0 (by simp) (by simp)) (HI.out.below ((((hB1.out.setCell (p := ⟨w.heap.size + 2, 0, none⟩) (by show w.heap.size ≤ w.heap.size + 2; omega) _).setCell (p := ⟨w.heap.size + 2, 1, none⟩) (by show w.heap.size ≤ w.heap.size + 2; omega) _).setCell (p := ⟨w.heap.size + 2, 2, none⟩) (by show w.heap.size ≤ w.heap.size + 2; omega) _).alloc (by simp only [size_set]; omega) _)) (by simp; omega) (by simp only [World.size_alloc, size_set]; omega) ?_; intro z w3 ow hg _; rw [List.nil_append] at ow; obtain ⟨za, zc, rfl⟩ := ownV_shape ow; simp only [List.length_map] at ow; (have OW := Lib.hid ow); (have hb3 : Hid (Below w1.heap.size (((w1.setCell ⟨w.heap.size + 2, 0, none⟩ (.slice a2 m.ram.length c2)).setCell ⟨w.heap.size + 2, 1, none⟩ (.slice b2 m.rom.length d2)).setCell ⟨w.heap.size + 2, 2, none⟩ (.int .i64 m.bank)) w3) := below_own0 ((Below.refl _ _).alloc (by simp) _) hg (by simp only [World.size_alloc, size_set]; omega) (by simp)); clear ow hg; (have t3 := mc_be hb3.out (mc_set012 Y1.out) (by omega)); (have r3 := mc_be hb3.out (mc_sc (mc_sc (mc_sc R1.out (by omega)) (by omega)) (by omega)) (by omega)); (have fY3 : ∀ i, w3.frozen? ⟨w.heap.size + 2, i, none⟩ = false := fun i => (hb3.out.frozen (p := ⟨w.heap.size + 2, i, none⟩) (by show w.heap.size + 2 < _; omega)).trans (by have := fY1 i; simpa [go_sem] using this)); (have fR3 : ∀ i, w3.frozen? ⟨w.heap.size + 1, i, none⟩ = false := fun i => (hb3.out.frozen (p := ⟨w.heap.size + 1, i, none⟩) (by show w.heap.size + 1 < _; omega)).trans (by have := fR1 i; simpa [go_sem] using this)); obtain ⟨⟨x30, x31, x32⟩, ⟨x33, x34, x35⟩, x36, x37, x38⟩ := t3; obtain ⟨⟨r30, r31, r32⟩, ⟨r33, r34, r35⟩, r36, r37, r38⟩ := r3)
  have hs3 : w1.heap.size ≤ w3.heap.size := Nat.le_trans (by simp only [size_set]; omega) hb3.out.size
  refine bodyPost_ret (v := .agg #[.slice a2 m.ram.length c2, .slice b2 m.rom.length d2, .int .i64 m.bank, .int .i64 m.a, .int .i64 m.pc, .bool m.carry, .slice za m.back.length zc, .bool m.stop, .int .i64 m.cyc]) (by simp [results, Try.results109, go_sem, r30, r31, r32, r33, r34, r35, r36, r37, r38]) rfl ?_
  have B3 : Hid (Below w.heap.size w w3) := ((((hB1.out.setCell (p := ⟨w.heap.size + 2, 0, none⟩) (by show w.heap.size ≤ w.heap.size + 2; omega) _).setCell (p := ⟨w.heap.size + 2, 1, none⟩) (by show w.heap.size ≤ w.heap.size + 2; omega) _).setCell (p := ⟨w.heap.size + 2, 2, none⟩) (by show w.heap.size ≤ w.heap.size + 2; omega) _)).trans (hb3.out.mono (by omega))
  have P1 : Hid (Own l1 t1 w3 (.slice a2 m.ram.length c2) m.ram) := O1.out.agree (agree_below hb3.out ((((Agree.refl _ _ _).setCell (by show w.heap.size + 2 < l1 ∨ t1 ≤ w.heap.size + 2; omega) _).setCell (by show w.heap.size + 2 < l1 ∨ t1 ≤ w.heap.size + 2; omega) _).setCell (by show w.heap.size + 2 < l1 ∨ t1 ≤ w.heap.size + 2; omega) _) (by omega))
  have P2 : Hid (OwnMat l2 t2 w3 (.slice b2 m.rom.length d2) m.rom) := O2.out.agree (agree_below hb3.out ((((Agree.refl _ _ _).setCell (by show w.heap.size + 2 < l2 ∨ t2 ≤ w.heap.size + 2; omega) _).setCell (by show w.heap.size + 2 < l2 ∨ t2 ≤ w.heap.size + 2; omega) _).setCell (by show w.heap.size + 2 < l2 ∨ t2 ≤ w.heap.size + 2; omega) _) (by omega))
  refine copyM_of (X := w.heap.size + 2) (R := w.heap.size + 1) (w3 := w3) ?_ rfl (by omega) (by omega) (by omega) (by omega) (by omega) (by omega) sep P1.out P2.out OW.out (by omega) B3.out (by omega) (by omega)
  repeat (first | with_reducible exact two_refl _ _ _ | with_reducible refine two_setX ?_ | with_reducible refine two_setR ?_)
end Go.Proofs.Ytpoiojknahmicaa
