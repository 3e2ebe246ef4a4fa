/- Machines: their copies, steps and runs in the reference, joined from four texts. No condition. -/
import Derived.Test.YtkkgolgmhckgoaaMachA
import Derived.Test.YtkkgolgmhckgoaaCloneS
import Derived.Test.YtkkgolgmhckgoaaExecS
import Derived.Test.YtkkgolgmhckgoaaFetchS
section
/- The walk of the reference's function that copies a machine: the copy is of the call's own. No condition. -/
namespace Go.Proofs.Ytkkgolgmhckgoaa
open Go.RowKit
set_option linter.unusedVariables false

set_option maxHeartbeats 4000000 in
set_option maxRecDepth 20000 in
theorem spec_l5Copy {v : Value} {m : Mach} {w : World} (h : MachV w v m) (z1 : m.ram.length ≤ 1000000000) (z2 : m.rom.length ≤ 1048576) (z3 : sumLen m.rom ≤ 1000000000) (z4 : m.back.length ≤ 1000000000) : Calls Try.prog 79 #[v] w (CopyM m w) := by
  obtain ⟨a1, c1, b1, d1, f1, g1, rfl, _, _, _, _, _, _⟩ := machV_shape h
  obtain ⟨M1, I1⟩ := machV_parts h
  have HM := Lib.hid M1
  have HI := Lib.hid I1
  clear h M1 I1
  go_enter Try.func79, Try.ntmps79
  go_wp2_with fail
  refine (spec_l2Copy (HM.out.below (by go_grown)) z1 z2 z3).mono ?_
  rintro e w1 ⟨v1, rfl, o1, hb1⟩
  have tX1 := mc_below hb1 (mc_alloc _ (mc_alloc _ (mc_lit rfl)))
  have tR1 := mc_below hb1 (mc_alloc _ (mc_zero (b := w.heap.size + 1) (by simp)))
  have tY1 := mc_below hb1 (mc_lit (m := m) (x := .slice a1 m.ram.length c1) (y := .slice b1 m.rom.length d1) (z := .slice f1 m.back.length g1) (b := w.heap.size + 2) (by simp))
  have fY1 : ∀ i, w1.frozen? ⟨w.heap.size + 2, i, none⟩ = false := fun i => (hb1.frozen (p := ⟨w.heap.size + 2, i, none⟩) (by simp)).trans (by simp [go_sem])
  have fR1 : ∀ i, w1.frozen? ⟨w.heap.size + 1, i, none⟩ = false := fun i => (hb1.frozen (p := ⟨w.heap.size + 1, i, none⟩) (by simp)).trans (by simp [go_sem])
  have hs1 : w.heap.size + 3 ≤ w1.heap.size := Nat.le_trans (by simp) hb1.size
  have hB1 : Hid (Below w.heap.size w w1) := below_via hb1 (by repeat (first | with_reducible exact Below.refl _ _ | with_reducible refine below_via (by assumption) ?_ (by go_size) | with_reducible refine below_within (by assumption) ?_ (by go_size) (by omega) | with_reducible refine Below.alloc ?_ (by go_size) _ | with_reducible refine Below.setCell ?_ (by go_size) _ | with_reducible refine Below.drew ?_)) (by go_size)
  obtain ⟨va, vb, l1, t1, l2, t2, rfl, ⟨k1, k3, k2, k4, sep⟩, o1, o2⟩ := o1
  obtain ⟨a2, c2, rfl⟩ := own_shape o1
  obtain ⟨b2, d2, rfl, _, _⟩ := mat_shape o2.mat
  simp only [World.size_alloc] at k1 k2
  have O1 := Lib.hid o1
  have O2 := Lib.hid o2
  have T1 := Lib.hid tX1
  have R1 := Lib.hid tR1
  have Y1 := Lib.hid tY1
  obtain ⟨⟨p0, p1, p2⟩, ⟨p3, p4, p5⟩, p6, p7, p8⟩ := id tX1
  obtain ⟨⟨e0, e1, e2⟩, ⟨e3, e4, e5⟩, e6, e7, e8⟩ := id tY1
  clear o1 o2 hb1 tX1 tR1 tY1
  have hxl : w.heap.size < w1.heap.size := by omega
  have hyl : w.heap.size + 2 < w1.heap.size := by omega
  have hrl : w.heap.size + 1 < w1.heap.size := by omega
  go_wp2_with (at_builtin; refine wp_appI rfl _ _ rfl w1.heap.size (.slice (some ⟨_, 0, none⟩) 0 0) (.slice f1 m.back.length g1) [] m.back rfl rfl (ownV_lit0 (by simp) (by simp)) (HI.out.below ((((hB1.out.setCell (p := ⟨w.heap.size + 2, 0, none⟩) (by show w.heap.size ≤ w.heap.size + 2; omega) _).setCell (p := ⟨w.heap.size + 2, 1, none⟩) (by show w.heap.size ≤ w.heap.size + 2; omega) _).setCell (p := ⟨w.heap.size + 2, 2, none⟩) (by show w.heap.size ≤ w.heap.size + 2; omega) _).alloc (by simp only [size_set]; omega) _)) (by simp; omega) (by simp only [World.size_alloc, size_set]; omega) ?_; intro z w3 ow hg _; rw [List.nil_append] at ow; obtain ⟨za, zc, rfl⟩ := ownV_shape ow; simp only [List.length_map] at ow; (have OW := Lib.hid ow); (have hb3 : Hid (Below w1.heap.size (((w1.setCell ⟨w.heap.size + 2, 0, none⟩ (.slice a2 m.ram.length c2)).setCell ⟨w.heap.size + 2, 1, none⟩ (.slice b2 m.rom.length d2)).setCell ⟨w.heap.size + 2, 2, none⟩ (.int .i64 m.bank)) w3) := below_own0 ((Below.refl _ _).alloc (by simp) _) hg (by simp only [World.size_alloc, size_set]; omega) (by simp)); clear ow hg; (have t3 := mc_be hb3.out (mc_set012 Y1.out) (by omega)); (have r3 := mc_be hb3.out (mc_sc (mc_sc (mc_sc R1.out (by omega)) (by omega)) (by omega)) (by omega)); (have fY3 : ∀ i, w3.frozen? ⟨w.heap.size + 2, i, none⟩ = false := fun i => (hb3.out.frozen (p := ⟨w.heap.size + 2, i, none⟩) (by show w.heap.size + 2 < _; omega)).trans (by have := fY1 i; simpa [go_sem] using this)); (have fR3 : ∀ i, w3.frozen? ⟨w.heap.size + 1, i, none⟩ = false := fun i => (hb3.out.frozen (p := ⟨w.heap.size + 1, i, none⟩) (by show w.heap.size + 1 < _; omega)).trans (by have := fR1 i; simpa [go_sem] using this)); obtain ⟨⟨x30, x31, x32⟩, ⟨x33, x34, x35⟩, x36, x37, x38⟩ := t3; obtain ⟨⟨r30, r31, r32⟩, ⟨r33, r34, r35⟩, r36, r37, r38⟩ := r3)
  have hs3 : w1.heap.size ≤ w3.heap.size := Nat.le_trans (by simp only [size_set]; omega) hb3.out.size
  refine bodyPost_ret (v := .agg #[.slice a2 m.ram.length c2, .slice b2 m.rom.length d2, .int .i64 m.bank, .int .i64 m.a, .int .i64 m.pc, .bool m.carry, .slice za m.back.length zc, .bool m.stop, .int .i64 m.cyc]) (by simp [results, Try.results79, go_sem, r30, r31, r32, r33, r34, r35, r36, r37, r38]) rfl ?_
  have B3 : Hid (Below w.heap.size w w3) := ((((hB1.out.setCell (p := ⟨w.heap.size + 2, 0, none⟩) (by show w.heap.size ≤ w.heap.size + 2; omega) _).setCell (p := ⟨w.heap.size + 2, 1, none⟩) (by show w.heap.size ≤ w.heap.size + 2; omega) _).setCell (p := ⟨w.heap.size + 2, 2, none⟩) (by show w.heap.size ≤ w.heap.size + 2; omega) _)).trans (hb3.out.mono (by omega))
  have P1 : Hid (Own l1 t1 w3 (.slice a2 m.ram.length c2) m.ram) := O1.out.agree (agree_below hb3.out ((((Agree.refl _ _ _).setCell (by show w.heap.size + 2 < l1 ∨ t1 ≤ w.heap.size + 2; omega) _).setCell (by show w.heap.size + 2 < l1 ∨ t1 ≤ w.heap.size + 2; omega) _).setCell (by show w.heap.size + 2 < l1 ∨ t1 ≤ w.heap.size + 2; omega) _) (by omega))
  have P2 : Hid (OwnMat l2 t2 w3 (.slice b2 m.rom.length d2) m.rom) := O2.out.agree (agree_below hb3.out ((((Agree.refl _ _ _).setCell (by show w.heap.size + 2 < l2 ∨ t2 ≤ w.heap.size + 2; omega) _).setCell (by show w.heap.size + 2 < l2 ∨ t2 ≤ w.heap.size + 2; omega) _).setCell (by show w.heap.size + 2 < l2 ∨ t2 ≤ w.heap.size + 2; omega) _) (by omega))
  refine copyM_of (X := w.heap.size + 2) (R := w.heap.size + 1) (w3 := w3) ?_ rfl (by omega) (by omega) (by omega) (by omega) (by omega) (by omega) sep P1.out P2.out OW.out (by omega) B3.out (by omega) (by omega)
  repeat (first | with_reducible exact two_refl _ _ _ | with_reducible refine two_setX ?_ | with_reducible refine two_setR ?_)
end Go.Proofs.Ytkkgolgmhckgoaa
end

section
/- The walk of the reference's step of a machine in place. No condition. -/
namespace Go.Proofs.Ytkkgolgmhckgoaa
open Go.RowKit
set_option linter.unusedVariables false

set_option maxHeartbeats 4000000 in
set_option maxRecDepth 20000 in
theorem spec_l5Step {L B : Nat} {m : Mach} {C : Int} {w : World} (h : InM L w B m) (hg : m.Good C) (hC : C ≤ 1000000000000) : Calls Try.prog 80 #[.pointer (some ⟨B, 0, none⟩)] w (Does L w B m.step) := by
  unfold Does
  have G := Lib.hid hg
  have CF := Lib.hid (spec_l5Fetch h hg)
  obtain ⟨a, c, b, d, l1, t1, l2, t2, v, h⟩ := h
  obtain ⟨z0, z1⟩ := inR_iff.1 hg.pc
  have hB := h.ltB
  have lB := h.mem.lB
  have hL : L ≤ w.heap.size := by omega
  have H0 := Lib.hid h
  have y0 := hg.c0
  have y1 := hg.c1
  obtain ⟨_, _, _, c7, _⟩ := h.mc
  clear h hg
  cases hs : m.stop
  · rw [hs] at c7
    cases hd : dOk m.fetch 0
    · have E := Lib.hid (step_no hs hd)
      rw [decV_noOk hd] at CF
      go_enter Try.func80, Try.ntmps80
      go_wp2_with fail
      refine CF.out.mono ?_
      rintro e w5 ⟨rfl, hb5⟩
      have M5 := Lib.hid (H0.out.below hb5)
      have k7 := M5.out.mf 7 (by decide)
      obtain ⟨_, _, _, k8, _⟩ := id M5.out.mc
      have lB5 := M5.out.ltB
      have B5 := Lib.hid hb5
      have hs5 := hb5.size
      have hne : B ≠ w5.heap.size := by omega
      rw [hs] at k8
      clear c7 hb5
      go_wp2_with fail
      go_returns
      refine ⟨rfl, ?_, ?_⟩
      · first | exact inM_eq ((M5.out.setStop true).alloc _).inM E.out | exact inM_eq ((M5.out.alloc _).setStop true).inM E.out
      · repeat (first | with_reducible exact B5.out.mono hL | with_reducible refine Below.setCell ?_ (by first | exact lB | (dsimp only; exact lB)) _ | with_reducible refine Below.alloc ?_ (by first | omega | (rw [size_set]; omega) | (simp; omega)) _)
    · have E := Lib.hid (step_yes hs hd)
      have hv := Mach.fetch_ov hd
      obtain ⟨n1, n3⟩ := dOk_len hd
      rw [decV_yes hd] at CF
      generalize dOp m.fetch 0 = op at *
      generalize dArg m.fetch 0 = arg at *
      have G2 := Lib.hid (G.out.ahead (show 0 ≤ olen op by omega) n3)
      generalize olen op = nn at *
      have em : (m.pc + nn).tmod 1024 = (m.pc + nn) % 1024 := Int.tmod_eq_emod_of_nonneg (by omega)
      have hw1 : IntKind.i64.wrap (m.pc + nn) = m.pc + nn := by rw [IntKind.wrap_i64]; omega
      have hw2 : IntKind.i64.wrap (m.cyc + nn) = m.cyc + nn := by rw [IntKind.wrap_i64]; omega
      go_enter Try.func80, Try.ntmps80
      go_wp2_with fail
      refine CF.out.mono ?_
      rintro e w5 ⟨rfl, hb5⟩
      have M5 := Lib.hid (H0.out.below hb5)
      have k4 := M5.out.mf 4 (by decide)
      have k8 := M5.out.mf 8 (by decide)
      obtain ⟨_, ⟨_, g4, _⟩, _, _, g8⟩ := id M5.out.mc
      have lB5 := M5.out.ltB
      have B5 := Lib.hid hb5
      have hs5 := hb5.size
      have hne : B ≠ w5.heap.size := by omega
      clear c7 hb5
      go_wp2_with fail
      have M6 : InM L (((w5.setCell ⟨B, 4, none⟩ (.int .i64 ((m.pc + nn) % 1024))).setCell ⟨B, 8, none⟩ (.int .i64 (m.cyc + nn))).alloc (.cells #[.int .i64 op, .int .i64 arg] 27)) B (m.ahead nn) ∧ Below L w (((w5.setCell ⟨B, 4, none⟩ (.int .i64 ((m.pc + nn) % 1024))).setCell ⟨B, 8, none⟩ (.int .i64 (m.cyc + nn))).alloc (.cells #[.int .i64 op, .int .i64 arg] 27)) :=
        ⟨(((M5.out.setPc _).setCyc _).alloc _).inM, (((B5.out.mono hL).setCell (p := ⟨B, 4, none⟩) lB _).setCell (p := ⟨B, 8, none⟩) lB _).alloc (by rw [size_set, size_set]; omega) _⟩
      obtain ⟨M6i, M6b⟩ := M6
      refine (spec_l5Do (m := m.ahead nn) (L := L) M6i G2.out hv).mono ?_
      rintro e w6 ⟨rfl, hm6, hb6⟩
      go_wp2_with fail
      go_returns
      exact ⟨rfl, inM_eq hm6 E.out, M6b.trans hb6⟩
  · have E := Lib.hid (inM_eq H0.out.inM (Mach.step_stop hs))
    rw [hs] at c7
    go_enter Try.func80, Try.ntmps80
    go_wp2_with fail
    go_returns
    exact ⟨rfl, E.out, Below.refl _ _⟩
end Go.Proofs.Ytkkgolgmhckgoaa
end

section
/- The walks of the reference's StepMachine and RunMachine. No condition. -/
namespace Go.Proofs.Ytkkgolgmhckgoaa
open Go.RowKit
set_option linter.unusedVariables false

theorem good_sizes {m : Mach} {C : Int} (g : m.Good C) : m.ram.length ≤ 1000000000 ∧ m.rom.length ≤ 1048576 ∧ sumLen m.rom ≤ 1000000000 ∧ m.back.length ≤ 1000000000 := by
  obtain ⟨h1, h2, h3⟩ := sizes_of g.mem
  exact ⟨h1, h2, h3, by have := g.len; omega⟩
theorem made_of_copy {R : Nat} {m : Mach} {w wr w5 W' : World} {v : Value} (h : CopyM m wr (.returned v) w5) (hT : Two R R w5 W') (hR : w.heap.size ≤ R) (hL : R < wr.heap.size) (hb : Below w.heap.size w wr) : MadeMach m w (.returned v) W' := by
  obtain ⟨v', e, own, hb5⟩ := h.made
  obtain ⟨⟨q1, q2, q3⟩, q4, q5⟩ := hT
  have hs := hb.size
  have B := hb.trans (hb5.mono hs)
  refine ⟨v', e, (own.agree (fun k k1 _ => q5 k (by omega) (by omega))).wide (by omega) (by omega), ⟨q1.trans B.os, q2.trans B.tape, q3.trans B.output, by rw [q4]; exact B.size, fun k hk => (q5 k (by omega) (by omega)).trans (B.block k hk)⟩⟩
set_option maxHeartbeats 4000000 in
set_option maxRecDepth 20000 in
theorem spec_StepMachine {v : Value} {m : Mach} {w : World} (h : MachV w v m) : Calls Try.prog 38 #[v] w (MadeMach (stM m) w) := by
  obtain ⟨a1, c1, b1, d1, f1, g1, rfl, _, _, _, _, _, _⟩ := machV_shape h
  have H := Lib.hid h
  clear h
  cases hv : machB m
  · rw [stM_no hv]
    go_enter Try.func38, Try.ntmps38
    go_wp2_with fail
    refine (calls_eqv (spec_MachineValid (H.out.below (by go_grown))) hv).mono ?_
    rintro e w1 ⟨rfl, hb1⟩
    have r1 := mc_below hb1 (mc_zero (b := w.heap.size + 1) (by simp))
    have hB1 : Hid (Below w.heap.size w w1) := below_via hb1 (by repeat (first | with_reducible exact Below.refl _ _ | with_reducible refine below_via (by assumption) ?_ (by go_size) | with_reducible refine below_within (by assumption) ?_ (by go_size) (by omega) | with_reducible refine Below.alloc ?_ (by go_size) _ | with_reducible refine Below.setCell ?_ (by go_size) _ | with_reducible refine Below.drew ?_)) (by go_size)
    have fR : ∀ i, w1.frozen? ⟨w.heap.size + 1, i, none⟩ = false := fun i => (hb1.frozen (p := ⟨w.heap.size + 1, i, none⟩) (by simp)).trans (by simp [go_sem])
    have hs1 : w.heap.size + 2 ≤ w1.heap.size := Nat.le_trans (by simp) hb1.size
    obtain ⟨⟨r10, r11, r12⟩, ⟨r13, r14, r15⟩, r16, r17, r18⟩ := r1
    clear hb1
    go_wp2_with fail
    refine bodyPost_ret (v := .agg #[.slice none 0 0, .slice none 0 0, .int .i64 0, .int .i64 0, .int .i64 0, .bool false, .slice none 0 0, .bool false, .int .i64 0]) (by simp [results, Try.results38, go_sem, r10, r11, r12, r13, r14, r15, r16, r17, r18, zeroM]) rfl ⟨_, rfl, ownMach_zeroM (by simp only [size_set]; omega), ?_⟩
    repeat (first | with_reducible exact hB1.out | refine Below.setCell ?_ (by show w.heap.size ≤ w.heap.size + 1; omega) _)
  · rw [stM_yes hv]
    obtain ⟨z1, z2, z3, z4⟩ := sizes_mach hv
    have G := Lib.hid (machB_good hv)
    go_enter Try.func38, Try.ntmps38
    go_wp2_with fail
    refine (calls_eqv (spec_MachineValid (H.out.below (by go_grown))) hv).mono ?_
    rintro e w1 ⟨rfl, hb1⟩
    have x1 := mc_below hb1 (mc_alloc _ (mc_lit rfl))
    have r1 := mc_below hb1 (mc_zero (b := w.heap.size + 1) (by simp))
    have hB1 : Hid (Below w.heap.size w w1) := below_via hb1 (by repeat (first | with_reducible exact Below.refl _ _ | with_reducible refine below_via (by assumption) ?_ (by go_size) | with_reducible refine below_within (by assumption) ?_ (by go_size) (by omega) | with_reducible refine Below.alloc ?_ (by go_size) _ | with_reducible refine Below.setCell ?_ (by go_size) _ | with_reducible refine Below.drew ?_)) (by go_size)
    have fR : ∀ i, w1.frozen? ⟨w.heap.size + 1, i, none⟩ = false := fun i => (hb1.frozen (p := ⟨w.heap.size + 1, i, none⟩) (by simp)).trans (by simp [go_sem])
    have hs1 : w.heap.size + 2 ≤ w1.heap.size := Nat.le_trans (by simp) hb1.size
    obtain ⟨⟨x10, x11, x12⟩, ⟨x13, x14, x15⟩, x16, x17, x18⟩ := x1
    clear hb1
    go_wp2_with fail
    refine (spec_l5Copy (H.out.below hB1.out) z1 z2 z3 z4).mono ?_
    rintro e w2 ⟨a, c, b, d, l1, t1, l2, t2, za, zc, rfl, ⟨k1, k2, k3, k4, sep⟩, o1, o2, o3, bs, hb2⟩
    have M2 := Lib.hid (machIn_new 39 k1 k2 k3 k4 sep o1 o2 o3 bs hb2.size).inM
    have r2 := Lib.hid (mc_below hb2 r1)
    have fR2 : ∀ i, w2.frozen? ⟨w.heap.size + 1, i, none⟩ = false := fun i => (hb2.frozen (p := ⟨w.heap.size + 1, i, none⟩) (by show w.heap.size + 1 < _; omega)).trans (fR i)
    have hs2 := hb2.size
    have hB2 : Hid (Below w.heap.size w w2) := hB1.out.trans (hb2.mono (by omega))
    clear o1 o2 o3 bs hb2 x10 x11 x12 x13 x14 x15 x16 x17 x18 r1
    go_wp2_with fail
    refine (spec_l5Step M2.out G.out (by omega)).mono ?_
    rintro e w3 ⟨rfl, hm3, hb3⟩
    have hb3' := hb3
    obtain ⟨a', c', b', d', l1', t1', l2', t2', v', h3⟩ := hm3
    obtain ⟨va, vc, rfl⟩ := ownV_shape h3.bk
    simp only [List.length_map] at h3
    have M3 := Lib.hid h3
    have y3 := mc_be hb3 (mc_alloc (.cells #[.slice a m.ram.length c, .slice b m.rom.length d, .int .i64 m.bank, .int .i64 m.a, .int .i64 m.pc, .bool m.carry, .slice za m.back.length zc, .bool m.stop, .int .i64 m.cyc] 39) r2.out) (by omega)
    have fR3 : ∀ i, w3.frozen? ⟨w.heap.size + 1, i, none⟩ = false := fun i => (hb3.frozen (p := ⟨w.heap.size + 1, i, none⟩) (by show w.heap.size + 1 < _; omega)).trans ((((Below.refl w2.heap.size w2).alloc (Nat.le_refl _) _).frozen (p := ⟨w.heap.size + 1, i, none⟩) (by show w.heap.size + 1 < _; omega)).trans (fR2 i))
    have hB3 : Hid (Below w.heap.size w w3) := (hB2.out.alloc hB2.out.size _).trans (hb3.mono (by omega))
    obtain ⟨⟨q0, q1, q2⟩, ⟨q3, q4, q5⟩, q6, q7, q8⟩ := h3.mc
    obtain ⟨⟨r10, r11, r12⟩, ⟨r13, r14, r15⟩, r16, r17, r18⟩ := y3
    have hlw : w.heap.size + 1 < w3.heap.size := by have := M3.out.ltB; have := M3.out.mem.lB; omega
    clear h3 hb3 hb3' M2
    obtain ⟨y1, y2, y3', y4⟩ := good_sizes ((G.out.step))
    go_wp2_with fail
    refine (spec_l5Copy M3.out.own.mach y1 y2 y3' y4).mono ?_
    rintro e w9 ⟨a9, c9, b9, d9, l9, t9, l8, t8, za9, zc9, rfl, hk9⟩
    have CM := Lib.hid (show CopyM m.step w3 _ w9 from ⟨a9, c9, b9, d9, l9, t9, l8, t8, za9, zc9, rfl, hk9⟩)
    obtain ⟨_, _, _, _, _, hb9⟩ := hk9
    have y9 := mc_be hb9 (show Mc w3 (w.heap.size + 1) (.slice none 0 0) (.slice none 0 0) (.slice none 0 0) zeroM from ⟨⟨r10, r11, r12⟩, ⟨r13, r14, r15⟩, r16, r17, r18⟩) (by omega)
    have fR9 : ∀ i, w9.frozen? ⟨w.heap.size + 1, i, none⟩ = false := fun i => (hb9.frozen (p := ⟨w.heap.size + 1, i, none⟩) (by show w.heap.size + 1 < _; omega)).trans (fR3 i)
    clear r10 r11 r12 r13 r14 r15 r16 r17 r18 hb9
    obtain ⟨⟨r10, r11, r12⟩, ⟨r13, r14, r15⟩, r16, r17, r18⟩ := y9
    go_wp2_with fail
    refine bodyPost_ret (v := .agg #[.slice a9 m.step.ram.length c9, .slice b9 m.step.rom.length d9, .int .i64 m.step.bank, .int .i64 m.step.a, .int .i64 m.step.pc, .bool m.step.carry, .slice za9 m.step.back.length zc9, .bool m.step.stop, .int .i64 m.step.cyc]) (by simp [results, Try.results38, go_sem, r10, r11, r12, r13, r14, r15, r16, r17, r18, zeroM]) rfl ?_
    refine made_of_copy CM.out (R := w.heap.size + 1) ?_ (by omega) (by omega) hB3.out
    repeat (first | with_reducible exact two_refl _ _ _ | with_reducible refine two_setR ?_)
set_option maxHeartbeats 4000000 in
set_option maxRecDepth 20000 in
theorem spec_RunMachine {v : Value} {m : Mach} (n : Int) {w : World} (h : MachV w v m) : Calls Try.prog 42 #[v, .int .i64 n] w (MadeMach (rnM m n) w) := by
  obtain ⟨a1, c1, b1, d1, f1, g1, rfl, _, _, _, _, _, _⟩ := machV_shape h
  have H := Lib.hid h
  clear h
  cases hv : machB m
  · rw [rnM_no (by rw [hv]; rfl)]
    go_enter Try.func42, Try.ntmps42
    go_wp2_with fail
    refine (calls_eqv (spec_MachineValid (H.out.below (by go_grown))) hv).mono ?_
    rintro e w1 ⟨rfl, hb1⟩
    have r1 := mc_below hb1 (mc_zero (b := w.heap.size + 1) (by simp))
    have hB1 : Hid (Below w.heap.size w w1) := below_via hb1 (by repeat (first | with_reducible exact Below.refl _ _ | with_reducible refine below_via (by assumption) ?_ (by go_size) | with_reducible refine below_within (by assumption) ?_ (by go_size) (by omega) | with_reducible refine Below.alloc ?_ (by go_size) _ | with_reducible refine Below.setCell ?_ (by go_size) _ | with_reducible refine Below.drew ?_)) (by go_size)
    have fR : ∀ i, w1.frozen? ⟨w.heap.size + 1, i, none⟩ = false := fun i => (hb1.frozen (p := ⟨w.heap.size + 1, i, none⟩) (by simp)).trans (by simp [go_sem])
    have hs1 : w.heap.size + 2 ≤ w1.heap.size := Nat.le_trans (by simp) hb1.size
    obtain ⟨⟨r10, r11, r12⟩, ⟨r13, r14, r15⟩, r16, r17, r18⟩ := r1
    clear hb1
    go_wp2_with fail
    refine bodyPost_ret (v := .agg #[.slice none 0 0, .slice none 0 0, .int .i64 0, .int .i64 0, .int .i64 0, .bool false, .slice none 0 0, .bool false, .int .i64 0]) (by simp [results, Try.results42, go_sem, r10, r11, r12, r13, r14, r15, r16, r17, r18, zeroM]) rfl ⟨_, rfl, ownMach_zeroM (by simp only [size_set]; omega), ?_⟩
    repeat (first | with_reducible exact hB1.out | refine Below.setCell ?_ (by show w.heap.size ≤ w.heap.size + 1; omega) _)
  cases hn : inR n 0 500
  · rw [rnM_no (by rw [hv, hn]; rfl)]
    go_enter Try.func42, Try.ntmps42
    go_wp2_with fail
    refine (calls_eqv (spec_MachineValid (H.out.below (by go_grown))) hv).mono ?_
    rintro e w1 ⟨rfl, hb1⟩
    have r1 := mc_below hb1 (mc_zero (b := w.heap.size + 1) (by simp))
    have hB1 : Hid (Below w.heap.size w w1) := below_via hb1 (by repeat (first | with_reducible exact Below.refl _ _ | with_reducible refine below_via (by assumption) ?_ (by go_size) | with_reducible refine below_within (by assumption) ?_ (by go_size) (by omega) | with_reducible refine Below.alloc ?_ (by go_size) _ | with_reducible refine Below.setCell ?_ (by go_size) _ | with_reducible refine Below.drew ?_)) (by go_size)
    have fR : ∀ i, w1.frozen? ⟨w.heap.size + 1, i, none⟩ = false := fun i => (hb1.frozen (p := ⟨w.heap.size + 1, i, none⟩) (by simp)).trans (by simp [go_sem])
    have hs1 : w.heap.size + 2 ≤ w1.heap.size := Nat.le_trans (by simp) hb1.size
    obtain ⟨⟨r10, r11, r12⟩, ⟨r13, r14, r15⟩, r16, r17, r18⟩ := r1
    clear hb1
    go_wp2_with fail
    refine (calls_eqv (spec_l1In _ _ _ _) hn).mono ?_
    rintro e w' ⟨rfl, rfl⟩
    go_wp2_with fail
    refine bodyPost_ret (v := .agg #[.slice none 0 0, .slice none 0 0, .int .i64 0, .int .i64 0, .int .i64 0, .bool false, .slice none 0 0, .bool false, .int .i64 0]) (by simp [results, Try.results42, go_sem, r10, r11, r12, r13, r14, r15, r16, r17, r18, zeroM]) rfl ⟨_, rfl, ownMach_zeroM (by simp only [size_set]; omega), ?_⟩
    repeat (first | with_reducible exact hB1.out | refine Below.setCell ?_ (by show w.heap.size ≤ w.heap.size + 1; omega) _)
  · rw [rnM_yes hv hn]
    obtain ⟨n0, n5⟩ := inR_iff.1 hn
    obtain ⟨N, rfl⟩ := Int.eq_ofNat_of_zero_le n0
    rw [Int.toNat_natCast]
    obtain ⟨z1, z2, z3, z4⟩ := sizes_mach hv
    have G := Lib.hid (machB_good hv)
    go_enter Try.func42, Try.ntmps42
    go_wp2_with fail
    refine (calls_eqv (spec_MachineValid (H.out.below (by go_grown))) hv).mono ?_
    rintro e w1 ⟨rfl, hb1⟩
    have x1 := mc_below hb1 (mc_alloc _ (mc_lit rfl))
    have r1 := mc_below hb1 (mc_zero (b := w.heap.size + 1) (by simp))
    have hB1 : Hid (Below w.heap.size w w1) := below_via hb1 (by repeat (first | with_reducible exact Below.refl _ _ | with_reducible refine below_via (by assumption) ?_ (by go_size) | with_reducible refine below_within (by assumption) ?_ (by go_size) (by omega) | with_reducible refine Below.alloc ?_ (by go_size) _ | with_reducible refine Below.setCell ?_ (by go_size) _ | with_reducible refine Below.drew ?_)) (by go_size)
    have fR : ∀ i, w1.frozen? ⟨w.heap.size + 1, i, none⟩ = false := fun i => (hb1.frozen (p := ⟨w.heap.size + 1, i, none⟩) (by simp)).trans (by simp [go_sem])
    have hs1 : w.heap.size + 2 ≤ w1.heap.size := Nat.le_trans (by simp) hb1.size
    obtain ⟨⟨x10, x11, x12⟩, ⟨x13, x14, x15⟩, x16, x17, x18⟩ := x1
    clear hb1
    go_wp2_with fail
    refine (calls_eqv (spec_l1In _ _ _ _) hn).mono ?_
    rintro e w' ⟨rfl, rfl⟩
    go_wp2_with fail
    refine (spec_l5Copy (H.out.below hB1.out) z1 z2 z3 z4).mono ?_
    rintro e w2 ⟨a, c, b, d, l1, t1, l2, t2, za, zc, rfl, ⟨k1, k2, k3, k4, sep⟩, o1, o2, o3, bs, hb2⟩
    have M2 := Lib.hid (machIn_new 39 k1 k2 k3 k4 sep o1 o2 o3 bs hb2.size).inM
    have r2 := Lib.hid (mc_below hb2 r1)
    have fR2 : ∀ i, w2.frozen? ⟨w.heap.size + 1, i, none⟩ = false := fun i => (hb2.frozen (p := ⟨w.heap.size + 1, i, none⟩) (by show w.heap.size + 1 < _; omega)).trans (fR i)
    have hs2 := hb2.size
    have hB2 : Hid (Below w.heap.size w w2) := hB1.out.trans (hb2.mono (by omega))
    clear o1 o2 o3 bs hb2 x10 x11 x12 x13 x14 x15 x16 x17 x18 r1
    have RX := Lib.hid (mc_alloc (.cells #[.slice a m.ram.length c, .slice b m.rom.length d, .int .i64 m.bank, .int .i64 m.a, .int .i64 m.pc, .bool m.carry, .slice za m.back.length zc, .bool m.stop, .int .i64 m.cyc] 39) r2.out)
    have FX : ∀ i, (w2.alloc (.cells #[.slice a m.ram.length c, .slice b m.rom.length d, .int .i64 m.bank, .int .i64 m.a, .int .i64 m.pc, .bool m.carry, .slice za m.back.length zc, .bool m.stop, .int .i64 m.cyc] 39)).frozen? ⟨w.heap.size + 1, i, none⟩ = false := fun i => ((((Below.refl w2.heap.size w2).alloc (Nat.le_refl _) _).frozen (p := ⟨w.heap.size + 1, i, none⟩) (by show w.heap.size + 1 < _; omega)).trans (fR2 i))
    have BX : Hid (Below w.heap.size w (w2.alloc (.cells #[.slice a m.ram.length c, .slice b m.rom.length d, .int .i64 m.bank, .int .i64 m.a, .int .i64 m.pc, .bool m.carry, .slice za m.back.length zc, .bool m.stop, .int .i64 m.cyc] 39))) := hB2.out.alloc hB2.out.size _
    go_upto_region 4 with fail
    generalize (w2.alloc (.cells #[.slice a m.ram.length c, .slice b m.rom.length d, .int .i64 m.bank, .int .i64 m.a, .int .i64 m.pc, .bool m.carry, .slice za m.back.length zc, .bool m.stop, .int .i64 m.cyc] 39)) = X at *
    go_wp2_with fail
    go_loopw [6] (fun i wr => ∃ k : Nat, k ≤ N ∧ i = .int .i64 k ∧ Hid (InM w1.heap.size wr w2.heap.size (Mach.steps k m)) ∧ Hid (Below w1.heap.size X wr)) (fun i _ => N - (intOf i).toNat)
    case atStart => exact ⟨0, Nat.zero_le _, rfl, M2.out, Below.refl _ _⟩
    case round =>
      obtain ⟨k, hk, rfl, hM, hX⟩ := hrel
      by_cases hlt : k < N
      · have hki : (k : Int) < (N : Int) := by omega
        go_wp2_with fail
        refine (spec_l5Step hM.out (G.out.steps k) (by omega)).mono ?_
        rintro e w3 ⟨rfl, hm3, hb3⟩
        go_wp2_with fail
        go_roundw
        case rel => exact ⟨k + 1, by omega, by go_num, hm3, hX.out.trans hb3⟩
        case measure => simp [intOf]; omega
      · have hki : ¬ (k : Int) < (N : Int) := by omega
        have e : k = N := by omega
        subst e
        obtain ⟨a', c', b', d', l1', t1', l2', t2', v', h3⟩ := hM.out
        obtain ⟨va, vc, rfl⟩ := ownV_shape h3.bk
        simp only [List.length_map] at h3
        have M3 := Lib.hid h3
        have y3 := mc_be hX.out RX.out (by omega)
        have fR3 : ∀ i, wr.frozen? ⟨w.heap.size + 1, i, none⟩ = false := fun i => (hX.out.frozen (p := ⟨w.heap.size + 1, i, none⟩) (by show w.heap.size + 1 < _; omega)).trans (FX i)
        have hB3 : Hid (Below w.heap.size w wr) := BX.out.trans (hX.out.mono (by omega))
        have GK := G.out.steps k
        generalize Mach.steps k m = mm at *
        obtain ⟨⟨q0, q1, q2⟩, ⟨q3, q4, q5⟩, q6, q7, q8⟩ := h3.mc
        obtain ⟨⟨r10, r11, r12⟩, ⟨r13, r14, r15⟩, r16, r17, r18⟩ := y3
        have hlw : w.heap.size + 1 < wr.heap.size := by have := M3.out.ltB; have := M3.out.mem.lB; omega
        clear h3 hM hX
        obtain ⟨y1, y2, y3', y4⟩ := good_sizes ((GK))
        go_wp2_with fail
        refine (spec_l5Copy M3.out.own.mach y1 y2 y3' y4).mono ?_
        rintro e w9 ⟨a9, c9, b9, d9, l9, t9, l8, t8, za9, zc9, rfl, hk9⟩
        have CM := Lib.hid (show CopyM mm wr _ w9 from ⟨a9, c9, b9, d9, l9, t9, l8, t8, za9, zc9, rfl, hk9⟩)
        obtain ⟨_, _, _, _, _, hb9⟩ := hk9
        have y9 := mc_be hb9 (show Mc wr (w.heap.size + 1) (.slice none 0 0) (.slice none 0 0) (.slice none 0 0) zeroM from ⟨⟨r10, r11, r12⟩, ⟨r13, r14, r15⟩, r16, r17, r18⟩) (by omega)
        have fR9 : ∀ i, w9.frozen? ⟨w.heap.size + 1, i, none⟩ = false := fun i => (hb9.frozen (p := ⟨w.heap.size + 1, i, none⟩) (by show w.heap.size + 1 < _; omega)).trans (fR3 i)
        clear r10 r11 r12 r13 r14 r15 r16 r17 r18 hb9
        obtain ⟨⟨r10, r11, r12⟩, ⟨r13, r14, r15⟩, r16, r17, r18⟩ := y9
        go_wp2_with fail
        refine bodyPost_ret (v := .agg #[.slice a9 mm.ram.length c9, .slice b9 mm.rom.length d9, .int .i64 mm.bank, .int .i64 mm.a, .int .i64 mm.pc, .bool mm.carry, .slice za9 mm.back.length zc9, .bool mm.stop, .int .i64 mm.cyc]) (by simp [results, Try.results42, go_sem, r10, r11, r12, r13, r14, r15, r16, r17, r18, zeroM]) rfl ?_
        refine made_of_copy CM.out (R := w.heap.size + 1) ?_ (by omega) (by omega) hB3.out
        repeat (first | with_reducible exact two_refl _ _ _ | with_reducible refine two_setR ?_)
end Go.Proofs.Ytkkgolgmhckgoaa
end
