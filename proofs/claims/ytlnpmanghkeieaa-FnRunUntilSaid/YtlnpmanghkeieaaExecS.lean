/- The walk of the reference's function that executes an instruction in place. No condition. -/
import Derived.Test.YtlnpmanghkeieaaExHead
import Derived.Test.YtlnpmanghkeieaaBranchS
import Derived.Deep.RegionHeld3
namespace Go.Proofs.Ytlnpmanghkeieaa
open Go.RowKit
set_option linter.unusedVariables false

theorem hex_drew {W : World} {p0 p1 p2 p3 p4 p5 : Addr} {x0 x1 x2 x3 x4 x5 : Value} (h : W.cell? p0 = some x0 ∧ W.cell? p1 = some x1 ∧ W.cell? p2 = some x2 ∧ W.cell? p3 = some x3 ∧ W.cell? p4 = some x4 ∧ W.cell? p5 = some x5) :
    W.drew.cell? p0 = some x0 ∧ W.drew.cell? p1 = some x1 ∧ W.drew.cell? p2 = some x2 ∧ W.drew.cell? p3 = some x3 ∧ W.drew.cell? p4 = some x4 ∧ W.drew.cell? p5 = some x5 := h
set_option maxHeartbeats 8000000 in
set_option maxRecDepth 20000 in
theorem spec_l5Do {L B : Nat} {m : Mach} {op arg C : Int} {w : World} (h : InM L w B m) (hg : m.Good C) (hv : ovB op arg = true) : Calls Try.prog 36 #[.pointer (some ⟨B, 0, none⟩), .agg #[.int .i64 op, .int .i64 arg]] w (Does L w B (m.exec op arg)) := by
  unfold Does
  obtain ⟨a, c, b, d, l1, t1, l2, t2, v, h⟩ := h
  have S := Lib.hid (shp_of hg.mem)
  obtain ⟨r0, r1⟩ := inR_iff.1 (Mach.ov_arg hv)
  obtain ⟨z0, z1⟩ := byteB_iff.1 hg.a
  have hlb := hg.len
  have hB := h.ltB
  have lB := h.mem.lB
  have hL : L ≤ w.heap.size := by omega
  obtain ⟨va, vc, rfl⟩ := ownV_shape h.bk
  simp only [List.length_map] at h
  have H0 := Lib.hid h
  have f3 := h.mf 3 (by decide)
  have f5 := h.mf 5 (by decide)
  have f7 := h.mf 7 (by decide)
  obtain ⟨⟨c0, c1, c2⟩, ⟨c3, c4, c5⟩, c6, c7, c8⟩ := h.mc
  have hne : w.heap.size ≠ B := by omega
  have hnb : B ≠ w.heap.size := by omega
  clear h hg hv
  by_cases p1 : op = 1
  · subst p1
    have E := Lib.hid (inM_eq ((H0.out.setA arg).alloc (.cells #[.int .i64 1, .int .i64 arg] 58)).inM exec_1)
    go_enter Try.func36, Try.ntmps36
    go_wp2_with fail
    go_returns
    exact ⟨rfl, E.out, bel_sa lB hL⟩
  by_cases p2 : op = 2
  · subst p2
    obtain ⟨p, hp⟩ : ∃ p, p = m.peek arg := ⟨_, rfl⟩
    have MX := Lib.hid (H0.out.alloc (.cells #[.int .i64 2, .int .i64 arg] 58))
    have CP : Hid (Calls Try.prog 52 #[.agg #[.slice a m.ram.length c, .slice b m.rom.length d, .int .i64 m.bank], .int .i64 arg] (w.alloc (.cells #[.int .i64 2, .int .i64 arg] 58)).drew fun e w' => e = .returned (.int .i64 p) ∧ Below (w.alloc (.cells #[.int .i64 2, .int .i64 arg] 58)).drew.heap.size (w.alloc (.cells #[.int .i64 2, .int .i64 arg] 58)).drew w') := by
      rw [hp]; exact spec_l2Read ⟨_, _, rfl, MX.out.drew.mem.o.ints, MX.out.drew.mem.m.mat⟩ S.out r0 r1
    have E := Lib.hid (exec_2 (m := m) (arg := arg))
    rw [← hp] at E
    clear hp
    go_enter Try.func36, Try.ntmps36
    go_wp2_with fail
    go_region_with (go_at_call 52; refine CP.out.mono ?_; rintro e w1 ⟨rfl, hb1⟩; (have hbX : Below (w.alloc (.cells #[.int .i64 2, .int .i64 arg] 58)).heap.size (w.alloc (.cells #[.int .i64 2, .int .i64 arg] 58)) w1 := (Below.refl _ _).drew.trans hb1); (have M1 := Lib.hid (MX.out.below hbX)); (have BM : Hid (Below L w w1) := ((Below.refl L w).alloc hL _).trans (hbX.mono (by simp; omega))); (have k3 := M1.out.mf 3 (by decide)); (have k5 := M1.out.mf 5 (by decide)); (have hbx1 : w1.cell? ⟨w.heap.size, 1, none⟩ = some (.int .i64 arg) := cell_be hbX (by simp [go_sem]) (by simp)); (have m1 := M1.out.mc); obtain ⟨⟨g0, g1, g2⟩, ⟨g3, g4, g5⟩, g6, g7, g8⟩ := id m1; (have lB1 := M1.out.ltB); (have T1 : w1.cell? ⟨B, 0, none⟩ = some (.slice a m.ram.length c) ∧ w1.cell? ⟨B, 1, none⟩ = some (.slice b m.rom.length d) ∧ w1.cell? ⟨B, 2, none⟩ = some (.int .i64 m.bank) ∧ w1.cell? ⟨B, 3, none⟩ = some (.int .i64 m.a) ∧ w1.cell? ⟨B, 5, none⟩ = some (.bool m.carry) ∧ w1.cell? ⟨w.heap.size, 1, none⟩ = some (.int .i64 arg) := ⟨g0, g1, g2, g3, g5, hbx1⟩); clear hb1 hbX m1)
    all_goals
      go_wp2_with fail
      go_returns
      exact ⟨rfl, inM_eq (M1.out.setA _).inM E.out, BM.out.setCell (p := ⟨B, 3, none⟩) lB _⟩
  by_cases p6 : op = 6
  · subst p6
    obtain ⟨p, hp⟩ : ∃ p, p = m.peek arg := ⟨_, rfl⟩
    have MX := Lib.hid (H0.out.alloc (.cells #[.int .i64 6, .int .i64 arg] 58))
    have CP : Hid (Calls Try.prog 52 #[.agg #[.slice a m.ram.length c, .slice b m.rom.length d, .int .i64 m.bank], .int .i64 arg] (w.alloc (.cells #[.int .i64 6, .int .i64 arg] 58)).drew fun e w' => e = .returned (.int .i64 p) ∧ Below (w.alloc (.cells #[.int .i64 6, .int .i64 arg] 58)).drew.heap.size (w.alloc (.cells #[.int .i64 6, .int .i64 arg] 58)).drew w') := by
      rw [hp]; exact spec_l2Read ⟨_, _, rfl, MX.out.drew.mem.o.ints, MX.out.drew.mem.m.mat⟩ S.out r0 r1
    have E := Lib.hid (exec_6 (m := m) (arg := arg))
    rw [← hp] at E
    clear hp
    go_enter Try.func36, Try.ntmps36
    go_wp2_with fail
    go_region_with (go_at_call 52; refine CP.out.mono ?_; rintro e w1 ⟨rfl, hb1⟩; (have hbX : Below (w.alloc (.cells #[.int .i64 6, .int .i64 arg] 58)).heap.size (w.alloc (.cells #[.int .i64 6, .int .i64 arg] 58)) w1 := (Below.refl _ _).drew.trans hb1); (have M1 := Lib.hid (MX.out.below hbX)); (have BM : Hid (Below L w w1) := ((Below.refl L w).alloc hL _).trans (hbX.mono (by simp; omega))); (have k3 := M1.out.mf 3 (by decide)); (have k5 := M1.out.mf 5 (by decide)); (have hbx1 : w1.cell? ⟨w.heap.size, 1, none⟩ = some (.int .i64 arg) := cell_be hbX (by simp [go_sem]) (by simp)); (have m1 := M1.out.mc); obtain ⟨⟨g0, g1, g2⟩, ⟨g3, g4, g5⟩, g6, g7, g8⟩ := id m1; (have lB1 := M1.out.ltB); (have T1 : w1.cell? ⟨B, 0, none⟩ = some (.slice a m.ram.length c) ∧ w1.cell? ⟨B, 1, none⟩ = some (.slice b m.rom.length d) ∧ w1.cell? ⟨B, 2, none⟩ = some (.int .i64 m.bank) ∧ w1.cell? ⟨B, 3, none⟩ = some (.int .i64 m.a) ∧ w1.cell? ⟨B, 5, none⟩ = some (.bool m.carry) ∧ w1.cell? ⟨w.heap.size, 1, none⟩ = some (.int .i64 arg) := ⟨g0, g1, g2, g3, g5, hbx1⟩); clear hb1 hbX m1)
    all_goals
      go_wp2_with fail
      go_returns
      exact ⟨rfl, inM_eq (M1.out.setA _).inM E.out, BM.out.setCell (p := ⟨B, 3, none⟩) lB _⟩
  by_cases p7 : op = 7
  · subst p7
    obtain ⟨p, hp⟩ : ∃ p, p = m.peek arg := ⟨_, rfl⟩
    have MX := Lib.hid (H0.out.alloc (.cells #[.int .i64 7, .int .i64 arg] 58))
    have CP : Hid (Calls Try.prog 52 #[.agg #[.slice a m.ram.length c, .slice b m.rom.length d, .int .i64 m.bank], .int .i64 arg] (w.alloc (.cells #[.int .i64 7, .int .i64 arg] 58)).drew fun e w' => e = .returned (.int .i64 p) ∧ Below (w.alloc (.cells #[.int .i64 7, .int .i64 arg] 58)).drew.heap.size (w.alloc (.cells #[.int .i64 7, .int .i64 arg] 58)).drew w') := by
      rw [hp]; exact spec_l2Read ⟨_, _, rfl, MX.out.drew.mem.o.ints, MX.out.drew.mem.m.mat⟩ S.out r0 r1
    have E := Lib.hid (exec_7 (m := m) (arg := arg))
    rw [← hp] at E
    clear hp
    go_enter Try.func36, Try.ntmps36
    go_wp2_with fail
    go_region_with (go_at_call 52; refine CP.out.mono ?_; rintro e w1 ⟨rfl, hb1⟩; (have hbX : Below (w.alloc (.cells #[.int .i64 7, .int .i64 arg] 58)).heap.size (w.alloc (.cells #[.int .i64 7, .int .i64 arg] 58)) w1 := (Below.refl _ _).drew.trans hb1); (have M1 := Lib.hid (MX.out.below hbX)); (have BM : Hid (Below L w w1) := ((Below.refl L w).alloc hL _).trans (hbX.mono (by simp; omega))); (have k3 := M1.out.mf 3 (by decide)); (have k5 := M1.out.mf 5 (by decide)); (have hbx1 : w1.cell? ⟨w.heap.size, 1, none⟩ = some (.int .i64 arg) := cell_be hbX (by simp [go_sem]) (by simp)); (have m1 := M1.out.mc); obtain ⟨⟨g0, g1, g2⟩, ⟨g3, g4, g5⟩, g6, g7, g8⟩ := id m1; (have lB1 := M1.out.ltB); (have T1 : w1.cell? ⟨B, 0, none⟩ = some (.slice a m.ram.length c) ∧ w1.cell? ⟨B, 1, none⟩ = some (.slice b m.rom.length d) ∧ w1.cell? ⟨B, 2, none⟩ = some (.int .i64 m.bank) ∧ w1.cell? ⟨B, 3, none⟩ = some (.int .i64 m.a) ∧ w1.cell? ⟨B, 5, none⟩ = some (.bool m.carry) ∧ w1.cell? ⟨w.heap.size, 1, none⟩ = some (.int .i64 arg) := ⟨g0, g1, g2, g3, g5, hbx1⟩); clear hb1 hbX m1)
    all_goals
      go_wp2_with fail
      go_returns
      exact ⟨rfl, inM_eq (M1.out.setA _).inM E.out, BM.out.setCell (p := ⟨B, 3, none⟩) lB _⟩
  by_cases p3 : op = 3
  · subst p3
    have MX := Lib.hid (H0.out.alloc (.cells #[.int .i64 3, .int .i64 arg] 58)).drew
    have CK := Lib.hid (spec_l2WriteO MX.out.mem S.out r0 r1 z0 z1)
    have BX : Hid (Below L w (w.alloc (.cells #[.int .i64 3, .int .i64 arg] 58)).drew) := ((Below.refl _ _).alloc hL _).drew
    have E := Lib.hid (exec_3 (m := m) (arg := arg))
    go_enter Try.func36, Try.ntmps36
    go_wp2_with fail
    go_region_with (go_at_call 55; refine CK.out.mono ?_; rintro e w1 ⟨rfl, hm, hb, ho⟩)
    all_goals
      go_wp2_with fail
      go_returns
      exact ⟨rfl, inM_eq (MX.out.poke hm ho).inM E.out, BX.out.trans hb⟩
  by_cases p4 : op = 4
  · subst p4
    obtain ⟨p, hp⟩ : ∃ p, p = m.peek arg := ⟨_, rfl⟩
    have MX := Lib.hid (H0.out.alloc (.cells #[.int .i64 4, .int .i64 arg] 58))
    have CP : Hid (Calls Try.prog 52 #[.agg #[.slice a m.ram.length c, .slice b m.rom.length d, .int .i64 m.bank], .int .i64 arg] (w.alloc (.cells #[.int .i64 4, .int .i64 arg] 58)).drew fun e w' => e = .returned (.int .i64 p) ∧ Below (w.alloc (.cells #[.int .i64 4, .int .i64 arg] 58)).drew.heap.size (w.alloc (.cells #[.int .i64 4, .int .i64 arg] 58)).drew w') := by
      rw [hp]; exact spec_l2Read ⟨_, _, rfl, MX.out.drew.mem.o.ints, MX.out.drew.mem.m.mat⟩ S.out r0 r1
    have E := Lib.hid (exec_4 (m := m) (arg := arg))
    rw [← hp] at E
    clear hp
    have CQ := Lib.hid (fun W => spec_AddBytes m.a p m.carry W)
    unfold addV at CQ
    generalize add1 m.a p m.carry = q1 at *
    generalize add2 m.a p m.carry = q2 at *
    generalize add3 m.a p m.carry = q3 at *
    have T0 : (w.alloc (.cells #[.int .i64 4, .int .i64 arg] 58)).cell? ⟨B, 0, none⟩ = some (.slice a m.ram.length c) ∧ (w.alloc (.cells #[.int .i64 4, .int .i64 arg] 58)).cell? ⟨B, 1, none⟩ = some (.slice b m.rom.length d) ∧ (w.alloc (.cells #[.int .i64 4, .int .i64 arg] 58)).cell? ⟨B, 2, none⟩ = some (.int .i64 m.bank) ∧ (w.alloc (.cells #[.int .i64 4, .int .i64 arg] 58)).cell? ⟨B, 3, none⟩ = some (.int .i64 m.a) ∧ (w.alloc (.cells #[.int .i64 4, .int .i64 arg] 58)).cell? ⟨B, 5, none⟩ = some (.bool m.carry) ∧ (w.alloc (.cells #[.int .i64 4, .int .i64 arg] 58)).cell? ⟨w.heap.size, 1, none⟩ = some (.int .i64 arg) := ⟨cell_al _ c0, cell_al _ c1, cell_al _ c2, cell_al _ c3, cell_al _ c5, by simp [go_sem]⟩
    go_enter Try.func36, Try.ntmps36
    go_wp2_with fail
    go_region_held3 (fun W => W.cell? ⟨B, 0, none⟩ = some (.slice a m.ram.length c) ∧ W.cell? ⟨B, 1, none⟩ = some (.slice b m.rom.length d) ∧ W.cell? ⟨B, 2, none⟩ = some (.int .i64 m.bank) ∧ W.cell? ⟨B, 3, none⟩ = some (.int .i64 m.a) ∧ W.cell? ⟨B, 5, none⟩ = some (.bool m.carry) ∧ W.cell? ⟨w.heap.size, 1, none⟩ = some (.int .i64 arg))
      (repeat (first | with_reducible assumption | with_reducible exact T0 | with_reducible exact T1 | with_reducible refine hex_drew ?_))
      (first | (go_at_call 52; refine CP.out.mono ?_; rintro e w1 ⟨rfl, hb1⟩; (have hbX : Below (w.alloc (.cells #[.int .i64 4, .int .i64 arg] 58)).heap.size (w.alloc (.cells #[.int .i64 4, .int .i64 arg] 58)) w1 := (Below.refl _ _).drew.trans hb1); (have M1 := Lib.hid (MX.out.below hbX)); (have BM : Hid (Below L w w1) := ((Below.refl L w).alloc hL _).trans (hbX.mono (by simp; omega))); (have k3 := M1.out.mf 3 (by decide)); (have k5 := M1.out.mf 5 (by decide)); (have hbx1 : w1.cell? ⟨w.heap.size, 1, none⟩ = some (.int .i64 arg) := cell_be hbX (by simp [go_sem]) (by simp)); (have m1 := M1.out.mc); obtain ⟨⟨g0, g1, g2⟩, ⟨g3, g4, g5⟩, g6, g7, g8⟩ := id m1; (have lB1 := M1.out.ltB); (have T1 : w1.cell? ⟨B, 0, none⟩ = some (.slice a m.ram.length c) ∧ w1.cell? ⟨B, 1, none⟩ = some (.slice b m.rom.length d) ∧ w1.cell? ⟨B, 2, none⟩ = some (.int .i64 m.bank) ∧ w1.cell? ⟨B, 3, none⟩ = some (.int .i64 m.a) ∧ w1.cell? ⟨B, 5, none⟩ = some (.bool m.carry) ∧ w1.cell? ⟨w.heap.size, 1, none⟩ = some (.int .i64 arg) := ⟨g0, g1, g2, g3, g5, hbx1⟩); clear hb1 hbX m1) | (go_at_call 56; refine (CQ.out _).mono ?_; rintro e w2 ⟨rfl, rfl⟩))
    all_goals
      go_wp2_with fail
      go_returns
      exact ⟨rfl, inM_eq ((M1.out.setA _).setCarry _).inM E.out, (BM.out.setCell (p := ⟨B, 3, none⟩) lB _).setCell (p := ⟨B, 5, none⟩) lB _⟩
  by_cases p5 : op = 5
  · subst p5
    obtain ⟨p, hp⟩ : ∃ p, p = m.peek arg := ⟨_, rfl⟩
    have MX := Lib.hid (H0.out.alloc (.cells #[.int .i64 5, .int .i64 arg] 58))
    have CP : Hid (Calls Try.prog 52 #[.agg #[.slice a m.ram.length c, .slice b m.rom.length d, .int .i64 m.bank], .int .i64 arg] (w.alloc (.cells #[.int .i64 5, .int .i64 arg] 58)).drew fun e w' => e = .returned (.int .i64 p) ∧ Below (w.alloc (.cells #[.int .i64 5, .int .i64 arg] 58)).drew.heap.size (w.alloc (.cells #[.int .i64 5, .int .i64 arg] 58)).drew w') := by
      rw [hp]; exact spec_l2Read ⟨_, _, rfl, MX.out.drew.mem.o.ints, MX.out.drew.mem.m.mat⟩ S.out r0 r1
    have E := Lib.hid (exec_5 (m := m) (arg := arg))
    rw [← hp] at E
    clear hp
    have CQ := Lib.hid (fun W => spec_SubBytes m.a p m.carry W)
    unfold subV at CQ
    generalize sub1 m.a p m.carry = q1 at *
    generalize sub2 m.a p m.carry = q2 at *
    have T0 : (w.alloc (.cells #[.int .i64 5, .int .i64 arg] 58)).cell? ⟨B, 0, none⟩ = some (.slice a m.ram.length c) ∧ (w.alloc (.cells #[.int .i64 5, .int .i64 arg] 58)).cell? ⟨B, 1, none⟩ = some (.slice b m.rom.length d) ∧ (w.alloc (.cells #[.int .i64 5, .int .i64 arg] 58)).cell? ⟨B, 2, none⟩ = some (.int .i64 m.bank) ∧ (w.alloc (.cells #[.int .i64 5, .int .i64 arg] 58)).cell? ⟨B, 3, none⟩ = some (.int .i64 m.a) ∧ (w.alloc (.cells #[.int .i64 5, .int .i64 arg] 58)).cell? ⟨B, 5, none⟩ = some (.bool m.carry) ∧ (w.alloc (.cells #[.int .i64 5, .int .i64 arg] 58)).cell? ⟨w.heap.size, 1, none⟩ = some (.int .i64 arg) := ⟨cell_al _ c0, cell_al _ c1, cell_al _ c2, cell_al _ c3, cell_al _ c5, by simp [go_sem]⟩
    go_enter Try.func36, Try.ntmps36
    go_wp2_with fail
    go_region_held3 (fun W => W.cell? ⟨B, 0, none⟩ = some (.slice a m.ram.length c) ∧ W.cell? ⟨B, 1, none⟩ = some (.slice b m.rom.length d) ∧ W.cell? ⟨B, 2, none⟩ = some (.int .i64 m.bank) ∧ W.cell? ⟨B, 3, none⟩ = some (.int .i64 m.a) ∧ W.cell? ⟨B, 5, none⟩ = some (.bool m.carry) ∧ W.cell? ⟨w.heap.size, 1, none⟩ = some (.int .i64 arg))
      (repeat (first | with_reducible assumption | with_reducible exact T0 | with_reducible exact T1 | with_reducible refine hex_drew ?_))
      (first | (go_at_call 52; refine CP.out.mono ?_; rintro e w1 ⟨rfl, hb1⟩; (have hbX : Below (w.alloc (.cells #[.int .i64 5, .int .i64 arg] 58)).heap.size (w.alloc (.cells #[.int .i64 5, .int .i64 arg] 58)) w1 := (Below.refl _ _).drew.trans hb1); (have M1 := Lib.hid (MX.out.below hbX)); (have BM : Hid (Below L w w1) := ((Below.refl L w).alloc hL _).trans (hbX.mono (by simp; omega))); (have k3 := M1.out.mf 3 (by decide)); (have k5 := M1.out.mf 5 (by decide)); (have hbx1 : w1.cell? ⟨w.heap.size, 1, none⟩ = some (.int .i64 arg) := cell_be hbX (by simp [go_sem]) (by simp)); (have m1 := M1.out.mc); obtain ⟨⟨g0, g1, g2⟩, ⟨g3, g4, g5⟩, g6, g7, g8⟩ := id m1; (have lB1 := M1.out.ltB); (have T1 : w1.cell? ⟨B, 0, none⟩ = some (.slice a m.ram.length c) ∧ w1.cell? ⟨B, 1, none⟩ = some (.slice b m.rom.length d) ∧ w1.cell? ⟨B, 2, none⟩ = some (.int .i64 m.bank) ∧ w1.cell? ⟨B, 3, none⟩ = some (.int .i64 m.a) ∧ w1.cell? ⟨B, 5, none⟩ = some (.bool m.carry) ∧ w1.cell? ⟨w.heap.size, 1, none⟩ = some (.int .i64 arg) := ⟨g0, g1, g2, g3, g5, hbx1⟩); clear hb1 hbX m1) | (go_at_call 57; refine (CQ.out _).mono ?_; rintro e w2 ⟨rfl, rfl⟩))
    all_goals
      go_wp2_with fail
      go_returns
      exact ⟨rfl, inM_eq ((M1.out.setA _).setCarry _).inM E.out, (BM.out.setCell (p := ⟨B, 3, none⟩) lB _).setCell (p := ⟨B, 5, none⟩) lB _⟩
  by_cases p8 : op = 8
  · subst p8
    have CQ := Lib.hid (fun W => spec_RotateLeft m.a m.carry W)
    have E := Lib.hid (exec_8 (m := m) (arg := arg))
    unfold rotlV at CQ
    generalize rotl1 m.a m.carry = q1 at *
    generalize rotl2 m.a m.carry = q2 at *
    go_enter Try.func36, Try.ntmps36
    go_wp2_with fail
    go_region_with (go_at_call 58; refine (CQ.out _).mono ?_; rintro e w1 ⟨rfl, rfl⟩)
    all_goals
      go_wp2_with fail
      go_returns
      refine ⟨rfl, ?_, ?_⟩
      · first | exact inM_eq ((((H0.out.setA _).setCarry _).alloc _).drew).inM E.out | exact inM_eq ((((H0.out.alloc _).drew).setA _).setCarry _).inM E.out
      · repeat (first | with_reducible exact Below.refl _ _ | with_reducible refine Below.setCell ?_ (by first | exact lB | (dsimp only; exact lB)) _ | with_reducible refine Below.drew ?_ | with_reducible refine below_drewN' _ ?_ | with_reducible refine Below.alloc ?_ (by first | exact hL | (simp; omega)) _)
  by_cases p9 : op = 9
  · subst p9
    have CQ := Lib.hid (fun W => spec_RotateRight m.a m.carry W)
    have E := Lib.hid (exec_9 (m := m) (arg := arg))
    unfold rotrV at CQ
    generalize rotr1 m.a m.carry = q1 at *
    generalize rotr2 m.a m.carry = q2 at *
    go_enter Try.func36, Try.ntmps36
    go_wp2_with fail
    go_region_with (go_at_call 59; refine (CQ.out _).mono ?_; rintro e w1 ⟨rfl, rfl⟩)
    all_goals
      go_wp2_with fail
      go_returns
      refine ⟨rfl, ?_, ?_⟩
      · first | exact inM_eq ((((H0.out.setA _).setCarry _).alloc _).drew).inM E.out | exact inM_eq ((((H0.out.alloc _).drew).setA _).setCarry _).inM E.out
      · repeat (first | with_reducible exact Below.refl _ _ | with_reducible refine Below.setCell ?_ (by first | exact lB | (dsimp only; exact lB)) _ | with_reducible refine Below.drew ?_ | with_reducible refine below_drewN' _ ?_ | with_reducible refine Below.alloc ?_ (by first | exact hL | (simp; omega)) _)
  · have E := Lib.hid (exec_no (m := m) (arg := arg) p1 p2 p3 p4 p5 p6 p7 p8 p9)
    have b1 : (op == 1) = false := by simpa using p1
    have b2 : (op == 2) = false := by simpa using p2
    have b3 : (op == 3) = false := by simpa using p3
    have b4 : (op == 4) = false := by simpa using p4
    have b5 : (op == 5) = false := by simpa using p5
    have b6 : (op == 6) = false := by simpa using p6
    have b7 : (op == 7) = false := by simpa using p7
    have b8 : (op == 8) = false := by simpa using p8
    have b9 : (op == 9) = false := by simpa using p9
    have BX : Hid (Below L w (w.alloc (.cells #[.int .i64 op, .int .i64 arg] 58))) := (Below.refl _ _).alloc hL _
    go_enter Try.func36, Try.ntmps36
    go_wp2_with fail
    refine (spec_l5Go (H0.out.alloc _).inM hlb).mono ?_
    rintro e w1 ⟨rfl, hm, hb⟩
    go_wp2_with fail
    go_returns
    exact ⟨rfl, inM_eq hm E.out, BX.out.trans hb⟩
end Go.Proofs.Ytlnpmanghkeieaa
