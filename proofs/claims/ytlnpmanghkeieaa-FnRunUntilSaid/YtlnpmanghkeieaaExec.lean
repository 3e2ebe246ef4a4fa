/- The walk of impl.execute: what an instruction makes of a machine in place. No condition. -/
import Derived.Test.YtlnpmanghkeieaaEx4
import Derived.Test.YtlnpmanghkeieaaEx5
namespace Go.Proofs.Ytlnpmanghkeieaa
open Go.RowKit
set_option linter.unusedVariables false

set_option maxHeartbeats 4000000 in
set_option maxRecDepth 20000 in
theorem impl_execute {L B : Nat} {m : Mach} {op arg C : Int} {w : World} (h : InM L w B m) (hg : m.Good C) (hv : ovB op arg = true) : Calls Try.prog 31 #[.pointer (some ⟨B, 0, none⟩), .agg #[.int .i64 op, .int .i64 arg]] w (Does L w B (m.exec op arg)) := by
  unfold Does
  by_cases p4 : op = 4
  · subst p4; exact impl_ex4 h hg hv
  by_cases p5 : op = 5
  · subst p5; exact impl_ex5 h hg hv
  obtain ⟨a, c, b, d, l1, t1, l2, t2, v, h⟩ := h
  have S := Lib.hid (shp_of hg.mem)
  obtain ⟨r0, r1⟩ := inR_iff.1 (Mach.ov_arg hv)
  obtain ⟨z0, z1⟩ := byteB_iff.1 hg.a
  have hlb := hg.len
  have hB := h.ltB
  have lB := h.mem.lB
  have hL : L ≤ w.heap.size := by omega
  obtain ⟨va, vc, rfl⟩ := ownV_shape h.bk
  simp only [List.length_map] at h
  have H0 := Lib.hid h
  have f3 := h.mf 3 (by decide)
  have f5 := h.mf 5 (by decide)
  have f7 := h.mf 7 (by decide)
  obtain ⟨⟨c0, c1, c2⟩, ⟨c3, c4, c5⟩, c6, c7, c8⟩ := h.mc
  have hne : w.heap.size ≠ B := by omega
  have hnb : B ≠ w.heap.size := by omega
  clear h hg hv
  by_cases p1 : op = 1
  · subst p1
    have E := Lib.hid (inM_eq ((H0.out.setA arg).alloc (.cells #[.int .i64 1, .int .i64 arg] 58)).inM exec_1)
    go_enter Try.func31, Try.ntmps31
    go_wp2_with fail
    go_returns
    exact ⟨rfl, E.out, bel_sa lB hL⟩
  by_cases p2 : op = 2
  · subst p2
    obtain ⟨p, hp⟩ : ∃ p, p = m.peek arg := ⟨_, rfl⟩
    have CP : Hid (Calls Try.prog 29 #[.pointer (some ⟨B, 0, none⟩), .int .i64 arg] (w.alloc (.cells #[.int .i64 2, .int .i64 arg] 58)).drew fun e w' => e = .returned (.int .i64 p) ∧ Quiet (w.alloc (.cells #[.int .i64 2, .int .i64 arg] 58)).drew w') := by
      rw [hp]; exact impl_peek ((H0.out.alloc (.cells #[.int .i64 2, .int .i64 arg] 58)).drew.mem.memAt) S.out r0 r1
    have E := Lib.hid (exec_2 (m := m) (arg := arg))
    rw [← hp] at E
    clear hp
    go_enter Try.func31, Try.ntmps31
    go_wp2_with fail
    go_region_with (first | (go_at_call 29; refine CP.out.mono ?_; rintro e w1 ⟨rfl, n, rfl⟩))
    all_goals
      go_wp2_with fail
      go_returns
      refine ⟨rfl, ?_, ?_⟩
      · first | exact inM_eq (((H0.out.alloc _).drewN _).setA _).inM E.out | exact inM_eq (((H0.out.setA _).alloc _).drewN _).inM E.out | exact inM_eq (((H0.out.setA _).alloc _).drew).inM E.out
      · repeat (first | with_reducible exact Below.refl _ _ | with_reducible refine Below.setCell ?_ (by first | exact lB | (dsimp only; exact lB)) _ | with_reducible refine Below.drew ?_ | with_reducible refine below_drewN' _ ?_ | with_reducible refine Below.alloc ?_ (by first | exact hL | (simp; omega)) _)
  by_cases p3 : op = 3
  · subst p3
    have MX := Lib.hid (H0.out.alloc (.cells #[.int .i64 3, .int .i64 arg] 58)).drew
    have CK := Lib.hid (impl_pokeO MX.out.mem S.out r0 r1 z0 z1)
    have BX : Hid (Below L w (w.alloc (.cells #[.int .i64 3, .int .i64 arg] 58)).drew) := ((Below.refl _ _).alloc hL _).drew
    have E := Lib.hid (exec_3 (m := m) (arg := arg))
    go_enter Try.func31, Try.ntmps31
    go_wp2_with fail
    go_region_with (go_at_call 45; refine CK.out.mono ?_; rintro e w1 ⟨rfl, hm, hb, ho⟩)
    all_goals
      go_wp2_with fail
      go_returns
      exact ⟨rfl, inM_eq (MX.out.poke hm ho).inM E.out, BX.out.trans hb⟩
  by_cases p6 : op = 6
  · subst p6
    obtain ⟨p, hp⟩ : ∃ p, p = m.peek arg := ⟨_, rfl⟩
    have CP : Hid (Calls Try.prog 29 #[.pointer (some ⟨B, 0, none⟩), .int .i64 arg] (w.alloc (.cells #[.int .i64 6, .int .i64 arg] 58)).drew fun e w' => e = .returned (.int .i64 p) ∧ Quiet (w.alloc (.cells #[.int .i64 6, .int .i64 arg] 58)).drew w') := by
      rw [hp]; exact impl_peek ((H0.out.alloc (.cells #[.int .i64 6, .int .i64 arg] 58)).drew.mem.memAt) S.out r0 r1
    have E := Lib.hid (exec_6 (m := m) (arg := arg))
    rw [← hp] at E
    clear hp
    go_enter Try.func31, Try.ntmps31
    go_wp2_with fail
    go_region_with (first | (go_at_call 29; refine CP.out.mono ?_; rintro e w1 ⟨rfl, n, rfl⟩))
    all_goals
      go_wp2_with fail
      go_returns
      refine ⟨rfl, ?_, ?_⟩
      · first | exact inM_eq (((H0.out.alloc _).drewN _).setA _).inM E.out | exact inM_eq (((H0.out.setA _).alloc _).drewN _).inM E.out | exact inM_eq (((H0.out.setA _).alloc _).drew).inM E.out
      · repeat (first | with_reducible exact Below.refl _ _ | with_reducible refine Below.setCell ?_ (by first | exact lB | (dsimp only; exact lB)) _ | with_reducible refine Below.drew ?_ | with_reducible refine below_drewN' _ ?_ | with_reducible refine Below.alloc ?_ (by first | exact hL | (simp; omega)) _)
  by_cases p7 : op = 7
  · subst p7
    obtain ⟨p, hp⟩ : ∃ p, p = m.peek arg := ⟨_, rfl⟩
    have CP : Hid (Calls Try.prog 29 #[.pointer (some ⟨B, 0, none⟩), .int .i64 arg] (w.alloc (.cells #[.int .i64 7, .int .i64 arg] 58)).drew fun e w' => e = .returned (.int .i64 p) ∧ Quiet (w.alloc (.cells #[.int .i64 7, .int .i64 arg] 58)).drew w') := by
      rw [hp]; exact impl_peek ((H0.out.alloc (.cells #[.int .i64 7, .int .i64 arg] 58)).drew.mem.memAt) S.out r0 r1
    have E := Lib.hid (exec_7 (m := m) (arg := arg))
    rw [← hp] at E
    clear hp
    go_enter Try.func31, Try.ntmps31
    go_wp2_with fail
    go_region_with (first | (go_at_call 29; refine CP.out.mono ?_; rintro e w1 ⟨rfl, n, rfl⟩))
    all_goals
      go_wp2_with fail
      go_returns
      refine ⟨rfl, ?_, ?_⟩
      · first | exact inM_eq (((H0.out.alloc _).drewN _).setA _).inM E.out | exact inM_eq (((H0.out.setA _).alloc _).drewN _).inM E.out | exact inM_eq (((H0.out.setA _).alloc _).drew).inM E.out
      · repeat (first | with_reducible exact Below.refl _ _ | with_reducible refine Below.setCell ?_ (by first | exact lB | (dsimp only; exact lB)) _ | with_reducible refine Below.drew ?_ | with_reducible refine below_drewN' _ ?_ | with_reducible refine Below.alloc ?_ (by first | exact hL | (simp; omega)) _)
  by_cases p8 : op = 8
  · subst p8
    have CQ := Lib.hid (fun W => impl_RotateLeft m.a m.carry W)
    have E := Lib.hid (exec_8 (m := m) (arg := arg))
    unfold rotlV at CQ
    generalize rotl1 m.a m.carry = q1 at *
    generalize rotl2 m.a m.carry = q2 at *
    go_enter Try.func31, Try.ntmps31
    go_wp2_with fail
    go_region_with (go_at_call 48; refine (CQ.out _).mono ?_; rintro e w1 ⟨rfl, rfl⟩)
    all_goals
      go_wp2_with fail
      go_returns
      refine ⟨rfl, ?_, ?_⟩
      · first | exact inM_eq ((((H0.out.setA _).setCarry _).alloc _).drew).inM E.out | exact inM_eq ((((H0.out.setCarry _).setA _).alloc _).drew).inM E.out | exact inM_eq ((((H0.out.alloc _).drewN _).setA _).setCarry _).inM E.out | exact inM_eq ((((H0.out.alloc _).drewN _).setCarry _).setA _).inM E.out
      · repeat (first | with_reducible exact Below.refl _ _ | with_reducible refine Below.setCell ?_ (by first | exact lB | (dsimp only; exact lB)) _ | with_reducible refine Below.drew ?_ | with_reducible refine below_drewN' _ ?_ | with_reducible refine Below.alloc ?_ (by first | exact hL | (simp; omega)) _)
  by_cases p9 : op = 9
  · subst p9
    have CQ := Lib.hid (fun W => impl_RotateRight m.a m.carry W)
    have E := Lib.hid (exec_9 (m := m) (arg := arg))
    unfold rotrV at CQ
    generalize rotr1 m.a m.carry = q1 at *
    generalize rotr2 m.a m.carry = q2 at *
    go_enter Try.func31, Try.ntmps31
    go_wp2_with fail
    go_region_with (go_at_call 49; refine (CQ.out _).mono ?_; rintro e w1 ⟨rfl, rfl⟩)
    all_goals
      go_wp2_with fail
      go_returns
      refine ⟨rfl, ?_, ?_⟩
      · first | exact inM_eq ((((H0.out.setA _).setCarry _).alloc _).drew).inM E.out | exact inM_eq ((((H0.out.setCarry _).setA _).alloc _).drew).inM E.out | exact inM_eq ((((H0.out.alloc _).drewN _).setA _).setCarry _).inM E.out | exact inM_eq ((((H0.out.alloc _).drewN _).setCarry _).setA _).inM E.out
      · repeat (first | with_reducible exact Below.refl _ _ | with_reducible refine Below.setCell ?_ (by first | exact lB | (dsimp only; exact lB)) _ | with_reducible refine Below.drew ?_ | with_reducible refine below_drewN' _ ?_ | with_reducible refine Below.alloc ?_ (by first | exact hL | (simp; omega)) _)
  by_cases p15 : op = 15
  · subst p15
    have E := Lib.hid (inM_eq ((H0.out.setStop true).alloc (.cells #[.int .i64 15, .int .i64 arg] 58)).inM ((exec_no (by decide) (by decide) (by decide) (by decide) (by decide) (by decide) (by decide) (by decide) (by decide)).trans (goes_15 (m := m) (arg := arg))))
    go_enter Try.func31, Try.ntmps31
    go_wp2_with fail
    go_returns
    exact ⟨rfl, E.out, bel_sa lB hL⟩
  · have E := Lib.hid (exec_no (m := m) (arg := arg) p1 p2 p3 p4 p5 p6 p7 p8 p9)
    have b1 : (op == 1) = false := by simpa using p1
    have b2 : (op == 2) = false := by simpa using p2
    have b3 : (op == 3) = false := by simpa using p3
    have b4 : (op == 4) = false := by simpa using p4
    have b5 : (op == 5) = false := by simpa using p5
    have b6 : (op == 6) = false := by simpa using p6
    have b7 : (op == 7) = false := by simpa using p7
    have b8 : (op == 8) = false := by simpa using p8
    have b9 : (op == 9) = false := by simpa using p9
    have b15 : (op == 15) = false := by simpa using p15
    have BX : Hid (Below L w (w.alloc (.cells #[.int .i64 op, .int .i64 arg] 58))) := (Below.refl _ _).alloc hL _
    go_enter Try.func31, Try.ntmps31
    go_wp2_with fail
    refine (impl_branch (H0.out.alloc _).inM hlb p15).mono ?_
    rintro e w1 ⟨rfl, hm, hb⟩
    go_wp2_with fail
    go_returns
    exact ⟨rfl, inM_eq hm E.out, BX.out.trans hb⟩
end Go.Proofs.Ytlnpmanghkeieaa
