/- The walk of the reference's step of a machine in place. No condition. -/
import Derived.Test.YtpoiojknahmicaaExecS
import Derived.Test.YtpoiojknahmicaaFetchS
import Derived.Test.YtpoiojknahmicaaStepI
namespace Go.Proofs.Ytpoiojknahmicaa
open Go.RowKit
set_option linter.unusedVariables false

set_option maxHeartbeats 4000000 in
set_option maxRecDepth 20000 in
theorem spec_l5Step {L B : Nat} {m : Mach} {C : Int} {w : World} (h : InM L w B m) (hg : m.Good C) (hC : C ≤ 1000000000000) : Calls Try.prog 110 #[.pointer (some ⟨B, 0, none⟩)] w (Does L w B m.step) := by
  unfold Does
  have G := Lib.hid hg
  have CF := Lib.hid (spec_l5Fetch h hg)
  obtain ⟨a, c, b, d, l1, t1, l2, t2, v, h⟩ := h
  obtain ⟨z0, z1⟩ := inR_iff.1 hg.pc
  have hB := h.ltB
  have lB := h.mem.lB
  have hL : L ≤ w.heap.size := by omega
  have H0 := Lib.hid h
  have y0 := hg.c0
  have y1 := hg.c1
  obtain ⟨_, _, _, c7, _⟩ := h.mc
  clear h hg
  cases hs : m.stop
  · rw [hs] at c7
    cases hd : dOk m.fetch 0
    · have E := Lib.hid (step_no hs hd)
      rw [decV_noOk hd] at CF
      go_enter Try.func110, Try.ntmps110
      go_wp2_with fail
      refine CF.out.mono ?_
      rintro e w5 ⟨rfl, hb5⟩
      have M5 := Lib.hid (H0.out.below hb5)
      have k7 := M5.out.mf 7 (by decide)
      obtain ⟨_, _, _, k8, _⟩ := id M5.out.mc
      have lB5 := M5.out.ltB
      have B5 := Lib.hid hb5
      have hs5 := hb5.size
      have hne : B ≠ w5.heap.size := by omega
      rw [hs] at k8
      clear c7 hb5
      go_wp2_with fail
      go_returns
      refine ⟨rfl, ?_, ?_⟩
      · first | exact inM_eq ((M5.out.setStop true).alloc _).inM E.out | exact inM_eq ((M5.out.alloc _).setStop true).inM E.out
      · repeat (first | with_reducible exact B5.out.mono hL | with_reducible refine Below.setCell ?_ (by first | exact lB | (dsimp only; exact lB)) _ | with_reducible refine Below.alloc ?_ (by first | omega | (rw [size_set]; omega) | (simp; omega)) _)
    · have E := Lib.hid (step_yes hs hd)
      have hv := Mach.fetch_ov hd
      obtain ⟨n1, n3⟩ := dOk_len hd
      rw [decV_yes hd] at CF
      generalize dOp m.fetch 0 = op at *
      generalize dArg m.fetch 0 = arg at *
      have G2 := Lib.hid (G.out.ahead (show 0 ≤ olen op by omega) n3)
      generalize olen op = nn at *
      have em : (m.pc + nn).tmod 1024 = (m.pc + nn) % 1024 := Int.tmod_eq_emod_of_nonneg (by omega)
      have hw1 : IntKind.i64.wrap (m.pc + nn) = m.pc + nn := by rw [IntKind.wrap_i64]; omega
      have hw2 : IntKind.i64.wrap (m.cyc + nn) = m.cyc + nn := by rw [IntKind.wrap_i64]; omega
      go_enter Try.func110, Try.ntmps110
      go_wp2_with fail
      refine CF.out.mono ?_
      rintro e w5 ⟨rfl, hb5⟩
      have M5 := Lib.hid (H0.out.below hb5)
      have k4 := M5.out.mf 4 (by decide)
      have k8 := M5.out.mf 8 (by decide)
      obtain ⟨_, ⟨_, g4, _⟩, _, _, g8⟩ := id M5.out.mc
      have lB5 := M5.out.ltB
      have B5 := Lib.hid hb5
      have hs5 := hb5.size
      have hne : B ≠ w5.heap.size := by omega
      clear c7 hb5
      go_wp2_with fail
      have M6 : InM L (((w5.setCell ⟨B, 4, none⟩ (.int .i64 ((m.pc + nn) % 1024))).setCell ⟨B, 8, none⟩ (.int .i64 (m.cyc + nn))).alloc (.cells #[.int .i64 op, .int .i64 arg] 36)) B (m.ahead nn) ∧ Below L w (((w5.setCell ⟨B, 4, none⟩ (.int .i64 ((m.pc + nn) % 1024))).setCell ⟨B, 8, none⟩ (.int .i64 (m.cyc + nn))).alloc (.cells #[.int .i64 op, .int .i64 arg] 36)) :=
        ⟨(((M5.out.setPc _).setCyc _).alloc _).inM, (((B5.out.mono hL).setCell (p := ⟨B, 4, none⟩) lB _).setCell (p := ⟨B, 8, none⟩) lB _).alloc (by rw [size_set, size_set]; omega) _⟩
      obtain ⟨M6i, M6b⟩ := M6
      refine (spec_l5Do (m := m.ahead nn) (L := L) M6i G2.out hv).mono ?_
      rintro e w6 ⟨rfl, hm6, hb6⟩
      go_wp2_with fail
      go_returns
      exact ⟨rfl, inM_eq hm6 E.out, M6b.trans hb6⟩
  · have E := Lib.hid (inM_eq H0.out.inM (Mach.step_stop hs))
    rw [hs] at c7
    go_enter Try.func110, Try.ntmps110
    go_wp2_with fail
    go_returns
    exact ⟨rfl, E.out, Below.refl _ _⟩
end Go.Proofs.Ytpoiojknahmicaa
