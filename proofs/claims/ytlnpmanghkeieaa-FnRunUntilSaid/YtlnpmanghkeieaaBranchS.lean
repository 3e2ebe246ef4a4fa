/- The walk of the reference's function for an instruction that changes the address. No condition. -/
import Derived.Test.YtlnpmanghkeieaaBranch
namespace Go.Proofs.Ytlnpmanghkeieaa
open Go.RowKit
set_option linter.unusedVariables false

theorem ints_cell {W : World} {b : Nat} {x : Int} (h : W.cell? ⟨b, 0, none⟩ = some (.int .i64 x)) : Ints W (.slice (some ⟨b, 0, none⟩) 1 1) [x] :=
  ⟨_, 1, rfl, Nat.le_refl _, by decide, .inr ⟨b, 0, rfl, fun i hi => by
    obtain rfl : i = 0 := by simpa using hi
    simpa using h⟩⟩
theorem ints_alloc {W : World} {v : Value} {zs : List Int} {o : Obj} (h : Ints W v zs) : Ints (W.alloc o) v zs := h.below ((Below.refl _ _).alloc (Nat.le_refl _) o)
set_option maxHeartbeats 4000000 in
theorem spec_l5Go {L B : Nat} {m : Mach} {op arg : Int} {w : World} (h : InM L w B m) (hl : m.back.length ≤ 8) : Calls Try.prog 60 #[.pointer (some ⟨B, 0, none⟩), .agg #[.int .i64 op, .int .i64 arg]] w (Does L w B (m.goes op arg)) := by
  unfold Does
  obtain ⟨a, c, b, d, l1, t1, l2, t2, v, h⟩ := h
  have hB := h.ltB
  have lB := h.mem.lB
  have hL : L ≤ w.heap.size := by omega
  obtain ⟨va, vc, rfl⟩ := ownV_shape h.bk
  simp only [List.length_map] at h
  have hX := h.alloc (.cells #[.int .i64 op, .int .i64 arg] 58)
  have H := Lib.hid hX
  have H0 := Lib.hid h
  have f4 := h.mf 4 (by decide)
  have f6 := h.mf 6 (by decide)
  have f7 := h.mf 7 (by decide)
  obtain ⟨⟨c0, c1, c2⟩, ⟨c3, c4, c5⟩, c6, c7, c8⟩ := h.mc
  have hne : w.heap.size ≠ B := by omega
  have hnb : B ≠ w.heap.size := by omega
  have BX : Hid (Below L w (w.alloc (.cells #[.int .i64 op, .int .i64 arg] 58))) := (Below.refl _ _).alloc hL _
  have OV := Lib.hid h.bk
  have nB : ∀ n, (Value.slice va n vc).ownBlock ≠ some B := fun n e => (h.bs B (by cases va <;> exact e)).2.2 rfl
  have nO : ∀ n, (Value.slice va n vc).ownBlock ≠ some w.heap.size := fun n e => by
    have := (h.bk.lt _ (show (Value.slice va m.back.length vc).ownBlock = some w.heap.size by cases va <;> exact e)).2
    omega
  clear h hX
  by_cases p10 : op = 10
  · subst p10
    have E := Lib.hid (inM_eq ((H0.out.setPc arg).alloc (.cells #[.int .i64 10, .int .i64 arg] 58)).inM goes_10)
    go_enter Try.func60, Try.ntmps60
    go_wp2_with fail
    go_returns
    exact ⟨rfl, E.out, bel_sa lB hL⟩
  by_cases p11 : op = 11
  · subst p11
    by_cases ha : m.a = 0
    · have E := Lib.hid (inM_eq ((H0.out.setPc arg).alloc (.cells #[.int .i64 11, .int .i64 arg] 58)).inM (goes_11 ha))
      have ha' : (m.a == 0) = true := by simpa using ha
      go_enter Try.func60, Try.ntmps60
      go_wp2_with fail
      go_returns
      exact ⟨rfl, E.out, bel_sa lB hL⟩
    · have E := Lib.hid (inM_eq H.out.inM (goes_11n (arg := arg) ha))
      have ha' : (m.a == 0) = false := by simpa using ha
      go_enter Try.func60, Try.ntmps60
      go_wp2_with fail
      go_returns
      exact ⟨rfl, E.out, BX.out⟩
  by_cases p12 : op = 12
  · subst p12
    cases hc : m.carry
    · have E := Lib.hid (inM_eq H.out.inM (goes_12n (arg := arg) hc))
      rw [hc] at c5
      go_enter Try.func60, Try.ntmps60
      go_wp2_with fail
      go_returns
      exact ⟨rfl, E.out, BX.out⟩
    · have E := Lib.hid (inM_eq ((H0.out.setPc arg).alloc (.cells #[.int .i64 12, .int .i64 arg] 58)).inM (goes_12 hc))
      rw [hc] at c5
      go_enter Try.func60, Try.ntmps60
      go_wp2_with fail
      go_returns
      exact ⟨rfl, E.out, bel_sa lB hL⟩
  by_cases p15 : op = 15
  · subst p15
    have E := Lib.hid (inM_eq ((H0.out.setStop true).alloc (.cells #[.int .i64 15, .int .i64 arg] 58)).inM (goes_15 (arg := arg)))
    go_enter Try.func60, Try.ntmps60
    go_wp2_with fail
    go_returns
    exact ⟨rfl, E.out, bel_sa lB hL⟩
  by_cases p13 : op = 13
  · subst p13
    by_cases h8 : m.back.length = 8
    · have E := Lib.hid (inM_eq ((H0.out.setStop true).alloc (.cells #[.int .i64 13, .int .i64 arg] 58)).inM (goes_13f (arg := arg) h8))
      rw [h8] at c6
      go_enter Try.func60, Try.ntmps60
      go_wp2_with fail
      go_returns
      exact ⟨rfl, E.out, bel_sa lB hL⟩
    · have E := Lib.hid (goes_13 (arg := arg) h8)
      have h8' : ((m.back.length : Int) == 8) = false := by simp; omega
      have OI := Lib.hid OV.out.own.ints
      have hBa : B < w.heap.size + 1 := by omega
      have hBb : B < w.heap.size + 1 + 1 := by omega
      have hBc : B < w.heap.size + 1 + 1 + 1 := by omega
      go_enter Try.func60, Try.ntmps60
      go_wp2_with fail
      go_region_law (first
        | (refine step_cloneI rfl _ _ rfl (w.heap.size + 1) (.slice (some ⟨_, 0, none⟩) 0 0) (.slice va m.back.length vc) m.back rfl rfl ?_ (OI.out.below ?_) (by omega) ?_ ?_; exact (by repeat (first | with_reducible exact ownV_lit0 (by simp) (by simp) | with_reducible refine OwnV.alloc ?_ _ | with_reducible refine OwnV.drew ?_)); exact (by repeat (first | with_reducible exact Below.refl _ _ | with_reducible refine Below.alloc ?_ (by first | (simp; done) | (simp; omega)) _ | with_reducible refine Below.drew ?_)); exact (by simp); intro v1 w1 ow1 hg1 ha1; (have hb1 : Below (w.heap.size + 1) (w.alloc (.cells #[.int .i64 13, .int .i64 arg] 58)) w1 := below_own0 (by repeat (first | with_reducible exact Below.refl _ _ | with_reducible refine Below.alloc ?_ (by first | (simp; done) | (simp; omega)) _ | with_reducible refine Below.drew ?_)) hg1 (by simp) (by simp)); obtain ⟨va1, vc1, rfl⟩ := ownV_shape ow1; simp only [List.length_map] at ow1; (have OW1 := Lib.hid ow1); (have hold := fun b (x : Value) (h : World.cell? _ ⟨b, 0, none⟩ = some x) hn => grown_cell hg1 (p := ⟨b, 0, none⟩) h hn); (have HS1 := hb1.size); (have g6 : w1.cell? ⟨B, 6, none⟩ = some (.slice va m.back.length vc) := cell_be hb1 (cell_al _ c6) (by show B < _; omega)); (have g4 : w1.cell? ⟨B, 4, none⟩ = some (.int .i64 m.pc) := cell_be hb1 (cell_al _ c4) (by show B < _; omega)))
        | (refine step_appI rfl _ _ rfl (w.heap.size + 1) (.slice va1 m.back.length vc1) (.slice (some ⟨_, 0, none⟩) 1 1) m.back [m.pc] rfl rfl ?_ ?_ (by simp; omega) ?_ ?_; exact (by repeat (first | with_reducible exact OW1.out | with_reducible refine OwnV.alloc ?_ _ | with_reducible refine OwnV.drew ?_)); exact (by repeat (first | with_reducible exact ints_lit1' (by first | rfl | (simp; done)) | with_reducible refine ints_drew ?_ | with_reducible refine ints_alloc ?_ | exact ints_cell (hold _ _ (by simp [go_sem]) (by simp [Value.ownBlock])))); exact (by simp at HS1 ⊢; omega); intro v2 w2 ow2 hg2 ha2; (have hb2 : Below (w.heap.size + 1) (w.alloc (.cells #[.int .i64 13, .int .i64 arg] 58)) w2 := below_app (by repeat (first | with_reducible exact hb1 | with_reducible refine Below.alloc ?_ (by simp at HS1 ⊢; omega) _ | with_reducible refine Below.drew ?_)) hg2 OW1.out (by simp at HS1 ⊢; omega) (Nat.le_refl _)); obtain ⟨va2, vn2, vc2, rfl⟩ := ownV_shape3 ow2; (have OW2 := Lib.hid ow2); (have HS2 := hb2.size); (have HB2 := Lib.hid hb2); (have g6' : w2.cell? ⟨B, 6, none⟩ = some (.slice va m.back.length vc) := cell_be hb2 (cell_al _ c6) (by show B < _; omega)); (have g4' : w2.cell? ⟨B, 4, none⟩ = some (.int .i64 m.pc) := cell_be hb2 (cell_al _ c4) (by show B < _; omega)); (have k6 : w2.frozen? ⟨B, 6, none⟩ = false := frozen_be hb2 (by simp [go_sem, f6, hB]) (by show B < _; omega)); (have k4 : w2.frozen? ⟨B, 4, none⟩ = false := frozen_be hb2 (by simp [go_sem, f4, hB]) (by show B < _; omega)); (have g1 : w2.cell? ⟨w.heap.size, 1, none⟩ = some (.int .i64 arg) := cell_be hb2 (by simp [go_sem]) (by show w.heap.size < _; omega)); clear ow2 hg2 ha2 hb2))
      all_goals
        have K := Lib.hid (MachIn.setBack (H0.out.alloc (.cells #[.int .i64 13, .int .i64 arg] 58)) HB2.out.size (fun k q1 _ => HB2.out.block k (by simpa using q1)) (OW2.out.raise fun g q => by have := (OW2.out.lt g q).1; omega) (fun g q => .inr (by have := (OW2.out.lt g q).1; simpa using this)))
        have BK : Hid (Below L w w2) := ((Below.refl L w).alloc hL _).trans (HB2.out.mono (by omega))
        go_wp2_with fail
        go_returns
        refine ⟨rfl, inM_eq (K.out.setPc arg).inM E.out, (BK.out.setCell (p := ⟨B, 6, none⟩) lB _).setCell (p := ⟨B, 4, none⟩) lB _⟩
  by_cases p14 : op = 14
  · subst p14
    by_cases h0 : m.back = []
    · have E := Lib.hid (inM_eq ((H0.out.setStop true).alloc (.cells #[.int .i64 14, .int .i64 arg] 58)).inM (goes_14e (arg := arg) h0))
      have e0 : m.back.length = 0 := by rw [h0]; rfl
      rw [e0] at c6
      go_enter Try.func60, Try.ntmps60
      go_wp2_with fail
      go_returns
      exact ⟨rfl, E.out, bel_sa lB hL⟩
    · obtain ⟨n, hn⟩ : ∃ n, m.back.length = n + 1 := ⟨m.back.length - 1, by have := List.length_pos_iff.2 h0; omega⟩
      have E := Lib.hid (goes_14 (arg := arg) h0)
      obtain ⟨hq1, hq2, hq3, b', off, rfl, hb', hc'⟩ := ints_at_ OV.out.own.ints (k := n) (by omega)
      have hcap : n ≤ vc := by omega
      have en : m.back.length - 1 = n := by omega
      rw [en] at E
      have K1 := Lib.hid (H0.out.setPc (m.back.getD n 0))
      have KC := Lib.hid (OwnV.cut K1.out.bk n (by omega) (by omega))
      have OI2 : Hid (Ints ((w.setCell ⟨B, 4, none⟩ (.int .i64 (m.back.getD n 0))).alloc (.cells #[.int .i64 14, .int .i64 arg] 58)) (.slice (some ⟨b', off, none⟩) n vc) (m.back.take n)) := ints_alloc KC.out.own.ints
      generalize m.back.getD n 0 = x at *
      have N := Lib.hid hn
      have hys : (m.back.take n).length ≤ 8 := by rw [List.length_take]; omega
      rw [hn] at c6 hl
      clear hn KC
      generalize m.back.take n = ys at *
      have hnB : b' ≠ B := fun e => nB 0 (by rw [e]; rfl)
      have e1 : ((n + 1 : Nat) : Int) - 1 = (n : Int) := by omega
      have q0 : ((n : Int) + 1 == 0) = false := by simp; omega
      have q1 : (n : Int) < (n : Int) + 1 := by omega
      have q2 : (n : Int) ≤ 8 := by omega
      have q3 : 0 ≤ (n : Int) := by omega
      have hBa : B < w.heap.size + 1 := by omega
      have hBb : B < w.heap.size + 1 + 1 := by omega
      have hw1 : IntKind.i64.wrap (n : Int) = n := by rw [IntKind.wrap_i64]; omega
      have hw2 : IntKind.i64.wrap ((n : Int) + 1 - 1) = n := by rw [IntKind.wrap_i64]; omega
      have hw3 : IntKind.i64.wrap (((n + 1 : Nat) : Int) - 1) = n := by rw [IntKind.wrap_i64]; omega
      go_enter Try.func60, Try.ntmps60
      go_wp2_with fail
      go_region_with fail
      all_goals
        go_wp2_with fail
        go_region_law (refine step_cloneI rfl _ _ rfl (w.heap.size + 1) (.slice (some ⟨_, 0, none⟩) 0 0) (.slice (some ⟨b', off, none⟩) n vc) ys rfl rfl ?_ (OI2.out.below ?_) (by omega) ?_ ?_; exact (by repeat (first | with_reducible exact ownV_lit0 (by simp) (by simp) | with_reducible refine OwnV.alloc ?_ _ | with_reducible refine OwnV.drew ?_)); exact (by repeat (first | with_reducible exact Below.refl _ _ | with_reducible refine Below.alloc ?_ (by first | (simp; done) | (simp; omega)) _ | with_reducible refine Below.drew ?_)); exact (by simp); intro v1 w1 ow1 hg1 ha1; (have hb1 : Below (w.heap.size + 1) ((w.setCell ⟨B, 4, none⟩ (.int .i64 x)).alloc (.cells #[.int .i64 14, .int .i64 arg] 58)) w1 := below_own0 (by repeat (first | with_reducible exact Below.refl _ _ | with_reducible refine Below.alloc ?_ (by first | (simp; done) | (simp; omega)) _ | with_reducible refine Below.drew ?_)) hg1 (by simp) (by simp)); obtain ⟨va1, vn1, vc1, rfl⟩ := ownV_shape3 ow1; (have OW1 := Lib.hid ow1); (have HB1 := Lib.hid hb1); (have g6 : w1.cell? ⟨B, 6, none⟩ = some (.slice (some ⟨b', off, none⟩) (n + 1) vc) := cell_be hb1 (cell_al _ ((World.cell?_setCell_other _ _ _ _ (by simp)).trans c6)) (by show B < _; omega)); (have k6 : w1.frozen? ⟨B, 6, none⟩ = false := frozen_be hb1 (by simp [go_sem, f6, hB]) (by show B < _; omega)); clear ow1 hg1 ha1 hb1)
        all_goals
          have K := Lib.hid (MachIn.setBack (K1.out.alloc (.cells #[.int .i64 14, .int .i64 arg] 58)) HB1.out.size (fun k q1 _ => HB1.out.block k (by simpa using q1)) (OW1.out.raise fun g q => by have := (OW1.out.lt g q).1; omega) (fun g q => .inr (by have := (OW1.out.lt g q).1; simpa using this)))
          have BK : Hid (Below L w w1) := (bel_sa lB hL).trans (HB1.out.mono (by omega))
          go_wp2_with fail
          go_returns
          exact ⟨rfl, inM_eq K.out.inM E.out, BK.out.setCell (p := ⟨B, 6, none⟩) lB _⟩
  · have E := Lib.hid (inM_eq H.out.inM (goes_no (arg := arg) p10 p11 p12 p13 p14 p15))
    have q10 : (op == 10) = false := by simpa using p10
    have q11 : (op == 11) = false := by simpa using p11
    have q12 : (op == 12) = false := by simpa using p12
    have q13 : (op == 13) = false := by simpa using p13
    have q14 : (op == 14) = false := by simpa using p14
    have q15 : (op == 15) = false := by simpa using p15
    go_enter Try.func60, Try.ntmps60
    go_wp2_with fail
    go_returns
    exact ⟨rfl, E.out, BX.out⟩
end Go.Proofs.Ytlnpmanghkeieaa
