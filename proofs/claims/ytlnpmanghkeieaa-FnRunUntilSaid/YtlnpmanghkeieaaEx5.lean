/- The walk of impl.execute at the instruction 5. No condition. -/
import Derived.Test.YtlnpmanghkeieaaExHead
import Derived.Deep.RegionHeld3
namespace Go.Proofs.Ytlnpmanghkeieaa
open Go.RowKit
set_option linter.unusedVariables false

set_option maxHeartbeats 4000000 in
set_option maxRecDepth 20000 in
theorem impl_ex5 {L B : Nat} {m : Mach} {arg C : Int} {w : World} (h : InM L w B m) (hg : m.Good C) (hv : ovB 5 arg = true) : Calls Try.prog 31 #[.pointer (some ⟨B, 0, none⟩), .agg #[.int .i64 5, .int .i64 arg]] w (Does L w B (m.exec 5 arg)) := by
  unfold Does
  obtain ⟨a, c, b, d, l1, t1, l2, t2, v, h⟩ := h
  have S := Lib.hid (shp_of hg.mem)
  obtain ⟨r0, r1⟩ := inR_iff.1 (Mach.ov_arg hv)
  obtain ⟨z0, z1⟩ := byteB_iff.1 hg.a
  have hlb := hg.len
  have hB := h.ltB
  have lB := h.mem.lB
  have hL : L ≤ w.heap.size := by omega
  obtain ⟨va, vc, rfl⟩ := ownV_shape h.bk
  simp only [List.length_map] at h
  have H0 := Lib.hid h
  have f3 := h.mf 3 (by decide)
  have f5 := h.mf 5 (by decide)
  have f7 := h.mf 7 (by decide)
  obtain ⟨⟨c0, c1, c2⟩, ⟨c3, c4, c5⟩, c6, c7, c8⟩ := h.mc
  have hne : w.heap.size ≠ B := by omega
  have hnb : B ≠ w.heap.size := by omega
  clear h hg hv
  obtain ⟨p, hp⟩ : ∃ p, p = m.peek arg := ⟨_, rfl⟩
  have CP : Hid (Calls Try.prog 29 #[.pointer (some ⟨B, 0, none⟩), .int .i64 arg] (w.alloc (.cells #[.int .i64 5, .int .i64 arg] 58)).drew fun e w' => e = .returned (.int .i64 p) ∧ Quiet (w.alloc (.cells #[.int .i64 5, .int .i64 arg] 58)).drew w') := by
    rw [hp]; exact impl_peek ((H0.out.alloc (.cells #[.int .i64 5, .int .i64 arg] 58)).drew.mem.memAt) S.out r0 r1
  have E := Lib.hid (exec_5 (m := m) (arg := arg))
  rw [← hp] at E
  clear hp
  have CQ := Lib.hid (fun W => impl_SubBytes m.a p m.carry W)
  unfold subV at CQ
  generalize sub1 m.a p m.carry = q1 at *
  generalize sub2 m.a p m.carry = q2 at *
  have T0 : (w.alloc (.cells #[.int .i64 5, .int .i64 arg] 58)).cell? ⟨B, 3, none⟩ = some (.int .i64 m.a) ∧ (w.alloc (.cells #[.int .i64 5, .int .i64 arg] 58)).cell? ⟨B, 5, none⟩ = some (.bool m.carry) ∧ (w.alloc (.cells #[.int .i64 5, .int .i64 arg] 58)).cell? ⟨w.heap.size, 1, none⟩ = some (.int .i64 arg) := ⟨cell_al _ c3, cell_al _ c5, by simp [go_sem]⟩
  go_enter Try.func31, Try.ntmps31
  go_wp2_with fail
  go_region_with (first | (go_at_call 29; refine CP.out.mono ?_; rintro e w1 ⟨rfl, n, rfl⟩) | (go_at_call 47; refine (CQ.out _).mono ?_; rintro e w1 ⟨rfl, rfl⟩))
  all_goals
    go_wp2_with fail
    go_returns
    refine ⟨rfl, ?_, ?_⟩
    · first | exact inM_eq ((((H0.out.setA _).setCarry _).alloc _).drew).inM E.out | exact inM_eq ((((H0.out.setCarry _).setA _).alloc _).drew).inM E.out | exact inM_eq ((((H0.out.alloc _).drewN _).setA _).setCarry _).inM E.out | exact inM_eq ((((H0.out.alloc _).drewN _).setCarry _).setA _).inM E.out
    · repeat (first | with_reducible exact Below.refl _ _ | with_reducible refine Below.setCell ?_ (by first | exact lB | (dsimp only; exact lB)) _ | with_reducible refine Below.drew ?_ | with_reducible refine below_drewN' _ ?_ | with_reducible refine Below.alloc ?_ (by first | exact hL | (simp; omega)) _)
end Go.Proofs.Ytlnpmanghkeieaa
