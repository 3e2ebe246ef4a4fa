/- The walks of impl.StepMachine, RunMachine and RunUntil. No condition. -/
import Derived.Test.YtpoiojknahmicaaCopyMach
import Derived.Test.YtpoiojknahmicaaStepI
import Derived.Test.YtpoiojknahmicaaMachVal
namespace Go.Proofs.Ytpoiojknahmicaa
open Go.RowKit
set_option linter.unusedVariables false

def stM (m : Mach) : Mach := if machB m then m.step else zeroM
def rnM (m : Mach) (n : Int) : Mach := if machB m && inR n 0 500 then Mach.steps n.toNat m else zeroM
theorem stM_no {m : Mach} (h : machB m = false) : stM m = zeroM := by simp [stM, h]
theorem stM_yes {m : Mach} (h : machB m = true) : stM m = m.step := by simp [stM, h]
theorem sizes_mach {m : Mach} (h : machB m = true) : m.ram.length ≤ 1000000000 ∧ m.rom.length ≤ 1048576 ∧ sumLen m.rom ≤ 1000000000 ∧ m.back.length ≤ 1000000000 := by
  have g := machB_good h
  obtain ⟨h1, h2, h3⟩ := sizes_of g.mem
  exact ⟨h1, h2, h3, by have := g.len; omega⟩
theorem ownMach_zeroM {lo hi : Nat} {w : World} (h : lo ≤ hi) : OwnMach lo hi w (.agg #[.slice none 0 0, .slice none 0 0, .int .i64 0, .int .i64 0, .int .i64 0, .bool false, .slice none 0 0, .bool false, .int .i64 0]) zeroM :=
  ⟨_, _, _, hi, rfl, h, Nat.le_refl _, ownMem_zero h, own_nilV _ _ _⟩
/-- What is loaded from a machine in place, behind stores to a block below its own. -/
theorem made_of_in {L R B : Nat} {m : Mach} {w w3 W' : World} {e : Ending} {a : Option Addr} {c : Nat} {b : Option Addr} {d l1 t1 l2 t2 : Nat} {v : Value} (h : MachIn L w3 B m a c b d l1 t1 l2 t2 v)
    (he : e = .returned (.agg #[.slice a m.ram.length c, .slice b m.rom.length d, .int .i64 m.bank, .int .i64 m.a, .int .i64 m.pc, .bool m.carry, v, .bool m.stop, .int .i64 m.cyc])) (hT : Two R R w3 W') (hR : w.heap.size ≤ R) (hL : R < L) (hw : w.heap.size ≤ L) (hb : Below w.heap.size w w3) : MadeMach m w e W' := by
  obtain ⟨⟨q1, q2, q3⟩, q4, q5⟩ := hT
  refine ⟨_, he, ?_, ⟨q1.trans hb.os, q2.trans hb.tape, q3.trans hb.output, by rw [q4]; exact hb.size, fun k hk => (q5 k (by omega) (by omega)).trans (hb.block k hk)⟩⟩
  exact (h.own.agree (fun k k1 _ => q5 k (by omega) (by omega))).wide hw (by omega)
set_option maxHeartbeats 4000000 in
set_option maxRecDepth 20000 in
theorem impl_StepMachine {v : Value} {m : Mach} {w : World} (h : MachV w v m) : Calls Try.prog 63 #[v] w (MadeMach (stM m) w) := by
  obtain ⟨a1, c1, b1, d1, f1, g1, rfl, _, _, _, _, _, _⟩ := machV_shape h
  have H := Lib.hid h
  clear h
  cases hv : machB m
  · rw [stM_no hv]
    go_enter Try.func63, Try.ntmps63
    go_wp2_with fail
    refine (calls_eqv (impl_MachineValid (H.out.below (by go_grown))) hv).mono ?_
    rintro e w1 ⟨rfl, hb1⟩
    have r1 := mc_below hb1 (mc_zero (b := w.heap.size + 1) (by simp))
    have hB1 : Hid (Below w.heap.size w w1) := below_via hb1 (by repeat (first | with_reducible exact Below.refl _ _ | with_reducible refine below_via (by assumption) ?_ (by go_size) | with_reducible refine below_within (by assumption) ?_ (by go_size) (by omega) | with_reducible refine Below.alloc ?_ (by go_size) _ | with_reducible refine Below.setCell ?_ (by go_size) _ | with_reducible refine Below.drew ?_)) (by go_size)
    have fR : ∀ i, w1.frozen? ⟨w.heap.size + 1, i, none⟩ = false := fun i => (hb1.frozen (p := ⟨w.heap.size + 1, i, none⟩) (by simp)).trans (by simp [go_sem])
    have hs1 : w.heap.size + 2 ≤ w1.heap.size := Nat.le_trans (by simp) hb1.size
    obtain ⟨⟨r10, r11, r12⟩, ⟨r13, r14, r15⟩, r16, r17, r18⟩ := r1
    clear hb1
    go_wp2_with fail
    refine bodyPost_ret (v := .agg #[.slice none 0 0, .slice none 0 0, .int .i64 0, .int .i64 0, .int .i64 0, .bool false, .slice none 0 0, .bool false, .int .i64 0]) (by simp [results, Try.results63, go_sem, r10, r11, r12, r13, r14, r15, r16, r17, r18, zeroM]) rfl ⟨_, rfl, ownMach_zeroM (by simp only [size_set]; omega), ?_⟩
    repeat (first | with_reducible exact hB1.out | refine Below.setCell ?_ (by show w.heap.size ≤ w.heap.size + 1; omega) _)
  · rw [stM_yes hv]
    obtain ⟨z1, z2, z3, z4⟩ := sizes_mach hv
    have G := Lib.hid (machB_good hv)
    go_enter Try.func63, Try.ntmps63
    go_wp2_with fail
    refine (calls_eqv (impl_MachineValid (H.out.below (by go_grown))) hv).mono ?_
    rintro e w1 ⟨rfl, hb1⟩
    have x1 := mc_below hb1 (mc_alloc _ (mc_lit rfl))
    have r1 := mc_below hb1 (mc_zero (b := w.heap.size + 1) (by simp))
    have hB1 : Hid (Below w.heap.size w w1) := below_via hb1 (by repeat (first | with_reducible exact Below.refl _ _ | with_reducible refine below_via (by assumption) ?_ (by go_size) | with_reducible refine below_within (by assumption) ?_ (by go_size) (by omega) | with_reducible refine Below.alloc ?_ (by go_size) _ | with_reducible refine Below.setCell ?_ (by go_size) _ | with_reducible refine Below.drew ?_)) (by go_size)
    have fR : ∀ i, w1.frozen? ⟨w.heap.size + 1, i, none⟩ = false := fun i => (hb1.frozen (p := ⟨w.heap.size + 1, i, none⟩) (by simp)).trans (by simp [go_sem])
    have hs1 : w.heap.size + 2 ≤ w1.heap.size := Nat.le_trans (by simp) hb1.size
    obtain ⟨⟨x10, x11, x12⟩, ⟨x13, x14, x15⟩, x16, x17, x18⟩ := x1
    clear hb1
    go_wp2_with fail
    refine (impl_copyMachine (H.out.below hB1.out) z1 z2 z3 z4).mono ?_
    rintro e w2 ⟨a, c, b, d, l1, t1, l2, t2, za, zc, rfl, ⟨k1, k2, k3, k4, sep⟩, o1, o2, o3, bs, hb2⟩
    have M2 := Lib.hid (machIn_new 55 k1 k2 k3 k4 sep o1 o2 o3 bs hb2.size).inM
    have r2 := Lib.hid (mc_below hb2 r1)
    have fR2 : ∀ i, w2.frozen? ⟨w.heap.size + 1, i, none⟩ = false := fun i => (hb2.frozen (p := ⟨w.heap.size + 1, i, none⟩) (by show w.heap.size + 1 < _; omega)).trans (fR i)
    have hs2 := hb2.size
    have hB2 : Hid (Below w.heap.size w w2) := hB1.out.trans (hb2.mono (by omega))
    clear o1 o2 o3 bs hb2 x10 x11 x12 x13 x14 x15 x16 x17 x18 r1
    go_wp2_with fail
    refine (impl_step M2.out G.out (by omega)).mono ?_
    rintro e w3 ⟨rfl, hm3, hb3⟩
    have hb3' := hb3
    obtain ⟨a', c', b', d', l1', t1', l2', t2', v', h3⟩ := hm3
    obtain ⟨va, vc, rfl⟩ := ownV_shape h3.bk
    simp only [List.length_map] at h3
    have M3 := Lib.hid h3
    have y3 := mc_be hb3 (mc_alloc (.cells #[.slice a m.ram.length c, .slice b m.rom.length d, .int .i64 m.bank, .int .i64 m.a, .int .i64 m.pc, .bool m.carry, .slice za m.back.length zc, .bool m.stop, .int .i64 m.cyc] 55) r2.out) (by omega)
    have fR3 : ∀ i, w3.frozen? ⟨w.heap.size + 1, i, none⟩ = false := fun i => (hb3.frozen (p := ⟨w.heap.size + 1, i, none⟩) (by show w.heap.size + 1 < _; omega)).trans ((((Below.refl w2.heap.size w2).alloc (Nat.le_refl _) _).frozen (p := ⟨w.heap.size + 1, i, none⟩) (by show w.heap.size + 1 < _; omega)).trans (fR2 i))
    have hB3 : Hid (Below w.heap.size w w3) := (hB2.out.alloc hB2.out.size _).trans (hb3.mono (by omega))
    obtain ⟨⟨q0, q1, q2⟩, ⟨q3, q4, q5⟩, q6, q7, q8⟩ := h3.mc
    obtain ⟨⟨r10, r11, r12⟩, ⟨r13, r14, r15⟩, r16, r17, r18⟩ := y3
    clear h3 hb3 hb3' M2
    go_wp2_with fail
    refine bodyPost_ret (v := .agg #[.slice a' m.step.ram.length c', .slice b' m.step.rom.length d', .int .i64 m.step.bank, .int .i64 m.step.a, .int .i64 m.step.pc, .bool m.step.carry, .slice va m.step.back.length vc, .bool m.step.stop, .int .i64 m.step.cyc]) (by simp [results, Try.results63, go_sem, r10, r11, r12, r13, r14, r15, r16, r17, r18, zeroM]) rfl ?_
    refine made_of_in (L := w1.heap.size) (R := w.heap.size + 1) (w3 := w3) M3.out rfl ?_ (by omega) (by omega) (by omega) hB3.out
    repeat (first | with_reducible exact two_refl _ _ _ | with_reducible refine two_setR ?_)
end Go.Proofs.Ytpoiojknahmicaa
