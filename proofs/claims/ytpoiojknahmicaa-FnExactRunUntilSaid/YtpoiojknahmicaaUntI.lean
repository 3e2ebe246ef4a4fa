/- The walk of impl.RunUntil. No condition. -/
import Derived.Test.YtpoiojknahmicaaRunI2
namespace Go.Proofs.Ytpoiojknahmicaa
open Go.RowKit
set_option linter.unusedVariables false

/-- Does the machine go on behind n steps? -/
def contB (m : Mach) (p : Int) (n : Nat) : Bool := decide (n < 500) && !(Mach.steps n m).stop && (n == 0 || (Mach.steps n m).pc != p)
/-- The first number of steps at which it does not. -/
def IsUnt (m : Mach) (p : Int) (N : Nat) : Prop := (∀ j, j < N → contB m p j = true) ∧ contB m p N = false
theorem IsUnt.unique {m : Mach} {p : Int} {N N' : Nat} (h : IsUnt m p N) (h' : IsUnt m p N') : N = N' := by
  rcases Nat.lt_trichotomy N N' with k | k | k
  · have := h'.1 N k; rw [h.2] at this; cases this
  · exact k
  · have := h.1 N' k; rw [h'.2] at this; cases this
theorem contB_yes {m : Mach} {p : Int} {n : Nat} (h1 : n < 500) (h2 : (Mach.steps n m).stop = false) (h3 : n = 0 ∨ (Mach.steps n m).pc ≠ p) : contB m p n = true := by
  rcases h3 with rfl | h3
  · simp only [contB, h2]; simp
  · simp [contB, h1, h2, h3]
theorem contB_500 {m : Mach} {p : Int} {n : Nat} (h : ¬ n < 500) : contB m p n = false := by simp [contB, h]
theorem contB_stop {m : Mach} {p : Int} {n : Nat} (h : (Mach.steps n m).stop = true) : contB m p n = false := by simp [contB, h]
theorem contB_at {m : Mach} {p : Int} {n : Nat} (h0 : n ≠ 0) (h : (Mach.steps n m).pc = p) : contB m p n = false := by simp [contB, h, h0]
theorem below_succ {m : Mach} {p : Int} {k : Nat} (h : ∀ j, j < k → contB m p j = true) (hk : contB m p k = true) : ∀ j, j < k + 1 → contB m p j = true := fun j hj => by
  rcases Nat.lt_or_ge j k with h1 | h1
  · exact h j h1
  · rwa [show j = k by omega]
/-- What RunUntil computes. -/
def IsR (m : Mach) (p : Int) (N : Nat) (mm : Mach) : Prop := if machB m && inR p 0 1023 then IsUnt m p N ∧ mm = Mach.steps N m else N = 0 ∧ mm = zeroM
theorem IsR.unique {m : Mach} {p : Int} {N N' : Nat} {mm mm' : Mach} (h : IsR m p N mm) (h' : IsR m p N' mm') : N = N' ∧ mm = mm' := by
  unfold IsR at h h'
  split at h
  · rename_i hc
    rw [if_pos hc] at h'
    have := h.1.unique h'.1
    subst this
    exact ⟨rfl, h.2.trans h'.2.symm⟩
  · rename_i hc
    rw [if_neg hc] at h'
    exact ⟨h.1.trans h'.1.symm, h.2.trans h'.2.symm⟩
theorem isR_no {m : Mach} {p : Int} (h : (machB m && inR p 0 1023) = false) : IsR m p 0 zeroM := by unfold IsR; rw [if_neg (by rw [h]; simp)]; exact ⟨rfl, rfl⟩
theorem isR_yes {m : Mach} {p : Int} {N : Nat} (h : machB m = true) (h1 : inR p 0 1023 = true) (hN : IsUnt m p N) : IsR m p N (Mach.steps N m) := by unfold IsR; rw [if_pos (by rw [h, h1]; rfl)]; exact ⟨hN, rfl⟩
theorem isUnt_le {m : Mach} {p : Int} {N : Nat} (h : IsUnt m p N) : N ≤ 500 := by
  rcases Nat.lt_or_ge 500 N with k | k
  · have := h.1 500 k; rw [contB_500 (by omega)] at this; cases this
  · exact k
def MadeUnt (m : Mach) (p : Int) (w : World) (e : Ending) (w' : World) : Prop := ∃ N mm v, IsR m p N mm ∧ e = .returned (.tuple #[v, .int .i64 N]) ∧ OwnMach w.heap.size w'.heap.size w' v mm ∧ Below w.heap.size w w'
theorem unt_of_made {m mm : Mach} {p : Int} {N : Nat} {w W' : World} {v : Value} (h : MadeMach mm w (.returned v) W') (hR : IsR m p N mm) : MadeUnt m p w (.returned (.tuple #[v, .int .i64 N])) W' := by
  obtain ⟨v', e, ho, hb⟩ := h
  injection e with e
  subst e
  exact ⟨N, mm, v, hR, rfl, ho, hb⟩
set_option maxHeartbeats 4000000 in
set_option maxRecDepth 20000 in
theorem impl_RunUntil {v : Value} {m : Mach} (n : Int) {w : World} (h : MachV w v m) : Calls Try.prog 70 #[v, .int .i64 n] w (MadeUnt m n w) := by
  obtain ⟨a1, c1, b1, d1, f1, g1, rfl, _, _, _, _, _, _⟩ := machV_shape h
  have H := Lib.hid h
  clear h
  cases hv : machB m
  · have IR := Lib.hid (isR_no (m := m) (p := n) (by rw [hv]; rfl))
    go_enter Try.func70, Try.ntmps70
    go_wp2_with fail
    refine (calls_eqv (impl_MachineValid (H.out.below (by go_grown))) hv).mono ?_
    rintro e w1 ⟨rfl, hb1⟩
    have r1 := mc_below hb1 (mc_zero (b := w.heap.size + 1) (by simp))
    have hB1 : Hid (Below w.heap.size w w1) := below_via hb1 (by repeat (first | with_reducible exact Below.refl _ _ | with_reducible refine below_via (by assumption) ?_ (by go_size) | with_reducible refine below_within (by assumption) ?_ (by go_size) (by omega) | with_reducible refine Below.alloc ?_ (by go_size) _ | with_reducible refine Below.setCell ?_ (by go_size) _ | with_reducible refine Below.drew ?_)) (by go_size)
    have fR : ∀ i, w1.frozen? ⟨w.heap.size + 1, i, none⟩ = false := fun i => (hb1.frozen (p := ⟨w.heap.size + 1, i, none⟩) (by simp)).trans (by simp [go_sem])
    have hs1 : w.heap.size + 2 ≤ w1.heap.size := Nat.le_trans (by simp) hb1.size
    obtain ⟨⟨r10, r11, r12⟩, ⟨r13, r14, r15⟩, r16, r17, r18⟩ := r1
    clear hb1
    go_wp2_with fail
    refine bodyPost_ret (v := .tuple #[.agg #[.slice none 0 0, .slice none 0 0, .int .i64 0, .int .i64 0, .int .i64 0, .bool false, .slice none 0 0, .bool false, .int .i64 0], .int .i64 0]) (by simp [results, Try.results70, go_sem, r10, r11, r12, r13, r14, r15, r16, r17, r18, zeroM]) rfl ⟨0, _, _, IR.out, rfl, ownMach_zeroM (by simp only [size_set]; omega), ?_⟩
    repeat (first | with_reducible exact hB1.out | refine Below.setCell ?_ (by show w.heap.size ≤ w.heap.size + 1; omega) _)
  cases hn : inR n 0 1023
  · have IR := Lib.hid (isR_no (m := m) (p := n) (by rw [hv, hn]; rfl))
    go_enter Try.func70, Try.ntmps70
    go_wp2_with fail
    refine (calls_eqv (impl_MachineValid (H.out.below (by go_grown))) hv).mono ?_
    rintro e w1 ⟨rfl, hb1⟩
    have r1 := mc_below hb1 (mc_zero (b := w.heap.size + 1) (by simp))
    have hB1 : Hid (Below w.heap.size w w1) := below_via hb1 (by repeat (first | with_reducible exact Below.refl _ _ | with_reducible refine below_via (by assumption) ?_ (by go_size) | with_reducible refine below_within (by assumption) ?_ (by go_size) (by omega) | with_reducible refine Below.alloc ?_ (by go_size) _ | with_reducible refine Below.setCell ?_ (by go_size) _ | with_reducible refine Below.drew ?_)) (by go_size)
    have fR : ∀ i, w1.frozen? ⟨w.heap.size + 1, i, none⟩ = false := fun i => (hb1.frozen (p := ⟨w.heap.size + 1, i, none⟩) (by simp)).trans (by simp [go_sem])
    have hs1 : w.heap.size + 2 ≤ w1.heap.size := Nat.le_trans (by simp) hb1.size
    obtain ⟨⟨r10, r11, r12⟩, ⟨r13, r14, r15⟩, r16, r17, r18⟩ := r1
    clear hb1
    go_wp2_with fail
    refine (calls_eqv (impl_within _ _ _ _) hn).mono ?_
    rintro e w' ⟨rfl, rfl⟩
    go_wp2_with fail
    refine bodyPost_ret (v := .tuple #[.agg #[.slice none 0 0, .slice none 0 0, .int .i64 0, .int .i64 0, .int .i64 0, .bool false, .slice none 0 0, .bool false, .int .i64 0], .int .i64 0]) (by simp [results, Try.results70, go_sem, r10, r11, r12, r13, r14, r15, r16, r17, r18, zeroM]) rfl ⟨0, _, _, IR.out, rfl, ownMach_zeroM (by simp only [size_set]; omega), ?_⟩
    repeat (first | with_reducible exact hB1.out | refine Below.setCell ?_ (by show w.heap.size ≤ w.heap.size + 1; omega) _)
  · have IY := Lib.hid (fun N => isR_yes (m := m) (p := n) (N := N) hv hn)
    obtain ⟨z1, z2, z3, z4⟩ := sizes_mach hv
    have G := Lib.hid (machB_good hv)
    go_enter Try.func70, Try.ntmps70
    go_wp2_with fail
    refine (calls_eqv (impl_MachineValid (H.out.below (by go_grown))) hv).mono ?_
    rintro e w1 ⟨rfl, hb1⟩
    have x1 := mc_below hb1 (mc_alloc _ (mc_lit rfl))
    have r1 := mc_below hb1 (mc_zero (b := w.heap.size + 1) (by simp))
    have hB1 : Hid (Below w.heap.size w w1) := below_via hb1 (by repeat (first | with_reducible exact Below.refl _ _ | with_reducible refine below_via (by assumption) ?_ (by go_size) | with_reducible refine below_within (by assumption) ?_ (by go_size) (by omega) | with_reducible refine Below.alloc ?_ (by go_size) _ | with_reducible refine Below.setCell ?_ (by go_size) _ | with_reducible refine Below.drew ?_)) (by go_size)
    have fR : ∀ i, w1.frozen? ⟨w.heap.size + 1, i, none⟩ = false := fun i => (hb1.frozen (p := ⟨w.heap.size + 1, i, none⟩) (by simp)).trans (by simp [go_sem])
    have hs1 : w.heap.size + 2 ≤ w1.heap.size := Nat.le_trans (by simp) hb1.size
    obtain ⟨⟨x10, x11, x12⟩, ⟨x13, x14, x15⟩, x16, x17, x18⟩ := x1
    clear hb1
    go_wp2_with fail
    refine (calls_eqv (impl_within _ _ _ _) hn).mono ?_
    rintro e w' ⟨rfl, rfl⟩
    go_wp2_with fail
    refine (impl_copyMachine (H.out.below hB1.out) z1 z2 z3 z4).mono ?_
    rintro e w2 ⟨a, c, b, d, l1, t1, l2, t2, za, zc, rfl, ⟨k1, k2, k3, k4, sep⟩, o1, o2, o3, bs, hb2⟩
    have M2 := Lib.hid (machIn_new 55 k1 k2 k3 k4 sep o1 o2 o3 bs hb2.size).inM
    have r2 := Lib.hid (mc_below hb2 r1)
    have fR2 : ∀ i, w2.frozen? ⟨w.heap.size + 1, i, none⟩ = false := fun i => (hb2.frozen (p := ⟨w.heap.size + 1, i, none⟩) (by show w.heap.size + 1 < _; omega)).trans (fR i)
    have hs2 := hb2.size
    have hB2 : Hid (Below w.heap.size w w2) := hB1.out.trans (hb2.mono (by omega))
    clear o1 o2 o3 bs hb2 x10 x11 x12 x13 x14 x15 x16 x17 x18 r1
    have RX := Lib.hid (mc_alloc (.cells #[.slice a m.ram.length c, .slice b m.rom.length d, .int .i64 m.bank, .int .i64 m.a, .int .i64 m.pc, .bool m.carry, .slice za m.back.length zc, .bool m.stop, .int .i64 m.cyc] 55) r2.out)
    have FX : ∀ i, (w2.alloc (.cells #[.slice a m.ram.length c, .slice b m.rom.length d, .int .i64 m.bank, .int .i64 m.a, .int .i64 m.pc, .bool m.carry, .slice za m.back.length zc, .bool m.stop, .int .i64 m.cyc] 55)).frozen? ⟨w.heap.size + 1, i, none⟩ = false := fun i => ((((Below.refl w2.heap.size w2).alloc (Nat.le_refl _) _).frozen (p := ⟨w.heap.size + 1, i, none⟩) (by show w.heap.size + 1 < _; omega)).trans (fR2 i))
    have BX : Hid (Below w.heap.size w (w2.alloc (.cells #[.slice a m.ram.length c, .slice b m.rom.length d, .int .i64 m.bank, .int .i64 m.a, .int .i64 m.pc, .bool m.carry, .slice za m.back.length zc, .bool m.stop, .int .i64 m.cyc] 55))) := hB2.out.alloc hB2.out.size _
    go_upto_region 4 with fail
    generalize (w2.alloc (.cells #[.slice a m.ram.length c, .slice b m.rom.length d, .int .i64 m.bank, .int .i64 m.a, .int .i64 m.pc, .bool m.carry, .slice za m.back.length zc, .bool m.stop, .int .i64 m.cyc] 55)) = X at *
    go_wp2_with fail
    go_loopw [7] (fun i wr => ∃ k : Nat, k ≤ 500 ∧ i = .int .i64 k ∧ Hid (InM w1.heap.size wr w2.heap.size (Mach.steps k m)) ∧ Hid (Below w1.heap.size X wr) ∧ Hid (∀ j, j < k → contB m n j = true)) (fun i _ => 501 - (intOf i).toNat)
    case atStart => exact ⟨0, by omega, rfl, M2.out, Below.refl _ _, fun j hj => by omega⟩
    case round =>
      obtain ⟨k, hk, rfl, hM, hX, hC⟩ := hrel
      obtain ⟨a', c', b', d', l1', t1', l2', t2', v', h3⟩ := hM.out
      obtain ⟨⟨q0, q1, q2⟩, ⟨q3, q4, q5⟩, q6, q7, q8⟩ := h3.mc
      have h3l := h3.ltB
      have hFin : Hid (contB m n k = false → IsR m n k (Mach.steps k m)) := fun hc => IY.out k ⟨hC.out, hc⟩
      have GK := G.out.steps k
      have HM3 := Lib.hid h3
      clear h3
      by_cases h500 : k < 500
      · have hki : (k : Int) < 500 := by omega
        cases hst : (Mach.steps k m).stop
        · rw [hst] at q7
          by_cases hgo : k = 0 ∨ (Mach.steps k m).pc ≠ n
          · have hc := Lib.hid (contB_yes (p := n) h500 hst hgo)
            have hc1 := Lib.hid (below_succ hC.out hc.out)
            have hgo' : ((k : Int) == 0) = true ∨ ((k : Int) == 0) = false ∧ ((Mach.steps k m).pc != n) = true := by
              by_cases hk0 : k = 0
              · left; simp [hk0]
              · right; exact ⟨by simp; omega, by simpa using hgo.resolve_left hk0⟩
            generalize (Mach.steps k m).pc = pc at *
            have hstep := Lib.hid (impl_step hM.out GK (by omega))
            rcases hgo' with g1 | ⟨g1, g2⟩
            · go_wp2_with fail
              refine hstep.out.mono ?_
              rintro e w3 ⟨rfl, hm3, hb3⟩
              go_wp2_with fail
              go_roundw
              case rel => exact ⟨k + 1, by omega, by go_num, hm3, hX.out.trans hb3, hc1.out⟩
              case measure => simp [intOf]; omega
            · go_wp2_with fail
              refine hstep.out.mono ?_
              rintro e w3 ⟨rfl, hm3, hb3⟩
              go_wp2_with fail
              go_roundw
              case rel => exact ⟨k + 1, by omega, by go_num, hm3, hX.out.trans hb3, hc1.out⟩
              case measure => simp [intOf]; omega
          · have hk0 : k ≠ 0 := fun e => hgo (.inl e)
            have hpc : (Mach.steps k m).pc = n := Classical.byContradiction fun e => hgo (.inr e)
            have FI := Lib.hid (hFin.out (contB_at hk0 hpc))
            have g1 : ((k : Int) == 0) = false := by simp; omega
            have g2 : ((Mach.steps k m).pc != n) = false := by simp [hpc]
            have h3 := HM3.out
            obtain ⟨va, vc, rfl⟩ := ownV_shape h3.bk
            simp only [List.length_map] at h3 q6
            have M3 := Lib.hid h3
            have y3 := mc_be hX.out RX.out (by omega)
            have fR3 : ∀ i, wr.frozen? ⟨w.heap.size + 1, i, none⟩ = false := fun i => (hX.out.frozen (p := ⟨w.heap.size + 1, i, none⟩) (by show w.heap.size + 1 < _; omega)).trans (FX i)
            have hB3 : Hid (Below w.heap.size w wr) := BX.out.trans (hX.out.mono (by omega))
            generalize Mach.steps k m = mm at *
            obtain ⟨⟨r10, r11, r12⟩, ⟨r13, r14, r15⟩, r16, r17, r18⟩ := y3
            clear h3 hM hX
            go_wp2_with fail
            refine bodyPost_ret (v := .tuple #[.agg #[.slice a' mm.ram.length c', .slice b' mm.rom.length d', .int .i64 mm.bank, .int .i64 mm.a, .int .i64 mm.pc, .bool mm.carry, .slice va mm.back.length vc, .bool mm.stop, .int .i64 mm.cyc], .int .i64 k]) (by simp [results, Try.results70, go_sem, r10, r11, r12, r13, r14, r15, r16, r17, r18, zeroM] <;> first | exact ⟨hpc.symm, hst⟩ | exact hst) rfl ?_
            refine unt_of_made (made_of_in (L := w1.heap.size) (R := w.heap.size + 1) (w3 := wr) M3.out rfl ?_ (by omega) (by omega) (by omega) hB3.out) FI.out
            repeat (first | with_reducible exact two_refl _ _ _ | with_reducible refine two_setR ?_)
        · have FI := Lib.hid (hFin.out (contB_stop hst))
          rw [hst] at q7
          have h3 := HM3.out
          obtain ⟨va, vc, rfl⟩ := ownV_shape h3.bk
          simp only [List.length_map] at h3 q6
          have M3 := Lib.hid h3
          have y3 := mc_be hX.out RX.out (by omega)
          have fR3 : ∀ i, wr.frozen? ⟨w.heap.size + 1, i, none⟩ = false := fun i => (hX.out.frozen (p := ⟨w.heap.size + 1, i, none⟩) (by show w.heap.size + 1 < _; omega)).trans (FX i)
          have hB3 : Hid (Below w.heap.size w wr) := BX.out.trans (hX.out.mono (by omega))
          generalize Mach.steps k m = mm at *
          obtain ⟨⟨r10, r11, r12⟩, ⟨r13, r14, r15⟩, r16, r17, r18⟩ := y3
          clear h3 hM hX
          go_wp2_with fail
          refine bodyPost_ret (v := .tuple #[.agg #[.slice a' mm.ram.length c', .slice b' mm.rom.length d', .int .i64 mm.bank, .int .i64 mm.a, .int .i64 mm.pc, .bool mm.carry, .slice va mm.back.length vc, .bool mm.stop, .int .i64 mm.cyc], .int .i64 k]) (by simp [results, Try.results70, go_sem, r10, r11, r12, r13, r14, r15, r16, r17, r18, zeroM] <;> first | exact ⟨hpc.symm, hst⟩ | exact hst) rfl ?_
          refine unt_of_made (made_of_in (L := w1.heap.size) (R := w.heap.size + 1) (w3 := wr) M3.out rfl ?_ (by omega) (by omega) (by omega) hB3.out) FI.out
          repeat (first | with_reducible exact two_refl _ _ _ | with_reducible refine two_setR ?_)
      · have hki : ¬ (k : Int) < 500 := by omega
        have FI := Lib.hid (hFin.out (contB_500 h500))
        have h3 := HM3.out
        obtain ⟨va, vc, rfl⟩ := ownV_shape h3.bk
        simp only [List.length_map] at h3 q6
        have M3 := Lib.hid h3
        have y3 := mc_be hX.out RX.out (by omega)
        have fR3 : ∀ i, wr.frozen? ⟨w.heap.size + 1, i, none⟩ = false := fun i => (hX.out.frozen (p := ⟨w.heap.size + 1, i, none⟩) (by show w.heap.size + 1 < _; omega)).trans (FX i)
        have hB3 : Hid (Below w.heap.size w wr) := BX.out.trans (hX.out.mono (by omega))
        generalize Mach.steps k m = mm at *
        obtain ⟨⟨r10, r11, r12⟩, ⟨r13, r14, r15⟩, r16, r17, r18⟩ := y3
        clear h3 hM hX
        go_wp2_with fail
        refine bodyPost_ret (v := .tuple #[.agg #[.slice a' mm.ram.length c', .slice b' mm.rom.length d', .int .i64 mm.bank, .int .i64 mm.a, .int .i64 mm.pc, .bool mm.carry, .slice va mm.back.length vc, .bool mm.stop, .int .i64 mm.cyc], .int .i64 k]) (by simp [results, Try.results70, go_sem, r10, r11, r12, r13, r14, r15, r16, r17, r18, zeroM] <;> first | exact ⟨hpc.symm, hst⟩ | exact hst) rfl ?_
        refine unt_of_made (made_of_in (L := w1.heap.size) (R := w.heap.size + 1) (w3 := wr) M3.out rfl ?_ (by omega) (by omega) (by omega) hB3.out) FI.out
        repeat (first | with_reducible exact two_refl _ _ _ | with_reducible refine two_setR ?_)
end Go.Proofs.Ytpoiojknahmicaa
