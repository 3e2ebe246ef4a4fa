/- The walk of the reference's RunUntil. No condition. -/
import Derived.Test.YtpoiojknahmicaaUntI
import Derived.Test.YtpoiojknahmicaaRunS
namespace Go.Proofs.Ytpoiojknahmicaa
open Go.RowKit
set_option linter.unusedVariables false

set_option maxHeartbeats 4000000 in
set_option maxRecDepth 20000 in
theorem spec_RunUntil {v : Value} {m : Mach} (n : Int) {w : World} (h : MachV w v m) : Calls Try.prog 69 #[v, .int .i64 n] w (MadeUnt m n w) := by
  obtain ⟨a1, c1, b1, d1, f1, g1, rfl, _, _, _, _, _, _⟩ := machV_shape h
  have H := Lib.hid h
  clear h
  cases hv : machB m
  · have IR := Lib.hid (isR_no (m := m) (p := n) (by rw [hv]; rfl))
    go_enter Try.func69, Try.ntmps69
    go_wp2_with fail
    refine (calls_eqv (spec_MachineValid (H.out.below (by go_grown))) hv).mono ?_
    rintro e w1 ⟨rfl, hb1⟩
    have r1 := mc_below hb1 (mc_zero (b := w.heap.size + 1) (by simp))
    have hB1 : Hid (Below w.heap.size w w1) := below_via hb1 (by repeat (first | with_reducible exact Below.refl _ _ | with_reducible refine below_via (by assumption) ?_ (by go_size) | with_reducible refine below_within (by assumption) ?_ (by go_size) (by omega) | with_reducible refine Below.alloc ?_ (by go_size) _ | with_reducible refine Below.setCell ?_ (by go_size) _ | with_reducible refine Below.drew ?_)) (by go_size)
    have fR : ∀ i, w1.frozen? ⟨w.heap.size + 1, i, none⟩ = false := fun i => (hb1.frozen (p := ⟨w.heap.size + 1, i, none⟩) (by simp)).trans (by simp [go_sem])
    have hs1 : w.heap.size + 2 ≤ w1.heap.size := Nat.le_trans (by simp) hb1.size
    obtain ⟨⟨r10, r11, r12⟩, ⟨r13, r14, r15⟩, r16, r17, r18⟩ := r1
    clear hb1
    go_wp2_with fail
    refine bodyPost_ret (v := .tuple #[.agg #[.slice none 0 0, .slice none 0 0, .int .i64 0, .int .i64 0, .int .i64 0, .bool false, .slice none 0 0, .bool false, .int .i64 0], .int .i64 0]) (by simp [results, Try.results69, go_sem, r10, r11, r12, r13, r14, r15, r16, r17, r18, zeroM]) rfl ⟨0, _, _, IR.out, rfl, ownMach_zeroM (by simp only [size_set]; omega), ?_⟩
    repeat (first | with_reducible exact hB1.out | refine Below.setCell ?_ (by show w.heap.size ≤ w.heap.size + 1; omega) _)
  cases hn : inR n 0 1023
  · have IR := Lib.hid (isR_no (m := m) (p := n) (by rw [hv, hn]; rfl))
    go_enter Try.func69, Try.ntmps69
    go_wp2_with fail
    refine (calls_eqv (spec_MachineValid (H.out.below (by go_grown))) hv).mono ?_
    rintro e w1 ⟨rfl, hb1⟩
    have r1 := mc_below hb1 (mc_zero (b := w.heap.size + 1) (by simp))
    have hB1 : Hid (Below w.heap.size w w1) := below_via hb1 (by repeat (first | with_reducible exact Below.refl _ _ | with_reducible refine below_via (by assumption) ?_ (by go_size) | with_reducible refine below_within (by assumption) ?_ (by go_size) (by omega) | with_reducible refine Below.alloc ?_ (by go_size) _ | with_reducible refine Below.setCell ?_ (by go_size) _ | with_reducible refine Below.drew ?_)) (by go_size)
    have fR : ∀ i, w1.frozen? ⟨w.heap.size + 1, i, none⟩ = false := fun i => (hb1.frozen (p := ⟨w.heap.size + 1, i, none⟩) (by simp)).trans (by simp [go_sem])
    have hs1 : w.heap.size + 2 ≤ w1.heap.size := Nat.le_trans (by simp) hb1.size
    obtain ⟨⟨r10, r11, r12⟩, ⟨r13, r14, r15⟩, r16, r17, r18⟩ := r1
    clear hb1
    go_wp2_with fail
    refine (calls_eqv (spec_l1In _ _ _ _) hn).mono ?_
    rintro e w' ⟨rfl, rfl⟩
    go_wp2_with fail
    refine bodyPost_ret (v := .tuple #[.agg #[.slice none 0 0, .slice none 0 0, .int .i64 0, .int .i64 0, .int .i64 0, .bool false, .slice none 0 0, .bool false, .int .i64 0], .int .i64 0]) (by simp [results, Try.results69, go_sem, r10, r11, r12, r13, r14, r15, r16, r17, r18, zeroM]) rfl ⟨0, _, _, IR.out, rfl, ownMach_zeroM (by simp only [size_set]; omega), ?_⟩
    repeat (first | with_reducible exact hB1.out | refine Below.setCell ?_ (by show w.heap.size ≤ w.heap.size + 1; omega) _)
  · have IY := Lib.hid (fun N => isR_yes (m := m) (p := n) (N := N) hv hn)
    obtain ⟨z1, z2, z3, z4⟩ := sizes_mach hv
    have G := Lib.hid (machB_good hv)
    go_enter Try.func69, Try.ntmps69
    go_wp2_with fail
    refine (calls_eqv (spec_MachineValid (H.out.below (by go_grown))) hv).mono ?_
    rintro e w1 ⟨rfl, hb1⟩
    have x1 := mc_below hb1 (mc_alloc _ (mc_lit rfl))
    have r1 := mc_below hb1 (mc_zero (b := w.heap.size + 1) (by simp))
    have hB1 : Hid (Below w.heap.size w w1) := below_via hb1 (by repeat (first | with_reducible exact Below.refl _ _ | with_reducible refine below_via (by assumption) ?_ (by go_size) | with_reducible refine below_within (by assumption) ?_ (by go_size) (by omega) | with_reducible refine Below.alloc ?_ (by go_size) _ | with_reducible refine Below.setCell ?_ (by go_size) _ | with_reducible refine Below.drew ?_)) (by go_size)
    have fR : ∀ i, w1.frozen? ⟨w.heap.size + 1, i, none⟩ = false := fun i => (hb1.frozen (p := ⟨w.heap.size + 1, i, none⟩) (by simp)).trans (by simp [go_sem])
    have hs1 : w.heap.size + 2 ≤ w1.heap.size := Nat.le_trans (by simp) hb1.size
    obtain ⟨⟨x10, x11, x12⟩, ⟨x13, x14, x15⟩, x16, x17, x18⟩ := x1
    clear hb1
    go_wp2_with fail
    refine (calls_eqv (spec_l1In _ _ _ _) hn).mono ?_
    rintro e w' ⟨rfl, rfl⟩
    go_wp2_with fail
    refine (spec_l5Copy (H.out.below hB1.out) z1 z2 z3 z4).mono ?_
    rintro e w2 ⟨a, c, b, d, l1, t1, l2, t2, za, zc, rfl, ⟨k1, k2, k3, k4, sep⟩, o1, o2, o3, bs, hb2⟩
    have M2 := Lib.hid (machIn_new 55 k1 k2 k3 k4 sep o1 o2 o3 bs hb2.size).inM
    have r2 := Lib.hid (mc_below hb2 r1)
    have fR2 : ∀ i, w2.frozen? ⟨w.heap.size + 1, i, none⟩ = false := fun i => (hb2.frozen (p := ⟨w.heap.size + 1, i, none⟩) (by show w.heap.size + 1 < _; omega)).trans (fR i)
    have hs2 := hb2.size
    have hB2 : Hid (Below w.heap.size w w2) := hB1.out.trans (hb2.mono (by omega))
    clear o1 o2 o3 bs hb2 x10 x11 x12 x13 x14 x15 x16 x17 x18 r1
    have RX := Lib.hid (mc_alloc (.cells #[.slice a m.ram.length c, .slice b m.rom.length d, .int .i64 m.bank, .int .i64 m.a, .int .i64 m.pc, .bool m.carry, .slice za m.back.length zc, .bool m.stop, .int .i64 m.cyc] 55) r2.out)
    have FX : ∀ i, (w2.alloc (.cells #[.slice a m.ram.length c, .slice b m.rom.length d, .int .i64 m.bank, .int .i64 m.a, .int .i64 m.pc, .bool m.carry, .slice za m.back.length zc, .bool m.stop, .int .i64 m.cyc] 55)).frozen? ⟨w.heap.size + 1, i, none⟩ = false := fun i => ((((Below.refl w2.heap.size w2).alloc (Nat.le_refl _) _).frozen (p := ⟨w.heap.size + 1, i, none⟩) (by show w.heap.size + 1 < _; omega)).trans (fR2 i))
    have BX : Hid (Below w.heap.size w (w2.alloc (.cells #[.slice a m.ram.length c, .slice b m.rom.length d, .int .i64 m.bank, .int .i64 m.a, .int .i64 m.pc, .bool m.carry, .slice za m.back.length zc, .bool m.stop, .int .i64 m.cyc] 55))) := hB2.out.alloc hB2.out.size _
    go_upto_region 4 with fail
    generalize (w2.alloc (.cells #[.slice a m.ram.length c, .slice b m.rom.length d, .int .i64 m.bank, .int .i64 m.a, .int .i64 m.pc, .bool m.carry, .slice za m.back.length zc, .bool m.stop, .int .i64 m.cyc] 55)) = X at *
    go_wp2_with fail
    go_loopw [7] (fun i wr => ∃ k : Nat, k ≤ 500 ∧ i = .int .i64 k ∧ Hid (InM w1.heap.size wr w2.heap.size (Mach.steps k m)) ∧ Hid (Below w1.heap.size X wr) ∧ Hid (∀ j, j < k → contB m n j = true) ∧ Hid (k = 0 ∨ (Mach.steps k m).pc ≠ n)) (fun i _ => 501 - (intOf i).toNat)
    case atStart => exact ⟨0, by omega, rfl, M2.out, Below.refl _ _, fun j hj => by omega, .inl rfl⟩
    case round =>
      obtain ⟨k, hk, rfl, hM, hX, hC, hG⟩ := hrel
      obtain ⟨a', c', b', d', l1', t1', l2', t2', v', h3⟩ := hM.out
      obtain ⟨⟨q0, q1, q2⟩, ⟨q3, q4, q5⟩, q6, q7, q8⟩ := h3.mc
      have h3l := h3.ltB
      have hFin : Hid (contB m n k = false → IsR m n k (Mach.steps k m)) := fun hc => IY.out k ⟨hC.out, hc⟩
      have GK := G.out.steps k
      have HM3 := Lib.hid h3
      clear h3
      by_cases h500 : k < 500
      · have hki : (k : Int) < 500 := by omega
        cases hst : (Mach.steps k m).stop
        · rw [hst] at q7
          have hc := Lib.hid (contB_yes (p := n) h500 hst hG.out)
          have hc1 := Lib.hid (below_succ hC.out hc.out)
          have hstep := Lib.hid (spec_l5Step hM.out GK (by omega))
          have GK1 := G.out.steps (k + 1)
          have IY1 : Hid ((Mach.steps (k + 1) m).pc = n → IsR m n (k + 1) (Mach.steps (k + 1) m)) := fun hp => IY.out (k + 1) ⟨hc1.out, contB_at (by omega) hp⟩
          have hStepEq : Hid (Mach.step (Mach.steps k m) = Mach.steps (k + 1) m) := rfl
          clear HM3 q0 q1 q2 q3 q4 q5 q6 q8
          go_wp2_with fail
          refine hstep.out.mono ?_
          rintro e w3 ⟨rfl, hm3, hb3⟩
          rw [hStepEq.out] at hm3
          have HM := Lib.hid hm3
          have hX3 : Hid (Below w1.heap.size X w3) := hX.out.trans hb3
          obtain ⟨a', c', b', d', l1', t1', l2', t2', v', h3⟩ := hm3
          obtain ⟨⟨q0, q1, q2⟩, ⟨q3, q4, q5⟩, q6, q7', q8⟩ := h3.mc
          have h3l' := h3.ltB
          have HM3 := Lib.hid h3
          have hwk : IntKind.i64.wrap ((k : Int) + 1) = (k : Int) + 1 := by rw [IntKind.wrap_i64]; omega
          clear h3 hb3 q7 hst hstep hM hX hG GK hStepEq hFin
          by_cases hpc : (Mach.steps (k + 1) m).pc = n
          · have FI := Lib.hid (IY1.out hpc)
            have hpc' : ((Mach.steps (k + 1) m).pc == n) = true := by simpa using hpc
            clear IY1 HM
            have h3 := HM3.out
            obtain ⟨va, vc, rfl⟩ := ownV_shape h3.bk
            simp only [List.length_map] at h3 q6
            have M3 := Lib.hid h3
            have y3 := mc_be hX3.out RX.out (by omega)
            have fR3 : ∀ i, w3.frozen? ⟨w.heap.size + 1, i, none⟩ = false := fun i => (hX3.out.frozen (p := ⟨w.heap.size + 1, i, none⟩) (by show w.heap.size + 1 < _; omega)).trans (FX i)
            have hB3 : Hid (Below w.heap.size w w3) := BX.out.trans (hX3.out.mono (by omega))
            have GZ := Lib.hid (good_sizes GK1)
            generalize Mach.steps (k + 1) m = mm at *
            obtain ⟨⟨r10, r11, r12⟩, ⟨r13, r14, r15⟩, r16, r17, r18⟩ := y3
            have hlw : w.heap.size + 1 < w3.heap.size := by have := M3.out.ltB; have := M3.out.mem.lB; omega
            obtain ⟨y1, y2, y3', y4⟩ := GZ.out
            have HV := M3.out.own.mach
            try rw [hst] at HV
            clear h3 hpc
            go_wp2_with fail
            refine (spec_l5Copy HV y1 y2 y3' y4).mono ?_
            rintro e w9 ⟨a9, c9, b9, d9, l9, t9, l8, t8, za9, zc9, rfl, hk9⟩
            have CM := Lib.hid (show CopyM mm w3 _ w9 from ⟨a9, c9, b9, d9, l9, t9, l8, t8, za9, zc9, rfl, hk9⟩)
            obtain ⟨_, _, _, _, _, hb9⟩ := hk9
            have y9 := mc_be hb9 (show Mc w3 (w.heap.size + 1) (.slice none 0 0) (.slice none 0 0) (.slice none 0 0) zeroM from ⟨⟨r10, r11, r12⟩, ⟨r13, r14, r15⟩, r16, r17, r18⟩) (by omega)
            have fR9 : ∀ i, w9.frozen? ⟨w.heap.size + 1, i, none⟩ = false := fun i => (hb9.frozen (p := ⟨w.heap.size + 1, i, none⟩) (by show w.heap.size + 1 < _; omega)).trans (fR3 i)
            clear r10 r11 r12 r13 r14 r15 r16 r17 r18 hb9
            obtain ⟨⟨r10, r11, r12⟩, ⟨r13, r14, r15⟩, r16, r17, r18⟩ := y9
            go_wp2_with fail
            refine bodyPost_ret (v := .tuple #[.agg #[.slice a9 mm.ram.length c9, .slice b9 mm.rom.length d9, .int .i64 mm.bank, .int .i64 mm.a, .int .i64 mm.pc, .bool mm.carry, .slice za9 mm.back.length zc9, .bool mm.stop, .int .i64 mm.cyc], .int .i64 ((k + 1 : Nat) : Int)]) (by simp [results, Try.results69, go_sem, r10, r11, r12, r13, r14, r15, r16, r17, r18, zeroM] <;> first | exact ⟨hpc, hst⟩ | exact hst) rfl ?_
            refine unt_of_made (made_of_copy CM.out (R := w.heap.size + 1) ?_ (by omega) (by omega) hB3.out) FI.out
            repeat (first | with_reducible exact two_refl _ _ _ | with_reducible refine two_setR ?_)
          · have hpc' : ((Mach.steps (k + 1) m).pc == n) = false := by simpa using hpc
            have hne := Lib.hid (show k + 1 = 0 ∨ (Mach.steps (k + 1) m).pc ≠ n from .inr hpc)
            generalize hpe : (Mach.steps (k + 1) m).pc = pc at q4 hpc'
            clear hpe hpc
            go_wp2_with fail
            go_roundw
            case rel => exact ⟨k + 1, by omega, by go_num, HM.out, hX3.out, hc1.out, hne.out⟩
            case measure => simp [intOf]; omega
        · have FI := Lib.hid (hFin.out (contB_stop hst))
          rw [hst] at q7
          have h3 := HM3.out
          obtain ⟨va, vc, rfl⟩ := ownV_shape h3.bk
          simp only [List.length_map] at h3 q6
          have M3 := Lib.hid h3
          have y3 := mc_be hX.out RX.out (by omega)
          have fR3 : ∀ i, wr.frozen? ⟨w.heap.size + 1, i, none⟩ = false := fun i => (hX.out.frozen (p := ⟨w.heap.size + 1, i, none⟩) (by show w.heap.size + 1 < _; omega)).trans (FX i)
          have hB3 : Hid (Below w.heap.size w wr) := BX.out.trans (hX.out.mono (by omega))
          have GZ := Lib.hid (good_sizes GK)
          generalize Mach.steps k m = mm at *
          obtain ⟨⟨r10, r11, r12⟩, ⟨r13, r14, r15⟩, r16, r17, r18⟩ := y3
          have hlw : w.heap.size + 1 < wr.heap.size := by have := M3.out.ltB; have := M3.out.mem.lB; omega
          obtain ⟨y1, y2, y3', y4⟩ := GZ.out
          have HV := M3.out.own.mach
          try rw [hst] at HV
          clear h3 hM hX hFin hG
          go_wp2_with fail
          refine (spec_l5Copy HV y1 y2 y3' y4).mono ?_
          rintro e w9 ⟨a9, c9, b9, d9, l9, t9, l8, t8, za9, zc9, rfl, hk9⟩
          have CM := Lib.hid (show CopyM mm wr _ w9 from ⟨a9, c9, b9, d9, l9, t9, l8, t8, za9, zc9, rfl, hk9⟩)
          obtain ⟨_, _, _, _, _, hb9⟩ := hk9
          have y9 := mc_be hb9 (show Mc wr (w.heap.size + 1) (.slice none 0 0) (.slice none 0 0) (.slice none 0 0) zeroM from ⟨⟨r10, r11, r12⟩, ⟨r13, r14, r15⟩, r16, r17, r18⟩) (by omega)
          have fR9 : ∀ i, w9.frozen? ⟨w.heap.size + 1, i, none⟩ = false := fun i => (hb9.frozen (p := ⟨w.heap.size + 1, i, none⟩) (by show w.heap.size + 1 < _; omega)).trans (fR3 i)
          clear r10 r11 r12 r13 r14 r15 r16 r17 r18 hb9
          obtain ⟨⟨r10, r11, r12⟩, ⟨r13, r14, r15⟩, r16, r17, r18⟩ := y9
          go_wp2_with fail
          refine bodyPost_ret (v := .tuple #[.agg #[.slice a9 mm.ram.length c9, .slice b9 mm.rom.length d9, .int .i64 mm.bank, .int .i64 mm.a, .int .i64 mm.pc, .bool mm.carry, .slice za9 mm.back.length zc9, .bool mm.stop, .int .i64 mm.cyc], .int .i64 k]) (by simp [results, Try.results69, go_sem, r10, r11, r12, r13, r14, r15, r16, r17, r18, zeroM] <;> first | exact ⟨hpc, hst⟩ | exact hst) rfl ?_
          refine unt_of_made (made_of_copy CM.out (R := w.heap.size + 1) ?_ (by omega) (by omega) hB3.out) FI.out
          repeat (first | with_reducible exact two_refl _ _ _ | with_reducible refine two_setR ?_)
      · have hki : ¬ (k : Int) < 500 := by omega
        have FI := Lib.hid (hFin.out (contB_500 h500))
        have h3 := HM3.out
        obtain ⟨va, vc, rfl⟩ := ownV_shape h3.bk
        simp only [List.length_map] at h3 q6
        have M3 := Lib.hid h3
        have y3 := mc_be hX.out RX.out (by omega)
        have fR3 : ∀ i, wr.frozen? ⟨w.heap.size + 1, i, none⟩ = false := fun i => (hX.out.frozen (p := ⟨w.heap.size + 1, i, none⟩) (by show w.heap.size + 1 < _; omega)).trans (FX i)
        have hB3 : Hid (Below w.heap.size w wr) := BX.out.trans (hX.out.mono (by omega))
        have GZ := Lib.hid (good_sizes GK)
        generalize Mach.steps k m = mm at *
        obtain ⟨⟨r10, r11, r12⟩, ⟨r13, r14, r15⟩, r16, r17, r18⟩ := y3
        have hlw : w.heap.size + 1 < wr.heap.size := by have := M3.out.ltB; have := M3.out.mem.lB; omega
        obtain ⟨y1, y2, y3', y4⟩ := GZ.out
        have HV := M3.out.own.mach
        try rw [hst] at HV
        clear h3 hM hX hFin hG
        go_wp2_with fail
        refine (spec_l5Copy HV y1 y2 y3' y4).mono ?_
        rintro e w9 ⟨a9, c9, b9, d9, l9, t9, l8, t8, za9, zc9, rfl, hk9⟩
        have CM := Lib.hid (show CopyM mm wr _ w9 from ⟨a9, c9, b9, d9, l9, t9, l8, t8, za9, zc9, rfl, hk9⟩)
        obtain ⟨_, _, _, _, _, hb9⟩ := hk9
        have y9 := mc_be hb9 (show Mc wr (w.heap.size + 1) (.slice none 0 0) (.slice none 0 0) (.slice none 0 0) zeroM from ⟨⟨r10, r11, r12⟩, ⟨r13, r14, r15⟩, r16, r17, r18⟩) (by omega)
        have fR9 : ∀ i, w9.frozen? ⟨w.heap.size + 1, i, none⟩ = false := fun i => (hb9.frozen (p := ⟨w.heap.size + 1, i, none⟩) (by show w.heap.size + 1 < _; omega)).trans (fR3 i)
        clear r10 r11 r12 r13 r14 r15 r16 r17 r18 hb9
        obtain ⟨⟨r10, r11, r12⟩, ⟨r13, r14, r15⟩, r16, r17, r18⟩ := y9
        go_wp2_with fail
        refine bodyPost_ret (v := .tuple #[.agg #[.slice a9 mm.ram.length c9, .slice b9 mm.rom.length d9, .int .i64 mm.bank, .int .i64 mm.a, .int .i64 mm.pc, .bool mm.carry, .slice za9 mm.back.length zc9, .bool mm.stop, .int .i64 mm.cyc], .int .i64 k]) (by simp [results, Try.results69, go_sem, r10, r11, r12, r13, r14, r15, r16, r17, r18, zeroM] <;> first | exact ⟨hpc, hst⟩ | exact hst) rfl ?_
        refine unt_of_made (made_of_copy CM.out (R := w.heap.size + 1) ?_ (by omega) (by omega) hB3.out) FI.out
        repeat (first | with_reducible exact two_refl _ _ _ | with_reducible refine two_setR ?_)
end Go.Proofs.Ytpoiojknahmicaa
