/- The walks of MachineValid. No condition. -/
import Derived.Test.YtkkgolgmhckgoaaMachFns
namespace Go.Proofs.Ytkkgolgmhckgoaa
open Go.RowKit
set_option linter.unusedVariables false

def at_ (x : Int) : Bool := inR x 0 1023
set_option maxHeartbeats 2000000 in
theorem impl_machineFormed {B : Nat} {x y z : Value} {m : Mach} {w : World} (h : Mc w B x y z m) (hM : MemV w (.agg #[x, y, .int .i64 m.bank]) m.ram m.rom m.bank) (hI : Ints w z m.back) :
    Calls Try.prog 63 #[.pointer (some ⟨B, 0, none⟩)] w fun e w' => e = .returned (.bool (machF m)) ∧ Below w.heap.size w w' := by
  have HM := Lib.hid hM
  have TB := Lib.hid h
  obtain ⟨r, mm, b, a, p, k, back, s, cy⟩ := m
  obtain ⟨⟨c0, c1, c2⟩, ⟨c3, c4, c5⟩, c6, c7, c8⟩ := h
  obtain ⟨ac, cc, rfl, hl1, hl2⟩ := ints_shape hI
  obtain ⟨ab, hcells⟩ : ∃ _ : Unit, ∀ k, k < back.length → ∃ b off, ac = some ⟨b, off, none⟩ ∧ b < w.heap.size ∧ w.cell? ⟨b, off + k, none⟩ = some (.int .i64 (back.getD k 0)) := ⟨(), fun k hk => by
    obtain ⟨_, _, _, b, off, e, h1, h2⟩ := ints_at_ hI hk
    exact ⟨b, off, e, h1, h2⟩⟩
  dsimp only at *
  obtain ⟨a1, e1', b1, d1, e0, _, _, _, _⟩ := memV_shape hM
  simp only [Value.agg.injEq, Array.mk.injEq, List.cons.injEq, and_true] at e0
  obtain ⟨rfl, rfl⟩ := e0
  obtain ⟨n, hn⟩ : ∃ n, n = back.length := ⟨_, rfl⟩
  have N := Lib.hid hn
  have S := Lib.hid hcells
  rw [← hn] at hl1 c6 TB
  clear hn hcells hM hI
  go_enter Try.func63, Try.ntmps63
  go_wp2_with fail
  refine (impl_MemoryValid HM.out).mono ?_
  rintro e w1 ⟨rfl, hb1⟩
  have hB1 := Lib.hid hb1
  obtain ⟨⟨d0, d1', d2⟩, ⟨d3, d4, d5⟩, d6, d7, d8⟩ := mc_below hb1 TB.out
  cases e1 : memB r mm b
  · go_wp2_with fail
    go_ret
    exact ⟨ret_bool (by simp [machF, e1]), hB1.out⟩
  go_wp2_with fail
  refine (impl_isByte _ _).mono ?_
  rintro e w' ⟨rfl, rfl⟩
  cases e2 : byteB a
  · go_wp2_with fail
    go_ret
    exact ⟨ret_bool (by simp [machF, e2]), hB1.out⟩
  go_wp2_with fail
  refine (impl_within _ _ _ _).mono ?_
  rintro e w' ⟨rfl, rfl⟩
  cases e3 : inR p 0 1023
  · go_wp2_with fail
    go_ret
    exact ⟨ret_bool (by simp [machF, e3]), hB1.out⟩
  by_cases e4 : (8 : Int) < (n : Int)
  · have E : Hid (machF ⟨r, mm, b, a, p, k, back, s, cy⟩ = false) := by
      have : ¬ back.length ≤ 8 := by have := N.out; omega
      show _ = _
      simp [machF, this]
    go_wp2_with fail
    go_ret
    exact ⟨ret_bool E.out.symm, hB1.out⟩
  have A : Hid (machF ⟨r, mm, b, a, p, k, back, s, cy⟩ = back.all (fun x => inR x 0 1023)) := by
    have : back.length ≤ 8 := by have := N.out; omega
    show _ = _
    simp [machF, e1, e2, e3, this]
  go_wp2_with fail
  go_loop [40] (fun i => ∃ j : Nat, j ≤ n ∧ i = .int .i64 j ∧ Hid ((back.take j).all (fun x => inR x 0 1023) = true)) (fun i => n - (intOf i).toNat)
  case atStart => exact ⟨0, Nat.zero_le _, rfl, rfl⟩
  case round =>
    obtain ⟨j, hj, rfl, hT⟩ := hrel
    by_cases hlt : j < n
    · have hjl : j < back.length := by have := N.out; omega
      obtain ⟨b', off, rfl, hbl, hc⟩ := S.out j hjl
      have hji : (j : Int) < (n : Int) := by omega
      have hc1 := cell_be hb1 hc hbl
      have T1 : Hid (inR (back.getD j 0) 0 1023 = true → (back.take (j + 1)).all (fun x => inR x 0 1023) = true) := fun e => all_take_succ hjl (getD_some hjl) e hT.out
      have T2 : Hid (inR (back.getD j 0) 0 1023 = false → machF ⟨r, mm, b, a, p, k, back, s, cy⟩ = false) := fun e => A.out.trans (all_take_not (p := fun x => inR x 0 1023) hjl (getD_some hjl) e)
      generalize back.getD j 0 = q at *
      cases hx : inR q 0 1023
      · go_wp2_with (first | (go_at_call 61; refine (impl_within _ _ _ _).mono ?_; rintro e w' ⟨rfl, rfl⟩))
        go_ret
        exact ⟨ret_bool (T2.out hx).symm, hB1.out⟩
      · go_wp2_with (first | (go_at_call 61; refine (impl_within _ _ _ _).mono ?_; rintro e w' ⟨rfl, rfl⟩))
        go_round
        case rel => exact ⟨j + 1, by omega, by go_num, T1.out hx⟩
        case measure => simp [intOf]; omega
    · have hji : ¬ (j : Int) < (n : Int) := by omega
      have E : Hid (machF ⟨r, mm, b, a, p, k, back, s, cy⟩ = true) := by
        have e : j = back.length := by have := N.out; omega
        have := hT.out
        rw [e, List.take_length] at this
        exact A.out.trans this
      go_wp2_with fail
      go_ret
      exact ⟨ret_bool E.out.symm, hB1.out⟩
set_option maxHeartbeats 1000000 in
theorem impl_MachineValid {v : Value} {m : Mach} {w : World} (h : MachV w v m) : Calls Try.prog 21 #[v] w fun e w' => e = .returned (.bool (machB m)) ∧ Below w.heap.size w w' := by
  obtain ⟨a1, c1, b1, d1, f1, g1, rfl, _, _, _, _, _, _⟩ := machV_shape h
  obtain ⟨M1, I1⟩ := machV_parts h
  have HM := Lib.hid M1
  have HI := Lib.hid I1
  clear h M1 I1
  have E : Hid (∀ t u, machF m = t → inR m.cyc 0 1000000000 = u → machB m = (t && u)) := fun t u h1 h2 => by subst h1 h2; rfl
  have TB : Hid (Mc (w.alloc (.cells #[.slice a1 m.ram.length c1, .slice b1 m.rom.length d1, .int .i64 m.bank, .int .i64 m.a, .int .i64 m.pc, .bool m.carry, .slice f1 m.back.length g1, .bool m.stop, .int .i64 m.cyc] 39)) w.heap.size (.slice a1 m.ram.length c1) (.slice b1 m.rom.length d1) (.slice f1 m.back.length g1) m) := mc_lit rfl
  go_enter Try.func21, Try.ntmps21
  go_wp2_with fail
  refine (impl_machineFormed TB.out (HM.out.alloc _) (HI.out.alloc _)).mono ?_
  rintro e w1 ⟨rfl, hb1⟩
  have hB1 : Hid (Below w.heap.size w w1) := ((Below.refl _ _).alloc (Nat.le_refl _) _).trans (hb1.mono (by simp))
  obtain ⟨⟨d0, d1', d2⟩, ⟨d3, d4, d5⟩, d6, d7, d8⟩ := mc_below hb1 TB.out
  cases e1 : machF m
  · go_wp2_with fail
    go_ret
    exact ⟨ret_bool (by simp [machB, e1]), hB1.out⟩
  · go_wp2_with fail
    refine (impl_within _ _ _ _).mono ?_
    rintro e w' ⟨rfl, rfl⟩
    go_wp2_with fail
    go_ret
    exact ⟨ret_bool (by simp [machB, e1]), hB1.out⟩
set_option maxHeartbeats 2000000 in
theorem spec_MachineValid {v : Value} {m : Mach} {w : World} (h : MachV w v m) : Calls Try.prog 22 #[v] w fun e w' => e = .returned (.bool (machB m)) ∧ Below w.heap.size w w' := by
  obtain ⟨a1, c1, b1, d1, f1, g1, rfl, _, _, _, _, hl1, hl2⟩ := machV_shape h
  obtain ⟨M1, I1⟩ := machV_parts h
  obtain ⟨r, mm, b, a, p, k, back, s, cy⟩ := m
  dsimp only at *
  have HM := Lib.hid M1
  obtain ⟨ab, hcells⟩ : ∃ _ : Unit, ∀ k, k < back.length → ∃ b off, f1 = some ⟨b, off, none⟩ ∧ b < w.heap.size ∧ w.cell? ⟨b, off + k, none⟩ = some (.int .i64 (back.getD k 0)) := ⟨(), fun k hk => by
    obtain ⟨_, _, _, b, off, e, h1, h2⟩ := ints_at_ I1 hk
    exact ⟨b, off, e, h1, h2⟩⟩
  obtain ⟨n, hn⟩ : ∃ n, n = back.length := ⟨_, rfl⟩
  have N := Lib.hid hn
  have S := Lib.hid hcells
  rw [← hn] at hl1 ⊢
  clear hn hcells h M1 I1
  have hB0 : Hid (Below w.heap.size w (w.alloc (.cells #[.slice a1 r.length c1, .slice b1 mm.length d1, .int .i64 b, .int .i64 a, .int .i64 p, .bool k, .slice f1 n g1, .bool s, .int .i64 cy] 39))) := (Below.refl _ _).alloc (Nat.le_refl _) _
  go_enter Try.func22, Try.ntmps22
  go_wp2_with fail
  go_loop [3] (fun i => ∃ j : Nat, j ≤ n ∧ i = .int .i64 j ∧ Hid ((back.take j).all (fun x => inR x 0 1023) = true)) (fun i => n - (intOf i).toNat)
  case atStart => exact ⟨0, Nat.zero_le _, rfl, rfl⟩
  case round =>
    obtain ⟨j, hj, rfl, hT⟩ := hrel
    by_cases hlt : j < n
    · have hjl : j < back.length := by have := N.out; omega
      obtain ⟨b', off, rfl, hbl, hc⟩ := S.out j hjl
      have hji : (j : Int) < (n : Int) := by omega
      have hbn : b' ≠ w.heap.size := by omega
      have T1 : Hid (inR (back.getD j 0) 0 1023 = true → (back.take (j + 1)).all (fun x => inR x 0 1023) = true) := fun e => all_take_succ hjl (getD_some hjl) e hT.out
      have T2 : Hid (inR (back.getD j 0) 0 1023 = false → machB ⟨r, mm, b, a, p, k, back, s, cy⟩ = false) := fun e => by
        have := all_take_not (p := fun x => inR x 0 1023) hjl (getD_some hjl) e
        show _ = _
        simp [machB, machF, this]
      generalize back.getD j 0 = q at *
      cases hx : inR q 0 1023
      · go_wp2_with (first | (go_at_call 57; refine (spec_l1In _ _ _ _).mono ?_; rintro e w' ⟨rfl, rfl⟩))
        go_ret
        exact ⟨ret_bool (T2.out hx).symm, hB0.out⟩
      · go_wp2_with (first | (go_at_call 57; refine (spec_l1In _ _ _ _).mono ?_; rintro e w' ⟨rfl, rfl⟩))
        go_round
        case rel => exact ⟨j + 1, by omega, by go_num, T1.out hx⟩
        case measure => simp [intOf]; omega
    · have hji : ¬ (j : Int) < (n : Int) := by omega
      have A : Hid (machB ⟨r, mm, b, a, p, k, back, s, cy⟩ = (memB r mm b && byteB a && inR p 0 1023 && decide ((n : Int) ≤ 8) && inR cy 0 1000000000)) := by
        have e : j = back.length := by have := N.out; omega
        have h2 := hT.out
        rw [e, List.take_length] at h2
        have h3 := N.out
        show _ = _
        simp only [machB, machF, h2, Bool.and_true]
        rw [show decide (back.length ≤ 8) = decide ((n : Int) ≤ 8) by rw [decide_eq_decide]; omega]
      go_wp2_with fail
      refine (spec_MemoryValid (HM.out.below hB0.out)).mono ?_
      rintro e w1 ⟨rfl, hb1⟩
      have hB1 : Hid (Below w.heap.size w w1) := hB0.out.trans (hb1.mono (by simp))
      obtain ⟨⟨d0, d1', d2⟩, ⟨d3, d4, d5⟩, d6, d7, d8⟩ := mc_below hb1 (mc_lit (x := .slice a1 r.length c1) (y := .slice b1 mm.length d1) (z := .slice f1 n g1) (m := ⟨r, mm, b, a, p, k, back, s, cy⟩) (e := 39) (W := w) rfl)
      cases e1 : memB r mm b
      · go_wp2_with fail
        go_ret
        exact ⟨ret_bool (by rw [A.out, e1]; rfl), hB1.out⟩
      cases e2 : byteB a
      · go_wp2_with (first | (go_at_call 64; refine (spec_l1Byte _ _).mono ?_; rintro e w' ⟨rfl, rfl⟩))
        go_ret
        exact ⟨ret_bool (by rw [A.out, e1, e2]; rfl), hB1.out⟩
      cases e3 : inR p 0 1023
      · go_wp2_with (first | (go_at_call 64; refine (spec_l1Byte _ _).mono ?_; rintro e w' ⟨rfl, rfl⟩) | (go_at_call 57; refine (spec_l1In _ _ _ _).mono ?_; rintro e w' ⟨rfl, rfl⟩))
        go_ret
        exact ⟨ret_bool (by rw [A.out, e1, e2, e3]; rfl), hB1.out⟩
      cases e4 : decide ((n : Int) ≤ 8)
      · go_wp2_with (first | (go_at_call 64; refine (spec_l1Byte _ _).mono ?_; rintro e w' ⟨rfl, rfl⟩) | (go_at_call 57; refine (spec_l1In _ _ _ _).mono ?_; rintro e w' ⟨rfl, rfl⟩))
        go_ret
        exact ⟨ret_bool (by rw [A.out, e1, e2, e3, e4]; rfl), hB1.out⟩
      · go_wp2_with (first | (go_at_call 64; refine (spec_l1Byte _ _).mono ?_; rintro e w' ⟨rfl, rfl⟩) | (go_at_call 57; refine (spec_l1In _ _ _ _).mono ?_; rintro e w' ⟨rfl, rfl⟩))
        go_ret
        exact ⟨ret_bool (by rw [A.out, e1, e2, e3, e4]; rfl), hB1.out⟩
end Go.Proofs.Ytkkgolgmhckgoaa
