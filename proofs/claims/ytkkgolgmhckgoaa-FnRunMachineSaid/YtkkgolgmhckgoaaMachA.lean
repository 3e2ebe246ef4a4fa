/- Machines: their validity, equality, copies, steps and runs in the program, joined from seven texts. No condition. -/
import Derived.Test.YtkkgolgmhckgoaaMachFns
import Derived.Test.YtkkgolgmhckgoaaNewMemS
import Derived.Laws.Cover3
import Derived.Test.YtkkgolgmhckgoaaBranch
import Derived.Test.YtkkgolgmhckgoaaCopyFns
import Derived.Test.YtkkgolgmhckgoaaExec
import Derived.Test.YtkkgolgmhckgoaaDecode
section
/- The walks of MachineValid. No condition. -/
namespace Go.Proofs.Ytkkgolgmhckgoaa
open Go.RowKit
set_option linter.unusedVariables false

def at_ (x : Int) : Bool := inR x 0 1023
set_option maxHeartbeats 2000000 in
theorem impl_machineFormed {B : Nat} {x y z : Value} {m : Mach} {w : World} (h : Mc w B x y z m) (hM : MemV w (.agg #[x, y, .int .i64 m.bank]) m.ram m.rom m.bank) (hI : Ints w z m.back) :
    Calls Try.prog 63 #[.pointer (some ⟨B, 0, none⟩)] w fun e w' => e = .returned (.bool (machF m)) ∧ Below w.heap.size w w' := by
  have HM := Lib.hid hM
  have TB := Lib.hid h
  obtain ⟨r, mm, b, a, p, k, back, s, cy⟩ := m
  obtain ⟨⟨c0, c1, c2⟩, ⟨c3, c4, c5⟩, c6, c7, c8⟩ := h
  obtain ⟨ac, cc, rfl, hl1, hl2⟩ := ints_shape hI
  obtain ⟨ab, hcells⟩ : ∃ _ : Unit, ∀ k, k < back.length → ∃ b off, ac = some ⟨b, off, none⟩ ∧ b < w.heap.size ∧ w.cell? ⟨b, off + k, none⟩ = some (.int .i64 (back.getD k 0)) := ⟨(), fun k hk => by
    obtain ⟨_, _, _, b, off, e, h1, h2⟩ := ints_at_ hI hk
    exact ⟨b, off, e, h1, h2⟩⟩
  dsimp only at *
  obtain ⟨a1, e1', b1, d1, e0, _, _, _, _⟩ := memV_shape hM
  simp only [Value.agg.injEq, Array.mk.injEq, List.cons.injEq, and_true] at e0
  obtain ⟨rfl, rfl⟩ := e0
  obtain ⟨n, hn⟩ : ∃ n, n = back.length := ⟨_, rfl⟩
  have N := Lib.hid hn
  have S := Lib.hid hcells
  rw [← hn] at hl1 c6 TB
  clear hn hcells hM hI
  go_enter Try.func63, Try.ntmps63
  go_wp2_with fail
  refine (impl_MemoryValid HM.out).mono ?_
  rintro e w1 ⟨rfl, hb1⟩
  have hB1 := Lib.hid hb1
  obtain ⟨⟨d0, d1', d2⟩, ⟨d3, d4, d5⟩, d6, d7, d8⟩ := mc_below hb1 TB.out
  cases e1 : memB r mm b
  · go_wp2_with fail
    go_ret
    exact ⟨ret_bool (by simp [machF, e1]), hB1.out⟩
  go_wp2_with fail
  refine (impl_isByte _ _).mono ?_
  rintro e w' ⟨rfl, rfl⟩
  cases e2 : byteB a
  · go_wp2_with fail
    go_ret
    exact ⟨ret_bool (by simp [machF, e2]), hB1.out⟩
  go_wp2_with fail
  refine (impl_within _ _ _ _).mono ?_
  rintro e w' ⟨rfl, rfl⟩
  cases e3 : inR p 0 1023
  · go_wp2_with fail
    go_ret
    exact ⟨ret_bool (by simp [machF, e3]), hB1.out⟩
  by_cases e4 : (8 : Int) < (n : Int)
  · have E : Hid (machF ⟨r, mm, b, a, p, k, back, s, cy⟩ = false) := by
      have : ¬ back.length ≤ 8 := by have := N.out; omega
      show _ = _
      simp [machF, this]
    go_wp2_with fail
    go_ret
    exact ⟨ret_bool E.out.symm, hB1.out⟩
  have A : Hid (machF ⟨r, mm, b, a, p, k, back, s, cy⟩ = back.all (fun x => inR x 0 1023)) := by
    have : back.length ≤ 8 := by have := N.out; omega
    show _ = _
    simp [machF, e1, e2, e3, this]
  go_wp2_with fail
  go_loop [40] (fun i => ∃ j : Nat, j ≤ n ∧ i = .int .i64 j ∧ Hid ((back.take j).all (fun x => inR x 0 1023) = true)) (fun i => n - (intOf i).toNat)
  case atStart => exact ⟨0, Nat.zero_le _, rfl, rfl⟩
  case round =>
    obtain ⟨j, hj, rfl, hT⟩ := hrel
    by_cases hlt : j < n
    · have hjl : j < back.length := by have := N.out; omega
      obtain ⟨b', off, rfl, hbl, hc⟩ := S.out j hjl
      have hji : (j : Int) < (n : Int) := by omega
      have hc1 := cell_be hb1 hc hbl
      have T1 : Hid (inR (back.getD j 0) 0 1023 = true → (back.take (j + 1)).all (fun x => inR x 0 1023) = true) := fun e => all_take_succ hjl (getD_some hjl) e hT.out
      have T2 : Hid (inR (back.getD j 0) 0 1023 = false → machF ⟨r, mm, b, a, p, k, back, s, cy⟩ = false) := fun e => A.out.trans (all_take_not (p := fun x => inR x 0 1023) hjl (getD_some hjl) e)
      generalize back.getD j 0 = q at *
      cases hx : inR q 0 1023
      · go_wp2_with (first | (go_at_call 61; refine (impl_within _ _ _ _).mono ?_; rintro e w' ⟨rfl, rfl⟩))
        go_ret
        exact ⟨ret_bool (T2.out hx).symm, hB1.out⟩
      · go_wp2_with (first | (go_at_call 61; refine (impl_within _ _ _ _).mono ?_; rintro e w' ⟨rfl, rfl⟩))
        go_round
        case rel => exact ⟨j + 1, by omega, by go_num, T1.out hx⟩
        case measure => simp [intOf]; omega
    · have hji : ¬ (j : Int) < (n : Int) := by omega
      have E : Hid (machF ⟨r, mm, b, a, p, k, back, s, cy⟩ = true) := by
        have e : j = back.length := by have := N.out; omega
        have := hT.out
        rw [e, List.take_length] at this
        exact A.out.trans this
      go_wp2_with fail
      go_ret
      exact ⟨ret_bool E.out.symm, hB1.out⟩
set_option maxHeartbeats 1000000 in
theorem impl_MachineValid {v : Value} {m : Mach} {w : World} (h : MachV w v m) : Calls Try.prog 21 #[v] w fun e w' => e = .returned (.bool (machB m)) ∧ Below w.heap.size w w' := by
  obtain ⟨a1, c1, b1, d1, f1, g1, rfl, _, _, _, _, _, _⟩ := machV_shape h
  obtain ⟨M1, I1⟩ := machV_parts h
  have HM := Lib.hid M1
  have HI := Lib.hid I1
  clear h M1 I1
  have E : Hid (∀ t u, machF m = t → inR m.cyc 0 1000000000 = u → machB m = (t && u)) := fun t u h1 h2 => by subst h1 h2; rfl
  have TB : Hid (Mc (w.alloc (.cells #[.slice a1 m.ram.length c1, .slice b1 m.rom.length d1, .int .i64 m.bank, .int .i64 m.a, .int .i64 m.pc, .bool m.carry, .slice f1 m.back.length g1, .bool m.stop, .int .i64 m.cyc] 39)) w.heap.size (.slice a1 m.ram.length c1) (.slice b1 m.rom.length d1) (.slice f1 m.back.length g1) m) := mc_lit rfl
  go_enter Try.func21, Try.ntmps21
  go_wp2_with fail
  refine (impl_machineFormed TB.out (HM.out.alloc _) (HI.out.alloc _)).mono ?_
  rintro e w1 ⟨rfl, hb1⟩
  have hB1 : Hid (Below w.heap.size w w1) := ((Below.refl _ _).alloc (Nat.le_refl _) _).trans (hb1.mono (by simp))
  obtain ⟨⟨d0, d1', d2⟩, ⟨d3, d4, d5⟩, d6, d7, d8⟩ := mc_below hb1 TB.out
  cases e1 : machF m
  · go_wp2_with fail
    go_ret
    exact ⟨ret_bool (by simp [machB, e1]), hB1.out⟩
  · go_wp2_with fail
    refine (impl_within _ _ _ _).mono ?_
    rintro e w' ⟨rfl, rfl⟩
    go_wp2_with fail
    go_ret
    exact ⟨ret_bool (by simp [machB, e1]), hB1.out⟩
set_option maxHeartbeats 2000000 in
theorem spec_MachineValid {v : Value} {m : Mach} {w : World} (h : MachV w v m) : Calls Try.prog 22 #[v] w fun e w' => e = .returned (.bool (machB m)) ∧ Below w.heap.size w w' := by
  obtain ⟨a1, c1, b1, d1, f1, g1, rfl, _, _, _, _, hl1, hl2⟩ := machV_shape h
  obtain ⟨M1, I1⟩ := machV_parts h
  obtain ⟨r, mm, b, a, p, k, back, s, cy⟩ := m
  dsimp only at *
  have HM := Lib.hid M1
  obtain ⟨ab, hcells⟩ : ∃ _ : Unit, ∀ k, k < back.length → ∃ b off, f1 = some ⟨b, off, none⟩ ∧ b < w.heap.size ∧ w.cell? ⟨b, off + k, none⟩ = some (.int .i64 (back.getD k 0)) := ⟨(), fun k hk => by
    obtain ⟨_, _, _, b, off, e, h1, h2⟩ := ints_at_ I1 hk
    exact ⟨b, off, e, h1, h2⟩⟩
  obtain ⟨n, hn⟩ : ∃ n, n = back.length := ⟨_, rfl⟩
  have N := Lib.hid hn
  have S := Lib.hid hcells
  rw [← hn] at hl1 ⊢
  clear hn hcells h M1 I1
  have hB0 : Hid (Below w.heap.size w (w.alloc (.cells #[.slice a1 r.length c1, .slice b1 mm.length d1, .int .i64 b, .int .i64 a, .int .i64 p, .bool k, .slice f1 n g1, .bool s, .int .i64 cy] 39))) := (Below.refl _ _).alloc (Nat.le_refl _) _
  go_enter Try.func22, Try.ntmps22
  go_wp2_with fail
  go_loop [3] (fun i => ∃ j : Nat, j ≤ n ∧ i = .int .i64 j ∧ Hid ((back.take j).all (fun x => inR x 0 1023) = true)) (fun i => n - (intOf i).toNat)
  case atStart => exact ⟨0, Nat.zero_le _, rfl, rfl⟩
  case round =>
    obtain ⟨j, hj, rfl, hT⟩ := hrel
    by_cases hlt : j < n
    · have hjl : j < back.length := by have := N.out; omega
      obtain ⟨b', off, rfl, hbl, hc⟩ := S.out j hjl
      have hji : (j : Int) < (n : Int) := by omega
      have hbn : b' ≠ w.heap.size := by omega
      have T1 : Hid (inR (back.getD j 0) 0 1023 = true → (back.take (j + 1)).all (fun x => inR x 0 1023) = true) := fun e => all_take_succ hjl (getD_some hjl) e hT.out
      have T2 : Hid (inR (back.getD j 0) 0 1023 = false → machB ⟨r, mm, b, a, p, k, back, s, cy⟩ = false) := fun e => by
        have := all_take_not (p := fun x => inR x 0 1023) hjl (getD_some hjl) e
        show _ = _
        simp [machB, machF, this]
      generalize back.getD j 0 = q at *
      cases hx : inR q 0 1023
      · go_wp2_with (first | (go_at_call 57; refine (spec_l1In _ _ _ _).mono ?_; rintro e w' ⟨rfl, rfl⟩))
        go_ret
        exact ⟨ret_bool (T2.out hx).symm, hB0.out⟩
      · go_wp2_with (first | (go_at_call 57; refine (spec_l1In _ _ _ _).mono ?_; rintro e w' ⟨rfl, rfl⟩))
        go_round
        case rel => exact ⟨j + 1, by omega, by go_num, T1.out hx⟩
        case measure => simp [intOf]; omega
    · have hji : ¬ (j : Int) < (n : Int) := by omega
      have A : Hid (machB ⟨r, mm, b, a, p, k, back, s, cy⟩ = (memB r mm b && byteB a && inR p 0 1023 && decide ((n : Int) ≤ 8) && inR cy 0 1000000000)) := by
        have e : j = back.length := by have := N.out; omega
        have h2 := hT.out
        rw [e, List.take_length] at h2
        have h3 := N.out
        show _ = _
        simp only [machB, machF, h2, Bool.and_true]
        rw [show decide (back.length ≤ 8) = decide ((n : Int) ≤ 8) by rw [decide_eq_decide]; omega]
      go_wp2_with fail
      refine (spec_MemoryValid (HM.out.below hB0.out)).mono ?_
      rintro e w1 ⟨rfl, hb1⟩
      have hB1 : Hid (Below w.heap.size w w1) := hB0.out.trans (hb1.mono (by simp))
      obtain ⟨⟨d0, d1', d2⟩, ⟨d3, d4, d5⟩, d6, d7, d8⟩ := mc_below hb1 (mc_lit (x := .slice a1 r.length c1) (y := .slice b1 mm.length d1) (z := .slice f1 n g1) (m := ⟨r, mm, b, a, p, k, back, s, cy⟩) (e := 39) (W := w) rfl)
      cases e1 : memB r mm b
      · go_wp2_with fail
        go_ret
        exact ⟨ret_bool (by rw [A.out, e1]; rfl), hB1.out⟩
      cases e2 : byteB a
      · go_wp2_with (first | (go_at_call 64; refine (spec_l1Byte _ _).mono ?_; rintro e w' ⟨rfl, rfl⟩))
        go_ret
        exact ⟨ret_bool (by rw [A.out, e1, e2]; rfl), hB1.out⟩
      cases e3 : inR p 0 1023
      · go_wp2_with (first | (go_at_call 64; refine (spec_l1Byte _ _).mono ?_; rintro e w' ⟨rfl, rfl⟩) | (go_at_call 57; refine (spec_l1In _ _ _ _).mono ?_; rintro e w' ⟨rfl, rfl⟩))
        go_ret
        exact ⟨ret_bool (by rw [A.out, e1, e2, e3]; rfl), hB1.out⟩
      cases e4 : decide ((n : Int) ≤ 8)
      · go_wp2_with (first | (go_at_call 64; refine (spec_l1Byte _ _).mono ?_; rintro e w' ⟨rfl, rfl⟩) | (go_at_call 57; refine (spec_l1In _ _ _ _).mono ?_; rintro e w' ⟨rfl, rfl⟩))
        go_ret
        exact ⟨ret_bool (by rw [A.out, e1, e2, e3, e4]; rfl), hB1.out⟩
      · go_wp2_with (first | (go_at_call 64; refine (spec_l1Byte _ _).mono ?_; rintro e w' ⟨rfl, rfl⟩) | (go_at_call 57; refine (spec_l1In _ _ _ _).mono ?_; rintro e w' ⟨rfl, rfl⟩))
        go_ret
        exact ⟨ret_bool (by rw [A.out, e1, e2, e3, e4]; rfl), hB1.out⟩
end Go.Proofs.Ytkkgolgmhckgoaa
end

section
/- The walks of NewMachine. No condition. -/
namespace Go.Proofs.Ytkkgolgmhckgoaa
open Go.RowKit
set_option linter.unusedVariables false

/-- What NewMachine answers. -/
def newM (rom : List (List Int)) : Mach := if nwOk rom then ⟨zeros, rom, 0, 0, 512, false, [], false, 0⟩ else zeroM
theorem newM_no {rom : List (List Int)} (h : nwOk rom = false) : newM rom = zeroM := by simp [newM, h]
theorem newM_yes {rom : List (List Int)} (h : nwOk rom = true) : newM rom = ⟨zeros, rom, 0, 0, 512, false, [], false, 0⟩ := by simp [newM, h]
theorem ownMach_zero {lo hi : Nat} {w : World} (h : lo ≤ hi) : OwnMach lo hi w (.agg #[.slice none 0 0, .slice none 0 0, .int .i64 0, .int .i64 0, .int .i64 0, .bool false, .slice none 0 0, .bool false, .int .i64 0]) zeroM :=
  ⟨_, _, _, lo, rfl, Nat.le_refl _, h, ownMem_zero (Nat.le_refl _), own_nilV _ _ _⟩
theorem ownMach_new {lo hi : Nat} {w : World} {x y : Value} {rom : List (List Int)} (h : OwnMem lo hi w (.agg #[x, y, .int .i64 0]) zeros rom 0) (h0 : lo ≤ hi) : OwnMach lo hi w (.agg #[x, y, .int .i64 0, .int .i64 0, .int .i64 512, .bool false, .slice none 0 0, .bool false, .int .i64 0]) ⟨zeros, rom, 0, 0, 512, false, [], false, 0⟩ :=
  ⟨_, _, _, hi, rfl, h0, Nat.le_refl _, h, own_nilV _ _ _⟩
theorem madeMach_of {m m' : Mach} {w : World} {e : Ending} {w' : World} (h : MadeMach m w e w') (h1 : m = m') : MadeMach m' w e w' := h1 ▸ h
theorem frozen_new (W : World) (cs : Array Value) (e : TypeId) (i : Nat) : (W.alloc (.cells cs e)).frozen? ⟨W.heap.size, i, none⟩ = false := by simp [go_sem]
theorem frozen_from {W w1 w2 : World} {cs : Array Value} {e : TypeId} {o : Obj} (h1 : Below (W.alloc (.cells cs e)).heap.size (W.alloc (.cells cs e)) w1) (h2 : Below (w1.alloc o).heap.size (w1.alloc o) w2) : ∀ i, w2.frozen? ⟨W.heap.size, i, none⟩ = false := fun i => by
  have hs := h1.size
  have hb : Below (W.alloc (.cells cs e)).heap.size (W.alloc (.cells cs e)) w2 := (h1.alloc hs o).trans (h2.mono (by simp at hs ⊢; omega))
  exact (hb.frozen (p := ⟨W.heap.size, i, none⟩) (by simp)).trans (frozen_new W cs e i)
theorem eql_nil (W : World) (a : Option Addr) (l c : Nat) : (binOp .eql 23 (.slice a l c) (.slice none 0 0)).run Try.prog W = .ok (.bool a.isNone) W := by
  unfold binOp
  simp [run_equal_slice_nil W 23 3 a l c Try.underlying23]
set_option maxHeartbeats 1000000 in
set_option maxRecDepth 20000 in
theorem impl_NewMachine {v : Value} {rom : List (List Int)} {w : World} (h : Mat w v rom) (z2 : rom.length ≤ 1048576) (z3 : sumLen rom ≤ 1048576) : Calls Try.prog 43 #[v] w (MadeMach (newM rom) w) := by
  have H := Lib.hid h
  obtain ⟨a, c, rfl, k1, k2⟩ := mat_shape h
  clear h
  have tR0 : Mc (w.alloc (.cells #[.slice none 0 0, .slice none 0 0, .int .i64 0, .int .i64 0, .int .i64 0, .bool false, .slice none 0 0, .bool false, .int .i64 0] 39)) w.heap.size (.slice none 0 0) (.slice none 0 0) (.slice none 0 0) zeroM := mc_zero rfl
  have hq := eql_nil
  go_enter Try.func43, Try.ntmps43
  go_wp2_with fail
  refine (impl_NewMemoryZ (H.out.alloc _) (by omega) (by omega)).mono ?_
  rintro e w1 ⟨v1, rfl, o1, hb1, hz1⟩
  have HZ := Lib.hid hz1
  clear hz1
  have tR1 := mc_below hb1 tR0
  have hB1 : Hid (Below w.heap.size w w1) := ((Below.refl _ _).alloc (Nat.le_refl _) _).trans (hb1.mono (by simp))
  have O1 := Lib.hid o1
  have hs1 : w.heap.size + 1 ≤ w1.heap.size := Nat.le_trans (by simp) hb1.size
  obtain ⟨a1, c1, b1, d1, rfl, _, _, _, _⟩ := memV_shape O1.out.mem
  clear o1 tR0
  have tM := three_lit (W := w1) (x := .slice a1 (nwR rom).length c1) (y := .slice b1 (nwM rom).length d1) (z := .int .i64 0) (e := 37) rfl
  have hM2 := Lib.hid (O1.out.mem.alloc (.cells #[.slice a1 (nwR rom).length c1, .slice b1 (nwM rom).length d1, .int .i64 0] 37))
  have hX : Hid (∀ t, nwOk rom = t → memB (nwR rom) (nwM rom) 0 = t) := by
    intro t ht
    cases t
    · have e1 : nwR rom = [] := by simp [nwR, ht]
      have e2 : nwM rom = [] := by simp [nwM, ht]
      rw [e1, e2]; rfl
    · have e1 : nwR rom = zeros := by simp [nwR, ht]
      have e2 : nwM rom = rom := by simp [nwM, ht]
      rw [e1, e2]; exact ht
  have TR := Lib.hid (mc_alloc (.cells #[.slice a1 (nwR rom).length c1, .slice b1 (nwM rom).length d1, .int .i64 0] 37) tR1)
  have hFin : Hid (nwOk rom = true → (OwnMem (w.alloc (.cells #[.slice none 0 0, .slice none 0 0, .int .i64 0, .int .i64 0, .int .i64 0, .bool false, .slice none 0 0, .bool false, .int .i64 0] 39)).heap.size w1.heap.size w1 (.agg #[.slice a1 (nwR rom).length c1, .slice b1 (nwM rom).length d1, .int .i64 0]) zeros rom 0)) := fun ht => by
    have e1 : nwR rom = zeros := by simp [nwR, ht]
    have e2 : nwM rom = rom := by simp [nwM, ht]
    have := O1.out
    rw [e1, e2] at this ⊢
    exact this
  have hlt : w.heap.size < w1.heap.size := by omega
  have hF2 : ∀ i, (w1.alloc (.cells #[.slice a1 (nwR rom).length c1, .slice b1 (nwM rom).length d1, .int .i64 0] 37)).frozen? ⟨w.heap.size, i, none⟩ = false := fun i => (((Below.refl w1.heap.size w1).alloc (Nat.le_refl _) _).frozen (p := ⟨w.heap.size, i, none⟩) hlt).trans ((hb1.frozen (p := ⟨w.heap.size, i, none⟩) (by simp)).trans (frozen_new w _ 39 i))
  have hB2 : Hid (Below w.heap.size w (w1.alloc (.cells #[.slice a1 (nwR rom).length c1, .slice b1 (nwM rom).length d1, .int .i64 0] 37))) := hB1.out.alloc hB1.out.size _
  have hFin2 : Hid (nwOk rom = true → OwnMem (w.heap.size + 1) w1.heap.size (w1.alloc (.cells #[.slice a1 (nwR rom).length c1, .slice b1 (nwM rom).length d1, .int .i64 0] 37)) (.agg #[.slice a1 (nwR rom).length c1, .slice b1 (nwM rom).length d1, .int .i64 0]) zeros rom 0) := fun ht => ((hFin.out ht).wide (by simp) (Nat.le_refl _)).agree ((Agree.refl _ _ _).alloc (Nat.le_refl _) _)
  have hsz : (w1.alloc (.cells #[.slice a1 (nwR rom).length c1, .slice b1 (nwM rom).length d1, .int .i64 0] 37)).heap.size = w1.heap.size + 1 := by simp
  have hTR := TR.out
  clear hFin hM2 hX tR1 hb1 TR
  go_upto_region 2 with fail
  generalize (w1.alloc (.cells #[.slice a1 (nwR rom).length c1, .slice b1 (nwM rom).length d1, .int .i64 0] 37)) = W2 at *
  obtain ⟨⟨r0, r1, r2⟩, ⟨r3, r4, r5⟩, r6, r7, r8⟩ := hTR
  obtain ⟨t0, t1, t2⟩ := tM
  cases hok : nwOk rom
  · have hN := Lib.hid (newM_no hok)
    have hz := HZ.out hok
    simp only [Value.agg.injEq, Array.mk.injEq, List.cons.injEq, and_true, Value.slice.injEq] at hz
    obtain ⟨⟨rfl, hz1, rfl⟩, rfl, hz2, rfl⟩ := hz
    clear hz1 hz2 hFin2 HZ hsz
    generalize (nwR rom).length = R at *
    generalize (nwM rom).length = M at *
    go_wp2_with fail
    refine bodyPost_ret (v := .agg #[.slice none 0 0, .slice none 0 0, .int .i64 0, .int .i64 0, .int .i64 0, .bool false, .slice none 0 0, .bool false, .int .i64 0]) (by simp [results, Try.results43, go_sem, r0, r1, r2, r3, r4, r5, r6, r7, r8, zeroM]) rfl ⟨_, rfl, (by rw [hN.out]; exact ownMach_zero (by simp only [size_set]; exact hB2.out.size)), ?_⟩
    repeat (with_reducible refine Below.setCell ?_ (by show w.heap.size ≤ w.heap.size; omega) _)
    exact hB2.out
  · have hN := Lib.hid (newM_yes hok)
    have F := Lib.hid (hFin2.out hok)
    obtain ⟨hxi, _⟩ := memV_parts F.out.mem
    obtain ⟨hRl, hRc, _, bb, oo, rfl, _, _⟩ := ints_at_ hxi (k := 0) (by rw [zeros_len]; omega)
    clear hxi hFin2 HZ hRl hRc
    generalize (nwR rom).length = R at *
    generalize (nwM rom).length = M at *
    have HS := Lib.hid hsz
    clear hsz
    go_wp2_with fail
    refine bodyPost_ret (v := .agg #[.slice (some ⟨bb, oo, none⟩) R c1, .slice b1 M d1, .int .i64 0, .int .i64 0, .int .i64 512, .bool false, .slice none 0 0, .bool false, .int .i64 0]) (by simp [results, Try.results43, go_sem, r0, r1, r2, r3, r4, r5, r6, r7, r8, zeroM]) rfl ⟨_, rfl, ?_, ?_⟩
    · rw [hN.out]
      refine (ownMach_new (F.out.agree (by (repeat (first | assumption | with_reducible exact Agree.refl _ _ _ | with_reducible refine agree_below (by assumption) ?_ (by first | omega | go_size) | with_reducible refine agree_within (by assumption) ?_ (by first | omega | go_size) (by omega) | with_reducible refine Agree.alloc ?_ (by first | omega | go_size) _ | with_reducible refine Agree.setCell ?_ (by first | omega | (dsimp only; omega)) _ | with_reducible refine Agree.drew ?_)))) (by omega)).wide (by omega) (by have := HS.out; simp only [size_set]; omega)
    · repeat (with_reducible refine Below.setCell ?_ (by show w.heap.size ≤ w.heap.size; omega) _)
      exact hB2.out
end Go.Proofs.Ytkkgolgmhckgoaa
end

section
/- The walks of the functions that compare memories and machines, at equal ones. No condition. -/
namespace Go.Proofs.Ytkkgolgmhckgoaa
open Go.RowKit
set_option linter.unusedVariables false

theorem calls_at {P : Program} {f : FuncId} {args : Array Value} {w : World} {b b' : Bool} {R : World → Prop} (h : Calls P f args w fun e w' => e = .returned (.bool b) ∧ R w') (hb : b = b') : Calls P f args w fun e w' => e = .returned (.bool b') ∧ R w' := hb ▸ h
theorem sameRows_b {v u : Value} {xs ys : List (List Int)} {w : World} (h : Mat w v xs) (g : Mat w u ys) : Calls Try.prog 34 #[v, u] w fun e w' => e = .returned (.bool (xs == ys)) ∧ Below w.heap.size w w' := (laws_sameRows h g).mono fun _ _ ⟨he, q⟩ => ⟨he, q.below⟩
set_option maxHeartbeats 1000000 in
theorem laws_sameMemory {v u : Value} {ram : List Int} {rom : List (List Int)} {bank : Int} {w : World} (h : MemV w v ram rom bank) (g : MemV w u ram rom bank) :
    Calls Try.prog 26 #[v, u] w fun e w' => e = .returned (.bool true) ∧ Below w.heap.size w w' := by
  obtain ⟨a1, c1, b1, d1, rfl, _, _, _, _⟩ := memV_shape h
  obtain ⟨a2, c2, b2, d2, rfl, _, _, _, _⟩ := memV_shape g
  obtain ⟨i1, m1⟩ := memV_parts h
  obtain ⟨i2, m2⟩ := memV_parts g
  have I1 := Lib.hid i1
  have I2 := Lib.hid i2
  have M1 := Lib.hid m1
  have M2 := Lib.hid m2
  have e1 : (ram == ram) = true := by simp
  have e2 : (rom == rom) = true := by simp
  clear h g i1 i2 m1 m2
  go_enter Try.func26, Try.ntmps26
  go_wp2_with fail
  refine (calls_at (sameInts_b (I1.out.below (by go_grown)) (I2.out.below (by go_grown))) e1).mono ?_
  rintro e w1 ⟨rfl, hb1⟩
  obtain ⟨hc1, hf1⟩ := bcell hb1
  have hs1 : w.heap.size + 2 ≤ w1.heap.size := Nat.le_trans (by go_size) hb1.size
  have z1_0 : w.heap.size < w1.heap.size := Nat.lt_of_lt_of_le (by go_size) hb1.size
  have z1_1 : w.heap.size + 1 < w1.heap.size := Nat.lt_of_lt_of_le (by go_size) hb1.size
  have hB1 : Hid (Below w.heap.size w w1) := below_via hb1 (by repeat (first | with_reducible exact Below.refl _ _ | with_reducible refine below_via (by assumption) ?_ (by go_size) | with_reducible refine below_within (by assumption) ?_ (by go_size) (by omega) | with_reducible refine Below.alloc ?_ (by go_size) _ | with_reducible refine Below.setCell ?_ (by go_size) _ | with_reducible refine Below.drew ?_)) (by go_size)
  go_wp2_with fail
  refine (calls_at (sameRows_b (M1.out.below hB1.out) (M2.out.below hB1.out)) e2).mono ?_
  rintro e w2 ⟨rfl, hb2⟩
  obtain ⟨hc2, hf2⟩ := bcell hb2
  have hs2 : w1.heap.size + 0 ≤ w2.heap.size := Nat.le_trans (by go_size) hb2.size
  have z2_0 : w.heap.size < w2.heap.size := Nat.lt_of_lt_of_le (by go_size) hb2.size
  have z2_1 : w.heap.size + 1 < w2.heap.size := Nat.lt_of_lt_of_le (by go_size) hb2.size
  have hB2 : Hid (Below w.heap.size w w2) := below_via hb2 (by repeat (first | with_reducible exact Below.refl _ _ | with_reducible refine below_via (by assumption) ?_ (by go_size) | with_reducible refine below_within (by assumption) ?_ (by go_size) (by omega) | with_reducible refine Below.alloc ?_ (by go_size) _ | with_reducible refine Below.setCell ?_ (by go_size) _ | with_reducible refine Below.drew ?_)) (by go_size)
  go_wp2_with fail
  go_ret
  exact ⟨rfl, hB2.out⟩
set_option maxHeartbeats 1000000 in
theorem laws_sameMachine {v u : Value} {m : Mach} {w : World} (h : MachV w v m) (g : MachV w u m) :
    Calls Try.prog 37 #[v, u] w fun e w' => e = .returned (.bool true) ∧ Below w.heap.size w w' := by
  obtain ⟨r, mm, b, a, p, k, back, s, cy⟩ := m
  obtain ⟨a1, c1, b1, d1, f1, g1, rfl, _, _, _, _, _, _⟩ := machV_shape h
  obtain ⟨a2, c2, b2, d2, f2, g2, rfl, _, _, _, _, _, _⟩ := machV_shape g
  obtain ⟨m1, i1⟩ := machV_parts h
  obtain ⟨m2, i2⟩ := machV_parts g
  dsimp only at *
  have M1 := Lib.hid m1
  have M2 := Lib.hid m2
  have I1 := Lib.hid i1
  have I2 := Lib.hid i2
  have e1 : (back == back) = true := by simp
  clear h g m1 m2 i1 i2
  go_enter Try.func37, Try.ntmps37
  go_wp2_with fail
  refine (laws_sameMemory (M1.out.below (by go_grown)) (M2.out.below (by go_grown))).mono ?_
  rintro e w1 ⟨rfl, hb1⟩
  obtain ⟨hc1, hf1⟩ := bcell hb1
  have hs1 : w.heap.size + 2 ≤ w1.heap.size := Nat.le_trans (by go_size) hb1.size
  have z1_0 : w.heap.size < w1.heap.size := Nat.lt_of_lt_of_le (by go_size) hb1.size
  have z1_1 : w.heap.size + 1 < w1.heap.size := Nat.lt_of_lt_of_le (by go_size) hb1.size
  have hB1 : Hid (Below w.heap.size w w1) := below_via hb1 (by repeat (first | with_reducible exact Below.refl _ _ | with_reducible refine below_via (by assumption) ?_ (by go_size) | with_reducible refine below_within (by assumption) ?_ (by go_size) (by omega) | with_reducible refine Below.alloc ?_ (by go_size) _ | with_reducible refine Below.setCell ?_ (by go_size) _ | with_reducible refine Below.drew ?_)) (by go_size)
  go_wp2_with fail
  refine (calls_at (sameInts_b (I1.out.below hB1.out) (I2.out.below hB1.out)) e1).mono ?_
  rintro e w2 ⟨rfl, hb2⟩
  obtain ⟨hc2, hf2⟩ := bcell hb2
  have hs2 : w1.heap.size + 0 ≤ w2.heap.size := Nat.le_trans (by go_size) hb2.size
  have z2_0 : w.heap.size < w2.heap.size := Nat.lt_of_lt_of_le (by go_size) hb2.size
  have z2_1 : w.heap.size + 1 < w2.heap.size := Nat.lt_of_lt_of_le (by go_size) hb2.size
  have hB2 : Hid (Below w.heap.size w w2) := below_via hb2 (by repeat (first | with_reducible exact Below.refl _ _ | with_reducible refine below_via (by assumption) ?_ (by go_size) | with_reducible refine below_within (by assumption) ?_ (by go_size) (by omega) | with_reducible refine Below.alloc ?_ (by go_size) _ | with_reducible refine Below.setCell ?_ (by go_size) _ | with_reducible refine Below.drew ?_)) (by go_size)
  go_wp2_with fail
  go_ret
  exact ⟨rfl, hB2.out⟩
end Go.Proofs.Ytkkgolgmhckgoaa
end

section
/- The walk of impl.copyMachine: the copy is of the call's own. No condition. -/
namespace Go.Proofs.Ytkkgolgmhckgoaa
open Go.RowKit
set_option linter.unusedVariables false

/-- A machine that a call has made, its parts each in a stretch of blocks of its own. -/
def CopyM (m : Mach) (w : World) (e : Ending) (w' : World) : Prop :=
  ∃ a c b d l1 t1 l2 t2 za zc, e = .returned (.agg #[.slice a m.ram.length c, .slice b m.rom.length d, .int .i64 m.bank, .int .i64 m.a, .int .i64 m.pc, .bool m.carry, .slice za m.back.length zc, .bool m.stop, .int .i64 m.cyc]) ∧
    (w.heap.size ≤ l1 ∧ w.heap.size ≤ l2 ∧ t1 ≤ w'.heap.size ∧ t2 ≤ w'.heap.size ∧ (t1 ≤ l2 ∨ t2 ≤ l1)) ∧ Own l1 t1 w' (.slice a m.ram.length c) m.ram ∧ OwnMat l2 t2 w' (.slice b m.rom.length d) m.rom ∧
    OwnV w' w.heap.size 3 (.slice za m.back.length zc) (m.back.map (.int .i64)) ∧ (∀ g, (Value.slice za m.back.length zc).ownBlock = some g → t1 ≤ g ∧ t2 ≤ g) ∧ Below w.heap.size w w'
section
variable {m : Mach} {w w' : World} {a : Option Addr} {c : Nat} {b : Option Addr} {d l1 t1 l2 t2 : Nat} {za : Option Addr} {zc : Nat}
theorem machIn_new {L : Nat} (t : TypeId) (k1 : L ≤ l1) (k2 : L ≤ l2) (k3 : t1 ≤ w'.heap.size) (k4 : t2 ≤ w'.heap.size) (sep : t1 ≤ l2 ∨ t2 ≤ l1) (o1 : Own l1 t1 w' (.slice a m.ram.length c) m.ram) (o2 : OwnMat l2 t2 w' (.slice b m.rom.length d) m.rom)
    (o3 : OwnV w' L 3 (.slice za m.back.length zc) (m.back.map (.int .i64))) (bs : ∀ g, (Value.slice za m.back.length zc).ownBlock = some g → t1 ≤ g ∧ t2 ≤ g) (hL : L ≤ w'.heap.size) :
    MachIn L (w'.alloc (.cells #[.slice a m.ram.length c, .slice b m.rom.length d, .int .i64 m.bank, .int .i64 m.a, .int .i64 m.pc, .bool m.carry, .slice za m.back.length zc, .bool m.stop, .int .i64 m.cyc] t)) w'.heap.size m a c b d l1 t1 l2 t2 (.slice za m.back.length zc) := by
  refine ⟨⟨by simp [go_sem], by simp [go_sem], by simp [go_sem], by simp [go_sem], hL, k1, k2, by simp; omega, by simp; omega, sep, .inr k3, .inr k4, o1.agree ((Agree.refl _ _ _).alloc k3 _), o2.agree ((Agree.refl _ _ _).alloc k4 _)⟩, mc_lit rfl, fun i _ => by simp [go_sem], o3.alloc _, fun g hg => ?_⟩
  have := bs g hg
  have := (o3.lt g hg).2
  exact ⟨by omega, by omega, by omega⟩
end
theorem CopyM.made {m : Mach} {w w' : World} {e : Ending} (h : CopyM m w e w') : MadeMach m w e w' := by
  obtain ⟨a, c, b, d, l1, t1, l2, t2, za, zc, rfl, ⟨k1, k2, k3, k4, sep⟩, o1, o2, o3, bs, hb⟩ := h
  have hs := hb.size
  refine ⟨_, rfl, ⟨_, _, _, max w.heap.size (max t1 t2), rfl, by omega, by omega, ⟨_, _, l1, t1, l2, t2, rfl, ⟨by omega, by omega, by omega, by omega, sep⟩, o1, o2⟩, ?_⟩, hb⟩
  exact (o3.raise fun g hg => by
    have := bs g hg
    have := o3.lt g hg
    omega).own
theorem mc_set012 {W : World} {B : Nat} {x y z x' y' : Value} {m : Mach} (h : Mc W B x y z m) : Mc (((W.setCell ⟨B, 0, none⟩ x').setCell ⟨B, 1, none⟩ y').setCell ⟨B, 2, none⟩ (.int .i64 m.bank)) B x' y' z m := by
  obtain ⟨⟨h0, h1, h2⟩, ⟨h3, h4, h5⟩, h6, h7, h8⟩ := h
  have k : ∀ o, o ≠ 0 → o ≠ 1 → o ≠ 2 → (((W.setCell ⟨B, 0, none⟩ x').setCell ⟨B, 1, none⟩ y').setCell ⟨B, 2, none⟩ (.int .i64 m.bank)).cell? ⟨B, o, none⟩ = W.cell? ⟨B, o, none⟩ := fun o n0 n1 n2 =>
    (World.cell?_setCell_other _ _ _ _ (by intro e; injection e with _ e1; omega)).trans ((World.cell?_setCell_other _ _ _ _ (by intro e; injection e with _ e1; omega)).trans (World.cell?_setCell_other _ _ _ _ (by intro e; injection e with _ e1; omega)))
  refine ⟨⟨?_, ?_, ?_⟩, ⟨(k 3 (by decide) (by decide) (by decide)).trans h3, (k 4 (by decide) (by decide) (by decide)).trans h4, (k 5 (by decide) (by decide) (by decide)).trans h5⟩, (k 6 (by decide) (by decide) (by decide)).trans h6, (k 7 (by decide) (by decide) (by decide)).trans h7, (k 8 (by decide) (by decide) (by decide)).trans h8⟩
  · exact (World.cell?_setCell_other _ _ _ _ (by simp)).trans ((World.cell?_setCell_other _ _ _ _ (by simp)).trans (World.cell?_setCell_same _ _ _ h0))
  · exact (World.cell?_setCell_other _ _ _ _ (by simp)).trans (World.cell?_setCell_same _ _ _ ((World.cell?_setCell_other _ _ _ _ (by simp)).trans h1))
  · exact World.cell?_setCell_same _ _ _ ((World.cell?_setCell_other _ _ _ _ (by simp)).trans ((World.cell?_setCell_other _ _ _ _ (by simp)).trans h2))
/-- W' is w3, but for two blocks. -/
def Two (X R : Nat) (w3 W' : World) : Prop := (W'.os = w3.os ∧ W'.tape = w3.tape ∧ W'.output = w3.output) ∧ W'.heap.size = w3.heap.size ∧ ∀ k, k ≠ X → k ≠ R → W'.heap[k]? = w3.heap[k]?
theorem two_refl (X R : Nat) (w : World) : Two X R w w := ⟨⟨rfl, rfl, rfl⟩, rfl, fun _ _ _ => rfl⟩
theorem two_setX {X R i : Nat} {w W : World} {v : Value} (h : Two X R w W) : Two X R w (W.setCell ⟨X, i, none⟩ v) := ⟨h.1, by rw [size_set]; exact h.2.1, fun k k1 k2 => (Below.heap_setCell _ _ _ _ k1).trans (h.2.2 k k1 k2)⟩
theorem two_setR {X R i : Nat} {w W : World} {v : Value} (h : Two X R w W) : Two X R w (W.setCell ⟨R, i, none⟩ v) := ⟨h.1, by rw [size_set]; exact h.2.1, fun k k1 k2 => (Below.heap_setCell _ _ _ _ k2).trans (h.2.2 k k1 k2)⟩
theorem copyM_of {m : Mach} {w w3 W' : World} {e : Ending} {X R S a c b d l1 t1 l2 t2 za zc} (hT : Two X R w3 W') (he : e = .returned (.agg #[.slice a m.ram.length c, .slice b m.rom.length d, .int .i64 m.bank, .int .i64 m.a, .int .i64 m.pc, .bool m.carry, .slice za m.back.length zc, .bool m.stop, .int .i64 m.cyc]))
    (hX : w.heap.size ≤ X) (hR : w.heap.size ≤ R) (k1 : X < l1 ∧ R < l1) (k2 : X < l2 ∧ R < l2) (k3 : t1 ≤ w3.heap.size ∧ t1 ≤ S) (k4 : t2 ≤ w3.heap.size ∧ t2 ≤ S) (sep : t1 ≤ l2 ∨ t2 ≤ l1) (o1 : Own l1 t1 w3 (.slice a m.ram.length c) m.ram) (o2 : OwnMat l2 t2 w3 (.slice b m.rom.length d) m.rom)
    (o3 : OwnV w3 S 3 (.slice za m.back.length zc) (m.back.map (.int .i64))) (hS : w.heap.size + 2 ≤ S) (hb : Below w.heap.size w w3) (hXS : X < S) (hRS : R < S) : CopyM m w e W' := by
  obtain ⟨⟨q1, q2, q3⟩, q4, q5⟩ := hT
  have A : ∀ l t, X < l → R < l → Agree l t w3 W' := fun l t h1 h2 k hk _ => q5 k (by omega) (by omega)
  have far : ∀ g, (Value.slice za m.back.length zc).ownBlock = some g → S ≤ g := fun g hg => (o3.lt g hg).1
  refine ⟨a, c, b, d, l1, t1, l2, t2, za, zc, he, ⟨by omega, by omega, by omega, by omega, sep⟩, o1.agree (A l1 t1 k1.1 k1.2), o2.agree (A l2 t2 k2.1 k2.2), ?_, fun g hg => by have := far g hg; omega, ?_⟩
  · exact OwnV.of (o3.raise fun g hg => by have := far g hg; omega) fun g hg => by have := far g hg; exact q5 g (by omega) (by omega)
  · exact ⟨q1.trans hb.os, q2.trans hb.tape, q3.trans hb.output, by rw [q4]; exact hb.size, fun k hk => (q5 k (by omega) (by omega)).trans (hb.block k hk)⟩
set_option maxHeartbeats 4000000 in
set_option maxRecDepth 20000 in
theorem impl_copyMachine {v : Value} {m : Mach} {w : World} (h : MachV w v m) (z1 : m.ram.length ≤ 1000000000) (z2 : m.rom.length ≤ 1048576) (z3 : sumLen m.rom ≤ 1000000000) (z4 : m.back.length ≤ 1000000000) : Calls Try.prog 77 #[v] w (CopyM m w) := by
  obtain ⟨a1, c1, b1, d1, f1, g1, rfl, _, _, _, _, _, _⟩ := machV_shape h
  obtain ⟨M1, I1⟩ := machV_parts h
  have HM := Lib.hid M1
  have HI := Lib.hid I1
  clear h M1 I1
  go_enter Try.func77, Try.ntmps77
  go_wp2_with fail
  refine (impl_copyMemory (HM.out.below (by go_grown)) z1 z2 z3).mono ?_
  rintro e w1 ⟨v1, rfl, o1, hb1⟩
  have tX1 := mc_below hb1 (mc_alloc _ (mc_lit rfl))
  have tR1 := mc_below hb1 (mc_zero (b := w.heap.size + 1) (by simp))
  have fX1 : ∀ i, w1.frozen? ⟨w.heap.size, i, none⟩ = false := fun i => (hb1.frozen (p := ⟨w.heap.size, i, none⟩) (by simp; omega)).trans (by simp [go_sem])
  have fR1 : ∀ i, w1.frozen? ⟨w.heap.size + 1, i, none⟩ = false := fun i => (hb1.frozen (p := ⟨w.heap.size + 1, i, none⟩) (by simp)).trans (by simp [go_sem])
  have hs1 : w.heap.size + 2 ≤ w1.heap.size := Nat.le_trans (by simp) hb1.size
  have hB1 : Hid (Below w.heap.size w w1) := below_via hb1 (by repeat (first | with_reducible exact Below.refl _ _ | with_reducible refine below_via (by assumption) ?_ (by go_size) | with_reducible refine below_within (by assumption) ?_ (by go_size) (by omega) | with_reducible refine Below.alloc ?_ (by go_size) _ | with_reducible refine Below.setCell ?_ (by go_size) _ | with_reducible refine Below.drew ?_)) (by go_size)
  obtain ⟨va, vb, l1, t1, l2, t2, rfl, ⟨k1, k3, k2, k4, sep⟩, o1, o2⟩ := o1
  obtain ⟨a2, c2, rfl⟩ := own_shape o1
  obtain ⟨b2, d2, rfl, _, _⟩ := mat_shape o2.mat
  simp only [World.size_alloc] at k1 k2
  have O1 := Lib.hid o1
  have O2 := Lib.hid o2
  have T1 := Lib.hid tX1
  have R1 := Lib.hid tR1
  obtain ⟨⟨p0, p1, p2⟩, ⟨p3, p4, p5⟩, p6, p7, p8⟩ := id tX1
  clear o1 o2 hb1 tX1 tR1
  go_wp2_with (at_builtin; refine wp_appI rfl _ _ rfl w1.heap.size (.slice none 0 0) (.slice f1 m.back.length g1) [] m.back rfl rfl (OwnV.nil _ _ _) (HI.out.below (((hB1.out.setCell (p := ⟨w.heap.size, 0, none⟩) (Nat.le_refl _) _).setCell (p := ⟨w.heap.size, 1, none⟩) (Nat.le_refl _) _).setCell (p := ⟨w.heap.size, 2, none⟩) (Nat.le_refl _) _)) (by simp; omega) (by simp only [size_set]; omega) ?_; intro z w3 ow hg _; rw [List.nil_append] at ow; obtain ⟨za, zc, rfl⟩ := ownV_shape ow; simp only [List.length_map] at ow; (have OW := Lib.hid ow); (have hb3 := Lib.hid (grown_below hg)); clear ow hg; (have t3 := mc_below hb3.out (mc_set012 T1.out)); (have r3 := mc_below hb3.out (mc_sc (mc_sc (mc_sc R1.out (by omega)) (by omega)) (by omega))); (have fX3 : ∀ i, w3.frozen? ⟨w.heap.size, i, none⟩ = false := fun i => (hb3.out.frozen (p := ⟨w.heap.size, i, none⟩) (by simp only [size_set]; omega)).trans (by have := fX1 i; simpa [go_sem] using this)); (have fR3 : ∀ i, w3.frozen? ⟨w.heap.size + 1, i, none⟩ = false := fun i => (hb3.out.frozen (p := ⟨w.heap.size + 1, i, none⟩) (by simp only [size_set]; omega)).trans (by have := fR1 i; simpa [go_sem] using this)); obtain ⟨⟨x30, x31, x32⟩, ⟨x33, x34, x35⟩, x36, x37, x38⟩ := t3; obtain ⟨⟨r30, r31, r32⟩, ⟨r33, r34, r35⟩, r36, r37, r38⟩ := r3)
  have hs3 : w1.heap.size ≤ w3.heap.size := Nat.le_trans (by simp only [size_set]; omega) hb3.out.size
  refine bodyPost_ret (v := .agg #[.slice a2 m.ram.length c2, .slice b2 m.rom.length d2, .int .i64 m.bank, .int .i64 m.a, .int .i64 m.pc, .bool m.carry, .slice za m.back.length zc, .bool m.stop, .int .i64 m.cyc]) (by simp [results, Try.results77, go_sem, r30, r31, r32, r33, r34, r35, r36, r37, r38]) rfl ?_
  have B3 : Hid (Below w.heap.size w w3) := ((((hB1.out.setCell (p := ⟨w.heap.size, 0, none⟩) (Nat.le_refl _) _).setCell (p := ⟨w.heap.size, 1, none⟩) (Nat.le_refl _) _).setCell (p := ⟨w.heap.size, 2, none⟩) (Nat.le_refl _) _)).trans (hb3.out.mono (by simp only [size_set]; omega))
  have P1 : Hid (Own l1 t1 w3 (.slice a2 m.ram.length c2) m.ram) := O1.out.agree (agree_below hb3.out ((((Agree.refl _ _ _).setCell (by show w.heap.size < l1 ∨ t1 ≤ w.heap.size; omega) _).setCell (by show w.heap.size < l1 ∨ t1 ≤ w.heap.size; omega) _).setCell (by show w.heap.size < l1 ∨ t1 ≤ w.heap.size; omega) _) (by simp only [size_set]; omega))
  have P2 : Hid (OwnMat l2 t2 w3 (.slice b2 m.rom.length d2) m.rom) := O2.out.agree (agree_below hb3.out ((((Agree.refl _ _ _).setCell (by show w.heap.size < l2 ∨ t2 ≤ w.heap.size; omega) _).setCell (by show w.heap.size < l2 ∨ t2 ≤ w.heap.size; omega) _).setCell (by show w.heap.size < l2 ∨ t2 ≤ w.heap.size; omega) _) (by simp only [size_set]; omega))
  have far : ∀ g, (Value.slice za m.back.length zc).ownBlock = some g → w1.heap.size ≤ g := fun g hg => (OW.out.lt g hg).1
  refine copyM_of (X := w.heap.size) (R := w.heap.size + 1) (w3 := w3) ?_ rfl (Nat.le_refl _) (by omega) (by omega) (by omega) (by omega) (by omega) sep P1.out P2.out OW.out hs1 B3.out (by omega) (by omega)
  repeat (first | with_reducible exact two_refl _ _ _ | with_reducible refine two_setX ?_ | with_reducible refine two_setR ?_)
end Go.Proofs.Ytkkgolgmhckgoaa
end

section
/- The walk of impl.step: a step of a machine in place. No condition. -/
namespace Go.Proofs.Ytkkgolgmhckgoaa
open Go.RowKit
set_option linter.unusedVariables false

theorem fetch_at (m : Mach) (k : Nat) (hk : k < 3) (hp : inR m.pc 0 1023 = true) : m.fetch.getD k 0 = m.peek ((m.pc + k) % 1024) := by
  obtain ⟨p0, p1⟩ := inR_iff.1 hp
  have : k = 0 ∨ k = 1 ∨ k = 2 := by omega
  rcases this with rfl | rfl | rfl
  · have e : (m.pc + ((0 : Nat) : Int)) % 1024 = m.pc := by omega
    rw [e]; rfl
  · rfl
  · rfl
theorem list3 {xs : List Int} (h : xs.length = 3) : xs = [xs.getD 0 0, xs.getD 1 0, xs.getD 2 0] := by
  match xs, h with
  | [a, b, c], _ => rfl
/-- The three cells of an array behind the machine's own blocks. -/
structure Arr (w : World) (A : Nat) (x y z : Int) : Prop where
  c0 : w.cell? ⟨A, 0, none⟩ = some (.int .i64 x)
  c1 : w.cell? ⟨A, 1, none⟩ = some (.int .i64 y)
  c2 : w.cell? ⟨A, 2, none⟩ = some (.int .i64 z)
  f0 : w.frozen? ⟨A, 0, none⟩ = false
  f1 : w.frozen? ⟨A, 1, none⟩ = false
  f2 : w.frozen? ⟨A, 2, none⟩ = false
section
variable {L : Nat} {w w' : World} {B : Nat} {m : Mach} {A : Nat} {x y z : Int}
theorem Arr.lt (h : Arr w A x y z) : A < w.heap.size := block_lt_of_cell h.c0
theorem Arr.drewN (h : Arr w A x y z) (n : Nat) : Arr (w.drewN n) A x y z := ⟨h.c0, h.c1, h.c2, h.f0, h.f1, h.f2⟩
theorem Arr.below (h : Arr w A x y z) (hb : Below w.heap.size w w') : Arr w' A x y z :=
  ⟨cell_be hb h.c0 h.lt, cell_be hb h.c1 h.lt, cell_be hb h.c2 h.lt, frozen_be hb h.f0 h.lt, frozen_be hb h.f1 h.lt, frozen_be hb h.f2 h.lt⟩
theorem Arr.new {t : TypeId} (he : A = w.heap.size) : Arr (w.alloc (.cells #[.int .i64 x, .int .i64 y, .int .i64 z] t)) A x y z := by
  subst he
  refine ⟨?_, ?_, ?_, ?_, ?_, ?_⟩ <;> simp [go_sem]
theorem Arr.set0 (h : Arr w A x y z) (q : Int) : Arr (w.setCell ⟨A, 0, none⟩ (.int .i64 q)) A q y z := by
  have g0 := h.f0
  have g1 := h.f1
  have g2 := h.f2
  exact ⟨World.cell?_setCell_same _ _ _ h.c0, (World.cell?_setCell_other _ _ _ _ (by simp)).trans h.c1, (World.cell?_setCell_other _ _ _ _ (by simp)).trans h.c2, by simpa [go_sem] using g0, by simpa [go_sem] using g1, by simpa [go_sem] using g2⟩
theorem Arr.set1 (h : Arr w A x y z) (q : Int) : Arr (w.setCell ⟨A, 1, none⟩ (.int .i64 q)) A x q z := by
  have g0 := h.f0
  have g1 := h.f1
  have g2 := h.f2
  exact ⟨(World.cell?_setCell_other _ _ _ _ (by simp)).trans h.c0, World.cell?_setCell_same _ _ _ h.c1, (World.cell?_setCell_other _ _ _ _ (by simp)).trans h.c2, by simpa [go_sem] using g0, by simpa [go_sem] using g1, by simpa [go_sem] using g2⟩
theorem Arr.set2 (h : Arr w A x y z) (q : Int) : Arr (w.setCell ⟨A, 2, none⟩ (.int .i64 q)) A x y q := by
  have g0 := h.f0
  have g1 := h.f1
  have g2 := h.f2
  exact ⟨(World.cell?_setCell_other _ _ _ _ (by simp)).trans h.c0, (World.cell?_setCell_other _ _ _ _ (by simp)).trans h.c1, World.cell?_setCell_same _ _ _ h.c2, by simpa [go_sem] using g0, by simpa [go_sem] using g1, by simpa [go_sem] using g2⟩
theorem Arr.setAt (h : Arr w A x y z) {k : Nat} (hk : k < 3) (q : Int) : Arr (w.setCell ⟨A, k, none⟩ (.int .i64 q)) A (if k = 0 then q else x) (if k = 1 then q else y) (if k = 2 then q else z) := by
  have : k = 0 ∨ k = 1 ∨ k = 2 := by omega
  rcases this with rfl | rfl | rfl
  · exact h.set0 q
  · exact h.set1 q
  · exact h.set2 q
theorem Arr.cellAt (h : Arr w A x y z) {k : Nat} (hk : k < 3) : (∃ q : Int, w.cell? ⟨A, k, none⟩ = some (.int .i64 q)) ∧ w.frozen? ⟨A, k, none⟩ = false := by
  have : k = 0 ∨ k = 1 ∨ k = 2 := by omega
  rcases this with rfl | rfl | rfl
  · exact ⟨⟨_, h.c0⟩, h.f0⟩
  · exact ⟨⟨_, h.c1⟩, h.f1⟩
  · exact ⟨⟨_, h.c2⟩, h.f2⟩
theorem Arr.ints (h : Arr w A x y z) : Ints w (.slice (some ⟨A, 0, none⟩) 3 3) [x, y, z] :=
  ⟨_, 3, rfl, Nat.le_refl _, by decide, .inr ⟨A, 0, rfl, fun i hi => by
    have : i = 0 ∨ i = 1 ∨ i = 2 := by simp at hi; omega
    rcases this with rfl | rfl | rfl
    · simpa using h.c0
    · simpa using h.c1
    · simpa using h.c2⟩⟩
end
theorem fetch_list (m : Mach) : m.fetch = [m.fetch.getD 0 0, m.fetch.getD 1 0, m.fetch.getD 2 0] := rfl
theorem step_no {m : Mach} (hs : m.stop = false) (hd : dOk m.fetch 0 = false) : m.step = { m with stop := true } := by simp [Mach.step, hs, hd]
theorem step_yes {m : Mach} (hs : m.stop = false) (hd : dOk m.fetch 0 = true) : m.step = (m.ahead (olen (dOp m.fetch 0))).exec (dOp m.fetch 0) (dArg m.fetch 0) := by simp [Mach.step, hs, hd]
theorem decV_yes {zs : List Int} {p : Int} (h : dOk zs p = true) : decV zs p = .tuple #[.agg #[.int .i64 (dOp zs p), .int .i64 (dArg zs p)], .int .i64 (olen (dOp zs p)), .bool true] := by simp [decV, h]
theorem decV_noOk {zs : List Int} {p : Int} (h : dOk zs p = false) : decV zs p = .tuple #[.agg #[.int .i64 0, .int .i64 0], .int .i64 0, .bool false] := by simp [decV, h, noV]
theorem dOk_len {zs : List Int} {p : Int} (h : dOk zs p = true) : 1 ≤ olen (dOp zs p) ∧ olen (dOp zs p) ≤ 3 := by
  have hv := okX_ov (n := zs.length) (p := p) (x := dOp zs p) (y := dz1 zs p) (z := dz2 zs p) (by simp only [dOk, Bool.and_eq_true] at h; exact h.2)
  rcases olen_vals (dOp zs p) with e | e | e | e
  · rw [ovB_0 e] at hv; cases hv
  all_goals omega
set_option maxHeartbeats 4000000 in
set_option maxRecDepth 20000 in
theorem impl_step {L B : Nat} {m : Mach} {C : Int} {w : World} (h : InM L w B m) (hg : m.Good C) (hC : C ≤ 1000000000000) : Calls Try.prog 78 #[.pointer (some ⟨B, 0, none⟩)] w (Does L w B m.step) := by
  unfold Does
  obtain ⟨a, c, b, d, l1, t1, l2, t2, v, h⟩ := h
  have S := Lib.hid (shp_of hg.mem)
  have G := Lib.hid hg
  obtain ⟨z0, z1⟩ := inR_iff.1 hg.pc
  have hB := h.ltB
  have lB := h.mem.lB
  have hL : L ≤ w.heap.size := by omega
  have H0 := Lib.hid h
  have f4 := h.mf 4 (by decide)
  have f7 := h.mf 7 (by decide)
  have f8 := h.mf 8 (by decide)
  obtain ⟨⟨c0, c1, c2⟩, ⟨c3, c4, c5⟩, c6, c7, c8⟩ := h.mc
  have y0 := hg.c0
  have y1 := hg.c1
  clear h
  cases hs : m.stop
  · rw [hs] at c7
    have hp := Lib.hid hg.pc
    clear hg
    go_enter Try.func78, Try.ntmps78
    go_wp2_with fail
    go_loopw [11] (fun i wr => ∃ (k : Nat) (x y z : Int), k ≤ 3 ∧ i = .int .i64 k ∧ Below w.heap.size w wr ∧ Arr wr w.heap.size x y z ∧ (0 < k → x = m.fetch.getD 0 0) ∧ (1 < k → y = m.fetch.getD 1 0) ∧ (2 < k → z = m.fetch.getD 2 0)) (fun i _ => 3 - (intOf i).toNat)
    case atStart => exact ⟨0, 0, 0, 0, by omega, rfl, (Below.refl _ _).alloc (Nat.le_refl _) _, Arr.new rfl, by omega, by omega, by omega⟩
    case round =>
      obtain ⟨k, x, y, z, hk, rfl, hBw, hA, e0, e1, e2⟩ := hrel
      have HA := Lib.hid hA
      have BW := Lib.hid hBw
      have HM := Lib.hid (H0.out.below hBw)
      have E0 := Lib.hid e0
      have E1 := Lib.hid e1
      have E2 := Lib.hid e2
      have hws := hBw.size
      have hAl := hA.lt
      obtain ⟨⟨_, _, _⟩, ⟨_, d4, _⟩, _, _, _⟩ := HM.out.mc
      clear hBw hA e0 e1 e2
      by_cases hlt : k < 3
      · have hki : (k : Int) < 3 := by omega
        have hk0 : (0 : Int) ≤ (k : Int) := by omega
        have em : (m.pc + (k : Int)).tmod 1024 = (m.pc + (k : Int)) % 1024 := Int.tmod_eq_emod_of_nonneg (by omega)
        have hjj : 0 ≤ (m.pc + (k : Int)) % 1024 ∧ (m.pc + (k : Int)) % 1024 ≤ 1023 := by omega
        obtain ⟨p, hpk⟩ : ∃ p, p = m.fetch.getD k 0 := ⟨_, rfl⟩
        have CP : Hid (Calls Try.prog 69 #[.pointer (some ⟨B, 0, none⟩), .int .i64 ((m.pc + (k : Int)) % 1024)] wr.drew fun e w' => e = .returned (.int .i64 p) ∧ Quiet wr.drew w') := by
          rw [hpk, fetch_at m k hlt hp.out]; exact impl_peek HM.out.drew.mem.memAt S.out (by omega) (by omega)
        have HP := Lib.hid hpk
        have hw0 : IntKind.i64.wrap (m.pc + (k : Int)) = m.pc + (k : Int) := by rw [IntKind.wrap_i64]; omega
        generalize (m.pc + (k : Int)) % 1024 = jj at *
        generalize m.pc = pc at *
        obtain ⟨⟨q, hq⟩, hqf⟩ := HA.out.cellAt hlt
        have hBr : B < wr.heap.size := by omega
        clear c0 c1 c2 c3 c4 c5 c6 c7 c8 f4 f7 f8
        clear hpk
        go_wp2_with fail
        go_region_with (go_at_call 69; refine CP.out.mono ?_; rintro e w3 ⟨rfl, n, rfl⟩)
        all_goals
          go_wp2_with fail
          go_roundw
          case rel =>
            refine ⟨k + 1, _, _, _, by omega, by go_num, ?_, (HA.out.drewN _).setAt hlt p, ?_, ?_, ?_⟩
            · exact (below_drewN' _ BW.out).setCell (p := ⟨w.heap.size, k, none⟩) (Nat.le_refl _) _
            · intro _; split
              · rename_i hk; subst hk; exact HP.out
              · exact E0.out (by omega)
            · intro _; split
              · rename_i hk; subst hk; exact HP.out
              · exact E1.out (by omega)
            · intro _; split
              · rename_i hk; subst hk; exact HP.out
              · exact E2.out (by omega)
          case measure => simp [intOf]; omega
      · have hk3 : k = 3 := by omega
        subst hk3
        have hki : ¬ ((3 : Nat) : Int) < 3 := by omega
        have hI : Ints wr (.slice (some ⟨w.heap.size, 0, none⟩) 3 3) m.fetch := by
          rw [fetch_list, ← E0.out (by omega), ← E1.out (by omega), ← E2.out (by omega)]; exact HA.out.ints
        have CD := Lib.hid (impl_DecodeOrder 0 hI)
        clear hI
        cases hd : dOk m.fetch 0
        · have E := Lib.hid (step_no hs hd)
          rw [decV_noOk hd] at CD
          go_wp2_with fail
          refine CD.out.mono ?_
          rintro e w5 ⟨rfl, hb5⟩
          have M5 := Lib.hid (HM.out.below hb5)
          have k7 := M5.out.mf 7 (by decide)
          obtain ⟨_, _, _, k8, _⟩ := id M5.out.mc
          have lB5 := M5.out.ltB
          have B5 := Lib.hid (BW.out.trans (hb5.mono hws))
          have hs5 := hb5.size
          have hne : B ≠ w5.heap.size := by omega
          rw [hs] at k8
          clear c0 c1 c2 c3 c4 c5 c6 c7 c8
          go_wp2_with fail
          go_returns
          refine ⟨rfl, ?_, ?_⟩
          · first | exact inM_eq ((M5.out.setStop true).alloc _).inM E.out | exact inM_eq ((M5.out.alloc _).setStop true).inM E.out
          · repeat (first | with_reducible exact B5.out.mono hL | with_reducible refine Below.setCell ?_ (by first | exact lB | (dsimp only; exact lB)) _ | with_reducible refine Below.alloc ?_ (by first | omega | (rw [size_set]; omega) | (simp; omega)) _)
        · have E := Lib.hid (step_yes hs hd)
          have hv := Mach.fetch_ov hd
          obtain ⟨n1, n3⟩ := dOk_len hd
          rw [decV_yes hd] at CD
          generalize dOp m.fetch 0 = op at *
          generalize dArg m.fetch 0 = arg at *
          have G2 := Lib.hid (G.out.ahead (show 0 ≤ olen op by omega) n3)
          generalize olen op = nn at *
          have em : (m.pc + nn).tmod 1024 = (m.pc + nn) % 1024 := Int.tmod_eq_emod_of_nonneg (by omega)
          have hw1 : IntKind.i64.wrap (m.pc + nn) = m.pc + nn := by rw [IntKind.wrap_i64]; omega
          have hw2 : IntKind.i64.wrap (m.cyc + nn) = m.cyc + nn := by rw [IntKind.wrap_i64]; omega
          go_wp2_with fail
          refine CD.out.mono ?_
          rintro e w5 ⟨rfl, hb5⟩
          have M5 := Lib.hid (HM.out.below hb5)
          have k4 := M5.out.mf 4 (by decide)
          have k8 := M5.out.mf 8 (by decide)
          obtain ⟨_, ⟨_, g4, _⟩, _, _, g8⟩ := id M5.out.mc
          have lB5 := M5.out.ltB
          have B5 := Lib.hid (BW.out.trans (hb5.mono hws))
          have hs5 := hb5.size
          have hne : B ≠ w5.heap.size := by omega
          clear c0 c1 c2 c3 c4 c5 c6 c7 c8
          go_wp2_with fail
          have M6 : ∀ W, (W = ((w5.alloc (.cells #[.int .i64 op, .int .i64 arg] 27)).setCell ⟨B, 4, none⟩ (.int .i64 ((m.pc + nn) % 1024))).setCell ⟨B, 8, none⟩ (.int .i64 (m.cyc + nn)) ∨ W = ((w5.setCell ⟨B, 4, none⟩ (.int .i64 ((m.pc + nn) % 1024))).setCell ⟨B, 8, none⟩ (.int .i64 (m.cyc + nn))).alloc (.cells #[.int .i64 op, .int .i64 arg] 27)) → InM L W B (m.ahead nn) ∧ Below L w W := by
            rintro W (rfl | rfl)
            · exact ⟨(((M5.out.alloc _).setPc _).setCyc _).inM, (((B5.out.mono hL).alloc (by omega) _).setCell (p := ⟨B, 4, none⟩) lB _).setCell (p := ⟨B, 8, none⟩) lB _⟩
            · exact ⟨(((M5.out.setPc _).setCyc _).alloc _).inM, (((B5.out.mono hL).setCell (p := ⟨B, 4, none⟩) lB _).setCell (p := ⟨B, 8, none⟩) lB _).alloc (by rw [size_set, size_set]; omega) _⟩
          obtain ⟨M6i, M6b⟩ := M6 _ (.inr rfl)
          refine (impl_execute (m := m.ahead nn) (L := L) M6i G2.out hv).mono ?_
          rintro e w6 ⟨rfl, hm6, hb6⟩
          go_wp2_with fail
          go_returns
          exact ⟨rfl, inM_eq hm6 E.out, M6b.trans hb6⟩
  · have E := Lib.hid (inM_eq H0.out.inM (Mach.step_stop hs))
    rw [hs] at c7
    go_enter Try.func78, Try.ntmps78
    go_wp2_with fail
    go_returns
    exact ⟨rfl, E.out, Below.refl _ _⟩
end Go.Proofs.Ytkkgolgmhckgoaa
end

section
/- The walks of impl.StepMachine, RunMachine and RunUntil. No condition. -/
namespace Go.Proofs.Ytkkgolgmhckgoaa
open Go.RowKit
set_option linter.unusedVariables false

def stM (m : Mach) : Mach := if machB m then m.step else zeroM
def rnM (m : Mach) (n : Int) : Mach := if machB m && inR n 0 500 then Mach.steps n.toNat m else zeroM
theorem stM_no {m : Mach} (h : machB m = false) : stM m = zeroM := by simp [stM, h]
theorem stM_yes {m : Mach} (h : machB m = true) : stM m = m.step := by simp [stM, h]
theorem sizes_mach {m : Mach} (h : machB m = true) : m.ram.length ≤ 1000000000 ∧ m.rom.length ≤ 1048576 ∧ sumLen m.rom ≤ 1000000000 ∧ m.back.length ≤ 1000000000 := by
  have g := machB_good h
  obtain ⟨h1, h2, h3⟩ := sizes_of g.mem
  exact ⟨h1, h2, h3, by have := g.len; omega⟩
theorem ownMach_zeroM {lo hi : Nat} {w : World} (h : lo ≤ hi) : OwnMach lo hi w (.agg #[.slice none 0 0, .slice none 0 0, .int .i64 0, .int .i64 0, .int .i64 0, .bool false, .slice none 0 0, .bool false, .int .i64 0]) zeroM :=
  ⟨_, _, _, hi, rfl, h, Nat.le_refl _, ownMem_zero h, own_nilV _ _ _⟩
/-- What is loaded from a machine in place, behind stores to a block below its own. -/
theorem made_of_in {L R B : Nat} {m : Mach} {w w3 W' : World} {e : Ending} {a : Option Addr} {c : Nat} {b : Option Addr} {d l1 t1 l2 t2 : Nat} {v : Value} (h : MachIn L w3 B m a c b d l1 t1 l2 t2 v)
    (he : e = .returned (.agg #[.slice a m.ram.length c, .slice b m.rom.length d, .int .i64 m.bank, .int .i64 m.a, .int .i64 m.pc, .bool m.carry, v, .bool m.stop, .int .i64 m.cyc])) (hT : Two R R w3 W') (hR : w.heap.size ≤ R) (hL : R < L) (hw : w.heap.size ≤ L) (hb : Below w.heap.size w w3) : MadeMach m w e W' := by
  obtain ⟨⟨q1, q2, q3⟩, q4, q5⟩ := hT
  refine ⟨_, he, ?_, ⟨q1.trans hb.os, q2.trans hb.tape, q3.trans hb.output, by rw [q4]; exact hb.size, fun k hk => (q5 k (by omega) (by omega)).trans (hb.block k hk)⟩⟩
  exact (h.own.agree (fun k k1 _ => q5 k (by omega) (by omega))).wide hw (by omega)
set_option maxHeartbeats 4000000 in
set_option maxRecDepth 20000 in
theorem impl_StepMachine {v : Value} {m : Mach} {w : World} (h : MachV w v m) : Calls Try.prog 36 #[v] w (MadeMach (stM m) w) := by
  obtain ⟨a1, c1, b1, d1, f1, g1, rfl, _, _, _, _, _, _⟩ := machV_shape h
  have H := Lib.hid h
  clear h
  cases hv : machB m
  · rw [stM_no hv]
    go_enter Try.func36, Try.ntmps36
    go_wp2_with fail
    refine (calls_eqv (impl_MachineValid (H.out.below (by go_grown))) hv).mono ?_
    rintro e w1 ⟨rfl, hb1⟩
    have r1 := mc_below hb1 (mc_zero (b := w.heap.size + 1) (by simp))
    have hB1 : Hid (Below w.heap.size w w1) := below_via hb1 (by repeat (first | with_reducible exact Below.refl _ _ | with_reducible refine below_via (by assumption) ?_ (by go_size) | with_reducible refine below_within (by assumption) ?_ (by go_size) (by omega) | with_reducible refine Below.alloc ?_ (by go_size) _ | with_reducible refine Below.setCell ?_ (by go_size) _ | with_reducible refine Below.drew ?_)) (by go_size)
    have fR : ∀ i, w1.frozen? ⟨w.heap.size + 1, i, none⟩ = false := fun i => (hb1.frozen (p := ⟨w.heap.size + 1, i, none⟩) (by simp)).trans (by simp [go_sem])
    have hs1 : w.heap.size + 2 ≤ w1.heap.size := Nat.le_trans (by simp) hb1.size
    obtain ⟨⟨r10, r11, r12⟩, ⟨r13, r14, r15⟩, r16, r17, r18⟩ := r1
    clear hb1
    go_wp2_with fail
    refine bodyPost_ret (v := .agg #[.slice none 0 0, .slice none 0 0, .int .i64 0, .int .i64 0, .int .i64 0, .bool false, .slice none 0 0, .bool false, .int .i64 0]) (by simp [results, Try.results36, go_sem, r10, r11, r12, r13, r14, r15, r16, r17, r18, zeroM]) rfl ⟨_, rfl, ownMach_zeroM (by simp only [size_set]; omega), ?_⟩
    repeat (first | with_reducible exact hB1.out | refine Below.setCell ?_ (by show w.heap.size ≤ w.heap.size + 1; omega) _)
  · rw [stM_yes hv]
    obtain ⟨z1, z2, z3, z4⟩ := sizes_mach hv
    have G := Lib.hid (machB_good hv)
    go_enter Try.func36, Try.ntmps36
    go_wp2_with fail
    refine (calls_eqv (impl_MachineValid (H.out.below (by go_grown))) hv).mono ?_
    rintro e w1 ⟨rfl, hb1⟩
    have x1 := mc_below hb1 (mc_alloc _ (mc_lit rfl))
    have r1 := mc_below hb1 (mc_zero (b := w.heap.size + 1) (by simp))
    have hB1 : Hid (Below w.heap.size w w1) := below_via hb1 (by repeat (first | with_reducible exact Below.refl _ _ | with_reducible refine below_via (by assumption) ?_ (by go_size) | with_reducible refine below_within (by assumption) ?_ (by go_size) (by omega) | with_reducible refine Below.alloc ?_ (by go_size) _ | with_reducible refine Below.setCell ?_ (by go_size) _ | with_reducible refine Below.drew ?_)) (by go_size)
    have fR : ∀ i, w1.frozen? ⟨w.heap.size + 1, i, none⟩ = false := fun i => (hb1.frozen (p := ⟨w.heap.size + 1, i, none⟩) (by simp)).trans (by simp [go_sem])
    have hs1 : w.heap.size + 2 ≤ w1.heap.size := Nat.le_trans (by simp) hb1.size
    obtain ⟨⟨x10, x11, x12⟩, ⟨x13, x14, x15⟩, x16, x17, x18⟩ := x1
    clear hb1
    go_wp2_with fail
    refine (impl_copyMachine (H.out.below hB1.out) z1 z2 z3 z4).mono ?_
    rintro e w2 ⟨a, c, b, d, l1, t1, l2, t2, za, zc, rfl, ⟨k1, k2, k3, k4, sep⟩, o1, o2, o3, bs, hb2⟩
    have M2 := Lib.hid (machIn_new 39 k1 k2 k3 k4 sep o1 o2 o3 bs hb2.size).inM
    have r2 := Lib.hid (mc_below hb2 r1)
    have fR2 : ∀ i, w2.frozen? ⟨w.heap.size + 1, i, none⟩ = false := fun i => (hb2.frozen (p := ⟨w.heap.size + 1, i, none⟩) (by show w.heap.size + 1 < _; omega)).trans (fR i)
    have hs2 := hb2.size
    have hB2 : Hid (Below w.heap.size w w2) := hB1.out.trans (hb2.mono (by omega))
    clear o1 o2 o3 bs hb2 x10 x11 x12 x13 x14 x15 x16 x17 x18 r1
    go_wp2_with fail
    refine (impl_step M2.out G.out (by omega)).mono ?_
    rintro e w3 ⟨rfl, hm3, hb3⟩
    have hb3' := hb3
    obtain ⟨a', c', b', d', l1', t1', l2', t2', v', h3⟩ := hm3
    obtain ⟨va, vc, rfl⟩ := ownV_shape h3.bk
    simp only [List.length_map] at h3
    have M3 := Lib.hid h3
    have y3 := mc_be hb3 (mc_alloc (.cells #[.slice a m.ram.length c, .slice b m.rom.length d, .int .i64 m.bank, .int .i64 m.a, .int .i64 m.pc, .bool m.carry, .slice za m.back.length zc, .bool m.stop, .int .i64 m.cyc] 39) r2.out) (by omega)
    have fR3 : ∀ i, w3.frozen? ⟨w.heap.size + 1, i, none⟩ = false := fun i => (hb3.frozen (p := ⟨w.heap.size + 1, i, none⟩) (by show w.heap.size + 1 < _; omega)).trans ((((Below.refl w2.heap.size w2).alloc (Nat.le_refl _) _).frozen (p := ⟨w.heap.size + 1, i, none⟩) (by show w.heap.size + 1 < _; omega)).trans (fR2 i))
    have hB3 : Hid (Below w.heap.size w w3) := (hB2.out.alloc hB2.out.size _).trans (hb3.mono (by omega))
    obtain ⟨⟨q0, q1, q2⟩, ⟨q3, q4, q5⟩, q6, q7, q8⟩ := h3.mc
    obtain ⟨⟨r10, r11, r12⟩, ⟨r13, r14, r15⟩, r16, r17, r18⟩ := y3
    clear h3 hb3 hb3' M2
    go_wp2_with fail
    refine bodyPost_ret (v := .agg #[.slice a' m.step.ram.length c', .slice b' m.step.rom.length d', .int .i64 m.step.bank, .int .i64 m.step.a, .int .i64 m.step.pc, .bool m.step.carry, .slice va m.step.back.length vc, .bool m.step.stop, .int .i64 m.step.cyc]) (by simp [results, Try.results36, go_sem, r10, r11, r12, r13, r14, r15, r16, r17, r18, zeroM]) rfl ?_
    refine made_of_in (L := w1.heap.size) (R := w.heap.size + 1) (w3 := w3) M3.out rfl ?_ (by omega) (by omega) (by omega) hB3.out
    repeat (first | with_reducible exact two_refl _ _ _ | with_reducible refine two_setR ?_)
end Go.Proofs.Ytkkgolgmhckgoaa
end

section
/- The walks of impl.RunMachine and RunUntil. No condition. -/
namespace Go.Proofs.Ytkkgolgmhckgoaa
open Go.RowKit
set_option linter.unusedVariables false

theorem rnM_no {m : Mach} {n : Int} (h : (machB m && inR n 0 500) = false) : rnM m n = zeroM := by simp [rnM, h]
theorem rnM_yes {m : Mach} {n : Int} (h : machB m = true) (h1 : inR n 0 500 = true) : rnM m n = Mach.steps n.toNat m := by simp [rnM, h, h1]
set_option maxHeartbeats 4000000 in
set_option maxRecDepth 20000 in
theorem impl_RunMachine {v : Value} {m : Mach} (n : Int) {w : World} (h : MachV w v m) : Calls Try.prog 41 #[v, .int .i64 n] w (MadeMach (rnM m n) w) := by
  obtain ⟨a1, c1, b1, d1, f1, g1, rfl, _, _, _, _, _, _⟩ := machV_shape h
  have H := Lib.hid h
  clear h
  cases hv : machB m
  · rw [rnM_no (by rw [hv]; rfl)]
    go_enter Try.func41, Try.ntmps41
    go_wp2_with fail
    refine (calls_eqv (impl_MachineValid (H.out.below (by go_grown))) hv).mono ?_
    rintro e w1 ⟨rfl, hb1⟩
    have r1 := mc_below hb1 (mc_zero (b := w.heap.size + 1) (by simp))
    have hB1 : Hid (Below w.heap.size w w1) := below_via hb1 (by repeat (first | with_reducible exact Below.refl _ _ | with_reducible refine below_via (by assumption) ?_ (by go_size) | with_reducible refine below_within (by assumption) ?_ (by go_size) (by omega) | with_reducible refine Below.alloc ?_ (by go_size) _ | with_reducible refine Below.setCell ?_ (by go_size) _ | with_reducible refine Below.drew ?_)) (by go_size)
    have fR : ∀ i, w1.frozen? ⟨w.heap.size + 1, i, none⟩ = false := fun i => (hb1.frozen (p := ⟨w.heap.size + 1, i, none⟩) (by simp)).trans (by simp [go_sem])
    have hs1 : w.heap.size + 2 ≤ w1.heap.size := Nat.le_trans (by simp) hb1.size
    obtain ⟨⟨r10, r11, r12⟩, ⟨r13, r14, r15⟩, r16, r17, r18⟩ := r1
    clear hb1
    go_wp2_with fail
    refine bodyPost_ret (v := .agg #[.slice none 0 0, .slice none 0 0, .int .i64 0, .int .i64 0, .int .i64 0, .bool false, .slice none 0 0, .bool false, .int .i64 0]) (by simp [results, Try.results41, go_sem, r10, r11, r12, r13, r14, r15, r16, r17, r18, zeroM]) rfl ⟨_, rfl, ownMach_zeroM (by simp only [size_set]; omega), ?_⟩
    repeat (first | with_reducible exact hB1.out | refine Below.setCell ?_ (by show w.heap.size ≤ w.heap.size + 1; omega) _)
  cases hn : inR n 0 500
  · rw [rnM_no (by rw [hv, hn]; rfl)]
    go_enter Try.func41, Try.ntmps41
    go_wp2_with fail
    refine (calls_eqv (impl_MachineValid (H.out.below (by go_grown))) hv).mono ?_
    rintro e w1 ⟨rfl, hb1⟩
    have r1 := mc_below hb1 (mc_zero (b := w.heap.size + 1) (by simp))
    have hB1 : Hid (Below w.heap.size w w1) := below_via hb1 (by repeat (first | with_reducible exact Below.refl _ _ | with_reducible refine below_via (by assumption) ?_ (by go_size) | with_reducible refine below_within (by assumption) ?_ (by go_size) (by omega) | with_reducible refine Below.alloc ?_ (by go_size) _ | with_reducible refine Below.setCell ?_ (by go_size) _ | with_reducible refine Below.drew ?_)) (by go_size)
    have fR : ∀ i, w1.frozen? ⟨w.heap.size + 1, i, none⟩ = false := fun i => (hb1.frozen (p := ⟨w.heap.size + 1, i, none⟩) (by simp)).trans (by simp [go_sem])
    have hs1 : w.heap.size + 2 ≤ w1.heap.size := Nat.le_trans (by simp) hb1.size
    obtain ⟨⟨r10, r11, r12⟩, ⟨r13, r14, r15⟩, r16, r17, r18⟩ := r1
    clear hb1
    go_wp2_with fail
    refine (calls_eqv (impl_within _ _ _ _) hn).mono ?_
    rintro e w' ⟨rfl, rfl⟩
    go_wp2_with fail
    refine bodyPost_ret (v := .agg #[.slice none 0 0, .slice none 0 0, .int .i64 0, .int .i64 0, .int .i64 0, .bool false, .slice none 0 0, .bool false, .int .i64 0]) (by simp [results, Try.results41, go_sem, r10, r11, r12, r13, r14, r15, r16, r17, r18, zeroM]) rfl ⟨_, rfl, ownMach_zeroM (by simp only [size_set]; omega), ?_⟩
    repeat (first | with_reducible exact hB1.out | refine Below.setCell ?_ (by show w.heap.size ≤ w.heap.size + 1; omega) _)
  · rw [rnM_yes hv hn]
    obtain ⟨n0, n5⟩ := inR_iff.1 hn
    obtain ⟨N, rfl⟩ := Int.eq_ofNat_of_zero_le n0
    rw [Int.toNat_natCast]
    obtain ⟨z1, z2, z3, z4⟩ := sizes_mach hv
    have G := Lib.hid (machB_good hv)
    go_enter Try.func41, Try.ntmps41
    go_wp2_with fail
    refine (calls_eqv (impl_MachineValid (H.out.below (by go_grown))) hv).mono ?_
    rintro e w1 ⟨rfl, hb1⟩
    have x1 := mc_below hb1 (mc_alloc _ (mc_lit rfl))
    have r1 := mc_below hb1 (mc_zero (b := w.heap.size + 1) (by simp))
    have hB1 : Hid (Below w.heap.size w w1) := below_via hb1 (by repeat (first | with_reducible exact Below.refl _ _ | with_reducible refine below_via (by assumption) ?_ (by go_size) | with_reducible refine below_within (by assumption) ?_ (by go_size) (by omega) | with_reducible refine Below.alloc ?_ (by go_size) _ | with_reducible refine Below.setCell ?_ (by go_size) _ | with_reducible refine Below.drew ?_)) (by go_size)
    have fR : ∀ i, w1.frozen? ⟨w.heap.size + 1, i, none⟩ = false := fun i => (hb1.frozen (p := ⟨w.heap.size + 1, i, none⟩) (by simp)).trans (by simp [go_sem])
    have hs1 : w.heap.size + 2 ≤ w1.heap.size := Nat.le_trans (by simp) hb1.size
    obtain ⟨⟨x10, x11, x12⟩, ⟨x13, x14, x15⟩, x16, x17, x18⟩ := x1
    clear hb1
    go_wp2_with fail
    refine (calls_eqv (impl_within _ _ _ _) hn).mono ?_
    rintro e w' ⟨rfl, rfl⟩
    go_wp2_with fail
    refine (impl_copyMachine (H.out.below hB1.out) z1 z2 z3 z4).mono ?_
    rintro e w2 ⟨a, c, b, d, l1, t1, l2, t2, za, zc, rfl, ⟨k1, k2, k3, k4, sep⟩, o1, o2, o3, bs, hb2⟩
    have M2 := Lib.hid (machIn_new 39 k1 k2 k3 k4 sep o1 o2 o3 bs hb2.size).inM
    have r2 := Lib.hid (mc_below hb2 r1)
    have fR2 : ∀ i, w2.frozen? ⟨w.heap.size + 1, i, none⟩ = false := fun i => (hb2.frozen (p := ⟨w.heap.size + 1, i, none⟩) (by show w.heap.size + 1 < _; omega)).trans (fR i)
    have hs2 := hb2.size
    have hB2 : Hid (Below w.heap.size w w2) := hB1.out.trans (hb2.mono (by omega))
    clear o1 o2 o3 bs hb2 x10 x11 x12 x13 x14 x15 x16 x17 x18 r1
    have RX := Lib.hid (mc_alloc (.cells #[.slice a m.ram.length c, .slice b m.rom.length d, .int .i64 m.bank, .int .i64 m.a, .int .i64 m.pc, .bool m.carry, .slice za m.back.length zc, .bool m.stop, .int .i64 m.cyc] 39) r2.out)
    have FX : ∀ i, (w2.alloc (.cells #[.slice a m.ram.length c, .slice b m.rom.length d, .int .i64 m.bank, .int .i64 m.a, .int .i64 m.pc, .bool m.carry, .slice za m.back.length zc, .bool m.stop, .int .i64 m.cyc] 39)).frozen? ⟨w.heap.size + 1, i, none⟩ = false := fun i => ((((Below.refl w2.heap.size w2).alloc (Nat.le_refl _) _).frozen (p := ⟨w.heap.size + 1, i, none⟩) (by show w.heap.size + 1 < _; omega)).trans (fR2 i))
    have BX : Hid (Below w.heap.size w (w2.alloc (.cells #[.slice a m.ram.length c, .slice b m.rom.length d, .int .i64 m.bank, .int .i64 m.a, .int .i64 m.pc, .bool m.carry, .slice za m.back.length zc, .bool m.stop, .int .i64 m.cyc] 39))) := hB2.out.alloc hB2.out.size _
    go_upto_region 4 with fail
    generalize (w2.alloc (.cells #[.slice a m.ram.length c, .slice b m.rom.length d, .int .i64 m.bank, .int .i64 m.a, .int .i64 m.pc, .bool m.carry, .slice za m.back.length zc, .bool m.stop, .int .i64 m.cyc] 39)) = X at *
    go_wp2_with fail
    go_loopw [18] (fun i wr => ∃ k : Nat, k ≤ N ∧ i = .int .i64 k ∧ Hid (InM w1.heap.size wr w2.heap.size (Mach.steps k m)) ∧ Hid (Below w1.heap.size X wr)) (fun i _ => N - (intOf i).toNat)
    case atStart => exact ⟨0, Nat.zero_le _, rfl, M2.out, Below.refl _ _⟩
    case round =>
      obtain ⟨k, hk, rfl, hM, hX⟩ := hrel
      by_cases hlt : k < N
      · have hki : (k : Int) < (N : Int) := by omega
        go_wp2_with fail
        refine (impl_step hM.out (G.out.steps k) (by omega)).mono ?_
        rintro e w3 ⟨rfl, hm3, hb3⟩
        go_wp2_with fail
        go_roundw
        case rel => exact ⟨k + 1, by omega, by go_num, hm3, hX.out.trans hb3⟩
        case measure => simp [intOf]; omega
      · have hki : ¬ (k : Int) < (N : Int) := by omega
        have e : k = N := by omega
        subst e
        obtain ⟨a', c', b', d', l1', t1', l2', t2', v', h3⟩ := hM.out
        obtain ⟨va, vc, rfl⟩ := ownV_shape h3.bk
        simp only [List.length_map] at h3
        have M3 := Lib.hid h3
        have y3 := mc_be hX.out RX.out (by omega)
        have fR3 : ∀ i, wr.frozen? ⟨w.heap.size + 1, i, none⟩ = false := fun i => (hX.out.frozen (p := ⟨w.heap.size + 1, i, none⟩) (by show w.heap.size + 1 < _; omega)).trans (FX i)
        have hB3 : Hid (Below w.heap.size w wr) := BX.out.trans (hX.out.mono (by omega))
        generalize Mach.steps k m = mm at *
        obtain ⟨⟨q0, q1, q2⟩, ⟨q3, q4, q5⟩, q6, q7, q8⟩ := h3.mc
        obtain ⟨⟨r10, r11, r12⟩, ⟨r13, r14, r15⟩, r16, r17, r18⟩ := y3
        clear h3 hM hX
        go_wp2_with fail
        refine bodyPost_ret (v := .agg #[.slice a' mm.ram.length c', .slice b' mm.rom.length d', .int .i64 mm.bank, .int .i64 mm.a, .int .i64 mm.pc, .bool mm.carry, .slice va mm.back.length vc, .bool mm.stop, .int .i64 mm.cyc]) (by simp [results, Try.results41, go_sem, r10, r11, r12, r13, r14, r15, r16, r17, r18, zeroM]) rfl ?_
        refine made_of_in (L := w1.heap.size) (R := w.heap.size + 1) (w3 := wr) M3.out rfl ?_ (by omega) (by omega) (by omega) hB3.out
        repeat (first | with_reducible exact two_refl _ _ _ | with_reducible refine two_setR ?_)
end Go.Proofs.Ytkkgolgmhckgoaa
end
