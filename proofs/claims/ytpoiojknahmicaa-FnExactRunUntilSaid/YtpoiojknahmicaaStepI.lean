/- The walk of impl.step: a step of a machine in place. No condition. -/
import Derived.Test.YtpoiojknahmicaaExec
import Derived.Test.YtpoiojknahmicaaDecode
namespace Go.Proofs.Ytpoiojknahmicaa
open Go.RowKit
set_option linter.unusedVariables false

theorem fetch_at (m : Mach) (k : Nat) (hk : k < 3) (hp : inR m.pc 0 1023 = true) : m.fetch.getD k 0 = m.peek ((m.pc + k) % 1024) := by
  obtain ⟨p0, p1⟩ := inR_iff.1 hp
  have : k = 0 ∨ k = 1 ∨ k = 2 := by omega
  rcases this with rfl | rfl | rfl
  · have e : (m.pc + ((0 : Nat) : Int)) % 1024 = m.pc := by omega
    rw [e]; rfl
  · rfl
  · rfl
theorem list3 {xs : List Int} (h : xs.length = 3) : xs = [xs.getD 0 0, xs.getD 1 0, xs.getD 2 0] := by
  match xs, h with
  | [a, b, c], _ => rfl
/-- The three cells of an array behind the machine's own blocks. -/
structure Arr (w : World) (A : Nat) (x y z : Int) : Prop where
  c0 : w.cell? ⟨A, 0, none⟩ = some (.int .i64 x)
  c1 : w.cell? ⟨A, 1, none⟩ = some (.int .i64 y)
  c2 : w.cell? ⟨A, 2, none⟩ = some (.int .i64 z)
  f0 : w.frozen? ⟨A, 0, none⟩ = false
  f1 : w.frozen? ⟨A, 1, none⟩ = false
  f2 : w.frozen? ⟨A, 2, none⟩ = false
section
variable {L : Nat} {w w' : World} {B : Nat} {m : Mach} {A : Nat} {x y z : Int}
theorem Arr.lt (h : Arr w A x y z) : A < w.heap.size := block_lt_of_cell h.c0
theorem Arr.drewN (h : Arr w A x y z) (n : Nat) : Arr (w.drewN n) A x y z := ⟨h.c0, h.c1, h.c2, h.f0, h.f1, h.f2⟩
theorem Arr.below (h : Arr w A x y z) (hb : Below w.heap.size w w') : Arr w' A x y z :=
  ⟨cell_be hb h.c0 h.lt, cell_be hb h.c1 h.lt, cell_be hb h.c2 h.lt, frozen_be hb h.f0 h.lt, frozen_be hb h.f1 h.lt, frozen_be hb h.f2 h.lt⟩
theorem Arr.new {t : TypeId} (he : A = w.heap.size) : Arr (w.alloc (.cells #[.int .i64 x, .int .i64 y, .int .i64 z] t)) A x y z := by
  subst he
  refine ⟨?_, ?_, ?_, ?_, ?_, ?_⟩ <;> simp [go_sem]
theorem Arr.set0 (h : Arr w A x y z) (q : Int) : Arr (w.setCell ⟨A, 0, none⟩ (.int .i64 q)) A q y z := by
  have g0 := h.f0
  have g1 := h.f1
  have g2 := h.f2
  exact ⟨World.cell?_setCell_same _ _ _ h.c0, (World.cell?_setCell_other _ _ _ _ (by simp)).trans h.c1, (World.cell?_setCell_other _ _ _ _ (by simp)).trans h.c2, by simpa [go_sem] using g0, by simpa [go_sem] using g1, by simpa [go_sem] using g2⟩
theorem Arr.set1 (h : Arr w A x y z) (q : Int) : Arr (w.setCell ⟨A, 1, none⟩ (.int .i64 q)) A x q z := by
  have g0 := h.f0
  have g1 := h.f1
  have g2 := h.f2
  exact ⟨(World.cell?_setCell_other _ _ _ _ (by simp)).trans h.c0, World.cell?_setCell_same _ _ _ h.c1, (World.cell?_setCell_other _ _ _ _ (by simp)).trans h.c2, by simpa [go_sem] using g0, by simpa [go_sem] using g1, by simpa [go_sem] using g2⟩
theorem Arr.set2 (h : Arr w A x y z) (q : Int) : Arr (w.setCell ⟨A, 2, none⟩ (.int .i64 q)) A x y q := by
  have g0 := h.f0
  have g1 := h.f1
  have g2 := h.f2
  exact ⟨(World.cell?_setCell_other _ _ _ _ (by simp)).trans h.c0, (World.cell?_setCell_other _ _ _ _ (by simp)).trans h.c1, World.cell?_setCell_same _ _ _ h.c2, by simpa [go_sem] using g0, by simpa [go_sem] using g1, by simpa [go_sem] using g2⟩
theorem Arr.setAt (h : Arr w A x y z) {k : Nat} (hk : k < 3) (q : Int) : Arr (w.setCell ⟨A, k, none⟩ (.int .i64 q)) A (if k = 0 then q else x) (if k = 1 then q else y) (if k = 2 then q else z) := by
  have : k = 0 ∨ k = 1 ∨ k = 2 := by omega
  rcases this with rfl | rfl | rfl
  · exact h.set0 q
  · exact h.set1 q
  · exact h.set2 q
theorem Arr.cellAt (h : Arr w A x y z) {k : Nat} (hk : k < 3) : (∃ q : Int, w.cell? ⟨A, k, none⟩ = some (.int .i64 q)) ∧ w.frozen? ⟨A, k, none⟩ = false := by
  have : k = 0 ∨ k = 1 ∨ k = 2 := by omega
  rcases this with rfl | rfl | rfl
  · exact ⟨⟨_, h.c0⟩, h.f0⟩
  · exact ⟨⟨_, h.c1⟩, h.f1⟩
  · exact ⟨⟨_, h.c2⟩, h.f2⟩
theorem Arr.ints (h : Arr w A x y z) : Ints w (.slice (some ⟨A, 0, none⟩) 3 3) [x, y, z] :=
  ⟨_, 3, rfl, Nat.le_refl _, by decide, .inr ⟨A, 0, rfl, fun i hi => by
    have : i = 0 ∨ i = 1 ∨ i = 2 := by simp at hi; omega
    rcases this with rfl | rfl | rfl
    · simpa using h.c0
    · simpa using h.c1
    · simpa using h.c2⟩⟩
end
theorem fetch_list (m : Mach) : m.fetch = [m.fetch.getD 0 0, m.fetch.getD 1 0, m.fetch.getD 2 0] := rfl
theorem step_no {m : Mach} (hs : m.stop = false) (hd : dOk m.fetch 0 = false) : m.step = { m with stop := true } := by simp [Mach.step, hs, hd]
theorem step_yes {m : Mach} (hs : m.stop = false) (hd : dOk m.fetch 0 = true) : m.step = (m.ahead (olen (dOp m.fetch 0))).exec (dOp m.fetch 0) (dArg m.fetch 0) := by simp [Mach.step, hs, hd]
theorem decV_yes {zs : List Int} {p : Int} (h : dOk zs p = true) : decV zs p = .tuple #[.agg #[.int .i64 (dOp zs p), .int .i64 (dArg zs p)], .int .i64 (olen (dOp zs p)), .bool true] := by simp [decV, h]
theorem decV_noOk {zs : List Int} {p : Int} (h : dOk zs p = false) : decV zs p = .tuple #[.agg #[.int .i64 0, .int .i64 0], .int .i64 0, .bool false] := by simp [decV, h, noV]
theorem dOk_len {zs : List Int} {p : Int} (h : dOk zs p = true) : 1 ≤ olen (dOp zs p) ∧ olen (dOp zs p) ≤ 3 := by
  have hv := okX_ov (n := zs.length) (p := p) (x := dOp zs p) (y := dz1 zs p) (z := dz2 zs p) (by simp only [dOk, Bool.and_eq_true] at h; exact h.2)
  rcases olen_vals (dOp zs p) with e | e | e | e
  · rw [ovB_0 e] at hv; cases hv
  all_goals omega
set_option maxHeartbeats 4000000 in
set_option maxRecDepth 20000 in
theorem impl_step {L B : Nat} {m : Mach} {C : Int} {w : World} (h : InM L w B m) (hg : m.Good C) (hC : C ≤ 1000000000000) : Calls Try.prog 114 #[.pointer (some ⟨B, 0, none⟩)] w (Does L w B m.step) := by
  unfold Does
  obtain ⟨a, c, b, d, l1, t1, l2, t2, v, h⟩ := h
  have S := Lib.hid (shp_of hg.mem)
  have G := Lib.hid hg
  obtain ⟨z0, z1⟩ := inR_iff.1 hg.pc
  have hB := h.ltB
  have lB := h.mem.lB
  have hL : L ≤ w.heap.size := by omega
  have H0 := Lib.hid h
  have f4 := h.mf 4 (by decide)
  have f7 := h.mf 7 (by decide)
  have f8 := h.mf 8 (by decide)
  obtain ⟨⟨c0, c1, c2⟩, ⟨c3, c4, c5⟩, c6, c7, c8⟩ := h.mc
  have y0 := hg.c0
  have y1 := hg.c1
  clear h
  cases hs : m.stop
  · rw [hs] at c7
    have hp := Lib.hid hg.pc
    clear hg
    go_enter Try.func114, Try.ntmps114
    go_wp2_with fail
    go_loopw [11] (fun i wr => ∃ (k : Nat) (x y z : Int), k ≤ 3 ∧ i = .int .i64 k ∧ Below w.heap.size w wr ∧ Arr wr w.heap.size x y z ∧ (0 < k → x = m.fetch.getD 0 0) ∧ (1 < k → y = m.fetch.getD 1 0) ∧ (2 < k → z = m.fetch.getD 2 0)) (fun i _ => 3 - (intOf i).toNat)
    case atStart => exact ⟨0, 0, 0, 0, by omega, rfl, (Below.refl _ _).alloc (Nat.le_refl _) _, Arr.new rfl, by omega, by omega, by omega⟩
    case round =>
      obtain ⟨k, x, y, z, hk, rfl, hBw, hA, e0, e1, e2⟩ := hrel
      have HA := Lib.hid hA
      have BW := Lib.hid hBw
      have HM := Lib.hid (H0.out.below hBw)
      have E0 := Lib.hid e0
      have E1 := Lib.hid e1
      have E2 := Lib.hid e2
      have hws := hBw.size
      have hAl := hA.lt
      obtain ⟨⟨_, _, _⟩, ⟨_, d4, _⟩, _, _, _⟩ := HM.out.mc
      clear hBw hA e0 e1 e2
      by_cases hlt : k < 3
      · have hki : (k : Int) < 3 := by omega
        have hk0 : (0 : Int) ≤ (k : Int) := by omega
        have em : (m.pc + (k : Int)).tmod 1024 = (m.pc + (k : Int)) % 1024 := Int.tmod_eq_emod_of_nonneg (by omega)
        have hjj : 0 ≤ (m.pc + (k : Int)) % 1024 ∧ (m.pc + (k : Int)) % 1024 ≤ 1023 := by omega
        obtain ⟨p, hpk⟩ : ∃ p, p = m.fetch.getD k 0 := ⟨_, rfl⟩
        have CP : Hid (Calls Try.prog 97 #[.pointer (some ⟨B, 0, none⟩), .int .i64 ((m.pc + (k : Int)) % 1024)] wr.drew fun e w' => e = .returned (.int .i64 p) ∧ Quiet wr.drew w') := by
          rw [hpk, fetch_at m k hlt hp.out]; exact impl_peek HM.out.drew.mem.memAt S.out (by omega) (by omega)
        have HP := Lib.hid hpk
        have hw0 : IntKind.i64.wrap (m.pc + (k : Int)) = m.pc + (k : Int) := by rw [IntKind.wrap_i64]; omega
        generalize (m.pc + (k : Int)) % 1024 = jj at *
        generalize m.pc = pc at *
        obtain ⟨⟨q, hq⟩, hqf⟩ := HA.out.cellAt hlt
        have hBr : B < wr.heap.size := by omega
        clear c0 c1 c2 c3 c4 c5 c6 c7 c8 f4 f7 f8
        clear hpk
        go_wp2_with fail
        go_region_with (go_at_call 97; refine CP.out.mono ?_; rintro e w3 ⟨rfl, n, rfl⟩)
        all_goals
          go_wp2_with fail
          go_roundw
          case rel =>
            refine ⟨k + 1, _, _, _, by omega, by go_num, ?_, (HA.out.drewN _).setAt hlt p, ?_, ?_, ?_⟩
            · exact (below_drewN' _ BW.out).setCell (p := ⟨w.heap.size, k, none⟩) (Nat.le_refl _) _
            · intro _; split
              · rename_i hk; subst hk; exact HP.out
              · exact E0.out (by omega)
            · intro _; split
              · rename_i hk; subst hk; exact HP.out
              · exact E1.out (by omega)
            · intro _; split
              · rename_i hk; subst hk; exact HP.out
              · exact E2.out (by omega)
          case measure => simp [intOf]; omega
      · have hk3 : k = 3 := by omega
        subst hk3
        have hki : ¬ ((3 : Nat) : Int) < 3 := by omega
        have hI : Ints wr (.slice (some ⟨w.heap.size, 0, none⟩) 3 3) m.fetch := by
          rw [fetch_list, ← E0.out (by omega), ← E1.out (by omega), ← E2.out (by omega)]; exact HA.out.ints
        have CD := Lib.hid (impl_DecodeOrder 0 hI)
        clear hI
        cases hd : dOk m.fetch 0
        · have E := Lib.hid (step_no hs hd)
          rw [decV_noOk hd] at CD
          go_wp2_with fail
          refine CD.out.mono ?_
          rintro e w5 ⟨rfl, hb5⟩
          have M5 := Lib.hid (HM.out.below hb5)
          have k7 := M5.out.mf 7 (by decide)
          obtain ⟨_, _, _, k8, _⟩ := id M5.out.mc
          have lB5 := M5.out.ltB
          have B5 := Lib.hid (BW.out.trans (hb5.mono hws))
          have hs5 := hb5.size
          have hne : B ≠ w5.heap.size := by omega
          rw [hs] at k8
          clear c0 c1 c2 c3 c4 c5 c6 c7 c8
          go_wp2_with fail
          go_returns
          refine ⟨rfl, ?_, ?_⟩
          · first | exact inM_eq ((M5.out.setStop true).alloc _).inM E.out | exact inM_eq ((M5.out.alloc _).setStop true).inM E.out
          · repeat (first | with_reducible exact B5.out.mono hL | with_reducible refine Below.setCell ?_ (by first | exact lB | (dsimp only; exact lB)) _ | with_reducible refine Below.alloc ?_ (by first | omega | (rw [size_set]; omega) | (simp; omega)) _)
        · have E := Lib.hid (step_yes hs hd)
          have hv := Mach.fetch_ov hd
          obtain ⟨n1, n3⟩ := dOk_len hd
          rw [decV_yes hd] at CD
          generalize dOp m.fetch 0 = op at *
          generalize dArg m.fetch 0 = arg at *
          have G2 := Lib.hid (G.out.ahead (show 0 ≤ olen op by omega) n3)
          generalize olen op = nn at *
          have em : (m.pc + nn).tmod 1024 = (m.pc + nn) % 1024 := Int.tmod_eq_emod_of_nonneg (by omega)
          have hw1 : IntKind.i64.wrap (m.pc + nn) = m.pc + nn := by rw [IntKind.wrap_i64]; omega
          have hw2 : IntKind.i64.wrap (m.cyc + nn) = m.cyc + nn := by rw [IntKind.wrap_i64]; omega
          go_wp2_with fail
          refine CD.out.mono ?_
          rintro e w5 ⟨rfl, hb5⟩
          have M5 := Lib.hid (HM.out.below hb5)
          have k4 := M5.out.mf 4 (by decide)
          have k8 := M5.out.mf 8 (by decide)
          obtain ⟨_, ⟨_, g4, _⟩, _, _, g8⟩ := id M5.out.mc
          have lB5 := M5.out.ltB
          have B5 := Lib.hid (BW.out.trans (hb5.mono hws))
          have hs5 := hb5.size
          have hne : B ≠ w5.heap.size := by omega
          clear c0 c1 c2 c3 c4 c5 c6 c7 c8
          go_wp2_with fail
          have M6 : ∀ W, (W = ((w5.alloc (.cells #[.int .i64 op, .int .i64 arg] 36)).setCell ⟨B, 4, none⟩ (.int .i64 ((m.pc + nn) % 1024))).setCell ⟨B, 8, none⟩ (.int .i64 (m.cyc + nn)) ∨ W = ((w5.setCell ⟨B, 4, none⟩ (.int .i64 ((m.pc + nn) % 1024))).setCell ⟨B, 8, none⟩ (.int .i64 (m.cyc + nn))).alloc (.cells #[.int .i64 op, .int .i64 arg] 36)) → InM L W B (m.ahead nn) ∧ Below L w W := by
            rintro W (rfl | rfl)
            · exact ⟨(((M5.out.alloc _).setPc _).setCyc _).inM, (((B5.out.mono hL).alloc (by omega) _).setCell (p := ⟨B, 4, none⟩) lB _).setCell (p := ⟨B, 8, none⟩) lB _⟩
            · exact ⟨(((M5.out.setPc _).setCyc _).alloc _).inM, (((B5.out.mono hL).setCell (p := ⟨B, 4, none⟩) lB _).setCell (p := ⟨B, 8, none⟩) lB _).alloc (by rw [size_set, size_set]; omega) _⟩
          obtain ⟨M6i, M6b⟩ := M6 _ (.inr rfl)
          refine (impl_execute (m := m.ahead nn) (L := L) M6i G2.out hv).mono ?_
          rintro e w6 ⟨rfl, hm6, hb6⟩
          go_wp2_with fail
          go_returns
          exact ⟨rfl, inM_eq hm6 E.out, M6b.trans hb6⟩
  · have E := Lib.hid (inM_eq H0.out.inM (Mach.step_stop hs))
    rw [hs] at c7
    go_enter Try.func114, Try.ntmps114
    go_wp2_with fail
    go_returns
    exact ⟨rfl, E.out, Below.refl _ _⟩
end Go.Proofs.Ytpoiojknahmicaa
