/- The drawn instructions: whatever the code, the draw returns an instruction and changes nothing that was there. No condition. -/
import Derived.Test.YtlnpmanghkeieaaDrawByte
namespace Go.Proofs.Ytlnpmanghkeieaa
open Go.RowKit

def AnyOrder (v : Value) : Prop := ∃ o a : Int, v = .agg #[.int .i64 o, .int .i64 a]
/-- A box of two integers of the call's own, behind the reader's block. -/
structure Ob (w : World) (rb O : Nat) (a b : Int) : Prop where
  c0 : w.cell? ⟨O, 0, none⟩ = some (.int .i64 a)
  c1 : w.cell? ⟨O, 1, none⟩ = some (.int .i64 b)
  f0 : w.frozen? ⟨O, 0, none⟩ = false
  f1 : w.frozen? ⟨O, 1, none⟩ = false
  lt : rb < O
section
variable {w w' : World} {rb O : Nat} {a b : Int}
theorem Ob.size (h : Ob w rb O a b) : O < w.heap.size := block_lt_of_cell h.c0
theorem Ob.keep (h : Ob w rb O a b) (hK : Keep rb w w') : Ob w' rb O a b := by
  have hs := h.size
  have hn : O ≠ rb := by have := h.lt; omega
  exact ⟨(hK.cells.1 _ _ hs hn).trans h.c0, (hK.cells.1 _ _ hs hn).trans h.c1, (hK.cells.2 _ _ hs hn).trans h.f0, (hK.cells.2 _ _ hs hn).trans h.f1, h.lt⟩
theorem Ob.below (h : Ob w rb O a b) (hB : Below w.heap.size w w') : Ob w' rb O a b := h.keep (Keep.ofBelow hB)
theorem Ob.alloc (h : Ob w rb O a b) (o : Obj) : Ob (w.alloc o) rb O a b := h.keep ((Keep.refl _ _).alloc o)
theorem Ob.new (a b : Int) (t : TypeId) (h : rb < w.heap.size) : Ob (w.alloc (.cells #[.int .i64 a, .int .i64 b] t)) rb w.heap.size a b :=
  ⟨by simp [go_sem], by simp [go_sem], by simp [go_sem], by simp [go_sem], h⟩
theorem Ob.other (h : Ob w rb O a b) {O' i : Nat} (hn : O' ≠ O) (v : Value) : Ob (w.setCell ⟨O', i, none⟩ v) rb O a b := by
  have e : ∀ o, (w.setCell ⟨O', i, none⟩ v).cell? ⟨O, o, none⟩ = w.cell? ⟨O, o, none⟩ := fun o => World.cell?_setCell_other _ _ _ _ (by intro e; injection e with e1; exact hn e1)
  have g0 := h.f0
  have g1 := h.f1
  exact ⟨(e 0).trans h.c0, (e 1).trans h.c1, by simpa [go_sem] using g0, by simpa [go_sem] using g1, h.lt⟩
theorem Ob.set0 (h : Ob w rb O a b) (x : Int) : Ob (w.setCell ⟨O, 0, none⟩ (.int .i64 x)) rb O x b := by
  have g0 := h.f0
  have g1 := h.f1
  exact ⟨World.cell?_setCell_same _ _ _ h.c0, (World.cell?_setCell_other _ _ _ _ (by simp)).trans h.c1, by simpa [go_sem] using g0, by simpa [go_sem] using g1, h.lt⟩
theorem Ob.set1 (h : Ob w rb O a b) (x : Int) : Ob (w.setCell ⟨O, 1, none⟩ (.int .i64 x)) rb O a x := by
  have g0 := h.f0
  have g1 := h.f1
  exact ⟨(World.cell?_setCell_other _ _ _ _ (by simp)).trans h.c0, World.cell?_setCell_same _ _ _ h.c1, by simpa [go_sem] using g0, by simpa [go_sem] using g1, h.lt⟩
end
set_option maxHeartbeats 4000000 in
theorem l20Order {rb B : Nat} {w0 : World} (n : Int) (hR0' : Reader w0 rb B) (hB : B ≤ 100000) :
    Calls Try.prog 62 #[.pointer (some ⟨rb, 0, none⟩), .int .i64 n] w0 (Picks rb (B + 12) w0 AnyOrder) := by
  have hlt := hR0'.lt
  have hR0 := hR0'.alloc (.cells #[.int .i64 0, .int .i64 0] 58)
  go_enter Try.func62, Try.ntmps62
  go_wp2_with fail
  refine (pick _ hR0 (by omega)).mono ?_
  rintro e w1 ⟨v, rfl, ⟨x1, rfl, y1, z1⟩, hR1, hK1⟩
  have oR1 := (Ob.new (w := w0) 0 0 58 hlt).keep hK1
  have hn := oR1.size
  go_wp2_with fail
  refine (spec_OrderLength _ _).mono ?_
  rintro e w2 ⟨rfl, hB2⟩
  have oO2 := (Ob.new (w := w1) x1 0 58 hR1.lt).below hB2
  have oR2 := (oR1.alloc _).below hB2
  have hR2 := (hR1.alloc _).below hB2
  have hK2 : Keep rb w0 w2 := (((Keep.refl _ _).alloc _).trans hK1).trans (((Keep.refl _ _).alloc _).trans (Keep.ofBelow hB2))
  have hne : w0.heap.size ≠ w1.heap.size := by omega
  have hne' : w1.heap.size ≠ w0.heap.size := by omega
  have hle : w0.heap.size ≤ w1.heap.size := by omega
  have hll := hR1.lt
  clear hR1 hR0 hR0' oR1
  rcases olen_vals x1 with h | h | h | h
  · have hRt := hR2.mono (show B + 1 ≤ B + 8 by omega)
    have oOt := oO2
    have oRt := oR2
    have hKt := hK2
    go_wp2_with fail
    refine (odd _ hRt (by omega)).mono ?_
    rintro e w10 ⟨v, rfl, ⟨bb, rfl⟩, hR10, hK10⟩
    have oO10 := oOt.keep hK10
    have oR10 := oRt.keep hK10
    have hK0 := hKt.trans hK10
    have hl0 := hlt
    cases bb
    · obtain ⟨p0, p1, pf0, pf1, plt⟩ := id oO10
      obtain ⟨q0, q1, qf0, qf1, qlt⟩ := id oR10
      go_wp2_with fail
      refine bodyPost_ret (v := .agg #[.int .i64 _, .int .i64 _]) (by simp [results, Try.results62, go_sem, q0, q1]; exact ⟨rfl, rfl⟩) rfl ⟨_, rfl, ⟨_, _, rfl⟩, ?_, ?_⟩
      · exact ((hR10.setNew hl0 _).setNew hl0 _).mono (by omega)
      · exact (hK0.setNew (Nat.le_refl _) _).setNew (Nat.le_refl _) _
    · go_wp2_with fail
      refine (pick _ hR10 (by omega)).mono ?_
      rintro e w11 ⟨v, rfl, ⟨x11, rfl, y11, z11⟩, hR11, hK11⟩
      obtain ⟨j, rfl⟩ := Int.eq_ofNat_of_zero_le y11
      by_cases hj : (j : Int) = 0
      · have hj0 : ((j : Int) == 0) = true := by simpa using hj
        clear hj
        go_wp2_with fail
        refine (pick _ (hR11.alloc _) (by omega)).mono ?_
        rintro e w12 ⟨v, rfl, ⟨x12, rfl, y12, z12⟩, hR12, hK12⟩
        obtain ⟨k, rfl⟩ := Int.eq_ofNat_of_zero_le y12
        have hk : k < 2 := by omega
        have hk' : (k : Int) < 2 := by omega
        obtain ⟨m, hm⟩ := lit_pick hK12 hR11.lt rfl (k := k) hk
        have hKa := hK11.trans (((Keep.refl _ _).alloc _).trans hK12)
        have oO12 := oO10.keep hKa
        have oR12 := oR10.keep hKa
        obtain ⟨p0, p1, pf0, pf1, plt⟩ := id oO12
        obtain ⟨q0, q1, qf0, qf1, qlt⟩ := id oR12
        go_wp2_with fail
        refine bodyPost_ret (v := .agg #[.int .i64 _, .int .i64 _]) (by simp [results, Try.results62, go_sem, q0, q1]; exact ⟨rfl, rfl⟩) rfl ⟨_, rfl, ⟨_, _, rfl⟩, ?_, ?_⟩
        · exact (((hR12.setNew hll _).setNew hl0 _).setNew hl0 _).mono (by omega)
        · exact (((hK0.trans hKa).setNew hle _).setNew (Nat.le_refl _) _).setNew (Nat.le_refl _) _
      · have hj0 : ((j : Int) == 0) = false := by simpa using hj
        clear hj
        go_wp2_with fail
        refine (pick _ (hR11.alloc _) (by omega)).mono ?_
        rintro e w12 ⟨v, rfl, ⟨x12, rfl, y12, z12⟩, hR12, hK12⟩
        obtain ⟨k, rfl⟩ := Int.eq_ofNat_of_zero_le y12
        have hk : k < 3 := by omega
        have hk' : (k : Int) < 3 := by omega
        obtain ⟨m, hm⟩ := lit_pick hK12 hR11.lt rfl (k := k) hk
        have hKa := hK11.trans (((Keep.refl _ _).alloc _).trans hK12)
        have oO12 := oO10.keep hKa
        have oR12 := oR10.keep hKa
        obtain ⟨p0, p1, pf0, pf1, plt⟩ := id oO12
        obtain ⟨q0, q1, qf0, qf1, qlt⟩ := id oR12
        go_wp2_with fail
        refine bodyPost_ret (v := .agg #[.int .i64 _, .int .i64 _]) (by simp [results, Try.results62, go_sem, q0, q1]; exact ⟨rfl, rfl⟩) rfl ⟨_, rfl, ⟨_, _, rfl⟩, ?_, ?_⟩
        · exact (((hR12.setNew hll _).setNew hl0 _).setNew hl0 _).mono (by omega)
        · exact (((hK0.trans hKa).setNew hle _).setNew (Nat.le_refl _) _).setNew (Nat.le_refl _) _
  · have hRt := hR2.mono (show B + 1 ≤ B + 8 by omega)
    have oOt := oO2
    have oRt := oR2
    have hKt := hK2
    go_wp2_with fail
    refine (odd _ hRt (by omega)).mono ?_
    rintro e w10 ⟨v, rfl, ⟨bb, rfl⟩, hR10, hK10⟩
    have oO10 := oOt.keep hK10
    have oR10 := oRt.keep hK10
    have hK0 := hKt.trans hK10
    have hl0 := hlt
    cases bb
    · obtain ⟨p0, p1, pf0, pf1, plt⟩ := id oO10
      obtain ⟨q0, q1, qf0, qf1, qlt⟩ := id oR10
      go_wp2_with fail
      refine bodyPost_ret (v := .agg #[.int .i64 _, .int .i64 _]) (by simp [results, Try.results62, go_sem, q0, q1]; exact ⟨rfl, rfl⟩) rfl ⟨_, rfl, ⟨_, _, rfl⟩, ?_, ?_⟩
      · exact ((hR10.setNew hl0 _).setNew hl0 _).mono (by omega)
      · exact (hK0.setNew (Nat.le_refl _) _).setNew (Nat.le_refl _) _
    · go_wp2_with fail
      refine (pick _ hR10 (by omega)).mono ?_
      rintro e w11 ⟨v, rfl, ⟨x11, rfl, y11, z11⟩, hR11, hK11⟩
      obtain ⟨j, rfl⟩ := Int.eq_ofNat_of_zero_le y11
      by_cases hj : (j : Int) = 0
      · have hj0 : ((j : Int) == 0) = true := by simpa using hj
        clear hj
        go_wp2_with fail
        refine (pick _ (hR11.alloc _) (by omega)).mono ?_
        rintro e w12 ⟨v, rfl, ⟨x12, rfl, y12, z12⟩, hR12, hK12⟩
        obtain ⟨k, rfl⟩ := Int.eq_ofNat_of_zero_le y12
        have hk : k < 2 := by omega
        have hk' : (k : Int) < 2 := by omega
        obtain ⟨m, hm⟩ := lit_pick hK12 hR11.lt rfl (k := k) hk
        have hKa := hK11.trans (((Keep.refl _ _).alloc _).trans hK12)
        have oO12 := oO10.keep hKa
        have oR12 := oR10.keep hKa
        obtain ⟨p0, p1, pf0, pf1, plt⟩ := id oO12
        obtain ⟨q0, q1, qf0, qf1, qlt⟩ := id oR12
        go_wp2_with fail
        refine bodyPost_ret (v := .agg #[.int .i64 _, .int .i64 _]) (by simp [results, Try.results62, go_sem, q0, q1]; exact ⟨rfl, rfl⟩) rfl ⟨_, rfl, ⟨_, _, rfl⟩, ?_, ?_⟩
        · exact (((hR12.setNew hll _).setNew hl0 _).setNew hl0 _).mono (by omega)
        · exact (((hK0.trans hKa).setNew hle _).setNew (Nat.le_refl _) _).setNew (Nat.le_refl _) _
      · have hj0 : ((j : Int) == 0) = false := by simpa using hj
        clear hj
        go_wp2_with fail
        refine (pick _ (hR11.alloc _) (by omega)).mono ?_
        rintro e w12 ⟨v, rfl, ⟨x12, rfl, y12, z12⟩, hR12, hK12⟩
        obtain ⟨k, rfl⟩ := Int.eq_ofNat_of_zero_le y12
        have hk : k < 3 := by omega
        have hk' : (k : Int) < 3 := by omega
        obtain ⟨m, hm⟩ := lit_pick hK12 hR11.lt rfl (k := k) hk
        have hKa := hK11.trans (((Keep.refl _ _).alloc _).trans hK12)
        have oO12 := oO10.keep hKa
        have oR12 := oR10.keep hKa
        obtain ⟨p0, p1, pf0, pf1, plt⟩ := id oO12
        obtain ⟨q0, q1, qf0, qf1, qlt⟩ := id oR12
        go_wp2_with fail
        refine bodyPost_ret (v := .agg #[.int .i64 _, .int .i64 _]) (by simp [results, Try.results62, go_sem, q0, q1]; exact ⟨rfl, rfl⟩) rfl ⟨_, rfl, ⟨_, _, rfl⟩, ?_, ?_⟩
        · exact (((hR12.setNew hll _).setNew hl0 _).setNew hl0 _).mono (by omega)
        · exact (((hK0.trans hKa).setNew hle _).setNew (Nat.le_refl _) _).setNew (Nat.le_refl _) _
  · go_wp2_with fail
    refine (pick _ hR2 (by omega)).mono ?_
    rintro e w3 ⟨v, rfl, ⟨x3, rfl, y3, z3⟩, hR3, hK3⟩
    have oO3 := oO2.keep hK3
    have oR3 := oR2.keep hK3
    obtain ⟨p0, p1, pf0, pf1, plt⟩ := id oO3
    have hRt := (hR3.setNew (p := ⟨w1.heap.size, 1, none⟩) hll (.int .i64 x3)).mono (show B + 1 + 1 ≤ B + 8 by omega)
    have oOt := oO3.set1 x3
    have oRt := oR3.other (i := 1) hne' (.int .i64 x3)
    have hKt := (hK2.trans hK3).setNew (p := ⟨w1.heap.size, 1, none⟩) hle (.int .i64 x3)
    go_wp2_with fail
    refine (odd _ hRt (by omega)).mono ?_
    rintro e w10 ⟨v, rfl, ⟨bb, rfl⟩, hR10, hK10⟩
    have oO10 := oOt.keep hK10
    have oR10 := oRt.keep hK10
    have hK0 := hKt.trans hK10
    have hl0 := hlt
    cases bb
    · obtain ⟨p0, p1, pf0, pf1, plt⟩ := id oO10
      obtain ⟨q0, q1, qf0, qf1, qlt⟩ := id oR10
      go_wp2_with fail
      refine bodyPost_ret (v := .agg #[.int .i64 _, .int .i64 _]) (by simp [results, Try.results62, go_sem, q0, q1]; exact ⟨rfl, rfl⟩) rfl ⟨_, rfl, ⟨_, _, rfl⟩, ?_, ?_⟩
      · exact ((hR10.setNew hl0 _).setNew hl0 _).mono (by omega)
      · exact (hK0.setNew (Nat.le_refl _) _).setNew (Nat.le_refl _) _
    · go_wp2_with fail
      refine (pick _ hR10 (by omega)).mono ?_
      rintro e w11 ⟨v, rfl, ⟨x11, rfl, y11, z11⟩, hR11, hK11⟩
      obtain ⟨j, rfl⟩ := Int.eq_ofNat_of_zero_le y11
      by_cases hj : (j : Int) = 0
      · have hj0 : ((j : Int) == 0) = true := by simpa using hj
        clear hj
        go_wp2_with fail
        refine (pick _ (hR11.alloc _) (by omega)).mono ?_
        rintro e w12 ⟨v, rfl, ⟨x12, rfl, y12, z12⟩, hR12, hK12⟩
        obtain ⟨k, rfl⟩ := Int.eq_ofNat_of_zero_le y12
        have hk : k < 2 := by omega
        have hk' : (k : Int) < 2 := by omega
        obtain ⟨m, hm⟩ := lit_pick hK12 hR11.lt rfl (k := k) hk
        have hKa := hK11.trans (((Keep.refl _ _).alloc _).trans hK12)
        have oO12 := oO10.keep hKa
        have oR12 := oR10.keep hKa
        obtain ⟨p0, p1, pf0, pf1, plt⟩ := id oO12
        obtain ⟨q0, q1, qf0, qf1, qlt⟩ := id oR12
        go_wp2_with fail
        refine bodyPost_ret (v := .agg #[.int .i64 _, .int .i64 _]) (by simp [results, Try.results62, go_sem, q0, q1]; exact ⟨rfl, rfl⟩) rfl ⟨_, rfl, ⟨_, _, rfl⟩, ?_, ?_⟩
        · exact (((hR12.setNew hll _).setNew hl0 _).setNew hl0 _).mono (by omega)
        · exact (((hK0.trans hKa).setNew hle _).setNew (Nat.le_refl _) _).setNew (Nat.le_refl _) _
      · have hj0 : ((j : Int) == 0) = false := by simpa using hj
        clear hj
        go_wp2_with fail
        refine (pick _ (hR11.alloc _) (by omega)).mono ?_
        rintro e w12 ⟨v, rfl, ⟨x12, rfl, y12, z12⟩, hR12, hK12⟩
        obtain ⟨k, rfl⟩ := Int.eq_ofNat_of_zero_le y12
        have hk : k < 3 := by omega
        have hk' : (k : Int) < 3 := by omega
        obtain ⟨m, hm⟩ := lit_pick hK12 hR11.lt rfl (k := k) hk
        have hKa := hK11.trans (((Keep.refl _ _).alloc _).trans hK12)
        have oO12 := oO10.keep hKa
        have oR12 := oR10.keep hKa
        obtain ⟨p0, p1, pf0, pf1, plt⟩ := id oO12
        obtain ⟨q0, q1, qf0, qf1, qlt⟩ := id oR12
        go_wp2_with fail
        refine bodyPost_ret (v := .agg #[.int .i64 _, .int .i64 _]) (by simp [results, Try.results62, go_sem, q0, q1]; exact ⟨rfl, rfl⟩) rfl ⟨_, rfl, ⟨_, _, rfl⟩, ?_, ?_⟩
        · exact (((hR12.setNew hll _).setNew hl0 _).setNew hl0 _).mono (by omega)
        · exact (((hK0.trans hKa).setNew hle _).setNew (Nat.le_refl _) _).setNew (Nat.le_refl _) _
  · go_wp2_with fail
    refine (pick _ hR2 (by omega)).mono ?_
    rintro e w3 ⟨v, rfl, ⟨x3, rfl, y3, z3⟩, hR3, hK3⟩
    go_wp2_with fail
    refine (pick _ hR3 (by omega)).mono ?_
    rintro e w4 ⟨v, rfl, ⟨x4, rfl, y4, z4⟩, hR4, hK4⟩
    go_wp2_with fail
    refine (pick _ hR4 (by omega)).mono ?_
    rintro e w5 ⟨v, rfl, ⟨x5, rfl, y5, z5⟩, hR5, hK5⟩
    go_wp2_with fail
    refine (pick _ hR5 (by omega)).mono ?_
    rintro e w6 ⟨v, rfl, ⟨x6, rfl, y6, z6⟩, hR6, hK6⟩
    go_wp2_with fail
    refine (pick _ hR6 (by omega)).mono ?_
    rintro e w7 ⟨v, rfl, ⟨x7, rfl, y7, z7⟩, hR7, hK7⟩
    go_wp2_with fail
    refine (pick _ (hR7.alloc _) (by omega)).mono ?_
    rintro e w8 ⟨v, rfl, ⟨x8, rfl, y8, z8⟩, hR8, hK8⟩
    obtain ⟨k, rfl⟩ := Int.eq_ofNat_of_zero_le y8
    have hk : k < 5 := by omega
    have hk' : (k : Int) < 5 := by omega
    obtain ⟨m, hm⟩ := lit_pick hK8 hR7.lt rfl (k := k) hk
    have hKa := (hK3.trans (hK4.trans (hK5.trans (hK6.trans hK7)))).trans (((Keep.refl _ _).alloc _).trans hK8)
    have oO8 := oO2.keep hKa
    have oR8 := oR2.keep hKa
    obtain ⟨p0, p1, pf0, pf1, plt⟩ := id oO8
    have hRt := (hR8.setNew (p := ⟨w1.heap.size, 1, none⟩) hll (.int .i64 m)).mono (show B + 1 + 1 + 1 + 1 + 1 + 1 + 1 ≤ B + 8 by omega)
    have oOt := oO8.set1 m
    have oRt := oR8.other (i := 1) hne' (.int .i64 m)
    have hKt := (hK2.trans hKa).setNew (p := ⟨w1.heap.size, 1, none⟩) hle (.int .i64 m)
    go_wp2_with fail
    refine (odd _ hRt (by omega)).mono ?_
    rintro e w10 ⟨v, rfl, ⟨bb, rfl⟩, hR10, hK10⟩
    have oO10 := oOt.keep hK10
    have oR10 := oRt.keep hK10
    have hK0 := hKt.trans hK10
    have hl0 := hlt
    cases bb
    · obtain ⟨p0, p1, pf0, pf1, plt⟩ := id oO10
      obtain ⟨q0, q1, qf0, qf1, qlt⟩ := id oR10
      go_wp2_with fail
      refine bodyPost_ret (v := .agg #[.int .i64 _, .int .i64 _]) (by simp [results, Try.results62, go_sem, q0, q1]; exact ⟨rfl, rfl⟩) rfl ⟨_, rfl, ⟨_, _, rfl⟩, ?_, ?_⟩
      · exact ((hR10.setNew hl0 _).setNew hl0 _).mono (by omega)
      · exact (hK0.setNew (Nat.le_refl _) _).setNew (Nat.le_refl _) _
    · go_wp2_with fail
      refine (pick _ hR10 (by omega)).mono ?_
      rintro e w11 ⟨v, rfl, ⟨x11, rfl, y11, z11⟩, hR11, hK11⟩
      obtain ⟨j, rfl⟩ := Int.eq_ofNat_of_zero_le y11
      by_cases hj : (j : Int) = 0
      · have hj0 : ((j : Int) == 0) = true := by simpa using hj
        clear hj
        go_wp2_with fail
        refine (pick _ (hR11.alloc _) (by omega)).mono ?_
        rintro e w12 ⟨v, rfl, ⟨x12, rfl, y12, z12⟩, hR12, hK12⟩
        obtain ⟨k, rfl⟩ := Int.eq_ofNat_of_zero_le y12
        have hk : k < 2 := by omega
        have hk' : (k : Int) < 2 := by omega
        obtain ⟨m, hm⟩ := lit_pick hK12 hR11.lt rfl (k := k) hk
        have hKa := hK11.trans (((Keep.refl _ _).alloc _).trans hK12)
        have oO12 := oO10.keep hKa
        have oR12 := oR10.keep hKa
        obtain ⟨p0, p1, pf0, pf1, plt⟩ := id oO12
        obtain ⟨q0, q1, qf0, qf1, qlt⟩ := id oR12
        go_wp2_with fail
        refine bodyPost_ret (v := .agg #[.int .i64 _, .int .i64 _]) (by simp [results, Try.results62, go_sem, q0, q1]; exact ⟨rfl, rfl⟩) rfl ⟨_, rfl, ⟨_, _, rfl⟩, ?_, ?_⟩
        · exact (((hR12.setNew hll _).setNew hl0 _).setNew hl0 _).mono (by omega)
        · exact (((hK0.trans hKa).setNew hle _).setNew (Nat.le_refl _) _).setNew (Nat.le_refl _) _
      · have hj0 : ((j : Int) == 0) = false := by simpa using hj
        clear hj
        go_wp2_with fail
        refine (pick _ (hR11.alloc _) (by omega)).mono ?_
        rintro e w12 ⟨v, rfl, ⟨x12, rfl, y12, z12⟩, hR12, hK12⟩
        obtain ⟨k, rfl⟩ := Int.eq_ofNat_of_zero_le y12
        have hk : k < 3 := by omega
        have hk' : (k : Int) < 3 := by omega
        obtain ⟨m, hm⟩ := lit_pick hK12 hR11.lt rfl (k := k) hk
        have hKa := hK11.trans (((Keep.refl _ _).alloc _).trans hK12)
        have oO12 := oO10.keep hKa
        have oR12 := oR10.keep hKa
        obtain ⟨p0, p1, pf0, pf1, plt⟩ := id oO12
        obtain ⟨q0, q1, qf0, qf1, qlt⟩ := id oR12
        go_wp2_with fail
        refine bodyPost_ret (v := .agg #[.int .i64 _, .int .i64 _]) (by simp [results, Try.results62, go_sem, q0, q1]; exact ⟨rfl, rfl⟩) rfl ⟨_, rfl, ⟨_, _, rfl⟩, ?_, ?_⟩
        · exact (((hR12.setNew hll _).setNew hl0 _).setNew hl0 _).mono (by omega)
        · exact (((hK0.trans hKa).setNew hle _).setNew (Nat.le_refl _) _).setNew (Nat.le_refl _) _

theorem box_through {w w0 w1 : World} {rb : Nat} {a b : Int} {t : TypeId} (hB0 : Below (w.alloc (.cells #[.int .i64 a, .int .i64 b] t)).heap.size (w.alloc (.cells #[.int .i64 a, .int .i64 b] t)) w0)
    (hrb : (w.alloc (.cells #[.int .i64 a, .int .i64 b] t)).heap.size ≤ rb) (hK1 : Keep rb w0 w1) :
    w1.cell? ⟨w.heap.size, 0, none⟩ = some (.int .i64 a) ∧ w1.cell? ⟨w.heap.size, 1, none⟩ = some (.int .i64 b) ∧ w1.frozen? ⟨w.heap.size, 0, none⟩ = false ∧ w1.frozen? ⟨w.heap.size, 1, none⟩ = false := by
  have hs : w.heap.size < (w.alloc (.cells #[.int .i64 a, .int .i64 b] t)).heap.size := by simp
  have hs0 : w.heap.size < w0.heap.size := Nat.lt_of_lt_of_le hs hB0.size
  have hn : w.heap.size ≠ rb := by omega
  refine ⟨(hK1.cells.1 _ _ hs0 hn).trans ((hB0.cell (p := ⟨w.heap.size, 0, none⟩) hs).trans ?_), (hK1.cells.1 _ _ hs0 hn).trans ((hB0.cell (p := ⟨w.heap.size, 1, none⟩) hs).trans ?_),
    (hK1.cells.2 _ _ hs0 hn).trans ((hB0.frozen (p := ⟨w.heap.size, 0, none⟩) hs).trans ?_), (hK1.cells.2 _ _ hs0 hn).trans ((hB0.frozen (p := ⟨w.heap.size, 1, none⟩) hs).trans ?_)⟩ <;> simp [go_sem]
end Go.Proofs.Ytlnpmanghkeieaa
