/- The drawn machines, whole, and with a number. No condition. -/
import Derived.Test.YtkkgolgmhckgoaaDrawMach
import Derived.Test.YtkkgolgmhckgoaaDrawMems
import Derived.Test.YtkkgolgmhckgoaaMerge
import Derived.Test.YtkkgolgmhckgoaaMachFns
namespace Go.Proofs.Ytkkgolgmhckgoaa
open Go.RowKit
set_option linter.unusedVariables false
set_option linter.unusedSimpArgs false
attribute [local go_sem ↓] Go.wp_at_zero Go.wp_at_succ

def DrawnMach (w : World) (e : Ending) (w' : World) : Prop := ∃ v m, e = .returned v ∧ MachV w' v m ∧ m.ram.length ≤ 256 ∧ Below w.heap.size w w'
def DrawnMach1 (w : World) (e : Ending) (w' : World) : Prop := ∃ v m x, e = .returned (.tuple #[v, .int .i64 x]) ∧ MachV w' v m ∧ m.ram.length ≤ 256 ∧ Below w.heap.size w w'
theorem readerNine {W : World} {rb B b : Nat} (h : Reader W rb B) (n : Nine W b (.slice none 0 0) (.slice none 0 0) (.int .i64 0) (.int .i64 0) (.int .i64 0) (.bool false) (.slice none 0 0) (.bool false) (.int .i64 0)) (hb : b ≠ rb) (y0 y1 y2 y3 y4 y5 y6 y7 y8 : Value) : Reader (((((((((W.setCell ⟨b, 0, none⟩ y0).setCell ⟨b, 1, none⟩ y1).setCell ⟨b, 2, none⟩ y2).setCell ⟨b, 3, none⟩ y3).setCell ⟨b, 4, none⟩ y4).setCell ⟨b, 5, none⟩ y5).setCell ⟨b, 6, none⟩ y6).setCell ⟨b, 7, none⟩ y7).setCell ⟨b, 8, none⟩ y8) rb B := by
  have h0 := h.setOld n.c0 (by intro k; simp) hb y0
  have n0 := n.set0 y0
  have h1 := h0.setOld n0.c1 (by intro k; simp) hb y1
  have n1 := n0.set1 y1
  have h2 := h1.setOld n1.c2 (by intro k; simp) hb y2
  have n2 := n1.set2 y2
  have h3 := h2.setOld n2.c3 (by intro k; simp) hb y3
  have n3 := n2.set3 y3
  have h4 := h3.setOld n3.c4 (by intro k; simp) hb y4
  have n4 := n3.set4 y4
  have h5 := h4.setOld n4.c5 (by intro k; simp) hb y5
  have n5 := n4.set5 y5
  have h6 := h5.setOld n5.c6 (by intro k; simp) hb y6
  have n6 := n5.set6 y6
  have h7 := h6.setOld n6.c7 (by intro k; simp) hb y7
  have n7 := n6.set7 y7
  exact h7.setOld n7.c8 (by intro k; simp) hb y8
/-- A draw that holds a machine (in the box n1) and has not ended: its result's box is block w.heap.size. -/
structure MidM (w : World) (L rb n1 B : Nat) (v x0 x1 x2 x3 x4 x5 x6 x7 x8 y0 y1 y2 y3 y4 y5 y6 y7 y8 : Value) (m : Mach) (W : World) : Prop where
  mach : MachA L W v m
  bel : Below w.heap.size w W
  nine : Nine W n1 x0 x1 x2 x3 x4 x5 x6 x7 x8
  rd : Reader W rb B
  box : Nine W w.heap.size y0 y1 y2 y3 y4 y5 y6 y7 y8
  l1 : w.heap.size < rb
  l2 : rb < L
  l3 : rb < n1
section
variable {w W W' : World} {L rb n1 B B' : Nat} {v x0 x1 x2 x3 x4 x5 x6 x7 x8 y0 y1 y2 y3 y4 y5 y6 y7 y8 : Value} {m : Mach}
theorem MidM.keep (h : MidM w L rb n1 B v x0 x1 x2 x3 x4 x5 x6 x7 x8 y0 y1 y2 y3 y4 y5 y6 y7 y8 m W) (hK : Keep rb W W') (hR : Reader W' rb B') : MidM w L rb n1 B' v x0 x1 x2 x3 x4 x5 x6 x7 x8 y0 y1 y2 y3 y4 y5 y6 y7 y8 m W' := by
  obtain ⟨ma, b, s, r, bx, l1, l2, l3⟩ := h
  exact ⟨ma.keep hK l2, hK.below b (Nat.le_of_lt l1), s.keep hK (by omega), hR, bx.keep hK (by omega), l1, l2, l3⟩
theorem MidM.drew (h : MidM w L rb n1 B v x0 x1 x2 x3 x4 x5 x6 x7 x8 y0 y1 y2 y3 y4 y5 y6 y7 y8 m W) : MidM w L rb n1 B v x0 x1 x2 x3 x4 x5 x6 x7 x8 y0 y1 y2 y3 y4 y5 y6 y7 y8 m W.drew := h.keep (Keep.refl _ _).drew h.rd.drewM
theorem MidM.alloc (h : MidM w L rb n1 B v x0 x1 x2 x3 x4 x5 x6 x7 x8 y0 y1 y2 y3 y4 y5 y6 y7 y8 m W) (o : Obj) : MidM w L rb n1 B v x0 x1 x2 x3 x4 x5 x6 x7 x8 y0 y1 y2 y3 y4 y5 y6 y7 y8 m (W.alloc o) := h.keep ((Keep.refl _ _).alloc o) (h.rd.alloc o)
theorem MidM.setBox (h : MidM w L rb n1 B v x0 x1 x2 x3 x4 x5 x6 x7 x8 (.slice none 0 0) (.slice none 0 0) (.int .i64 0) (.int .i64 0) (.int .i64 0) (.bool false) (.slice none 0 0) (.bool false) (.int .i64 0) m W) (z0 z1 z2 z3 z4 z5 z6 z7 z8 : Value) : MidM w L rb n1 B v x0 x1 x2 x3 x4 x5 x6 x7 x8 z0 z1 z2 z3 z4 z5 z6 z7 z8 m (((((((((W.setCell ⟨w.heap.size, 0, none⟩ z0).setCell ⟨w.heap.size, 1, none⟩ z1).setCell ⟨w.heap.size, 2, none⟩ z2).setCell ⟨w.heap.size, 3, none⟩ z3).setCell ⟨w.heap.size, 4, none⟩ z4).setCell ⟨w.heap.size, 5, none⟩ z5).setCell ⟨w.heap.size, 6, none⟩ z6).setCell ⟨w.heap.size, 7, none⟩ z7).setCell ⟨w.heap.size, 8, none⟩ z8) := by
  obtain ⟨ma, b, s, r, bx, l1, l2, l3⟩ := h
  have hL : w.heap.size < L := by omega
  have hN : n1 ≠ w.heap.size := by omega
  refine ⟨(((((((((ma.set (p := ⟨w.heap.size, 0, none⟩) hL _).set (p := ⟨w.heap.size, 1, none⟩) hL _).set (p := ⟨w.heap.size, 2, none⟩) hL _).set (p := ⟨w.heap.size, 3, none⟩) hL _).set (p := ⟨w.heap.size, 4, none⟩) hL _).set (p := ⟨w.heap.size, 5, none⟩) hL _).set (p := ⟨w.heap.size, 6, none⟩) hL _).set (p := ⟨w.heap.size, 7, none⟩) hL _).set (p := ⟨w.heap.size, 8, none⟩) hL _), (((((((((b.setCell (p := ⟨w.heap.size, 0, none⟩) (Nat.le_refl _) _).setCell (p := ⟨w.heap.size, 1, none⟩) (Nat.le_refl _) _).setCell (p := ⟨w.heap.size, 2, none⟩) (Nat.le_refl _) _).setCell (p := ⟨w.heap.size, 3, none⟩) (Nat.le_refl _) _).setCell (p := ⟨w.heap.size, 4, none⟩) (Nat.le_refl _) _).setCell (p := ⟨w.heap.size, 5, none⟩) (Nat.le_refl _) _).setCell (p := ⟨w.heap.size, 6, none⟩) (Nat.le_refl _) _).setCell (p := ⟨w.heap.size, 7, none⟩) (Nat.le_refl _) _).setCell (p := ⟨w.heap.size, 8, none⟩) (Nat.le_refl _) _), (Nine.other (Nine.other (Nine.other (Nine.other (Nine.other (Nine.other (Nine.other (Nine.other (Nine.other s (i := 0) hN _) (i := 1) hN _) (i := 2) hN _) (i := 3) hN _) (i := 4) hN _) (i := 5) hN _) (i := 6) hN _) (i := 7) hN _) (i := 8) hN _), readerNine r bx (by omega) _ _ _ _ _ _ _ _ _, nine_set9 bx, l1, l2, l3⟩
end
set_option maxHeartbeats 2000000 in
theorem draw_MachineValid {v : Value} {w : World} (h : IsBytes w v) : Calls Try.prog 20 #[v] w (DrawnMach w) := by
  have H := Lib.hid (h.below ((Below.refl _ _).alloc (Nat.le_refl _) (.cells #[.slice none 0 0, .slice none 0 0, .int .i64 0, .int .i64 0, .int .i64 0, .bool false, .slice none 0 0, .bool false, .int .i64 0] 39)))
  clear h
  go_enter Try.func20, Try.ntmps20
  go_wp2_with fail
  refine (l20Open H.out).mono ?_
  rintro e w0 ⟨rb, rfl, hrb, hR0, hB0⟩
  go_wp2_with fail
  refine (l20Machine _ hR0 (by omega)).mono ?_
  rintro e w1 ⟨v, m, rfl, hm, hr1, hR1, hK1⟩
  obtain ⟨P, Q⟩ := box_thru hB0 hrb hK1
  have hw : w.heap.size < (w.alloc (.cells #[.slice none 0 0, .slice none 0 0, .int .i64 0, .int .i64 0, .int .i64 0, .bool false, .slice none 0 0, .bool false, .int .i64 0] 39)).heap.size := by simp
  have hw0 : w.heap.size < w0.heap.size := Nat.lt_of_lt_of_le hw hB0.size
  have hw1 : w.heap.size < w1.heap.size := Nat.lt_of_lt_of_le hw0 hK1.size
  have hb1 : Below w.heap.size w w1 := hK1.below (((Below.refl _ _).alloc (Nat.le_refl _) _).trans (hB0.mono (by omega))) (by omega)
  have hbx : Nine w1 w.heap.size (.slice none 0 0) (.slice none 0 0) (.int .i64 0) (.int .i64 0) (.int .i64 0) (.bool false) (.slice none 0 0) (.bool false) (.int .i64 0) := by
    have n := nine_lit (W := w) (b := w.heap.size) (e := 39) (x0 := .slice none 0 0) (x1 := .slice none 0 0) (x2 := .int .i64 0) (x3 := .int .i64 0) (x4 := .int .i64 0) (x5 := .bool false) (x6 := .slice none 0 0) (x7 := .bool false) (x8 := .int .i64 0) rfl
    exact ⟨(P 0).trans n.c0, (P 1).trans n.c1, (P 2).trans n.c2, (P 3).trans n.c3, (P 4).trans n.c4, (P 5).trans n.c5, (P 6).trans n.c6, (P 7).trans n.c7, (P 8).trans n.c8, fun i => (Q i).trans (n.fz i)⟩
  obtain ⟨a1, c1, b1, d1, f1, g1, rfl, _, _, _, _, _, _⟩ := machV_shape hm.mach
  have hrL : rb < w0.heap.size := hR0.lt
  have hwr : w.heap.size < rb := by omega
  have hRn : w.heap.size ≠ rb := by omega
  obtain ⟨e0, e1, e2, e3, e4, e5, e6, e7, e8, ef⟩ := id hbx
  have ef0 := ef 0
  have ef1 := ef 1
  have ef2 := ef 2
  have ef3 := ef 3
  have ef4 := ef 4
  have ef5 := ef 5
  have ef6 := ef 6
  have ef7 := ef 7
  have ef8 := ef 8
  clear ef
  have HM := Lib.hid hm
  clear hB0 hrb hR0 hR1 hK1 P Q hm
  go_wp2_with fail
  refine bodyPost_ret (v := .agg #[.slice a1 m.ram.length c1, .slice b1 m.rom.length d1, .int .i64 m.bank, .int .i64 m.a, .int .i64 m.pc, .bool m.carry, .slice f1 m.back.length g1, .bool m.stop, .int .i64 m.cyc]) (by simp [results, Try.results20, go_sem, e0, e1, e2, e3, e4, e5, e6, e7, e8]) rfl ⟨_, m, rfl, ?_, hr1, ?_⟩
  · exact ((((((((((HM.out.set (p := ⟨w.heap.size, 0, none⟩) hw0 _).set (p := ⟨w.heap.size, 1, none⟩) hw0 _).set (p := ⟨w.heap.size, 2, none⟩) hw0 _).set (p := ⟨w.heap.size, 3, none⟩) hw0 _).set (p := ⟨w.heap.size, 4, none⟩) hw0 _).set (p := ⟨w.heap.size, 5, none⟩) hw0 _).set (p := ⟨w.heap.size, 6, none⟩) hw0 _).set (p := ⟨w.heap.size, 7, none⟩) hw0 _).set (p := ⟨w.heap.size, 8, none⟩) hw0 _)).mach
  · exact (((((((((hb1.setCell (p := ⟨w.heap.size, 0, none⟩) (Nat.le_refl _) _).setCell (p := ⟨w.heap.size, 1, none⟩) (Nat.le_refl _) _).setCell (p := ⟨w.heap.size, 2, none⟩) (Nat.le_refl _) _).setCell (p := ⟨w.heap.size, 3, none⟩) (Nat.le_refl _) _).setCell (p := ⟨w.heap.size, 4, none⟩) (Nat.le_refl _) _).setCell (p := ⟨w.heap.size, 5, none⟩) (Nat.le_refl _) _).setCell (p := ⟨w.heap.size, 6, none⟩) (Nat.le_refl _) _).setCell (p := ⟨w.heap.size, 7, none⟩) (Nat.le_refl _) _).setCell (p := ⟨w.heap.size, 8, none⟩) (Nat.le_refl _) _)
set_option maxHeartbeats 2000000 in
theorem draw_StepMachine {v : Value} {w : World} (h : IsBytes w v) : Calls Try.prog 35 #[v] w (DrawnMach w) := by
  have H := Lib.hid (h.below ((Below.refl _ _).alloc (Nat.le_refl _) (.cells #[.slice none 0 0, .slice none 0 0, .int .i64 0, .int .i64 0, .int .i64 0, .bool false, .slice none 0 0, .bool false, .int .i64 0] 39)))
  clear h
  go_enter Try.func35, Try.ntmps35
  go_wp2_with fail
  refine (l20Open H.out).mono ?_
  rintro e w0 ⟨rb, rfl, hrb, hR0, hB0⟩
  go_wp2_with fail
  refine (l20Machine _ hR0 (by omega)).mono ?_
  rintro e w1 ⟨v, m, rfl, hm, hr1, hR1, hK1⟩
  obtain ⟨P, Q⟩ := box_thru hB0 hrb hK1
  have hw : w.heap.size < (w.alloc (.cells #[.slice none 0 0, .slice none 0 0, .int .i64 0, .int .i64 0, .int .i64 0, .bool false, .slice none 0 0, .bool false, .int .i64 0] 39)).heap.size := by simp
  have hw0 : w.heap.size < w0.heap.size := Nat.lt_of_lt_of_le hw hB0.size
  have hw1 : w.heap.size < w1.heap.size := Nat.lt_of_lt_of_le hw0 hK1.size
  have hb1 : Below w.heap.size w w1 := hK1.below (((Below.refl _ _).alloc (Nat.le_refl _) _).trans (hB0.mono (by omega))) (by omega)
  have hbx : Nine w1 w.heap.size (.slice none 0 0) (.slice none 0 0) (.int .i64 0) (.int .i64 0) (.int .i64 0) (.bool false) (.slice none 0 0) (.bool false) (.int .i64 0) := by
    have n := nine_lit (W := w) (b := w.heap.size) (e := 39) (x0 := .slice none 0 0) (x1 := .slice none 0 0) (x2 := .int .i64 0) (x3 := .int .i64 0) (x4 := .int .i64 0) (x5 := .bool false) (x6 := .slice none 0 0) (x7 := .bool false) (x8 := .int .i64 0) rfl
    exact ⟨(P 0).trans n.c0, (P 1).trans n.c1, (P 2).trans n.c2, (P 3).trans n.c3, (P 4).trans n.c4, (P 5).trans n.c5, (P 6).trans n.c6, (P 7).trans n.c7, (P 8).trans n.c8, fun i => (Q i).trans (n.fz i)⟩
  obtain ⟨a1, c1, b1, d1, f1, g1, rfl, _, _, _, _, _, _⟩ := machV_shape hm.mach
  have hrL : rb < w0.heap.size := hR0.lt
  have hwr : w.heap.size < rb := by omega
  have hRn : w.heap.size ≠ rb := by omega
  obtain ⟨e0, e1, e2, e3, e4, e5, e6, e7, e8, ef⟩ := id hbx
  have ef0 := ef 0
  have ef1 := ef 1
  have ef2 := ef 2
  have ef3 := ef 3
  have ef4 := ef 4
  have ef5 := ef 5
  have ef6 := ef 6
  have ef7 := ef 7
  have ef8 := ef 8
  clear ef
  have HM := Lib.hid hm
  clear hB0 hrb hR0 hR1 hK1 P Q hm
  go_wp2_with fail
  refine bodyPost_ret (v := .agg #[.slice a1 m.ram.length c1, .slice b1 m.rom.length d1, .int .i64 m.bank, .int .i64 m.a, .int .i64 m.pc, .bool m.carry, .slice f1 m.back.length g1, .bool m.stop, .int .i64 m.cyc]) (by simp [results, Try.results35, go_sem, e0, e1, e2, e3, e4, e5, e6, e7, e8]) rfl ⟨_, m, rfl, ?_, hr1, ?_⟩
  · exact ((((((((((HM.out.set (p := ⟨w.heap.size, 0, none⟩) hw0 _).set (p := ⟨w.heap.size, 1, none⟩) hw0 _).set (p := ⟨w.heap.size, 2, none⟩) hw0 _).set (p := ⟨w.heap.size, 3, none⟩) hw0 _).set (p := ⟨w.heap.size, 4, none⟩) hw0 _).set (p := ⟨w.heap.size, 5, none⟩) hw0 _).set (p := ⟨w.heap.size, 6, none⟩) hw0 _).set (p := ⟨w.heap.size, 7, none⟩) hw0 _).set (p := ⟨w.heap.size, 8, none⟩) hw0 _)).mach
  · exact (((((((((hb1.setCell (p := ⟨w.heap.size, 0, none⟩) (Nat.le_refl _) _).setCell (p := ⟨w.heap.size, 1, none⟩) (Nat.le_refl _) _).setCell (p := ⟨w.heap.size, 2, none⟩) (Nat.le_refl _) _).setCell (p := ⟨w.heap.size, 3, none⟩) (Nat.le_refl _) _).setCell (p := ⟨w.heap.size, 4, none⟩) (Nat.le_refl _) _).setCell (p := ⟨w.heap.size, 5, none⟩) (Nat.le_refl _) _).setCell (p := ⟨w.heap.size, 6, none⟩) (Nat.le_refl _) _).setCell (p := ⟨w.heap.size, 7, none⟩) (Nat.le_refl _) _).setCell (p := ⟨w.heap.size, 8, none⟩) (Nat.le_refl _) _)
end Go.Proofs.Ytkkgolgmhckgoaa
