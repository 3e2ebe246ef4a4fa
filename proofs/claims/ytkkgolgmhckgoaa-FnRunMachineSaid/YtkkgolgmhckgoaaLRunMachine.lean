/- The law FnRunMachine: for every input it answers true, and changes nothing that was there (with the drawn machines that it uses ahead of it). No condition. -/
import Derived.Test.YtkkgolgmhckgoaaDrawMach
import Derived.Test.YtkkgolgmhckgoaaDrawMems
import Derived.Test.YtkkgolgmhckgoaaMerge
import Derived.Test.YtkkgolgmhckgoaaMachFns
import Derived.Test.YtkkgolgmhckgoaaDrawByte
import Derived.Test.YtkkgolgmhckgoaaMemRead
import Derived.Test.YtkkgolgmhckgoaaCellsN
import Derived.Deep.RegionHeld3
import Derived.Deep.RegionWith
import Derived.Deep.DrawnRows
import Derived.Test.YtkkgolgmhckgoaaMachA
import Derived.Test.YtkkgolgmhckgoaaMachB
section
/- The drawn machines, whole, and with a number. No condition. -/
namespace Go.Proofs.Ytkkgolgmhckgoaa
open Go.RowKit
set_option linter.unusedVariables false
set_option linter.unusedSimpArgs false
attribute [local go_sem ↓] Go.wp_at_zero Go.wp_at_succ

def DrawnMach (w : World) (e : Ending) (w' : World) : Prop := ∃ v m, e = .returned v ∧ MachV w' v m ∧ (m.ram.length ≤ 256 ∧ m.cyc ≤ 1000) ∧ Below w.heap.size w w'
def DrawnMach1 (w : World) (e : Ending) (w' : World) : Prop := ∃ v m x, e = .returned (.tuple #[v, .int .i64 x]) ∧ MachV w' v m ∧ (m.ram.length ≤ 256 ∧ m.cyc ≤ 1000) ∧ Below w.heap.size w w'
theorem readerNine {W : World} {rb B b : Nat} (h : Reader W rb B) (n : Nine W b (.slice none 0 0) (.slice none 0 0) (.int .i64 0) (.int .i64 0) (.int .i64 0) (.bool false) (.slice none 0 0) (.bool false) (.int .i64 0)) (hb : b ≠ rb) (y0 y1 y2 y3 y4 y5 y6 y7 y8 : Value) : Reader (((((((((W.setCell ⟨b, 0, none⟩ y0).setCell ⟨b, 1, none⟩ y1).setCell ⟨b, 2, none⟩ y2).setCell ⟨b, 3, none⟩ y3).setCell ⟨b, 4, none⟩ y4).setCell ⟨b, 5, none⟩ y5).setCell ⟨b, 6, none⟩ y6).setCell ⟨b, 7, none⟩ y7).setCell ⟨b, 8, none⟩ y8) rb B := by
  have h0 := h.setOld n.c0 (by intro k; simp) hb y0
  have n0 := n.set0 y0
  have h1 := h0.setOld n0.c1 (by intro k; simp) hb y1
  have n1 := n0.set1 y1
  have h2 := h1.setOld n1.c2 (by intro k; simp) hb y2
  have n2 := n1.set2 y2
  have h3 := h2.setOld n2.c3 (by intro k; simp) hb y3
  have n3 := n2.set3 y3
  have h4 := h3.setOld n3.c4 (by intro k; simp) hb y4
  have n4 := n3.set4 y4
  have h5 := h4.setOld n4.c5 (by intro k; simp) hb y5
  have n5 := n4.set5 y5
  have h6 := h5.setOld n5.c6 (by intro k; simp) hb y6
  have n6 := n5.set6 y6
  have h7 := h6.setOld n6.c7 (by intro k; simp) hb y7
  have n7 := n6.set7 y7
  exact h7.setOld n7.c8 (by intro k; simp) hb y8
/-- A draw that holds a machine (in the box n1) and has not ended: its result's box is block w.heap.size. -/
structure MidM (w : World) (L rb n1 B : Nat) (v x0 x1 x2 x3 x4 x5 x6 x7 x8 y0 y1 y2 y3 y4 y5 y6 y7 y8 : Value) (m : Mach) (W : World) : Prop where
  mach : MachA L W v m
  bel : Below w.heap.size w W
  nine : Nine W n1 x0 x1 x2 x3 x4 x5 x6 x7 x8
  rd : Reader W rb B
  box : Nine W w.heap.size y0 y1 y2 y3 y4 y5 y6 y7 y8
  l1 : w.heap.size < rb
  l2 : rb < L
  l3 : rb < n1
section
variable {w W W' : World} {L rb n1 B B' : Nat} {v x0 x1 x2 x3 x4 x5 x6 x7 x8 y0 y1 y2 y3 y4 y5 y6 y7 y8 : Value} {m : Mach}
theorem MidM.keep (h : MidM w L rb n1 B v x0 x1 x2 x3 x4 x5 x6 x7 x8 y0 y1 y2 y3 y4 y5 y6 y7 y8 m W) (hK : Keep rb W W') (hR : Reader W' rb B') : MidM w L rb n1 B' v x0 x1 x2 x3 x4 x5 x6 x7 x8 y0 y1 y2 y3 y4 y5 y6 y7 y8 m W' := by
  obtain ⟨ma, b, s, r, bx, l1, l2, l3⟩ := h
  exact ⟨ma.keep hK l2, hK.below b (Nat.le_of_lt l1), s.keep hK (by omega), hR, bx.keep hK (by omega), l1, l2, l3⟩
theorem MidM.drew (h : MidM w L rb n1 B v x0 x1 x2 x3 x4 x5 x6 x7 x8 y0 y1 y2 y3 y4 y5 y6 y7 y8 m W) : MidM w L rb n1 B v x0 x1 x2 x3 x4 x5 x6 x7 x8 y0 y1 y2 y3 y4 y5 y6 y7 y8 m W.drew := h.keep (Keep.refl _ _).drew h.rd.drewM
theorem MidM.alloc (h : MidM w L rb n1 B v x0 x1 x2 x3 x4 x5 x6 x7 x8 y0 y1 y2 y3 y4 y5 y6 y7 y8 m W) (o : Obj) : MidM w L rb n1 B v x0 x1 x2 x3 x4 x5 x6 x7 x8 y0 y1 y2 y3 y4 y5 y6 y7 y8 m (W.alloc o) := h.keep ((Keep.refl _ _).alloc o) (h.rd.alloc o)
theorem MidM.setBox (h : MidM w L rb n1 B v x0 x1 x2 x3 x4 x5 x6 x7 x8 (.slice none 0 0) (.slice none 0 0) (.int .i64 0) (.int .i64 0) (.int .i64 0) (.bool false) (.slice none 0 0) (.bool false) (.int .i64 0) m W) (z0 z1 z2 z3 z4 z5 z6 z7 z8 : Value) : MidM w L rb n1 B v x0 x1 x2 x3 x4 x5 x6 x7 x8 z0 z1 z2 z3 z4 z5 z6 z7 z8 m (((((((((W.setCell ⟨w.heap.size, 0, none⟩ z0).setCell ⟨w.heap.size, 1, none⟩ z1).setCell ⟨w.heap.size, 2, none⟩ z2).setCell ⟨w.heap.size, 3, none⟩ z3).setCell ⟨w.heap.size, 4, none⟩ z4).setCell ⟨w.heap.size, 5, none⟩ z5).setCell ⟨w.heap.size, 6, none⟩ z6).setCell ⟨w.heap.size, 7, none⟩ z7).setCell ⟨w.heap.size, 8, none⟩ z8) := by
  obtain ⟨ma, b, s, r, bx, l1, l2, l3⟩ := h
  have hL : w.heap.size < L := by omega
  have hN : n1 ≠ w.heap.size := by omega
  refine ⟨(((((((((ma.set (p := ⟨w.heap.size, 0, none⟩) hL _).set (p := ⟨w.heap.size, 1, none⟩) hL _).set (p := ⟨w.heap.size, 2, none⟩) hL _).set (p := ⟨w.heap.size, 3, none⟩) hL _).set (p := ⟨w.heap.size, 4, none⟩) hL _).set (p := ⟨w.heap.size, 5, none⟩) hL _).set (p := ⟨w.heap.size, 6, none⟩) hL _).set (p := ⟨w.heap.size, 7, none⟩) hL _).set (p := ⟨w.heap.size, 8, none⟩) hL _), (((((((((b.setCell (p := ⟨w.heap.size, 0, none⟩) (Nat.le_refl _) _).setCell (p := ⟨w.heap.size, 1, none⟩) (Nat.le_refl _) _).setCell (p := ⟨w.heap.size, 2, none⟩) (Nat.le_refl _) _).setCell (p := ⟨w.heap.size, 3, none⟩) (Nat.le_refl _) _).setCell (p := ⟨w.heap.size, 4, none⟩) (Nat.le_refl _) _).setCell (p := ⟨w.heap.size, 5, none⟩) (Nat.le_refl _) _).setCell (p := ⟨w.heap.size, 6, none⟩) (Nat.le_refl _) _).setCell (p := ⟨w.heap.size, 7, none⟩) (Nat.le_refl _) _).setCell (p := ⟨w.heap.size, 8, none⟩) (Nat.le_refl _) _), (Nine.other (Nine.other (Nine.other (Nine.other (Nine.other (Nine.other (Nine.other (Nine.other (Nine.other s (i := 0) hN _) (i := 1) hN _) (i := 2) hN _) (i := 3) hN _) (i := 4) hN _) (i := 5) hN _) (i := 6) hN _) (i := 7) hN _) (i := 8) hN _), readerNine r bx (by omega) _ _ _ _ _ _ _ _ _, nine_set9 bx, l1, l2, l3⟩
end
set_option maxHeartbeats 2000000 in
theorem draw_MachineValid {v : Value} {w : World} (h : IsBytes w v) : Calls Try.prog 20 #[v] w (DrawnMach w) := by
  have H := Lib.hid (h.below ((Below.refl _ _).alloc (Nat.le_refl _) (.cells #[.slice none 0 0, .slice none 0 0, .int .i64 0, .int .i64 0, .int .i64 0, .bool false, .slice none 0 0, .bool false, .int .i64 0] 39)))
  clear h
  go_enter Try.func20, Try.ntmps20
  go_wp2_with fail
  refine (l20Open H.out).mono ?_
  rintro e w0 ⟨rb, rfl, hrb, hR0, hB0⟩
  go_wp2_with fail
  refine (l20Machine _ hR0 (by omega)).mono ?_
  rintro e w1 ⟨v, m, rfl, hm, hr1, hR1, hK1⟩
  obtain ⟨P, Q⟩ := box_thru hB0 hrb hK1
  have hw : w.heap.size < (w.alloc (.cells #[.slice none 0 0, .slice none 0 0, .int .i64 0, .int .i64 0, .int .i64 0, .bool false, .slice none 0 0, .bool false, .int .i64 0] 39)).heap.size := by simp
  have hw0 : w.heap.size < w0.heap.size := Nat.lt_of_lt_of_le hw hB0.size
  have hw1 : w.heap.size < w1.heap.size := Nat.lt_of_lt_of_le hw0 hK1.size
  have hb1 : Below w.heap.size w w1 := hK1.below (((Below.refl _ _).alloc (Nat.le_refl _) _).trans (hB0.mono (by omega))) (by omega)
  have hbx : Nine w1 w.heap.size (.slice none 0 0) (.slice none 0 0) (.int .i64 0) (.int .i64 0) (.int .i64 0) (.bool false) (.slice none 0 0) (.bool false) (.int .i64 0) := by
    have n := nine_lit (W := w) (b := w.heap.size) (e := 39) (x0 := .slice none 0 0) (x1 := .slice none 0 0) (x2 := .int .i64 0) (x3 := .int .i64 0) (x4 := .int .i64 0) (x5 := .bool false) (x6 := .slice none 0 0) (x7 := .bool false) (x8 := .int .i64 0) rfl
    exact ⟨(P 0).trans n.c0, (P 1).trans n.c1, (P 2).trans n.c2, (P 3).trans n.c3, (P 4).trans n.c4, (P 5).trans n.c5, (P 6).trans n.c6, (P 7).trans n.c7, (P 8).trans n.c8, fun i => (Q i).trans (n.fz i)⟩
  obtain ⟨a1, c1, b1, d1, f1, g1, rfl, _, _, _, _, _, _⟩ := machV_shape hm.mach
  have hrL : rb < w0.heap.size := hR0.lt
  have hwr : w.heap.size < rb := by omega
  have hRn : w.heap.size ≠ rb := by omega
  obtain ⟨e0, e1, e2, e3, e4, e5, e6, e7, e8, ef⟩ := id hbx
  have ef0 := ef 0
  have ef1 := ef 1
  have ef2 := ef 2
  have ef3 := ef 3
  have ef4 := ef 4
  have ef5 := ef 5
  have ef6 := ef 6
  have ef7 := ef 7
  have ef8 := ef 8
  clear ef
  have HM := Lib.hid hm
  clear hB0 hrb hR0 hR1 hK1 P Q hm
  go_wp2_with fail
  refine bodyPost_ret (v := .agg #[.slice a1 m.ram.length c1, .slice b1 m.rom.length d1, .int .i64 m.bank, .int .i64 m.a, .int .i64 m.pc, .bool m.carry, .slice f1 m.back.length g1, .bool m.stop, .int .i64 m.cyc]) (by simp [results, Try.results20, go_sem, e0, e1, e2, e3, e4, e5, e6, e7, e8]) rfl ⟨_, m, rfl, ?_, hr1, ?_⟩
  · exact ((((((((((HM.out.set (p := ⟨w.heap.size, 0, none⟩) hw0 _).set (p := ⟨w.heap.size, 1, none⟩) hw0 _).set (p := ⟨w.heap.size, 2, none⟩) hw0 _).set (p := ⟨w.heap.size, 3, none⟩) hw0 _).set (p := ⟨w.heap.size, 4, none⟩) hw0 _).set (p := ⟨w.heap.size, 5, none⟩) hw0 _).set (p := ⟨w.heap.size, 6, none⟩) hw0 _).set (p := ⟨w.heap.size, 7, none⟩) hw0 _).set (p := ⟨w.heap.size, 8, none⟩) hw0 _)).mach
  · exact (((((((((hb1.setCell (p := ⟨w.heap.size, 0, none⟩) (Nat.le_refl _) _).setCell (p := ⟨w.heap.size, 1, none⟩) (Nat.le_refl _) _).setCell (p := ⟨w.heap.size, 2, none⟩) (Nat.le_refl _) _).setCell (p := ⟨w.heap.size, 3, none⟩) (Nat.le_refl _) _).setCell (p := ⟨w.heap.size, 4, none⟩) (Nat.le_refl _) _).setCell (p := ⟨w.heap.size, 5, none⟩) (Nat.le_refl _) _).setCell (p := ⟨w.heap.size, 6, none⟩) (Nat.le_refl _) _).setCell (p := ⟨w.heap.size, 7, none⟩) (Nat.le_refl _) _).setCell (p := ⟨w.heap.size, 8, none⟩) (Nat.le_refl _) _)
set_option maxHeartbeats 2000000 in
theorem draw_StepMachine {v : Value} {w : World} (h : IsBytes w v) : Calls Try.prog 35 #[v] w (DrawnMach w) := by
  have H := Lib.hid (h.below ((Below.refl _ _).alloc (Nat.le_refl _) (.cells #[.slice none 0 0, .slice none 0 0, .int .i64 0, .int .i64 0, .int .i64 0, .bool false, .slice none 0 0, .bool false, .int .i64 0] 39)))
  clear h
  go_enter Try.func35, Try.ntmps35
  go_wp2_with fail
  refine (l20Open H.out).mono ?_
  rintro e w0 ⟨rb, rfl, hrb, hR0, hB0⟩
  go_wp2_with fail
  refine (l20Machine _ hR0 (by omega)).mono ?_
  rintro e w1 ⟨v, m, rfl, hm, hr1, hR1, hK1⟩
  obtain ⟨P, Q⟩ := box_thru hB0 hrb hK1
  have hw : w.heap.size < (w.alloc (.cells #[.slice none 0 0, .slice none 0 0, .int .i64 0, .int .i64 0, .int .i64 0, .bool false, .slice none 0 0, .bool false, .int .i64 0] 39)).heap.size := by simp
  have hw0 : w.heap.size < w0.heap.size := Nat.lt_of_lt_of_le hw hB0.size
  have hw1 : w.heap.size < w1.heap.size := Nat.lt_of_lt_of_le hw0 hK1.size
  have hb1 : Below w.heap.size w w1 := hK1.below (((Below.refl _ _).alloc (Nat.le_refl _) _).trans (hB0.mono (by omega))) (by omega)
  have hbx : Nine w1 w.heap.size (.slice none 0 0) (.slice none 0 0) (.int .i64 0) (.int .i64 0) (.int .i64 0) (.bool false) (.slice none 0 0) (.bool false) (.int .i64 0) := by
    have n := nine_lit (W := w) (b := w.heap.size) (e := 39) (x0 := .slice none 0 0) (x1 := .slice none 0 0) (x2 := .int .i64 0) (x3 := .int .i64 0) (x4 := .int .i64 0) (x5 := .bool false) (x6 := .slice none 0 0) (x7 := .bool false) (x8 := .int .i64 0) rfl
    exact ⟨(P 0).trans n.c0, (P 1).trans n.c1, (P 2).trans n.c2, (P 3).trans n.c3, (P 4).trans n.c4, (P 5).trans n.c5, (P 6).trans n.c6, (P 7).trans n.c7, (P 8).trans n.c8, fun i => (Q i).trans (n.fz i)⟩
  obtain ⟨a1, c1, b1, d1, f1, g1, rfl, _, _, _, _, _, _⟩ := machV_shape hm.mach
  have hrL : rb < w0.heap.size := hR0.lt
  have hwr : w.heap.size < rb := by omega
  have hRn : w.heap.size ≠ rb := by omega
  obtain ⟨e0, e1, e2, e3, e4, e5, e6, e7, e8, ef⟩ := id hbx
  have ef0 := ef 0
  have ef1 := ef 1
  have ef2 := ef 2
  have ef3 := ef 3
  have ef4 := ef 4
  have ef5 := ef 5
  have ef6 := ef 6
  have ef7 := ef 7
  have ef8 := ef 8
  clear ef
  have HM := Lib.hid hm
  clear hB0 hrb hR0 hR1 hK1 P Q hm
  go_wp2_with fail
  refine bodyPost_ret (v := .agg #[.slice a1 m.ram.length c1, .slice b1 m.rom.length d1, .int .i64 m.bank, .int .i64 m.a, .int .i64 m.pc, .bool m.carry, .slice f1 m.back.length g1, .bool m.stop, .int .i64 m.cyc]) (by simp [results, Try.results35, go_sem, e0, e1, e2, e3, e4, e5, e6, e7, e8]) rfl ⟨_, m, rfl, ?_, hr1, ?_⟩
  · exact ((((((((((HM.out.set (p := ⟨w.heap.size, 0, none⟩) hw0 _).set (p := ⟨w.heap.size, 1, none⟩) hw0 _).set (p := ⟨w.heap.size, 2, none⟩) hw0 _).set (p := ⟨w.heap.size, 3, none⟩) hw0 _).set (p := ⟨w.heap.size, 4, none⟩) hw0 _).set (p := ⟨w.heap.size, 5, none⟩) hw0 _).set (p := ⟨w.heap.size, 6, none⟩) hw0 _).set (p := ⟨w.heap.size, 7, none⟩) hw0 _).set (p := ⟨w.heap.size, 8, none⟩) hw0 _)).mach
  · exact (((((((((hb1.setCell (p := ⟨w.heap.size, 0, none⟩) (Nat.le_refl _) _).setCell (p := ⟨w.heap.size, 1, none⟩) (Nat.le_refl _) _).setCell (p := ⟨w.heap.size, 2, none⟩) (Nat.le_refl _) _).setCell (p := ⟨w.heap.size, 3, none⟩) (Nat.le_refl _) _).setCell (p := ⟨w.heap.size, 4, none⟩) (Nat.le_refl _) _).setCell (p := ⟨w.heap.size, 5, none⟩) (Nat.le_refl _) _).setCell (p := ⟨w.heap.size, 6, none⟩) (Nat.le_refl _) _).setCell (p := ⟨w.heap.size, 7, none⟩) (Nat.le_refl _) _).setCell (p := ⟨w.heap.size, 8, none⟩) (Nat.le_refl _) _)
end Go.Proofs.Ytkkgolgmhckgoaa
end

section
/- The drawn machines with a number. No condition. -/
namespace Go.Proofs.Ytkkgolgmhckgoaa
open Go.RowKit
set_option linter.unusedVariables false
set_option linter.unusedSimpArgs false
attribute [local go_sem ↓] Go.wp_at_zero Go.wp_at_succ

set_option maxHeartbeats 40000000 in
set_option maxRecDepth 20000 in
theorem draw_RunMachine {v : Value} {w : World} (h : IsBytes w v) : Calls Try.prog 40 #[v] w (DrawnMach1 w) := by
  have H := Lib.hid (h.below ((Below.refl _ _).alloc (Nat.le_refl _) (.cells #[.slice none 0 0, .slice none 0 0, .int .i64 0, .int .i64 0, .int .i64 0, .bool false, .slice none 0 0, .bool false, .int .i64 0] 39)))
  clear h
  go_enter Try.func40, Try.ntmps40
  go_wp2_with fail
  refine (l20Open H.out).mono ?_
  rintro e w0 ⟨rb, rfl, hrb, hR0, hB0⟩
  go_wp2_with fail
  refine (l20Machine _ hR0 (by omega)).mono ?_
  rintro e w1 ⟨v, m, rfl, hm, hr1, hR1, hK1⟩
  obtain ⟨P, Q⟩ := box_thru hB0 hrb hK1
  have hw : w.heap.size < (w.alloc (.cells #[.slice none 0 0, .slice none 0 0, .int .i64 0, .int .i64 0, .int .i64 0, .bool false, .slice none 0 0, .bool false, .int .i64 0] 39)).heap.size := by simp
  have hw0 : w.heap.size < w0.heap.size := Nat.lt_of_lt_of_le hw hB0.size
  have hw1 : w.heap.size < w1.heap.size := Nat.lt_of_lt_of_le hw0 hK1.size
  have hb1 : Below w.heap.size w w1 := hK1.below (((Below.refl _ _).alloc (Nat.le_refl _) _).trans (hB0.mono (by omega))) (by omega)
  have hbx : Nine w1 w.heap.size (.slice none 0 0) (.slice none 0 0) (.int .i64 0) (.int .i64 0) (.int .i64 0) (.bool false) (.slice none 0 0) (.bool false) (.int .i64 0) := by
    have n := nine_lit (W := w) (b := w.heap.size) (e := 39) (x0 := .slice none 0 0) (x1 := .slice none 0 0) (x2 := .int .i64 0) (x3 := .int .i64 0) (x4 := .int .i64 0) (x5 := .bool false) (x6 := .slice none 0 0) (x7 := .bool false) (x8 := .int .i64 0) rfl
    exact ⟨(P 0).trans n.c0, (P 1).trans n.c1, (P 2).trans n.c2, (P 3).trans n.c3, (P 4).trans n.c4, (P 5).trans n.c5, (P 6).trans n.c6, (P 7).trans n.c7, (P 8).trans n.c8, fun i => (Q i).trans (n.fz i)⟩
  obtain ⟨a1, c1, b1, d1, f1, g1, rfl, _, _, _, _, _, _⟩ := machV_shape hm.mach
  have hrL : rb < w0.heap.size := hR0.lt
  have hwr : w.heap.size < rb := by omega
  have hRn : w.heap.size ≠ rb := by omega
  obtain ⟨Z, hZ⟩ : ∃ Z, Z = w1.alloc (.cells #[.slice a1 m.ram.length c1, .slice b1 m.rom.length d1, .int .i64 m.bank, .int .i64 m.a, .int .i64 m.pc, .bool m.carry, .slice f1 m.back.length g1, .bool m.stop, .int .i64 m.cyc] 39) := ⟨_, rfl⟩
  have hrn : rb < w1.heap.size := hR1.lt
  have MX : Hid (MidM w w0.heap.size rb w1.heap.size (1200 + 0) (.agg #[.slice a1 m.ram.length c1, .slice b1 m.rom.length d1, .int .i64 m.bank, .int .i64 m.a, .int .i64 m.pc, .bool m.carry, .slice f1 m.back.length g1, .bool m.stop, .int .i64 m.cyc]) (.slice a1 m.ram.length c1) (.slice b1 m.rom.length d1) (.int .i64 m.bank) (.int .i64 m.a) (.int .i64 m.pc) (.bool m.carry) (.slice f1 m.back.length g1) (.bool m.stop) (.int .i64 m.cyc) (.slice none 0 0) (.slice none 0 0) (.int .i64 0) (.int .i64 0) (.int .i64 0) (.bool false) (.slice none 0 0) (.bool false) (.int .i64 0) m Z) := by
    rw [hZ]
    exact ⟨hm.alloc _, hb1.alloc (by omega) _, nine_lit rfl, (hR1.mono (by omega)).alloc _, hbx.alloc _, hwr, hrL, hrn⟩
  clear hB0 hrb hR0 hR1 hK1 P Q hm hb1 hbx
  go_upto_region 3 with fail
  rw [← hZ]
  clear hZ
  have hMF := Lib.hid MX.out.drew
  clear MX
  refine wp_region_any (by kernel_rfl) ?_
  (try (change wpAny _ _ _ _ _ _ _ (World.drew _)))
  refine name_act (fun A0 hA0 => ?_)
  refine wpAny_pre 2 #[true, true, true, true, true, true, true, true, true, true, true, false, false] (fun act9 W => ∃ q2 : Int, ∃ b3 : Nat, ∃ b4 : Nat, ∃ k6 : Nat, ∃ m8 : Nat, ∃ r10 : Int, act9 = (((((((((((A0.put (some 10) (.agg #[.slice a1 m.ram.length c1, .slice b1 m.rom.length d1, .int .i64 m.bank, .int .i64 m.a, .int .i64 m.pc, .bool m.carry, .slice f1 m.back.length g1, .bool m.stop, .int .i64 m.cyc])).put (some 11) (.pointer (some ⟨rb, 0, none⟩))).put (some 12) (.int .i64 q2)).put (some 13) (.slice (some ⟨b3, 0, none⟩) 4 4)).put (some 14) (.slice (some ⟨b4, 0, none⟩) 7 7)).put (some 15) (.pointer (some ⟨rb, 0, none⟩))).put (some 16) (.int .i64 (k6 : Int))).put (some 17) (.pointer (some ⟨b4, k6, none⟩))).put (some 18) (.int .i64 (m8 : Int))).put (some 19) (.pointer (some ⟨b3, m8, none⟩))).put (some 20) (.int .i64 r10)) ∧ Hid (MidM w w0.heap.size rb w1.heap.size (1200 + 2) (.agg #[.slice a1 m.ram.length c1, .slice b1 m.rom.length d1, .int .i64 m.bank, .int .i64 m.a, .int .i64 m.pc, .bool m.carry, .slice f1 m.back.length g1, .bool m.stop, .int .i64 m.cyc]) (.slice a1 m.ram.length c1) (.slice b1 m.rom.length d1) (.int .i64 m.bank) (.int .i64 m.a) (.int .i64 m.pc) (.bool m.carry) (.slice f1 m.back.length g1) (.bool m.stop) (.int .i64 m.cyc) (.slice none 0 0) (.slice none 0 0) (.int .i64 0) (.int .i64 0) (.int .i64 0) (.bool false) (.slice none 0 0) (.bool false) (.int .i64 0) m W) ∧ Hid (LitI rb 4 W b3) ∧ Hid (w.heap.size ≠ b3) ∧ Hid (LitR rb 7 4 W b4) ∧ Hid (w.heap.size ≠ b4) ∧ Hid (k6 < 7) ∧ Hid (m8 < 4)) ?_ (fun HD0 => ?_)
  · rintro act9 W ⟨q2, b3, b4, k6, m8, r10, rfl, hF, h3, n3, h4, n4, hk6, hm8⟩
    subst hA0
    have hlW := hF.out.rd.lt
    obtain ⟨x0, x1, x2, x3, x4, x5, x6, x7, x8, xf⟩ := id hF.out.nine
    clear xf
    obtain ⟨e0, e1, e2, e3, e4, e5, e6, e7, e8, ef⟩ := id hF.out.box
    have ef0 := ef 0
    have ef1 := ef 1
    have ef2 := ef 2
    have ef3 := ef 3
    have ef4 := ef 4
    have ef5 := ef 5
    have ef6 := ef 6
    have ef7 := ef 7
    have ef8 := ef 8
    clear ef
    have hX1 : w1.heap.size < W.heap.size := block_lt_of_cell x0
    have hXw : w.heap.size < W.heap.size := block_lt_of_cell e0
    (try simp only [Act.put, List.setIfInBounds_toArray, List.set_cons_zero, List.set_cons_succ])
    refine wpAny_ready (rs := [11]) (by kernel_rfl) (by simp) ?_
    refine AllReady.cons (o := ({ dst := none, op := Op.store 39 (Operand.tmp 2) (Operand.tmp 10), type := 0, pos := "l20_draw.go:324", after := #[{ on := 0, ground := Ground.data }, { on := 6, ground := Ground.chain }, { on := 0, ground := Ground.phase }, { on := 1, ground := Ground.textOnly Departure.lateStores }, { on := 2, ground := Ground.textOnly Departure.lateStoresUnsure }, { on := 3, ground := Ground.textOnly Departure.lateStores }, { on := 4, ground := Ground.textOnly Departure.lateStores }, { on := 5, ground := Ground.textOnly Departure.lateStores }, { on := 6, ground := Ground.textOnly Departure.lateStoresUnsure }, { on := 7, ground := Ground.textOnly Departure.lateStores }, { on := 8, ground := Ground.textOnly Departure.lateStores }, { on := 9, ground := Ground.textOnly Departure.lateStores }, { on := 10, ground := Ground.textOnly Departure.lateStores }], guard := none } : Oper)) rfl (fun K hK => ?_) ?_
    · go_simp
      refine hK _ _ ?_
      clear hK K
      (try simp only [Act.put, List.setIfInBounds_toArray, List.set_cons_zero, List.set_cons_succ])
      refine wpAny_take (i := 12) (oi := ({ dst := some 3, op := Op.assign (Operand.tmp 20), type := 3, pos := "l20_draw.go:324", after := #[{ on := 10, ground := Ground.data }, { on := 11, ground := Ground.chain }, { on := 0, ground := Ground.phase }, { on := 1, ground := Ground.phase }, { on := 2, ground := Ground.phase }, { on := 3, ground := Ground.phase }, { on := 4, ground := Ground.phase }, { on := 5, ground := Ground.phase }, { on := 6, ground := Ground.phase }, { on := 7, ground := Ground.phase }, { on := 8, ground := Ground.phase }, { on := 9, ground := Ground.phase }, { on := 10, ground := Ground.phase }, { on := 11, ground := Ground.phase }], guard := none } : Oper)) (v := ?_) rfl (by kernel_rfl) (by kernel_rfl) (by kernel_rfl) (fun _ _ _ h => h) (Or.inl ⟨by rfl, ?_⟩) ?_
      rotate_left
      · intro wq; go_simp; (try with_reducible rfl)
      (try simp only [Act.put, List.setIfInBounds_toArray, List.set_cons_zero, List.set_cons_succ])
      refine wpAny_done (by kernel_rfl) ?_ _
      go_wp2_with fail
      refine bodyPost_ret (v := .tuple #[.agg #[.slice a1 m.ram.length c1, .slice b1 m.rom.length d1, .int .i64 m.bank, .int .i64 m.a, .int .i64 m.pc, .bool m.carry, .slice f1 m.back.length g1, .bool m.stop, .int .i64 m.cyc], .int .i64 r10]) (by simp [results, Try.results40, go_sem, e0, e1, e2, e3, e4, e5, e6, e7, e8]) rfl ⟨_, m, r10, rfl, ?_, hr1, ?_⟩
      · first | with_reducible exact hF.out.mach.mach | exact (hF.out.setBox _ _ _ _ _ _ _ _ _).mach.mach
      · first | with_reducible exact hF.out.bel | exact (hF.out.setBox _ _ _ _ _ _ _ _ _).bel
    exact AllReady.nil
  refine wpAny_pre 2 #[true, true, true, true, true, true, true, true, true, true, false, true, false] (fun act9 W => ∃ q2 : Int, ∃ b3 : Nat, ∃ b4 : Nat, ∃ k6 : Nat, ∃ m8 : Nat, act9 = ((((((((((A0.put (some 10) (.agg #[.slice a1 m.ram.length c1, .slice b1 m.rom.length d1, .int .i64 m.bank, .int .i64 m.a, .int .i64 m.pc, .bool m.carry, .slice f1 m.back.length g1, .bool m.stop, .int .i64 m.cyc])).put (some 11) (.pointer (some ⟨rb, 0, none⟩))).put (some 12) (.int .i64 q2)).put (some 13) (.slice (some ⟨b3, 0, none⟩) 4 4)).put (some 14) (.slice (some ⟨b4, 0, none⟩) 7 7)).put (some 15) (.pointer (some ⟨rb, 0, none⟩))).put (some 16) (.int .i64 (k6 : Int))).put (some 17) (.pointer (some ⟨b4, k6, none⟩))).put (some 18) (.int .i64 (m8 : Int))).put (some 19) (.pointer (some ⟨b3, m8, none⟩))) ∧ Hid (MidM w w0.heap.size rb w1.heap.size (1200 + 2) (.agg #[.slice a1 m.ram.length c1, .slice b1 m.rom.length d1, .int .i64 m.bank, .int .i64 m.a, .int .i64 m.pc, .bool m.carry, .slice f1 m.back.length g1, .bool m.stop, .int .i64 m.cyc]) (.slice a1 m.ram.length c1) (.slice b1 m.rom.length d1) (.int .i64 m.bank) (.int .i64 m.a) (.int .i64 m.pc) (.bool m.carry) (.slice f1 m.back.length g1) (.bool m.stop) (.int .i64 m.cyc) (.slice a1 m.ram.length c1) (.slice b1 m.rom.length d1) (.int .i64 m.bank) (.int .i64 m.a) (.int .i64 m.pc) (.bool m.carry) (.slice f1 m.back.length g1) (.bool m.stop) (.int .i64 m.cyc) m W) ∧ Hid (LitI rb 4 W b3) ∧ Hid (w.heap.size ≠ b3) ∧ Hid (LitR rb 7 4 W b4) ∧ Hid (w.heap.size ≠ b4) ∧ Hid (k6 < 7) ∧ Hid (m8 < 4)) ?_ (fun HD1 => ?_)
  · rintro act9 W ⟨q2, b3, b4, k6, m8, rfl, hF, h3, n3, h4, n4, hk6, hm8⟩
    subst hA0
    have hlW := hF.out.rd.lt
    obtain ⟨x0, x1, x2, x3, x4, x5, x6, x7, x8, xf⟩ := id hF.out.nine
    clear xf
    obtain ⟨e0, e1, e2, e3, e4, e5, e6, e7, e8, ef⟩ := id hF.out.box
    have ef0 := ef 0
    have ef1 := ef 1
    have ef2 := ef 2
    have ef3 := ef 3
    have ef4 := ef 4
    have ef5 := ef 5
    have ef6 := ef 6
    have ef7 := ef 7
    have ef8 := ef 8
    clear ef
    have hX1 : w1.heap.size < W.heap.size := block_lt_of_cell x0
    have hXw : w.heap.size < W.heap.size := block_lt_of_cell e0
    (try simp only [Act.put, List.setIfInBounds_toArray, List.set_cons_zero, List.set_cons_succ])
    refine wpAny_ready (rs := [10]) (by kernel_rfl) (by simp) ?_
    refine AllReady.cons (o := ({ dst := some 20, op := Op.load 3 (Operand.tmp 19), type := 3, pos := "l20_draw.go:324", after := #[{ on := 9, ground := Ground.data }, { on := 11, ground := Ground.gcOnly Departure.lateStores }], guard := none } : Oper)) rfl (fun K hK => ?_) ?_
    · obtain ⟨r10, hc10⟩ := h3.out.2.2 m8 hm8.out
      go_simp
      refine hK _ _ ?_
      clear hK K
      (try simp only [Act.put, List.setIfInBounds_toArray, List.set_cons_zero, List.set_cons_succ])
      refine wpAny_take (i := 12) (oi := ({ dst := some 3, op := Op.assign (Operand.tmp 20), type := 3, pos := "l20_draw.go:324", after := #[{ on := 10, ground := Ground.data }, { on := 11, ground := Ground.chain }, { on := 0, ground := Ground.phase }, { on := 1, ground := Ground.phase }, { on := 2, ground := Ground.phase }, { on := 3, ground := Ground.phase }, { on := 4, ground := Ground.phase }, { on := 5, ground := Ground.phase }, { on := 6, ground := Ground.phase }, { on := 7, ground := Ground.phase }, { on := 8, ground := Ground.phase }, { on := 9, ground := Ground.phase }, { on := 10, ground := Ground.phase }, { on := 11, ground := Ground.phase }], guard := none } : Oper)) (v := ?_) rfl (by kernel_rfl) (by kernel_rfl) (by kernel_rfl) (fun _ _ _ h => h) (Or.inl ⟨by rfl, ?_⟩) ?_
      rotate_left
      · intro wq; go_simp; (try with_reducible rfl)
      (try simp only [Act.put, List.setIfInBounds_toArray, List.set_cons_zero, List.set_cons_succ])
      refine wpAny_done (by kernel_rfl) ?_ _
      go_wp2_with fail
      refine bodyPost_ret (v := .tuple #[.agg #[.slice a1 m.ram.length c1, .slice b1 m.rom.length d1, .int .i64 m.bank, .int .i64 m.a, .int .i64 m.pc, .bool m.carry, .slice f1 m.back.length g1, .bool m.stop, .int .i64 m.cyc], .int .i64 r10]) (by simp [results, Try.results40, go_sem, e0, e1, e2, e3, e4, e5, e6, e7, e8]) rfl ⟨_, m, r10, rfl, ?_, hr1, ?_⟩
      · first | with_reducible exact hF.out.mach.mach | exact (hF.out.setBox _ _ _ _ _ _ _ _ _).mach.mach
      · first | with_reducible exact hF.out.bel | exact (hF.out.setBox _ _ _ _ _ _ _ _ _).bel
    exact AllReady.nil
  refine wpAny_pre 3 #[true, true, true, true, true, true, true, true, true, true, false, false, false] (fun act9 W => ∃ q2 : Int, ∃ b3 : Nat, ∃ b4 : Nat, ∃ k6 : Nat, ∃ m8 : Nat, act9 = ((((((((((A0.put (some 10) (.agg #[.slice a1 m.ram.length c1, .slice b1 m.rom.length d1, .int .i64 m.bank, .int .i64 m.a, .int .i64 m.pc, .bool m.carry, .slice f1 m.back.length g1, .bool m.stop, .int .i64 m.cyc])).put (some 11) (.pointer (some ⟨rb, 0, none⟩))).put (some 12) (.int .i64 q2)).put (some 13) (.slice (some ⟨b3, 0, none⟩) 4 4)).put (some 14) (.slice (some ⟨b4, 0, none⟩) 7 7)).put (some 15) (.pointer (some ⟨rb, 0, none⟩))).put (some 16) (.int .i64 (k6 : Int))).put (some 17) (.pointer (some ⟨b4, k6, none⟩))).put (some 18) (.int .i64 (m8 : Int))).put (some 19) (.pointer (some ⟨b3, m8, none⟩))) ∧ Hid (MidM w w0.heap.size rb w1.heap.size (1200 + 2) (.agg #[.slice a1 m.ram.length c1, .slice b1 m.rom.length d1, .int .i64 m.bank, .int .i64 m.a, .int .i64 m.pc, .bool m.carry, .slice f1 m.back.length g1, .bool m.stop, .int .i64 m.cyc]) (.slice a1 m.ram.length c1) (.slice b1 m.rom.length d1) (.int .i64 m.bank) (.int .i64 m.a) (.int .i64 m.pc) (.bool m.carry) (.slice f1 m.back.length g1) (.bool m.stop) (.int .i64 m.cyc) (.slice none 0 0) (.slice none 0 0) (.int .i64 0) (.int .i64 0) (.int .i64 0) (.bool false) (.slice none 0 0) (.bool false) (.int .i64 0) m W) ∧ Hid (LitI rb 4 W b3) ∧ Hid (w.heap.size ≠ b3) ∧ Hid (LitR rb 7 4 W b4) ∧ Hid (w.heap.size ≠ b4) ∧ Hid (k6 < 7) ∧ Hid (m8 < 4)) ?_ (fun HD2 => ?_)
  · rintro act9 W ⟨q2, b3, b4, k6, m8, rfl, hF, h3, n3, h4, n4, hk6, hm8⟩
    subst hA0
    have hlW := hF.out.rd.lt
    obtain ⟨x0, x1, x2, x3, x4, x5, x6, x7, x8, xf⟩ := id hF.out.nine
    clear xf
    obtain ⟨e0, e1, e2, e3, e4, e5, e6, e7, e8, ef⟩ := id hF.out.box
    have ef0 := ef 0
    have ef1 := ef 1
    have ef2 := ef 2
    have ef3 := ef 3
    have ef4 := ef 4
    have ef5 := ef 5
    have ef6 := ef 6
    have ef7 := ef 7
    have ef8 := ef 8
    clear ef
    have hX1 : w1.heap.size < W.heap.size := block_lt_of_cell x0
    have hXw : w.heap.size < W.heap.size := block_lt_of_cell e0
    (try simp only [Act.put, List.setIfInBounds_toArray, List.set_cons_zero, List.set_cons_succ])
    refine wpAny_ready (rs := [10, 11]) (by kernel_rfl) (by simp) ?_
    refine AllReady.cons (o := ({ dst := some 20, op := Op.load 3 (Operand.tmp 19), type := 3, pos := "l20_draw.go:324", after := #[{ on := 9, ground := Ground.data }, { on := 11, ground := Ground.gcOnly Departure.lateStores }], guard := none } : Oper)) rfl (fun K hK => ?_) ?_
    · obtain ⟨r10, hc10⟩ := h3.out.2.2 m8 hm8.out
      go_simp
      refine hK _ _ ?_
      clear hK K
      (try simp only [Act.put, List.setIfInBounds_toArray, List.set_cons_zero, List.set_cons_succ])
      refine wpAny_to (by kernel_rfl) (by kernel_rfl) (HD0.out _ _ ?_)
      apply Exists.intro
      apply Exists.intro
      apply Exists.intro
      apply Exists.intro
      apply Exists.intro
      apply Exists.intro
      refine ⟨?_, ?_, ?_, ?_, ?_, ?_, ?_, ?_⟩
      · (try simp only [Act.put, List.setIfInBounds_toArray, List.set_cons_zero, List.set_cons_succ]); (try rfl)
      · exact hF.out
      · exact h3.out
      · exact n3.out
      · exact h4.out
      · exact n4.out
      · exact hk6.out
      · exact hm8.out
    refine AllReady.cons (o := ({ dst := none, op := Op.store 39 (Operand.tmp 2) (Operand.tmp 10), type := 0, pos := "l20_draw.go:324", after := #[{ on := 0, ground := Ground.data }, { on := 6, ground := Ground.chain }, { on := 0, ground := Ground.phase }, { on := 1, ground := Ground.textOnly Departure.lateStores }, { on := 2, ground := Ground.textOnly Departure.lateStoresUnsure }, { on := 3, ground := Ground.textOnly Departure.lateStores }, { on := 4, ground := Ground.textOnly Departure.lateStores }, { on := 5, ground := Ground.textOnly Departure.lateStores }, { on := 6, ground := Ground.textOnly Departure.lateStoresUnsure }, { on := 7, ground := Ground.textOnly Departure.lateStores }, { on := 8, ground := Ground.textOnly Departure.lateStores }, { on := 9, ground := Ground.textOnly Departure.lateStores }, { on := 10, ground := Ground.textOnly Departure.lateStores }], guard := none } : Oper)) rfl (fun K hK => ?_) ?_
    · go_simp
      refine hK _ _ ?_
      clear hK K
      (try simp only [Act.put, List.setIfInBounds_toArray, List.set_cons_zero, List.set_cons_succ])
      refine wpAny_to (by kernel_rfl) (by kernel_rfl) (HD1.out _ _ ?_)
      apply Exists.intro
      apply Exists.intro
      apply Exists.intro
      apply Exists.intro
      apply Exists.intro
      refine ⟨?_, ?_, ?_, ?_, ?_, ?_, ?_, ?_⟩
      · (try simp only [Act.put, List.setIfInBounds_toArray, List.set_cons_zero, List.set_cons_succ]); (try rfl)
      · exact hF.out.setBox _ _ _ _ _ _ _ _ _
      · exact (((((((((h3.out.set (p := ⟨w.heap.size, 0, none⟩) n3.out _).set (p := ⟨w.heap.size, 1, none⟩) n3.out _).set (p := ⟨w.heap.size, 2, none⟩) n3.out _).set (p := ⟨w.heap.size, 3, none⟩) n3.out _).set (p := ⟨w.heap.size, 4, none⟩) n3.out _).set (p := ⟨w.heap.size, 5, none⟩) n3.out _).set (p := ⟨w.heap.size, 6, none⟩) n3.out _).set (p := ⟨w.heap.size, 7, none⟩) n3.out _).set (p := ⟨w.heap.size, 8, none⟩) n3.out _)
      · exact n3.out
      · exact (((((((((h4.out.set (p := ⟨w.heap.size, 0, none⟩) n4.out _).set (p := ⟨w.heap.size, 1, none⟩) n4.out _).set (p := ⟨w.heap.size, 2, none⟩) n4.out _).set (p := ⟨w.heap.size, 3, none⟩) n4.out _).set (p := ⟨w.heap.size, 4, none⟩) n4.out _).set (p := ⟨w.heap.size, 5, none⟩) n4.out _).set (p := ⟨w.heap.size, 6, none⟩) n4.out _).set (p := ⟨w.heap.size, 7, none⟩) n4.out _).set (p := ⟨w.heap.size, 8, none⟩) n4.out _)
      · exact n4.out
      · exact hk6.out
      · exact hm8.out
    exact AllReady.nil
  refine wpAny_pre 3 #[false, true, true, true, true, true, true, true, true, true, true, false, false] (fun act9 W => ∃ q2 : Int, ∃ b3 : Nat, ∃ b4 : Nat, ∃ k6 : Nat, ∃ m8 : Nat, ∃ r10 : Int, act9 = ((((((((((A0.put (some 11) (.pointer (some ⟨rb, 0, none⟩))).put (some 12) (.int .i64 q2)).put (some 13) (.slice (some ⟨b3, 0, none⟩) 4 4)).put (some 14) (.slice (some ⟨b4, 0, none⟩) 7 7)).put (some 15) (.pointer (some ⟨rb, 0, none⟩))).put (some 16) (.int .i64 (k6 : Int))).put (some 17) (.pointer (some ⟨b4, k6, none⟩))).put (some 18) (.int .i64 (m8 : Int))).put (some 19) (.pointer (some ⟨b3, m8, none⟩))).put (some 20) (.int .i64 r10)) ∧ Hid (MidM w w0.heap.size rb w1.heap.size (1200 + 2) (.agg #[.slice a1 m.ram.length c1, .slice b1 m.rom.length d1, .int .i64 m.bank, .int .i64 m.a, .int .i64 m.pc, .bool m.carry, .slice f1 m.back.length g1, .bool m.stop, .int .i64 m.cyc]) (.slice a1 m.ram.length c1) (.slice b1 m.rom.length d1) (.int .i64 m.bank) (.int .i64 m.a) (.int .i64 m.pc) (.bool m.carry) (.slice f1 m.back.length g1) (.bool m.stop) (.int .i64 m.cyc) (.slice none 0 0) (.slice none 0 0) (.int .i64 0) (.int .i64 0) (.int .i64 0) (.bool false) (.slice none 0 0) (.bool false) (.int .i64 0) m W) ∧ Hid (LitI rb 4 W b3) ∧ Hid (w.heap.size ≠ b3) ∧ Hid (LitR rb 7 4 W b4) ∧ Hid (w.heap.size ≠ b4) ∧ Hid (k6 < 7) ∧ Hid (m8 < 4)) ?_ (fun HD3 => ?_)
  · rintro act9 W ⟨q2, b3, b4, k6, m8, r10, rfl, hF, h3, n3, h4, n4, hk6, hm8⟩
    subst hA0
    have hlW := hF.out.rd.lt
    obtain ⟨x0, x1, x2, x3, x4, x5, x6, x7, x8, xf⟩ := id hF.out.nine
    clear xf
    obtain ⟨e0, e1, e2, e3, e4, e5, e6, e7, e8, ef⟩ := id hF.out.box
    have ef0 := ef 0
    have ef1 := ef 1
    have ef2 := ef 2
    have ef3 := ef 3
    have ef4 := ef 4
    have ef5 := ef 5
    have ef6 := ef 6
    have ef7 := ef 7
    have ef8 := ef 8
    clear ef
    have hX1 : w1.heap.size < W.heap.size := block_lt_of_cell x0
    have hXw : w.heap.size < W.heap.size := block_lt_of_cell e0
    (try simp only [Act.put, List.setIfInBounds_toArray, List.set_cons_zero, List.set_cons_succ])
    refine wpAny_ready (rs := [0]) (by kernel_rfl) (by simp) ?_
    refine AllReady.cons (o := ({ dst := some 10, op := Op.load 39 (Operand.tmp 5), type := 39, pos := "l20_draw.go:324", after := #[], guard := none } : Oper)) rfl (fun K hK => ?_) ?_
    · go_simp
      refine hK _ _ ?_
      clear hK K
      (try simp only [Act.put, List.setIfInBounds_toArray, List.set_cons_zero, List.set_cons_succ])
      refine wpAny_to (by kernel_rfl) (by kernel_rfl) (HD0.out _ _ ?_)
      apply Exists.intro
      apply Exists.intro
      apply Exists.intro
      apply Exists.intro
      apply Exists.intro
      apply Exists.intro
      refine ⟨?_, ?_, ?_, ?_, ?_, ?_, ?_, ?_⟩
      · (try simp only [Act.put, List.setIfInBounds_toArray, List.set_cons_zero, List.set_cons_succ]); (try rfl)
      · exact hF.out
      · exact h3.out
      · exact n3.out
      · exact h4.out
      · exact n4.out
      · exact hk6.out
      · exact hm8.out
    exact AllReady.nil
  refine wpAny_pre 4 #[true, true, true, true, true, true, true, true, false, false, false, true, false] (fun act9 W => ∃ q2 : Int, ∃ b3 : Nat, ∃ b4 : Nat, ∃ k6 : Nat, act9 = ((((((((A0.put (some 10) (.agg #[.slice a1 m.ram.length c1, .slice b1 m.rom.length d1, .int .i64 m.bank, .int .i64 m.a, .int .i64 m.pc, .bool m.carry, .slice f1 m.back.length g1, .bool m.stop, .int .i64 m.cyc])).put (some 11) (.pointer (some ⟨rb, 0, none⟩))).put (some 12) (.int .i64 q2)).put (some 13) (.slice (some ⟨b3, 0, none⟩) 4 4)).put (some 14) (.slice (some ⟨b4, 0, none⟩) 7 7)).put (some 15) (.pointer (some ⟨rb, 0, none⟩))).put (some 16) (.int .i64 (k6 : Int))).put (some 17) (.pointer (some ⟨b4, k6, none⟩))) ∧ Hid (MidM w w0.heap.size rb w1.heap.size (1200 + 2) (.agg #[.slice a1 m.ram.length c1, .slice b1 m.rom.length d1, .int .i64 m.bank, .int .i64 m.a, .int .i64 m.pc, .bool m.carry, .slice f1 m.back.length g1, .bool m.stop, .int .i64 m.cyc]) (.slice a1 m.ram.length c1) (.slice b1 m.rom.length d1) (.int .i64 m.bank) (.int .i64 m.a) (.int .i64 m.pc) (.bool m.carry) (.slice f1 m.back.length g1) (.bool m.stop) (.int .i64 m.cyc) (.slice a1 m.ram.length c1) (.slice b1 m.rom.length d1) (.int .i64 m.bank) (.int .i64 m.a) (.int .i64 m.pc) (.bool m.carry) (.slice f1 m.back.length g1) (.bool m.stop) (.int .i64 m.cyc) m W) ∧ Hid (LitI rb 4 W b3) ∧ Hid (w.heap.size ≠ b3) ∧ Hid (LitR rb 7 4 W b4) ∧ Hid (w.heap.size ≠ b4) ∧ Hid (k6 < 7)) ?_ (fun HD4 => ?_)
  · rintro act9 W ⟨q2, b3, b4, k6, rfl, hF, h3, n3, h4, n4, hk6⟩
    subst hA0
    have hlW := hF.out.rd.lt
    obtain ⟨x0, x1, x2, x3, x4, x5, x6, x7, x8, xf⟩ := id hF.out.nine
    clear xf
    obtain ⟨e0, e1, e2, e3, e4, e5, e6, e7, e8, ef⟩ := id hF.out.box
    have ef0 := ef 0
    have ef1 := ef 1
    have ef2 := ef 2
    have ef3 := ef 3
    have ef4 := ef 4
    have ef5 := ef 5
    have ef6 := ef 6
    have ef7 := ef 7
    have ef8 := ef 8
    clear ef
    have hX1 : w1.heap.size < W.heap.size := block_lt_of_cell x0
    have hXw : w.heap.size < W.heap.size := block_lt_of_cell e0
    (try simp only [Act.put, List.setIfInBounds_toArray, List.set_cons_zero, List.set_cons_succ])
    refine wpAny_ready (rs := [8]) (by kernel_rfl) (by simp) ?_
    refine AllReady.cons (o := ({ dst := some 18, op := Op.load 3 (Operand.tmp 17), type := 3, pos := "l20_draw.go:324", after := #[{ on := 7, ground := Ground.data }, { on := 11, ground := Ground.gcOnly Departure.lateStores }], guard := none } : Oper)) rfl (fun K hK => ?_) ?_
    · obtain ⟨m8, hm0, hc8⟩ := h4.out.2.2 k6 hk6.out
      have hm8 := Lib.hid hm0
      clear hm0
      go_simp
      refine hK _ _ ?_
      clear hK K
      (try simp only [Act.put, List.setIfInBounds_toArray, List.set_cons_zero, List.set_cons_succ])
      have hm8i : (m8 : Int) < 4 := by have := hm8.out; omega
      refine wpAny_take (i := 9) (oi := ({ dst := some 19, op := Op.indexAddr 23 (Operand.tmp 13) (Operand.tmp 18), type := 0, pos := "l20_draw.go:324", after := #[{ on := 3, ground := Ground.data }, { on := 8, ground := Ground.data }, { on := 11, ground := Ground.gcOnly Departure.lateStores }], guard := none } : Oper)) (v := ?_) rfl (by kernel_rfl) (by kernel_rfl) (by kernel_rfl) (fun _ _ _ h => h) (Or.inl ⟨by rfl, ?_⟩) ?_
      rotate_left
      · intro wq; go_simp; (try with_reducible rfl)
      (try simp only [Act.put, List.setIfInBounds_toArray, List.set_cons_zero, List.set_cons_succ])
      refine wpAny_to (by kernel_rfl) (by kernel_rfl) (HD1.out _ _ ?_)
      apply Exists.intro
      apply Exists.intro
      apply Exists.intro
      apply Exists.intro
      apply Exists.intro
      refine ⟨?_, ?_, ?_, ?_, ?_, ?_, ?_, ?_⟩
      · (try simp only [Act.put, List.setIfInBounds_toArray, List.set_cons_zero, List.set_cons_succ]); (try rfl)
      · exact hF.out
      · exact h3.out
      · exact n3.out
      · exact h4.out
      · exact n4.out
      · exact hk6.out
      · exact hm8.out
    exact AllReady.nil
  refine wpAny_pre 4 #[true, true, true, false, true, true, true, true, true, false, false, true, false] (fun act9 W => ∃ q2 : Int, ∃ b4 : Nat, ∃ k6 : Nat, ∃ m8 : Nat, act9 = ((((((((A0.put (some 10) (.agg #[.slice a1 m.ram.length c1, .slice b1 m.rom.length d1, .int .i64 m.bank, .int .i64 m.a, .int .i64 m.pc, .bool m.carry, .slice f1 m.back.length g1, .bool m.stop, .int .i64 m.cyc])).put (some 11) (.pointer (some ⟨rb, 0, none⟩))).put (some 12) (.int .i64 q2)).put (some 14) (.slice (some ⟨b4, 0, none⟩) 7 7)).put (some 15) (.pointer (some ⟨rb, 0, none⟩))).put (some 16) (.int .i64 (k6 : Int))).put (some 17) (.pointer (some ⟨b4, k6, none⟩))).put (some 18) (.int .i64 (m8 : Int))) ∧ Hid (MidM w w0.heap.size rb w1.heap.size (1200 + 2) (.agg #[.slice a1 m.ram.length c1, .slice b1 m.rom.length d1, .int .i64 m.bank, .int .i64 m.a, .int .i64 m.pc, .bool m.carry, .slice f1 m.back.length g1, .bool m.stop, .int .i64 m.cyc]) (.slice a1 m.ram.length c1) (.slice b1 m.rom.length d1) (.int .i64 m.bank) (.int .i64 m.a) (.int .i64 m.pc) (.bool m.carry) (.slice f1 m.back.length g1) (.bool m.stop) (.int .i64 m.cyc) (.slice a1 m.ram.length c1) (.slice b1 m.rom.length d1) (.int .i64 m.bank) (.int .i64 m.a) (.int .i64 m.pc) (.bool m.carry) (.slice f1 m.back.length g1) (.bool m.stop) (.int .i64 m.cyc) m W) ∧ Hid (LitR rb 7 4 W b4) ∧ Hid (w.heap.size ≠ b4) ∧ Hid (k6 < 7) ∧ Hid (m8 < 4)) ?_ (fun HD5 => ?_)
  · rintro act9 W ⟨q2, b4, k6, m8, rfl, hF, h4, n4, hk6, hm8⟩
    subst hA0
    have hlW := hF.out.rd.lt
    obtain ⟨x0, x1, x2, x3, x4, x5, x6, x7, x8, xf⟩ := id hF.out.nine
    clear xf
    obtain ⟨e0, e1, e2, e3, e4, e5, e6, e7, e8, ef⟩ := id hF.out.box
    have ef0 := ef 0
    have ef1 := ef 1
    have ef2 := ef 2
    have ef3 := ef 3
    have ef4 := ef 4
    have ef5 := ef 5
    have ef6 := ef 6
    have ef7 := ef 7
    have ef8 := ef 8
    clear ef
    have hX1 : w1.heap.size < W.heap.size := block_lt_of_cell x0
    have hXw : w.heap.size < W.heap.size := block_lt_of_cell e0
    (try simp only [Act.put, List.setIfInBounds_toArray, List.set_cons_zero, List.set_cons_succ])
    refine wpAny_ready (rs := [3]) (by kernel_rfl) (by simp) ?_
    refine AllReady.cons (o := ({ dst := some 13, op := Op.buildSlice 23 4 #[(0, Operand.tmp 12), (1, Operand.const (Value.int IntKind.i64 500)), (2, Operand.const (Value.int IntKind.i64 (-1))), (3, Operand.const (Value.int IntKind.i64 501))], type := 23, pos := "l20_draw.go:324", after := #[{ on := 2, ground := Ground.data }, { on := 11, ground := Ground.gcOnly Departure.lateStores }], guard := none } : Oper)) rfl (fun K hK => ?_) ?_
    · go_simp
      refine hK _ _ ?_
      clear hK K
      (try simp only [Act.put, List.setIfInBounds_toArray, List.set_cons_zero, List.set_cons_succ])
      have hm8i : (m8 : Int) < 4 := by have := hm8.out; omega
      refine wpAny_take (i := 9) (oi := ({ dst := some 19, op := Op.indexAddr 23 (Operand.tmp 13) (Operand.tmp 18), type := 0, pos := "l20_draw.go:324", after := #[{ on := 3, ground := Ground.data }, { on := 8, ground := Ground.data }, { on := 11, ground := Ground.gcOnly Departure.lateStores }], guard := none } : Oper)) (v := ?_) rfl (by kernel_rfl) (by kernel_rfl) (by kernel_rfl) (fun _ _ _ h => h) (Or.inl ⟨by rfl, ?_⟩) ?_
      rotate_left
      · intro wq; go_simp; (try with_reducible rfl)
      (try simp only [Act.put, List.setIfInBounds_toArray, List.set_cons_zero, List.set_cons_succ])
      refine wpAny_to (by kernel_rfl) (by kernel_rfl) (HD1.out _ _ ?_)
      apply Exists.intro
      apply Exists.intro
      apply Exists.intro
      apply Exists.intro
      apply Exists.intro
      refine ⟨?_, ?_, ?_, ?_, ?_, ?_, ?_, ?_⟩
      · (try simp only [Act.put, List.setIfInBounds_toArray, List.set_cons_zero, List.set_cons_succ]); (try rfl)
      · exact hF.out.alloc _
      · exact LitI.new rfl rfl hlW
      · exact Nat.ne_of_lt hXw
      · exact h4.out.alloc _
      · exact n4.out
      · exact hk6.out
      · exact hm8.out
    exact AllReady.nil
  refine wpAny_pre 4 #[false, true, true, true, true, true, true, true, true, true, false, false, false] (fun act9 W => ∃ q2 : Int, ∃ b3 : Nat, ∃ b4 : Nat, ∃ k6 : Nat, ∃ m8 : Nat, act9 = (((((((((A0.put (some 11) (.pointer (some ⟨rb, 0, none⟩))).put (some 12) (.int .i64 q2)).put (some 13) (.slice (some ⟨b3, 0, none⟩) 4 4)).put (some 14) (.slice (some ⟨b4, 0, none⟩) 7 7)).put (some 15) (.pointer (some ⟨rb, 0, none⟩))).put (some 16) (.int .i64 (k6 : Int))).put (some 17) (.pointer (some ⟨b4, k6, none⟩))).put (some 18) (.int .i64 (m8 : Int))).put (some 19) (.pointer (some ⟨b3, m8, none⟩))) ∧ Hid (MidM w w0.heap.size rb w1.heap.size (1200 + 2) (.agg #[.slice a1 m.ram.length c1, .slice b1 m.rom.length d1, .int .i64 m.bank, .int .i64 m.a, .int .i64 m.pc, .bool m.carry, .slice f1 m.back.length g1, .bool m.stop, .int .i64 m.cyc]) (.slice a1 m.ram.length c1) (.slice b1 m.rom.length d1) (.int .i64 m.bank) (.int .i64 m.a) (.int .i64 m.pc) (.bool m.carry) (.slice f1 m.back.length g1) (.bool m.stop) (.int .i64 m.cyc) (.slice none 0 0) (.slice none 0 0) (.int .i64 0) (.int .i64 0) (.int .i64 0) (.bool false) (.slice none 0 0) (.bool false) (.int .i64 0) m W) ∧ Hid (LitI rb 4 W b3) ∧ Hid (w.heap.size ≠ b3) ∧ Hid (LitR rb 7 4 W b4) ∧ Hid (w.heap.size ≠ b4) ∧ Hid (k6 < 7) ∧ Hid (m8 < 4)) ?_ (fun HD6 => ?_)
  · rintro act9 W ⟨q2, b3, b4, k6, m8, rfl, hF, h3, n3, h4, n4, hk6, hm8⟩
    subst hA0
    have hlW := hF.out.rd.lt
    obtain ⟨x0, x1, x2, x3, x4, x5, x6, x7, x8, xf⟩ := id hF.out.nine
    clear xf
    obtain ⟨e0, e1, e2, e3, e4, e5, e6, e7, e8, ef⟩ := id hF.out.box
    have ef0 := ef 0
    have ef1 := ef 1
    have ef2 := ef 2
    have ef3 := ef 3
    have ef4 := ef 4
    have ef5 := ef 5
    have ef6 := ef 6
    have ef7 := ef 7
    have ef8 := ef 8
    clear ef
    have hX1 : w1.heap.size < W.heap.size := block_lt_of_cell x0
    have hXw : w.heap.size < W.heap.size := block_lt_of_cell e0
    (try simp only [Act.put, List.setIfInBounds_toArray, List.set_cons_zero, List.set_cons_succ])
    refine wpAny_ready (rs := [0, 10]) (by kernel_rfl) (by simp) ?_
    refine AllReady.cons (o := ({ dst := some 10, op := Op.load 39 (Operand.tmp 5), type := 39, pos := "l20_draw.go:324", after := #[], guard := none } : Oper)) rfl (fun K hK => ?_) ?_
    · go_simp
      refine hK _ _ ?_
      clear hK K
      (try simp only [Act.put, List.setIfInBounds_toArray, List.set_cons_zero, List.set_cons_succ])
      refine wpAny_to (by kernel_rfl) (by kernel_rfl) (HD2.out _ _ ?_)
      apply Exists.intro
      apply Exists.intro
      apply Exists.intro
      apply Exists.intro
      apply Exists.intro
      refine ⟨?_, ?_, ?_, ?_, ?_, ?_, ?_, ?_⟩
      · (try simp only [Act.put, List.setIfInBounds_toArray, List.set_cons_zero, List.set_cons_succ]); (try rfl)
      · exact hF.out
      · exact h3.out
      · exact n3.out
      · exact h4.out
      · exact n4.out
      · exact hk6.out
      · exact hm8.out
    refine AllReady.cons (o := ({ dst := some 20, op := Op.load 3 (Operand.tmp 19), type := 3, pos := "l20_draw.go:324", after := #[{ on := 9, ground := Ground.data }, { on := 11, ground := Ground.gcOnly Departure.lateStores }], guard := none } : Oper)) rfl (fun K hK => ?_) ?_
    · obtain ⟨r10, hc10⟩ := h3.out.2.2 m8 hm8.out
      go_simp
      refine hK _ _ ?_
      clear hK K
      (try simp only [Act.put, List.setIfInBounds_toArray, List.set_cons_zero, List.set_cons_succ])
      refine wpAny_to (by kernel_rfl) (by kernel_rfl) (HD3.out _ _ ?_)
      apply Exists.intro
      apply Exists.intro
      apply Exists.intro
      apply Exists.intro
      apply Exists.intro
      apply Exists.intro
      refine ⟨?_, ?_, ?_, ?_, ?_, ?_, ?_, ?_⟩
      · (try simp only [Act.put, List.setIfInBounds_toArray, List.set_cons_zero, List.set_cons_succ]); (try rfl)
      · exact hF.out
      · exact h3.out
      · exact n3.out
      · exact h4.out
      · exact n4.out
      · exact hk6.out
      · exact hm8.out
    exact AllReady.nil
  refine wpAny_pre 5 #[true, true, true, true, true, true, true, true, false, false, false, false, false] (fun act9 W => ∃ q2 : Int, ∃ b3 : Nat, ∃ b4 : Nat, ∃ k6 : Nat, act9 = ((((((((A0.put (some 10) (.agg #[.slice a1 m.ram.length c1, .slice b1 m.rom.length d1, .int .i64 m.bank, .int .i64 m.a, .int .i64 m.pc, .bool m.carry, .slice f1 m.back.length g1, .bool m.stop, .int .i64 m.cyc])).put (some 11) (.pointer (some ⟨rb, 0, none⟩))).put (some 12) (.int .i64 q2)).put (some 13) (.slice (some ⟨b3, 0, none⟩) 4 4)).put (some 14) (.slice (some ⟨b4, 0, none⟩) 7 7)).put (some 15) (.pointer (some ⟨rb, 0, none⟩))).put (some 16) (.int .i64 (k6 : Int))).put (some 17) (.pointer (some ⟨b4, k6, none⟩))) ∧ Hid (MidM w w0.heap.size rb w1.heap.size (1200 + 2) (.agg #[.slice a1 m.ram.length c1, .slice b1 m.rom.length d1, .int .i64 m.bank, .int .i64 m.a, .int .i64 m.pc, .bool m.carry, .slice f1 m.back.length g1, .bool m.stop, .int .i64 m.cyc]) (.slice a1 m.ram.length c1) (.slice b1 m.rom.length d1) (.int .i64 m.bank) (.int .i64 m.a) (.int .i64 m.pc) (.bool m.carry) (.slice f1 m.back.length g1) (.bool m.stop) (.int .i64 m.cyc) (.slice none 0 0) (.slice none 0 0) (.int .i64 0) (.int .i64 0) (.int .i64 0) (.bool false) (.slice none 0 0) (.bool false) (.int .i64 0) m W) ∧ Hid (LitI rb 4 W b3) ∧ Hid (w.heap.size ≠ b3) ∧ Hid (LitR rb 7 4 W b4) ∧ Hid (w.heap.size ≠ b4) ∧ Hid (k6 < 7)) ?_ (fun HD7 => ?_)
  · rintro act9 W ⟨q2, b3, b4, k6, rfl, hF, h3, n3, h4, n4, hk6⟩
    subst hA0
    have hlW := hF.out.rd.lt
    obtain ⟨x0, x1, x2, x3, x4, x5, x6, x7, x8, xf⟩ := id hF.out.nine
    clear xf
    obtain ⟨e0, e1, e2, e3, e4, e5, e6, e7, e8, ef⟩ := id hF.out.box
    have ef0 := ef 0
    have ef1 := ef 1
    have ef2 := ef 2
    have ef3 := ef 3
    have ef4 := ef 4
    have ef5 := ef 5
    have ef6 := ef 6
    have ef7 := ef 7
    have ef8 := ef 8
    clear ef
    have hX1 : w1.heap.size < W.heap.size := block_lt_of_cell x0
    have hXw : w.heap.size < W.heap.size := block_lt_of_cell e0
    (try simp only [Act.put, List.setIfInBounds_toArray, List.set_cons_zero, List.set_cons_succ])
    refine wpAny_ready (rs := [8, 11]) (by kernel_rfl) (by simp) ?_
    refine AllReady.cons (o := ({ dst := some 18, op := Op.load 3 (Operand.tmp 17), type := 3, pos := "l20_draw.go:324", after := #[{ on := 7, ground := Ground.data }, { on := 11, ground := Ground.gcOnly Departure.lateStores }], guard := none } : Oper)) rfl (fun K hK => ?_) ?_
    · obtain ⟨m8, hm0, hc8⟩ := h4.out.2.2 k6 hk6.out
      have hm8 := Lib.hid hm0
      clear hm0
      go_simp
      refine hK _ _ ?_
      clear hK K
      (try simp only [Act.put, List.setIfInBounds_toArray, List.set_cons_zero, List.set_cons_succ])
      have hm8i : (m8 : Int) < 4 := by have := hm8.out; omega
      refine wpAny_take (i := 9) (oi := ({ dst := some 19, op := Op.indexAddr 23 (Operand.tmp 13) (Operand.tmp 18), type := 0, pos := "l20_draw.go:324", after := #[{ on := 3, ground := Ground.data }, { on := 8, ground := Ground.data }, { on := 11, ground := Ground.gcOnly Departure.lateStores }], guard := none } : Oper)) (v := ?_) rfl (by kernel_rfl) (by kernel_rfl) (by kernel_rfl) (fun _ _ _ h => h) (Or.inl ⟨by rfl, ?_⟩) ?_
      rotate_left
      · intro wq; go_simp; (try with_reducible rfl)
      (try simp only [Act.put, List.setIfInBounds_toArray, List.set_cons_zero, List.set_cons_succ])
      refine wpAny_to (by kernel_rfl) (by kernel_rfl) (HD2.out _ _ ?_)
      apply Exists.intro
      apply Exists.intro
      apply Exists.intro
      apply Exists.intro
      apply Exists.intro
      refine ⟨?_, ?_, ?_, ?_, ?_, ?_, ?_, ?_⟩
      · (try simp only [Act.put, List.setIfInBounds_toArray, List.set_cons_zero, List.set_cons_succ]); (try rfl)
      · exact hF.out
      · exact h3.out
      · exact n3.out
      · exact h4.out
      · exact n4.out
      · exact hk6.out
      · exact hm8.out
    refine AllReady.cons (o := ({ dst := none, op := Op.store 39 (Operand.tmp 2) (Operand.tmp 10), type := 0, pos := "l20_draw.go:324", after := #[{ on := 0, ground := Ground.data }, { on := 6, ground := Ground.chain }, { on := 0, ground := Ground.phase }, { on := 1, ground := Ground.textOnly Departure.lateStores }, { on := 2, ground := Ground.textOnly Departure.lateStoresUnsure }, { on := 3, ground := Ground.textOnly Departure.lateStores }, { on := 4, ground := Ground.textOnly Departure.lateStores }, { on := 5, ground := Ground.textOnly Departure.lateStores }, { on := 6, ground := Ground.textOnly Departure.lateStoresUnsure }, { on := 7, ground := Ground.textOnly Departure.lateStores }, { on := 8, ground := Ground.textOnly Departure.lateStores }, { on := 9, ground := Ground.textOnly Departure.lateStores }, { on := 10, ground := Ground.textOnly Departure.lateStores }], guard := none } : Oper)) rfl (fun K hK => ?_) ?_
    · go_simp
      refine hK _ _ ?_
      clear hK K
      (try simp only [Act.put, List.setIfInBounds_toArray, List.set_cons_zero, List.set_cons_succ])
      refine wpAny_to (by kernel_rfl) (by kernel_rfl) (HD4.out _ _ ?_)
      apply Exists.intro
      apply Exists.intro
      apply Exists.intro
      apply Exists.intro
      refine ⟨?_, ?_, ?_, ?_, ?_, ?_, ?_⟩
      · (try simp only [Act.put, List.setIfInBounds_toArray, List.set_cons_zero, List.set_cons_succ]); (try rfl)
      · exact hF.out.setBox _ _ _ _ _ _ _ _ _
      · exact (((((((((h3.out.set (p := ⟨w.heap.size, 0, none⟩) n3.out _).set (p := ⟨w.heap.size, 1, none⟩) n3.out _).set (p := ⟨w.heap.size, 2, none⟩) n3.out _).set (p := ⟨w.heap.size, 3, none⟩) n3.out _).set (p := ⟨w.heap.size, 4, none⟩) n3.out _).set (p := ⟨w.heap.size, 5, none⟩) n3.out _).set (p := ⟨w.heap.size, 6, none⟩) n3.out _).set (p := ⟨w.heap.size, 7, none⟩) n3.out _).set (p := ⟨w.heap.size, 8, none⟩) n3.out _)
      · exact n3.out
      · exact (((((((((h4.out.set (p := ⟨w.heap.size, 0, none⟩) n4.out _).set (p := ⟨w.heap.size, 1, none⟩) n4.out _).set (p := ⟨w.heap.size, 2, none⟩) n4.out _).set (p := ⟨w.heap.size, 3, none⟩) n4.out _).set (p := ⟨w.heap.size, 4, none⟩) n4.out _).set (p := ⟨w.heap.size, 5, none⟩) n4.out _).set (p := ⟨w.heap.size, 6, none⟩) n4.out _).set (p := ⟨w.heap.size, 7, none⟩) n4.out _).set (p := ⟨w.heap.size, 8, none⟩) n4.out _)
      · exact n4.out
      · exact hk6.out
    exact AllReady.nil
  refine wpAny_pre 5 #[true, true, true, false, true, true, true, true, true, false, false, false, false] (fun act9 W => ∃ q2 : Int, ∃ b4 : Nat, ∃ k6 : Nat, ∃ m8 : Nat, act9 = ((((((((A0.put (some 10) (.agg #[.slice a1 m.ram.length c1, .slice b1 m.rom.length d1, .int .i64 m.bank, .int .i64 m.a, .int .i64 m.pc, .bool m.carry, .slice f1 m.back.length g1, .bool m.stop, .int .i64 m.cyc])).put (some 11) (.pointer (some ⟨rb, 0, none⟩))).put (some 12) (.int .i64 q2)).put (some 14) (.slice (some ⟨b4, 0, none⟩) 7 7)).put (some 15) (.pointer (some ⟨rb, 0, none⟩))).put (some 16) (.int .i64 (k6 : Int))).put (some 17) (.pointer (some ⟨b4, k6, none⟩))).put (some 18) (.int .i64 (m8 : Int))) ∧ Hid (MidM w w0.heap.size rb w1.heap.size (1200 + 2) (.agg #[.slice a1 m.ram.length c1, .slice b1 m.rom.length d1, .int .i64 m.bank, .int .i64 m.a, .int .i64 m.pc, .bool m.carry, .slice f1 m.back.length g1, .bool m.stop, .int .i64 m.cyc]) (.slice a1 m.ram.length c1) (.slice b1 m.rom.length d1) (.int .i64 m.bank) (.int .i64 m.a) (.int .i64 m.pc) (.bool m.carry) (.slice f1 m.back.length g1) (.bool m.stop) (.int .i64 m.cyc) (.slice none 0 0) (.slice none 0 0) (.int .i64 0) (.int .i64 0) (.int .i64 0) (.bool false) (.slice none 0 0) (.bool false) (.int .i64 0) m W) ∧ Hid (LitR rb 7 4 W b4) ∧ Hid (w.heap.size ≠ b4) ∧ Hid (k6 < 7) ∧ Hid (m8 < 4)) ?_ (fun HD8 => ?_)
  · rintro act9 W ⟨q2, b4, k6, m8, rfl, hF, h4, n4, hk6, hm8⟩
    subst hA0
    have hlW := hF.out.rd.lt
    obtain ⟨x0, x1, x2, x3, x4, x5, x6, x7, x8, xf⟩ := id hF.out.nine
    clear xf
    obtain ⟨e0, e1, e2, e3, e4, e5, e6, e7, e8, ef⟩ := id hF.out.box
    have ef0 := ef 0
    have ef1 := ef 1
    have ef2 := ef 2
    have ef3 := ef 3
    have ef4 := ef 4
    have ef5 := ef 5
    have ef6 := ef 6
    have ef7 := ef 7
    have ef8 := ef 8
    clear ef
    have hX1 : w1.heap.size < W.heap.size := block_lt_of_cell x0
    have hXw : w.heap.size < W.heap.size := block_lt_of_cell e0
    (try simp only [Act.put, List.setIfInBounds_toArray, List.set_cons_zero, List.set_cons_succ])
    refine wpAny_ready (rs := [3, 11]) (by kernel_rfl) (by simp) ?_
    refine AllReady.cons (o := ({ dst := some 13, op := Op.buildSlice 23 4 #[(0, Operand.tmp 12), (1, Operand.const (Value.int IntKind.i64 500)), (2, Operand.const (Value.int IntKind.i64 (-1))), (3, Operand.const (Value.int IntKind.i64 501))], type := 23, pos := "l20_draw.go:324", after := #[{ on := 2, ground := Ground.data }, { on := 11, ground := Ground.gcOnly Departure.lateStores }], guard := none } : Oper)) rfl (fun K hK => ?_) ?_
    · go_simp
      refine hK _ _ ?_
      clear hK K
      (try simp only [Act.put, List.setIfInBounds_toArray, List.set_cons_zero, List.set_cons_succ])
      have hm8i : (m8 : Int) < 4 := by have := hm8.out; omega
      refine wpAny_take (i := 9) (oi := ({ dst := some 19, op := Op.indexAddr 23 (Operand.tmp 13) (Operand.tmp 18), type := 0, pos := "l20_draw.go:324", after := #[{ on := 3, ground := Ground.data }, { on := 8, ground := Ground.data }, { on := 11, ground := Ground.gcOnly Departure.lateStores }], guard := none } : Oper)) (v := ?_) rfl (by kernel_rfl) (by kernel_rfl) (by kernel_rfl) (fun _ _ _ h => h) (Or.inl ⟨by rfl, ?_⟩) ?_
      rotate_left
      · intro wq; go_simp; (try with_reducible rfl)
      (try simp only [Act.put, List.setIfInBounds_toArray, List.set_cons_zero, List.set_cons_succ])
      refine wpAny_to (by kernel_rfl) (by kernel_rfl) (HD2.out _ _ ?_)
      apply Exists.intro
      apply Exists.intro
      apply Exists.intro
      apply Exists.intro
      apply Exists.intro
      refine ⟨?_, ?_, ?_, ?_, ?_, ?_, ?_, ?_⟩
      · (try simp only [Act.put, List.setIfInBounds_toArray, List.set_cons_zero, List.set_cons_succ]); (try rfl)
      · exact hF.out.alloc _
      · exact LitI.new rfl rfl hlW
      · exact Nat.ne_of_lt hXw
      · exact h4.out.alloc _
      · exact n4.out
      · exact hk6.out
      · exact hm8.out
    refine AllReady.cons (o := ({ dst := none, op := Op.store 39 (Operand.tmp 2) (Operand.tmp 10), type := 0, pos := "l20_draw.go:324", after := #[{ on := 0, ground := Ground.data }, { on := 6, ground := Ground.chain }, { on := 0, ground := Ground.phase }, { on := 1, ground := Ground.textOnly Departure.lateStores }, { on := 2, ground := Ground.textOnly Departure.lateStoresUnsure }, { on := 3, ground := Ground.textOnly Departure.lateStores }, { on := 4, ground := Ground.textOnly Departure.lateStores }, { on := 5, ground := Ground.textOnly Departure.lateStores }, { on := 6, ground := Ground.textOnly Departure.lateStoresUnsure }, { on := 7, ground := Ground.textOnly Departure.lateStores }, { on := 8, ground := Ground.textOnly Departure.lateStores }, { on := 9, ground := Ground.textOnly Departure.lateStores }, { on := 10, ground := Ground.textOnly Departure.lateStores }], guard := none } : Oper)) rfl (fun K hK => ?_) ?_
    · go_simp
      refine hK _ _ ?_
      clear hK K
      (try simp only [Act.put, List.setIfInBounds_toArray, List.set_cons_zero, List.set_cons_succ])
      refine wpAny_to (by kernel_rfl) (by kernel_rfl) (HD5.out _ _ ?_)
      apply Exists.intro
      apply Exists.intro
      apply Exists.intro
      apply Exists.intro
      refine ⟨?_, ?_, ?_, ?_, ?_, ?_⟩
      · (try simp only [Act.put, List.setIfInBounds_toArray, List.set_cons_zero, List.set_cons_succ]); (try rfl)
      · exact hF.out.setBox _ _ _ _ _ _ _ _ _
      · exact (((((((((h4.out.set (p := ⟨w.heap.size, 0, none⟩) n4.out _).set (p := ⟨w.heap.size, 1, none⟩) n4.out _).set (p := ⟨w.heap.size, 2, none⟩) n4.out _).set (p := ⟨w.heap.size, 3, none⟩) n4.out _).set (p := ⟨w.heap.size, 4, none⟩) n4.out _).set (p := ⟨w.heap.size, 5, none⟩) n4.out _).set (p := ⟨w.heap.size, 6, none⟩) n4.out _).set (p := ⟨w.heap.size, 7, none⟩) n4.out _).set (p := ⟨w.heap.size, 8, none⟩) n4.out _)
      · exact n4.out
      · exact hk6.out
      · exact hm8.out
    exact AllReady.nil
  refine wpAny_pre 5 #[true, true, true, false, true, true, true, true, false, false, false, true, false] (fun act9 W => ∃ q2 : Int, ∃ b4 : Nat, ∃ k6 : Nat, act9 = (((((((A0.put (some 10) (.agg #[.slice a1 m.ram.length c1, .slice b1 m.rom.length d1, .int .i64 m.bank, .int .i64 m.a, .int .i64 m.pc, .bool m.carry, .slice f1 m.back.length g1, .bool m.stop, .int .i64 m.cyc])).put (some 11) (.pointer (some ⟨rb, 0, none⟩))).put (some 12) (.int .i64 q2)).put (some 14) (.slice (some ⟨b4, 0, none⟩) 7 7)).put (some 15) (.pointer (some ⟨rb, 0, none⟩))).put (some 16) (.int .i64 (k6 : Int))).put (some 17) (.pointer (some ⟨b4, k6, none⟩))) ∧ Hid (MidM w w0.heap.size rb w1.heap.size (1200 + 2) (.agg #[.slice a1 m.ram.length c1, .slice b1 m.rom.length d1, .int .i64 m.bank, .int .i64 m.a, .int .i64 m.pc, .bool m.carry, .slice f1 m.back.length g1, .bool m.stop, .int .i64 m.cyc]) (.slice a1 m.ram.length c1) (.slice b1 m.rom.length d1) (.int .i64 m.bank) (.int .i64 m.a) (.int .i64 m.pc) (.bool m.carry) (.slice f1 m.back.length g1) (.bool m.stop) (.int .i64 m.cyc) (.slice a1 m.ram.length c1) (.slice b1 m.rom.length d1) (.int .i64 m.bank) (.int .i64 m.a) (.int .i64 m.pc) (.bool m.carry) (.slice f1 m.back.length g1) (.bool m.stop) (.int .i64 m.cyc) m W) ∧ Hid (LitR rb 7 4 W b4) ∧ Hid (w.heap.size ≠ b4) ∧ Hid (k6 < 7)) ?_ (fun HD9 => ?_)
  · rintro act9 W ⟨q2, b4, k6, rfl, hF, h4, n4, hk6⟩
    subst hA0
    have hlW := hF.out.rd.lt
    obtain ⟨x0, x1, x2, x3, x4, x5, x6, x7, x8, xf⟩ := id hF.out.nine
    clear xf
    obtain ⟨e0, e1, e2, e3, e4, e5, e6, e7, e8, ef⟩ := id hF.out.box
    have ef0 := ef 0
    have ef1 := ef 1
    have ef2 := ef 2
    have ef3 := ef 3
    have ef4 := ef 4
    have ef5 := ef 5
    have ef6 := ef 6
    have ef7 := ef 7
    have ef8 := ef 8
    clear ef
    have hX1 : w1.heap.size < W.heap.size := block_lt_of_cell x0
    have hXw : w.heap.size < W.heap.size := block_lt_of_cell e0
    (try simp only [Act.put, List.setIfInBounds_toArray, List.set_cons_zero, List.set_cons_succ])
    refine wpAny_ready (rs := [3, 8]) (by kernel_rfl) (by simp) ?_
    refine AllReady.cons (o := ({ dst := some 13, op := Op.buildSlice 23 4 #[(0, Operand.tmp 12), (1, Operand.const (Value.int IntKind.i64 500)), (2, Operand.const (Value.int IntKind.i64 (-1))), (3, Operand.const (Value.int IntKind.i64 501))], type := 23, pos := "l20_draw.go:324", after := #[{ on := 2, ground := Ground.data }, { on := 11, ground := Ground.gcOnly Departure.lateStores }], guard := none } : Oper)) rfl (fun K hK => ?_) ?_
    · go_simp
      refine hK _ _ ?_
      clear hK K
      (try simp only [Act.put, List.setIfInBounds_toArray, List.set_cons_zero, List.set_cons_succ])
      refine wpAny_to (by kernel_rfl) (by kernel_rfl) (HD4.out _ _ ?_)
      apply Exists.intro
      apply Exists.intro
      apply Exists.intro
      apply Exists.intro
      refine ⟨?_, ?_, ?_, ?_, ?_, ?_, ?_⟩
      · (try simp only [Act.put, List.setIfInBounds_toArray, List.set_cons_zero, List.set_cons_succ]); (try rfl)
      · exact hF.out.alloc _
      · exact LitI.new rfl rfl hlW
      · exact Nat.ne_of_lt hXw
      · exact h4.out.alloc _
      · exact n4.out
      · exact hk6.out
    refine AllReady.cons (o := ({ dst := some 18, op := Op.load 3 (Operand.tmp 17), type := 3, pos := "l20_draw.go:324", after := #[{ on := 7, ground := Ground.data }, { on := 11, ground := Ground.gcOnly Departure.lateStores }], guard := none } : Oper)) rfl (fun K hK => ?_) ?_
    · obtain ⟨m8, hm0, hc8⟩ := h4.out.2.2 k6 hk6.out
      have hm8 := Lib.hid hm0
      clear hm0
      go_simp
      refine hK _ _ ?_
      clear hK K
      (try simp only [Act.put, List.setIfInBounds_toArray, List.set_cons_zero, List.set_cons_succ])
      refine wpAny_to (by kernel_rfl) (by kernel_rfl) (HD5.out _ _ ?_)
      apply Exists.intro
      apply Exists.intro
      apply Exists.intro
      apply Exists.intro
      refine ⟨?_, ?_, ?_, ?_, ?_, ?_⟩
      · (try simp only [Act.put, List.setIfInBounds_toArray, List.set_cons_zero, List.set_cons_succ]); (try rfl)
      · exact hF.out
      · exact h4.out
      · exact n4.out
      · exact hk6.out
      · exact hm8.out
    exact AllReady.nil
  refine wpAny_pre 6 #[true, true, true, true, false, true, true, false, false, false, false, true, false] (fun act9 W => ∃ q2 : Int, ∃ b3 : Nat, ∃ k6 : Nat, act9 = ((((((A0.put (some 10) (.agg #[.slice a1 m.ram.length c1, .slice b1 m.rom.length d1, .int .i64 m.bank, .int .i64 m.a, .int .i64 m.pc, .bool m.carry, .slice f1 m.back.length g1, .bool m.stop, .int .i64 m.cyc])).put (some 11) (.pointer (some ⟨rb, 0, none⟩))).put (some 12) (.int .i64 q2)).put (some 13) (.slice (some ⟨b3, 0, none⟩) 4 4)).put (some 15) (.pointer (some ⟨rb, 0, none⟩))).put (some 16) (.int .i64 (k6 : Int))) ∧ Hid (MidM w w0.heap.size rb w1.heap.size (1200 + 2) (.agg #[.slice a1 m.ram.length c1, .slice b1 m.rom.length d1, .int .i64 m.bank, .int .i64 m.a, .int .i64 m.pc, .bool m.carry, .slice f1 m.back.length g1, .bool m.stop, .int .i64 m.cyc]) (.slice a1 m.ram.length c1) (.slice b1 m.rom.length d1) (.int .i64 m.bank) (.int .i64 m.a) (.int .i64 m.pc) (.bool m.carry) (.slice f1 m.back.length g1) (.bool m.stop) (.int .i64 m.cyc) (.slice a1 m.ram.length c1) (.slice b1 m.rom.length d1) (.int .i64 m.bank) (.int .i64 m.a) (.int .i64 m.pc) (.bool m.carry) (.slice f1 m.back.length g1) (.bool m.stop) (.int .i64 m.cyc) m W) ∧ Hid (LitI rb 4 W b3) ∧ Hid (w.heap.size ≠ b3) ∧ Hid (k6 < 7)) ?_ (fun HD10 => ?_)
  · rintro act9 W ⟨q2, b3, k6, rfl, hF, h3, n3, hk6⟩
    subst hA0
    have hlW := hF.out.rd.lt
    obtain ⟨x0, x1, x2, x3, x4, x5, x6, x7, x8, xf⟩ := id hF.out.nine
    clear xf
    obtain ⟨e0, e1, e2, e3, e4, e5, e6, e7, e8, ef⟩ := id hF.out.box
    have ef0 := ef 0
    have ef1 := ef 1
    have ef2 := ef 2
    have ef3 := ef 3
    have ef4 := ef 4
    have ef5 := ef 5
    have ef6 := ef 6
    have ef7 := ef 7
    have ef8 := ef 8
    clear ef
    have hX1 : w1.heap.size < W.heap.size := block_lt_of_cell x0
    have hXw : w.heap.size < W.heap.size := block_lt_of_cell e0
    (try simp only [Act.put, List.setIfInBounds_toArray, List.set_cons_zero, List.set_cons_succ])
    refine wpAny_ready (rs := [4]) (by kernel_rfl) (by simp) ?_
    refine AllReady.cons (o := ({ dst := some 14, op := Op.buildSlice 23 7 #[(0, Operand.const (Value.int IntKind.i64 0)), (1, Operand.const (Value.int IntKind.i64 0)), (2, Operand.const (Value.int IntKind.i64 0)), (3, Operand.const (Value.int IntKind.i64 0)), (4, Operand.const (Value.int IntKind.i64 1)), (5, Operand.const (Value.int IntKind.i64 2)), (6, Operand.const (Value.int IntKind.i64 3))], type := 23, pos := "l20_draw.go:324", after := #[{ on := 11, ground := Ground.gcOnly Departure.lateStores }], guard := none } : Oper)) rfl (fun K hK => ?_) ?_
    · go_simp
      refine hK _ _ ?_
      clear hK K
      (try simp only [Act.put, List.setIfInBounds_toArray, List.set_cons_zero, List.set_cons_succ])
      have hk6i : (k6 : Int) < 7 := by have := hk6.out; omega
      refine wpAny_take (i := 7) (oi := ({ dst := some 17, op := Op.indexAddr 23 (Operand.tmp 14) (Operand.tmp 16), type := 0, pos := "l20_draw.go:324", after := #[{ on := 4, ground := Ground.data }, { on := 6, ground := Ground.data }, { on := 11, ground := Ground.gcOnly Departure.lateStores }], guard := none } : Oper)) (v := ?_) rfl (by kernel_rfl) (by kernel_rfl) (by kernel_rfl) (fun _ _ _ h => h) (Or.inl ⟨by rfl, ?_⟩) ?_
      rotate_left
      · intro wq; go_simp; (try with_reducible rfl)
      (try simp only [Act.put, List.setIfInBounds_toArray, List.set_cons_zero, List.set_cons_succ])
      refine wpAny_to (by kernel_rfl) (by kernel_rfl) (HD4.out _ _ ?_)
      apply Exists.intro
      apply Exists.intro
      apply Exists.intro
      apply Exists.intro
      refine ⟨?_, ?_, ?_, ?_, ?_, ?_, ?_⟩
      · (try simp only [Act.put, List.setIfInBounds_toArray, List.set_cons_zero, List.set_cons_succ]); (try rfl)
      · exact hF.out.alloc _
      · exact h3.out.alloc _
      · exact n3.out
      · exact LitR.new (by intro k hk; rcases (show k = 0 ∨ k = 1 ∨ k = 2 ∨ k = 3 ∨ k = 4 ∨ k = 5 ∨ k = 6 by omega) with rfl | rfl | rfl | rfl | rfl | rfl | rfl <;> first | exact ⟨0, by decide, rfl⟩ | exact ⟨1, by decide, rfl⟩ | exact ⟨2, by decide, rfl⟩ | exact ⟨3, by decide, rfl⟩) hlW
      · exact Nat.ne_of_lt hXw
      · exact hk6.out
    exact AllReady.nil
  refine wpAny_pre 6 #[true, true, true, false, true, true, true, true, false, false, false, false, false] (fun act9 W => ∃ q2 : Int, ∃ b4 : Nat, ∃ k6 : Nat, act9 = (((((((A0.put (some 10) (.agg #[.slice a1 m.ram.length c1, .slice b1 m.rom.length d1, .int .i64 m.bank, .int .i64 m.a, .int .i64 m.pc, .bool m.carry, .slice f1 m.back.length g1, .bool m.stop, .int .i64 m.cyc])).put (some 11) (.pointer (some ⟨rb, 0, none⟩))).put (some 12) (.int .i64 q2)).put (some 14) (.slice (some ⟨b4, 0, none⟩) 7 7)).put (some 15) (.pointer (some ⟨rb, 0, none⟩))).put (some 16) (.int .i64 (k6 : Int))).put (some 17) (.pointer (some ⟨b4, k6, none⟩))) ∧ Hid (MidM w w0.heap.size rb w1.heap.size (1200 + 2) (.agg #[.slice a1 m.ram.length c1, .slice b1 m.rom.length d1, .int .i64 m.bank, .int .i64 m.a, .int .i64 m.pc, .bool m.carry, .slice f1 m.back.length g1, .bool m.stop, .int .i64 m.cyc]) (.slice a1 m.ram.length c1) (.slice b1 m.rom.length d1) (.int .i64 m.bank) (.int .i64 m.a) (.int .i64 m.pc) (.bool m.carry) (.slice f1 m.back.length g1) (.bool m.stop) (.int .i64 m.cyc) (.slice none 0 0) (.slice none 0 0) (.int .i64 0) (.int .i64 0) (.int .i64 0) (.bool false) (.slice none 0 0) (.bool false) (.int .i64 0) m W) ∧ Hid (LitR rb 7 4 W b4) ∧ Hid (w.heap.size ≠ b4) ∧ Hid (k6 < 7)) ?_ (fun HD11 => ?_)
  · rintro act9 W ⟨q2, b4, k6, rfl, hF, h4, n4, hk6⟩
    subst hA0
    have hlW := hF.out.rd.lt
    obtain ⟨x0, x1, x2, x3, x4, x5, x6, x7, x8, xf⟩ := id hF.out.nine
    clear xf
    obtain ⟨e0, e1, e2, e3, e4, e5, e6, e7, e8, ef⟩ := id hF.out.box
    have ef0 := ef 0
    have ef1 := ef 1
    have ef2 := ef 2
    have ef3 := ef 3
    have ef4 := ef 4
    have ef5 := ef 5
    have ef6 := ef 6
    have ef7 := ef 7
    have ef8 := ef 8
    clear ef
    have hX1 : w1.heap.size < W.heap.size := block_lt_of_cell x0
    have hXw : w.heap.size < W.heap.size := block_lt_of_cell e0
    (try simp only [Act.put, List.setIfInBounds_toArray, List.set_cons_zero, List.set_cons_succ])
    refine wpAny_ready (rs := [3, 8, 11]) (by kernel_rfl) (by simp) ?_
    refine AllReady.cons (o := ({ dst := some 13, op := Op.buildSlice 23 4 #[(0, Operand.tmp 12), (1, Operand.const (Value.int IntKind.i64 500)), (2, Operand.const (Value.int IntKind.i64 (-1))), (3, Operand.const (Value.int IntKind.i64 501))], type := 23, pos := "l20_draw.go:324", after := #[{ on := 2, ground := Ground.data }, { on := 11, ground := Ground.gcOnly Departure.lateStores }], guard := none } : Oper)) rfl (fun K hK => ?_) ?_
    · go_simp
      refine hK _ _ ?_
      clear hK K
      (try simp only [Act.put, List.setIfInBounds_toArray, List.set_cons_zero, List.set_cons_succ])
      refine wpAny_to (by kernel_rfl) (by kernel_rfl) (HD7.out _ _ ?_)
      apply Exists.intro
      apply Exists.intro
      apply Exists.intro
      apply Exists.intro
      refine ⟨?_, ?_, ?_, ?_, ?_, ?_, ?_⟩
      · (try simp only [Act.put, List.setIfInBounds_toArray, List.set_cons_zero, List.set_cons_succ]); (try rfl)
      · exact hF.out.alloc _
      · exact LitI.new rfl rfl hlW
      · exact Nat.ne_of_lt hXw
      · exact h4.out.alloc _
      · exact n4.out
      · exact hk6.out
    refine AllReady.cons (o := ({ dst := some 18, op := Op.load 3 (Operand.tmp 17), type := 3, pos := "l20_draw.go:324", after := #[{ on := 7, ground := Ground.data }, { on := 11, ground := Ground.gcOnly Departure.lateStores }], guard := none } : Oper)) rfl (fun K hK => ?_) ?_
    · obtain ⟨m8, hm0, hc8⟩ := h4.out.2.2 k6 hk6.out
      have hm8 := Lib.hid hm0
      clear hm0
      go_simp
      refine hK _ _ ?_
      clear hK K
      (try simp only [Act.put, List.setIfInBounds_toArray, List.set_cons_zero, List.set_cons_succ])
      refine wpAny_to (by kernel_rfl) (by kernel_rfl) (HD8.out _ _ ?_)
      apply Exists.intro
      apply Exists.intro
      apply Exists.intro
      apply Exists.intro
      refine ⟨?_, ?_, ?_, ?_, ?_, ?_⟩
      · (try simp only [Act.put, List.setIfInBounds_toArray, List.set_cons_zero, List.set_cons_succ]); (try rfl)
      · exact hF.out
      · exact h4.out
      · exact n4.out
      · exact hk6.out
      · exact hm8.out
    refine AllReady.cons (o := ({ dst := none, op := Op.store 39 (Operand.tmp 2) (Operand.tmp 10), type := 0, pos := "l20_draw.go:324", after := #[{ on := 0, ground := Ground.data }, { on := 6, ground := Ground.chain }, { on := 0, ground := Ground.phase }, { on := 1, ground := Ground.textOnly Departure.lateStores }, { on := 2, ground := Ground.textOnly Departure.lateStoresUnsure }, { on := 3, ground := Ground.textOnly Departure.lateStores }, { on := 4, ground := Ground.textOnly Departure.lateStores }, { on := 5, ground := Ground.textOnly Departure.lateStores }, { on := 6, ground := Ground.textOnly Departure.lateStoresUnsure }, { on := 7, ground := Ground.textOnly Departure.lateStores }, { on := 8, ground := Ground.textOnly Departure.lateStores }, { on := 9, ground := Ground.textOnly Departure.lateStores }, { on := 10, ground := Ground.textOnly Departure.lateStores }], guard := none } : Oper)) rfl (fun K hK => ?_) ?_
    · go_simp
      refine hK _ _ ?_
      clear hK K
      (try simp only [Act.put, List.setIfInBounds_toArray, List.set_cons_zero, List.set_cons_succ])
      refine wpAny_to (by kernel_rfl) (by kernel_rfl) (HD9.out _ _ ?_)
      apply Exists.intro
      apply Exists.intro
      apply Exists.intro
      refine ⟨?_, ?_, ?_, ?_, ?_⟩
      · (try simp only [Act.put, List.setIfInBounds_toArray, List.set_cons_zero, List.set_cons_succ]); (try rfl)
      · exact hF.out.setBox _ _ _ _ _ _ _ _ _
      · exact (((((((((h4.out.set (p := ⟨w.heap.size, 0, none⟩) n4.out _).set (p := ⟨w.heap.size, 1, none⟩) n4.out _).set (p := ⟨w.heap.size, 2, none⟩) n4.out _).set (p := ⟨w.heap.size, 3, none⟩) n4.out _).set (p := ⟨w.heap.size, 4, none⟩) n4.out _).set (p := ⟨w.heap.size, 5, none⟩) n4.out _).set (p := ⟨w.heap.size, 6, none⟩) n4.out _).set (p := ⟨w.heap.size, 7, none⟩) n4.out _).set (p := ⟨w.heap.size, 8, none⟩) n4.out _)
      · exact n4.out
      · exact hk6.out
    exact AllReady.nil
  refine wpAny_pre 6 #[false, true, true, true, true, true, true, true, false, false, false, false, false] (fun act9 W => ∃ q2 : Int, ∃ b3 : Nat, ∃ b4 : Nat, ∃ k6 : Nat, act9 = (((((((A0.put (some 11) (.pointer (some ⟨rb, 0, none⟩))).put (some 12) (.int .i64 q2)).put (some 13) (.slice (some ⟨b3, 0, none⟩) 4 4)).put (some 14) (.slice (some ⟨b4, 0, none⟩) 7 7)).put (some 15) (.pointer (some ⟨rb, 0, none⟩))).put (some 16) (.int .i64 (k6 : Int))).put (some 17) (.pointer (some ⟨b4, k6, none⟩))) ∧ Hid (MidM w w0.heap.size rb w1.heap.size (1200 + 2) (.agg #[.slice a1 m.ram.length c1, .slice b1 m.rom.length d1, .int .i64 m.bank, .int .i64 m.a, .int .i64 m.pc, .bool m.carry, .slice f1 m.back.length g1, .bool m.stop, .int .i64 m.cyc]) (.slice a1 m.ram.length c1) (.slice b1 m.rom.length d1) (.int .i64 m.bank) (.int .i64 m.a) (.int .i64 m.pc) (.bool m.carry) (.slice f1 m.back.length g1) (.bool m.stop) (.int .i64 m.cyc) (.slice none 0 0) (.slice none 0 0) (.int .i64 0) (.int .i64 0) (.int .i64 0) (.bool false) (.slice none 0 0) (.bool false) (.int .i64 0) m W) ∧ Hid (LitI rb 4 W b3) ∧ Hid (w.heap.size ≠ b3) ∧ Hid (LitR rb 7 4 W b4) ∧ Hid (w.heap.size ≠ b4) ∧ Hid (k6 < 7)) ?_ (fun HD12 => ?_)
  · rintro act9 W ⟨q2, b3, b4, k6, rfl, hF, h3, n3, h4, n4, hk6⟩
    subst hA0
    have hlW := hF.out.rd.lt
    obtain ⟨x0, x1, x2, x3, x4, x5, x6, x7, x8, xf⟩ := id hF.out.nine
    clear xf
    obtain ⟨e0, e1, e2, e3, e4, e5, e6, e7, e8, ef⟩ := id hF.out.box
    have ef0 := ef 0
    have ef1 := ef 1
    have ef2 := ef 2
    have ef3 := ef 3
    have ef4 := ef 4
    have ef5 := ef 5
    have ef6 := ef 6
    have ef7 := ef 7
    have ef8 := ef 8
    clear ef
    have hX1 : w1.heap.size < W.heap.size := block_lt_of_cell x0
    have hXw : w.heap.size < W.heap.size := block_lt_of_cell e0
    (try simp only [Act.put, List.setIfInBounds_toArray, List.set_cons_zero, List.set_cons_succ])
    refine wpAny_ready (rs := [0, 8]) (by kernel_rfl) (by simp) ?_
    refine AllReady.cons (o := ({ dst := some 10, op := Op.load 39 (Operand.tmp 5), type := 39, pos := "l20_draw.go:324", after := #[], guard := none } : Oper)) rfl (fun K hK => ?_) ?_
    · go_simp
      refine hK _ _ ?_
      clear hK K
      (try simp only [Act.put, List.setIfInBounds_toArray, List.set_cons_zero, List.set_cons_succ])
      refine wpAny_to (by kernel_rfl) (by kernel_rfl) (HD7.out _ _ ?_)
      apply Exists.intro
      apply Exists.intro
      apply Exists.intro
      apply Exists.intro
      refine ⟨?_, ?_, ?_, ?_, ?_, ?_, ?_⟩
      · (try simp only [Act.put, List.setIfInBounds_toArray, List.set_cons_zero, List.set_cons_succ]); (try rfl)
      · exact hF.out
      · exact h3.out
      · exact n3.out
      · exact h4.out
      · exact n4.out
      · exact hk6.out
    refine AllReady.cons (o := ({ dst := some 18, op := Op.load 3 (Operand.tmp 17), type := 3, pos := "l20_draw.go:324", after := #[{ on := 7, ground := Ground.data }, { on := 11, ground := Ground.gcOnly Departure.lateStores }], guard := none } : Oper)) rfl (fun K hK => ?_) ?_
    · obtain ⟨m8, hm0, hc8⟩ := h4.out.2.2 k6 hk6.out
      have hm8 := Lib.hid hm0
      clear hm0
      go_simp
      refine hK _ _ ?_
      clear hK K
      (try simp only [Act.put, List.setIfInBounds_toArray, List.set_cons_zero, List.set_cons_succ])
      have hm8i : (m8 : Int) < 4 := by have := hm8.out; omega
      refine wpAny_take (i := 9) (oi := ({ dst := some 19, op := Op.indexAddr 23 (Operand.tmp 13) (Operand.tmp 18), type := 0, pos := "l20_draw.go:324", after := #[{ on := 3, ground := Ground.data }, { on := 8, ground := Ground.data }, { on := 11, ground := Ground.gcOnly Departure.lateStores }], guard := none } : Oper)) (v := ?_) rfl (by kernel_rfl) (by kernel_rfl) (by kernel_rfl) (fun _ _ _ h => h) (Or.inl ⟨by rfl, ?_⟩) ?_
      rotate_left
      · intro wq; go_simp; (try with_reducible rfl)
      (try simp only [Act.put, List.setIfInBounds_toArray, List.set_cons_zero, List.set_cons_succ])
      refine wpAny_to (by kernel_rfl) (by kernel_rfl) (HD6.out _ _ ?_)
      apply Exists.intro
      apply Exists.intro
      apply Exists.intro
      apply Exists.intro
      apply Exists.intro
      refine ⟨?_, ?_, ?_, ?_, ?_, ?_, ?_, ?_⟩
      · (try simp only [Act.put, List.setIfInBounds_toArray, List.set_cons_zero, List.set_cons_succ]); (try rfl)
      · exact hF.out
      · exact h3.out
      · exact n3.out
      · exact h4.out
      · exact n4.out
      · exact hk6.out
      · exact hm8.out
    exact AllReady.nil
  refine wpAny_pre 6 #[false, true, true, false, true, true, true, true, true, false, false, false, false] (fun act9 W => ∃ q2 : Int, ∃ b4 : Nat, ∃ k6 : Nat, ∃ m8 : Nat, act9 = (((((((A0.put (some 11) (.pointer (some ⟨rb, 0, none⟩))).put (some 12) (.int .i64 q2)).put (some 14) (.slice (some ⟨b4, 0, none⟩) 7 7)).put (some 15) (.pointer (some ⟨rb, 0, none⟩))).put (some 16) (.int .i64 (k6 : Int))).put (some 17) (.pointer (some ⟨b4, k6, none⟩))).put (some 18) (.int .i64 (m8 : Int))) ∧ Hid (MidM w w0.heap.size rb w1.heap.size (1200 + 2) (.agg #[.slice a1 m.ram.length c1, .slice b1 m.rom.length d1, .int .i64 m.bank, .int .i64 m.a, .int .i64 m.pc, .bool m.carry, .slice f1 m.back.length g1, .bool m.stop, .int .i64 m.cyc]) (.slice a1 m.ram.length c1) (.slice b1 m.rom.length d1) (.int .i64 m.bank) (.int .i64 m.a) (.int .i64 m.pc) (.bool m.carry) (.slice f1 m.back.length g1) (.bool m.stop) (.int .i64 m.cyc) (.slice none 0 0) (.slice none 0 0) (.int .i64 0) (.int .i64 0) (.int .i64 0) (.bool false) (.slice none 0 0) (.bool false) (.int .i64 0) m W) ∧ Hid (LitR rb 7 4 W b4) ∧ Hid (w.heap.size ≠ b4) ∧ Hid (k6 < 7) ∧ Hid (m8 < 4)) ?_ (fun HD13 => ?_)
  · rintro act9 W ⟨q2, b4, k6, m8, rfl, hF, h4, n4, hk6, hm8⟩
    subst hA0
    have hlW := hF.out.rd.lt
    obtain ⟨x0, x1, x2, x3, x4, x5, x6, x7, x8, xf⟩ := id hF.out.nine
    clear xf
    obtain ⟨e0, e1, e2, e3, e4, e5, e6, e7, e8, ef⟩ := id hF.out.box
    have ef0 := ef 0
    have ef1 := ef 1
    have ef2 := ef 2
    have ef3 := ef 3
    have ef4 := ef 4
    have ef5 := ef 5
    have ef6 := ef 6
    have ef7 := ef 7
    have ef8 := ef 8
    clear ef
    have hX1 : w1.heap.size < W.heap.size := block_lt_of_cell x0
    have hXw : w.heap.size < W.heap.size := block_lt_of_cell e0
    (try simp only [Act.put, List.setIfInBounds_toArray, List.set_cons_zero, List.set_cons_succ])
    refine wpAny_ready (rs := [0, 3]) (by kernel_rfl) (by simp) ?_
    refine AllReady.cons (o := ({ dst := some 10, op := Op.load 39 (Operand.tmp 5), type := 39, pos := "l20_draw.go:324", after := #[], guard := none } : Oper)) rfl (fun K hK => ?_) ?_
    · go_simp
      refine hK _ _ ?_
      clear hK K
      (try simp only [Act.put, List.setIfInBounds_toArray, List.set_cons_zero, List.set_cons_succ])
      refine wpAny_to (by kernel_rfl) (by kernel_rfl) (HD8.out _ _ ?_)
      apply Exists.intro
      apply Exists.intro
      apply Exists.intro
      apply Exists.intro
      refine ⟨?_, ?_, ?_, ?_, ?_, ?_⟩
      · (try simp only [Act.put, List.setIfInBounds_toArray, List.set_cons_zero, List.set_cons_succ]); (try rfl)
      · exact hF.out
      · exact h4.out
      · exact n4.out
      · exact hk6.out
      · exact hm8.out
    refine AllReady.cons (o := ({ dst := some 13, op := Op.buildSlice 23 4 #[(0, Operand.tmp 12), (1, Operand.const (Value.int IntKind.i64 500)), (2, Operand.const (Value.int IntKind.i64 (-1))), (3, Operand.const (Value.int IntKind.i64 501))], type := 23, pos := "l20_draw.go:324", after := #[{ on := 2, ground := Ground.data }, { on := 11, ground := Ground.gcOnly Departure.lateStores }], guard := none } : Oper)) rfl (fun K hK => ?_) ?_
    · go_simp
      refine hK _ _ ?_
      clear hK K
      (try simp only [Act.put, List.setIfInBounds_toArray, List.set_cons_zero, List.set_cons_succ])
      have hm8i : (m8 : Int) < 4 := by have := hm8.out; omega
      refine wpAny_take (i := 9) (oi := ({ dst := some 19, op := Op.indexAddr 23 (Operand.tmp 13) (Operand.tmp 18), type := 0, pos := "l20_draw.go:324", after := #[{ on := 3, ground := Ground.data }, { on := 8, ground := Ground.data }, { on := 11, ground := Ground.gcOnly Departure.lateStores }], guard := none } : Oper)) (v := ?_) rfl (by kernel_rfl) (by kernel_rfl) (by kernel_rfl) (fun _ _ _ h => h) (Or.inl ⟨by rfl, ?_⟩) ?_
      rotate_left
      · intro wq; go_simp; (try with_reducible rfl)
      (try simp only [Act.put, List.setIfInBounds_toArray, List.set_cons_zero, List.set_cons_succ])
      refine wpAny_to (by kernel_rfl) (by kernel_rfl) (HD6.out _ _ ?_)
      apply Exists.intro
      apply Exists.intro
      apply Exists.intro
      apply Exists.intro
      apply Exists.intro
      refine ⟨?_, ?_, ?_, ?_, ?_, ?_, ?_, ?_⟩
      · (try simp only [Act.put, List.setIfInBounds_toArray, List.set_cons_zero, List.set_cons_succ]); (try rfl)
      · exact hF.out.alloc _
      · exact LitI.new rfl rfl hlW
      · exact Nat.ne_of_lt hXw
      · exact h4.out.alloc _
      · exact n4.out
      · exact hk6.out
      · exact hm8.out
    exact AllReady.nil
  refine wpAny_pre 7 #[true, true, true, true, true, true, false, false, false, false, false, false, false] (fun act9 W => ∃ q2 : Int, ∃ b3 : Nat, ∃ b4 : Nat, act9 = ((((((A0.put (some 10) (.agg #[.slice a1 m.ram.length c1, .slice b1 m.rom.length d1, .int .i64 m.bank, .int .i64 m.a, .int .i64 m.pc, .bool m.carry, .slice f1 m.back.length g1, .bool m.stop, .int .i64 m.cyc])).put (some 11) (.pointer (some ⟨rb, 0, none⟩))).put (some 12) (.int .i64 q2)).put (some 13) (.slice (some ⟨b3, 0, none⟩) 4 4)).put (some 14) (.slice (some ⟨b4, 0, none⟩) 7 7)).put (some 15) (.pointer (some ⟨rb, 0, none⟩))) ∧ Hid (MidM w w0.heap.size rb w1.heap.size (1200 + 1) (.agg #[.slice a1 m.ram.length c1, .slice b1 m.rom.length d1, .int .i64 m.bank, .int .i64 m.a, .int .i64 m.pc, .bool m.carry, .slice f1 m.back.length g1, .bool m.stop, .int .i64 m.cyc]) (.slice a1 m.ram.length c1) (.slice b1 m.rom.length d1) (.int .i64 m.bank) (.int .i64 m.a) (.int .i64 m.pc) (.bool m.carry) (.slice f1 m.back.length g1) (.bool m.stop) (.int .i64 m.cyc) (.slice none 0 0) (.slice none 0 0) (.int .i64 0) (.int .i64 0) (.int .i64 0) (.bool false) (.slice none 0 0) (.bool false) (.int .i64 0) m W) ∧ Hid (LitI rb 4 W b3) ∧ Hid (w.heap.size ≠ b3) ∧ Hid (LitR rb 7 4 W b4) ∧ Hid (w.heap.size ≠ b4)) ?_ (fun HD14 => ?_)
  · rintro act9 W ⟨q2, b3, b4, rfl, hF, h3, n3, h4, n4⟩
    subst hA0
    have hlW := hF.out.rd.lt
    obtain ⟨x0, x1, x2, x3, x4, x5, x6, x7, x8, xf⟩ := id hF.out.nine
    clear xf
    obtain ⟨e0, e1, e2, e3, e4, e5, e6, e7, e8, ef⟩ := id hF.out.box
    have ef0 := ef 0
    have ef1 := ef 1
    have ef2 := ef 2
    have ef3 := ef 3
    have ef4 := ef 4
    have ef5 := ef 5
    have ef6 := ef 6
    have ef7 := ef 7
    have ef8 := ef 8
    clear ef
    have hX1 : w1.heap.size < W.heap.size := block_lt_of_cell x0
    have hXw : w.heap.size < W.heap.size := block_lt_of_cell e0
    (try simp only [Act.put, List.setIfInBounds_toArray, List.set_cons_zero, List.set_cons_succ])
    refine wpAny_ready (rs := [6]) (by kernel_rfl) (by simp) ?_
    refine AllReady.cons (o := ({ dst := some 16, op := Op.call { callee := Callee.value (Operand.func 54), args := #[Operand.tmp 15, Operand.const (Value.int IntKind.i64 7)], argTypes := #[68, 3] }, type := 3, pos := "l20_draw.go:324", after := #[{ on := 5, ground := Ground.data }, { on := 2, ground := Ground.chain }], guard := none } : Oper)) rfl (fun K hK => ?_) ?_
    · go_simp
      refine (pick (B := (1200 + 1)) _ hF.out.rd (by omega)).mono ?_
      rintro e W' ⟨v6, rfl, ⟨x6, rfl, y6, z6⟩, hR', hK'⟩
      obtain ⟨k6, rfl⟩ := Int.eq_ofNat_of_zero_le y6
      have hk6 := Lib.hid (show k6 < 7 by omega)
      first | (refine hK _ _ ?_; clear hK K) | (go_wp2_with fail; (try (refine hK _ _ ?_)); (try clear hK K))
      (try simp only [Act.put, List.setIfInBounds_toArray, List.set_cons_zero, List.set_cons_succ])
      have hk6i : (k6 : Int) < 7 := by have := hk6.out; omega
      refine wpAny_take (i := 7) (oi := ({ dst := some 17, op := Op.indexAddr 23 (Operand.tmp 14) (Operand.tmp 16), type := 0, pos := "l20_draw.go:324", after := #[{ on := 4, ground := Ground.data }, { on := 6, ground := Ground.data }, { on := 11, ground := Ground.gcOnly Departure.lateStores }], guard := none } : Oper)) (v := ?_) rfl (by kernel_rfl) (by kernel_rfl) (by kernel_rfl) (fun _ _ _ h => h) (Or.inl ⟨by rfl, ?_⟩) ?_
      rotate_left
      · intro wq; go_simp; (try with_reducible rfl)
      (try simp only [Act.put, List.setIfInBounds_toArray, List.set_cons_zero, List.set_cons_succ])
      refine wpAny_to (by kernel_rfl) (by kernel_rfl) (HD7.out _ _ ?_)
      apply Exists.intro
      apply Exists.intro
      apply Exists.intro
      apply Exists.intro
      refine ⟨?_, ?_, ?_, ?_, ?_, ?_, ?_⟩
      · (try simp only [Act.put, List.setIfInBounds_toArray, List.set_cons_zero, List.set_cons_succ]); (try rfl)
      · exact hF.out.keep hK' hR'
      · exact h3.out.keep hK'
      · exact n3.out
      · exact h4.out.keep hK'
      · exact n4.out
      · exact hk6.out
    exact AllReady.nil
  refine wpAny_pre 7 #[true, true, true, true, false, true, true, false, false, false, false, false, false] (fun act9 W => ∃ q2 : Int, ∃ b3 : Nat, ∃ k6 : Nat, act9 = ((((((A0.put (some 10) (.agg #[.slice a1 m.ram.length c1, .slice b1 m.rom.length d1, .int .i64 m.bank, .int .i64 m.a, .int .i64 m.pc, .bool m.carry, .slice f1 m.back.length g1, .bool m.stop, .int .i64 m.cyc])).put (some 11) (.pointer (some ⟨rb, 0, none⟩))).put (some 12) (.int .i64 q2)).put (some 13) (.slice (some ⟨b3, 0, none⟩) 4 4)).put (some 15) (.pointer (some ⟨rb, 0, none⟩))).put (some 16) (.int .i64 (k6 : Int))) ∧ Hid (MidM w w0.heap.size rb w1.heap.size (1200 + 2) (.agg #[.slice a1 m.ram.length c1, .slice b1 m.rom.length d1, .int .i64 m.bank, .int .i64 m.a, .int .i64 m.pc, .bool m.carry, .slice f1 m.back.length g1, .bool m.stop, .int .i64 m.cyc]) (.slice a1 m.ram.length c1) (.slice b1 m.rom.length d1) (.int .i64 m.bank) (.int .i64 m.a) (.int .i64 m.pc) (.bool m.carry) (.slice f1 m.back.length g1) (.bool m.stop) (.int .i64 m.cyc) (.slice none 0 0) (.slice none 0 0) (.int .i64 0) (.int .i64 0) (.int .i64 0) (.bool false) (.slice none 0 0) (.bool false) (.int .i64 0) m W) ∧ Hid (LitI rb 4 W b3) ∧ Hid (w.heap.size ≠ b3) ∧ Hid (k6 < 7)) ?_ (fun HD15 => ?_)
  · rintro act9 W ⟨q2, b3, k6, rfl, hF, h3, n3, hk6⟩
    subst hA0
    have hlW := hF.out.rd.lt
    obtain ⟨x0, x1, x2, x3, x4, x5, x6, x7, x8, xf⟩ := id hF.out.nine
    clear xf
    obtain ⟨e0, e1, e2, e3, e4, e5, e6, e7, e8, ef⟩ := id hF.out.box
    have ef0 := ef 0
    have ef1 := ef 1
    have ef2 := ef 2
    have ef3 := ef 3
    have ef4 := ef 4
    have ef5 := ef 5
    have ef6 := ef 6
    have ef7 := ef 7
    have ef8 := ef 8
    clear ef
    have hX1 : w1.heap.size < W.heap.size := block_lt_of_cell x0
    have hXw : w.heap.size < W.heap.size := block_lt_of_cell e0
    (try simp only [Act.put, List.setIfInBounds_toArray, List.set_cons_zero, List.set_cons_succ])
    refine wpAny_ready (rs := [4, 11]) (by kernel_rfl) (by simp) ?_
    refine AllReady.cons (o := ({ dst := some 14, op := Op.buildSlice 23 7 #[(0, Operand.const (Value.int IntKind.i64 0)), (1, Operand.const (Value.int IntKind.i64 0)), (2, Operand.const (Value.int IntKind.i64 0)), (3, Operand.const (Value.int IntKind.i64 0)), (4, Operand.const (Value.int IntKind.i64 1)), (5, Operand.const (Value.int IntKind.i64 2)), (6, Operand.const (Value.int IntKind.i64 3))], type := 23, pos := "l20_draw.go:324", after := #[{ on := 11, ground := Ground.gcOnly Departure.lateStores }], guard := none } : Oper)) rfl (fun K hK => ?_) ?_
    · go_simp
      refine hK _ _ ?_
      clear hK K
      (try simp only [Act.put, List.setIfInBounds_toArray, List.set_cons_zero, List.set_cons_succ])
      have hk6i : (k6 : Int) < 7 := by have := hk6.out; omega
      refine wpAny_take (i := 7) (oi := ({ dst := some 17, op := Op.indexAddr 23 (Operand.tmp 14) (Operand.tmp 16), type := 0, pos := "l20_draw.go:324", after := #[{ on := 4, ground := Ground.data }, { on := 6, ground := Ground.data }, { on := 11, ground := Ground.gcOnly Departure.lateStores }], guard := none } : Oper)) (v := ?_) rfl (by kernel_rfl) (by kernel_rfl) (by kernel_rfl) (fun _ _ _ h => h) (Or.inl ⟨by rfl, ?_⟩) ?_
      rotate_left
      · intro wq; go_simp; (try with_reducible rfl)
      (try simp only [Act.put, List.setIfInBounds_toArray, List.set_cons_zero, List.set_cons_succ])
      refine wpAny_to (by kernel_rfl) (by kernel_rfl) (HD7.out _ _ ?_)
      apply Exists.intro
      apply Exists.intro
      apply Exists.intro
      apply Exists.intro
      refine ⟨?_, ?_, ?_, ?_, ?_, ?_, ?_⟩
      · (try simp only [Act.put, List.setIfInBounds_toArray, List.set_cons_zero, List.set_cons_succ]); (try rfl)
      · exact hF.out.alloc _
      · exact h3.out.alloc _
      · exact n3.out
      · exact LitR.new (by intro k hk; rcases (show k = 0 ∨ k = 1 ∨ k = 2 ∨ k = 3 ∨ k = 4 ∨ k = 5 ∨ k = 6 by omega) with rfl | rfl | rfl | rfl | rfl | rfl | rfl <;> first | exact ⟨0, by decide, rfl⟩ | exact ⟨1, by decide, rfl⟩ | exact ⟨2, by decide, rfl⟩ | exact ⟨3, by decide, rfl⟩) hlW
      · exact Nat.ne_of_lt hXw
      · exact hk6.out
    refine AllReady.cons (o := ({ dst := none, op := Op.store 39 (Operand.tmp 2) (Operand.tmp 10), type := 0, pos := "l20_draw.go:324", after := #[{ on := 0, ground := Ground.data }, { on := 6, ground := Ground.chain }, { on := 0, ground := Ground.phase }, { on := 1, ground := Ground.textOnly Departure.lateStores }, { on := 2, ground := Ground.textOnly Departure.lateStoresUnsure }, { on := 3, ground := Ground.textOnly Departure.lateStores }, { on := 4, ground := Ground.textOnly Departure.lateStores }, { on := 5, ground := Ground.textOnly Departure.lateStores }, { on := 6, ground := Ground.textOnly Departure.lateStoresUnsure }, { on := 7, ground := Ground.textOnly Departure.lateStores }, { on := 8, ground := Ground.textOnly Departure.lateStores }, { on := 9, ground := Ground.textOnly Departure.lateStores }, { on := 10, ground := Ground.textOnly Departure.lateStores }], guard := none } : Oper)) rfl (fun K hK => ?_) ?_
    · go_simp
      refine hK _ _ ?_
      clear hK K
      (try simp only [Act.put, List.setIfInBounds_toArray, List.set_cons_zero, List.set_cons_succ])
      refine wpAny_to (by kernel_rfl) (by kernel_rfl) (HD10.out _ _ ?_)
      apply Exists.intro
      apply Exists.intro
      apply Exists.intro
      refine ⟨?_, ?_, ?_, ?_, ?_⟩
      · (try simp only [Act.put, List.setIfInBounds_toArray, List.set_cons_zero, List.set_cons_succ]); (try rfl)
      · exact hF.out.setBox _ _ _ _ _ _ _ _ _
      · exact (((((((((h3.out.set (p := ⟨w.heap.size, 0, none⟩) n3.out _).set (p := ⟨w.heap.size, 1, none⟩) n3.out _).set (p := ⟨w.heap.size, 2, none⟩) n3.out _).set (p := ⟨w.heap.size, 3, none⟩) n3.out _).set (p := ⟨w.heap.size, 4, none⟩) n3.out _).set (p := ⟨w.heap.size, 5, none⟩) n3.out _).set (p := ⟨w.heap.size, 6, none⟩) n3.out _).set (p := ⟨w.heap.size, 7, none⟩) n3.out _).set (p := ⟨w.heap.size, 8, none⟩) n3.out _)
      · exact n3.out
      · exact hk6.out
    exact AllReady.nil
  refine wpAny_pre 7 #[true, true, true, false, false, true, true, false, false, false, false, true, false] (fun act9 W => ∃ q2 : Int, ∃ k6 : Nat, act9 = (((((A0.put (some 10) (.agg #[.slice a1 m.ram.length c1, .slice b1 m.rom.length d1, .int .i64 m.bank, .int .i64 m.a, .int .i64 m.pc, .bool m.carry, .slice f1 m.back.length g1, .bool m.stop, .int .i64 m.cyc])).put (some 11) (.pointer (some ⟨rb, 0, none⟩))).put (some 12) (.int .i64 q2)).put (some 15) (.pointer (some ⟨rb, 0, none⟩))).put (some 16) (.int .i64 (k6 : Int))) ∧ Hid (MidM w w0.heap.size rb w1.heap.size (1200 + 2) (.agg #[.slice a1 m.ram.length c1, .slice b1 m.rom.length d1, .int .i64 m.bank, .int .i64 m.a, .int .i64 m.pc, .bool m.carry, .slice f1 m.back.length g1, .bool m.stop, .int .i64 m.cyc]) (.slice a1 m.ram.length c1) (.slice b1 m.rom.length d1) (.int .i64 m.bank) (.int .i64 m.a) (.int .i64 m.pc) (.bool m.carry) (.slice f1 m.back.length g1) (.bool m.stop) (.int .i64 m.cyc) (.slice a1 m.ram.length c1) (.slice b1 m.rom.length d1) (.int .i64 m.bank) (.int .i64 m.a) (.int .i64 m.pc) (.bool m.carry) (.slice f1 m.back.length g1) (.bool m.stop) (.int .i64 m.cyc) m W) ∧ Hid (k6 < 7)) ?_ (fun HD16 => ?_)
  · rintro act9 W ⟨q2, k6, rfl, hF, hk6⟩
    subst hA0
    have hlW := hF.out.rd.lt
    obtain ⟨x0, x1, x2, x3, x4, x5, x6, x7, x8, xf⟩ := id hF.out.nine
    clear xf
    obtain ⟨e0, e1, e2, e3, e4, e5, e6, e7, e8, ef⟩ := id hF.out.box
    have ef0 := ef 0
    have ef1 := ef 1
    have ef2 := ef 2
    have ef3 := ef 3
    have ef4 := ef 4
    have ef5 := ef 5
    have ef6 := ef 6
    have ef7 := ef 7
    have ef8 := ef 8
    clear ef
    have hX1 : w1.heap.size < W.heap.size := block_lt_of_cell x0
    have hXw : w.heap.size < W.heap.size := block_lt_of_cell e0
    (try simp only [Act.put, List.setIfInBounds_toArray, List.set_cons_zero, List.set_cons_succ])
    refine wpAny_ready (rs := [3, 4]) (by kernel_rfl) (by simp) ?_
    refine AllReady.cons (o := ({ dst := some 13, op := Op.buildSlice 23 4 #[(0, Operand.tmp 12), (1, Operand.const (Value.int IntKind.i64 500)), (2, Operand.const (Value.int IntKind.i64 (-1))), (3, Operand.const (Value.int IntKind.i64 501))], type := 23, pos := "l20_draw.go:324", after := #[{ on := 2, ground := Ground.data }, { on := 11, ground := Ground.gcOnly Departure.lateStores }], guard := none } : Oper)) rfl (fun K hK => ?_) ?_
    · go_simp
      refine hK _ _ ?_
      clear hK K
      (try simp only [Act.put, List.setIfInBounds_toArray, List.set_cons_zero, List.set_cons_succ])
      refine wpAny_to (by kernel_rfl) (by kernel_rfl) (HD10.out _ _ ?_)
      apply Exists.intro
      apply Exists.intro
      apply Exists.intro
      refine ⟨?_, ?_, ?_, ?_, ?_⟩
      · (try simp only [Act.put, List.setIfInBounds_toArray, List.set_cons_zero, List.set_cons_succ]); (try rfl)
      · exact hF.out.alloc _
      · exact LitI.new rfl rfl hlW
      · exact Nat.ne_of_lt hXw
      · exact hk6.out
    refine AllReady.cons (o := ({ dst := some 14, op := Op.buildSlice 23 7 #[(0, Operand.const (Value.int IntKind.i64 0)), (1, Operand.const (Value.int IntKind.i64 0)), (2, Operand.const (Value.int IntKind.i64 0)), (3, Operand.const (Value.int IntKind.i64 0)), (4, Operand.const (Value.int IntKind.i64 1)), (5, Operand.const (Value.int IntKind.i64 2)), (6, Operand.const (Value.int IntKind.i64 3))], type := 23, pos := "l20_draw.go:324", after := #[{ on := 11, ground := Ground.gcOnly Departure.lateStores }], guard := none } : Oper)) rfl (fun K hK => ?_) ?_
    · go_simp
      refine hK _ _ ?_
      clear hK K
      (try simp only [Act.put, List.setIfInBounds_toArray, List.set_cons_zero, List.set_cons_succ])
      have hk6i : (k6 : Int) < 7 := by have := hk6.out; omega
      refine wpAny_take (i := 7) (oi := ({ dst := some 17, op := Op.indexAddr 23 (Operand.tmp 14) (Operand.tmp 16), type := 0, pos := "l20_draw.go:324", after := #[{ on := 4, ground := Ground.data }, { on := 6, ground := Ground.data }, { on := 11, ground := Ground.gcOnly Departure.lateStores }], guard := none } : Oper)) (v := ?_) rfl (by kernel_rfl) (by kernel_rfl) (by kernel_rfl) (fun _ _ _ h => h) (Or.inl ⟨by rfl, ?_⟩) ?_
      rotate_left
      · intro wq; go_simp; (try with_reducible rfl)
      (try simp only [Act.put, List.setIfInBounds_toArray, List.set_cons_zero, List.set_cons_succ])
      refine wpAny_to (by kernel_rfl) (by kernel_rfl) (HD9.out _ _ ?_)
      apply Exists.intro
      apply Exists.intro
      apply Exists.intro
      refine ⟨?_, ?_, ?_, ?_, ?_⟩
      · (try simp only [Act.put, List.setIfInBounds_toArray, List.set_cons_zero, List.set_cons_succ]); (try rfl)
      · exact hF.out.alloc _
      · exact LitR.new (by intro k hk; rcases (show k = 0 ∨ k = 1 ∨ k = 2 ∨ k = 3 ∨ k = 4 ∨ k = 5 ∨ k = 6 by omega) with rfl | rfl | rfl | rfl | rfl | rfl | rfl <;> first | exact ⟨0, by decide, rfl⟩ | exact ⟨1, by decide, rfl⟩ | exact ⟨2, by decide, rfl⟩ | exact ⟨3, by decide, rfl⟩) hlW
      · exact Nat.ne_of_lt hXw
      · exact hk6.out
    exact AllReady.nil
  refine wpAny_pre 7 #[false, true, true, false, true, true, true, true, false, false, false, false, false] (fun act9 W => ∃ q2 : Int, ∃ b4 : Nat, ∃ k6 : Nat, act9 = ((((((A0.put (some 11) (.pointer (some ⟨rb, 0, none⟩))).put (some 12) (.int .i64 q2)).put (some 14) (.slice (some ⟨b4, 0, none⟩) 7 7)).put (some 15) (.pointer (some ⟨rb, 0, none⟩))).put (some 16) (.int .i64 (k6 : Int))).put (some 17) (.pointer (some ⟨b4, k6, none⟩))) ∧ Hid (MidM w w0.heap.size rb w1.heap.size (1200 + 2) (.agg #[.slice a1 m.ram.length c1, .slice b1 m.rom.length d1, .int .i64 m.bank, .int .i64 m.a, .int .i64 m.pc, .bool m.carry, .slice f1 m.back.length g1, .bool m.stop, .int .i64 m.cyc]) (.slice a1 m.ram.length c1) (.slice b1 m.rom.length d1) (.int .i64 m.bank) (.int .i64 m.a) (.int .i64 m.pc) (.bool m.carry) (.slice f1 m.back.length g1) (.bool m.stop) (.int .i64 m.cyc) (.slice none 0 0) (.slice none 0 0) (.int .i64 0) (.int .i64 0) (.int .i64 0) (.bool false) (.slice none 0 0) (.bool false) (.int .i64 0) m W) ∧ Hid (LitR rb 7 4 W b4) ∧ Hid (w.heap.size ≠ b4) ∧ Hid (k6 < 7)) ?_ (fun HD17 => ?_)
  · rintro act9 W ⟨q2, b4, k6, rfl, hF, h4, n4, hk6⟩
    subst hA0
    have hlW := hF.out.rd.lt
    obtain ⟨x0, x1, x2, x3, x4, x5, x6, x7, x8, xf⟩ := id hF.out.nine
    clear xf
    obtain ⟨e0, e1, e2, e3, e4, e5, e6, e7, e8, ef⟩ := id hF.out.box
    have ef0 := ef 0
    have ef1 := ef 1
    have ef2 := ef 2
    have ef3 := ef 3
    have ef4 := ef 4
    have ef5 := ef 5
    have ef6 := ef 6
    have ef7 := ef 7
    have ef8 := ef 8
    clear ef
    have hX1 : w1.heap.size < W.heap.size := block_lt_of_cell x0
    have hXw : w.heap.size < W.heap.size := block_lt_of_cell e0
    (try simp only [Act.put, List.setIfInBounds_toArray, List.set_cons_zero, List.set_cons_succ])
    refine wpAny_ready (rs := [0, 3, 8]) (by kernel_rfl) (by simp) ?_
    refine AllReady.cons (o := ({ dst := some 10, op := Op.load 39 (Operand.tmp 5), type := 39, pos := "l20_draw.go:324", after := #[], guard := none } : Oper)) rfl (fun K hK => ?_) ?_
    · go_simp
      refine hK _ _ ?_
      clear hK K
      (try simp only [Act.put, List.setIfInBounds_toArray, List.set_cons_zero, List.set_cons_succ])
      refine wpAny_to (by kernel_rfl) (by kernel_rfl) (HD11.out _ _ ?_)
      apply Exists.intro
      apply Exists.intro
      apply Exists.intro
      refine ⟨?_, ?_, ?_, ?_, ?_⟩
      · (try simp only [Act.put, List.setIfInBounds_toArray, List.set_cons_zero, List.set_cons_succ]); (try rfl)
      · exact hF.out
      · exact h4.out
      · exact n4.out
      · exact hk6.out
    refine AllReady.cons (o := ({ dst := some 13, op := Op.buildSlice 23 4 #[(0, Operand.tmp 12), (1, Operand.const (Value.int IntKind.i64 500)), (2, Operand.const (Value.int IntKind.i64 (-1))), (3, Operand.const (Value.int IntKind.i64 501))], type := 23, pos := "l20_draw.go:324", after := #[{ on := 2, ground := Ground.data }, { on := 11, ground := Ground.gcOnly Departure.lateStores }], guard := none } : Oper)) rfl (fun K hK => ?_) ?_
    · go_simp
      refine hK _ _ ?_
      clear hK K
      (try simp only [Act.put, List.setIfInBounds_toArray, List.set_cons_zero, List.set_cons_succ])
      refine wpAny_to (by kernel_rfl) (by kernel_rfl) (HD12.out _ _ ?_)
      apply Exists.intro
      apply Exists.intro
      apply Exists.intro
      apply Exists.intro
      refine ⟨?_, ?_, ?_, ?_, ?_, ?_, ?_⟩
      · (try simp only [Act.put, List.setIfInBounds_toArray, List.set_cons_zero, List.set_cons_succ]); (try rfl)
      · exact hF.out.alloc _
      · exact LitI.new rfl rfl hlW
      · exact Nat.ne_of_lt hXw
      · exact h4.out.alloc _
      · exact n4.out
      · exact hk6.out
    refine AllReady.cons (o := ({ dst := some 18, op := Op.load 3 (Operand.tmp 17), type := 3, pos := "l20_draw.go:324", after := #[{ on := 7, ground := Ground.data }, { on := 11, ground := Ground.gcOnly Departure.lateStores }], guard := none } : Oper)) rfl (fun K hK => ?_) ?_
    · obtain ⟨m8, hm0, hc8⟩ := h4.out.2.2 k6 hk6.out
      have hm8 := Lib.hid hm0
      clear hm0
      go_simp
      refine hK _ _ ?_
      clear hK K
      (try simp only [Act.put, List.setIfInBounds_toArray, List.set_cons_zero, List.set_cons_succ])
      refine wpAny_to (by kernel_rfl) (by kernel_rfl) (HD13.out _ _ ?_)
      apply Exists.intro
      apply Exists.intro
      apply Exists.intro
      apply Exists.intro
      refine ⟨?_, ?_, ?_, ?_, ?_, ?_⟩
      · (try simp only [Act.put, List.setIfInBounds_toArray, List.set_cons_zero, List.set_cons_succ]); (try rfl)
      · exact hF.out
      · exact h4.out
      · exact n4.out
      · exact hk6.out
      · exact hm8.out
    exact AllReady.nil
  refine wpAny_pre 8 #[true, true, true, true, false, true, false, false, false, false, false, false, false] (fun act9 W => ∃ q2 : Int, ∃ b3 : Nat, act9 = (((((A0.put (some 10) (.agg #[.slice a1 m.ram.length c1, .slice b1 m.rom.length d1, .int .i64 m.bank, .int .i64 m.a, .int .i64 m.pc, .bool m.carry, .slice f1 m.back.length g1, .bool m.stop, .int .i64 m.cyc])).put (some 11) (.pointer (some ⟨rb, 0, none⟩))).put (some 12) (.int .i64 q2)).put (some 13) (.slice (some ⟨b3, 0, none⟩) 4 4)).put (some 15) (.pointer (some ⟨rb, 0, none⟩))) ∧ Hid (MidM w w0.heap.size rb w1.heap.size (1200 + 1) (.agg #[.slice a1 m.ram.length c1, .slice b1 m.rom.length d1, .int .i64 m.bank, .int .i64 m.a, .int .i64 m.pc, .bool m.carry, .slice f1 m.back.length g1, .bool m.stop, .int .i64 m.cyc]) (.slice a1 m.ram.length c1) (.slice b1 m.rom.length d1) (.int .i64 m.bank) (.int .i64 m.a) (.int .i64 m.pc) (.bool m.carry) (.slice f1 m.back.length g1) (.bool m.stop) (.int .i64 m.cyc) (.slice none 0 0) (.slice none 0 0) (.int .i64 0) (.int .i64 0) (.int .i64 0) (.bool false) (.slice none 0 0) (.bool false) (.int .i64 0) m W) ∧ Hid (LitI rb 4 W b3) ∧ Hid (w.heap.size ≠ b3)) ?_ (fun HD18 => ?_)
  · rintro act9 W ⟨q2, b3, rfl, hF, h3, n3⟩
    subst hA0
    have hlW := hF.out.rd.lt
    obtain ⟨x0, x1, x2, x3, x4, x5, x6, x7, x8, xf⟩ := id hF.out.nine
    clear xf
    obtain ⟨e0, e1, e2, e3, e4, e5, e6, e7, e8, ef⟩ := id hF.out.box
    have ef0 := ef 0
    have ef1 := ef 1
    have ef2 := ef 2
    have ef3 := ef 3
    have ef4 := ef 4
    have ef5 := ef 5
    have ef6 := ef 6
    have ef7 := ef 7
    have ef8 := ef 8
    clear ef
    have hX1 : w1.heap.size < W.heap.size := block_lt_of_cell x0
    have hXw : w.heap.size < W.heap.size := block_lt_of_cell e0
    (try simp only [Act.put, List.setIfInBounds_toArray, List.set_cons_zero, List.set_cons_succ])
    refine wpAny_ready (rs := [4, 6]) (by kernel_rfl) (by simp) ?_
    refine AllReady.cons (o := ({ dst := some 14, op := Op.buildSlice 23 7 #[(0, Operand.const (Value.int IntKind.i64 0)), (1, Operand.const (Value.int IntKind.i64 0)), (2, Operand.const (Value.int IntKind.i64 0)), (3, Operand.const (Value.int IntKind.i64 0)), (4, Operand.const (Value.int IntKind.i64 1)), (5, Operand.const (Value.int IntKind.i64 2)), (6, Operand.const (Value.int IntKind.i64 3))], type := 23, pos := "l20_draw.go:324", after := #[{ on := 11, ground := Ground.gcOnly Departure.lateStores }], guard := none } : Oper)) rfl (fun K hK => ?_) ?_
    · go_simp
      refine hK _ _ ?_
      clear hK K
      (try simp only [Act.put, List.setIfInBounds_toArray, List.set_cons_zero, List.set_cons_succ])
      refine wpAny_to (by kernel_rfl) (by kernel_rfl) (HD14.out _ _ ?_)
      apply Exists.intro
      apply Exists.intro
      apply Exists.intro
      refine ⟨?_, ?_, ?_, ?_, ?_, ?_⟩
      · (try simp only [Act.put, List.setIfInBounds_toArray, List.set_cons_zero, List.set_cons_succ]); (try rfl)
      · exact hF.out.alloc _
      · exact h3.out.alloc _
      · exact n3.out
      · exact LitR.new (by intro k hk; rcases (show k = 0 ∨ k = 1 ∨ k = 2 ∨ k = 3 ∨ k = 4 ∨ k = 5 ∨ k = 6 by omega) with rfl | rfl | rfl | rfl | rfl | rfl | rfl <;> first | exact ⟨0, by decide, rfl⟩ | exact ⟨1, by decide, rfl⟩ | exact ⟨2, by decide, rfl⟩ | exact ⟨3, by decide, rfl⟩) hlW
      · exact Nat.ne_of_lt hXw
    refine AllReady.cons (o := ({ dst := some 16, op := Op.call { callee := Callee.value (Operand.func 54), args := #[Operand.tmp 15, Operand.const (Value.int IntKind.i64 7)], argTypes := #[68, 3] }, type := 3, pos := "l20_draw.go:324", after := #[{ on := 5, ground := Ground.data }, { on := 2, ground := Ground.chain }], guard := none } : Oper)) rfl (fun K hK => ?_) ?_
    · go_simp
      refine (pick (B := (1200 + 1)) _ hF.out.rd (by omega)).mono ?_
      rintro e W' ⟨v6, rfl, ⟨x6, rfl, y6, z6⟩, hR', hK'⟩
      obtain ⟨k6, rfl⟩ := Int.eq_ofNat_of_zero_le y6
      have hk6 := Lib.hid (show k6 < 7 by omega)
      first | (refine hK _ _ ?_; clear hK K) | (go_wp2_with fail; (try (refine hK _ _ ?_)); (try clear hK K))
      (try simp only [Act.put, List.setIfInBounds_toArray, List.set_cons_zero, List.set_cons_succ])
      refine wpAny_to (by kernel_rfl) (by kernel_rfl) (HD15.out _ _ ?_)
      apply Exists.intro
      apply Exists.intro
      apply Exists.intro
      refine ⟨?_, ?_, ?_, ?_, ?_⟩
      · (try simp only [Act.put, List.setIfInBounds_toArray, List.set_cons_zero, List.set_cons_succ]); (try rfl)
      · exact hF.out.keep hK' hR'
      · exact h3.out.keep hK'
      · exact n3.out
      · exact hk6.out
    exact AllReady.nil
  refine wpAny_pre 8 #[true, true, true, false, true, true, false, false, false, false, false, false, false] (fun act9 W => ∃ q2 : Int, ∃ b4 : Nat, act9 = (((((A0.put (some 10) (.agg #[.slice a1 m.ram.length c1, .slice b1 m.rom.length d1, .int .i64 m.bank, .int .i64 m.a, .int .i64 m.pc, .bool m.carry, .slice f1 m.back.length g1, .bool m.stop, .int .i64 m.cyc])).put (some 11) (.pointer (some ⟨rb, 0, none⟩))).put (some 12) (.int .i64 q2)).put (some 14) (.slice (some ⟨b4, 0, none⟩) 7 7)).put (some 15) (.pointer (some ⟨rb, 0, none⟩))) ∧ Hid (MidM w w0.heap.size rb w1.heap.size (1200 + 1) (.agg #[.slice a1 m.ram.length c1, .slice b1 m.rom.length d1, .int .i64 m.bank, .int .i64 m.a, .int .i64 m.pc, .bool m.carry, .slice f1 m.back.length g1, .bool m.stop, .int .i64 m.cyc]) (.slice a1 m.ram.length c1) (.slice b1 m.rom.length d1) (.int .i64 m.bank) (.int .i64 m.a) (.int .i64 m.pc) (.bool m.carry) (.slice f1 m.back.length g1) (.bool m.stop) (.int .i64 m.cyc) (.slice none 0 0) (.slice none 0 0) (.int .i64 0) (.int .i64 0) (.int .i64 0) (.bool false) (.slice none 0 0) (.bool false) (.int .i64 0) m W) ∧ Hid (LitR rb 7 4 W b4) ∧ Hid (w.heap.size ≠ b4)) ?_ (fun HD19 => ?_)
  · rintro act9 W ⟨q2, b4, rfl, hF, h4, n4⟩
    subst hA0
    have hlW := hF.out.rd.lt
    obtain ⟨x0, x1, x2, x3, x4, x5, x6, x7, x8, xf⟩ := id hF.out.nine
    clear xf
    obtain ⟨e0, e1, e2, e3, e4, e5, e6, e7, e8, ef⟩ := id hF.out.box
    have ef0 := ef 0
    have ef1 := ef 1
    have ef2 := ef 2
    have ef3 := ef 3
    have ef4 := ef 4
    have ef5 := ef 5
    have ef6 := ef 6
    have ef7 := ef 7
    have ef8 := ef 8
    clear ef
    have hX1 : w1.heap.size < W.heap.size := block_lt_of_cell x0
    have hXw : w.heap.size < W.heap.size := block_lt_of_cell e0
    (try simp only [Act.put, List.setIfInBounds_toArray, List.set_cons_zero, List.set_cons_succ])
    refine wpAny_ready (rs := [3, 6]) (by kernel_rfl) (by simp) ?_
    refine AllReady.cons (o := ({ dst := some 13, op := Op.buildSlice 23 4 #[(0, Operand.tmp 12), (1, Operand.const (Value.int IntKind.i64 500)), (2, Operand.const (Value.int IntKind.i64 (-1))), (3, Operand.const (Value.int IntKind.i64 501))], type := 23, pos := "l20_draw.go:324", after := #[{ on := 2, ground := Ground.data }, { on := 11, ground := Ground.gcOnly Departure.lateStores }], guard := none } : Oper)) rfl (fun K hK => ?_) ?_
    · go_simp
      refine hK _ _ ?_
      clear hK K
      (try simp only [Act.put, List.setIfInBounds_toArray, List.set_cons_zero, List.set_cons_succ])
      refine wpAny_to (by kernel_rfl) (by kernel_rfl) (HD14.out _ _ ?_)
      apply Exists.intro
      apply Exists.intro
      apply Exists.intro
      refine ⟨?_, ?_, ?_, ?_, ?_, ?_⟩
      · (try simp only [Act.put, List.setIfInBounds_toArray, List.set_cons_zero, List.set_cons_succ]); (try rfl)
      · exact hF.out.alloc _
      · exact LitI.new rfl rfl hlW
      · exact Nat.ne_of_lt hXw
      · exact h4.out.alloc _
      · exact n4.out
    refine AllReady.cons (o := ({ dst := some 16, op := Op.call { callee := Callee.value (Operand.func 54), args := #[Operand.tmp 15, Operand.const (Value.int IntKind.i64 7)], argTypes := #[68, 3] }, type := 3, pos := "l20_draw.go:324", after := #[{ on := 5, ground := Ground.data }, { on := 2, ground := Ground.chain }], guard := none } : Oper)) rfl (fun K hK => ?_) ?_
    · go_simp
      refine (pick (B := (1200 + 1)) _ hF.out.rd (by omega)).mono ?_
      rintro e W' ⟨v6, rfl, ⟨x6, rfl, y6, z6⟩, hR', hK'⟩
      obtain ⟨k6, rfl⟩ := Int.eq_ofNat_of_zero_le y6
      have hk6 := Lib.hid (show k6 < 7 by omega)
      first | (refine hK _ _ ?_; clear hK K) | (go_wp2_with fail; (try (refine hK _ _ ?_)); (try clear hK K))
      (try simp only [Act.put, List.setIfInBounds_toArray, List.set_cons_zero, List.set_cons_succ])
      have hk6i : (k6 : Int) < 7 := by have := hk6.out; omega
      refine wpAny_take (i := 7) (oi := ({ dst := some 17, op := Op.indexAddr 23 (Operand.tmp 14) (Operand.tmp 16), type := 0, pos := "l20_draw.go:324", after := #[{ on := 4, ground := Ground.data }, { on := 6, ground := Ground.data }, { on := 11, ground := Ground.gcOnly Departure.lateStores }], guard := none } : Oper)) (v := ?_) rfl (by kernel_rfl) (by kernel_rfl) (by kernel_rfl) (fun _ _ _ h => h) (Or.inl ⟨by rfl, ?_⟩) ?_
      rotate_left
      · intro wq; go_simp; (try with_reducible rfl)
      (try simp only [Act.put, List.setIfInBounds_toArray, List.set_cons_zero, List.set_cons_succ])
      refine wpAny_to (by kernel_rfl) (by kernel_rfl) (HD11.out _ _ ?_)
      apply Exists.intro
      apply Exists.intro
      apply Exists.intro
      refine ⟨?_, ?_, ?_, ?_, ?_⟩
      · (try simp only [Act.put, List.setIfInBounds_toArray, List.set_cons_zero, List.set_cons_succ]); (try rfl)
      · exact hF.out.keep hK' hR'
      · exact h4.out.keep hK'
      · exact n4.out
      · exact hk6.out
    exact AllReady.nil
  refine wpAny_pre 8 #[true, true, true, false, false, true, true, false, false, false, false, false, false] (fun act9 W => ∃ q2 : Int, ∃ k6 : Nat, act9 = (((((A0.put (some 10) (.agg #[.slice a1 m.ram.length c1, .slice b1 m.rom.length d1, .int .i64 m.bank, .int .i64 m.a, .int .i64 m.pc, .bool m.carry, .slice f1 m.back.length g1, .bool m.stop, .int .i64 m.cyc])).put (some 11) (.pointer (some ⟨rb, 0, none⟩))).put (some 12) (.int .i64 q2)).put (some 15) (.pointer (some ⟨rb, 0, none⟩))).put (some 16) (.int .i64 (k6 : Int))) ∧ Hid (MidM w w0.heap.size rb w1.heap.size (1200 + 2) (.agg #[.slice a1 m.ram.length c1, .slice b1 m.rom.length d1, .int .i64 m.bank, .int .i64 m.a, .int .i64 m.pc, .bool m.carry, .slice f1 m.back.length g1, .bool m.stop, .int .i64 m.cyc]) (.slice a1 m.ram.length c1) (.slice b1 m.rom.length d1) (.int .i64 m.bank) (.int .i64 m.a) (.int .i64 m.pc) (.bool m.carry) (.slice f1 m.back.length g1) (.bool m.stop) (.int .i64 m.cyc) (.slice none 0 0) (.slice none 0 0) (.int .i64 0) (.int .i64 0) (.int .i64 0) (.bool false) (.slice none 0 0) (.bool false) (.int .i64 0) m W) ∧ Hid (k6 < 7)) ?_ (fun HD20 => ?_)
  · rintro act9 W ⟨q2, k6, rfl, hF, hk6⟩
    subst hA0
    have hlW := hF.out.rd.lt
    obtain ⟨x0, x1, x2, x3, x4, x5, x6, x7, x8, xf⟩ := id hF.out.nine
    clear xf
    obtain ⟨e0, e1, e2, e3, e4, e5, e6, e7, e8, ef⟩ := id hF.out.box
    have ef0 := ef 0
    have ef1 := ef 1
    have ef2 := ef 2
    have ef3 := ef 3
    have ef4 := ef 4
    have ef5 := ef 5
    have ef6 := ef 6
    have ef7 := ef 7
    have ef8 := ef 8
    clear ef
    have hX1 : w1.heap.size < W.heap.size := block_lt_of_cell x0
    have hXw : w.heap.size < W.heap.size := block_lt_of_cell e0
    (try simp only [Act.put, List.setIfInBounds_toArray, List.set_cons_zero, List.set_cons_succ])
    refine wpAny_ready (rs := [3, 4, 11]) (by kernel_rfl) (by simp) ?_
    refine AllReady.cons (o := ({ dst := some 13, op := Op.buildSlice 23 4 #[(0, Operand.tmp 12), (1, Operand.const (Value.int IntKind.i64 500)), (2, Operand.const (Value.int IntKind.i64 (-1))), (3, Operand.const (Value.int IntKind.i64 501))], type := 23, pos := "l20_draw.go:324", after := #[{ on := 2, ground := Ground.data }, { on := 11, ground := Ground.gcOnly Departure.lateStores }], guard := none } : Oper)) rfl (fun K hK => ?_) ?_
    · go_simp
      refine hK _ _ ?_
      clear hK K
      (try simp only [Act.put, List.setIfInBounds_toArray, List.set_cons_zero, List.set_cons_succ])
      refine wpAny_to (by kernel_rfl) (by kernel_rfl) (HD15.out _ _ ?_)
      apply Exists.intro
      apply Exists.intro
      apply Exists.intro
      refine ⟨?_, ?_, ?_, ?_, ?_⟩
      · (try simp only [Act.put, List.setIfInBounds_toArray, List.set_cons_zero, List.set_cons_succ]); (try rfl)
      · exact hF.out.alloc _
      · exact LitI.new rfl rfl hlW
      · exact Nat.ne_of_lt hXw
      · exact hk6.out
    refine AllReady.cons (o := ({ dst := some 14, op := Op.buildSlice 23 7 #[(0, Operand.const (Value.int IntKind.i64 0)), (1, Operand.const (Value.int IntKind.i64 0)), (2, Operand.const (Value.int IntKind.i64 0)), (3, Operand.const (Value.int IntKind.i64 0)), (4, Operand.const (Value.int IntKind.i64 1)), (5, Operand.const (Value.int IntKind.i64 2)), (6, Operand.const (Value.int IntKind.i64 3))], type := 23, pos := "l20_draw.go:324", after := #[{ on := 11, ground := Ground.gcOnly Departure.lateStores }], guard := none } : Oper)) rfl (fun K hK => ?_) ?_
    · go_simp
      refine hK _ _ ?_
      clear hK K
      (try simp only [Act.put, List.setIfInBounds_toArray, List.set_cons_zero, List.set_cons_succ])
      have hk6i : (k6 : Int) < 7 := by have := hk6.out; omega
      refine wpAny_take (i := 7) (oi := ({ dst := some 17, op := Op.indexAddr 23 (Operand.tmp 14) (Operand.tmp 16), type := 0, pos := "l20_draw.go:324", after := #[{ on := 4, ground := Ground.data }, { on := 6, ground := Ground.data }, { on := 11, ground := Ground.gcOnly Departure.lateStores }], guard := none } : Oper)) (v := ?_) rfl (by kernel_rfl) (by kernel_rfl) (by kernel_rfl) (fun _ _ _ h => h) (Or.inl ⟨by rfl, ?_⟩) ?_
      rotate_left
      · intro wq; go_simp; (try with_reducible rfl)
      (try simp only [Act.put, List.setIfInBounds_toArray, List.set_cons_zero, List.set_cons_succ])
      refine wpAny_to (by kernel_rfl) (by kernel_rfl) (HD11.out _ _ ?_)
      apply Exists.intro
      apply Exists.intro
      apply Exists.intro
      refine ⟨?_, ?_, ?_, ?_, ?_⟩
      · (try simp only [Act.put, List.setIfInBounds_toArray, List.set_cons_zero, List.set_cons_succ]); (try rfl)
      · exact hF.out.alloc _
      · exact LitR.new (by intro k hk; rcases (show k = 0 ∨ k = 1 ∨ k = 2 ∨ k = 3 ∨ k = 4 ∨ k = 5 ∨ k = 6 by omega) with rfl | rfl | rfl | rfl | rfl | rfl | rfl <;> first | exact ⟨0, by decide, rfl⟩ | exact ⟨1, by decide, rfl⟩ | exact ⟨2, by decide, rfl⟩ | exact ⟨3, by decide, rfl⟩) hlW
      · exact Nat.ne_of_lt hXw
      · exact hk6.out
    refine AllReady.cons (o := ({ dst := none, op := Op.store 39 (Operand.tmp 2) (Operand.tmp 10), type := 0, pos := "l20_draw.go:324", after := #[{ on := 0, ground := Ground.data }, { on := 6, ground := Ground.chain }, { on := 0, ground := Ground.phase }, { on := 1, ground := Ground.textOnly Departure.lateStores }, { on := 2, ground := Ground.textOnly Departure.lateStoresUnsure }, { on := 3, ground := Ground.textOnly Departure.lateStores }, { on := 4, ground := Ground.textOnly Departure.lateStores }, { on := 5, ground := Ground.textOnly Departure.lateStores }, { on := 6, ground := Ground.textOnly Departure.lateStoresUnsure }, { on := 7, ground := Ground.textOnly Departure.lateStores }, { on := 8, ground := Ground.textOnly Departure.lateStores }, { on := 9, ground := Ground.textOnly Departure.lateStores }, { on := 10, ground := Ground.textOnly Departure.lateStores }], guard := none } : Oper)) rfl (fun K hK => ?_) ?_
    · go_simp
      refine hK _ _ ?_
      clear hK K
      (try simp only [Act.put, List.setIfInBounds_toArray, List.set_cons_zero, List.set_cons_succ])
      refine wpAny_to (by kernel_rfl) (by kernel_rfl) (HD16.out _ _ ?_)
      apply Exists.intro
      apply Exists.intro
      refine ⟨?_, ?_, ?_⟩
      · (try simp only [Act.put, List.setIfInBounds_toArray, List.set_cons_zero, List.set_cons_succ]); (try rfl)
      · exact hF.out.setBox _ _ _ _ _ _ _ _ _
      · exact hk6.out
    exact AllReady.nil
  refine wpAny_pre 8 #[false, true, true, true, true, true, false, false, false, false, false, false, false] (fun act9 W => ∃ q2 : Int, ∃ b3 : Nat, ∃ b4 : Nat, act9 = (((((A0.put (some 11) (.pointer (some ⟨rb, 0, none⟩))).put (some 12) (.int .i64 q2)).put (some 13) (.slice (some ⟨b3, 0, none⟩) 4 4)).put (some 14) (.slice (some ⟨b4, 0, none⟩) 7 7)).put (some 15) (.pointer (some ⟨rb, 0, none⟩))) ∧ Hid (MidM w w0.heap.size rb w1.heap.size (1200 + 1) (.agg #[.slice a1 m.ram.length c1, .slice b1 m.rom.length d1, .int .i64 m.bank, .int .i64 m.a, .int .i64 m.pc, .bool m.carry, .slice f1 m.back.length g1, .bool m.stop, .int .i64 m.cyc]) (.slice a1 m.ram.length c1) (.slice b1 m.rom.length d1) (.int .i64 m.bank) (.int .i64 m.a) (.int .i64 m.pc) (.bool m.carry) (.slice f1 m.back.length g1) (.bool m.stop) (.int .i64 m.cyc) (.slice none 0 0) (.slice none 0 0) (.int .i64 0) (.int .i64 0) (.int .i64 0) (.bool false) (.slice none 0 0) (.bool false) (.int .i64 0) m W) ∧ Hid (LitI rb 4 W b3) ∧ Hid (w.heap.size ≠ b3) ∧ Hid (LitR rb 7 4 W b4) ∧ Hid (w.heap.size ≠ b4)) ?_ (fun HD21 => ?_)
  · rintro act9 W ⟨q2, b3, b4, rfl, hF, h3, n3, h4, n4⟩
    subst hA0
    have hlW := hF.out.rd.lt
    obtain ⟨x0, x1, x2, x3, x4, x5, x6, x7, x8, xf⟩ := id hF.out.nine
    clear xf
    obtain ⟨e0, e1, e2, e3, e4, e5, e6, e7, e8, ef⟩ := id hF.out.box
    have ef0 := ef 0
    have ef1 := ef 1
    have ef2 := ef 2
    have ef3 := ef 3
    have ef4 := ef 4
    have ef5 := ef 5
    have ef6 := ef 6
    have ef7 := ef 7
    have ef8 := ef 8
    clear ef
    have hX1 : w1.heap.size < W.heap.size := block_lt_of_cell x0
    have hXw : w.heap.size < W.heap.size := block_lt_of_cell e0
    (try simp only [Act.put, List.setIfInBounds_toArray, List.set_cons_zero, List.set_cons_succ])
    refine wpAny_ready (rs := [0, 6]) (by kernel_rfl) (by simp) ?_
    refine AllReady.cons (o := ({ dst := some 10, op := Op.load 39 (Operand.tmp 5), type := 39, pos := "l20_draw.go:324", after := #[], guard := none } : Oper)) rfl (fun K hK => ?_) ?_
    · go_simp
      refine hK _ _ ?_
      clear hK K
      (try simp only [Act.put, List.setIfInBounds_toArray, List.set_cons_zero, List.set_cons_succ])
      refine wpAny_to (by kernel_rfl) (by kernel_rfl) (HD14.out _ _ ?_)
      apply Exists.intro
      apply Exists.intro
      apply Exists.intro
      refine ⟨?_, ?_, ?_, ?_, ?_, ?_⟩
      · (try simp only [Act.put, List.setIfInBounds_toArray, List.set_cons_zero, List.set_cons_succ]); (try rfl)
      · exact hF.out
      · exact h3.out
      · exact n3.out
      · exact h4.out
      · exact n4.out
    refine AllReady.cons (o := ({ dst := some 16, op := Op.call { callee := Callee.value (Operand.func 54), args := #[Operand.tmp 15, Operand.const (Value.int IntKind.i64 7)], argTypes := #[68, 3] }, type := 3, pos := "l20_draw.go:324", after := #[{ on := 5, ground := Ground.data }, { on := 2, ground := Ground.chain }], guard := none } : Oper)) rfl (fun K hK => ?_) ?_
    · go_simp
      refine (pick (B := (1200 + 1)) _ hF.out.rd (by omega)).mono ?_
      rintro e W' ⟨v6, rfl, ⟨x6, rfl, y6, z6⟩, hR', hK'⟩
      obtain ⟨k6, rfl⟩ := Int.eq_ofNat_of_zero_le y6
      have hk6 := Lib.hid (show k6 < 7 by omega)
      first | (refine hK _ _ ?_; clear hK K) | (go_wp2_with fail; (try (refine hK _ _ ?_)); (try clear hK K))
      (try simp only [Act.put, List.setIfInBounds_toArray, List.set_cons_zero, List.set_cons_succ])
      have hk6i : (k6 : Int) < 7 := by have := hk6.out; omega
      refine wpAny_take (i := 7) (oi := ({ dst := some 17, op := Op.indexAddr 23 (Operand.tmp 14) (Operand.tmp 16), type := 0, pos := "l20_draw.go:324", after := #[{ on := 4, ground := Ground.data }, { on := 6, ground := Ground.data }, { on := 11, ground := Ground.gcOnly Departure.lateStores }], guard := none } : Oper)) (v := ?_) rfl (by kernel_rfl) (by kernel_rfl) (by kernel_rfl) (fun _ _ _ h => h) (Or.inl ⟨by rfl, ?_⟩) ?_
      rotate_left
      · intro wq; go_simp; (try with_reducible rfl)
      (try simp only [Act.put, List.setIfInBounds_toArray, List.set_cons_zero, List.set_cons_succ])
      refine wpAny_to (by kernel_rfl) (by kernel_rfl) (HD12.out _ _ ?_)
      apply Exists.intro
      apply Exists.intro
      apply Exists.intro
      apply Exists.intro
      refine ⟨?_, ?_, ?_, ?_, ?_, ?_, ?_⟩
      · (try simp only [Act.put, List.setIfInBounds_toArray, List.set_cons_zero, List.set_cons_succ]); (try rfl)
      · exact hF.out.keep hK' hR'
      · exact h3.out.keep hK'
      · exact n3.out
      · exact h4.out.keep hK'
      · exact n4.out
      · exact hk6.out
    exact AllReady.nil
  refine wpAny_pre 8 #[false, true, true, true, false, true, true, false, false, false, false, false, false] (fun act9 W => ∃ q2 : Int, ∃ b3 : Nat, ∃ k6 : Nat, act9 = (((((A0.put (some 11) (.pointer (some ⟨rb, 0, none⟩))).put (some 12) (.int .i64 q2)).put (some 13) (.slice (some ⟨b3, 0, none⟩) 4 4)).put (some 15) (.pointer (some ⟨rb, 0, none⟩))).put (some 16) (.int .i64 (k6 : Int))) ∧ Hid (MidM w w0.heap.size rb w1.heap.size (1200 + 2) (.agg #[.slice a1 m.ram.length c1, .slice b1 m.rom.length d1, .int .i64 m.bank, .int .i64 m.a, .int .i64 m.pc, .bool m.carry, .slice f1 m.back.length g1, .bool m.stop, .int .i64 m.cyc]) (.slice a1 m.ram.length c1) (.slice b1 m.rom.length d1) (.int .i64 m.bank) (.int .i64 m.a) (.int .i64 m.pc) (.bool m.carry) (.slice f1 m.back.length g1) (.bool m.stop) (.int .i64 m.cyc) (.slice none 0 0) (.slice none 0 0) (.int .i64 0) (.int .i64 0) (.int .i64 0) (.bool false) (.slice none 0 0) (.bool false) (.int .i64 0) m W) ∧ Hid (LitI rb 4 W b3) ∧ Hid (w.heap.size ≠ b3) ∧ Hid (k6 < 7)) ?_ (fun HD22 => ?_)
  · rintro act9 W ⟨q2, b3, k6, rfl, hF, h3, n3, hk6⟩
    subst hA0
    have hlW := hF.out.rd.lt
    obtain ⟨x0, x1, x2, x3, x4, x5, x6, x7, x8, xf⟩ := id hF.out.nine
    clear xf
    obtain ⟨e0, e1, e2, e3, e4, e5, e6, e7, e8, ef⟩ := id hF.out.box
    have ef0 := ef 0
    have ef1 := ef 1
    have ef2 := ef 2
    have ef3 := ef 3
    have ef4 := ef 4
    have ef5 := ef 5
    have ef6 := ef 6
    have ef7 := ef 7
    have ef8 := ef 8
    clear ef
    have hX1 : w1.heap.size < W.heap.size := block_lt_of_cell x0
    have hXw : w.heap.size < W.heap.size := block_lt_of_cell e0
    (try simp only [Act.put, List.setIfInBounds_toArray, List.set_cons_zero, List.set_cons_succ])
    refine wpAny_ready (rs := [0, 4]) (by kernel_rfl) (by simp) ?_
    refine AllReady.cons (o := ({ dst := some 10, op := Op.load 39 (Operand.tmp 5), type := 39, pos := "l20_draw.go:324", after := #[], guard := none } : Oper)) rfl (fun K hK => ?_) ?_
    · go_simp
      refine hK _ _ ?_
      clear hK K
      (try simp only [Act.put, List.setIfInBounds_toArray, List.set_cons_zero, List.set_cons_succ])
      refine wpAny_to (by kernel_rfl) (by kernel_rfl) (HD15.out _ _ ?_)
      apply Exists.intro
      apply Exists.intro
      apply Exists.intro
      refine ⟨?_, ?_, ?_, ?_, ?_⟩
      · (try simp only [Act.put, List.setIfInBounds_toArray, List.set_cons_zero, List.set_cons_succ]); (try rfl)
      · exact hF.out
      · exact h3.out
      · exact n3.out
      · exact hk6.out
    refine AllReady.cons (o := ({ dst := some 14, op := Op.buildSlice 23 7 #[(0, Operand.const (Value.int IntKind.i64 0)), (1, Operand.const (Value.int IntKind.i64 0)), (2, Operand.const (Value.int IntKind.i64 0)), (3, Operand.const (Value.int IntKind.i64 0)), (4, Operand.const (Value.int IntKind.i64 1)), (5, Operand.const (Value.int IntKind.i64 2)), (6, Operand.const (Value.int IntKind.i64 3))], type := 23, pos := "l20_draw.go:324", after := #[{ on := 11, ground := Ground.gcOnly Departure.lateStores }], guard := none } : Oper)) rfl (fun K hK => ?_) ?_
    · go_simp
      refine hK _ _ ?_
      clear hK K
      (try simp only [Act.put, List.setIfInBounds_toArray, List.set_cons_zero, List.set_cons_succ])
      have hk6i : (k6 : Int) < 7 := by have := hk6.out; omega
      refine wpAny_take (i := 7) (oi := ({ dst := some 17, op := Op.indexAddr 23 (Operand.tmp 14) (Operand.tmp 16), type := 0, pos := "l20_draw.go:324", after := #[{ on := 4, ground := Ground.data }, { on := 6, ground := Ground.data }, { on := 11, ground := Ground.gcOnly Departure.lateStores }], guard := none } : Oper)) (v := ?_) rfl (by kernel_rfl) (by kernel_rfl) (by kernel_rfl) (fun _ _ _ h => h) (Or.inl ⟨by rfl, ?_⟩) ?_
      rotate_left
      · intro wq; go_simp; (try with_reducible rfl)
      (try simp only [Act.put, List.setIfInBounds_toArray, List.set_cons_zero, List.set_cons_succ])
      refine wpAny_to (by kernel_rfl) (by kernel_rfl) (HD12.out _ _ ?_)
      apply Exists.intro
      apply Exists.intro
      apply Exists.intro
      apply Exists.intro
      refine ⟨?_, ?_, ?_, ?_, ?_, ?_, ?_⟩
      · (try simp only [Act.put, List.setIfInBounds_toArray, List.set_cons_zero, List.set_cons_succ]); (try rfl)
      · exact hF.out.alloc _
      · exact h3.out.alloc _
      · exact n3.out
      · exact LitR.new (by intro k hk; rcases (show k = 0 ∨ k = 1 ∨ k = 2 ∨ k = 3 ∨ k = 4 ∨ k = 5 ∨ k = 6 by omega) with rfl | rfl | rfl | rfl | rfl | rfl | rfl <;> first | exact ⟨0, by decide, rfl⟩ | exact ⟨1, by decide, rfl⟩ | exact ⟨2, by decide, rfl⟩ | exact ⟨3, by decide, rfl⟩) hlW
      · exact Nat.ne_of_lt hXw
      · exact hk6.out
    exact AllReady.nil
  refine wpAny_pre 9 #[true, true, true, false, false, true, false, false, false, false, false, false, false] (fun act9 W => ∃ q2 : Int, act9 = ((((A0.put (some 10) (.agg #[.slice a1 m.ram.length c1, .slice b1 m.rom.length d1, .int .i64 m.bank, .int .i64 m.a, .int .i64 m.pc, .bool m.carry, .slice f1 m.back.length g1, .bool m.stop, .int .i64 m.cyc])).put (some 11) (.pointer (some ⟨rb, 0, none⟩))).put (some 12) (.int .i64 q2)).put (some 15) (.pointer (some ⟨rb, 0, none⟩))) ∧ Hid (MidM w w0.heap.size rb w1.heap.size (1200 + 1) (.agg #[.slice a1 m.ram.length c1, .slice b1 m.rom.length d1, .int .i64 m.bank, .int .i64 m.a, .int .i64 m.pc, .bool m.carry, .slice f1 m.back.length g1, .bool m.stop, .int .i64 m.cyc]) (.slice a1 m.ram.length c1) (.slice b1 m.rom.length d1) (.int .i64 m.bank) (.int .i64 m.a) (.int .i64 m.pc) (.bool m.carry) (.slice f1 m.back.length g1) (.bool m.stop) (.int .i64 m.cyc) (.slice none 0 0) (.slice none 0 0) (.int .i64 0) (.int .i64 0) (.int .i64 0) (.bool false) (.slice none 0 0) (.bool false) (.int .i64 0) m W)) ?_ (fun HD23 => ?_)
  · rintro act9 W ⟨q2, rfl, hF⟩
    subst hA0
    have hlW := hF.out.rd.lt
    obtain ⟨x0, x1, x2, x3, x4, x5, x6, x7, x8, xf⟩ := id hF.out.nine
    clear xf
    obtain ⟨e0, e1, e2, e3, e4, e5, e6, e7, e8, ef⟩ := id hF.out.box
    have ef0 := ef 0
    have ef1 := ef 1
    have ef2 := ef 2
    have ef3 := ef 3
    have ef4 := ef 4
    have ef5 := ef 5
    have ef6 := ef 6
    have ef7 := ef 7
    have ef8 := ef 8
    clear ef
    have hX1 : w1.heap.size < W.heap.size := block_lt_of_cell x0
    have hXw : w.heap.size < W.heap.size := block_lt_of_cell e0
    (try simp only [Act.put, List.setIfInBounds_toArray, List.set_cons_zero, List.set_cons_succ])
    refine wpAny_ready (rs := [3, 4, 6]) (by kernel_rfl) (by simp) ?_
    refine AllReady.cons (o := ({ dst := some 13, op := Op.buildSlice 23 4 #[(0, Operand.tmp 12), (1, Operand.const (Value.int IntKind.i64 500)), (2, Operand.const (Value.int IntKind.i64 (-1))), (3, Operand.const (Value.int IntKind.i64 501))], type := 23, pos := "l20_draw.go:324", after := #[{ on := 2, ground := Ground.data }, { on := 11, ground := Ground.gcOnly Departure.lateStores }], guard := none } : Oper)) rfl (fun K hK => ?_) ?_
    · go_simp
      refine hK _ _ ?_
      clear hK K
      (try simp only [Act.put, List.setIfInBounds_toArray, List.set_cons_zero, List.set_cons_succ])
      refine wpAny_to (by kernel_rfl) (by kernel_rfl) (HD18.out _ _ ?_)
      apply Exists.intro
      apply Exists.intro
      refine ⟨?_, ?_, ?_, ?_⟩
      · (try simp only [Act.put, List.setIfInBounds_toArray, List.set_cons_zero, List.set_cons_succ]); (try rfl)
      · exact hF.out.alloc _
      · exact LitI.new rfl rfl hlW
      · exact Nat.ne_of_lt hXw
    refine AllReady.cons (o := ({ dst := some 14, op := Op.buildSlice 23 7 #[(0, Operand.const (Value.int IntKind.i64 0)), (1, Operand.const (Value.int IntKind.i64 0)), (2, Operand.const (Value.int IntKind.i64 0)), (3, Operand.const (Value.int IntKind.i64 0)), (4, Operand.const (Value.int IntKind.i64 1)), (5, Operand.const (Value.int IntKind.i64 2)), (6, Operand.const (Value.int IntKind.i64 3))], type := 23, pos := "l20_draw.go:324", after := #[{ on := 11, ground := Ground.gcOnly Departure.lateStores }], guard := none } : Oper)) rfl (fun K hK => ?_) ?_
    · go_simp
      refine hK _ _ ?_
      clear hK K
      (try simp only [Act.put, List.setIfInBounds_toArray, List.set_cons_zero, List.set_cons_succ])
      refine wpAny_to (by kernel_rfl) (by kernel_rfl) (HD19.out _ _ ?_)
      apply Exists.intro
      apply Exists.intro
      refine ⟨?_, ?_, ?_, ?_⟩
      · (try simp only [Act.put, List.setIfInBounds_toArray, List.set_cons_zero, List.set_cons_succ]); (try rfl)
      · exact hF.out.alloc _
      · exact LitR.new (by intro k hk; rcases (show k = 0 ∨ k = 1 ∨ k = 2 ∨ k = 3 ∨ k = 4 ∨ k = 5 ∨ k = 6 by omega) with rfl | rfl | rfl | rfl | rfl | rfl | rfl <;> first | exact ⟨0, by decide, rfl⟩ | exact ⟨1, by decide, rfl⟩ | exact ⟨2, by decide, rfl⟩ | exact ⟨3, by decide, rfl⟩) hlW
      · exact Nat.ne_of_lt hXw
    refine AllReady.cons (o := ({ dst := some 16, op := Op.call { callee := Callee.value (Operand.func 54), args := #[Operand.tmp 15, Operand.const (Value.int IntKind.i64 7)], argTypes := #[68, 3] }, type := 3, pos := "l20_draw.go:324", after := #[{ on := 5, ground := Ground.data }, { on := 2, ground := Ground.chain }], guard := none } : Oper)) rfl (fun K hK => ?_) ?_
    · go_simp
      refine (pick (B := (1200 + 1)) _ hF.out.rd (by omega)).mono ?_
      rintro e W' ⟨v6, rfl, ⟨x6, rfl, y6, z6⟩, hR', hK'⟩
      obtain ⟨k6, rfl⟩ := Int.eq_ofNat_of_zero_le y6
      have hk6 := Lib.hid (show k6 < 7 by omega)
      first | (refine hK _ _ ?_; clear hK K) | (go_wp2_with fail; (try (refine hK _ _ ?_)); (try clear hK K))
      (try simp only [Act.put, List.setIfInBounds_toArray, List.set_cons_zero, List.set_cons_succ])
      refine wpAny_to (by kernel_rfl) (by kernel_rfl) (HD20.out _ _ ?_)
      apply Exists.intro
      apply Exists.intro
      refine ⟨?_, ?_, ?_⟩
      · (try simp only [Act.put, List.setIfInBounds_toArray, List.set_cons_zero, List.set_cons_succ]); (try rfl)
      · exact hF.out.keep hK' hR'
      · exact hk6.out
    exact AllReady.nil
  refine wpAny_pre 9 #[true, true, false, false, true, true, false, false, false, false, false, false, false] (fun act9 W => ∃ b4 : Nat, act9 = ((((A0.put (some 10) (.agg #[.slice a1 m.ram.length c1, .slice b1 m.rom.length d1, .int .i64 m.bank, .int .i64 m.a, .int .i64 m.pc, .bool m.carry, .slice f1 m.back.length g1, .bool m.stop, .int .i64 m.cyc])).put (some 11) (.pointer (some ⟨rb, 0, none⟩))).put (some 14) (.slice (some ⟨b4, 0, none⟩) 7 7)).put (some 15) (.pointer (some ⟨rb, 0, none⟩))) ∧ Hid (MidM w w0.heap.size rb w1.heap.size (1200 + 0) (.agg #[.slice a1 m.ram.length c1, .slice b1 m.rom.length d1, .int .i64 m.bank, .int .i64 m.a, .int .i64 m.pc, .bool m.carry, .slice f1 m.back.length g1, .bool m.stop, .int .i64 m.cyc]) (.slice a1 m.ram.length c1) (.slice b1 m.rom.length d1) (.int .i64 m.bank) (.int .i64 m.a) (.int .i64 m.pc) (.bool m.carry) (.slice f1 m.back.length g1) (.bool m.stop) (.int .i64 m.cyc) (.slice none 0 0) (.slice none 0 0) (.int .i64 0) (.int .i64 0) (.int .i64 0) (.bool false) (.slice none 0 0) (.bool false) (.int .i64 0) m W) ∧ Hid (LitR rb 7 4 W b4) ∧ Hid (w.heap.size ≠ b4)) ?_ (fun HD24 => ?_)
  · rintro act9 W ⟨b4, rfl, hF, h4, n4⟩
    subst hA0
    have hlW := hF.out.rd.lt
    obtain ⟨x0, x1, x2, x3, x4, x5, x6, x7, x8, xf⟩ := id hF.out.nine
    clear xf
    obtain ⟨e0, e1, e2, e3, e4, e5, e6, e7, e8, ef⟩ := id hF.out.box
    have ef0 := ef 0
    have ef1 := ef 1
    have ef2 := ef 2
    have ef3 := ef 3
    have ef4 := ef 4
    have ef5 := ef 5
    have ef6 := ef 6
    have ef7 := ef 7
    have ef8 := ef 8
    clear ef
    have hX1 : w1.heap.size < W.heap.size := block_lt_of_cell x0
    have hXw : w.heap.size < W.heap.size := block_lt_of_cell e0
    (try simp only [Act.put, List.setIfInBounds_toArray, List.set_cons_zero, List.set_cons_succ])
    refine wpAny_ready (rs := [2]) (by kernel_rfl) (by simp) ?_
    refine AllReady.cons (o := ({ dst := some 12, op := Op.call { callee := Callee.value (Operand.func 54), args := #[Operand.tmp 11, Operand.const (Value.int IntKind.i64 40)], argTypes := #[68, 3] }, type := 3, pos := "l20_draw.go:324", after := #[{ on := 1, ground := Ground.data }], guard := none } : Oper)) rfl (fun K hK => ?_) ?_
    · go_simp
      refine (pick (B := (1200 + 0)) _ hF.out.rd (by omega)).mono ?_
      rintro e W' ⟨v2, rfl, ⟨q2, rfl, y2, z2⟩, hR', hK'⟩
      first | (refine hK _ _ ?_; clear hK K) | (go_wp2_with fail; (try (refine hK _ _ ?_)); (try clear hK K))
      (try simp only [Act.put, List.setIfInBounds_toArray, List.set_cons_zero, List.set_cons_succ])
      refine wpAny_to (by kernel_rfl) (by kernel_rfl) (HD19.out _ _ ?_)
      apply Exists.intro
      apply Exists.intro
      refine ⟨?_, ?_, ?_, ?_⟩
      · (try simp only [Act.put, List.setIfInBounds_toArray, List.set_cons_zero, List.set_cons_succ]); (try rfl)
      · exact hF.out.keep hK' hR'
      · exact h4.out.keep hK'
      · exact n4.out
    exact AllReady.nil
  refine wpAny_pre 9 #[false, true, true, true, false, true, false, false, false, false, false, false, false] (fun act9 W => ∃ q2 : Int, ∃ b3 : Nat, act9 = ((((A0.put (some 11) (.pointer (some ⟨rb, 0, none⟩))).put (some 12) (.int .i64 q2)).put (some 13) (.slice (some ⟨b3, 0, none⟩) 4 4)).put (some 15) (.pointer (some ⟨rb, 0, none⟩))) ∧ Hid (MidM w w0.heap.size rb w1.heap.size (1200 + 1) (.agg #[.slice a1 m.ram.length c1, .slice b1 m.rom.length d1, .int .i64 m.bank, .int .i64 m.a, .int .i64 m.pc, .bool m.carry, .slice f1 m.back.length g1, .bool m.stop, .int .i64 m.cyc]) (.slice a1 m.ram.length c1) (.slice b1 m.rom.length d1) (.int .i64 m.bank) (.int .i64 m.a) (.int .i64 m.pc) (.bool m.carry) (.slice f1 m.back.length g1) (.bool m.stop) (.int .i64 m.cyc) (.slice none 0 0) (.slice none 0 0) (.int .i64 0) (.int .i64 0) (.int .i64 0) (.bool false) (.slice none 0 0) (.bool false) (.int .i64 0) m W) ∧ Hid (LitI rb 4 W b3) ∧ Hid (w.heap.size ≠ b3)) ?_ (fun HD25 => ?_)
  · rintro act9 W ⟨q2, b3, rfl, hF, h3, n3⟩
    subst hA0
    have hlW := hF.out.rd.lt
    obtain ⟨x0, x1, x2, x3, x4, x5, x6, x7, x8, xf⟩ := id hF.out.nine
    clear xf
    obtain ⟨e0, e1, e2, e3, e4, e5, e6, e7, e8, ef⟩ := id hF.out.box
    have ef0 := ef 0
    have ef1 := ef 1
    have ef2 := ef 2
    have ef3 := ef 3
    have ef4 := ef 4
    have ef5 := ef 5
    have ef6 := ef 6
    have ef7 := ef 7
    have ef8 := ef 8
    clear ef
    have hX1 : w1.heap.size < W.heap.size := block_lt_of_cell x0
    have hXw : w.heap.size < W.heap.size := block_lt_of_cell e0
    (try simp only [Act.put, List.setIfInBounds_toArray, List.set_cons_zero, List.set_cons_succ])
    refine wpAny_ready (rs := [0, 4, 6]) (by kernel_rfl) (by simp) ?_
    refine AllReady.cons (o := ({ dst := some 10, op := Op.load 39 (Operand.tmp 5), type := 39, pos := "l20_draw.go:324", after := #[], guard := none } : Oper)) rfl (fun K hK => ?_) ?_
    · go_simp
      refine hK _ _ ?_
      clear hK K
      (try simp only [Act.put, List.setIfInBounds_toArray, List.set_cons_zero, List.set_cons_succ])
      refine wpAny_to (by kernel_rfl) (by kernel_rfl) (HD18.out _ _ ?_)
      apply Exists.intro
      apply Exists.intro
      refine ⟨?_, ?_, ?_, ?_⟩
      · (try simp only [Act.put, List.setIfInBounds_toArray, List.set_cons_zero, List.set_cons_succ]); (try rfl)
      · exact hF.out
      · exact h3.out
      · exact n3.out
    refine AllReady.cons (o := ({ dst := some 14, op := Op.buildSlice 23 7 #[(0, Operand.const (Value.int IntKind.i64 0)), (1, Operand.const (Value.int IntKind.i64 0)), (2, Operand.const (Value.int IntKind.i64 0)), (3, Operand.const (Value.int IntKind.i64 0)), (4, Operand.const (Value.int IntKind.i64 1)), (5, Operand.const (Value.int IntKind.i64 2)), (6, Operand.const (Value.int IntKind.i64 3))], type := 23, pos := "l20_draw.go:324", after := #[{ on := 11, ground := Ground.gcOnly Departure.lateStores }], guard := none } : Oper)) rfl (fun K hK => ?_) ?_
    · go_simp
      refine hK _ _ ?_
      clear hK K
      (try simp only [Act.put, List.setIfInBounds_toArray, List.set_cons_zero, List.set_cons_succ])
      refine wpAny_to (by kernel_rfl) (by kernel_rfl) (HD21.out _ _ ?_)
      apply Exists.intro
      apply Exists.intro
      apply Exists.intro
      refine ⟨?_, ?_, ?_, ?_, ?_, ?_⟩
      · (try simp only [Act.put, List.setIfInBounds_toArray, List.set_cons_zero, List.set_cons_succ]); (try rfl)
      · exact hF.out.alloc _
      · exact h3.out.alloc _
      · exact n3.out
      · exact LitR.new (by intro k hk; rcases (show k = 0 ∨ k = 1 ∨ k = 2 ∨ k = 3 ∨ k = 4 ∨ k = 5 ∨ k = 6 by omega) with rfl | rfl | rfl | rfl | rfl | rfl | rfl <;> first | exact ⟨0, by decide, rfl⟩ | exact ⟨1, by decide, rfl⟩ | exact ⟨2, by decide, rfl⟩ | exact ⟨3, by decide, rfl⟩) hlW
      · exact Nat.ne_of_lt hXw
    refine AllReady.cons (o := ({ dst := some 16, op := Op.call { callee := Callee.value (Operand.func 54), args := #[Operand.tmp 15, Operand.const (Value.int IntKind.i64 7)], argTypes := #[68, 3] }, type := 3, pos := "l20_draw.go:324", after := #[{ on := 5, ground := Ground.data }, { on := 2, ground := Ground.chain }], guard := none } : Oper)) rfl (fun K hK => ?_) ?_
    · go_simp
      refine (pick (B := (1200 + 1)) _ hF.out.rd (by omega)).mono ?_
      rintro e W' ⟨v6, rfl, ⟨x6, rfl, y6, z6⟩, hR', hK'⟩
      obtain ⟨k6, rfl⟩ := Int.eq_ofNat_of_zero_le y6
      have hk6 := Lib.hid (show k6 < 7 by omega)
      first | (refine hK _ _ ?_; clear hK K) | (go_wp2_with fail; (try (refine hK _ _ ?_)); (try clear hK K))
      (try simp only [Act.put, List.setIfInBounds_toArray, List.set_cons_zero, List.set_cons_succ])
      refine wpAny_to (by kernel_rfl) (by kernel_rfl) (HD22.out _ _ ?_)
      apply Exists.intro
      apply Exists.intro
      apply Exists.intro
      refine ⟨?_, ?_, ?_, ?_, ?_⟩
      · (try simp only [Act.put, List.setIfInBounds_toArray, List.set_cons_zero, List.set_cons_succ]); (try rfl)
      · exact hF.out.keep hK' hR'
      · exact h3.out.keep hK'
      · exact n3.out
      · exact hk6.out
    exact AllReady.nil
  refine wpAny_pre 9 #[false, true, true, false, true, true, false, false, false, false, false, false, false] (fun act9 W => ∃ q2 : Int, ∃ b4 : Nat, act9 = ((((A0.put (some 11) (.pointer (some ⟨rb, 0, none⟩))).put (some 12) (.int .i64 q2)).put (some 14) (.slice (some ⟨b4, 0, none⟩) 7 7)).put (some 15) (.pointer (some ⟨rb, 0, none⟩))) ∧ Hid (MidM w w0.heap.size rb w1.heap.size (1200 + 1) (.agg #[.slice a1 m.ram.length c1, .slice b1 m.rom.length d1, .int .i64 m.bank, .int .i64 m.a, .int .i64 m.pc, .bool m.carry, .slice f1 m.back.length g1, .bool m.stop, .int .i64 m.cyc]) (.slice a1 m.ram.length c1) (.slice b1 m.rom.length d1) (.int .i64 m.bank) (.int .i64 m.a) (.int .i64 m.pc) (.bool m.carry) (.slice f1 m.back.length g1) (.bool m.stop) (.int .i64 m.cyc) (.slice none 0 0) (.slice none 0 0) (.int .i64 0) (.int .i64 0) (.int .i64 0) (.bool false) (.slice none 0 0) (.bool false) (.int .i64 0) m W) ∧ Hid (LitR rb 7 4 W b4) ∧ Hid (w.heap.size ≠ b4)) ?_ (fun HD26 => ?_)
  · rintro act9 W ⟨q2, b4, rfl, hF, h4, n4⟩
    subst hA0
    have hlW := hF.out.rd.lt
    obtain ⟨x0, x1, x2, x3, x4, x5, x6, x7, x8, xf⟩ := id hF.out.nine
    clear xf
    obtain ⟨e0, e1, e2, e3, e4, e5, e6, e7, e8, ef⟩ := id hF.out.box
    have ef0 := ef 0
    have ef1 := ef 1
    have ef2 := ef 2
    have ef3 := ef 3
    have ef4 := ef 4
    have ef5 := ef 5
    have ef6 := ef 6
    have ef7 := ef 7
    have ef8 := ef 8
    clear ef
    have hX1 : w1.heap.size < W.heap.size := block_lt_of_cell x0
    have hXw : w.heap.size < W.heap.size := block_lt_of_cell e0
    (try simp only [Act.put, List.setIfInBounds_toArray, List.set_cons_zero, List.set_cons_succ])
    refine wpAny_ready (rs := [0, 3, 6]) (by kernel_rfl) (by simp) ?_
    refine AllReady.cons (o := ({ dst := some 10, op := Op.load 39 (Operand.tmp 5), type := 39, pos := "l20_draw.go:324", after := #[], guard := none } : Oper)) rfl (fun K hK => ?_) ?_
    · go_simp
      refine hK _ _ ?_
      clear hK K
      (try simp only [Act.put, List.setIfInBounds_toArray, List.set_cons_zero, List.set_cons_succ])
      refine wpAny_to (by kernel_rfl) (by kernel_rfl) (HD19.out _ _ ?_)
      apply Exists.intro
      apply Exists.intro
      refine ⟨?_, ?_, ?_, ?_⟩
      · (try simp only [Act.put, List.setIfInBounds_toArray, List.set_cons_zero, List.set_cons_succ]); (try rfl)
      · exact hF.out
      · exact h4.out
      · exact n4.out
    refine AllReady.cons (o := ({ dst := some 13, op := Op.buildSlice 23 4 #[(0, Operand.tmp 12), (1, Operand.const (Value.int IntKind.i64 500)), (2, Operand.const (Value.int IntKind.i64 (-1))), (3, Operand.const (Value.int IntKind.i64 501))], type := 23, pos := "l20_draw.go:324", after := #[{ on := 2, ground := Ground.data }, { on := 11, ground := Ground.gcOnly Departure.lateStores }], guard := none } : Oper)) rfl (fun K hK => ?_) ?_
    · go_simp
      refine hK _ _ ?_
      clear hK K
      (try simp only [Act.put, List.setIfInBounds_toArray, List.set_cons_zero, List.set_cons_succ])
      refine wpAny_to (by kernel_rfl) (by kernel_rfl) (HD21.out _ _ ?_)
      apply Exists.intro
      apply Exists.intro
      apply Exists.intro
      refine ⟨?_, ?_, ?_, ?_, ?_, ?_⟩
      · (try simp only [Act.put, List.setIfInBounds_toArray, List.set_cons_zero, List.set_cons_succ]); (try rfl)
      · exact hF.out.alloc _
      · exact LitI.new rfl rfl hlW
      · exact Nat.ne_of_lt hXw
      · exact h4.out.alloc _
      · exact n4.out
    refine AllReady.cons (o := ({ dst := some 16, op := Op.call { callee := Callee.value (Operand.func 54), args := #[Operand.tmp 15, Operand.const (Value.int IntKind.i64 7)], argTypes := #[68, 3] }, type := 3, pos := "l20_draw.go:324", after := #[{ on := 5, ground := Ground.data }, { on := 2, ground := Ground.chain }], guard := none } : Oper)) rfl (fun K hK => ?_) ?_
    · go_simp
      refine (pick (B := (1200 + 1)) _ hF.out.rd (by omega)).mono ?_
      rintro e W' ⟨v6, rfl, ⟨x6, rfl, y6, z6⟩, hR', hK'⟩
      obtain ⟨k6, rfl⟩ := Int.eq_ofNat_of_zero_le y6
      have hk6 := Lib.hid (show k6 < 7 by omega)
      first | (refine hK _ _ ?_; clear hK K) | (go_wp2_with fail; (try (refine hK _ _ ?_)); (try clear hK K))
      (try simp only [Act.put, List.setIfInBounds_toArray, List.set_cons_zero, List.set_cons_succ])
      have hk6i : (k6 : Int) < 7 := by have := hk6.out; omega
      refine wpAny_take (i := 7) (oi := ({ dst := some 17, op := Op.indexAddr 23 (Operand.tmp 14) (Operand.tmp 16), type := 0, pos := "l20_draw.go:324", after := #[{ on := 4, ground := Ground.data }, { on := 6, ground := Ground.data }, { on := 11, ground := Ground.gcOnly Departure.lateStores }], guard := none } : Oper)) (v := ?_) rfl (by kernel_rfl) (by kernel_rfl) (by kernel_rfl) (fun _ _ _ h => h) (Or.inl ⟨by rfl, ?_⟩) ?_
      rotate_left
      · intro wq; go_simp; (try with_reducible rfl)
      (try simp only [Act.put, List.setIfInBounds_toArray, List.set_cons_zero, List.set_cons_succ])
      refine wpAny_to (by kernel_rfl) (by kernel_rfl) (HD17.out _ _ ?_)
      apply Exists.intro
      apply Exists.intro
      apply Exists.intro
      refine ⟨?_, ?_, ?_, ?_, ?_⟩
      · (try simp only [Act.put, List.setIfInBounds_toArray, List.set_cons_zero, List.set_cons_succ]); (try rfl)
      · exact hF.out.keep hK' hR'
      · exact h4.out.keep hK'
      · exact n4.out
      · exact hk6.out
    exact AllReady.nil
  refine wpAny_pre 9 #[false, true, true, false, false, true, true, false, false, false, false, false, false] (fun act9 W => ∃ q2 : Int, ∃ k6 : Nat, act9 = ((((A0.put (some 11) (.pointer (some ⟨rb, 0, none⟩))).put (some 12) (.int .i64 q2)).put (some 15) (.pointer (some ⟨rb, 0, none⟩))).put (some 16) (.int .i64 (k6 : Int))) ∧ Hid (MidM w w0.heap.size rb w1.heap.size (1200 + 2) (.agg #[.slice a1 m.ram.length c1, .slice b1 m.rom.length d1, .int .i64 m.bank, .int .i64 m.a, .int .i64 m.pc, .bool m.carry, .slice f1 m.back.length g1, .bool m.stop, .int .i64 m.cyc]) (.slice a1 m.ram.length c1) (.slice b1 m.rom.length d1) (.int .i64 m.bank) (.int .i64 m.a) (.int .i64 m.pc) (.bool m.carry) (.slice f1 m.back.length g1) (.bool m.stop) (.int .i64 m.cyc) (.slice none 0 0) (.slice none 0 0) (.int .i64 0) (.int .i64 0) (.int .i64 0) (.bool false) (.slice none 0 0) (.bool false) (.int .i64 0) m W) ∧ Hid (k6 < 7)) ?_ (fun HD27 => ?_)
  · rintro act9 W ⟨q2, k6, rfl, hF, hk6⟩
    subst hA0
    have hlW := hF.out.rd.lt
    obtain ⟨x0, x1, x2, x3, x4, x5, x6, x7, x8, xf⟩ := id hF.out.nine
    clear xf
    obtain ⟨e0, e1, e2, e3, e4, e5, e6, e7, e8, ef⟩ := id hF.out.box
    have ef0 := ef 0
    have ef1 := ef 1
    have ef2 := ef 2
    have ef3 := ef 3
    have ef4 := ef 4
    have ef5 := ef 5
    have ef6 := ef 6
    have ef7 := ef 7
    have ef8 := ef 8
    clear ef
    have hX1 : w1.heap.size < W.heap.size := block_lt_of_cell x0
    have hXw : w.heap.size < W.heap.size := block_lt_of_cell e0
    (try simp only [Act.put, List.setIfInBounds_toArray, List.set_cons_zero, List.set_cons_succ])
    refine wpAny_ready (rs := [0, 3, 4]) (by kernel_rfl) (by simp) ?_
    refine AllReady.cons (o := ({ dst := some 10, op := Op.load 39 (Operand.tmp 5), type := 39, pos := "l20_draw.go:324", after := #[], guard := none } : Oper)) rfl (fun K hK => ?_) ?_
    · go_simp
      refine hK _ _ ?_
      clear hK K
      (try simp only [Act.put, List.setIfInBounds_toArray, List.set_cons_zero, List.set_cons_succ])
      refine wpAny_to (by kernel_rfl) (by kernel_rfl) (HD20.out _ _ ?_)
      apply Exists.intro
      apply Exists.intro
      refine ⟨?_, ?_, ?_⟩
      · (try simp only [Act.put, List.setIfInBounds_toArray, List.set_cons_zero, List.set_cons_succ]); (try rfl)
      · exact hF.out
      · exact hk6.out
    refine AllReady.cons (o := ({ dst := some 13, op := Op.buildSlice 23 4 #[(0, Operand.tmp 12), (1, Operand.const (Value.int IntKind.i64 500)), (2, Operand.const (Value.int IntKind.i64 (-1))), (3, Operand.const (Value.int IntKind.i64 501))], type := 23, pos := "l20_draw.go:324", after := #[{ on := 2, ground := Ground.data }, { on := 11, ground := Ground.gcOnly Departure.lateStores }], guard := none } : Oper)) rfl (fun K hK => ?_) ?_
    · go_simp
      refine hK _ _ ?_
      clear hK K
      (try simp only [Act.put, List.setIfInBounds_toArray, List.set_cons_zero, List.set_cons_succ])
      refine wpAny_to (by kernel_rfl) (by kernel_rfl) (HD22.out _ _ ?_)
      apply Exists.intro
      apply Exists.intro
      apply Exists.intro
      refine ⟨?_, ?_, ?_, ?_, ?_⟩
      · (try simp only [Act.put, List.setIfInBounds_toArray, List.set_cons_zero, List.set_cons_succ]); (try rfl)
      · exact hF.out.alloc _
      · exact LitI.new rfl rfl hlW
      · exact Nat.ne_of_lt hXw
      · exact hk6.out
    refine AllReady.cons (o := ({ dst := some 14, op := Op.buildSlice 23 7 #[(0, Operand.const (Value.int IntKind.i64 0)), (1, Operand.const (Value.int IntKind.i64 0)), (2, Operand.const (Value.int IntKind.i64 0)), (3, Operand.const (Value.int IntKind.i64 0)), (4, Operand.const (Value.int IntKind.i64 1)), (5, Operand.const (Value.int IntKind.i64 2)), (6, Operand.const (Value.int IntKind.i64 3))], type := 23, pos := "l20_draw.go:324", after := #[{ on := 11, ground := Ground.gcOnly Departure.lateStores }], guard := none } : Oper)) rfl (fun K hK => ?_) ?_
    · go_simp
      refine hK _ _ ?_
      clear hK K
      (try simp only [Act.put, List.setIfInBounds_toArray, List.set_cons_zero, List.set_cons_succ])
      have hk6i : (k6 : Int) < 7 := by have := hk6.out; omega
      refine wpAny_take (i := 7) (oi := ({ dst := some 17, op := Op.indexAddr 23 (Operand.tmp 14) (Operand.tmp 16), type := 0, pos := "l20_draw.go:324", after := #[{ on := 4, ground := Ground.data }, { on := 6, ground := Ground.data }, { on := 11, ground := Ground.gcOnly Departure.lateStores }], guard := none } : Oper)) (v := ?_) rfl (by kernel_rfl) (by kernel_rfl) (by kernel_rfl) (fun _ _ _ h => h) (Or.inl ⟨by rfl, ?_⟩) ?_
      rotate_left
      · intro wq; go_simp; (try with_reducible rfl)
      (try simp only [Act.put, List.setIfInBounds_toArray, List.set_cons_zero, List.set_cons_succ])
      refine wpAny_to (by kernel_rfl) (by kernel_rfl) (HD17.out _ _ ?_)
      apply Exists.intro
      apply Exists.intro
      apply Exists.intro
      refine ⟨?_, ?_, ?_, ?_, ?_⟩
      · (try simp only [Act.put, List.setIfInBounds_toArray, List.set_cons_zero, List.set_cons_succ]); (try rfl)
      · exact hF.out.alloc _
      · exact LitR.new (by intro k hk; rcases (show k = 0 ∨ k = 1 ∨ k = 2 ∨ k = 3 ∨ k = 4 ∨ k = 5 ∨ k = 6 by omega) with rfl | rfl | rfl | rfl | rfl | rfl | rfl <;> first | exact ⟨0, by decide, rfl⟩ | exact ⟨1, by decide, rfl⟩ | exact ⟨2, by decide, rfl⟩ | exact ⟨3, by decide, rfl⟩) hlW
      · exact Nat.ne_of_lt hXw
      · exact hk6.out
    exact AllReady.nil
  refine wpAny_pre 10 #[true, true, false, false, false, true, false, false, false, false, false, false, false] (fun act9 W => act9 = (((A0.put (some 10) (.agg #[.slice a1 m.ram.length c1, .slice b1 m.rom.length d1, .int .i64 m.bank, .int .i64 m.a, .int .i64 m.pc, .bool m.carry, .slice f1 m.back.length g1, .bool m.stop, .int .i64 m.cyc])).put (some 11) (.pointer (some ⟨rb, 0, none⟩))).put (some 15) (.pointer (some ⟨rb, 0, none⟩))) ∧ Hid (MidM w w0.heap.size rb w1.heap.size (1200 + 0) (.agg #[.slice a1 m.ram.length c1, .slice b1 m.rom.length d1, .int .i64 m.bank, .int .i64 m.a, .int .i64 m.pc, .bool m.carry, .slice f1 m.back.length g1, .bool m.stop, .int .i64 m.cyc]) (.slice a1 m.ram.length c1) (.slice b1 m.rom.length d1) (.int .i64 m.bank) (.int .i64 m.a) (.int .i64 m.pc) (.bool m.carry) (.slice f1 m.back.length g1) (.bool m.stop) (.int .i64 m.cyc) (.slice none 0 0) (.slice none 0 0) (.int .i64 0) (.int .i64 0) (.int .i64 0) (.bool false) (.slice none 0 0) (.bool false) (.int .i64 0) m W)) ?_ (fun HD28 => ?_)
  · rintro act9 W ⟨rfl, hF⟩
    subst hA0
    have hlW := hF.out.rd.lt
    obtain ⟨x0, x1, x2, x3, x4, x5, x6, x7, x8, xf⟩ := id hF.out.nine
    clear xf
    obtain ⟨e0, e1, e2, e3, e4, e5, e6, e7, e8, ef⟩ := id hF.out.box
    have ef0 := ef 0
    have ef1 := ef 1
    have ef2 := ef 2
    have ef3 := ef 3
    have ef4 := ef 4
    have ef5 := ef 5
    have ef6 := ef 6
    have ef7 := ef 7
    have ef8 := ef 8
    clear ef
    have hX1 : w1.heap.size < W.heap.size := block_lt_of_cell x0
    have hXw : w.heap.size < W.heap.size := block_lt_of_cell e0
    (try simp only [Act.put, List.setIfInBounds_toArray, List.set_cons_zero, List.set_cons_succ])
    refine wpAny_ready (rs := [2, 4]) (by kernel_rfl) (by simp) ?_
    refine AllReady.cons (o := ({ dst := some 12, op := Op.call { callee := Callee.value (Operand.func 54), args := #[Operand.tmp 11, Operand.const (Value.int IntKind.i64 40)], argTypes := #[68, 3] }, type := 3, pos := "l20_draw.go:324", after := #[{ on := 1, ground := Ground.data }], guard := none } : Oper)) rfl (fun K hK => ?_) ?_
    · go_simp
      refine (pick (B := (1200 + 0)) _ hF.out.rd (by omega)).mono ?_
      rintro e W' ⟨v2, rfl, ⟨q2, rfl, y2, z2⟩, hR', hK'⟩
      first | (refine hK _ _ ?_; clear hK K) | (go_wp2_with fail; (try (refine hK _ _ ?_)); (try clear hK K))
      (try simp only [Act.put, List.setIfInBounds_toArray, List.set_cons_zero, List.set_cons_succ])
      refine wpAny_to (by kernel_rfl) (by kernel_rfl) (HD23.out _ _ ?_)
      apply Exists.intro
      refine ⟨?_, ?_⟩
      · (try simp only [Act.put, List.setIfInBounds_toArray, List.set_cons_zero, List.set_cons_succ]); (try rfl)
      · exact hF.out.keep hK' hR'
    refine AllReady.cons (o := ({ dst := some 14, op := Op.buildSlice 23 7 #[(0, Operand.const (Value.int IntKind.i64 0)), (1, Operand.const (Value.int IntKind.i64 0)), (2, Operand.const (Value.int IntKind.i64 0)), (3, Operand.const (Value.int IntKind.i64 0)), (4, Operand.const (Value.int IntKind.i64 1)), (5, Operand.const (Value.int IntKind.i64 2)), (6, Operand.const (Value.int IntKind.i64 3))], type := 23, pos := "l20_draw.go:324", after := #[{ on := 11, ground := Ground.gcOnly Departure.lateStores }], guard := none } : Oper)) rfl (fun K hK => ?_) ?_
    · go_simp
      refine hK _ _ ?_
      clear hK K
      (try simp only [Act.put, List.setIfInBounds_toArray, List.set_cons_zero, List.set_cons_succ])
      refine wpAny_to (by kernel_rfl) (by kernel_rfl) (HD24.out _ _ ?_)
      apply Exists.intro
      refine ⟨?_, ?_, ?_, ?_⟩
      · (try simp only [Act.put, List.setIfInBounds_toArray, List.set_cons_zero, List.set_cons_succ]); (try rfl)
      · exact hF.out.alloc _
      · exact LitR.new (by intro k hk; rcases (show k = 0 ∨ k = 1 ∨ k = 2 ∨ k = 3 ∨ k = 4 ∨ k = 5 ∨ k = 6 by omega) with rfl | rfl | rfl | rfl | rfl | rfl | rfl <;> first | exact ⟨0, by decide, rfl⟩ | exact ⟨1, by decide, rfl⟩ | exact ⟨2, by decide, rfl⟩ | exact ⟨3, by decide, rfl⟩) hlW
      · exact Nat.ne_of_lt hXw
    exact AllReady.nil
  refine wpAny_pre 10 #[false, true, true, false, false, true, false, false, false, false, false, false, false] (fun act9 W => ∃ q2 : Int, act9 = (((A0.put (some 11) (.pointer (some ⟨rb, 0, none⟩))).put (some 12) (.int .i64 q2)).put (some 15) (.pointer (some ⟨rb, 0, none⟩))) ∧ Hid (MidM w w0.heap.size rb w1.heap.size (1200 + 1) (.agg #[.slice a1 m.ram.length c1, .slice b1 m.rom.length d1, .int .i64 m.bank, .int .i64 m.a, .int .i64 m.pc, .bool m.carry, .slice f1 m.back.length g1, .bool m.stop, .int .i64 m.cyc]) (.slice a1 m.ram.length c1) (.slice b1 m.rom.length d1) (.int .i64 m.bank) (.int .i64 m.a) (.int .i64 m.pc) (.bool m.carry) (.slice f1 m.back.length g1) (.bool m.stop) (.int .i64 m.cyc) (.slice none 0 0) (.slice none 0 0) (.int .i64 0) (.int .i64 0) (.int .i64 0) (.bool false) (.slice none 0 0) (.bool false) (.int .i64 0) m W)) ?_ (fun HD29 => ?_)
  · rintro act9 W ⟨q2, rfl, hF⟩
    subst hA0
    have hlW := hF.out.rd.lt
    obtain ⟨x0, x1, x2, x3, x4, x5, x6, x7, x8, xf⟩ := id hF.out.nine
    clear xf
    obtain ⟨e0, e1, e2, e3, e4, e5, e6, e7, e8, ef⟩ := id hF.out.box
    have ef0 := ef 0
    have ef1 := ef 1
    have ef2 := ef 2
    have ef3 := ef 3
    have ef4 := ef 4
    have ef5 := ef 5
    have ef6 := ef 6
    have ef7 := ef 7
    have ef8 := ef 8
    clear ef
    have hX1 : w1.heap.size < W.heap.size := block_lt_of_cell x0
    have hXw : w.heap.size < W.heap.size := block_lt_of_cell e0
    (try simp only [Act.put, List.setIfInBounds_toArray, List.set_cons_zero, List.set_cons_succ])
    refine wpAny_ready (rs := [0, 3, 4, 6]) (by kernel_rfl) (by simp) ?_
    refine AllReady.cons (o := ({ dst := some 10, op := Op.load 39 (Operand.tmp 5), type := 39, pos := "l20_draw.go:324", after := #[], guard := none } : Oper)) rfl (fun K hK => ?_) ?_
    · go_simp
      refine hK _ _ ?_
      clear hK K
      (try simp only [Act.put, List.setIfInBounds_toArray, List.set_cons_zero, List.set_cons_succ])
      refine wpAny_to (by kernel_rfl) (by kernel_rfl) (HD23.out _ _ ?_)
      apply Exists.intro
      refine ⟨?_, ?_⟩
      · (try simp only [Act.put, List.setIfInBounds_toArray, List.set_cons_zero, List.set_cons_succ]); (try rfl)
      · exact hF.out
    refine AllReady.cons (o := ({ dst := some 13, op := Op.buildSlice 23 4 #[(0, Operand.tmp 12), (1, Operand.const (Value.int IntKind.i64 500)), (2, Operand.const (Value.int IntKind.i64 (-1))), (3, Operand.const (Value.int IntKind.i64 501))], type := 23, pos := "l20_draw.go:324", after := #[{ on := 2, ground := Ground.data }, { on := 11, ground := Ground.gcOnly Departure.lateStores }], guard := none } : Oper)) rfl (fun K hK => ?_) ?_
    · go_simp
      refine hK _ _ ?_
      clear hK K
      (try simp only [Act.put, List.setIfInBounds_toArray, List.set_cons_zero, List.set_cons_succ])
      refine wpAny_to (by kernel_rfl) (by kernel_rfl) (HD25.out _ _ ?_)
      apply Exists.intro
      apply Exists.intro
      refine ⟨?_, ?_, ?_, ?_⟩
      · (try simp only [Act.put, List.setIfInBounds_toArray, List.set_cons_zero, List.set_cons_succ]); (try rfl)
      · exact hF.out.alloc _
      · exact LitI.new rfl rfl hlW
      · exact Nat.ne_of_lt hXw
    refine AllReady.cons (o := ({ dst := some 14, op := Op.buildSlice 23 7 #[(0, Operand.const (Value.int IntKind.i64 0)), (1, Operand.const (Value.int IntKind.i64 0)), (2, Operand.const (Value.int IntKind.i64 0)), (3, Operand.const (Value.int IntKind.i64 0)), (4, Operand.const (Value.int IntKind.i64 1)), (5, Operand.const (Value.int IntKind.i64 2)), (6, Operand.const (Value.int IntKind.i64 3))], type := 23, pos := "l20_draw.go:324", after := #[{ on := 11, ground := Ground.gcOnly Departure.lateStores }], guard := none } : Oper)) rfl (fun K hK => ?_) ?_
    · go_simp
      refine hK _ _ ?_
      clear hK K
      (try simp only [Act.put, List.setIfInBounds_toArray, List.set_cons_zero, List.set_cons_succ])
      refine wpAny_to (by kernel_rfl) (by kernel_rfl) (HD26.out _ _ ?_)
      apply Exists.intro
      apply Exists.intro
      refine ⟨?_, ?_, ?_, ?_⟩
      · (try simp only [Act.put, List.setIfInBounds_toArray, List.set_cons_zero, List.set_cons_succ]); (try rfl)
      · exact hF.out.alloc _
      · exact LitR.new (by intro k hk; rcases (show k = 0 ∨ k = 1 ∨ k = 2 ∨ k = 3 ∨ k = 4 ∨ k = 5 ∨ k = 6 by omega) with rfl | rfl | rfl | rfl | rfl | rfl | rfl <;> first | exact ⟨0, by decide, rfl⟩ | exact ⟨1, by decide, rfl⟩ | exact ⟨2, by decide, rfl⟩ | exact ⟨3, by decide, rfl⟩) hlW
      · exact Nat.ne_of_lt hXw
    refine AllReady.cons (o := ({ dst := some 16, op := Op.call { callee := Callee.value (Operand.func 54), args := #[Operand.tmp 15, Operand.const (Value.int IntKind.i64 7)], argTypes := #[68, 3] }, type := 3, pos := "l20_draw.go:324", after := #[{ on := 5, ground := Ground.data }, { on := 2, ground := Ground.chain }], guard := none } : Oper)) rfl (fun K hK => ?_) ?_
    · go_simp
      refine (pick (B := (1200 + 1)) _ hF.out.rd (by omega)).mono ?_
      rintro e W' ⟨v6, rfl, ⟨x6, rfl, y6, z6⟩, hR', hK'⟩
      obtain ⟨k6, rfl⟩ := Int.eq_ofNat_of_zero_le y6
      have hk6 := Lib.hid (show k6 < 7 by omega)
      first | (refine hK _ _ ?_; clear hK K) | (go_wp2_with fail; (try (refine hK _ _ ?_)); (try clear hK K))
      (try simp only [Act.put, List.setIfInBounds_toArray, List.set_cons_zero, List.set_cons_succ])
      refine wpAny_to (by kernel_rfl) (by kernel_rfl) (HD27.out _ _ ?_)
      apply Exists.intro
      apply Exists.intro
      refine ⟨?_, ?_, ?_⟩
      · (try simp only [Act.put, List.setIfInBounds_toArray, List.set_cons_zero, List.set_cons_succ]); (try rfl)
      · exact hF.out.keep hK' hR'
      · exact hk6.out
    exact AllReady.nil
  refine wpAny_pre 10 #[false, true, false, false, true, true, false, false, false, false, false, false, false] (fun act9 W => ∃ b4 : Nat, act9 = (((A0.put (some 11) (.pointer (some ⟨rb, 0, none⟩))).put (some 14) (.slice (some ⟨b4, 0, none⟩) 7 7)).put (some 15) (.pointer (some ⟨rb, 0, none⟩))) ∧ Hid (MidM w w0.heap.size rb w1.heap.size (1200 + 0) (.agg #[.slice a1 m.ram.length c1, .slice b1 m.rom.length d1, .int .i64 m.bank, .int .i64 m.a, .int .i64 m.pc, .bool m.carry, .slice f1 m.back.length g1, .bool m.stop, .int .i64 m.cyc]) (.slice a1 m.ram.length c1) (.slice b1 m.rom.length d1) (.int .i64 m.bank) (.int .i64 m.a) (.int .i64 m.pc) (.bool m.carry) (.slice f1 m.back.length g1) (.bool m.stop) (.int .i64 m.cyc) (.slice none 0 0) (.slice none 0 0) (.int .i64 0) (.int .i64 0) (.int .i64 0) (.bool false) (.slice none 0 0) (.bool false) (.int .i64 0) m W) ∧ Hid (LitR rb 7 4 W b4) ∧ Hid (w.heap.size ≠ b4)) ?_ (fun HD30 => ?_)
  · rintro act9 W ⟨b4, rfl, hF, h4, n4⟩
    subst hA0
    have hlW := hF.out.rd.lt
    obtain ⟨x0, x1, x2, x3, x4, x5, x6, x7, x8, xf⟩ := id hF.out.nine
    clear xf
    obtain ⟨e0, e1, e2, e3, e4, e5, e6, e7, e8, ef⟩ := id hF.out.box
    have ef0 := ef 0
    have ef1 := ef 1
    have ef2 := ef 2
    have ef3 := ef 3
    have ef4 := ef 4
    have ef5 := ef 5
    have ef6 := ef 6
    have ef7 := ef 7
    have ef8 := ef 8
    clear ef
    have hX1 : w1.heap.size < W.heap.size := block_lt_of_cell x0
    have hXw : w.heap.size < W.heap.size := block_lt_of_cell e0
    (try simp only [Act.put, List.setIfInBounds_toArray, List.set_cons_zero, List.set_cons_succ])
    refine wpAny_ready (rs := [0, 2]) (by kernel_rfl) (by simp) ?_
    refine AllReady.cons (o := ({ dst := some 10, op := Op.load 39 (Operand.tmp 5), type := 39, pos := "l20_draw.go:324", after := #[], guard := none } : Oper)) rfl (fun K hK => ?_) ?_
    · go_simp
      refine hK _ _ ?_
      clear hK K
      (try simp only [Act.put, List.setIfInBounds_toArray, List.set_cons_zero, List.set_cons_succ])
      refine wpAny_to (by kernel_rfl) (by kernel_rfl) (HD24.out _ _ ?_)
      apply Exists.intro
      refine ⟨?_, ?_, ?_, ?_⟩
      · (try simp only [Act.put, List.setIfInBounds_toArray, List.set_cons_zero, List.set_cons_succ]); (try rfl)
      · exact hF.out
      · exact h4.out
      · exact n4.out
    refine AllReady.cons (o := ({ dst := some 12, op := Op.call { callee := Callee.value (Operand.func 54), args := #[Operand.tmp 11, Operand.const (Value.int IntKind.i64 40)], argTypes := #[68, 3] }, type := 3, pos := "l20_draw.go:324", after := #[{ on := 1, ground := Ground.data }], guard := none } : Oper)) rfl (fun K hK => ?_) ?_
    · go_simp
      refine (pick (B := (1200 + 0)) _ hF.out.rd (by omega)).mono ?_
      rintro e W' ⟨v2, rfl, ⟨q2, rfl, y2, z2⟩, hR', hK'⟩
      first | (refine hK _ _ ?_; clear hK K) | (go_wp2_with fail; (try (refine hK _ _ ?_)); (try clear hK K))
      (try simp only [Act.put, List.setIfInBounds_toArray, List.set_cons_zero, List.set_cons_succ])
      refine wpAny_to (by kernel_rfl) (by kernel_rfl) (HD26.out _ _ ?_)
      apply Exists.intro
      apply Exists.intro
      refine ⟨?_, ?_, ?_, ?_⟩
      · (try simp only [Act.put, List.setIfInBounds_toArray, List.set_cons_zero, List.set_cons_succ]); (try rfl)
      · exact hF.out.keep hK' hR'
      · exact h4.out.keep hK'
      · exact n4.out
    exact AllReady.nil
  refine wpAny_pre 11 #[false, true, false, false, false, true, false, false, false, false, false, false, false] (fun act9 W => act9 = ((A0.put (some 11) (.pointer (some ⟨rb, 0, none⟩))).put (some 15) (.pointer (some ⟨rb, 0, none⟩))) ∧ Hid (MidM w w0.heap.size rb w1.heap.size (1200 + 0) (.agg #[.slice a1 m.ram.length c1, .slice b1 m.rom.length d1, .int .i64 m.bank, .int .i64 m.a, .int .i64 m.pc, .bool m.carry, .slice f1 m.back.length g1, .bool m.stop, .int .i64 m.cyc]) (.slice a1 m.ram.length c1) (.slice b1 m.rom.length d1) (.int .i64 m.bank) (.int .i64 m.a) (.int .i64 m.pc) (.bool m.carry) (.slice f1 m.back.length g1) (.bool m.stop) (.int .i64 m.cyc) (.slice none 0 0) (.slice none 0 0) (.int .i64 0) (.int .i64 0) (.int .i64 0) (.bool false) (.slice none 0 0) (.bool false) (.int .i64 0) m W)) ?_ (fun HD31 => ?_)
  · rintro act9 W ⟨rfl, hF⟩
    subst hA0
    have hlW := hF.out.rd.lt
    obtain ⟨x0, x1, x2, x3, x4, x5, x6, x7, x8, xf⟩ := id hF.out.nine
    clear xf
    obtain ⟨e0, e1, e2, e3, e4, e5, e6, e7, e8, ef⟩ := id hF.out.box
    have ef0 := ef 0
    have ef1 := ef 1
    have ef2 := ef 2
    have ef3 := ef 3
    have ef4 := ef 4
    have ef5 := ef 5
    have ef6 := ef 6
    have ef7 := ef 7
    have ef8 := ef 8
    clear ef
    have hX1 : w1.heap.size < W.heap.size := block_lt_of_cell x0
    have hXw : w.heap.size < W.heap.size := block_lt_of_cell e0
    (try simp only [Act.put, List.setIfInBounds_toArray, List.set_cons_zero, List.set_cons_succ])
    refine wpAny_ready (rs := [0, 2, 4]) (by kernel_rfl) (by simp) ?_
    refine AllReady.cons (o := ({ dst := some 10, op := Op.load 39 (Operand.tmp 5), type := 39, pos := "l20_draw.go:324", after := #[], guard := none } : Oper)) rfl (fun K hK => ?_) ?_
    · go_simp
      refine hK _ _ ?_
      clear hK K
      (try simp only [Act.put, List.setIfInBounds_toArray, List.set_cons_zero, List.set_cons_succ])
      refine wpAny_to (by kernel_rfl) (by kernel_rfl) (HD28.out _ _ ?_)
      refine ⟨?_, ?_⟩
      · (try simp only [Act.put, List.setIfInBounds_toArray, List.set_cons_zero, List.set_cons_succ]); (try rfl)
      · exact hF.out
    refine AllReady.cons (o := ({ dst := some 12, op := Op.call { callee := Callee.value (Operand.func 54), args := #[Operand.tmp 11, Operand.const (Value.int IntKind.i64 40)], argTypes := #[68, 3] }, type := 3, pos := "l20_draw.go:324", after := #[{ on := 1, ground := Ground.data }], guard := none } : Oper)) rfl (fun K hK => ?_) ?_
    · go_simp
      refine (pick (B := (1200 + 0)) _ hF.out.rd (by omega)).mono ?_
      rintro e W' ⟨v2, rfl, ⟨q2, rfl, y2, z2⟩, hR', hK'⟩
      first | (refine hK _ _ ?_; clear hK K) | (go_wp2_with fail; (try (refine hK _ _ ?_)); (try clear hK K))
      (try simp only [Act.put, List.setIfInBounds_toArray, List.set_cons_zero, List.set_cons_succ])
      refine wpAny_to (by kernel_rfl) (by kernel_rfl) (HD29.out _ _ ?_)
      apply Exists.intro
      refine ⟨?_, ?_⟩
      · (try simp only [Act.put, List.setIfInBounds_toArray, List.set_cons_zero, List.set_cons_succ]); (try rfl)
      · exact hF.out.keep hK' hR'
    refine AllReady.cons (o := ({ dst := some 14, op := Op.buildSlice 23 7 #[(0, Operand.const (Value.int IntKind.i64 0)), (1, Operand.const (Value.int IntKind.i64 0)), (2, Operand.const (Value.int IntKind.i64 0)), (3, Operand.const (Value.int IntKind.i64 0)), (4, Operand.const (Value.int IntKind.i64 1)), (5, Operand.const (Value.int IntKind.i64 2)), (6, Operand.const (Value.int IntKind.i64 3))], type := 23, pos := "l20_draw.go:324", after := #[{ on := 11, ground := Ground.gcOnly Departure.lateStores }], guard := none } : Oper)) rfl (fun K hK => ?_) ?_
    · go_simp
      refine hK _ _ ?_
      clear hK K
      (try simp only [Act.put, List.setIfInBounds_toArray, List.set_cons_zero, List.set_cons_succ])
      refine wpAny_to (by kernel_rfl) (by kernel_rfl) (HD30.out _ _ ?_)
      apply Exists.intro
      refine ⟨?_, ?_, ?_, ?_⟩
      · (try simp only [Act.put, List.setIfInBounds_toArray, List.set_cons_zero, List.set_cons_succ]); (try rfl)
      · exact hF.out.alloc _
      · exact LitR.new (by intro k hk; rcases (show k = 0 ∨ k = 1 ∨ k = 2 ∨ k = 3 ∨ k = 4 ∨ k = 5 ∨ k = 6 by omega) with rfl | rfl | rfl | rfl | rfl | rfl | rfl <;> first | exact ⟨0, by decide, rfl⟩ | exact ⟨1, by decide, rfl⟩ | exact ⟨2, by decide, rfl⟩ | exact ⟨3, by decide, rfl⟩) hlW
      · exact Nat.ne_of_lt hXw
    exact AllReady.nil
  subst hA0
  refine wpAny_take (i := 1) (oi := ({ dst := some 11, op := Op.move (Operand.tmp 4), type := 68, pos := "l20_draw.go:324", after := #[], guard := none } : Oper)) (v := ?_) rfl (by kernel_rfl) (by kernel_rfl) (by kernel_rfl) (fun _ _ _ h => h) (Or.inl ⟨by rfl, ?_⟩) ?_
  rotate_left
  · intro wq; go_simp; (try with_reducible rfl)
  (try simp only [Act.put, List.setIfInBounds_toArray, List.set_cons_zero, List.set_cons_succ])
  refine wpAny_take (i := 5) (oi := ({ dst := some 15, op := Op.move (Operand.tmp 4), type := 68, pos := "l20_draw.go:324", after := #[], guard := none } : Oper)) (v := ?_) rfl (by kernel_rfl) (by kernel_rfl) (by kernel_rfl) (fun _ _ _ h => h) (Or.inl ⟨by rfl, ?_⟩) ?_
  rotate_left
  · intro wq; go_simp; (try with_reducible rfl)
  (try simp only [Act.put, List.setIfInBounds_toArray, List.set_cons_zero, List.set_cons_succ])
  refine wpAny_to (by kernel_rfl) (by kernel_rfl) (HD31.out _ _ ?_)
  refine ⟨?_, hMF⟩
  (try simp only [Act.put, List.setIfInBounds_toArray, List.set_cons_zero, List.set_cons_succ]); (try rfl)
end Go.Proofs.Ytkkgolgmhckgoaa
end

section
/- The law FnRunMachine: for every input it answers true, and changes nothing that was there. No condition. -/
namespace Go.Proofs.Ytkkgolgmhckgoaa
open Go.ChangeShapes Go.WideShapes Go.ChangeAt Go.RowKit
set_option linter.unusedVariables false

theorem nineBelow {W W' : World} {b : Nat} {x0 x1 x2 x3 x4 x5 x6 x7 x8 : Value} (h : Nine W b x0 x1 x2 x3 x4 x5 x6 x7 x8) (hb : Below W.heap.size W W') : Nine W' b x0 x1 x2 x3 x4 x5 x6 x7 x8 := h.keep (rb := b + 1) (Keep.ofBelow hb) (by omega)
theorem twoBelow {W W' : World} {b c : Nat} {x0 x1 x2 x3 x4 x5 x6 x7 x8 y0 y1 y2 y3 y4 y5 y6 y7 y8 : Value} (hb : Below W.heap.size W W') (h : Nine W b x0 x1 x2 x3 x4 x5 x6 x7 x8 ∧ Nine W c y0 y1 y2 y3 y4 y5 y6 y7 y8) : Nine W' b x0 x1 x2 x3 x4 x5 x6 x7 x8 ∧ Nine W' c y0 y1 y2 y3 y4 y5 y6 y7 y8 := ⟨nineBelow h.1 hb, nineBelow h.2 hb⟩
theorem twoDrew {W : World} {b c : Nat} {x0 x1 x2 x3 x4 x5 x6 x7 x8 y0 y1 y2 y3 y4 y5 y6 y7 y8 : Value} (h : Nine W b x0 x1 x2 x3 x4 x5 x6 x7 x8 ∧ Nine W c y0 y1 y2 y3 y4 y5 y6 y7 y8) : Nine W.drew b x0 x1 x2 x3 x4 x5 x6 x7 x8 ∧ Nine W.drew c y0 y1 y2 y3 y4 y5 y6 y7 y8 := ⟨h.1.drew, h.2.drew⟩
theorem calls_mach {P : Program} {f : FuncId} {args : Array Value} {w : World} {m m' : Mach} (h : Calls P f args w (MadeMach m w)) (e : m = m') : Calls P f args w (MadeMach m' w) := e ▸ h
theorem rn_steps {m : Mach} {N : Nat} (hv : machB m = true) (hN : N ≤ 500) : rnM m (N : Int) = Mach.steps N m := by
  have h2 : inR (N : Int) 0 500 = true := inR_iff.2 (by omega)
  simp only [rnM, hv, h2]
  exact if_pos (by rfl)
theorem rn_valid {m : Mach} {N : Nat} (hv : machB m = true) (hc : m.cyc ≤ 1000) (hN : N ≤ 500) : machB (Mach.steps N m) = true := by
  have g := machB_good hv
  have g1 : m.Good 1000 := ⟨g.mem, g.a, g.pc, g.len, g.back, g.c0, hc⟩
  exact good_machB ((g1.steps N).more (by omega))
theorem rn_split {m : Mach} {N H : Nat} (hv : machB m = true) (hc : m.cyc ≤ 1000) (hN : N ≤ 500) (hH : H ≤ N) : rnM (rnM m (H : Int)) ((N : Int) - H) = rnM m (N : Int) := by
  have e : (N : Int) - H = ((N - H : Nat) : Int) := by omega
  rw [e, rn_steps hv (show H ≤ 500 by omega), rn_steps (rn_valid hv hc (by omega)) (by omega), rn_steps hv hN, Mach.steps_add]
  congr 1
  omega
theorem rn_one {m : Mach} (hv : machB m = true) : rnM m 1 = stM m := by
  have h := rn_steps (N := 1) hv (by omega)
  rw [stM_yes hv]
  exact h
theorem rn_zero {m : Mach} (hv : machB m = true) : rnM m 0 = m := rn_steps (N := 0) hv (by omega)
theorem rn_bad {m : Mach} {n : Int} (h : machB m = false ∨ inR n 0 500 = false) : rnM m n = zeroM := by
  rcases h with h | h <;> simp [rnM, h]
set_option maxHeartbeats 8000000 in
set_option maxRecDepth 20000 in
theorem walk_FnRunMachine (v0 : Value) (w : World) (y0 : IsBytes w v0) : Calls Try.prog 9 #[v0] w fun e w' => e = .returned (.bool true) ∧ Below w.heap.size w w' := by
  have hY := Lib.hid y0
  obtain ⟨a, len, cap, zs, rfl, _⟩ := y0
  by_cases hl : (1048576 : Int) < (len : Int)
  · go_enter Try.func9, Try.ntmps9
    go_wp2_with fail
    go_ret
    exact ⟨rfl, Below.refl _ _⟩
  go_enter Try.func9, Try.ntmps9
  go_wp2_with fail
  refine (draw_RunMachine hY.out).mono ?_
  rintro e w1 ⟨v1, m, n, rfl, hm, hr1, hb1⟩
  have hB1 := Lib.hid hb1
  have HCY := Lib.hid hr1.2
  obtain ⟨a1, c1, b1, d1, f1, g1, rfl, _, _, _, _, _, _⟩ := machV_shape hm
  have HM := Lib.hid hm
  clear hm hb1 hr1
  obtain ⟨y, hy⟩ : ∃ y, y = rnM m n := ⟨_, rfl⟩
  have E : Hid (rnM m n = y) := hy.symm
  clear hy
  go_upto_region 4 with fail
  obtain ⟨Y, hY0⟩ : ∃ Y, Y = w1.alloc (.cells #[.slice a1 m.ram.length c1, .slice b1 m.rom.length d1, .int .i64 m.bank, .int .i64 m.a, .int .i64 m.pc, .bool m.carry, .slice f1 m.back.length g1, .bool m.stop, .int .i64 m.cyc] 39) := ⟨_, rfl⟩
  have nY : Hid (Nine Y w1.heap.size (.slice a1 m.ram.length c1) (.slice b1 m.rom.length d1) (.int .i64 m.bank) (.int .i64 m.a) (.int .i64 m.pc) (.bool m.carry) (.slice f1 m.back.length g1) (.bool m.stop) (.int .i64 m.cyc)) := by rw [hY0]; exact nine_lit rfl
  have b1Y : Hid (Below w1.heap.size w1 Y) := by rw [hY0]; exact (Below.refl _ _).alloc (Nat.le_refl _) _
  rw [← hY0]
  clear hY0
  obtain ⟨x0, x1, x2, x3, x4, x5, x6, x7, x8, _⟩ := id nY.out
  have hYl : w1.heap.size < Y.heap.size := block_lt_of_cell x0
  go_wp2_with fail
  refine (calls_mach (impl_RunMachine n (HM.out.below b1Y.out)) E.out).mono ?_
  rintro e w3 ⟨v3, rfl, o3, hb3⟩
  have n3 := Lib.hid (nineBelow nY.out hb3)
  have b13 : Hid (Below w1.heap.size w1 w3) := b1Y.out.trans (hb3.mono b1Y.out.size)
  have HX := Lib.hid o3.mach
  obtain ⟨ya, yc, yb, yd, ye, yf, rfl, _, _, _, _, _, _⟩ := machV_shape o3.mach
  clear o3 hb3 x0 x1 x2 x3 x4 x5 x6 x7 x8
  have hw3 : w1.heap.size < w3.heap.size := n3.out.lt
  go_upto_region 5 with fail
  obtain ⟨Z, hZ0⟩ : ∃ Z, Z = w3.alloc (.cells #[.slice ya y.ram.length yc, .slice yb y.rom.length yd, .int .i64 y.bank, .int .i64 y.a, .int .i64 y.pc, .bool y.carry, .slice ye y.back.length yf, .bool y.stop, .int .i64 y.cyc] 39) := ⟨_, rfl⟩
  have b3Z : Hid (Below w3.heap.size w3 Z) := by rw [hZ0]; exact (Below.refl _ _).alloc (Nat.le_refl _) _
  have nZ : Hid (Nine Z w3.heap.size (.slice ya y.ram.length yc) (.slice yb y.rom.length yd) (.int .i64 y.bank) (.int .i64 y.a) (.int .i64 y.pc) (.bool y.carry) (.slice ye y.back.length yf) (.bool y.stop) (.int .i64 y.cyc)) := by rw [hZ0]; exact nine_lit rfl
  have b1Z : Hid (Below w1.heap.size w1 Z) := b13.out.trans (b3Z.out.mono b13.out.size)
  have SZ : Hid (Nine Z w1.heap.size (.slice a1 m.ram.length c1) (.slice b1 m.rom.length d1) (.int .i64 m.bank) (.int .i64 m.a) (.int .i64 m.pc) (.bool m.carry) (.slice f1 m.back.length g1) (.bool m.stop) (.int .i64 m.cyc) ∧ Nine Z w3.heap.size (.slice ya y.ram.length yc) (.slice yb y.rom.length yd) (.int .i64 y.bank) (.int .i64 y.a) (.int .i64 y.pc) (.bool y.carry) (.slice ye y.back.length yf) (.bool y.stop) (.int .i64 y.cyc)) := ⟨nineBelow n3.out b3Z.out, nZ.out⟩
  have hBZ : Hid (Below w.heap.size w Z) := hB1.out.trans (b1Z.out.mono hB1.out.size)
  have HXZ : Hid (MachV Z (.agg #[.slice ya y.ram.length yc, .slice yb y.rom.length yd, .int .i64 y.bank, .int .i64 y.a, .int .i64 y.pc, .bool y.carry, .slice ye y.back.length yf, .bool y.stop, .int .i64 y.cyc]) y) := HX.out.below b3Z.out
  have HMZ : Hid (MachV Z (.agg #[.slice a1 m.ram.length c1, .slice b1 m.rom.length d1, .int .i64 m.bank, .int .i64 m.a, .int .i64 m.pc, .bool m.carry, .slice f1 m.back.length g1, .bool m.stop, .int .i64 m.cyc]) m) := HM.out.below b1Z.out
  rw [← hZ0]
  clear hZ0 HX nY n3 nZ
  refine wp_region_held_drew (S := fun w' => Nine w' w1.heap.size (.slice a1 m.ram.length c1) (.slice b1 m.rom.length d1) (.int .i64 m.bank) (.int .i64 m.a) (.int .i64 m.pc) (.bool m.carry) (.slice f1 m.back.length g1) (.bool m.stop) (.int .i64 m.cyc) ∧ Nine w' w3.heap.size (.slice ya y.ram.length yc) (.slice yb y.rom.length yd) (.int .i64 y.bank) (.int .i64 y.a) (.int .i64 y.pc) (.bool y.carry) (.slice ye y.back.length yf) (.bool y.stop) (.int .i64 y.cyc)) (by kernel_rfl) (twoDrew SZ.out) ?_
  intro hS
  try dsimp only at hS
  refine wpAnyH_take (i := 0) (oi := ({ dst := some 18, op := Op.load 39 (Operand.tmp 5), type := 39, pos := "laws.go:510", after := #[], guard := none } : Oper)) (v := ?_) rfl (by kernel_rfl) (by kernel_rfl) (by kernel_rfl) (fun _ _ _ h => h) (Or.inl ⟨by rfl, ?_⟩) hS ?_
  rotate_left
  · intro wq hSw; (try dsimp only at hSw); obtain ⟨⟨s0, s1, s2, s3, s4, s5, s6, s7, s8, _⟩, ⟨t0, t1, t2, t3, t4, t5, t6, t7, t8, _⟩⟩ := hSw; go_simp; (try with_reducible rfl)
  (try simp only [Act.put, List.setIfInBounds_toArray, List.set_cons_zero, List.set_cons_succ])
  refine wpAnyH_take (i := 1) (oi := ({ dst := some 19, op := Op.load 39 (Operand.tmp 3), type := 39, pos := "laws.go:510", after := #[], guard := none } : Oper)) (v := ?_) rfl (by kernel_rfl) (by kernel_rfl) (by kernel_rfl) (fun _ _ _ h => h) (Or.inl ⟨by rfl, ?_⟩) hS ?_
  rotate_left
  · intro wq hSw; (try dsimp only at hSw); obtain ⟨⟨s0, s1, s2, s3, s4, s5, s6, s7, s8, _⟩, ⟨t0, t1, t2, t3, t4, t5, t6, t7, t8, _⟩⟩ := hSw; go_simp; (try with_reducible rfl)
  (try simp only [Act.put, List.setIfInBounds_toArray, List.set_cons_zero, List.set_cons_succ])
  refine wpAnyH_take (i := 2) (oi := ({ dst := some 20, op := Op.move (Operand.tmp 4), type := 3, pos := "laws.go:510", after := #[], guard := none } : Oper)) (v := ?_) rfl (by kernel_rfl) (by kernel_rfl) (by kernel_rfl) (fun _ _ _ h => h) (Or.inl ⟨by rfl, ?_⟩) hS ?_
  rotate_left
  · intro wq hSw; (try dsimp only at hSw); obtain ⟨⟨s0, s1, s2, s3, s4, s5, s6, s7, s8, _⟩, ⟨t0, t1, t2, t3, t4, t5, t6, t7, t8, _⟩⟩ := hSw; go_simp; (try with_reducible rfl)
  (try simp only [Act.put, List.setIfInBounds_toArray, List.set_cons_zero, List.set_cons_succ])
  refine wpAnyH_ready (rs := [3]) (by kernel_rfl) (by simp) ?_
  refine AllReadyH.cons (o := ({ dst := some 21, op := Op.call { callee := Callee.value (Operand.func 42), args := #[Operand.tmp 19, Operand.tmp 20], argTypes := #[39, 3] }, type := 39, pos := "laws.go:510", after := #[{ on := 1, ground := Ground.data }, { on := 2, ground := Ground.data }], guard := none } : Oper)) rfl (fun K hK => ?_) AllReadyH.nil
  go_simp
  (go_at_call 42; refine (calls_mach (spec_RunMachine n (HMZ.out.below (Below.refl _ _).drew)) E.out).mono ?_; rintro e w5 ⟨v5, rfl, o5, hb5⟩; (have S5 := Lib.hid (twoBelow hb5 (twoDrew SZ.out))); (have bZ5 : Hid (Below Z.heap.size Z w5) := ((Below.refl _ _).drew).trans hb5))
  (try go_wp2_with fail)
  refine hK.out _ _ (S5.out) (fun hT => ?_)
  clear hK K hS
  have hS := hT
  clear hT
  try dsimp only at hS
  (try simp only [Act.put, List.setIfInBounds_toArray, List.set_cons_zero, List.set_cons_succ])
  refine wpAnyH_ready (rs := [4]) (by kernel_rfl) (by simp) ?_
  refine AllReadyH.cons (o := ({ dst := some 22, op := Op.call { callee := Callee.value (Operand.func 37), args := #[Operand.tmp 18, Operand.tmp 21], argTypes := #[39, 39] }, type := 4, pos := "laws.go:510", after := #[{ on := 0, ground := Ground.data }, { on := 3, ground := Ground.data }, { on := 3, ground := Ground.chain }], guard := none } : Oper)) rfl (fun K hK => ?_) AllReadyH.nil
  go_simp
  (go_at_call 37; refine (laws_sameMachine (HXZ.out.below bZ5.out) o5.mach).mono ?_; rintro e w6 ⟨rfl, hb6⟩; (have S6 := Lib.hid (twoBelow hb6 S5.out)); (have bZ6 : Hid (Below Z.heap.size Z w6) := bZ5.out.trans (hb6.mono bZ5.out.size)))
  (try go_wp2_with fail)
  refine hK.out _ _ (S6.out) (fun hT => ?_)
  clear hK K hS
  have hS := hT
  clear hT
  try dsimp only at hS
  (try simp only [Act.put, List.setIfInBounds_toArray, List.set_cons_zero, List.set_cons_succ])
  refine wpAnyH_take (i := 5) (oi := ({ dst := some 23, op := Op.unOp UnOp.not 4 (Operand.tmp 22), type := 4, pos := "laws.go:510", after := #[{ on := 4, ground := Ground.data }], guard := none } : Oper)) (v := ?_) rfl (by kernel_rfl) (by kernel_rfl) (by kernel_rfl) (fun _ _ _ h => h) (Or.inl ⟨by rfl, ?_⟩) hS ?_
  rotate_left
  · intro wq hSw; (try dsimp only at hSw); obtain ⟨⟨s0, s1, s2, s3, s4, s5, s6, s7, s8, _⟩, ⟨t0, t1, t2, t3, t4, t5, t6, t7, t8, _⟩⟩ := hSw; go_simp; (try with_reducible rfl)
  (try simp only [Act.put, List.setIfInBounds_toArray, List.set_cons_zero, List.set_cons_succ])
  refine wpAnyH_done (by kernel_rfl) ?_ _
  clear hS S5 SZ
  have key : machB m = false ∨ (machB m = true ∧ n < 0) ∨ (machB m = true ∧ 500 < n) ∨ (machB m = true ∧ 0 ≤ n ∧ n ≤ 500) := by
    cases machB m
    · exact .inl rfl
    · have : n < 0 ∨ 500 < n ∨ (0 ≤ n ∧ n ≤ 500) := by omega
      simpa using this
  rcases key with hv | ⟨hv, hn⟩ | ⟨hv, hn⟩ | ⟨hv, hn0, hn1⟩
  · have hbad : machB m = false ∨ inR n 0 500 = false := .inl hv
    have hz : ((y.ram.length : Int) == 0) = true := by rw [← E.out, rn_bad hbad]; rfl
    have HV := Lib.hid hv
    clear hv hbad
    obtain ⟨⟨x0, x1, x2, x3, x4, x5, x6, x7, x8, _⟩, ⟨z0, z1, z2, z3, z4, z5, z6, z7, z8, _⟩⟩ := id S6.out
    go_wp2_with fail
    refine (calls_eqv (spec_MachineValid (HMZ.out.below bZ6.out)) HV.out).mono ?_
    rintro e w8 ⟨rfl, hb8⟩
    have S8 := Lib.hid (twoBelow hb8 S6.out)
    have bZ8 : Hid (Below Z.heap.size Z w8) := bZ6.out.trans (hb8.mono bZ6.out.size)
    clear hb8 x0 x1 x2 x3 x4 x5 x6 x7 x8 z0 z1 z2 z3 z4 z5 z6 z7 z8
    obtain ⟨⟨x0, x1, x2, x3, x4, x5, x6, x7, x8, _⟩, ⟨z0, z1, z2, z3, z4, z5, z6, z7, z8, _⟩⟩ := id S8.out
    go_wp2_with (first | (go_at_call 16; refine (laws_alive _).mono ?_; rintro e w' ⟨rfl, rfl⟩))
    go_ret
    exact ⟨rfl, hBZ.out.trans (bZ8.out.mono hBZ.out.size)⟩
  · have hbad : machB m = false ∨ inR n 0 500 = false := .inr (by cases h : inR n 0 500 with | false => rfl | true => have := inR_iff.1 h; omega)
    have hz : ((y.ram.length : Int) == 0) = true := by rw [← E.out, rn_bad hbad]; rfl
    have HV := Lib.hid hv
    clear hv hbad
    obtain ⟨⟨x0, x1, x2, x3, x4, x5, x6, x7, x8, _⟩, ⟨z0, z1, z2, z3, z4, z5, z6, z7, z8, _⟩⟩ := id S6.out
    go_wp2_with fail
    refine (calls_eqv (spec_MachineValid (HMZ.out.below bZ6.out)) HV.out).mono ?_
    rintro e w8 ⟨rfl, hb8⟩
    have S8 := Lib.hid (twoBelow hb8 S6.out)
    have bZ8 : Hid (Below Z.heap.size Z w8) := bZ6.out.trans (hb8.mono bZ6.out.size)
    clear hb8 x0 x1 x2 x3 x4 x5 x6 x7 x8 z0 z1 z2 z3 z4 z5 z6 z7 z8
    obtain ⟨⟨x0, x1, x2, x3, x4, x5, x6, x7, x8, _⟩, ⟨z0, z1, z2, z3, z4, z5, z6, z7, z8, _⟩⟩ := id S8.out
    go_wp2_with (first | (go_at_call 16; refine (laws_alive _).mono ?_; rintro e w' ⟨rfl, rfl⟩))
    go_ret
    exact ⟨rfl, hBZ.out.trans (bZ8.out.mono hBZ.out.size)⟩
  · have hbad : machB m = false ∨ inR n 0 500 = false := .inr (by cases h : inR n 0 500 with | false => rfl | true => have := inR_iff.1 h; omega)
    have hz : ((y.ram.length : Int) == 0) = true := by rw [← E.out, rn_bad hbad]; rfl
    have HV := Lib.hid hv
    clear hv hbad
    obtain ⟨⟨x0, x1, x2, x3, x4, x5, x6, x7, x8, _⟩, ⟨z0, z1, z2, z3, z4, z5, z6, z7, z8, _⟩⟩ := id S6.out
    go_wp2_with fail
    refine (calls_eqv (spec_MachineValid (HMZ.out.below bZ6.out)) HV.out).mono ?_
    rintro e w8 ⟨rfl, hb8⟩
    have S8 := Lib.hid (twoBelow hb8 S6.out)
    have bZ8 : Hid (Below Z.heap.size Z w8) := bZ6.out.trans (hb8.mono bZ6.out.size)
    clear hb8 x0 x1 x2 x3 x4 x5 x6 x7 x8 z0 z1 z2 z3 z4 z5 z6 z7 z8
    obtain ⟨⟨x0, x1, x2, x3, x4, x5, x6, x7, x8, _⟩, ⟨z0, z1, z2, z3, z4, z5, z6, z7, z8, _⟩⟩ := id S8.out
    go_wp2_with (first | (go_at_call 16; refine (laws_alive _).mono ?_; rintro e w' ⟨rfl, rfl⟩))
    go_ret
    exact ⟨rfl, hBZ.out.trans (bZ8.out.mono hBZ.out.size)⟩
  · obtain ⟨N, rfl⟩ := Int.eq_ofNat_of_zero_le hn0
    obtain ⟨H, hH, hHN⟩ : ∃ H : Nat, (N : Int) / 3 = (H : Int) ∧ H ≤ N := ⟨N / 3, by omega, by omega⟩
    have hsub : IntKind.i64.wrap ((N : Int) - H) = N - H := by rw [IntKind.wrap_i64]; omega
    have HV := Lib.hid hv
    have ES : Hid (rnM (rnM m (H : Int)) ((N : Int) - H) = y) := by rw [rn_split hv HCY.out (by omega) hHN]; exact E.out
    have E1 : Hid (rnM m 1 = stM m) := rn_one hv
    have E0 : Hid (rnM m 0 = m) := rn_zero hv
    clear hv
    obtain ⟨⟨x0, x1, x2, x3, x4, x5, x6, x7, x8, _⟩, ⟨z0, z1, z2, z3, z4, z5, z6, z7, z8, _⟩⟩ := id S6.out
    go_wp2_with fail
    refine (calls_eqv (spec_MachineValid (HMZ.out.below bZ6.out)) HV.out).mono ?_
    rintro e w8 ⟨rfl, hb8⟩
    have S8 := Lib.hid (twoBelow hb8 S6.out)
    have bZ8 : Hid (Below Z.heap.size Z w8) := bZ6.out.trans (hb8.mono bZ6.out.size)
    clear hb8 x0 x1 x2 x3 x4 x5 x6 x7 x8 z0 z1 z2 z3 z4 z5 z6 z7 z8
    obtain ⟨⟨x0, x1, x2, x3, x4, x5, x6, x7, x8, _⟩, ⟨z0, z1, z2, z3, z4, z5, z6, z7, z8, _⟩⟩ := id S8.out
    clear x0 x1 x2 x3 x4 x5 x6 x7 x8 z0 z1 z2 z3 z4 z5 z6 z7 z8
    go_upto_region 10 with fail
    (try rw [hH])
    refine wp_region_held_drew (S := fun w' => Nine w' w1.heap.size (.slice a1 m.ram.length c1) (.slice b1 m.rom.length d1) (.int .i64 m.bank) (.int .i64 m.a) (.int .i64 m.pc) (.bool m.carry) (.slice f1 m.back.length g1) (.bool m.stop) (.int .i64 m.cyc) ∧ Nine w' w3.heap.size (.slice ya y.ram.length yc) (.slice yb y.rom.length yd) (.int .i64 y.bank) (.int .i64 y.a) (.int .i64 y.pc) (.bool y.carry) (.slice ye y.back.length yf) (.bool y.stop) (.int .i64 y.cyc)) (by kernel_rfl) (twoDrew S8.out) ?_
    intro hS
    try dsimp only at hS
    refine wpAnyH_take (i := 0) (oi := ({ dst := some 45, op := Op.load 39 (Operand.tmp 3), type := 39, pos := "laws.go:517", after := #[], guard := none } : Oper)) (v := ?_) rfl (by kernel_rfl) (by kernel_rfl) (by kernel_rfl) (fun _ _ _ h => h) (Or.inl ⟨by rfl, ?_⟩) hS ?_
    rotate_left
    · intro wq hSw; (try dsimp only at hSw); obtain ⟨⟨s0, s1, s2, s3, s4, s5, s6, s7, s8, _⟩, ⟨t0, t1, t2, t3, t4, t5, t6, t7, t8, _⟩⟩ := hSw; go_simp; (try with_reducible rfl)
    (try simp only [Act.put, List.setIfInBounds_toArray, List.set_cons_zero, List.set_cons_succ])
    refine wpAnyH_take (i := 1) (oi := ({ dst := some 46, op := Op.move (Operand.tmp 6), type := 3, pos := "laws.go:517", after := #[], guard := none } : Oper)) (v := ?_) rfl (by kernel_rfl) (by kernel_rfl) (by kernel_rfl) (fun _ _ _ h => h) (Or.inl ⟨by rfl, ?_⟩) hS ?_
    rotate_left
    · intro wq hSw; (try dsimp only at hSw); obtain ⟨⟨s0, s1, s2, s3, s4, s5, s6, s7, s8, _⟩, ⟨t0, t1, t2, t3, t4, t5, t6, t7, t8, _⟩⟩ := hSw; go_simp; (try with_reducible rfl)
    (try simp only [Act.put, List.setIfInBounds_toArray, List.set_cons_zero, List.set_cons_succ])
    refine wpAnyH_take (i := 3) (oi := ({ dst := some 48, op := Op.move (Operand.tmp 4), type := 3, pos := "laws.go:517", after := #[], guard := none } : Oper)) (v := ?_) rfl (by kernel_rfl) (by kernel_rfl) (by kernel_rfl) (fun _ _ _ h => h) (Or.inl ⟨by rfl, ?_⟩) hS ?_
    rotate_left
    · intro wq hSw; (try dsimp only at hSw); obtain ⟨⟨s0, s1, s2, s3, s4, s5, s6, s7, s8, _⟩, ⟨t0, t1, t2, t3, t4, t5, t6, t7, t8, _⟩⟩ := hSw; go_simp; (try with_reducible rfl)
    (try simp only [Act.put, List.setIfInBounds_toArray, List.set_cons_zero, List.set_cons_succ])
    refine wpAnyH_take (i := 4) (oi := ({ dst := some 49, op := Op.move (Operand.tmp 6), type := 3, pos := "laws.go:517", after := #[], guard := none } : Oper)) (v := ?_) rfl (by kernel_rfl) (by kernel_rfl) (by kernel_rfl) (fun _ _ _ h => h) (Or.inl ⟨by rfl, ?_⟩) hS ?_
    rotate_left
    · intro wq hSw; (try dsimp only at hSw); obtain ⟨⟨s0, s1, s2, s3, s4, s5, s6, s7, s8, _⟩, ⟨t0, t1, t2, t3, t4, t5, t6, t7, t8, _⟩⟩ := hSw; go_simp; (try with_reducible rfl)
    (try simp only [Act.put, List.setIfInBounds_toArray, List.set_cons_zero, List.set_cons_succ])
    refine wpAnyH_take (i := 5) (oi := ({ dst := some 50, op := Op.binOp BinOp.sub 3 (Operand.tmp 48) (Operand.tmp 49) 3, type := 3, pos := "laws.go:517", after := #[{ on := 3, ground := Ground.data }, { on := 4, ground := Ground.data }], guard := none } : Oper)) (v := ?_) rfl (by kernel_rfl) (by kernel_rfl) (by kernel_rfl) (fun _ _ _ h => h) (Or.inl ⟨by rfl, ?_⟩) hS ?_
    rotate_left
    · intro wq hSw; (try dsimp only at hSw); obtain ⟨⟨s0, s1, s2, s3, s4, s5, s6, s7, s8, _⟩, ⟨t0, t1, t2, t3, t4, t5, t6, t7, t8, _⟩⟩ := hSw; go_simp; (try with_reducible rfl)
    (try simp only [Act.put, List.setIfInBounds_toArray, List.set_cons_zero, List.set_cons_succ])
    refine wpAnyH_take (i := 7) (oi := ({ dst := some 52, op := Op.load 39 (Operand.tmp 5), type := 39, pos := "laws.go:517", after := #[], guard := none } : Oper)) (v := ?_) rfl (by kernel_rfl) (by kernel_rfl) (by kernel_rfl) (fun _ _ _ h => h) (Or.inl ⟨by rfl, ?_⟩) hS ?_
    rotate_left
    · intro wq hSw; (try dsimp only at hSw); obtain ⟨⟨s0, s1, s2, s3, s4, s5, s6, s7, s8, _⟩, ⟨t0, t1, t2, t3, t4, t5, t6, t7, t8, _⟩⟩ := hSw; go_simp; (try with_reducible rfl)
    (try simp only [Act.put, List.setIfInBounds_toArray, List.set_cons_zero, List.set_cons_succ])
    refine wpAnyH_ready (rs := [2]) (by kernel_rfl) (by simp) ?_
    refine AllReadyH.cons (o := ({ dst := some 47, op := Op.call { callee := Callee.value (Operand.func 41), args := #[Operand.tmp 45, Operand.tmp 46], argTypes := #[39, 3] }, type := 39, pos := "laws.go:517", after := #[{ on := 0, ground := Ground.data }, { on := 1, ground := Ground.data }], guard := none } : Oper)) rfl (fun K hK => ?_) AllReadyH.nil
    go_simp
    (go_at_call_of 41 (Value.int IntKind.i64 (H : Int)); refine (impl_RunMachine (H : Int) (HMZ.out.below bZ8.out.drew)).mono ?_; rintro e w9 ⟨v9, rfl, o9, hb9⟩; (have S9 := Lib.hid (twoBelow hb9 (twoDrew S8.out))); (have bZ9 : Hid (Below Z.heap.size Z w9) := bZ8.out.drew.trans (hb9.mono bZ8.out.size)))
    (try go_wp2_with fail)
    refine hK.out _ _ (S9.out) (fun hT => ?_)
    clear hK K hS
    have hS := hT
    clear hT
    try dsimp only at hS
    (try simp only [Act.put, List.setIfInBounds_toArray, List.set_cons_zero, List.set_cons_succ])
    refine wpAnyH_ready (rs := [6]) (by kernel_rfl) (by simp) ?_
    refine AllReadyH.cons (o := ({ dst := some 51, op := Op.call { callee := Callee.value (Operand.func 41), args := #[Operand.tmp 47, Operand.tmp 50], argTypes := #[39, 3] }, type := 39, pos := "laws.go:517", after := #[{ on := 2, ground := Ground.data }, { on := 5, ground := Ground.data }, { on := 2, ground := Ground.chain }], guard := none } : Oper)) rfl (fun K hK => ?_) AllReadyH.nil
    go_simp
    (go_at_call 41; refine (calls_mach (impl_RunMachine ((N : Int) - H) o9.mach) ES.out).mono ?_; rintro e w10 ⟨v10, rfl, o10, hb10⟩; (have S10 := Lib.hid (twoBelow hb10 S9.out)); (have bZ10 : Hid (Below Z.heap.size Z w10) := bZ9.out.trans (hb10.mono bZ9.out.size)))
    (try go_wp2_with fail)
    refine hK.out _ _ (S10.out) (fun hT => ?_)
    clear hK K hS
    have hS := hT
    clear hT
    try dsimp only at hS
    (try simp only [Act.put, List.setIfInBounds_toArray, List.set_cons_zero, List.set_cons_succ])
    refine wpAnyH_ready (rs := [8]) (by kernel_rfl) (by simp) ?_
    refine AllReadyH.cons (o := ({ dst := some 53, op := Op.call { callee := Callee.value (Operand.func 37), args := #[Operand.tmp 51, Operand.tmp 52], argTypes := #[39, 39] }, type := 4, pos := "laws.go:517", after := #[{ on := 6, ground := Ground.data }, { on := 7, ground := Ground.data }, { on := 6, ground := Ground.chain }], guard := none } : Oper)) rfl (fun K hK => ?_) AllReadyH.nil
    go_simp
    (go_at_call 37; refine (laws_sameMachine o10.mach (HXZ.out.below bZ10.out)).mono ?_; rintro e w11 ⟨rfl, hb11⟩; (have S11 := Lib.hid (twoBelow hb11 S10.out)); (have bZ11 : Hid (Below Z.heap.size Z w11) := bZ10.out.trans (hb11.mono bZ10.out.size)))
    (try go_wp2_with fail)
    refine hK.out _ _ (S11.out) (fun hT => ?_)
    clear hK K hS
    have hS := hT
    clear hT
    try dsimp only at hS
    (try simp only [Act.put, List.setIfInBounds_toArray, List.set_cons_zero, List.set_cons_succ])
    refine wpAnyH_take (i := 9) (oi := ({ dst := some 54, op := Op.move (Operand.tmp 53), type := 4, pos := "laws.go:517", after := #[{ on := 8, ground := Ground.data }, { on := 8, ground := Ground.chain }], guard := none } : Oper)) (v := ?_) rfl (by kernel_rfl) (by kernel_rfl) (by kernel_rfl) (fun _ _ _ h => h) (Or.inl ⟨by rfl, ?_⟩) hS ?_
    rotate_left
    · intro wq hSw; (try dsimp only at hSw); obtain ⟨⟨s0, s1, s2, s3, s4, s5, s6, s7, s8, _⟩, ⟨t0, t1, t2, t3, t4, t5, t6, t7, t8, _⟩⟩ := hSw; go_simp; (try with_reducible rfl)
    (try simp only [Act.put, List.setIfInBounds_toArray, List.set_cons_zero, List.set_cons_succ])
    refine wpAnyH_take (i := 10) (oi := ({ dst := some 55, op := Op.load 39 (Operand.tmp 3), type := 39, pos := "laws.go:517", after := #[{ on := 9, ground := Ground.guard }], guard := some (9, true) } : Oper)) (v := ?_) rfl (by kernel_rfl) (by kernel_rfl) (by kernel_rfl) (fun _ _ _ h => h) (Or.inl ⟨by rfl, ?_⟩) hS ?_
    rotate_left
    · intro wq hSw; (try dsimp only at hSw); obtain ⟨⟨s0, s1, s2, s3, s4, s5, s6, s7, s8, _⟩, ⟨t0, t1, t2, t3, t4, t5, t6, t7, t8, _⟩⟩ := hSw; go_simp; (try with_reducible rfl)
    (try simp only [Act.put, List.setIfInBounds_toArray, List.set_cons_zero, List.set_cons_succ])
    refine wpAnyH_take (i := 12) (oi := ({ dst := some 57, op := Op.load 39 (Operand.tmp 3), type := 39, pos := "laws.go:517", after := #[{ on := 9, ground := Ground.guard }], guard := some (9, true) } : Oper)) (v := ?_) rfl (by kernel_rfl) (by kernel_rfl) (by kernel_rfl) (fun _ _ _ h => h) (Or.inl ⟨by rfl, ?_⟩) hS ?_
    rotate_left
    · intro wq hSw; (try dsimp only at hSw); obtain ⟨⟨s0, s1, s2, s3, s4, s5, s6, s7, s8, _⟩, ⟨t0, t1, t2, t3, t4, t5, t6, t7, t8, _⟩⟩ := hSw; go_simp; (try with_reducible rfl)
    (try simp only [Act.put, List.setIfInBounds_toArray, List.set_cons_zero, List.set_cons_succ])
    refine wpAnyH_ready (rs := [11]) (by kernel_rfl) (by simp) ?_
    refine AllReadyH.cons (o := ({ dst := some 56, op := Op.call { callee := Callee.value (Operand.func 41), args := #[Operand.tmp 55, Operand.const (Value.int IntKind.i64 1)], argTypes := #[39, 3] }, type := 39, pos := "laws.go:517", after := #[{ on := 10, ground := Ground.data }, { on := 9, ground := Ground.chain }, { on := 9, ground := Ground.guard }], guard := some (9, true) } : Oper)) rfl (fun K hK => ?_) AllReadyH.nil
    go_simp
    (go_at_call 41; refine (calls_mach (impl_RunMachine 1 (HMZ.out.below bZ11.out)) E1.out).mono ?_; rintro e w12 ⟨v12, rfl, o12, hb12⟩; (have S12 := Lib.hid (twoBelow hb12 S11.out)); (have bZ12 : Hid (Below Z.heap.size Z w12) := bZ11.out.trans (hb12.mono bZ11.out.size)))
    (try go_wp2_with fail)
    refine hK.out _ _ (S12.out) (fun hT => ?_)
    clear hK K hS
    have hS := hT
    clear hT
    try dsimp only at hS
    (try simp only [Act.put, List.setIfInBounds_toArray, List.set_cons_zero, List.set_cons_succ])
    refine wpAnyH_ready (rs := [13]) (by kernel_rfl) (by simp) ?_
    refine AllReadyH.cons (o := ({ dst := some 58, op := Op.call { callee := Callee.value (Operand.func 36), args := #[Operand.tmp 57], argTypes := #[39] }, type := 39, pos := "laws.go:517", after := #[{ on := 12, ground := Ground.data }, { on := 11, ground := Ground.chain }, { on := 9, ground := Ground.guard }], guard := some (9, true) } : Oper)) rfl (fun K hK => ?_) AllReadyH.nil
    go_simp
    (go_at_call 36; refine (impl_StepMachine (HMZ.out.below bZ12.out)).mono ?_; rintro e w13 ⟨v13, rfl, o13, hb13⟩; (have S13 := Lib.hid (twoBelow hb13 S12.out)); (have bZ13 : Hid (Below Z.heap.size Z w13) := bZ12.out.trans (hb13.mono bZ12.out.size)); (have o12b := Lib.hid (o12.mach.below hb13)))
    (try go_wp2_with fail)
    refine hK.out _ _ (S13.out) (fun hT => ?_)
    clear hK K hS
    have hS := hT
    clear hT
    try dsimp only at hS
    (try simp only [Act.put, List.setIfInBounds_toArray, List.set_cons_zero, List.set_cons_succ])
    refine wpAnyH_ready (rs := [14]) (by kernel_rfl) (by simp) ?_
    refine AllReadyH.cons (o := ({ dst := some 59, op := Op.call { callee := Callee.value (Operand.func 37), args := #[Operand.tmp 56, Operand.tmp 58], argTypes := #[39, 39] }, type := 4, pos := "laws.go:517", after := #[{ on := 11, ground := Ground.data }, { on := 13, ground := Ground.data }, { on := 13, ground := Ground.chain }, { on := 9, ground := Ground.guard }], guard := some (9, true) } : Oper)) rfl (fun K hK => ?_) AllReadyH.nil
    go_simp
    (go_at_call 37; refine (laws_sameMachine o12b.out o13.mach).mono ?_; rintro e w14 ⟨rfl, hb14⟩; (have S14 := Lib.hid (twoBelow hb14 S13.out)); (have bZ14 : Hid (Below Z.heap.size Z w14) := bZ13.out.trans (hb14.mono bZ13.out.size)))
    (try go_wp2_with fail)
    refine hK.out _ _ (S14.out) (fun hT => ?_)
    clear hK K hS
    have hS := hT
    clear hT
    try dsimp only at hS
    (try simp only [Act.put, List.setIfInBounds_toArray, List.set_cons_zero, List.set_cons_succ])
    refine wpAnyH_take (i := 15) (oi := ({ dst := some 60, op := Op.pick (Operand.tmp 54) (Operand.tmp 59) (Operand.const (Value.bool false)), type := 4, pos := "laws.go:517", after := #[{ on := 9, ground := Ground.data }, { on := 14, ground := Ground.data }], guard := none } : Oper)) (v := ?_) rfl (by kernel_rfl) (by kernel_rfl) (by kernel_rfl) (fun _ _ _ h => h) (Or.inl ⟨by rfl, ?_⟩) hS ?_
    rotate_left
    · intro wq hSw; (try dsimp only at hSw); obtain ⟨⟨s0, s1, s2, s3, s4, s5, s6, s7, s8, _⟩, ⟨t0, t1, t2, t3, t4, t5, t6, t7, t8, _⟩⟩ := hSw; go_simp; (try with_reducible rfl)
    (try simp only [Act.put, List.setIfInBounds_toArray, List.set_cons_zero, List.set_cons_succ])
    refine wpAnyH_take (i := 16) (oi := ({ dst := some 61, op := Op.move (Operand.tmp 60), type := 4, pos := "laws.go:517", after := #[{ on := 15, ground := Ground.data }, { on := 14, ground := Ground.chain }], guard := none } : Oper)) (v := ?_) rfl (by kernel_rfl) (by kernel_rfl) (by kernel_rfl) (fun _ _ _ h => h) (Or.inl ⟨by rfl, ?_⟩) hS ?_
    rotate_left
    · intro wq hSw; (try dsimp only at hSw); obtain ⟨⟨s0, s1, s2, s3, s4, s5, s6, s7, s8, _⟩, ⟨t0, t1, t2, t3, t4, t5, t6, t7, t8, _⟩⟩ := hSw; go_simp; (try with_reducible rfl)
    (try simp only [Act.put, List.setIfInBounds_toArray, List.set_cons_zero, List.set_cons_succ])
    refine wpAnyH_take (i := 17) (oi := ({ dst := some 62, op := Op.load 39 (Operand.tmp 3), type := 39, pos := "laws.go:517", after := #[{ on := 16, ground := Ground.guard }], guard := some (16, true) } : Oper)) (v := ?_) rfl (by kernel_rfl) (by kernel_rfl) (by kernel_rfl) (fun _ _ _ h => h) (Or.inl ⟨by rfl, ?_⟩) hS ?_
    rotate_left
    · intro wq hSw; (try dsimp only at hSw); obtain ⟨⟨s0, s1, s2, s3, s4, s5, s6, s7, s8, _⟩, ⟨t0, t1, t2, t3, t4, t5, t6, t7, t8, _⟩⟩ := hSw; go_simp; (try with_reducible rfl)
    (try simp only [Act.put, List.setIfInBounds_toArray, List.set_cons_zero, List.set_cons_succ])
    refine wpAnyH_take (i := 19) (oi := ({ dst := some 64, op := Op.load 39 (Operand.tmp 3), type := 39, pos := "laws.go:517", after := #[{ on := 16, ground := Ground.guard }], guard := some (16, true) } : Oper)) (v := ?_) rfl (by kernel_rfl) (by kernel_rfl) (by kernel_rfl) (fun _ _ _ h => h) (Or.inl ⟨by rfl, ?_⟩) hS ?_
    rotate_left
    · intro wq hSw; (try dsimp only at hSw); obtain ⟨⟨s0, s1, s2, s3, s4, s5, s6, s7, s8, _⟩, ⟨t0, t1, t2, t3, t4, t5, t6, t7, t8, _⟩⟩ := hSw; go_simp; (try with_reducible rfl)
    (try simp only [Act.put, List.setIfInBounds_toArray, List.set_cons_zero, List.set_cons_succ])
    refine wpAnyH_ready (rs := [18]) (by kernel_rfl) (by simp) ?_
    refine AllReadyH.cons (o := ({ dst := some 63, op := Op.call { callee := Callee.value (Operand.func 41), args := #[Operand.tmp 62, Operand.const (Value.int IntKind.i64 0)], argTypes := #[39, 3] }, type := 39, pos := "laws.go:517", after := #[{ on := 17, ground := Ground.data }, { on := 16, ground := Ground.chain }, { on := 16, ground := Ground.guard }], guard := some (16, true) } : Oper)) rfl (fun K hK => ?_) AllReadyH.nil
    go_simp
    (go_at_call 41; refine (calls_mach (impl_RunMachine 0 (HMZ.out.below bZ14.out)) E0.out).mono ?_; rintro e w15 ⟨v15, rfl, o15, hb15⟩; (have S15 := Lib.hid (twoBelow hb15 S14.out)); (have bZ15 : Hid (Below Z.heap.size Z w15) := bZ14.out.trans (hb15.mono bZ14.out.size)))
    (try go_wp2_with fail)
    refine hK.out _ _ (S15.out) (fun hT => ?_)
    clear hK K hS
    have hS := hT
    clear hT
    try dsimp only at hS
    (try simp only [Act.put, List.setIfInBounds_toArray, List.set_cons_zero, List.set_cons_succ])
    refine wpAnyH_ready (rs := [20]) (by kernel_rfl) (by simp) ?_
    refine AllReadyH.cons (o := ({ dst := some 65, op := Op.call { callee := Callee.value (Operand.func 37), args := #[Operand.tmp 63, Operand.tmp 64], argTypes := #[39, 39] }, type := 4, pos := "laws.go:517", after := #[{ on := 18, ground := Ground.data }, { on := 19, ground := Ground.data }, { on := 18, ground := Ground.chain }, { on := 16, ground := Ground.guard }], guard := some (16, true) } : Oper)) rfl (fun K hK => ?_) AllReadyH.nil
    go_simp
    (go_at_call 37; refine (laws_sameMachine o15.mach (HMZ.out.below bZ15.out)).mono ?_; rintro e w16 ⟨rfl, hb16⟩; (have S16 := Lib.hid (twoBelow hb16 S15.out)); (have bZ16 : Hid (Below Z.heap.size Z w16) := bZ15.out.trans (hb16.mono bZ15.out.size)))
    (try go_wp2_with fail)
    refine hK.out _ _ (S16.out) (fun hT => ?_)
    clear hK K hS
    have hS := hT
    clear hT
    try dsimp only at hS
    (try simp only [Act.put, List.setIfInBounds_toArray, List.set_cons_zero, List.set_cons_succ])
    refine wpAnyH_take (i := 21) (oi := ({ dst := some 66, op := Op.pick (Operand.tmp 61) (Operand.tmp 65) (Operand.const (Value.bool false)), type := 4, pos := "laws.go:517", after := #[{ on := 16, ground := Ground.data }, { on := 20, ground := Ground.data }], guard := none } : Oper)) (v := ?_) rfl (by kernel_rfl) (by kernel_rfl) (by kernel_rfl) (fun _ _ _ h => h) (Or.inl ⟨by rfl, ?_⟩) hS ?_
    rotate_left
    · intro wq hSw; (try dsimp only at hSw); obtain ⟨⟨s0, s1, s2, s3, s4, s5, s6, s7, s8, _⟩, ⟨t0, t1, t2, t3, t4, t5, t6, t7, t8, _⟩⟩ := hSw; go_simp; (try with_reducible rfl)
    (try simp only [Act.put, List.setIfInBounds_toArray, List.set_cons_zero, List.set_cons_succ])
    refine wpAnyH_take (i := 22) (oi := ({ dst := some 2, op := Op.assign (Operand.tmp 66), type := 4, pos := "laws.go:517", after := #[{ on := 21, ground := Ground.data }, { on := 20, ground := Ground.chain }, { on := 0, ground := Ground.phase }, { on := 1, ground := Ground.phase }, { on := 2, ground := Ground.phase }, { on := 3, ground := Ground.phase }, { on := 4, ground := Ground.phase }, { on := 5, ground := Ground.phase }, { on := 6, ground := Ground.phase }, { on := 7, ground := Ground.phase }, { on := 8, ground := Ground.phase }, { on := 9, ground := Ground.phase }, { on := 10, ground := Ground.phase }, { on := 11, ground := Ground.phase }, { on := 12, ground := Ground.phase }, { on := 13, ground := Ground.phase }, { on := 14, ground := Ground.phase }, { on := 15, ground := Ground.phase }, { on := 16, ground := Ground.phase }, { on := 17, ground := Ground.phase }, { on := 18, ground := Ground.phase }, { on := 19, ground := Ground.phase }, { on := 20, ground := Ground.phase }, { on := 21, ground := Ground.phase }], guard := none } : Oper)) (v := ?_) rfl (by kernel_rfl) (by kernel_rfl) (by kernel_rfl) (fun _ _ _ h => h) (Or.inl ⟨by rfl, ?_⟩) hS ?_
    rotate_left
    · intro wq hSw; (try dsimp only at hSw); obtain ⟨⟨s0, s1, s2, s3, s4, s5, s6, s7, s8, _⟩, ⟨t0, t1, t2, t3, t4, t5, t6, t7, t8, _⟩⟩ := hSw; go_simp; (try with_reducible rfl)
    (try simp only [Act.put, List.setIfInBounds_toArray, List.set_cons_zero, List.set_cons_succ])
    refine wpAnyH_done (by kernel_rfl) ?_ _
    go_wp2_with fail
    go_ret
    exact ⟨rfl, hBZ.out.trans (bZ16.out.mono hBZ.out.size)⟩
set_option maxRecDepth 100000 in
theorem lifted_FnRunMachine (os : Os) (started : os.Started) (H : Type) (enc : TypeId × Value → H) :
    ReturnsInHanded {} Try.checked os 9 .any (Rows.fnRunMachineSpec.pre6 enc Try.prog Try.f9 Rows.fnRunMachineRow.domain false) (Rows.fnRunMachineSpec.post enc Try.prog Try.f9 false true false false) := by
  refine returnsInHanded_of_change (C := Try.checked) own started (by kernel_rfl) Try.func9
    (ChangeSpec.witness6 (enc := enc) (C := Try.checked) false ⟨#[], #[.slice none 0 0], []⟩ 8 (by kernel_rfl) (by kernel_rfl) (by kernel_rfl) (by kernel_rfl)) ?_
  intro W base args ds gs before hval0 hW hcnd _
  have hval : ∀ (j : Nat) t v, Try.f9.params[j]? = some t → args[j]? = some v → Value.okWide Try.prog W .any base t v := hval0
  have hW' := hW
  obtain ⟨p, q, hA0, hV, rfl, hfz, hnd⟩ := hW
  have hA : DataW.TrodAll enc Try.prog W 0 (fun _ => true) true Try.f9.params.toList args.toList ds p := hA0
  rw [Try.params9] at hA hval
  obtain ⟨v0, vs0, d0, ds0, p0, q0, hargs, rfl, rfl, h0, r0⟩ := trodAll_cons hA
  obtain ⟨rfl, rfl, rfl⟩ := trodAll_nil r0
  obtain rfl : args = #[v0] := by cases args; simp_all
  obtain ⟨rfl, rfl⟩ := trodVars_none hV
  have lt0 : ∀ x ∈ p0, x.block < W.heap.size := by obtain ⟨m, hm⟩ := h0; exact DataW.trod_lt m _ _ _ hm
  have y0 := read_bytes (hval 0 22 v0 rfl rfl) h0
  clear hA0 hval0
  refine (walk_FnRunMachine v0 W y0).mono fun e W' ⟨he, bel⟩ => ?_
  subst he
  exact ⟨_, rfl, _, _, _, [], _, [], hW', trodAll_mk1 (shut_bool Try.underlying4 _), (trodAll_cons_mk (Below.trod laidOut (by kernel_rfl) (of_decide_eq_true (by kernel_rfl)) h0 bel lt0) trodAll_mk0), rfl, bel.frame _, fun h => by cases h⟩
theorem closed_FnRunMachine : joinedFacts Try.prog 9 Try.f9 Rows.fnRunMachineSpec Rows.fnRunMachineRow = true := by
  unfold joinedFacts
  rw [shared.1, shared.2.1, shared.2.2.1, shared.2.2.2]
  kernel_rfl
/-- The given statement of FnRunMachine. -/
theorem FnRunMachine_holds : Rows.FnRunMachineSaid :=
  OpenClaim.holds_of_wide 9 Try.f9 rfl rfl rfl rfl rfl rfl rfl ⟨rfl, rfl, rfl, rfl, rfl⟩ rfl rfl rfl rfl rfl (by kernel_rfl) Try.func9 closed_FnRunMachine
    (of_decide_eq_true (by kernel_rfl)) (by unfold Func.isWrapper; first | (rw [if_pos (by decide +kernel)]; kernel_rfl) | (rw [if_neg (by decide +kernel)]; exact ⟨rfl, rfl⟩))
    (fun os started H enc _ => lifted_FnRunMachine os started H enc)

end Go.Proofs.Ytkkgolgmhckgoaa
end
