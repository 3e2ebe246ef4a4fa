/- The law FnStepMachine: for every input it answers true, and changes nothing that was there (with the drawn machines that it uses ahead of it). No condition. -/
import Derived.Test.YtkkgolgmhckgoaaDrawMach
import Derived.Test.YtkkgolgmhckgoaaDrawMems
import Derived.Test.YtkkgolgmhckgoaaMerge
import Derived.Test.YtkkgolgmhckgoaaMachFns
import Derived.Test.YtkkgolgmhckgoaaDrawByte
import Derived.Test.YtkkgolgmhckgoaaMachA
import Derived.Test.YtkkgolgmhckgoaaMemRead
import Derived.Test.YtkkgolgmhckgoaaCellsN
import Derived.Deep.RegionHeld3
import Derived.Deep.RegionWith
import Derived.Deep.DrawnRows
import Derived.Test.YtkkgolgmhckgoaaMachB
section
/- The drawn machines, whole, and with a number. No condition. -/
namespace Go.Proofs.Ytkkgolgmhckgoaa
open Go.RowKit
set_option linter.unusedVariables false
set_option linter.unusedSimpArgs false
attribute [local go_sem ↓] Go.wp_at_zero Go.wp_at_succ

def DrawnMach (w : World) (e : Ending) (w' : World) : Prop := ∃ v m, e = .returned v ∧ MachV w' v m ∧ m.ram.length ≤ 256 ∧ Below w.heap.size w w'
def DrawnMach1 (w : World) (e : Ending) (w' : World) : Prop := ∃ v m x, e = .returned (.tuple #[v, .int .i64 x]) ∧ MachV w' v m ∧ m.ram.length ≤ 256 ∧ Below w.heap.size w w'
theorem readerNine {W : World} {rb B b : Nat} (h : Reader W rb B) (n : Nine W b (.slice none 0 0) (.slice none 0 0) (.int .i64 0) (.int .i64 0) (.int .i64 0) (.bool false) (.slice none 0 0) (.bool false) (.int .i64 0)) (hb : b ≠ rb) (y0 y1 y2 y3 y4 y5 y6 y7 y8 : Value) : Reader (((((((((W.setCell ⟨b, 0, none⟩ y0).setCell ⟨b, 1, none⟩ y1).setCell ⟨b, 2, none⟩ y2).setCell ⟨b, 3, none⟩ y3).setCell ⟨b, 4, none⟩ y4).setCell ⟨b, 5, none⟩ y5).setCell ⟨b, 6, none⟩ y6).setCell ⟨b, 7, none⟩ y7).setCell ⟨b, 8, none⟩ y8) rb B := by
  have h0 := h.setOld n.c0 (by intro k; simp) hb y0
  have n0 := n.set0 y0
  have h1 := h0.setOld n0.c1 (by intro k; simp) hb y1
  have n1 := n0.set1 y1
  have h2 := h1.setOld n1.c2 (by intro k; simp) hb y2
  have n2 := n1.set2 y2
  have h3 := h2.setOld n2.c3 (by intro k; simp) hb y3
  have n3 := n2.set3 y3
  have h4 := h3.setOld n3.c4 (by intro k; simp) hb y4
  have n4 := n3.set4 y4
  have h5 := h4.setOld n4.c5 (by intro k; simp) hb y5
  have n5 := n4.set5 y5
  have h6 := h5.setOld n5.c6 (by intro k; simp) hb y6
  have n6 := n5.set6 y6
  have h7 := h6.setOld n6.c7 (by intro k; simp) hb y7
  have n7 := n6.set7 y7
  exact h7.setOld n7.c8 (by intro k; simp) hb y8
/-- A draw that holds a machine (in the box n1) and has not ended: its result's box is block w.heap.size. -/
structure MidM (w : World) (L rb n1 B : Nat) (v x0 x1 x2 x3 x4 x5 x6 x7 x8 y0 y1 y2 y3 y4 y5 y6 y7 y8 : Value) (m : Mach) (W : World) : Prop where
  mach : MachA L W v m
  bel : Below w.heap.size w W
  nine : Nine W n1 x0 x1 x2 x3 x4 x5 x6 x7 x8
  rd : Reader W rb B
  box : Nine W w.heap.size y0 y1 y2 y3 y4 y5 y6 y7 y8
  l1 : w.heap.size < rb
  l2 : rb < L
  l3 : rb < n1
section
variable {w W W' : World} {L rb n1 B B' : Nat} {v x0 x1 x2 x3 x4 x5 x6 x7 x8 y0 y1 y2 y3 y4 y5 y6 y7 y8 : Value} {m : Mach}
theorem MidM.keep (h : MidM w L rb n1 B v x0 x1 x2 x3 x4 x5 x6 x7 x8 y0 y1 y2 y3 y4 y5 y6 y7 y8 m W) (hK : Keep rb W W') (hR : Reader W' rb B') : MidM w L rb n1 B' v x0 x1 x2 x3 x4 x5 x6 x7 x8 y0 y1 y2 y3 y4 y5 y6 y7 y8 m W' := by
  obtain ⟨ma, b, s, r, bx, l1, l2, l3⟩ := h
  exact ⟨ma.keep hK l2, hK.below b (Nat.le_of_lt l1), s.keep hK (by omega), hR, bx.keep hK (by omega), l1, l2, l3⟩
theorem MidM.drew (h : MidM w L rb n1 B v x0 x1 x2 x3 x4 x5 x6 x7 x8 y0 y1 y2 y3 y4 y5 y6 y7 y8 m W) : MidM w L rb n1 B v x0 x1 x2 x3 x4 x5 x6 x7 x8 y0 y1 y2 y3 y4 y5 y6 y7 y8 m W.drew := h.keep (Keep.refl _ _).drew h.rd.drewM
theorem MidM.alloc (h : MidM w L rb n1 B v x0 x1 x2 x3 x4 x5 x6 x7 x8 y0 y1 y2 y3 y4 y5 y6 y7 y8 m W) (o : Obj) : MidM w L rb n1 B v x0 x1 x2 x3 x4 x5 x6 x7 x8 y0 y1 y2 y3 y4 y5 y6 y7 y8 m (W.alloc o) := h.keep ((Keep.refl _ _).alloc o) (h.rd.alloc o)
theorem MidM.setBox (h : MidM w L rb n1 B v x0 x1 x2 x3 x4 x5 x6 x7 x8 (.slice none 0 0) (.slice none 0 0) (.int .i64 0) (.int .i64 0) (.int .i64 0) (.bool false) (.slice none 0 0) (.bool false) (.int .i64 0) m W) (z0 z1 z2 z3 z4 z5 z6 z7 z8 : Value) : MidM w L rb n1 B v x0 x1 x2 x3 x4 x5 x6 x7 x8 z0 z1 z2 z3 z4 z5 z6 z7 z8 m (((((((((W.setCell ⟨w.heap.size, 0, none⟩ z0).setCell ⟨w.heap.size, 1, none⟩ z1).setCell ⟨w.heap.size, 2, none⟩ z2).setCell ⟨w.heap.size, 3, none⟩ z3).setCell ⟨w.heap.size, 4, none⟩ z4).setCell ⟨w.heap.size, 5, none⟩ z5).setCell ⟨w.heap.size, 6, none⟩ z6).setCell ⟨w.heap.size, 7, none⟩ z7).setCell ⟨w.heap.size, 8, none⟩ z8) := by
  obtain ⟨ma, b, s, r, bx, l1, l2, l3⟩ := h
  have hL : w.heap.size < L := by omega
  have hN : n1 ≠ w.heap.size := by omega
  refine ⟨(((((((((ma.set (p := ⟨w.heap.size, 0, none⟩) hL _).set (p := ⟨w.heap.size, 1, none⟩) hL _).set (p := ⟨w.heap.size, 2, none⟩) hL _).set (p := ⟨w.heap.size, 3, none⟩) hL _).set (p := ⟨w.heap.size, 4, none⟩) hL _).set (p := ⟨w.heap.size, 5, none⟩) hL _).set (p := ⟨w.heap.size, 6, none⟩) hL _).set (p := ⟨w.heap.size, 7, none⟩) hL _).set (p := ⟨w.heap.size, 8, none⟩) hL _), (((((((((b.setCell (p := ⟨w.heap.size, 0, none⟩) (Nat.le_refl _) _).setCell (p := ⟨w.heap.size, 1, none⟩) (Nat.le_refl _) _).setCell (p := ⟨w.heap.size, 2, none⟩) (Nat.le_refl _) _).setCell (p := ⟨w.heap.size, 3, none⟩) (Nat.le_refl _) _).setCell (p := ⟨w.heap.size, 4, none⟩) (Nat.le_refl _) _).setCell (p := ⟨w.heap.size, 5, none⟩) (Nat.le_refl _) _).setCell (p := ⟨w.heap.size, 6, none⟩) (Nat.le_refl _) _).setCell (p := ⟨w.heap.size, 7, none⟩) (Nat.le_refl _) _).setCell (p := ⟨w.heap.size, 8, none⟩) (Nat.le_refl _) _), (Nine.other (Nine.other (Nine.other (Nine.other (Nine.other (Nine.other (Nine.other (Nine.other (Nine.other s (i := 0) hN _) (i := 1) hN _) (i := 2) hN _) (i := 3) hN _) (i := 4) hN _) (i := 5) hN _) (i := 6) hN _) (i := 7) hN _) (i := 8) hN _), readerNine r bx (by omega) _ _ _ _ _ _ _ _ _, nine_set9 bx, l1, l2, l3⟩
end
set_option maxHeartbeats 2000000 in
theorem draw_MachineValid {v : Value} {w : World} (h : IsBytes w v) : Calls Try.prog 20 #[v] w (DrawnMach w) := by
  have H := Lib.hid (h.below ((Below.refl _ _).alloc (Nat.le_refl _) (.cells #[.slice none 0 0, .slice none 0 0, .int .i64 0, .int .i64 0, .int .i64 0, .bool false, .slice none 0 0, .bool false, .int .i64 0] 39)))
  clear h
  go_enter Try.func20, Try.ntmps20
  go_wp2_with fail
  refine (l20Open H.out).mono ?_
  rintro e w0 ⟨rb, rfl, hrb, hR0, hB0⟩
  go_wp2_with fail
  refine (l20Machine _ hR0 (by omega)).mono ?_
  rintro e w1 ⟨v, m, rfl, hm, hr1, hR1, hK1⟩
  obtain ⟨P, Q⟩ := box_thru hB0 hrb hK1
  have hw : w.heap.size < (w.alloc (.cells #[.slice none 0 0, .slice none 0 0, .int .i64 0, .int .i64 0, .int .i64 0, .bool false, .slice none 0 0, .bool false, .int .i64 0] 39)).heap.size := by simp
  have hw0 : w.heap.size < w0.heap.size := Nat.lt_of_lt_of_le hw hB0.size
  have hw1 : w.heap.size < w1.heap.size := Nat.lt_of_lt_of_le hw0 hK1.size
  have hb1 : Below w.heap.size w w1 := hK1.below (((Below.refl _ _).alloc (Nat.le_refl _) _).trans (hB0.mono (by omega))) (by omega)
  have hbx : Nine w1 w.heap.size (.slice none 0 0) (.slice none 0 0) (.int .i64 0) (.int .i64 0) (.int .i64 0) (.bool false) (.slice none 0 0) (.bool false) (.int .i64 0) := by
    have n := nine_lit (W := w) (b := w.heap.size) (e := 39) (x0 := .slice none 0 0) (x1 := .slice none 0 0) (x2 := .int .i64 0) (x3 := .int .i64 0) (x4 := .int .i64 0) (x5 := .bool false) (x6 := .slice none 0 0) (x7 := .bool false) (x8 := .int .i64 0) rfl
    exact ⟨(P 0).trans n.c0, (P 1).trans n.c1, (P 2).trans n.c2, (P 3).trans n.c3, (P 4).trans n.c4, (P 5).trans n.c5, (P 6).trans n.c6, (P 7).trans n.c7, (P 8).trans n.c8, fun i => (Q i).trans (n.fz i)⟩
  obtain ⟨a1, c1, b1, d1, f1, g1, rfl, _, _, _, _, _, _⟩ := machV_shape hm.mach
  have hrL : rb < w0.heap.size := hR0.lt
  have hwr : w.heap.size < rb := by omega
  have hRn : w.heap.size ≠ rb := by omega
  obtain ⟨e0, e1, e2, e3, e4, e5, e6, e7, e8, ef⟩ := id hbx
  have ef0 := ef 0
  have ef1 := ef 1
  have ef2 := ef 2
  have ef3 := ef 3
  have ef4 := ef 4
  have ef5 := ef 5
  have ef6 := ef 6
  have ef7 := ef 7
  have ef8 := ef 8
  clear ef
  have HM := Lib.hid hm
  clear hB0 hrb hR0 hR1 hK1 P Q hm
  go_wp2_with fail
  refine bodyPost_ret (v := .agg #[.slice a1 m.ram.length c1, .slice b1 m.rom.length d1, .int .i64 m.bank, .int .i64 m.a, .int .i64 m.pc, .bool m.carry, .slice f1 m.back.length g1, .bool m.stop, .int .i64 m.cyc]) (by simp [results, Try.results20, go_sem, e0, e1, e2, e3, e4, e5, e6, e7, e8]) rfl ⟨_, m, rfl, ?_, hr1, ?_⟩
  · exact ((((((((((HM.out.set (p := ⟨w.heap.size, 0, none⟩) hw0 _).set (p := ⟨w.heap.size, 1, none⟩) hw0 _).set (p := ⟨w.heap.size, 2, none⟩) hw0 _).set (p := ⟨w.heap.size, 3, none⟩) hw0 _).set (p := ⟨w.heap.size, 4, none⟩) hw0 _).set (p := ⟨w.heap.size, 5, none⟩) hw0 _).set (p := ⟨w.heap.size, 6, none⟩) hw0 _).set (p := ⟨w.heap.size, 7, none⟩) hw0 _).set (p := ⟨w.heap.size, 8, none⟩) hw0 _)).mach
  · exact (((((((((hb1.setCell (p := ⟨w.heap.size, 0, none⟩) (Nat.le_refl _) _).setCell (p := ⟨w.heap.size, 1, none⟩) (Nat.le_refl _) _).setCell (p := ⟨w.heap.size, 2, none⟩) (Nat.le_refl _) _).setCell (p := ⟨w.heap.size, 3, none⟩) (Nat.le_refl _) _).setCell (p := ⟨w.heap.size, 4, none⟩) (Nat.le_refl _) _).setCell (p := ⟨w.heap.size, 5, none⟩) (Nat.le_refl _) _).setCell (p := ⟨w.heap.size, 6, none⟩) (Nat.le_refl _) _).setCell (p := ⟨w.heap.size, 7, none⟩) (Nat.le_refl _) _).setCell (p := ⟨w.heap.size, 8, none⟩) (Nat.le_refl _) _)
set_option maxHeartbeats 2000000 in
theorem draw_StepMachine {v : Value} {w : World} (h : IsBytes w v) : Calls Try.prog 35 #[v] w (DrawnMach w) := by
  have H := Lib.hid (h.below ((Below.refl _ _).alloc (Nat.le_refl _) (.cells #[.slice none 0 0, .slice none 0 0, .int .i64 0, .int .i64 0, .int .i64 0, .bool false, .slice none 0 0, .bool false, .int .i64 0] 39)))
  clear h
  go_enter Try.func35, Try.ntmps35
  go_wp2_with fail
  refine (l20Open H.out).mono ?_
  rintro e w0 ⟨rb, rfl, hrb, hR0, hB0⟩
  go_wp2_with fail
  refine (l20Machine _ hR0 (by omega)).mono ?_
  rintro e w1 ⟨v, m, rfl, hm, hr1, hR1, hK1⟩
  obtain ⟨P, Q⟩ := box_thru hB0 hrb hK1
  have hw : w.heap.size < (w.alloc (.cells #[.slice none 0 0, .slice none 0 0, .int .i64 0, .int .i64 0, .int .i64 0, .bool false, .slice none 0 0, .bool false, .int .i64 0] 39)).heap.size := by simp
  have hw0 : w.heap.size < w0.heap.size := Nat.lt_of_lt_of_le hw hB0.size
  have hw1 : w.heap.size < w1.heap.size := Nat.lt_of_lt_of_le hw0 hK1.size
  have hb1 : Below w.heap.size w w1 := hK1.below (((Below.refl _ _).alloc (Nat.le_refl _) _).trans (hB0.mono (by omega))) (by omega)
  have hbx : Nine w1 w.heap.size (.slice none 0 0) (.slice none 0 0) (.int .i64 0) (.int .i64 0) (.int .i64 0) (.bool false) (.slice none 0 0) (.bool false) (.int .i64 0) := by
    have n := nine_lit (W := w) (b := w.heap.size) (e := 39) (x0 := .slice none 0 0) (x1 := .slice none 0 0) (x2 := .int .i64 0) (x3 := .int .i64 0) (x4 := .int .i64 0) (x5 := .bool false) (x6 := .slice none 0 0) (x7 := .bool false) (x8 := .int .i64 0) rfl
    exact ⟨(P 0).trans n.c0, (P 1).trans n.c1, (P 2).trans n.c2, (P 3).trans n.c3, (P 4).trans n.c4, (P 5).trans n.c5, (P 6).trans n.c6, (P 7).trans n.c7, (P 8).trans n.c8, fun i => (Q i).trans (n.fz i)⟩
  obtain ⟨a1, c1, b1, d1, f1, g1, rfl, _, _, _, _, _, _⟩ := machV_shape hm.mach
  have hrL : rb < w0.heap.size := hR0.lt
  have hwr : w.heap.size < rb := by omega
  have hRn : w.heap.size ≠ rb := by omega
  obtain ⟨e0, e1, e2, e3, e4, e5, e6, e7, e8, ef⟩ := id hbx
  have ef0 := ef 0
  have ef1 := ef 1
  have ef2 := ef 2
  have ef3 := ef 3
  have ef4 := ef 4
  have ef5 := ef 5
  have ef6 := ef 6
  have ef7 := ef 7
  have ef8 := ef 8
  clear ef
  have HM := Lib.hid hm
  clear hB0 hrb hR0 hR1 hK1 P Q hm
  go_wp2_with fail
  refine bodyPost_ret (v := .agg #[.slice a1 m.ram.length c1, .slice b1 m.rom.length d1, .int .i64 m.bank, .int .i64 m.a, .int .i64 m.pc, .bool m.carry, .slice f1 m.back.length g1, .bool m.stop, .int .i64 m.cyc]) (by simp [results, Try.results35, go_sem, e0, e1, e2, e3, e4, e5, e6, e7, e8]) rfl ⟨_, m, rfl, ?_, hr1, ?_⟩
  · exact ((((((((((HM.out.set (p := ⟨w.heap.size, 0, none⟩) hw0 _).set (p := ⟨w.heap.size, 1, none⟩) hw0 _).set (p := ⟨w.heap.size, 2, none⟩) hw0 _).set (p := ⟨w.heap.size, 3, none⟩) hw0 _).set (p := ⟨w.heap.size, 4, none⟩) hw0 _).set (p := ⟨w.heap.size, 5, none⟩) hw0 _).set (p := ⟨w.heap.size, 6, none⟩) hw0 _).set (p := ⟨w.heap.size, 7, none⟩) hw0 _).set (p := ⟨w.heap.size, 8, none⟩) hw0 _)).mach
  · exact (((((((((hb1.setCell (p := ⟨w.heap.size, 0, none⟩) (Nat.le_refl _) _).setCell (p := ⟨w.heap.size, 1, none⟩) (Nat.le_refl _) _).setCell (p := ⟨w.heap.size, 2, none⟩) (Nat.le_refl _) _).setCell (p := ⟨w.heap.size, 3, none⟩) (Nat.le_refl _) _).setCell (p := ⟨w.heap.size, 4, none⟩) (Nat.le_refl _) _).setCell (p := ⟨w.heap.size, 5, none⟩) (Nat.le_refl _) _).setCell (p := ⟨w.heap.size, 6, none⟩) (Nat.le_refl _) _).setCell (p := ⟨w.heap.size, 7, none⟩) (Nat.le_refl _) _).setCell (p := ⟨w.heap.size, 8, none⟩) (Nat.le_refl _) _)
end Go.Proofs.Ytkkgolgmhckgoaa
end

section
/- The law FnStepMachine: for every input it answers true, and changes nothing that was there. No condition. -/
namespace Go.Proofs.Ytkkgolgmhckgoaa
open Go.ChangeShapes Go.WideShapes Go.ChangeAt Go.RowKit
set_option linter.unusedVariables false
attribute [local go_sem ↓] Go.wp_at_zero Go.wp_at_succ
theorem nineBelow {W W' : World} {b : Nat} {x0 x1 x2 x3 x4 x5 x6 x7 x8 : Value} (h : Nine W b x0 x1 x2 x3 x4 x5 x6 x7 x8) (hb : Below W.heap.size W W') : Nine W' b x0 x1 x2 x3 x4 x5 x6 x7 x8 := h.keep (rb := b + 1) (Keep.ofBelow hb) (by omega)

theorem twoBelow {W W' : World} {b c : Nat} {x0 x1 x2 x3 x4 x5 x6 x7 x8 y0 y1 y2 y3 y4 y5 y6 y7 y8 : Value} (hb : Below W.heap.size W W') (h : Nine W b x0 x1 x2 x3 x4 x5 x6 x7 x8 ∧ Nine W c y0 y1 y2 y3 y4 y5 y6 y7 y8) : Nine W' b x0 x1 x2 x3 x4 x5 x6 x7 x8 ∧ Nine W' c y0 y1 y2 y3 y4 y5 y6 y7 y8 := ⟨nineBelow h.1 hb, nineBelow h.2 hb⟩
theorem twoDrew {W : World} {b c : Nat} {x0 x1 x2 x3 x4 x5 x6 x7 x8 y0 y1 y2 y3 y4 y5 y6 y7 y8 : Value} (h : Nine W b x0 x1 x2 x3 x4 x5 x6 x7 x8 ∧ Nine W c y0 y1 y2 y3 y4 y5 y6 y7 y8) : Nine W.drew b x0 x1 x2 x3 x4 x5 x6 x7 x8 ∧ Nine W.drew c y0 y1 y2 y3 y4 y5 y6 y7 y8 := ⟨h.1.drew, h.2.drew⟩

theorem calls_int {P : Program} {f : FuncId} {args : Array Value} {w : World} {b b' : Int} {R : World → Prop} (h : Calls P f args w fun e w' => e = .returned (.int .i64 b) ∧ R w') (hb : b = b') : Calls P f args w fun e w' => e = .returned (.int .i64 b') ∧ R w' := hb ▸ h
theorem calls_mach {P : Program} {f : FuncId} {args : Array Value} {w : World} {m m' : Mach} (h : Calls P f args w (MadeMach m w)) (e : m = m') : Calls P f args w (MadeMach m' w) := e ▸ h
theorem ints_all {w : World} {a : Option Addr} {n c : Nat} {zs : List Int} (h : Ints w (.slice a n c) zs) (hk : 0 < zs.length) : ∃ b off, a = some ⟨b, off, none⟩ ∧ ∀ i, i < zs.length → w.cell? ⟨b, off + i, none⟩ = some (.int .i64 (zs.getD i 0)) := by
  obtain ⟨a', c', e, h1, h2, h3⟩ := h
  injection e with e1 e2 e3
  subst e1 e2 e3
  rcases h3 with h0 | ⟨b, off, rfl, hc⟩
  · rw [h0] at hk; simp at hk
  · exact ⟨b, off, rfl, hc⟩
theorem sameInts_yes {v u : Value} {xs : List Int} {w : World} (h : Ints w v xs) (g : Ints w u xs) : Calls Try.prog 18 #[v, u] w fun e w' => e = .returned (.bool true) ∧ Below w.heap.size w w' :=
  (laws_sameInts h g).mono fun _ _ ⟨he, q⟩ => ⟨by rw [he]; simp, q.below⟩
theorem sameRows_yes {v u : Value} {xs : List (List Int)} {w : World} (h : Mat w v xs) (g : Mat w u xs) : Calls Try.prog 34 #[v, u] w fun e w' => e = .returned (.bool true) ∧ Below w.heap.size w w' :=
  (sameRows_b h g).mono fun _ _ ⟨he, q⟩ => ⟨by rw [he]; simp, q⟩
theorem laws_abs (n : Int) (h : -1 ≤ n ∧ n ≤ 1) (w : World) : Calls Try.prog 39 #[.int .i64 n] w fun e w' => (∃ r : Int, e = .returned (.int .i64 r) ∧ r ≤ 1) ∧ w = w' := by
  by_cases h0 : n < 0
  · have hn : n = -1 := by omega
    subst hn
    go_enter Try.func39, Try.ntmps39
    go_wp2
    go_ret
    exact ⟨⟨1, rfl, by omega⟩, rfl⟩
  · have h0' : 0 ≤ n := by omega
    go_enter Try.func39, Try.ntmps39
    go_wp2
    go_ret
    exact ⟨⟨n, rfl, h.2⟩, rfl⟩
/-- How many of the first k numbers differ. -/
def cntD (xs ys : List Int) : Nat → Nat
  | 0 => 0
  | k + 1 => cntD xs ys k + if xs.getD k 0 = ys.getD k 0 then 0 else 1
theorem cntD_le (xs ys : List Int) (k : Nat) : cntD xs ys k ≤ k := by
  induction k with
  | zero => exact Nat.le_refl _
  | succ k ih => simp only [cntD]; split <;> omega
theorem cntD_self (xs : List Int) (k : Nat) : cntD xs xs k = 0 := by
  induction k with
  | zero => rfl
  | succ k ih => simp [cntD, ih]
theorem cntD_set (xs : List Int) (j : Nat) (x : Int) (k : Nat) : cntD (xs.set j x) xs k ≤ if j < k then 1 else 0 := by
  induction k with
  | zero => simp [cntD]
  | succ k ih =>
    simp only [cntD]
    by_cases h : j = k
    · subst h
      rw [if_neg (show ¬ j < j by omega)] at ih
      rw [if_pos (show j < j + 1 by omega)]
      split <;> omega
    · have e : (xs.set j x).getD k 0 = xs.getD k 0 := by rw [List.getD_eq_getElem?_getD, List.getD_eq_getElem?_getD, List.getElem?_set_ne h]
      rw [if_pos e]
      by_cases h2 : j < k
      · rw [if_pos h2] at ih; rw [if_pos (show j < k + 1 by omega)]; omega
      · rw [if_neg h2] at ih; rw [if_neg (show ¬ j < k + 1 by omega)]; omega
theorem goes_same (m : Mach) (op arg : Int) : (m.goes op arg).ram = m.ram ∧ (m.goes op arg).rom = m.rom ∧ (m.goes op arg).cyc = m.cyc ∧ ((m.goes op arg).back.length : Int) - m.back.length ≤ 1 ∧ -1 ≤ ((m.goes op arg).back.length : Int) - m.back.length := by
  unfold Mach.goes
  split
  · exact ⟨rfl, rfl, rfl, by simp, by simp⟩
  split
  · split <;> exact ⟨rfl, rfl, rfl, by simp, by simp⟩
  split
  · split <;> exact ⟨rfl, rfl, rfl, by simp, by simp⟩
  split
  · split
    · exact ⟨rfl, rfl, rfl, by simp, by simp⟩
    · refine ⟨rfl, rfl, rfl, ?_, ?_⟩ <;> simp only [List.length_append, List.length_singleton] <;> omega
  split
  · split
    · exact ⟨rfl, rfl, rfl, by simp, by simp⟩
    · refine ⟨rfl, rfl, rfl, ?_, ?_⟩ <;> simp only [List.length_take] <;> omega
  split
  · exact ⟨rfl, rfl, rfl, by simp, by simp⟩
  · exact ⟨rfl, rfl, rfl, by simp, by simp⟩
theorem exec_same (m : Mach) (op arg : Int) : (op = 3 ∧ (m.exec op arg).ram = pokeR m.ram arg m.a ∨ (m.exec op arg).ram = m.ram) ∧ (m.exec op arg).rom = m.rom ∧ (m.exec op arg).cyc = m.cyc ∧ ((m.exec op arg).back.length : Int) - m.back.length ≤ 1 ∧ -1 ≤ ((m.exec op arg).back.length : Int) - m.back.length := by
  unfold Mach.exec
  split
  · exact ⟨.inr rfl, rfl, rfl, by simp, by simp⟩
  split
  · exact ⟨.inr rfl, rfl, rfl, by simp, by simp⟩
  split
  · rename_i h; exact ⟨.inl ⟨h, rfl⟩, rfl, rfl, by simp, by simp⟩
  split
  · exact ⟨.inr rfl, rfl, rfl, by simp, by simp⟩
  split
  · exact ⟨.inr rfl, rfl, rfl, by simp, by simp⟩
  split
  · exact ⟨.inr rfl, rfl, rfl, by simp, by simp⟩
  split
  · exact ⟨.inr rfl, rfl, rfl, by simp, by simp⟩
  split
  · exact ⟨.inr rfl, rfl, rfl, by simp, by simp⟩
  split
  · exact ⟨.inr rfl, rfl, rfl, by simp, by simp⟩
  · obtain ⟨h1, h2, h3, h4, h5⟩ := goes_same m op arg
    exact ⟨.inr h1, h2, h3, h4, h5⟩
/-- A step changes little. -/
theorem step_little (m : Mach) : (cntD m.step.ram m.ram 256 = 0 ∨ cntD m.step.ram m.ram 256 = 1 ∧ m.peek m.pc = 3) ∧ m.step.rom = m.rom ∧ m.cyc ≤ m.step.cyc ∧ m.step.cyc ≤ m.cyc + 3 ∧ (m.step.back.length : Int) - m.back.length ≤ 1 ∧ -1 ≤ (m.step.back.length : Int) - m.back.length := by
  unfold Mach.step
  split
  · exact ⟨.inl (cntD_self _ _), rfl, by omega, by omega, by simp, by simp⟩
  split
  · obtain ⟨h1, h2, h3, h4, h5⟩ := exec_same (m.ahead (olen (dOp m.fetch 0))) (dOp m.fetch 0) (dArg m.fetch 0)
    have hb := olen_bd (dOp m.fetch 0)
    refine ⟨?_, h2, ?_, ?_, h4, h5⟩
    · have e0 : dOp m.fetch 0 = m.peek m.pc := rfl
      rcases h1 with ⟨h, h1⟩ | h1
      · rw [h1]
        unfold pokeR
        split
        · have := cntD_set (m.ahead (olen (dOp m.fetch 0))).ram ((dArg m.fetch 0).toNat % 256) (m.ahead (olen (dOp m.fetch 0))).a 256
          rw [if_pos (by omega)] at this
          rcases Nat.lt_or_ge 0 (cntD ((m.ahead (olen (dOp m.fetch 0))).ram.set ((dArg m.fetch 0).toNat % 256) (m.ahead (olen (dOp m.fetch 0))).a) (m.ahead (olen (dOp m.fetch 0))).ram 256) with k | k
          · exact .inr ⟨by show cntD ((m.ahead (olen (dOp m.fetch 0))).ram.set ((dArg m.fetch 0).toNat % 256) (m.ahead (olen (dOp m.fetch 0))).a) (m.ahead (olen (dOp m.fetch 0))).ram 256 = 1; omega, by rw [← e0]; exact h⟩
          · exact .inl (by show cntD ((m.ahead (olen (dOp m.fetch 0))).ram.set ((dArg m.fetch 0).toNat % 256) (m.ahead (olen (dOp m.fetch 0))).a) (m.ahead (olen (dOp m.fetch 0))).ram 256 = 0; omega)
        · exact .inl (cntD_self _ _)
      · rw [h1]; exact .inl (cntD_self _ _)
    · rw [h3]; show m.cyc ≤ m.cyc + olen (dOp m.fetch 0); omega
    · rw [h3]; show m.cyc + olen (dOp m.fetch 0) ≤ m.cyc + 3; omega
  · exact ⟨.inl (cntD_self _ _), rfl, by show m.cyc ≤ m.cyc; omega, by show m.cyc ≤ m.cyc + 3; omega, by simp, by simp⟩
set_option maxHeartbeats 8000000 in
set_option maxRecDepth 20000 in
theorem walk_FnStepMachine (v0 : Value) (w : World) (y0 : IsBytes w v0) : Calls Try.prog 8 #[v0] w fun e w' => e = .returned (.bool true) ∧ Below w.heap.size w w' := by
  have hY := Lib.hid y0
  obtain ⟨a, len, cap, zs, rfl, _⟩ := y0
  by_cases hl : (1048576 : Int) < (len : Int)
  · go_enter Try.func8, Try.ntmps8
    go_wp2_with fail
    go_ret
    exact ⟨rfl, Below.refl _ _⟩
  go_enter Try.func8, Try.ntmps8
  go_wp2_with fail
  refine (draw_StepMachine hY.out).mono ?_
  rintro e w1 ⟨v1, m, rfl, hm, hr1, hb1⟩
  have hB1 := Lib.hid hb1
  have hBn := Lib.hid hr1
  obtain ⟨a1, c1, b1, d1, f1, g1, rfl, _, _, _, _, _, _⟩ := machV_shape hm
  have HIM := Lib.hid (memV_parts (machV_parts hm).1).1
  have HMM := Lib.hid (machV_parts hm).1
  obtain ⟨sb, hsb⟩ : ∃ sb, sb = m.stop := ⟨_, rfl⟩
  rw [← hsb] at hm ⊢
  have HM := Lib.hid hm
  have HSB := Lib.hid hsb
  clear hm hb1 hr1 hsb
  obtain ⟨y, hy⟩ : ∃ y, y = stM m := ⟨_, rfl⟩
  have E : Hid (stM m = y) := hy.symm
  have HY := Lib.hid hy
  clear hy
  cases hv : machB m
  · have HV := Lib.hid hv
    have hy0 : y = zeroM := by rw [HY.out, stM_no hv]
    have hz : ((y.ram.length : Int) == 0) = true := by rw [hy0]; rfl
    have HBY : Hid (machB y = false) := by rw [hy0]; show machB zeroM = false; decide +kernel
    clear hv hy0
    go_upto_region 4 with fail
    obtain ⟨Y, hY0⟩ : ∃ Y, Y = w1.alloc (.cells #[.slice a1 m.ram.length c1, .slice b1 m.rom.length d1, .int .i64 m.bank, .int .i64 m.a, .int .i64 m.pc, .bool m.carry, .slice f1 m.back.length g1, .bool sb, .int .i64 m.cyc] 39) := ⟨_, rfl⟩
    have nY : Hid (Nine Y w1.heap.size (.slice a1 m.ram.length c1) (.slice b1 m.rom.length d1) (.int .i64 m.bank) (.int .i64 m.a) (.int .i64 m.pc) (.bool m.carry) (.slice f1 m.back.length g1) (.bool sb) (.int .i64 m.cyc)) := by rw [hY0]; exact nine_lit rfl
    have b1Y : Hid (Below w1.heap.size w1 Y) := by rw [hY0]; exact (Below.refl _ _).alloc (Nat.le_refl _) _
    have HIY : Hid (Ints Y (.slice a1 m.ram.length c1) m.ram) := HIM.out.below b1Y.out
    rw [← hY0]
    clear hY0
    obtain ⟨y0, y1, y2, y3, y4, y5, y6, y7, y8, _⟩ := id nY.out
    have hYl : w1.heap.size < Y.heap.size := block_lt_of_cell y0
    go_wp2_with (at_builtin; refine wp_appI rfl _ _ rfl Y.heap.size (.slice (some ⟨_, 0, none⟩) 0 0) (.slice a1 m.ram.length c1) [] m.ram rfl rfl (ownV_lit0 (Nat.le_refl _) rfl) (HIY.out.alloc _) (by have := hBn.out; simp; omega) (by simp) ?_; intro vb w2 ow2 hg2 _; (have hb2 := Lib.hid (below_own0 ((Below.refl Y.heap.size Y).alloc (Nat.le_refl _) _) hg2 (by simp) (Nat.le_refl _))); (have IB : Hid (Ints w2 vb m.ram) := (OwnV.own (xs := m.ram) ow2).ints); clear ow2 hg2; (have n2 := Lib.hid (nineBelow nY.out hb2.out)); obtain ⟨x0, x1, x2, x3, x4, x5, x6, x7, x8, _⟩ := id n2.out)
    have b12 : Hid (Below w1.heap.size w1 w2) := b1Y.out.trans (hb2.out.mono b1Y.out.size)
    clear y0 y1 y2 y3 y4 y5 y6 y7 y8 hb2
    refine (calls_mach (impl_StepMachine (HM.out.below b12.out)) E.out).mono ?_
    rintro e w3 ⟨v3, rfl, o3, hb3⟩
    have n3 := Lib.hid (nineBelow n2.out hb3)
    have b13 : Hid (Below w1.heap.size w1 w3) := b12.out.trans (hb3.mono b12.out.size)
    have IB3 : Hid (Ints w3 vb m.ram) := IB.out.below hb3
    have HX := Lib.hid o3.mach
    obtain ⟨ya, yc, yb, yd, ye, yf, rfl, _, _, _, _, _, _⟩ := machV_shape o3.mach
    clear o3 hb3 x0 x1 x2 x3 x4 x5 x6 x7 x8 IB
    have hw3 : w1.heap.size < w3.heap.size := n3.out.lt
    go_upto_region 6 with fail
    obtain ⟨Z, hZ0⟩ : ∃ Z, Z = w3.alloc (.cells #[.slice ya y.ram.length yc, .slice yb y.rom.length yd, .int .i64 y.bank, .int .i64 y.a, .int .i64 y.pc, .bool y.carry, .slice ye y.back.length yf, .bool y.stop, .int .i64 y.cyc] 39) := ⟨_, rfl⟩
    have b3Z : Hid (Below w3.heap.size w3 Z) := by rw [hZ0]; exact (Below.refl _ _).alloc (Nat.le_refl _) _
    have nZ : Hid (Nine Z w3.heap.size (.slice ya y.ram.length yc) (.slice yb y.rom.length yd) (.int .i64 y.bank) (.int .i64 y.a) (.int .i64 y.pc) (.bool y.carry) (.slice ye y.back.length yf) (.bool y.stop) (.int .i64 y.cyc)) := by rw [hZ0]; exact nine_lit rfl
    have b1Z : Hid (Below w1.heap.size w1 Z) := b13.out.trans (b3Z.out.mono b13.out.size)
    have SZ : Hid (Nine Z w1.heap.size (.slice a1 m.ram.length c1) (.slice b1 m.rom.length d1) (.int .i64 m.bank) (.int .i64 m.a) (.int .i64 m.pc) (.bool m.carry) (.slice f1 m.back.length g1) (.bool sb) (.int .i64 m.cyc) ∧ Nine Z w3.heap.size (.slice ya y.ram.length yc) (.slice yb y.rom.length yd) (.int .i64 y.bank) (.int .i64 y.a) (.int .i64 y.pc) (.bool y.carry) (.slice ye y.back.length yf) (.bool y.stop) (.int .i64 y.cyc)) := ⟨nineBelow n3.out b3Z.out, nZ.out⟩
    have IBZ : Hid (Ints Z vb m.ram) := IB3.out.below b3Z.out
    have HXZ : Hid (MachV Z (.agg #[.slice ya y.ram.length yc, .slice yb y.rom.length yd, .int .i64 y.bank, .int .i64 y.a, .int .i64 y.pc, .bool y.carry, .slice ye y.back.length yf, .bool y.stop, .int .i64 y.cyc]) y) := HX.out.below b3Z.out
    rw [← hZ0]
    clear hZ0 HX IB3 HIY nY b1Y n2
    refine wp_region_held_drew (S := fun w' => Nine w' w1.heap.size (.slice a1 m.ram.length c1) (.slice b1 m.rom.length d1) (.int .i64 m.bank) (.int .i64 m.a) (.int .i64 m.pc) (.bool m.carry) (.slice f1 m.back.length g1) (.bool sb) (.int .i64 m.cyc) ∧ Nine w' w3.heap.size (.slice ya y.ram.length yc) (.slice yb y.rom.length yd) (.int .i64 y.bank) (.int .i64 y.a) (.int .i64 y.pc) (.bool y.carry) (.slice ye y.back.length yf) (.bool y.stop) (.int .i64 y.cyc)) (by kernel_rfl) (twoDrew SZ.out) ?_
    intro hS
    try dsimp only at hS
    refine wpAnyH_take (i := 0) (oi := ({ dst := some 21, op := Op.load 39 (Operand.tmp 5), type := 39, pos := "laws.go:487", after := #[], guard := none } : Oper)) (v := ?_) rfl (by kernel_rfl) (by kernel_rfl) (by kernel_rfl) (fun _ _ _ h => h) (Or.inl ⟨by rfl, ?_⟩) hS ?_
    rotate_left
    · intro wq hSw; (try dsimp only at hSw); obtain ⟨⟨s0, s1, s2, s3, s4, s5, s6, s7, s8, _⟩, ⟨t0, t1, t2, t3, t4, t5, t6, t7, t8, _⟩⟩ := hSw; go_simp; (try with_reducible rfl)
    (try simp only [Act.put, List.setIfInBounds_toArray, List.set_cons_zero, List.set_cons_succ])
    refine wpAnyH_take (i := 1) (oi := ({ dst := some 22, op := Op.load 39 (Operand.tmp 3), type := 39, pos := "laws.go:487", after := #[], guard := none } : Oper)) (v := ?_) rfl (by kernel_rfl) (by kernel_rfl) (by kernel_rfl) (fun _ _ _ h => h) (Or.inl ⟨by rfl, ?_⟩) hS ?_
    rotate_left
    · intro wq hSw; (try dsimp only at hSw); obtain ⟨⟨s0, s1, s2, s3, s4, s5, s6, s7, s8, _⟩, ⟨t0, t1, t2, t3, t4, t5, t6, t7, t8, _⟩⟩ := hSw; go_simp; (try with_reducible rfl)
    (try simp only [Act.put, List.setIfInBounds_toArray, List.set_cons_zero, List.set_cons_succ])
    refine wpAnyH_ready (rs := [2]) (by kernel_rfl) (by simp) ?_
    refine AllReadyH.cons (o := ({ dst := some 23, op := Op.call { callee := Callee.value (Operand.func 38), args := #[Operand.tmp 22], argTypes := #[39] }, type := 39, pos := "laws.go:487", after := #[{ on := 1, ground := Ground.data }], guard := none } : Oper)) rfl (fun K hK => ?_) AllReadyH.nil
    go_simp
    (go_at_call 38; refine (calls_mach (spec_StepMachine (HM.out.below b1Z.out.drew)) E.out).mono ?_; rintro e w5 ⟨v5, rfl, o5, hb5⟩; (have S5 := Lib.hid (twoBelow hb5 (twoDrew SZ.out))); (have bZ5 : Hid (Below Z.heap.size Z w5) := ((Below.refl _ _).drew).trans hb5); (have b15 : Hid (Below w1.heap.size w1 w5) := b1Z.out.drew.trans (hb5.mono b1Z.out.size)))
    (try go_wp2_with fail)
    refine hK.out _ _ (S5.out) (fun hT => ?_)
    clear hK K hS
    have hS := hT
    clear hT
    try dsimp only at hS
    (try simp only [Act.put, List.setIfInBounds_toArray, List.set_cons_zero, List.set_cons_succ])
    refine wpAnyH_ready (rs := [3]) (by kernel_rfl) (by simp) ?_
    refine AllReadyH.cons (o := ({ dst := some 24, op := Op.call { callee := Callee.value (Operand.func 37), args := #[Operand.tmp 21, Operand.tmp 23], argTypes := #[39, 39] }, type := 4, pos := "laws.go:487", after := #[{ on := 0, ground := Ground.data }, { on := 2, ground := Ground.data }, { on := 2, ground := Ground.chain }], guard := none } : Oper)) rfl (fun K hK => ?_) AllReadyH.nil
    go_simp
    (go_at_call 37; refine (laws_sameMachine (HXZ.out.below bZ5.out) o5.mach).mono ?_; rintro e w6 ⟨rfl, hb6⟩; (have S6 := Lib.hid (twoBelow hb6 S5.out)); (have bZ6 : Hid (Below Z.heap.size Z w6) := bZ5.out.trans (hb6.mono bZ5.out.size)); (have b16 : Hid (Below w1.heap.size w1 w6) := b15.out.trans (hb6.mono b15.out.size)))
    (try go_wp2_with fail)
    refine hK.out _ _ (S6.out) (fun hT => ?_)
    clear hK K hS
    have hS := hT
    clear hT
    try dsimp only at hS
    (try simp only [Act.put, List.setIfInBounds_toArray, List.set_cons_zero, List.set_cons_succ])
    refine wpAnyH_take (i := 4) (oi := ({ dst := some 25, op := Op.unOp UnOp.not 4 (Operand.tmp 24), type := 4, pos := "laws.go:487", after := #[{ on := 3, ground := Ground.data }], guard := none } : Oper)) (v := ?_) rfl (by kernel_rfl) (by kernel_rfl) (by kernel_rfl) (fun _ _ _ h => h) (Or.inl ⟨by rfl, ?_⟩) hS ?_
    rotate_left
    · intro wq hSw; (try dsimp only at hSw); obtain ⟨⟨s0, s1, s2, s3, s4, s5, s6, s7, s8, _⟩, ⟨t0, t1, t2, t3, t4, t5, t6, t7, t8, _⟩⟩ := hSw; go_simp; (try with_reducible rfl)
    (try simp only [Act.put, List.setIfInBounds_toArray, List.set_cons_zero, List.set_cons_succ])
    refine wpAnyH_take (i := 5) (oi := ({ dst := some 26, op := Op.move (Operand.tmp 25), type := 4, pos := "laws.go:487", after := #[{ on := 4, ground := Ground.data }, { on := 3, ground := Ground.chain }], guard := none } : Oper)) (v := ?_) rfl (by kernel_rfl) (by kernel_rfl) (by kernel_rfl) (fun _ _ _ h => h) (Or.inl ⟨by rfl, ?_⟩) hS ?_
    rotate_left
    · intro wq hSw; (try dsimp only at hSw); obtain ⟨⟨s0, s1, s2, s3, s4, s5, s6, s7, s8, _⟩, ⟨t0, t1, t2, t3, t4, t5, t6, t7, t8, _⟩⟩ := hSw; go_simp; (try with_reducible rfl)
    (try simp only [Act.put, List.setIfInBounds_toArray, List.set_cons_zero, List.set_cons_succ])
    refine wpAnyH_take (i := 6) (oi := ({ dst := some 27, op := Op.fieldAddr 39 (Operand.tmp 3) 0, type := 0, pos := "laws.go:487", after := #[{ on := 5, ground := Ground.guard }], guard := some (5, false) } : Oper)) (v := ?_) rfl (by kernel_rfl) (by kernel_rfl) (by kernel_rfl) (fun _ _ _ h => h) (Or.inl ⟨by rfl, ?_⟩) hS ?_
    rotate_left
    · intro wq hSw; (try dsimp only at hSw); obtain ⟨⟨s0, s1, s2, s3, s4, s5, s6, s7, s8, _⟩, ⟨t0, t1, t2, t3, t4, t5, t6, t7, t8, _⟩⟩ := hSw; go_simp; (try with_reducible rfl)
    (try simp only [Act.put, List.setIfInBounds_toArray, List.set_cons_zero, List.set_cons_succ])
    refine wpAnyH_take (i := 7) (oi := ({ dst := some 28, op := Op.fieldAddr 37 (Operand.tmp 27) 0, type := 0, pos := "laws.go:487", after := #[{ on := 6, ground := Ground.data }, { on := 5, ground := Ground.guard }], guard := some (5, false) } : Oper)) (v := ?_) rfl (by kernel_rfl) (by kernel_rfl) (by kernel_rfl) (fun _ _ _ h => h) (Or.inl ⟨by rfl, ?_⟩) hS ?_
    rotate_left
    · intro wq hSw; (try dsimp only at hSw); obtain ⟨⟨s0, s1, s2, s3, s4, s5, s6, s7, s8, _⟩, ⟨t0, t1, t2, t3, t4, t5, t6, t7, t8, _⟩⟩ := hSw; go_simp; (try with_reducible rfl)
    (try simp only [Act.put, List.setIfInBounds_toArray, List.set_cons_zero, List.set_cons_succ])
    refine wpAnyH_take (i := 8) (oi := ({ dst := some 29, op := Op.load 23 (Operand.tmp 28), type := 23, pos := "laws.go:487", after := #[{ on := 7, ground := Ground.data }, { on := 5, ground := Ground.guard }], guard := some (5, false) } : Oper)) (v := ?_) rfl (by kernel_rfl) (by kernel_rfl) (by kernel_rfl) (fun _ _ _ h => h) (Or.inl ⟨by rfl, ?_⟩) hS ?_
    rotate_left
    · intro wq hSw; (try dsimp only at hSw); obtain ⟨⟨s0, s1, s2, s3, s4, s5, s6, s7, s8, _⟩, ⟨t0, t1, t2, t3, t4, t5, t6, t7, t8, _⟩⟩ := hSw; go_simp; (try with_reducible rfl)
    (try simp only [Act.put, List.setIfInBounds_toArray, List.set_cons_zero, List.set_cons_succ])
    refine wpAnyH_take (i := 9) (oi := ({ dst := some 30, op := Op.move (Operand.tmp 4), type := 23, pos := "laws.go:487", after := #[{ on := 5, ground := Ground.guard }], guard := some (5, false) } : Oper)) (v := ?_) rfl (by kernel_rfl) (by kernel_rfl) (by kernel_rfl) (fun _ _ _ h => h) (Or.inl ⟨by rfl, ?_⟩) hS ?_
    rotate_left
    · intro wq hSw; (try dsimp only at hSw); obtain ⟨⟨s0, s1, s2, s3, s4, s5, s6, s7, s8, _⟩, ⟨t0, t1, t2, t3, t4, t5, t6, t7, t8, _⟩⟩ := hSw; go_simp; (try with_reducible rfl)
    (try simp only [Act.put, List.setIfInBounds_toArray, List.set_cons_zero, List.set_cons_succ])
    refine wpAnyH_ready (rs := [10]) (by kernel_rfl) (by simp) ?_
    refine AllReadyH.cons (o := ({ dst := some 31, op := Op.call { callee := Callee.value (Operand.func 18), args := #[Operand.tmp 29, Operand.tmp 30], argTypes := #[23, 23] }, type := 4, pos := "laws.go:487", after := #[{ on := 8, ground := Ground.data }, { on := 9, ground := Ground.data }, { on := 5, ground := Ground.chain }, { on := 5, ground := Ground.guard }], guard := some (5, false) } : Oper)) rfl (fun K hK => ?_) AllReadyH.nil
    go_simp
    (go_at_call 18; refine (sameInts_yes (HIM.out.below b16.out) (IBZ.out.below bZ6.out)).mono ?_; rintro e w7 ⟨rfl, hb7⟩; (have S7 := Lib.hid (twoBelow hb7 S6.out)); (have bZ7 : Hid (Below Z.heap.size Z w7) := bZ6.out.trans (hb7.mono bZ6.out.size)); (have b17 : Hid (Below w1.heap.size w1 w7) := b16.out.trans (hb7.mono b16.out.size)))
    (try go_wp2_with fail)
    refine hK.out _ _ (S7.out) (fun hT => ?_)
    clear hK K hS
    have hS := hT
    clear hT
    try dsimp only at hS
    (try simp only [Act.put, List.setIfInBounds_toArray, List.set_cons_zero, List.set_cons_succ])
    refine wpAnyH_take (i := 11) (oi := ({ dst := some 32, op := Op.unOp UnOp.not 4 (Operand.tmp 31), type := 4, pos := "laws.go:487", after := #[{ on := 10, ground := Ground.data }, { on := 5, ground := Ground.guard }], guard := some (5, false) } : Oper)) (v := ?_) rfl (by kernel_rfl) (by kernel_rfl) (by kernel_rfl) (fun _ _ _ h => h) (Or.inl ⟨by rfl, ?_⟩) hS ?_
    rotate_left
    · intro wq hSw; (try dsimp only at hSw); obtain ⟨⟨s0, s1, s2, s3, s4, s5, s6, s7, s8, _⟩, ⟨t0, t1, t2, t3, t4, t5, t6, t7, t8, _⟩⟩ := hSw; go_simp; (try with_reducible rfl)
    (try simp only [Act.put, List.setIfInBounds_toArray, List.set_cons_zero, List.set_cons_succ])
    refine wpAnyH_take (i := 12) (oi := ({ dst := some 33, op := Op.pick (Operand.tmp 26) (Operand.const (Value.bool true)) (Operand.tmp 32), type := 4, pos := "laws.go:487", after := #[{ on := 5, ground := Ground.data }, { on := 11, ground := Ground.data }], guard := none } : Oper)) (v := ?_) rfl (by kernel_rfl) (by kernel_rfl) (by kernel_rfl) (fun _ _ _ h => h) (Or.inl ⟨by rfl, ?_⟩) hS ?_
    rotate_left
    · intro wq hSw; (try dsimp only at hSw); obtain ⟨⟨s0, s1, s2, s3, s4, s5, s6, s7, s8, _⟩, ⟨t0, t1, t2, t3, t4, t5, t6, t7, t8, _⟩⟩ := hSw; go_simp; (try with_reducible rfl)
    (try simp only [Act.put, List.setIfInBounds_toArray, List.set_cons_zero, List.set_cons_succ])
    refine wpAnyH_done (by kernel_rfl) ?_ _
    clear hS S5 S6 SZ
    have hB7 : Hid (Below w.heap.size w w7) := hB1.out.trans (b17.out.mono hB1.out.size)
    obtain ⟨⟨x0, x1, x2, x3, x4, x5, x6, x7, x8, _⟩, ⟨z0, z1, z2, z3, z4, z5, z6, z7, z8, _⟩⟩ := id S7.out
    go_wp2_with fail
    refine (calls_eqv (spec_MachineValid (HM.out.below b17.out)) HV.out).mono ?_
    rintro e w8 ⟨rfl, hb8⟩
    have S8 := Lib.hid (twoBelow hb8 S7.out)
    have b18 : Hid (Below w1.heap.size w1 w8) := b17.out.trans (hb8.mono b17.out.size)
    have bZ8 : Hid (Below Z.heap.size Z w8) := bZ7.out.trans (hb8.mono bZ7.out.size)
    have hB8 : Hid (Below w.heap.size w w8) := hB1.out.trans (b18.out.mono hB1.out.size)
    clear hb8 S7 x0 x1 x2 x3 x4 x5 x6 x7 x8 z0 z1 z2 z3 z4 z5 z6 z7 z8
    obtain ⟨⟨x0, x1, x2, x3, x4, x5, x6, x7, x8, _⟩, ⟨z0, z1, z2, z3, z4, z5, z6, z7, z8, _⟩⟩ := id S8.out
    go_wp2_with fail
    refine (calls_eqv (impl_MachineValid (HXZ.out.below bZ8.out)) HBY.out).mono ?_
    rintro e w9 ⟨rfl, hb9⟩
    have hB9 : Hid (Below w.heap.size w w9) := hB8.out.trans (hb9.mono hB8.out.size)
    have S9 := Lib.hid (twoBelow hb9 S8.out)
    clear hb9 x0 x1 x2 x3 x4 x5 x6 x7 x8 z0 z1 z2 z3 z4 z5 z6 z7 z8
    obtain ⟨⟨x0, x1, x2, x3, x4, x5, x6, x7, x8, _⟩, ⟨z0, z1, z2, z3, z4, z5, z6, z7, z8, _⟩⟩ := id S9.out
    go_wp2_with (first | (go_at_call 16; refine (laws_alive _).mono ?_; rintro e w' ⟨rfl, rfl⟩))
    go_ret
    exact ⟨rfl, hB9.out⟩
  have HV := Lib.hid hv
  have hg := machB_good hv
  have hys : y = m.step := by rw [HY.out, stM_yes hv]
  obtain ⟨lc, lr, lc1, lc2, lb1, lb2⟩ := step_little m
  rw [← hys] at lc lr lc1 lc2 lb1 lb2
  have hgs := hg.step
  rw [← hys] at hgs
  have hyl : Hid (y.ram.length = 256) := (shp_of hgs.mem).r
  have hml : Hid (m.ram.length = 256) := (shp_of hg.mem).r
  have LC := Lib.hid lc
  have LR := Lib.hid lr
  have HPK : Hid (readV m.ram m.rom m.bank m.pc = m.peek m.pc) := by show _ = _; rw [readV_yes hg.mem hg.pc]; rfl
  have HST : Hid (sb = true → y = m) := fun h => by rw [hys]; exact Mach.step_stop (by rw [← HSB.out]; exact h)
  have hcc0 := hg.c0
  have hcc1 := hg.c1
  have hbl1 := hg.len
  have hbl2 := hgs.len
  clear hv hg hgs hys lc lr
  go_upto_region 4 with fail
  obtain ⟨Y, hY0⟩ : ∃ Y, Y = w1.alloc (.cells #[.slice a1 m.ram.length c1, .slice b1 m.rom.length d1, .int .i64 m.bank, .int .i64 m.a, .int .i64 m.pc, .bool m.carry, .slice f1 m.back.length g1, .bool sb, .int .i64 m.cyc] 39) := ⟨_, rfl⟩
  have nY : Hid (Nine Y w1.heap.size (.slice a1 m.ram.length c1) (.slice b1 m.rom.length d1) (.int .i64 m.bank) (.int .i64 m.a) (.int .i64 m.pc) (.bool m.carry) (.slice f1 m.back.length g1) (.bool sb) (.int .i64 m.cyc)) := by rw [hY0]; exact nine_lit rfl
  have b1Y : Hid (Below w1.heap.size w1 Y) := by rw [hY0]; exact (Below.refl _ _).alloc (Nat.le_refl _) _
  have HIY : Hid (Ints Y (.slice a1 m.ram.length c1) m.ram) := HIM.out.below b1Y.out
  rw [← hY0]
  clear hY0
  obtain ⟨y0, y1, y2, y3, y4, y5, y6, y7, y8, _⟩ := id nY.out
  have hYl : w1.heap.size < Y.heap.size := block_lt_of_cell y0
  go_wp2_with (at_builtin; refine wp_appI rfl _ _ rfl Y.heap.size (.slice (some ⟨_, 0, none⟩) 0 0) (.slice a1 m.ram.length c1) [] m.ram rfl rfl (ownV_lit0 (Nat.le_refl _) rfl) (HIY.out.alloc _) (by have := hBn.out; simp; omega) (by simp) ?_; intro vb w2 ow2 hg2 _; (have hb2 := Lib.hid (below_own0 ((Below.refl Y.heap.size Y).alloc (Nat.le_refl _) _) hg2 (by simp) (Nat.le_refl _))); (have IB : Hid (Ints w2 vb m.ram) := (OwnV.own (xs := m.ram) ow2).ints); clear ow2 hg2; (have n2 := Lib.hid (nineBelow nY.out hb2.out)); obtain ⟨x0, x1, x2, x3, x4, x5, x6, x7, x8, _⟩ := id n2.out)
  have b12 : Hid (Below w1.heap.size w1 w2) := b1Y.out.trans (hb2.out.mono b1Y.out.size)
  clear y0 y1 y2 y3 y4 y5 y6 y7 y8 hb2
  refine (calls_mach (impl_StepMachine (HM.out.below b12.out)) E.out).mono ?_
  rintro e w3 ⟨v3, rfl, o3, hb3⟩
  have n3 := Lib.hid (nineBelow n2.out hb3)
  have b13 : Hid (Below w1.heap.size w1 w3) := b12.out.trans (hb3.mono b12.out.size)
  have IB3 : Hid (Ints w3 vb m.ram) := IB.out.below hb3
  have HX := Lib.hid o3.mach
  obtain ⟨ya, yc, yb, yd, ye, yf, rfl, _, _, _, _, _, _⟩ := machV_shape o3.mach
  clear o3 hb3 x0 x1 x2 x3 x4 x5 x6 x7 x8 IB
  have hw3 : w1.heap.size < w3.heap.size := n3.out.lt
  go_upto_region 6 with fail
  obtain ⟨Z, hZ0⟩ : ∃ Z, Z = w3.alloc (.cells #[.slice ya y.ram.length yc, .slice yb y.rom.length yd, .int .i64 y.bank, .int .i64 y.a, .int .i64 y.pc, .bool y.carry, .slice ye y.back.length yf, .bool y.stop, .int .i64 y.cyc] 39) := ⟨_, rfl⟩
  have b3Z : Hid (Below w3.heap.size w3 Z) := by rw [hZ0]; exact (Below.refl _ _).alloc (Nat.le_refl _) _
  have nZ : Hid (Nine Z w3.heap.size (.slice ya y.ram.length yc) (.slice yb y.rom.length yd) (.int .i64 y.bank) (.int .i64 y.a) (.int .i64 y.pc) (.bool y.carry) (.slice ye y.back.length yf) (.bool y.stop) (.int .i64 y.cyc)) := by rw [hZ0]; exact nine_lit rfl
  have b1Z : Hid (Below w1.heap.size w1 Z) := b13.out.trans (b3Z.out.mono b13.out.size)
  have SZ : Hid (Nine Z w1.heap.size (.slice a1 m.ram.length c1) (.slice b1 m.rom.length d1) (.int .i64 m.bank) (.int .i64 m.a) (.int .i64 m.pc) (.bool m.carry) (.slice f1 m.back.length g1) (.bool sb) (.int .i64 m.cyc) ∧ Nine Z w3.heap.size (.slice ya y.ram.length yc) (.slice yb y.rom.length yd) (.int .i64 y.bank) (.int .i64 y.a) (.int .i64 y.pc) (.bool y.carry) (.slice ye y.back.length yf) (.bool y.stop) (.int .i64 y.cyc)) := ⟨nineBelow n3.out b3Z.out, nZ.out⟩
  have IBZ : Hid (Ints Z vb m.ram) := IB3.out.below b3Z.out
  have HXZ : Hid (MachV Z (.agg #[.slice ya y.ram.length yc, .slice yb y.rom.length yd, .int .i64 y.bank, .int .i64 y.a, .int .i64 y.pc, .bool y.carry, .slice ye y.back.length yf, .bool y.stop, .int .i64 y.cyc]) y) := HX.out.below b3Z.out
  rw [← hZ0]
  clear hZ0 HX IB3 HIY nY b1Y n2
  refine wp_region_held_drew (S := fun w' => Nine w' w1.heap.size (.slice a1 m.ram.length c1) (.slice b1 m.rom.length d1) (.int .i64 m.bank) (.int .i64 m.a) (.int .i64 m.pc) (.bool m.carry) (.slice f1 m.back.length g1) (.bool sb) (.int .i64 m.cyc) ∧ Nine w' w3.heap.size (.slice ya y.ram.length yc) (.slice yb y.rom.length yd) (.int .i64 y.bank) (.int .i64 y.a) (.int .i64 y.pc) (.bool y.carry) (.slice ye y.back.length yf) (.bool y.stop) (.int .i64 y.cyc)) (by kernel_rfl) (twoDrew SZ.out) ?_
  intro hS
  try dsimp only at hS
  refine wpAnyH_take (i := 0) (oi := ({ dst := some 21, op := Op.load 39 (Operand.tmp 5), type := 39, pos := "laws.go:487", after := #[], guard := none } : Oper)) (v := ?_) rfl (by kernel_rfl) (by kernel_rfl) (by kernel_rfl) (fun _ _ _ h => h) (Or.inl ⟨by rfl, ?_⟩) hS ?_
  rotate_left
  · intro wq hSw; (try dsimp only at hSw); obtain ⟨⟨s0, s1, s2, s3, s4, s5, s6, s7, s8, _⟩, ⟨t0, t1, t2, t3, t4, t5, t6, t7, t8, _⟩⟩ := hSw; go_simp; (try with_reducible rfl)
  (try simp only [Act.put, List.setIfInBounds_toArray, List.set_cons_zero, List.set_cons_succ])
  refine wpAnyH_take (i := 1) (oi := ({ dst := some 22, op := Op.load 39 (Operand.tmp 3), type := 39, pos := "laws.go:487", after := #[], guard := none } : Oper)) (v := ?_) rfl (by kernel_rfl) (by kernel_rfl) (by kernel_rfl) (fun _ _ _ h => h) (Or.inl ⟨by rfl, ?_⟩) hS ?_
  rotate_left
  · intro wq hSw; (try dsimp only at hSw); obtain ⟨⟨s0, s1, s2, s3, s4, s5, s6, s7, s8, _⟩, ⟨t0, t1, t2, t3, t4, t5, t6, t7, t8, _⟩⟩ := hSw; go_simp; (try with_reducible rfl)
  (try simp only [Act.put, List.setIfInBounds_toArray, List.set_cons_zero, List.set_cons_succ])
  refine wpAnyH_ready (rs := [2]) (by kernel_rfl) (by simp) ?_
  refine AllReadyH.cons (o := ({ dst := some 23, op := Op.call { callee := Callee.value (Operand.func 38), args := #[Operand.tmp 22], argTypes := #[39] }, type := 39, pos := "laws.go:487", after := #[{ on := 1, ground := Ground.data }], guard := none } : Oper)) rfl (fun K hK => ?_) AllReadyH.nil
  go_simp
  (go_at_call 38; refine (calls_mach (spec_StepMachine (HM.out.below b1Z.out.drew)) E.out).mono ?_; rintro e w5 ⟨v5, rfl, o5, hb5⟩; (have S5 := Lib.hid (twoBelow hb5 (twoDrew SZ.out))); (have bZ5 : Hid (Below Z.heap.size Z w5) := ((Below.refl _ _).drew).trans hb5); (have b15 : Hid (Below w1.heap.size w1 w5) := b1Z.out.drew.trans (hb5.mono b1Z.out.size)))
  (try go_wp2_with fail)
  refine hK.out _ _ (S5.out) (fun hT => ?_)
  clear hK K hS
  have hS := hT
  clear hT
  try dsimp only at hS
  (try simp only [Act.put, List.setIfInBounds_toArray, List.set_cons_zero, List.set_cons_succ])
  refine wpAnyH_ready (rs := [3]) (by kernel_rfl) (by simp) ?_
  refine AllReadyH.cons (o := ({ dst := some 24, op := Op.call { callee := Callee.value (Operand.func 37), args := #[Operand.tmp 21, Operand.tmp 23], argTypes := #[39, 39] }, type := 4, pos := "laws.go:487", after := #[{ on := 0, ground := Ground.data }, { on := 2, ground := Ground.data }, { on := 2, ground := Ground.chain }], guard := none } : Oper)) rfl (fun K hK => ?_) AllReadyH.nil
  go_simp
  (go_at_call 37; refine (laws_sameMachine (HXZ.out.below bZ5.out) o5.mach).mono ?_; rintro e w6 ⟨rfl, hb6⟩; (have S6 := Lib.hid (twoBelow hb6 S5.out)); (have bZ6 : Hid (Below Z.heap.size Z w6) := bZ5.out.trans (hb6.mono bZ5.out.size)); (have b16 : Hid (Below w1.heap.size w1 w6) := b15.out.trans (hb6.mono b15.out.size)))
  (try go_wp2_with fail)
  refine hK.out _ _ (S6.out) (fun hT => ?_)
  clear hK K hS
  have hS := hT
  clear hT
  try dsimp only at hS
  (try simp only [Act.put, List.setIfInBounds_toArray, List.set_cons_zero, List.set_cons_succ])
  refine wpAnyH_take (i := 4) (oi := ({ dst := some 25, op := Op.unOp UnOp.not 4 (Operand.tmp 24), type := 4, pos := "laws.go:487", after := #[{ on := 3, ground := Ground.data }], guard := none } : Oper)) (v := ?_) rfl (by kernel_rfl) (by kernel_rfl) (by kernel_rfl) (fun _ _ _ h => h) (Or.inl ⟨by rfl, ?_⟩) hS ?_
  rotate_left
  · intro wq hSw; (try dsimp only at hSw); obtain ⟨⟨s0, s1, s2, s3, s4, s5, s6, s7, s8, _⟩, ⟨t0, t1, t2, t3, t4, t5, t6, t7, t8, _⟩⟩ := hSw; go_simp; (try with_reducible rfl)
  (try simp only [Act.put, List.setIfInBounds_toArray, List.set_cons_zero, List.set_cons_succ])
  refine wpAnyH_take (i := 5) (oi := ({ dst := some 26, op := Op.move (Operand.tmp 25), type := 4, pos := "laws.go:487", after := #[{ on := 4, ground := Ground.data }, { on := 3, ground := Ground.chain }], guard := none } : Oper)) (v := ?_) rfl (by kernel_rfl) (by kernel_rfl) (by kernel_rfl) (fun _ _ _ h => h) (Or.inl ⟨by rfl, ?_⟩) hS ?_
  rotate_left
  · intro wq hSw; (try dsimp only at hSw); obtain ⟨⟨s0, s1, s2, s3, s4, s5, s6, s7, s8, _⟩, ⟨t0, t1, t2, t3, t4, t5, t6, t7, t8, _⟩⟩ := hSw; go_simp; (try with_reducible rfl)
  (try simp only [Act.put, List.setIfInBounds_toArray, List.set_cons_zero, List.set_cons_succ])
  refine wpAnyH_take (i := 6) (oi := ({ dst := some 27, op := Op.fieldAddr 39 (Operand.tmp 3) 0, type := 0, pos := "laws.go:487", after := #[{ on := 5, ground := Ground.guard }], guard := some (5, false) } : Oper)) (v := ?_) rfl (by kernel_rfl) (by kernel_rfl) (by kernel_rfl) (fun _ _ _ h => h) (Or.inl ⟨by rfl, ?_⟩) hS ?_
  rotate_left
  · intro wq hSw; (try dsimp only at hSw); obtain ⟨⟨s0, s1, s2, s3, s4, s5, s6, s7, s8, _⟩, ⟨t0, t1, t2, t3, t4, t5, t6, t7, t8, _⟩⟩ := hSw; go_simp; (try with_reducible rfl)
  (try simp only [Act.put, List.setIfInBounds_toArray, List.set_cons_zero, List.set_cons_succ])
  refine wpAnyH_take (i := 7) (oi := ({ dst := some 28, op := Op.fieldAddr 37 (Operand.tmp 27) 0, type := 0, pos := "laws.go:487", after := #[{ on := 6, ground := Ground.data }, { on := 5, ground := Ground.guard }], guard := some (5, false) } : Oper)) (v := ?_) rfl (by kernel_rfl) (by kernel_rfl) (by kernel_rfl) (fun _ _ _ h => h) (Or.inl ⟨by rfl, ?_⟩) hS ?_
  rotate_left
  · intro wq hSw; (try dsimp only at hSw); obtain ⟨⟨s0, s1, s2, s3, s4, s5, s6, s7, s8, _⟩, ⟨t0, t1, t2, t3, t4, t5, t6, t7, t8, _⟩⟩ := hSw; go_simp; (try with_reducible rfl)
  (try simp only [Act.put, List.setIfInBounds_toArray, List.set_cons_zero, List.set_cons_succ])
  refine wpAnyH_take (i := 8) (oi := ({ dst := some 29, op := Op.load 23 (Operand.tmp 28), type := 23, pos := "laws.go:487", after := #[{ on := 7, ground := Ground.data }, { on := 5, ground := Ground.guard }], guard := some (5, false) } : Oper)) (v := ?_) rfl (by kernel_rfl) (by kernel_rfl) (by kernel_rfl) (fun _ _ _ h => h) (Or.inl ⟨by rfl, ?_⟩) hS ?_
  rotate_left
  · intro wq hSw; (try dsimp only at hSw); obtain ⟨⟨s0, s1, s2, s3, s4, s5, s6, s7, s8, _⟩, ⟨t0, t1, t2, t3, t4, t5, t6, t7, t8, _⟩⟩ := hSw; go_simp; (try with_reducible rfl)
  (try simp only [Act.put, List.setIfInBounds_toArray, List.set_cons_zero, List.set_cons_succ])
  refine wpAnyH_take (i := 9) (oi := ({ dst := some 30, op := Op.move (Operand.tmp 4), type := 23, pos := "laws.go:487", after := #[{ on := 5, ground := Ground.guard }], guard := some (5, false) } : Oper)) (v := ?_) rfl (by kernel_rfl) (by kernel_rfl) (by kernel_rfl) (fun _ _ _ h => h) (Or.inl ⟨by rfl, ?_⟩) hS ?_
  rotate_left
  · intro wq hSw; (try dsimp only at hSw); obtain ⟨⟨s0, s1, s2, s3, s4, s5, s6, s7, s8, _⟩, ⟨t0, t1, t2, t3, t4, t5, t6, t7, t8, _⟩⟩ := hSw; go_simp; (try with_reducible rfl)
  (try simp only [Act.put, List.setIfInBounds_toArray, List.set_cons_zero, List.set_cons_succ])
  refine wpAnyH_ready (rs := [10]) (by kernel_rfl) (by simp) ?_
  refine AllReadyH.cons (o := ({ dst := some 31, op := Op.call { callee := Callee.value (Operand.func 18), args := #[Operand.tmp 29, Operand.tmp 30], argTypes := #[23, 23] }, type := 4, pos := "laws.go:487", after := #[{ on := 8, ground := Ground.data }, { on := 9, ground := Ground.data }, { on := 5, ground := Ground.chain }, { on := 5, ground := Ground.guard }], guard := some (5, false) } : Oper)) rfl (fun K hK => ?_) AllReadyH.nil
  go_simp
  (go_at_call 18; refine (sameInts_yes (HIM.out.below b16.out) (IBZ.out.below bZ6.out)).mono ?_; rintro e w7 ⟨rfl, hb7⟩; (have S7 := Lib.hid (twoBelow hb7 S6.out)); (have bZ7 : Hid (Below Z.heap.size Z w7) := bZ6.out.trans (hb7.mono bZ6.out.size)); (have b17 : Hid (Below w1.heap.size w1 w7) := b16.out.trans (hb7.mono b16.out.size)))
  (try go_wp2_with fail)
  refine hK.out _ _ (S7.out) (fun hT => ?_)
  clear hK K hS
  have hS := hT
  clear hT
  try dsimp only at hS
  (try simp only [Act.put, List.setIfInBounds_toArray, List.set_cons_zero, List.set_cons_succ])
  refine wpAnyH_take (i := 11) (oi := ({ dst := some 32, op := Op.unOp UnOp.not 4 (Operand.tmp 31), type := 4, pos := "laws.go:487", after := #[{ on := 10, ground := Ground.data }, { on := 5, ground := Ground.guard }], guard := some (5, false) } : Oper)) (v := ?_) rfl (by kernel_rfl) (by kernel_rfl) (by kernel_rfl) (fun _ _ _ h => h) (Or.inl ⟨by rfl, ?_⟩) hS ?_
  rotate_left
  · intro wq hSw; (try dsimp only at hSw); obtain ⟨⟨s0, s1, s2, s3, s4, s5, s6, s7, s8, _⟩, ⟨t0, t1, t2, t3, t4, t5, t6, t7, t8, _⟩⟩ := hSw; go_simp; (try with_reducible rfl)
  (try simp only [Act.put, List.setIfInBounds_toArray, List.set_cons_zero, List.set_cons_succ])
  refine wpAnyH_take (i := 12) (oi := ({ dst := some 33, op := Op.pick (Operand.tmp 26) (Operand.const (Value.bool true)) (Operand.tmp 32), type := 4, pos := "laws.go:487", after := #[{ on := 5, ground := Ground.data }, { on := 11, ground := Ground.data }], guard := none } : Oper)) (v := ?_) rfl (by kernel_rfl) (by kernel_rfl) (by kernel_rfl) (fun _ _ _ h => h) (Or.inl ⟨by rfl, ?_⟩) hS ?_
  rotate_left
  · intro wq hSw; (try dsimp only at hSw); obtain ⟨⟨s0, s1, s2, s3, s4, s5, s6, s7, s8, _⟩, ⟨t0, t1, t2, t3, t4, t5, t6, t7, t8, _⟩⟩ := hSw; go_simp; (try with_reducible rfl)
  (try simp only [Act.put, List.setIfInBounds_toArray, List.set_cons_zero, List.set_cons_succ])
  refine wpAnyH_done (by kernel_rfl) ?_ _
  clear hS S5 S6 SZ
  have hB7 : Hid (Below w.heap.size w w7) := hB1.out.trans (b17.out.mono hB1.out.size)
  obtain ⟨⟨x0, x1, x2, x3, x4, x5, x6, x7, x8, _⟩, ⟨z0, z1, z2, z3, z4, z5, z6, z7, z8, _⟩⟩ := id S7.out
  go_wp2_with fail
  refine (calls_eqv (spec_MachineValid (HM.out.below b17.out)) HV.out).mono ?_
  rintro e w8 ⟨rfl, hb8⟩
  have S8 := Lib.hid (twoBelow hb8 S7.out)
  have b18 : Hid (Below w1.heap.size w1 w8) := b17.out.trans (hb8.mono b17.out.size)
  have bZ8 : Hid (Below Z.heap.size Z w8) := bZ7.out.trans (hb8.mono bZ7.out.size)
  have hB8 : Hid (Below w.heap.size w w8) := hB1.out.trans (b18.out.mono hB1.out.size)
  clear hb8 S7 x0 x1 x2 x3 x4 x5 x6 x7 x8 z0 z1 z2 z3 z4 z5 z6 z7 z8
  obtain ⟨⟨x0, x1, x2, x3, x4, x5, x6, x7, x8, _⟩, ⟨z0, z1, z2, z3, z4, z5, z6, z7, z8, _⟩⟩ := id S8.out
  obtain ⟨yq, yo, rfl, hya⟩ := ints_all (memV_parts (machV_parts (HXZ.out.below bZ8.out)).1).1 (by rw [hyl.out]; omega)
  obtain ⟨bq, bc, rfl⟩ := row_value IBZ.out
  obtain ⟨bp, bo, rfl, hba⟩ := ints_all (IBZ.out.below bZ8.out) (by rw [hml.out]; omega)
  have CY := Lib.hid hya
  have CB := Lib.hid hba
  have hyl' : (y.ram.length : Int) = 256 := by rw [hyl.out]; rfl
  have hml' : (m.ram.length : Int) = 256 := by rw [hml.out]; rfl
  have hki1 : Hid (∀ k : Nat, k < 256 → (k : Int) < (y.ram.length : Int) ∧ (k : Int) < (m.ram.length : Int)) := fun k h => by omega
  clear hya hba hyl' hml'
  go_wp2_with fail
  go_loopw [6, 7] (fun s6 s7 wr => ∃ k : Nat, k ≤ 256 ∧ s7 = .int .i64 k ∧ s6 = .int .i64 ((cntD y.ram m.ram k : Nat) : Int) ∧ Hid (Below w8.heap.size w8 wr)) (fun _ s7 _ => 256 - (intOf s7).toNat)
  case atStart => exact ⟨0, by omega, rfl, rfl, Below.refl _ _⟩
  case round =>
    obtain ⟨k, hk, rfl, rfl, b8r⟩ := hrel
    by_cases hlt : k < 256
    · have hki : (k : Int) < 256 := by omega
      obtain ⟨hk1, hk2⟩ := hki1.out k hlt
      have hcl := cntD_le y.ram m.ram k
      have C1 : Hid (y.ram.getD k 0 = m.ram.getD k 0 → cntD y.ram m.ram (k + 1) = cntD y.ram m.ram k) := fun h => by simp only [cntD]; rw [if_pos h]; rfl
      have C2 : Hid (¬ y.ram.getD k 0 = m.ram.getD k 0 → cntD y.ram m.ram (k + 1) = cntD y.ram m.ram k + 1) := fun h => by simp only [cntD]; rw [if_neg h]
      have g1 := CY.out k (by rw [hyl.out]; exact hlt)
      have g2 := CB.out k (by rw [hml.out]; exact hlt)
      generalize cntD y.ram m.ram k = c at *
      generalize y.ram.getD k 0 = zr at *
      generalize m.ram.getD k 0 = zm at *
      have S3 : Hid (wr.cell? ⟨w3.heap.size, 0, none⟩ = some (.slice (some ⟨yq, yo, none⟩) y.ram.length yc) ∧ wr.cell? ⟨yq, yo + k, none⟩ = some (.int .i64 zr) ∧ wr.cell? ⟨bp, bo + k, none⟩ = some (.int .i64 zm)) := ⟨cell_below b8r.out z0, cell_below b8r.out g1, cell_below b8r.out g2⟩
      clear g1 g2
      by_cases hz : zr = zm
      · subst hz
        have C1h := Lib.hid (C1.out rfl)
        go_wp2_with fail
        go_region_held3 (fun w' => w'.cell? ⟨w3.heap.size, 0, none⟩ = some (.slice (some ⟨yq, yo, none⟩) y.ram.length yc) ∧ w'.cell? ⟨yq, yo + k, none⟩ = some (.int .i64 zr) ∧ w'.cell? ⟨bp, bo + k, none⟩ = some (.int .i64 zr)) (first | with_reducible exact S3.out | with_reducible exact cells3_drew S3.out) (first | fail)
        go_wp2
        go_roundw
        case rel => exact ⟨k + 1, by omega, by go_num, by rw [C1h.out], b8r.out.drew⟩
        case measure => simp [intOf]; omega
      · have h4 : (zr == zm) = false := by simpa using hz
        have h5 : (zr != zm) = true := by simpa using hz
        go_wp2_with fail
        go_region_held3 (fun w' => w'.cell? ⟨w3.heap.size, 0, none⟩ = some (.slice (some ⟨yq, yo, none⟩) y.ram.length yc) ∧ w'.cell? ⟨yq, yo + k, none⟩ = some (.int .i64 zr) ∧ w'.cell? ⟨bp, bo + k, none⟩ = some (.int .i64 zm)) (first | with_reducible exact S3.out | with_reducible exact cells3_drew S3.out) (first | fail)
        go_wp2
        go_roundw
        case rel => exact ⟨k + 1, by omega, by go_num, by rw [C2.out hz]; go_num, b8r.out.drew⟩
        case measure => simp [intOf]; omega
    · obtain rfl : k = 256 := by omega
      have b1r : Hid (Below w1.heap.size w1 wr) := b18.out.trans (b8r.out.mono b18.out.size)
      have bZr : Hid (Below Z.heap.size Z wr) := bZ8.out.trans (b8r.out.mono bZ8.out.size)
      have hBr : Hid (Below w.heap.size w wr) := hB8.out.trans (b8r.out.mono hB8.out.size)
      have SR := Lib.hid (twoBelow b8r.out S8.out)
      clear x0 x1 x2 x3 x4 x5 x6 x7 x8 z0 z1 z2 z3 z4 z5 z6 z7 z8 CY CB hki1
      obtain ⟨⟨x0, x1, x2, x3, x4, x5, x6, x7, x8, _⟩, ⟨z0, z1, z2, z3, z4, z5, z6, z7, z8, _⟩⟩ := id SR.out
      have hge : ¬ ((256 : Nat) : Int) < 256 := by omega
      go_wp2_with fail
      refine (calls_int (impl_ReadMemory m.pc (HMM.out.below b1r.out)) HPK.out).mono ?_
      rintro e w9 ⟨rfl, hb9⟩
      have S9 := Lib.hid (twoBelow hb9 SR.out)
      have b19 : Hid (Below w1.heap.size w1 w9) := b1r.out.trans (hb9.mono b1r.out.size)
      have bZ9 : Hid (Below Z.heap.size Z w9) := bZr.out.trans (hb9.mono bZr.out.size)
      have hB9 : Hid (Below w.heap.size w w9) := hBr.out.trans (hb9.mono hBr.out.size)
      clear hb9 x0 x1 x2 x3 x4 x5 x6 x7 x8 z0 z1 z2 z3 z4 z5 z6 z7 z8
      obtain ⟨⟨x0, x1, x2, x3, x4, x5, x6, x7, x8, _⟩, ⟨z0, z1, z2, z3, z4, z5, z6, z7, z8, _⟩⟩ := id S9.out
      have lc := LC.out
      generalize cntD y.ram m.ram 256 = c at *
      generalize m.peek m.pc = op at *
      have HYY := Lib.hid (HXZ.out.below bZ9.out)
      have HMY := Lib.hid (HM.out.below b19.out)
      have MY : Hid (Mat w9 (.slice yb y.rom.length yd) m.rom) := by have := (memV_parts (machV_parts HYY.out).1).2; rw [LR.out] at this ⊢; exact this
      have MX : Hid (Mat w9 (.slice b1 m.rom.length d1) m.rom) := (memV_parts (HMM.out.below b19.out)).2
      rcases lc with rfl | ⟨rfl, rfl⟩
      all_goals
        cases sb
        · go_wp2_with fail
          refine (sameRows_yes MY.out MX.out).mono ?_
          rintro e w10 ⟨rfl, hb10⟩
          have S10 := Lib.hid (twoBelow hb10 S9.out)
          have hB10 : Hid (Below w.heap.size w w10) := hB9.out.trans (hb10.mono hB9.out.size)
          have bb10 : Hid (Below w9.heap.size w9 w10) := hb10
          clear hb10
          clear x0 x1 x2 x3 x4 x5 x6 x7 x8 z0 z1 z2 z3 z4 z5 z6 z7 z8
          obtain ⟨⟨x0, x1, x2, x3, x4, x5, x6, x7, x8, _⟩, ⟨z0, z1, z2, z3, z4, z5, z6, z7, z8, _⟩⟩ := id S10.out
          have hcy : decide (m.cyc ≤ y.cyc) = true := by simpa using lc1
          have hcz : decide (y.cyc ≤ m.cyc + 3) = true := by simpa using lc2
          have hwp : IntKind.i64.wrap (m.cyc + 3) = m.cyc + 3 := by rw [IntKind.wrap_i64]; omega
          go_wp2_with fail
          refine (laws_abs _ ⟨by omega, by omega⟩ _).mono ?_
          rintro e w12 ⟨⟨r, rfl, hr⟩, rfl⟩
          go_wp2_with fail
          go_ret
          exact ⟨rfl, hB10.out⟩
        · have HYM : Hid (MachV w9 (.agg #[.slice (some ⟨yq, yo, none⟩) y.ram.length yc, .slice yb y.rom.length yd, .int .i64 y.bank, .int .i64 y.a, .int .i64 y.pc, .bool y.carry, .slice ye y.back.length yf, .bool y.stop, .int .i64 y.cyc]) m) := by have h := HYY.out; have e := HST.out rfl; rw [e] at h ⊢; exact h
          go_wp2_with fail
          refine (sameRows_yes MY.out MX.out).mono ?_
          rintro e w10 ⟨rfl, hb10⟩
          have S10 := Lib.hid (twoBelow hb10 S9.out)
          have hB10 : Hid (Below w.heap.size w w10) := hB9.out.trans (hb10.mono hB9.out.size)
          have bb10 : Hid (Below w9.heap.size w9 w10) := hb10
          clear hb10
          clear x0 x1 x2 x3 x4 x5 x6 x7 x8 z0 z1 z2 z3 z4 z5 z6 z7 z8
          obtain ⟨⟨x0, x1, x2, x3, x4, x5, x6, x7, x8, _⟩, ⟨z0, z1, z2, z3, z4, z5, z6, z7, z8, _⟩⟩ := id S10.out
          have hcy : decide (m.cyc ≤ y.cyc) = true := by simpa using lc1
          have hcz : decide (y.cyc ≤ m.cyc + 3) = true := by simpa using lc2
          have hwp : IntKind.i64.wrap (m.cyc + 3) = m.cyc + 3 := by rw [IntKind.wrap_i64]; omega
          go_wp2_with fail
          refine (laws_sameMachine (HYM.out.below bb10.out) (HMY.out.below bb10.out)).mono ?_
          rintro e w11 ⟨rfl, hb11⟩
          have S11 := Lib.hid (twoBelow hb11 S10.out)
          have hB11 : Hid (Below w.heap.size w w11) := hB10.out.trans (hb11.mono hB10.out.size)
          clear hb11
          clear x0 x1 x2 x3 x4 x5 x6 x7 x8 z0 z1 z2 z3 z4 z5 z6 z7 z8
          obtain ⟨⟨x0, x1, x2, x3, x4, x5, x6, x7, x8, _⟩, ⟨z0, z1, z2, z3, z4, z5, z6, z7, z8, _⟩⟩ := id S11.out
          go_wp2_with fail
          refine (laws_abs _ ⟨by omega, by omega⟩ _).mono ?_
          rintro e w12 ⟨⟨r, rfl, hr⟩, rfl⟩
          go_wp2_with fail
          go_ret
          exact ⟨rfl, hB11.out⟩
set_option maxRecDepth 100000 in
theorem lifted_FnStepMachine (os : Os) (started : os.Started) (H : Type) (enc : TypeId × Value → H) :
    ReturnsInHanded {} Try.checked os 8 .any (Rows.fnStepMachineSpec.pre6 enc Try.prog Try.f8 Rows.fnStepMachineRow.domain false) (Rows.fnStepMachineSpec.post enc Try.prog Try.f8 false true false false) := by
  refine returnsInHanded_of_change (C := Try.checked) own started (by kernel_rfl) Try.func8
    (ChangeSpec.witness6 (enc := enc) (C := Try.checked) false ⟨#[], #[.slice none 0 0], []⟩ 8 (by kernel_rfl) (by kernel_rfl) (by kernel_rfl) (by kernel_rfl)) ?_
  intro W base args ds gs before hval0 hW hcnd _
  have hval : ∀ (j : Nat) t v, Try.f8.params[j]? = some t → args[j]? = some v → Value.okWide Try.prog W .any base t v := hval0
  have hW' := hW
  obtain ⟨p, q, hA0, hV, rfl, hfz, hnd⟩ := hW
  have hA : DataW.TrodAll enc Try.prog W 0 (fun _ => true) true Try.f8.params.toList args.toList ds p := hA0
  rw [Try.params8] at hA hval
  obtain ⟨v0, vs0, d0, ds0, p0, q0, hargs, rfl, rfl, h0, r0⟩ := trodAll_cons hA
  obtain ⟨rfl, rfl, rfl⟩ := trodAll_nil r0
  obtain rfl : args = #[v0] := by cases args; simp_all
  obtain ⟨rfl, rfl⟩ := trodVars_none hV
  have lt0 : ∀ x ∈ p0, x.block < W.heap.size := by obtain ⟨m, hm⟩ := h0; exact DataW.trod_lt m _ _ _ hm
  have y0 := read_bytes (hval 0 22 v0 rfl rfl) h0
  clear hA0 hval0
  refine (walk_FnStepMachine v0 W y0).mono fun e W' ⟨he, bel⟩ => ?_
  subst he
  exact ⟨_, rfl, _, _, _, [], _, [], hW', trodAll_mk1 (shut_bool Try.underlying4 _), (trodAll_cons_mk (Below.trod laidOut (by kernel_rfl) (of_decide_eq_true (by kernel_rfl)) h0 bel lt0) trodAll_mk0), rfl, bel.frame _, fun h => by cases h⟩
theorem closed_FnStepMachine : joinedFacts Try.prog 8 Try.f8 Rows.fnStepMachineSpec Rows.fnStepMachineRow = true := by
  unfold joinedFacts
  rw [shared.1, shared.2.1, shared.2.2.1, shared.2.2.2]
  kernel_rfl
/-- The given statement of FnStepMachine. -/
theorem FnStepMachine_holds : Rows.FnStepMachineSaid :=
  OpenClaim.holds_of_wide 8 Try.f8 rfl rfl rfl rfl rfl rfl rfl ⟨rfl, rfl, rfl, rfl, rfl⟩ rfl rfl rfl rfl rfl (by kernel_rfl) Try.func8 closed_FnStepMachine
    (of_decide_eq_true (by kernel_rfl)) (by unfold Func.isWrapper; first | (rw [if_pos (by decide +kernel)]; kernel_rfl) | (rw [if_neg (by decide +kernel)]; exact ⟨rfl, rfl⟩))
    (fun os started H enc _ => lifted_FnStepMachine os started H enc)

end Go.Proofs.Ytkkgolgmhckgoaa
end
