/- The law FnRunUntil: for every input it answers true, and changes nothing that was there (with the drawn machines that it uses ahead of it). No condition. -/
import Derived.Test.YtlnpmanghkeieaaDrawMach
import Derived.Test.YtlnpmanghkeieaaDrawMems
import Derived.Test.YtlnpmanghkeieaaMerge
import Derived.Test.YtlnpmanghkeieaaMachFns
import Derived.Test.YtlnpmanghkeieaaDrawByte
import Derived.Test.YtlnpmanghkeieaaMachA
import Derived.Test.YtlnpmanghkeieaaMemRead
import Derived.Test.YtlnpmanghkeieaaCellsN
import Derived.Deep.RegionHeld3
import Derived.Deep.RegionWith
import Derived.Deep.DrawnRows
import Derived.Test.YtlnpmanghkeieaaMachB
section
/- The drawn machines, whole, and with a number. No condition. -/
namespace Go.Proofs.Ytlnpmanghkeieaa
open Go.RowKit
set_option linter.unusedVariables false
set_option linter.unusedSimpArgs false
attribute [local go_sem ↓] Go.wp_at_zero Go.wp_at_succ

def DrawnMach (w : World) (e : Ending) (w' : World) : Prop := ∃ v m, e = .returned v ∧ MachV w' v m ∧ (m.ram.length ≤ 256 ∧ m.cyc ≤ 1000) ∧ Below w.heap.size w w'
def DrawnMach1 (w : World) (e : Ending) (w' : World) : Prop := ∃ v m x, e = .returned (.tuple #[v, .int .i64 x]) ∧ MachV w' v m ∧ (m.ram.length ≤ 256 ∧ m.cyc ≤ 1000) ∧ Below w.heap.size w w'
theorem readerNine {W : World} {rb B b : Nat} (h : Reader W rb B) (n : Nine W b (.slice none 0 0) (.slice none 0 0) (.int .i64 0) (.int .i64 0) (.int .i64 0) (.bool false) (.slice none 0 0) (.bool false) (.int .i64 0)) (hb : b ≠ rb) (y0 y1 y2 y3 y4 y5 y6 y7 y8 : Value) : Reader (((((((((W.setCell ⟨b, 0, none⟩ y0).setCell ⟨b, 1, none⟩ y1).setCell ⟨b, 2, none⟩ y2).setCell ⟨b, 3, none⟩ y3).setCell ⟨b, 4, none⟩ y4).setCell ⟨b, 5, none⟩ y5).setCell ⟨b, 6, none⟩ y6).setCell ⟨b, 7, none⟩ y7).setCell ⟨b, 8, none⟩ y8) rb B := by
  have h0 := h.setOld n.c0 (by intro k; simp) hb y0
  have n0 := n.set0 y0
  have h1 := h0.setOld n0.c1 (by intro k; simp) hb y1
  have n1 := n0.set1 y1
  have h2 := h1.setOld n1.c2 (by intro k; simp) hb y2
  have n2 := n1.set2 y2
  have h3 := h2.setOld n2.c3 (by intro k; simp) hb y3
  have n3 := n2.set3 y3
  have h4 := h3.setOld n3.c4 (by intro k; simp) hb y4
  have n4 := n3.set4 y4
  have h5 := h4.setOld n4.c5 (by intro k; simp) hb y5
  have n5 := n4.set5 y5
  have h6 := h5.setOld n5.c6 (by intro k; simp) hb y6
  have n6 := n5.set6 y6
  have h7 := h6.setOld n6.c7 (by intro k; simp) hb y7
  have n7 := n6.set7 y7
  exact h7.setOld n7.c8 (by intro k; simp) hb y8
/-- A draw that holds a machine (in the box n1) and has not ended: its result's box is block w.heap.size. -/
structure MidM (w : World) (L rb n1 B : Nat) (v x0 x1 x2 x3 x4 x5 x6 x7 x8 y0 y1 y2 y3 y4 y5 y6 y7 y8 : Value) (m : Mach) (W : World) : Prop where
  mach : MachA L W v m
  bel : Below w.heap.size w W
  nine : Nine W n1 x0 x1 x2 x3 x4 x5 x6 x7 x8
  rd : Reader W rb B
  box : Nine W w.heap.size y0 y1 y2 y3 y4 y5 y6 y7 y8
  l1 : w.heap.size < rb
  l2 : rb < L
  l3 : rb < n1
section
variable {w W W' : World} {L rb n1 B B' : Nat} {v x0 x1 x2 x3 x4 x5 x6 x7 x8 y0 y1 y2 y3 y4 y5 y6 y7 y8 : Value} {m : Mach}
theorem MidM.keep (h : MidM w L rb n1 B v x0 x1 x2 x3 x4 x5 x6 x7 x8 y0 y1 y2 y3 y4 y5 y6 y7 y8 m W) (hK : Keep rb W W') (hR : Reader W' rb B') : MidM w L rb n1 B' v x0 x1 x2 x3 x4 x5 x6 x7 x8 y0 y1 y2 y3 y4 y5 y6 y7 y8 m W' := by
  obtain ⟨ma, b, s, r, bx, l1, l2, l3⟩ := h
  exact ⟨ma.keep hK l2, hK.below b (Nat.le_of_lt l1), s.keep hK (by omega), hR, bx.keep hK (by omega), l1, l2, l3⟩
theorem MidM.drew (h : MidM w L rb n1 B v x0 x1 x2 x3 x4 x5 x6 x7 x8 y0 y1 y2 y3 y4 y5 y6 y7 y8 m W) : MidM w L rb n1 B v x0 x1 x2 x3 x4 x5 x6 x7 x8 y0 y1 y2 y3 y4 y5 y6 y7 y8 m W.drew := h.keep (Keep.refl _ _).drew h.rd.drewM
theorem MidM.alloc (h : MidM w L rb n1 B v x0 x1 x2 x3 x4 x5 x6 x7 x8 y0 y1 y2 y3 y4 y5 y6 y7 y8 m W) (o : Obj) : MidM w L rb n1 B v x0 x1 x2 x3 x4 x5 x6 x7 x8 y0 y1 y2 y3 y4 y5 y6 y7 y8 m (W.alloc o) := h.keep ((Keep.refl _ _).alloc o) (h.rd.alloc o)
theorem MidM.setBox (h : MidM w L rb n1 B v x0 x1 x2 x3 x4 x5 x6 x7 x8 (.slice none 0 0) (.slice none 0 0) (.int .i64 0) (.int .i64 0) (.int .i64 0) (.bool false) (.slice none 0 0) (.bool false) (.int .i64 0) m W) (z0 z1 z2 z3 z4 z5 z6 z7 z8 : Value) : MidM w L rb n1 B v x0 x1 x2 x3 x4 x5 x6 x7 x8 z0 z1 z2 z3 z4 z5 z6 z7 z8 m (((((((((W.setCell ⟨w.heap.size, 0, none⟩ z0).setCell ⟨w.heap.size, 1, none⟩ z1).setCell ⟨w.heap.size, 2, none⟩ z2).setCell ⟨w.heap.size, 3, none⟩ z3).setCell ⟨w.heap.size, 4, none⟩ z4).setCell ⟨w.heap.size, 5, none⟩ z5).setCell ⟨w.heap.size, 6, none⟩ z6).setCell ⟨w.heap.size, 7, none⟩ z7).setCell ⟨w.heap.size, 8, none⟩ z8) := by
  obtain ⟨ma, b, s, r, bx, l1, l2, l3⟩ := h
  have hL : w.heap.size < L := by omega
  have hN : n1 ≠ w.heap.size := by omega
  refine ⟨(((((((((ma.set (p := ⟨w.heap.size, 0, none⟩) hL _).set (p := ⟨w.heap.size, 1, none⟩) hL _).set (p := ⟨w.heap.size, 2, none⟩) hL _).set (p := ⟨w.heap.size, 3, none⟩) hL _).set (p := ⟨w.heap.size, 4, none⟩) hL _).set (p := ⟨w.heap.size, 5, none⟩) hL _).set (p := ⟨w.heap.size, 6, none⟩) hL _).set (p := ⟨w.heap.size, 7, none⟩) hL _).set (p := ⟨w.heap.size, 8, none⟩) hL _), (((((((((b.setCell (p := ⟨w.heap.size, 0, none⟩) (Nat.le_refl _) _).setCell (p := ⟨w.heap.size, 1, none⟩) (Nat.le_refl _) _).setCell (p := ⟨w.heap.size, 2, none⟩) (Nat.le_refl _) _).setCell (p := ⟨w.heap.size, 3, none⟩) (Nat.le_refl _) _).setCell (p := ⟨w.heap.size, 4, none⟩) (Nat.le_refl _) _).setCell (p := ⟨w.heap.size, 5, none⟩) (Nat.le_refl _) _).setCell (p := ⟨w.heap.size, 6, none⟩) (Nat.le_refl _) _).setCell (p := ⟨w.heap.size, 7, none⟩) (Nat.le_refl _) _).setCell (p := ⟨w.heap.size, 8, none⟩) (Nat.le_refl _) _), (Nine.other (Nine.other (Nine.other (Nine.other (Nine.other (Nine.other (Nine.other (Nine.other (Nine.other s (i := 0) hN _) (i := 1) hN _) (i := 2) hN _) (i := 3) hN _) (i := 4) hN _) (i := 5) hN _) (i := 6) hN _) (i := 7) hN _) (i := 8) hN _), readerNine r bx (by omega) _ _ _ _ _ _ _ _ _, nine_set9 bx, l1, l2, l3⟩
end
end Go.Proofs.Ytlnpmanghkeieaa
end

section
/- The drawn machines with a number. No condition. -/
namespace Go.Proofs.Ytlnpmanghkeieaa
open Go.RowKit
set_option linter.unusedVariables false
set_option linter.unusedSimpArgs false
attribute [local go_sem ↓] Go.wp_at_zero Go.wp_at_succ

set_option maxHeartbeats 40000000 in
set_option maxRecDepth 20000 in
theorem draw_RunUntil {v : Value} {w : World} (h : IsBytes w v) : Calls Try.prog 4 #[v] w (DrawnMach1 w) := by
  have H := Lib.hid (h.below ((Below.refl _ _).alloc (Nat.le_refl _) (.cells #[.slice none 0 0, .slice none 0 0, .int .i64 0, .int .i64 0, .int .i64 0, .bool false, .slice none 0 0, .bool false, .int .i64 0] 28)))
  clear h
  go_enter Try.func4, Try.ntmps4
  go_wp2_with fail
  refine (l20Open H.out).mono ?_
  rintro e w0 ⟨rb, rfl, hrb, hR0, hB0⟩
  go_wp2_with fail
  refine (l20Machine _ hR0 (by omega)).mono ?_
  rintro e w1 ⟨v, m, rfl, hm, hr1, hR1, hK1⟩
  obtain ⟨P, Q⟩ := box_thru hB0 hrb hK1
  have hw : w.heap.size < (w.alloc (.cells #[.slice none 0 0, .slice none 0 0, .int .i64 0, .int .i64 0, .int .i64 0, .bool false, .slice none 0 0, .bool false, .int .i64 0] 28)).heap.size := by simp
  have hw0 : w.heap.size < w0.heap.size := Nat.lt_of_lt_of_le hw hB0.size
  have hw1 : w.heap.size < w1.heap.size := Nat.lt_of_lt_of_le hw0 hK1.size
  have hb1 : Below w.heap.size w w1 := hK1.below (((Below.refl _ _).alloc (Nat.le_refl _) _).trans (hB0.mono (by omega))) (by omega)
  have hbx : Nine w1 w.heap.size (.slice none 0 0) (.slice none 0 0) (.int .i64 0) (.int .i64 0) (.int .i64 0) (.bool false) (.slice none 0 0) (.bool false) (.int .i64 0) := by
    have n := nine_lit (W := w) (b := w.heap.size) (e := 28) (x0 := .slice none 0 0) (x1 := .slice none 0 0) (x2 := .int .i64 0) (x3 := .int .i64 0) (x4 := .int .i64 0) (x5 := .bool false) (x6 := .slice none 0 0) (x7 := .bool false) (x8 := .int .i64 0) rfl
    exact ⟨(P 0).trans n.c0, (P 1).trans n.c1, (P 2).trans n.c2, (P 3).trans n.c3, (P 4).trans n.c4, (P 5).trans n.c5, (P 6).trans n.c6, (P 7).trans n.c7, (P 8).trans n.c8, fun i => (Q i).trans (n.fz i)⟩
  obtain ⟨a1, c1, b1, d1, f1, g1, rfl, _, _, _, _, _, _⟩ := machV_shape hm.mach
  have hrL : rb < w0.heap.size := hR0.lt
  have hwr : w.heap.size < rb := by omega
  have hRn : w.heap.size ≠ rb := by omega
  obtain ⟨Z, hZ⟩ : ∃ Z, Z = w1.alloc (.cells #[.slice a1 m.ram.length c1, .slice b1 m.rom.length d1, .int .i64 m.bank, .int .i64 m.a, .int .i64 m.pc, .bool m.carry, .slice f1 m.back.length g1, .bool m.stop, .int .i64 m.cyc] 28) := ⟨_, rfl⟩
  have hrn : rb < w1.heap.size := hR1.lt
  have MX : Hid (MidM w w0.heap.size rb w1.heap.size (1200 + 0) (.agg #[.slice a1 m.ram.length c1, .slice b1 m.rom.length d1, .int .i64 m.bank, .int .i64 m.a, .int .i64 m.pc, .bool m.carry, .slice f1 m.back.length g1, .bool m.stop, .int .i64 m.cyc]) (.slice a1 m.ram.length c1) (.slice b1 m.rom.length d1) (.int .i64 m.bank) (.int .i64 m.a) (.int .i64 m.pc) (.bool m.carry) (.slice f1 m.back.length g1) (.bool m.stop) (.int .i64 m.cyc) (.slice none 0 0) (.slice none 0 0) (.int .i64 0) (.int .i64 0) (.int .i64 0) (.bool false) (.slice none 0 0) (.bool false) (.int .i64 0) m Z) := by
    rw [hZ]
    exact ⟨hm.alloc _, hb1.alloc (by omega) _, nine_lit rfl, (hR1.mono (by omega)).alloc _, hbx.alloc _, hwr, hrL, hrn⟩
  clear hB0 hrb hR0 hR1 hK1 P Q hm hb1 hbx
  go_upto_region 3 with fail
  rw [← hZ]
  clear hZ
  have hMF := Lib.hid MX.out.drew
  clear MX
  refine wp_region_any (by kernel_rfl) ?_
  (try (change wpAny _ _ _ _ _ _ _ (World.drew _)))
  refine name_act (fun A0 hA0 => ?_)
  refine wpAny_pre 2 #[true, true, true, true, true, true, true, true, true, true, true, true, false, false] (fun act9 W => ∃ q2 : Int, ∃ s3 : Int, ∃ q5 : Int, ∃ b6 : Nat, ∃ k8 : Nat, ∃ k9 : Nat, ∃ r11 : Int, act9 = ((((((((((((A0.put (some 10) (.agg #[.slice a1 m.ram.length c1, .slice b1 m.rom.length d1, .int .i64 m.bank, .int .i64 m.a, .int .i64 m.pc, .bool m.carry, .slice f1 m.back.length g1, .bool m.stop, .int .i64 m.cyc])).put (some 11) (.pointer (some ⟨rb, 0, none⟩))).put (some 12) (.int .i64 q2)).put (some 13) (.int .i64 s3)).put (some 14) (.pointer (some ⟨rb, 0, none⟩))).put (some 15) (.int .i64 q5)).put (some 16) (.slice (some ⟨b6, 0, none⟩) 2 2)).put (some 17) (.pointer (some ⟨rb, 0, none⟩))).put (some 18) (.int .i64 (k8 : Int))).put (some 19) (.int .i64 (k9 : Int))).put (some 20) (.pointer (some ⟨b6, k9, none⟩))).put (some 21) (.int .i64 r11)) ∧ Hid (MidM w w0.heap.size rb w1.heap.size (1200 + 10) (.agg #[.slice a1 m.ram.length c1, .slice b1 m.rom.length d1, .int .i64 m.bank, .int .i64 m.a, .int .i64 m.pc, .bool m.carry, .slice f1 m.back.length g1, .bool m.stop, .int .i64 m.cyc]) (.slice a1 m.ram.length c1) (.slice b1 m.rom.length d1) (.int .i64 m.bank) (.int .i64 m.a) (.int .i64 m.pc) (.bool m.carry) (.slice f1 m.back.length g1) (.bool m.stop) (.int .i64 m.cyc) (.slice none 0 0) (.slice none 0 0) (.int .i64 0) (.int .i64 0) (.int .i64 0) (.bool false) (.slice none 0 0) (.bool false) (.int .i64 0) m W) ∧ Hid (LitI rb 2 W b6) ∧ Hid (w.heap.size ≠ b6) ∧ Hid (k9 < 2)) ?_ (fun HD0 => ?_)
  · rintro act9 W ⟨q2, s3, q5, b6, k8, k9, r11, rfl, hF, h6, n6, hk9⟩
    subst hA0
    have hlW := hF.out.rd.lt
    obtain ⟨x0, x1, x2, x3, x4, x5, x6, x7, x8, xf⟩ := id hF.out.nine
    clear xf
    obtain ⟨e0, e1, e2, e3, e4, e5, e6, e7, e8, ef⟩ := id hF.out.box
    have ef0 := ef 0
    have ef1 := ef 1
    have ef2 := ef 2
    have ef3 := ef 3
    have ef4 := ef 4
    have ef5 := ef 5
    have ef6 := ef 6
    have ef7 := ef 7
    have ef8 := ef 8
    clear ef
    have hX1 : w1.heap.size < W.heap.size := block_lt_of_cell x0
    have hXw : w.heap.size < W.heap.size := block_lt_of_cell e0
    (try simp only [Act.put, List.setIfInBounds_toArray, List.set_cons_zero, List.set_cons_succ])
    refine wpAny_ready (rs := [12]) (by kernel_rfl) (by simp) ?_
    refine AllReady.cons (o := ({ dst := none, op := Op.store 28 (Operand.tmp 2) (Operand.tmp 10), type := 0, pos := "l20_draw.go:331", after := #[{ on := 0, ground := Ground.data }, { on := 8, ground := Ground.chain }, { on := 0, ground := Ground.phase }, { on := 1, ground := Ground.textOnly Departure.lateStores }, { on := 2, ground := Ground.textOnly Departure.lateStoresUnsure }, { on := 3, ground := Ground.textOnly Departure.lateStores }, { on := 4, ground := Ground.textOnly Departure.lateStores }, { on := 5, ground := Ground.textOnly Departure.lateStoresUnsure }, { on := 6, ground := Ground.textOnly Departure.lateStores }, { on := 7, ground := Ground.textOnly Departure.lateStores }, { on := 8, ground := Ground.textOnly Departure.lateStoresUnsure }, { on := 9, ground := Ground.textOnly Departure.lateStores }, { on := 10, ground := Ground.textOnly Departure.lateStores }, { on := 11, ground := Ground.textOnly Departure.lateStores }], guard := none } : Oper)) rfl (fun K hK => ?_) ?_
    · go_simp
      refine hK _ _ ?_
      clear hK K
      (try simp only [Act.put, List.setIfInBounds_toArray, List.set_cons_zero, List.set_cons_succ])
      refine wpAny_take (i := 13) (oi := ({ dst := some 3, op := Op.assign (Operand.tmp 21), type := 3, pos := "l20_draw.go:331", after := #[{ on := 11, ground := Ground.data }, { on := 12, ground := Ground.chain }, { on := 0, ground := Ground.phase }, { on := 1, ground := Ground.phase }, { on := 2, ground := Ground.phase }, { on := 3, ground := Ground.phase }, { on := 4, ground := Ground.phase }, { on := 5, ground := Ground.phase }, { on := 6, ground := Ground.phase }, { on := 7, ground := Ground.phase }, { on := 8, ground := Ground.phase }, { on := 9, ground := Ground.phase }, { on := 10, ground := Ground.phase }, { on := 11, ground := Ground.phase }, { on := 12, ground := Ground.phase }], guard := none } : Oper)) (v := ?_) rfl (by kernel_rfl) (by kernel_rfl) (by kernel_rfl) (fun _ _ _ h => h) (Or.inl ⟨by rfl, ?_⟩) ?_
      rotate_left
      · intro wq; go_simp; (try with_reducible rfl)
      (try simp only [Act.put, List.setIfInBounds_toArray, List.set_cons_zero, List.set_cons_succ])
      refine wpAny_done (by kernel_rfl) ?_ _
      go_wp2_with fail
      refine bodyPost_ret (v := .tuple #[.agg #[.slice a1 m.ram.length c1, .slice b1 m.rom.length d1, .int .i64 m.bank, .int .i64 m.a, .int .i64 m.pc, .bool m.carry, .slice f1 m.back.length g1, .bool m.stop, .int .i64 m.cyc], .int .i64 r11]) (by simp [results, Try.results4, go_sem, e0, e1, e2, e3, e4, e5, e6, e7, e8]) rfl ⟨_, m, r11, rfl, ?_, hr1, ?_⟩
      · first | with_reducible exact hF.out.mach.mach | exact (hF.out.setBox _ _ _ _ _ _ _ _ _).mach.mach
      · first | with_reducible exact hF.out.bel | exact (hF.out.setBox _ _ _ _ _ _ _ _ _).bel
    exact AllReady.nil
  refine wpAny_pre 2 #[true, true, true, true, true, true, true, true, true, true, true, false, true, false] (fun act9 W => ∃ q2 : Int, ∃ s3 : Int, ∃ q5 : Int, ∃ b6 : Nat, ∃ k8 : Nat, ∃ k9 : Nat, act9 = (((((((((((A0.put (some 10) (.agg #[.slice a1 m.ram.length c1, .slice b1 m.rom.length d1, .int .i64 m.bank, .int .i64 m.a, .int .i64 m.pc, .bool m.carry, .slice f1 m.back.length g1, .bool m.stop, .int .i64 m.cyc])).put (some 11) (.pointer (some ⟨rb, 0, none⟩))).put (some 12) (.int .i64 q2)).put (some 13) (.int .i64 s3)).put (some 14) (.pointer (some ⟨rb, 0, none⟩))).put (some 15) (.int .i64 q5)).put (some 16) (.slice (some ⟨b6, 0, none⟩) 2 2)).put (some 17) (.pointer (some ⟨rb, 0, none⟩))).put (some 18) (.int .i64 (k8 : Int))).put (some 19) (.int .i64 (k9 : Int))).put (some 20) (.pointer (some ⟨b6, k9, none⟩))) ∧ Hid (MidM w w0.heap.size rb w1.heap.size (1200 + 10) (.agg #[.slice a1 m.ram.length c1, .slice b1 m.rom.length d1, .int .i64 m.bank, .int .i64 m.a, .int .i64 m.pc, .bool m.carry, .slice f1 m.back.length g1, .bool m.stop, .int .i64 m.cyc]) (.slice a1 m.ram.length c1) (.slice b1 m.rom.length d1) (.int .i64 m.bank) (.int .i64 m.a) (.int .i64 m.pc) (.bool m.carry) (.slice f1 m.back.length g1) (.bool m.stop) (.int .i64 m.cyc) (.slice a1 m.ram.length c1) (.slice b1 m.rom.length d1) (.int .i64 m.bank) (.int .i64 m.a) (.int .i64 m.pc) (.bool m.carry) (.slice f1 m.back.length g1) (.bool m.stop) (.int .i64 m.cyc) m W) ∧ Hid (LitI rb 2 W b6) ∧ Hid (w.heap.size ≠ b6) ∧ Hid (k9 < 2)) ?_ (fun HD1 => ?_)
  · rintro act9 W ⟨q2, s3, q5, b6, k8, k9, rfl, hF, h6, n6, hk9⟩
    subst hA0
    have hlW := hF.out.rd.lt
    obtain ⟨x0, x1, x2, x3, x4, x5, x6, x7, x8, xf⟩ := id hF.out.nine
    clear xf
    obtain ⟨e0, e1, e2, e3, e4, e5, e6, e7, e8, ef⟩ := id hF.out.box
    have ef0 := ef 0
    have ef1 := ef 1
    have ef2 := ef 2
    have ef3 := ef 3
    have ef4 := ef 4
    have ef5 := ef 5
    have ef6 := ef 6
    have ef7 := ef 7
    have ef8 := ef 8
    clear ef
    have hX1 : w1.heap.size < W.heap.size := block_lt_of_cell x0
    have hXw : w.heap.size < W.heap.size := block_lt_of_cell e0
    (try simp only [Act.put, List.setIfInBounds_toArray, List.set_cons_zero, List.set_cons_succ])
    refine wpAny_ready (rs := [11]) (by kernel_rfl) (by simp) ?_
    refine AllReady.cons (o := ({ dst := some 21, op := Op.load 3 (Operand.tmp 20), type := 3, pos := "l20_draw.go:331", after := #[{ on := 10, ground := Ground.data }, { on := 12, ground := Ground.gcOnly Departure.lateStores }], guard := none } : Oper)) rfl (fun K hK => ?_) ?_
    · obtain ⟨r11, hc11⟩ := h6.out.2.2 k9 hk9.out
      go_simp
      refine hK _ _ ?_
      clear hK K
      (try simp only [Act.put, List.setIfInBounds_toArray, List.set_cons_zero, List.set_cons_succ])
      refine wpAny_take (i := 13) (oi := ({ dst := some 3, op := Op.assign (Operand.tmp 21), type := 3, pos := "l20_draw.go:331", after := #[{ on := 11, ground := Ground.data }, { on := 12, ground := Ground.chain }, { on := 0, ground := Ground.phase }, { on := 1, ground := Ground.phase }, { on := 2, ground := Ground.phase }, { on := 3, ground := Ground.phase }, { on := 4, ground := Ground.phase }, { on := 5, ground := Ground.phase }, { on := 6, ground := Ground.phase }, { on := 7, ground := Ground.phase }, { on := 8, ground := Ground.phase }, { on := 9, ground := Ground.phase }, { on := 10, ground := Ground.phase }, { on := 11, ground := Ground.phase }, { on := 12, ground := Ground.phase }], guard := none } : Oper)) (v := ?_) rfl (by kernel_rfl) (by kernel_rfl) (by kernel_rfl) (fun _ _ _ h => h) (Or.inl ⟨by rfl, ?_⟩) ?_
      rotate_left
      · intro wq; go_simp; (try with_reducible rfl)
      (try simp only [Act.put, List.setIfInBounds_toArray, List.set_cons_zero, List.set_cons_succ])
      refine wpAny_done (by kernel_rfl) ?_ _
      go_wp2_with fail
      refine bodyPost_ret (v := .tuple #[.agg #[.slice a1 m.ram.length c1, .slice b1 m.rom.length d1, .int .i64 m.bank, .int .i64 m.a, .int .i64 m.pc, .bool m.carry, .slice f1 m.back.length g1, .bool m.stop, .int .i64 m.cyc], .int .i64 r11]) (by simp [results, Try.results4, go_sem, e0, e1, e2, e3, e4, e5, e6, e7, e8]) rfl ⟨_, m, r11, rfl, ?_, hr1, ?_⟩
      · first | with_reducible exact hF.out.mach.mach | exact (hF.out.setBox _ _ _ _ _ _ _ _ _).mach.mach
      · first | with_reducible exact hF.out.bel | exact (hF.out.setBox _ _ _ _ _ _ _ _ _).bel
    exact AllReady.nil
  refine wpAny_pre 3 #[true, true, true, true, true, true, true, true, true, true, true, false, false, false] (fun act9 W => ∃ q2 : Int, ∃ s3 : Int, ∃ q5 : Int, ∃ b6 : Nat, ∃ k8 : Nat, ∃ k9 : Nat, act9 = (((((((((((A0.put (some 10) (.agg #[.slice a1 m.ram.length c1, .slice b1 m.rom.length d1, .int .i64 m.bank, .int .i64 m.a, .int .i64 m.pc, .bool m.carry, .slice f1 m.back.length g1, .bool m.stop, .int .i64 m.cyc])).put (some 11) (.pointer (some ⟨rb, 0, none⟩))).put (some 12) (.int .i64 q2)).put (some 13) (.int .i64 s3)).put (some 14) (.pointer (some ⟨rb, 0, none⟩))).put (some 15) (.int .i64 q5)).put (some 16) (.slice (some ⟨b6, 0, none⟩) 2 2)).put (some 17) (.pointer (some ⟨rb, 0, none⟩))).put (some 18) (.int .i64 (k8 : Int))).put (some 19) (.int .i64 (k9 : Int))).put (some 20) (.pointer (some ⟨b6, k9, none⟩))) ∧ Hid (MidM w w0.heap.size rb w1.heap.size (1200 + 10) (.agg #[.slice a1 m.ram.length c1, .slice b1 m.rom.length d1, .int .i64 m.bank, .int .i64 m.a, .int .i64 m.pc, .bool m.carry, .slice f1 m.back.length g1, .bool m.stop, .int .i64 m.cyc]) (.slice a1 m.ram.length c1) (.slice b1 m.rom.length d1) (.int .i64 m.bank) (.int .i64 m.a) (.int .i64 m.pc) (.bool m.carry) (.slice f1 m.back.length g1) (.bool m.stop) (.int .i64 m.cyc) (.slice none 0 0) (.slice none 0 0) (.int .i64 0) (.int .i64 0) (.int .i64 0) (.bool false) (.slice none 0 0) (.bool false) (.int .i64 0) m W) ∧ Hid (LitI rb 2 W b6) ∧ Hid (w.heap.size ≠ b6) ∧ Hid (k9 < 2)) ?_ (fun HD2 => ?_)
  · rintro act9 W ⟨q2, s3, q5, b6, k8, k9, rfl, hF, h6, n6, hk9⟩
    subst hA0
    have hlW := hF.out.rd.lt
    obtain ⟨x0, x1, x2, x3, x4, x5, x6, x7, x8, xf⟩ := id hF.out.nine
    clear xf
    obtain ⟨e0, e1, e2, e3, e4, e5, e6, e7, e8, ef⟩ := id hF.out.box
    have ef0 := ef 0
    have ef1 := ef 1
    have ef2 := ef 2
    have ef3 := ef 3
    have ef4 := ef 4
    have ef5 := ef 5
    have ef6 := ef 6
    have ef7 := ef 7
    have ef8 := ef 8
    clear ef
    have hX1 : w1.heap.size < W.heap.size := block_lt_of_cell x0
    have hXw : w.heap.size < W.heap.size := block_lt_of_cell e0
    (try simp only [Act.put, List.setIfInBounds_toArray, List.set_cons_zero, List.set_cons_succ])
    refine wpAny_ready (rs := [11, 12]) (by kernel_rfl) (by simp) ?_
    refine AllReady.cons (o := ({ dst := some 21, op := Op.load 3 (Operand.tmp 20), type := 3, pos := "l20_draw.go:331", after := #[{ on := 10, ground := Ground.data }, { on := 12, ground := Ground.gcOnly Departure.lateStores }], guard := none } : Oper)) rfl (fun K hK => ?_) ?_
    · obtain ⟨r11, hc11⟩ := h6.out.2.2 k9 hk9.out
      go_simp
      refine hK _ _ ?_
      clear hK K
      (try simp only [Act.put, List.setIfInBounds_toArray, List.set_cons_zero, List.set_cons_succ])
      refine wpAny_to (by kernel_rfl) (by kernel_rfl) (HD0.out _ _ ?_)
      apply Exists.intro
      apply Exists.intro
      apply Exists.intro
      apply Exists.intro
      apply Exists.intro
      apply Exists.intro
      apply Exists.intro
      refine ⟨?_, ?_, ?_, ?_, ?_⟩
      · (try simp only [Act.put, List.setIfInBounds_toArray, List.set_cons_zero, List.set_cons_succ]); (try rfl)
      · exact hF.out
      · exact h6.out
      · exact n6.out
      · exact hk9.out
    refine AllReady.cons (o := ({ dst := none, op := Op.store 28 (Operand.tmp 2) (Operand.tmp 10), type := 0, pos := "l20_draw.go:331", after := #[{ on := 0, ground := Ground.data }, { on := 8, ground := Ground.chain }, { on := 0, ground := Ground.phase }, { on := 1, ground := Ground.textOnly Departure.lateStores }, { on := 2, ground := Ground.textOnly Departure.lateStoresUnsure }, { on := 3, ground := Ground.textOnly Departure.lateStores }, { on := 4, ground := Ground.textOnly Departure.lateStores }, { on := 5, ground := Ground.textOnly Departure.lateStoresUnsure }, { on := 6, ground := Ground.textOnly Departure.lateStores }, { on := 7, ground := Ground.textOnly Departure.lateStores }, { on := 8, ground := Ground.textOnly Departure.lateStoresUnsure }, { on := 9, ground := Ground.textOnly Departure.lateStores }, { on := 10, ground := Ground.textOnly Departure.lateStores }, { on := 11, ground := Ground.textOnly Departure.lateStores }], guard := none } : Oper)) rfl (fun K hK => ?_) ?_
    · go_simp
      refine hK _ _ ?_
      clear hK K
      (try simp only [Act.put, List.setIfInBounds_toArray, List.set_cons_zero, List.set_cons_succ])
      refine wpAny_to (by kernel_rfl) (by kernel_rfl) (HD1.out _ _ ?_)
      apply Exists.intro
      apply Exists.intro
      apply Exists.intro
      apply Exists.intro
      apply Exists.intro
      apply Exists.intro
      refine ⟨?_, ?_, ?_, ?_, ?_⟩
      · (try simp only [Act.put, List.setIfInBounds_toArray, List.set_cons_zero, List.set_cons_succ]); (try rfl)
      · exact hF.out.setBox _ _ _ _ _ _ _ _ _
      · exact (((((((((h6.out.set (p := ⟨w.heap.size, 0, none⟩) n6.out _).set (p := ⟨w.heap.size, 1, none⟩) n6.out _).set (p := ⟨w.heap.size, 2, none⟩) n6.out _).set (p := ⟨w.heap.size, 3, none⟩) n6.out _).set (p := ⟨w.heap.size, 4, none⟩) n6.out _).set (p := ⟨w.heap.size, 5, none⟩) n6.out _).set (p := ⟨w.heap.size, 6, none⟩) n6.out _).set (p := ⟨w.heap.size, 7, none⟩) n6.out _).set (p := ⟨w.heap.size, 8, none⟩) n6.out _)
      · exact n6.out
      · exact hk9.out
    exact AllReady.nil
  refine wpAny_pre 3 #[false, true, true, true, true, true, true, true, true, true, true, true, false, false] (fun act9 W => ∃ q2 : Int, ∃ s3 : Int, ∃ q5 : Int, ∃ b6 : Nat, ∃ k8 : Nat, ∃ k9 : Nat, ∃ r11 : Int, act9 = (((((((((((A0.put (some 11) (.pointer (some ⟨rb, 0, none⟩))).put (some 12) (.int .i64 q2)).put (some 13) (.int .i64 s3)).put (some 14) (.pointer (some ⟨rb, 0, none⟩))).put (some 15) (.int .i64 q5)).put (some 16) (.slice (some ⟨b6, 0, none⟩) 2 2)).put (some 17) (.pointer (some ⟨rb, 0, none⟩))).put (some 18) (.int .i64 (k8 : Int))).put (some 19) (.int .i64 (k9 : Int))).put (some 20) (.pointer (some ⟨b6, k9, none⟩))).put (some 21) (.int .i64 r11)) ∧ Hid (MidM w w0.heap.size rb w1.heap.size (1200 + 10) (.agg #[.slice a1 m.ram.length c1, .slice b1 m.rom.length d1, .int .i64 m.bank, .int .i64 m.a, .int .i64 m.pc, .bool m.carry, .slice f1 m.back.length g1, .bool m.stop, .int .i64 m.cyc]) (.slice a1 m.ram.length c1) (.slice b1 m.rom.length d1) (.int .i64 m.bank) (.int .i64 m.a) (.int .i64 m.pc) (.bool m.carry) (.slice f1 m.back.length g1) (.bool m.stop) (.int .i64 m.cyc) (.slice none 0 0) (.slice none 0 0) (.int .i64 0) (.int .i64 0) (.int .i64 0) (.bool false) (.slice none 0 0) (.bool false) (.int .i64 0) m W) ∧ Hid (LitI rb 2 W b6) ∧ Hid (w.heap.size ≠ b6) ∧ Hid (k9 < 2)) ?_ (fun HD3 => ?_)
  · rintro act9 W ⟨q2, s3, q5, b6, k8, k9, r11, rfl, hF, h6, n6, hk9⟩
    subst hA0
    have hlW := hF.out.rd.lt
    obtain ⟨x0, x1, x2, x3, x4, x5, x6, x7, x8, xf⟩ := id hF.out.nine
    clear xf
    obtain ⟨e0, e1, e2, e3, e4, e5, e6, e7, e8, ef⟩ := id hF.out.box
    have ef0 := ef 0
    have ef1 := ef 1
    have ef2 := ef 2
    have ef3 := ef 3
    have ef4 := ef 4
    have ef5 := ef 5
    have ef6 := ef 6
    have ef7 := ef 7
    have ef8 := ef 8
    clear ef
    have hX1 : w1.heap.size < W.heap.size := block_lt_of_cell x0
    have hXw : w.heap.size < W.heap.size := block_lt_of_cell e0
    (try simp only [Act.put, List.setIfInBounds_toArray, List.set_cons_zero, List.set_cons_succ])
    refine wpAny_ready (rs := [0]) (by kernel_rfl) (by simp) ?_
    refine AllReady.cons (o := ({ dst := some 10, op := Op.load 28 (Operand.tmp 5), type := 28, pos := "l20_draw.go:331", after := #[], guard := none } : Oper)) rfl (fun K hK => ?_) ?_
    · go_simp
      refine hK _ _ ?_
      clear hK K
      (try simp only [Act.put, List.setIfInBounds_toArray, List.set_cons_zero, List.set_cons_succ])
      refine wpAny_to (by kernel_rfl) (by kernel_rfl) (HD0.out _ _ ?_)
      apply Exists.intro
      apply Exists.intro
      apply Exists.intro
      apply Exists.intro
      apply Exists.intro
      apply Exists.intro
      apply Exists.intro
      refine ⟨?_, ?_, ?_, ?_, ?_⟩
      · (try simp only [Act.put, List.setIfInBounds_toArray, List.set_cons_zero, List.set_cons_succ]); (try rfl)
      · exact hF.out
      · exact h6.out
      · exact n6.out
      · exact hk9.out
    exact AllReady.nil
  refine wpAny_pre 4 #[true, true, true, true, true, true, false, true, true, true, false, false, true, false] (fun act9 W => ∃ q2 : Int, ∃ s3 : Int, ∃ q5 : Int, ∃ k8 : Nat, ∃ k9 : Nat, act9 = (((((((((A0.put (some 10) (.agg #[.slice a1 m.ram.length c1, .slice b1 m.rom.length d1, .int .i64 m.bank, .int .i64 m.a, .int .i64 m.pc, .bool m.carry, .slice f1 m.back.length g1, .bool m.stop, .int .i64 m.cyc])).put (some 11) (.pointer (some ⟨rb, 0, none⟩))).put (some 12) (.int .i64 q2)).put (some 13) (.int .i64 s3)).put (some 14) (.pointer (some ⟨rb, 0, none⟩))).put (some 15) (.int .i64 q5)).put (some 17) (.pointer (some ⟨rb, 0, none⟩))).put (some 18) (.int .i64 (k8 : Int))).put (some 19) (.int .i64 (k9 : Int))) ∧ Hid (MidM w w0.heap.size rb w1.heap.size (1200 + 10) (.agg #[.slice a1 m.ram.length c1, .slice b1 m.rom.length d1, .int .i64 m.bank, .int .i64 m.a, .int .i64 m.pc, .bool m.carry, .slice f1 m.back.length g1, .bool m.stop, .int .i64 m.cyc]) (.slice a1 m.ram.length c1) (.slice b1 m.rom.length d1) (.int .i64 m.bank) (.int .i64 m.a) (.int .i64 m.pc) (.bool m.carry) (.slice f1 m.back.length g1) (.bool m.stop) (.int .i64 m.cyc) (.slice a1 m.ram.length c1) (.slice b1 m.rom.length d1) (.int .i64 m.bank) (.int .i64 m.a) (.int .i64 m.pc) (.bool m.carry) (.slice f1 m.back.length g1) (.bool m.stop) (.int .i64 m.cyc) m W) ∧ Hid (k9 < 2)) ?_ (fun HD4 => ?_)
  · rintro act9 W ⟨q2, s3, q5, k8, k9, rfl, hF, hk9⟩
    subst hA0
    have hlW := hF.out.rd.lt
    obtain ⟨x0, x1, x2, x3, x4, x5, x6, x7, x8, xf⟩ := id hF.out.nine
    clear xf
    obtain ⟨e0, e1, e2, e3, e4, e5, e6, e7, e8, ef⟩ := id hF.out.box
    have ef0 := ef 0
    have ef1 := ef 1
    have ef2 := ef 2
    have ef3 := ef 3
    have ef4 := ef 4
    have ef5 := ef 5
    have ef6 := ef 6
    have ef7 := ef 7
    have ef8 := ef 8
    clear ef
    have hX1 : w1.heap.size < W.heap.size := block_lt_of_cell x0
    have hXw : w.heap.size < W.heap.size := block_lt_of_cell e0
    (try simp only [Act.put, List.setIfInBounds_toArray, List.set_cons_zero, List.set_cons_succ])
    refine wpAny_ready (rs := [6]) (by kernel_rfl) (by simp) ?_
    refine AllReady.cons (o := ({ dst := some 16, op := Op.buildSlice 23 2 #[(0, Operand.tmp 13), (1, Operand.tmp 15)], type := 23, pos := "l20_draw.go:331", after := #[{ on := 3, ground := Ground.data }, { on := 5, ground := Ground.data }, { on := 12, ground := Ground.gcOnly Departure.lateStores }], guard := none } : Oper)) rfl (fun K hK => ?_) ?_
    · go_simp
      refine hK _ _ ?_
      clear hK K
      (try simp only [Act.put, List.setIfInBounds_toArray, List.set_cons_zero, List.set_cons_succ])
      have hk9i : (k9 : Int) < 2 := by have := hk9.out; omega
      refine wpAny_take (i := 10) (oi := ({ dst := some 20, op := Op.indexAddr 23 (Operand.tmp 16) (Operand.tmp 19), type := 0, pos := "l20_draw.go:331", after := #[{ on := 6, ground := Ground.data }, { on := 9, ground := Ground.data }, { on := 12, ground := Ground.gcOnly Departure.lateStores }], guard := none } : Oper)) (v := ?_) rfl (by kernel_rfl) (by kernel_rfl) (by kernel_rfl) (fun _ _ _ h => h) (Or.inl ⟨by rfl, ?_⟩) ?_
      rotate_left
      · intro wq; go_simp; (try with_reducible rfl)
      (try simp only [Act.put, List.setIfInBounds_toArray, List.set_cons_zero, List.set_cons_succ])
      refine wpAny_to (by kernel_rfl) (by kernel_rfl) (HD1.out _ _ ?_)
      apply Exists.intro
      apply Exists.intro
      apply Exists.intro
      apply Exists.intro
      apply Exists.intro
      apply Exists.intro
      refine ⟨?_, ?_, ?_, ?_, ?_⟩
      · (try simp only [Act.put, List.setIfInBounds_toArray, List.set_cons_zero, List.set_cons_succ]); (try rfl)
      · exact hF.out.alloc _
      · exact LitI.new rfl rfl hlW
      · exact Nat.ne_of_lt hXw
      · exact hk9.out
    exact AllReady.nil
  refine wpAny_pre 4 #[false, true, true, true, true, true, true, true, true, true, true, false, false, false] (fun act9 W => ∃ q2 : Int, ∃ s3 : Int, ∃ q5 : Int, ∃ b6 : Nat, ∃ k8 : Nat, ∃ k9 : Nat, act9 = ((((((((((A0.put (some 11) (.pointer (some ⟨rb, 0, none⟩))).put (some 12) (.int .i64 q2)).put (some 13) (.int .i64 s3)).put (some 14) (.pointer (some ⟨rb, 0, none⟩))).put (some 15) (.int .i64 q5)).put (some 16) (.slice (some ⟨b6, 0, none⟩) 2 2)).put (some 17) (.pointer (some ⟨rb, 0, none⟩))).put (some 18) (.int .i64 (k8 : Int))).put (some 19) (.int .i64 (k9 : Int))).put (some 20) (.pointer (some ⟨b6, k9, none⟩))) ∧ Hid (MidM w w0.heap.size rb w1.heap.size (1200 + 10) (.agg #[.slice a1 m.ram.length c1, .slice b1 m.rom.length d1, .int .i64 m.bank, .int .i64 m.a, .int .i64 m.pc, .bool m.carry, .slice f1 m.back.length g1, .bool m.stop, .int .i64 m.cyc]) (.slice a1 m.ram.length c1) (.slice b1 m.rom.length d1) (.int .i64 m.bank) (.int .i64 m.a) (.int .i64 m.pc) (.bool m.carry) (.slice f1 m.back.length g1) (.bool m.stop) (.int .i64 m.cyc) (.slice none 0 0) (.slice none 0 0) (.int .i64 0) (.int .i64 0) (.int .i64 0) (.bool false) (.slice none 0 0) (.bool false) (.int .i64 0) m W) ∧ Hid (LitI rb 2 W b6) ∧ Hid (w.heap.size ≠ b6) ∧ Hid (k9 < 2)) ?_ (fun HD5 => ?_)
  · rintro act9 W ⟨q2, s3, q5, b6, k8, k9, rfl, hF, h6, n6, hk9⟩
    subst hA0
    have hlW := hF.out.rd.lt
    obtain ⟨x0, x1, x2, x3, x4, x5, x6, x7, x8, xf⟩ := id hF.out.nine
    clear xf
    obtain ⟨e0, e1, e2, e3, e4, e5, e6, e7, e8, ef⟩ := id hF.out.box
    have ef0 := ef 0
    have ef1 := ef 1
    have ef2 := ef 2
    have ef3 := ef 3
    have ef4 := ef 4
    have ef5 := ef 5
    have ef6 := ef 6
    have ef7 := ef 7
    have ef8 := ef 8
    clear ef
    have hX1 : w1.heap.size < W.heap.size := block_lt_of_cell x0
    have hXw : w.heap.size < W.heap.size := block_lt_of_cell e0
    (try simp only [Act.put, List.setIfInBounds_toArray, List.set_cons_zero, List.set_cons_succ])
    refine wpAny_ready (rs := [0, 11]) (by kernel_rfl) (by simp) ?_
    refine AllReady.cons (o := ({ dst := some 10, op := Op.load 28 (Operand.tmp 5), type := 28, pos := "l20_draw.go:331", after := #[], guard := none } : Oper)) rfl (fun K hK => ?_) ?_
    · go_simp
      refine hK _ _ ?_
      clear hK K
      (try simp only [Act.put, List.setIfInBounds_toArray, List.set_cons_zero, List.set_cons_succ])
      refine wpAny_to (by kernel_rfl) (by kernel_rfl) (HD2.out _ _ ?_)
      apply Exists.intro
      apply Exists.intro
      apply Exists.intro
      apply Exists.intro
      apply Exists.intro
      apply Exists.intro
      refine ⟨?_, ?_, ?_, ?_, ?_⟩
      · (try simp only [Act.put, List.setIfInBounds_toArray, List.set_cons_zero, List.set_cons_succ]); (try rfl)
      · exact hF.out
      · exact h6.out
      · exact n6.out
      · exact hk9.out
    refine AllReady.cons (o := ({ dst := some 21, op := Op.load 3 (Operand.tmp 20), type := 3, pos := "l20_draw.go:331", after := #[{ on := 10, ground := Ground.data }, { on := 12, ground := Ground.gcOnly Departure.lateStores }], guard := none } : Oper)) rfl (fun K hK => ?_) ?_
    · obtain ⟨r11, hc11⟩ := h6.out.2.2 k9 hk9.out
      go_simp
      refine hK _ _ ?_
      clear hK K
      (try simp only [Act.put, List.setIfInBounds_toArray, List.set_cons_zero, List.set_cons_succ])
      refine wpAny_to (by kernel_rfl) (by kernel_rfl) (HD3.out _ _ ?_)
      apply Exists.intro
      apply Exists.intro
      apply Exists.intro
      apply Exists.intro
      apply Exists.intro
      apply Exists.intro
      apply Exists.intro
      refine ⟨?_, ?_, ?_, ?_, ?_⟩
      · (try simp only [Act.put, List.setIfInBounds_toArray, List.set_cons_zero, List.set_cons_succ]); (try rfl)
      · exact hF.out
      · exact h6.out
      · exact n6.out
      · exact hk9.out
    exact AllReady.nil
  refine wpAny_pre 5 #[true, true, true, true, true, true, false, true, true, true, false, false, false, false] (fun act9 W => ∃ q2 : Int, ∃ s3 : Int, ∃ q5 : Int, ∃ k8 : Nat, ∃ k9 : Nat, act9 = (((((((((A0.put (some 10) (.agg #[.slice a1 m.ram.length c1, .slice b1 m.rom.length d1, .int .i64 m.bank, .int .i64 m.a, .int .i64 m.pc, .bool m.carry, .slice f1 m.back.length g1, .bool m.stop, .int .i64 m.cyc])).put (some 11) (.pointer (some ⟨rb, 0, none⟩))).put (some 12) (.int .i64 q2)).put (some 13) (.int .i64 s3)).put (some 14) (.pointer (some ⟨rb, 0, none⟩))).put (some 15) (.int .i64 q5)).put (some 17) (.pointer (some ⟨rb, 0, none⟩))).put (some 18) (.int .i64 (k8 : Int))).put (some 19) (.int .i64 (k9 : Int))) ∧ Hid (MidM w w0.heap.size rb w1.heap.size (1200 + 10) (.agg #[.slice a1 m.ram.length c1, .slice b1 m.rom.length d1, .int .i64 m.bank, .int .i64 m.a, .int .i64 m.pc, .bool m.carry, .slice f1 m.back.length g1, .bool m.stop, .int .i64 m.cyc]) (.slice a1 m.ram.length c1) (.slice b1 m.rom.length d1) (.int .i64 m.bank) (.int .i64 m.a) (.int .i64 m.pc) (.bool m.carry) (.slice f1 m.back.length g1) (.bool m.stop) (.int .i64 m.cyc) (.slice none 0 0) (.slice none 0 0) (.int .i64 0) (.int .i64 0) (.int .i64 0) (.bool false) (.slice none 0 0) (.bool false) (.int .i64 0) m W) ∧ Hid (k9 < 2)) ?_ (fun HD6 => ?_)
  · rintro act9 W ⟨q2, s3, q5, k8, k9, rfl, hF, hk9⟩
    subst hA0
    have hlW := hF.out.rd.lt
    obtain ⟨x0, x1, x2, x3, x4, x5, x6, x7, x8, xf⟩ := id hF.out.nine
    clear xf
    obtain ⟨e0, e1, e2, e3, e4, e5, e6, e7, e8, ef⟩ := id hF.out.box
    have ef0 := ef 0
    have ef1 := ef 1
    have ef2 := ef 2
    have ef3 := ef 3
    have ef4 := ef 4
    have ef5 := ef 5
    have ef6 := ef 6
    have ef7 := ef 7
    have ef8 := ef 8
    clear ef
    have hX1 : w1.heap.size < W.heap.size := block_lt_of_cell x0
    have hXw : w.heap.size < W.heap.size := block_lt_of_cell e0
    (try simp only [Act.put, List.setIfInBounds_toArray, List.set_cons_zero, List.set_cons_succ])
    refine wpAny_ready (rs := [6, 12]) (by kernel_rfl) (by simp) ?_
    refine AllReady.cons (o := ({ dst := some 16, op := Op.buildSlice 23 2 #[(0, Operand.tmp 13), (1, Operand.tmp 15)], type := 23, pos := "l20_draw.go:331", after := #[{ on := 3, ground := Ground.data }, { on := 5, ground := Ground.data }, { on := 12, ground := Ground.gcOnly Departure.lateStores }], guard := none } : Oper)) rfl (fun K hK => ?_) ?_
    · go_simp
      refine hK _ _ ?_
      clear hK K
      (try simp only [Act.put, List.setIfInBounds_toArray, List.set_cons_zero, List.set_cons_succ])
      have hk9i : (k9 : Int) < 2 := by have := hk9.out; omega
      refine wpAny_take (i := 10) (oi := ({ dst := some 20, op := Op.indexAddr 23 (Operand.tmp 16) (Operand.tmp 19), type := 0, pos := "l20_draw.go:331", after := #[{ on := 6, ground := Ground.data }, { on := 9, ground := Ground.data }, { on := 12, ground := Ground.gcOnly Departure.lateStores }], guard := none } : Oper)) (v := ?_) rfl (by kernel_rfl) (by kernel_rfl) (by kernel_rfl) (fun _ _ _ h => h) (Or.inl ⟨by rfl, ?_⟩) ?_
      rotate_left
      · intro wq; go_simp; (try with_reducible rfl)
      (try simp only [Act.put, List.setIfInBounds_toArray, List.set_cons_zero, List.set_cons_succ])
      refine wpAny_to (by kernel_rfl) (by kernel_rfl) (HD2.out _ _ ?_)
      apply Exists.intro
      apply Exists.intro
      apply Exists.intro
      apply Exists.intro
      apply Exists.intro
      apply Exists.intro
      refine ⟨?_, ?_, ?_, ?_, ?_⟩
      · (try simp only [Act.put, List.setIfInBounds_toArray, List.set_cons_zero, List.set_cons_succ]); (try rfl)
      · exact hF.out.alloc _
      · exact LitI.new rfl rfl hlW
      · exact Nat.ne_of_lt hXw
      · exact hk9.out
    refine AllReady.cons (o := ({ dst := none, op := Op.store 28 (Operand.tmp 2) (Operand.tmp 10), type := 0, pos := "l20_draw.go:331", after := #[{ on := 0, ground := Ground.data }, { on := 8, ground := Ground.chain }, { on := 0, ground := Ground.phase }, { on := 1, ground := Ground.textOnly Departure.lateStores }, { on := 2, ground := Ground.textOnly Departure.lateStoresUnsure }, { on := 3, ground := Ground.textOnly Departure.lateStores }, { on := 4, ground := Ground.textOnly Departure.lateStores }, { on := 5, ground := Ground.textOnly Departure.lateStoresUnsure }, { on := 6, ground := Ground.textOnly Departure.lateStores }, { on := 7, ground := Ground.textOnly Departure.lateStores }, { on := 8, ground := Ground.textOnly Departure.lateStoresUnsure }, { on := 9, ground := Ground.textOnly Departure.lateStores }, { on := 10, ground := Ground.textOnly Departure.lateStores }, { on := 11, ground := Ground.textOnly Departure.lateStores }], guard := none } : Oper)) rfl (fun K hK => ?_) ?_
    · go_simp
      refine hK _ _ ?_
      clear hK K
      (try simp only [Act.put, List.setIfInBounds_toArray, List.set_cons_zero, List.set_cons_succ])
      refine wpAny_to (by kernel_rfl) (by kernel_rfl) (HD4.out _ _ ?_)
      apply Exists.intro
      apply Exists.intro
      apply Exists.intro
      apply Exists.intro
      apply Exists.intro
      refine ⟨?_, ?_, ?_⟩
      · (try simp only [Act.put, List.setIfInBounds_toArray, List.set_cons_zero, List.set_cons_succ]); (try rfl)
      · exact hF.out.setBox _ _ _ _ _ _ _ _ _
      · exact hk9.out
    exact AllReady.nil
  refine wpAny_pre 6 #[true, true, true, true, true, true, true, true, false, false, false, false, false, false] (fun act9 W => ∃ q2 : Int, ∃ s3 : Int, ∃ q5 : Int, ∃ b6 : Nat, act9 = ((((((((A0.put (some 10) (.agg #[.slice a1 m.ram.length c1, .slice b1 m.rom.length d1, .int .i64 m.bank, .int .i64 m.a, .int .i64 m.pc, .bool m.carry, .slice f1 m.back.length g1, .bool m.stop, .int .i64 m.cyc])).put (some 11) (.pointer (some ⟨rb, 0, none⟩))).put (some 12) (.int .i64 q2)).put (some 13) (.int .i64 s3)).put (some 14) (.pointer (some ⟨rb, 0, none⟩))).put (some 15) (.int .i64 q5)).put (some 16) (.slice (some ⟨b6, 0, none⟩) 2 2)).put (some 17) (.pointer (some ⟨rb, 0, none⟩))) ∧ Hid (MidM w w0.heap.size rb w1.heap.size (1200 + 9) (.agg #[.slice a1 m.ram.length c1, .slice b1 m.rom.length d1, .int .i64 m.bank, .int .i64 m.a, .int .i64 m.pc, .bool m.carry, .slice f1 m.back.length g1, .bool m.stop, .int .i64 m.cyc]) (.slice a1 m.ram.length c1) (.slice b1 m.rom.length d1) (.int .i64 m.bank) (.int .i64 m.a) (.int .i64 m.pc) (.bool m.carry) (.slice f1 m.back.length g1) (.bool m.stop) (.int .i64 m.cyc) (.slice none 0 0) (.slice none 0 0) (.int .i64 0) (.int .i64 0) (.int .i64 0) (.bool false) (.slice none 0 0) (.bool false) (.int .i64 0) m W) ∧ Hid (LitI rb 2 W b6) ∧ Hid (w.heap.size ≠ b6)) ?_ (fun HD7 => ?_)
  · rintro act9 W ⟨q2, s3, q5, b6, rfl, hF, h6, n6⟩
    subst hA0
    have hlW := hF.out.rd.lt
    obtain ⟨x0, x1, x2, x3, x4, x5, x6, x7, x8, xf⟩ := id hF.out.nine
    clear xf
    obtain ⟨e0, e1, e2, e3, e4, e5, e6, e7, e8, ef⟩ := id hF.out.box
    have ef0 := ef 0
    have ef1 := ef 1
    have ef2 := ef 2
    have ef3 := ef 3
    have ef4 := ef 4
    have ef5 := ef 5
    have ef6 := ef 6
    have ef7 := ef 7
    have ef8 := ef 8
    clear ef
    have hX1 : w1.heap.size < W.heap.size := block_lt_of_cell x0
    have hXw : w.heap.size < W.heap.size := block_lt_of_cell e0
    (try simp only [Act.put, List.setIfInBounds_toArray, List.set_cons_zero, List.set_cons_succ])
    refine wpAny_ready (rs := [8]) (by kernel_rfl) (by simp) ?_
    refine AllReady.cons (o := ({ dst := some 18, op := Op.call { callee := Callee.value (Operand.func 12), args := #[Operand.tmp 17, Operand.const (Value.int IntKind.i64 3)], argTypes := #[36, 3] }, type := 3, pos := "l20_draw.go:331", after := #[{ on := 7, ground := Ground.data }, { on := 5, ground := Ground.chain }], guard := none } : Oper)) rfl (fun K hK => ?_) ?_
    · go_simp
      refine (pick (B := (1200 + 9)) _ hF.out.rd (by omega)).mono ?_
      rintro e W' ⟨v8, rfl, ⟨x8', rfl, y8, z8⟩, hR', hK'⟩
      obtain ⟨k8, rfl⟩ := Int.eq_ofNat_of_zero_le y8
      have hk8 := Lib.hid (show k8 < 3 by omega)
      first | (refine hK _ _ ?_; clear hK K) | (go_wp2_with fail; (try (refine hK _ _ ?_)); (try clear hK K))
      (try simp only [Act.put, List.setIfInBounds_toArray, List.set_cons_zero, List.set_cons_succ])
      obtain ⟨k9, hk90, u9⟩ : ∃ k9 : Nat, k9 < 2 ∧ (k8 : Int) / 2 = (k9 : Int) := ⟨k8 / 2, by have := hk8.out; omega, by omega⟩
      have hk9 := Lib.hid hk90
      have u9t : (k8 : Int).tdiv 2 = (k9 : Int) := by rw [Int.tdiv_eq_ediv_of_nonneg (by omega)]; exact u9
      have u9w : IntKind.i64.wrap (k9 : Int) = (k9 : Int) := by rw [IntKind.wrap_i64]; omega
      clear hk90
      refine wpAny_take (i := 9) (oi := ({ dst := some 19, op := Op.binOp BinOp.quo 3 (Operand.tmp 18) (Operand.const (Value.int IntKind.i64 2)) 3, type := 3, pos := "l20_draw.go:331", after := #[{ on := 8, ground := Ground.data }, { on := 12, ground := Ground.gcOnly Departure.lateStores }], guard := none } : Oper)) (v := ?_) rfl (by kernel_rfl) (by kernel_rfl) (by kernel_rfl) (fun _ _ _ h => h) (Or.inl ⟨by rfl, ?_⟩) ?_
      rotate_left
      · intro wq; go_simp; (try with_reducible rfl)
      (try simp only [Act.put, List.setIfInBounds_toArray, List.set_cons_zero, List.set_cons_succ])
      have hk9i : (k9 : Int) < 2 := by have := hk9.out; omega
      refine wpAny_take (i := 10) (oi := ({ dst := some 20, op := Op.indexAddr 23 (Operand.tmp 16) (Operand.tmp 19), type := 0, pos := "l20_draw.go:331", after := #[{ on := 6, ground := Ground.data }, { on := 9, ground := Ground.data }, { on := 12, ground := Ground.gcOnly Departure.lateStores }], guard := none } : Oper)) (v := ?_) rfl (by kernel_rfl) (by kernel_rfl) (by kernel_rfl) (fun _ _ _ h => h) (Or.inl ⟨by rfl, ?_⟩) ?_
      rotate_left
      · intro wq; go_simp; (try with_reducible rfl)
      (try simp only [Act.put, List.setIfInBounds_toArray, List.set_cons_zero, List.set_cons_succ])
      refine wpAny_to (by kernel_rfl) (by kernel_rfl) (HD2.out _ _ ?_)
      apply Exists.intro
      apply Exists.intro
      apply Exists.intro
      apply Exists.intro
      apply Exists.intro
      apply Exists.intro
      refine ⟨?_, ?_, ?_, ?_, ?_⟩
      · (try simp only [Act.put, List.setIfInBounds_toArray, List.set_cons_zero, List.set_cons_succ]); (try rfl)
      · exact hF.out.keep hK' hR'
      · exact h6.out.keep hK'
      · exact n6.out
      · exact hk9.out
    exact AllReady.nil
  refine wpAny_pre 6 #[false, true, true, true, true, true, false, true, true, true, false, false, false, false] (fun act9 W => ∃ q2 : Int, ∃ s3 : Int, ∃ q5 : Int, ∃ k8 : Nat, ∃ k9 : Nat, act9 = ((((((((A0.put (some 11) (.pointer (some ⟨rb, 0, none⟩))).put (some 12) (.int .i64 q2)).put (some 13) (.int .i64 s3)).put (some 14) (.pointer (some ⟨rb, 0, none⟩))).put (some 15) (.int .i64 q5)).put (some 17) (.pointer (some ⟨rb, 0, none⟩))).put (some 18) (.int .i64 (k8 : Int))).put (some 19) (.int .i64 (k9 : Int))) ∧ Hid (MidM w w0.heap.size rb w1.heap.size (1200 + 10) (.agg #[.slice a1 m.ram.length c1, .slice b1 m.rom.length d1, .int .i64 m.bank, .int .i64 m.a, .int .i64 m.pc, .bool m.carry, .slice f1 m.back.length g1, .bool m.stop, .int .i64 m.cyc]) (.slice a1 m.ram.length c1) (.slice b1 m.rom.length d1) (.int .i64 m.bank) (.int .i64 m.a) (.int .i64 m.pc) (.bool m.carry) (.slice f1 m.back.length g1) (.bool m.stop) (.int .i64 m.cyc) (.slice none 0 0) (.slice none 0 0) (.int .i64 0) (.int .i64 0) (.int .i64 0) (.bool false) (.slice none 0 0) (.bool false) (.int .i64 0) m W) ∧ Hid (k9 < 2)) ?_ (fun HD8 => ?_)
  · rintro act9 W ⟨q2, s3, q5, k8, k9, rfl, hF, hk9⟩
    subst hA0
    have hlW := hF.out.rd.lt
    obtain ⟨x0, x1, x2, x3, x4, x5, x6, x7, x8, xf⟩ := id hF.out.nine
    clear xf
    obtain ⟨e0, e1, e2, e3, e4, e5, e6, e7, e8, ef⟩ := id hF.out.box
    have ef0 := ef 0
    have ef1 := ef 1
    have ef2 := ef 2
    have ef3 := ef 3
    have ef4 := ef 4
    have ef5 := ef 5
    have ef6 := ef 6
    have ef7 := ef 7
    have ef8 := ef 8
    clear ef
    have hX1 : w1.heap.size < W.heap.size := block_lt_of_cell x0
    have hXw : w.heap.size < W.heap.size := block_lt_of_cell e0
    (try simp only [Act.put, List.setIfInBounds_toArray, List.set_cons_zero, List.set_cons_succ])
    refine wpAny_ready (rs := [0, 6]) (by kernel_rfl) (by simp) ?_
    refine AllReady.cons (o := ({ dst := some 10, op := Op.load 28 (Operand.tmp 5), type := 28, pos := "l20_draw.go:331", after := #[], guard := none } : Oper)) rfl (fun K hK => ?_) ?_
    · go_simp
      refine hK _ _ ?_
      clear hK K
      (try simp only [Act.put, List.setIfInBounds_toArray, List.set_cons_zero, List.set_cons_succ])
      refine wpAny_to (by kernel_rfl) (by kernel_rfl) (HD6.out _ _ ?_)
      apply Exists.intro
      apply Exists.intro
      apply Exists.intro
      apply Exists.intro
      apply Exists.intro
      refine ⟨?_, ?_, ?_⟩
      · (try simp only [Act.put, List.setIfInBounds_toArray, List.set_cons_zero, List.set_cons_succ]); (try rfl)
      · exact hF.out
      · exact hk9.out
    refine AllReady.cons (o := ({ dst := some 16, op := Op.buildSlice 23 2 #[(0, Operand.tmp 13), (1, Operand.tmp 15)], type := 23, pos := "l20_draw.go:331", after := #[{ on := 3, ground := Ground.data }, { on := 5, ground := Ground.data }, { on := 12, ground := Ground.gcOnly Departure.lateStores }], guard := none } : Oper)) rfl (fun K hK => ?_) ?_
    · go_simp
      refine hK _ _ ?_
      clear hK K
      (try simp only [Act.put, List.setIfInBounds_toArray, List.set_cons_zero, List.set_cons_succ])
      have hk9i : (k9 : Int) < 2 := by have := hk9.out; omega
      refine wpAny_take (i := 10) (oi := ({ dst := some 20, op := Op.indexAddr 23 (Operand.tmp 16) (Operand.tmp 19), type := 0, pos := "l20_draw.go:331", after := #[{ on := 6, ground := Ground.data }, { on := 9, ground := Ground.data }, { on := 12, ground := Ground.gcOnly Departure.lateStores }], guard := none } : Oper)) (v := ?_) rfl (by kernel_rfl) (by kernel_rfl) (by kernel_rfl) (fun _ _ _ h => h) (Or.inl ⟨by rfl, ?_⟩) ?_
      rotate_left
      · intro wq; go_simp; (try with_reducible rfl)
      (try simp only [Act.put, List.setIfInBounds_toArray, List.set_cons_zero, List.set_cons_succ])
      refine wpAny_to (by kernel_rfl) (by kernel_rfl) (HD5.out _ _ ?_)
      apply Exists.intro
      apply Exists.intro
      apply Exists.intro
      apply Exists.intro
      apply Exists.intro
      apply Exists.intro
      refine ⟨?_, ?_, ?_, ?_, ?_⟩
      · (try simp only [Act.put, List.setIfInBounds_toArray, List.set_cons_zero, List.set_cons_succ]); (try rfl)
      · exact hF.out.alloc _
      · exact LitI.new rfl rfl hlW
      · exact Nat.ne_of_lt hXw
      · exact hk9.out
    exact AllReady.nil
  refine wpAny_pre 7 #[true, true, true, true, true, true, false, true, false, false, false, false, false, false] (fun act9 W => ∃ q2 : Int, ∃ s3 : Int, ∃ q5 : Int, act9 = (((((((A0.put (some 10) (.agg #[.slice a1 m.ram.length c1, .slice b1 m.rom.length d1, .int .i64 m.bank, .int .i64 m.a, .int .i64 m.pc, .bool m.carry, .slice f1 m.back.length g1, .bool m.stop, .int .i64 m.cyc])).put (some 11) (.pointer (some ⟨rb, 0, none⟩))).put (some 12) (.int .i64 q2)).put (some 13) (.int .i64 s3)).put (some 14) (.pointer (some ⟨rb, 0, none⟩))).put (some 15) (.int .i64 q5)).put (some 17) (.pointer (some ⟨rb, 0, none⟩))) ∧ Hid (MidM w w0.heap.size rb w1.heap.size (1200 + 9) (.agg #[.slice a1 m.ram.length c1, .slice b1 m.rom.length d1, .int .i64 m.bank, .int .i64 m.a, .int .i64 m.pc, .bool m.carry, .slice f1 m.back.length g1, .bool m.stop, .int .i64 m.cyc]) (.slice a1 m.ram.length c1) (.slice b1 m.rom.length d1) (.int .i64 m.bank) (.int .i64 m.a) (.int .i64 m.pc) (.bool m.carry) (.slice f1 m.back.length g1) (.bool m.stop) (.int .i64 m.cyc) (.slice none 0 0) (.slice none 0 0) (.int .i64 0) (.int .i64 0) (.int .i64 0) (.bool false) (.slice none 0 0) (.bool false) (.int .i64 0) m W)) ?_ (fun HD9 => ?_)
  · rintro act9 W ⟨q2, s3, q5, rfl, hF⟩
    subst hA0
    have hlW := hF.out.rd.lt
    obtain ⟨x0, x1, x2, x3, x4, x5, x6, x7, x8, xf⟩ := id hF.out.nine
    clear xf
    obtain ⟨e0, e1, e2, e3, e4, e5, e6, e7, e8, ef⟩ := id hF.out.box
    have ef0 := ef 0
    have ef1 := ef 1
    have ef2 := ef 2
    have ef3 := ef 3
    have ef4 := ef 4
    have ef5 := ef 5
    have ef6 := ef 6
    have ef7 := ef 7
    have ef8 := ef 8
    clear ef
    have hX1 : w1.heap.size < W.heap.size := block_lt_of_cell x0
    have hXw : w.heap.size < W.heap.size := block_lt_of_cell e0
    (try simp only [Act.put, List.setIfInBounds_toArray, List.set_cons_zero, List.set_cons_succ])
    refine wpAny_ready (rs := [6, 8]) (by kernel_rfl) (by simp) ?_
    refine AllReady.cons (o := ({ dst := some 16, op := Op.buildSlice 23 2 #[(0, Operand.tmp 13), (1, Operand.tmp 15)], type := 23, pos := "l20_draw.go:331", after := #[{ on := 3, ground := Ground.data }, { on := 5, ground := Ground.data }, { on := 12, ground := Ground.gcOnly Departure.lateStores }], guard := none } : Oper)) rfl (fun K hK => ?_) ?_
    · go_simp
      refine hK _ _ ?_
      clear hK K
      (try simp only [Act.put, List.setIfInBounds_toArray, List.set_cons_zero, List.set_cons_succ])
      refine wpAny_to (by kernel_rfl) (by kernel_rfl) (HD7.out _ _ ?_)
      apply Exists.intro
      apply Exists.intro
      apply Exists.intro
      apply Exists.intro
      refine ⟨?_, ?_, ?_, ?_⟩
      · (try simp only [Act.put, List.setIfInBounds_toArray, List.set_cons_zero, List.set_cons_succ]); (try rfl)
      · exact hF.out.alloc _
      · exact LitI.new rfl rfl hlW
      · exact Nat.ne_of_lt hXw
    refine AllReady.cons (o := ({ dst := some 18, op := Op.call { callee := Callee.value (Operand.func 12), args := #[Operand.tmp 17, Operand.const (Value.int IntKind.i64 3)], argTypes := #[36, 3] }, type := 3, pos := "l20_draw.go:331", after := #[{ on := 7, ground := Ground.data }, { on := 5, ground := Ground.chain }], guard := none } : Oper)) rfl (fun K hK => ?_) ?_
    · go_simp
      refine (pick (B := (1200 + 9)) _ hF.out.rd (by omega)).mono ?_
      rintro e W' ⟨v8, rfl, ⟨x8', rfl, y8, z8⟩, hR', hK'⟩
      obtain ⟨k8, rfl⟩ := Int.eq_ofNat_of_zero_le y8
      have hk8 := Lib.hid (show k8 < 3 by omega)
      first | (refine hK _ _ ?_; clear hK K) | (go_wp2_with fail; (try (refine hK _ _ ?_)); (try clear hK K))
      (try simp only [Act.put, List.setIfInBounds_toArray, List.set_cons_zero, List.set_cons_succ])
      obtain ⟨k9, hk90, u9⟩ : ∃ k9 : Nat, k9 < 2 ∧ (k8 : Int) / 2 = (k9 : Int) := ⟨k8 / 2, by have := hk8.out; omega, by omega⟩
      have hk9 := Lib.hid hk90
      have u9t : (k8 : Int).tdiv 2 = (k9 : Int) := by rw [Int.tdiv_eq_ediv_of_nonneg (by omega)]; exact u9
      have u9w : IntKind.i64.wrap (k9 : Int) = (k9 : Int) := by rw [IntKind.wrap_i64]; omega
      clear hk90
      refine wpAny_take (i := 9) (oi := ({ dst := some 19, op := Op.binOp BinOp.quo 3 (Operand.tmp 18) (Operand.const (Value.int IntKind.i64 2)) 3, type := 3, pos := "l20_draw.go:331", after := #[{ on := 8, ground := Ground.data }, { on := 12, ground := Ground.gcOnly Departure.lateStores }], guard := none } : Oper)) (v := ?_) rfl (by kernel_rfl) (by kernel_rfl) (by kernel_rfl) (fun _ _ _ h => h) (Or.inl ⟨by rfl, ?_⟩) ?_
      rotate_left
      · intro wq; go_simp; (try with_reducible rfl)
      (try simp only [Act.put, List.setIfInBounds_toArray, List.set_cons_zero, List.set_cons_succ])
      refine wpAny_to (by kernel_rfl) (by kernel_rfl) (HD6.out _ _ ?_)
      apply Exists.intro
      apply Exists.intro
      apply Exists.intro
      apply Exists.intro
      apply Exists.intro
      refine ⟨?_, ?_, ?_⟩
      · (try simp only [Act.put, List.setIfInBounds_toArray, List.set_cons_zero, List.set_cons_succ]); (try rfl)
      · exact hF.out.keep hK' hR'
      · exact hk9.out
    exact AllReady.nil
  refine wpAny_pre 7 #[false, true, true, true, true, true, true, true, false, false, false, false, false, false] (fun act9 W => ∃ q2 : Int, ∃ s3 : Int, ∃ q5 : Int, ∃ b6 : Nat, act9 = (((((((A0.put (some 11) (.pointer (some ⟨rb, 0, none⟩))).put (some 12) (.int .i64 q2)).put (some 13) (.int .i64 s3)).put (some 14) (.pointer (some ⟨rb, 0, none⟩))).put (some 15) (.int .i64 q5)).put (some 16) (.slice (some ⟨b6, 0, none⟩) 2 2)).put (some 17) (.pointer (some ⟨rb, 0, none⟩))) ∧ Hid (MidM w w0.heap.size rb w1.heap.size (1200 + 9) (.agg #[.slice a1 m.ram.length c1, .slice b1 m.rom.length d1, .int .i64 m.bank, .int .i64 m.a, .int .i64 m.pc, .bool m.carry, .slice f1 m.back.length g1, .bool m.stop, .int .i64 m.cyc]) (.slice a1 m.ram.length c1) (.slice b1 m.rom.length d1) (.int .i64 m.bank) (.int .i64 m.a) (.int .i64 m.pc) (.bool m.carry) (.slice f1 m.back.length g1) (.bool m.stop) (.int .i64 m.cyc) (.slice none 0 0) (.slice none 0 0) (.int .i64 0) (.int .i64 0) (.int .i64 0) (.bool false) (.slice none 0 0) (.bool false) (.int .i64 0) m W) ∧ Hid (LitI rb 2 W b6) ∧ Hid (w.heap.size ≠ b6)) ?_ (fun HD10 => ?_)
  · rintro act9 W ⟨q2, s3, q5, b6, rfl, hF, h6, n6⟩
    subst hA0
    have hlW := hF.out.rd.lt
    obtain ⟨x0, x1, x2, x3, x4, x5, x6, x7, x8, xf⟩ := id hF.out.nine
    clear xf
    obtain ⟨e0, e1, e2, e3, e4, e5, e6, e7, e8, ef⟩ := id hF.out.box
    have ef0 := ef 0
    have ef1 := ef 1
    have ef2 := ef 2
    have ef3 := ef 3
    have ef4 := ef 4
    have ef5 := ef 5
    have ef6 := ef 6
    have ef7 := ef 7
    have ef8 := ef 8
    clear ef
    have hX1 : w1.heap.size < W.heap.size := block_lt_of_cell x0
    have hXw : w.heap.size < W.heap.size := block_lt_of_cell e0
    (try simp only [Act.put, List.setIfInBounds_toArray, List.set_cons_zero, List.set_cons_succ])
    refine wpAny_ready (rs := [0, 8]) (by kernel_rfl) (by simp) ?_
    refine AllReady.cons (o := ({ dst := some 10, op := Op.load 28 (Operand.tmp 5), type := 28, pos := "l20_draw.go:331", after := #[], guard := none } : Oper)) rfl (fun K hK => ?_) ?_
    · go_simp
      refine hK _ _ ?_
      clear hK K
      (try simp only [Act.put, List.setIfInBounds_toArray, List.set_cons_zero, List.set_cons_succ])
      refine wpAny_to (by kernel_rfl) (by kernel_rfl) (HD7.out _ _ ?_)
      apply Exists.intro
      apply Exists.intro
      apply Exists.intro
      apply Exists.intro
      refine ⟨?_, ?_, ?_, ?_⟩
      · (try simp only [Act.put, List.setIfInBounds_toArray, List.set_cons_zero, List.set_cons_succ]); (try rfl)
      · exact hF.out
      · exact h6.out
      · exact n6.out
    refine AllReady.cons (o := ({ dst := some 18, op := Op.call { callee := Callee.value (Operand.func 12), args := #[Operand.tmp 17, Operand.const (Value.int IntKind.i64 3)], argTypes := #[36, 3] }, type := 3, pos := "l20_draw.go:331", after := #[{ on := 7, ground := Ground.data }, { on := 5, ground := Ground.chain }], guard := none } : Oper)) rfl (fun K hK => ?_) ?_
    · go_simp
      refine (pick (B := (1200 + 9)) _ hF.out.rd (by omega)).mono ?_
      rintro e W' ⟨v8, rfl, ⟨x8', rfl, y8, z8⟩, hR', hK'⟩
      obtain ⟨k8, rfl⟩ := Int.eq_ofNat_of_zero_le y8
      have hk8 := Lib.hid (show k8 < 3 by omega)
      first | (refine hK _ _ ?_; clear hK K) | (go_wp2_with fail; (try (refine hK _ _ ?_)); (try clear hK K))
      (try simp only [Act.put, List.setIfInBounds_toArray, List.set_cons_zero, List.set_cons_succ])
      obtain ⟨k9, hk90, u9⟩ : ∃ k9 : Nat, k9 < 2 ∧ (k8 : Int) / 2 = (k9 : Int) := ⟨k8 / 2, by have := hk8.out; omega, by omega⟩
      have hk9 := Lib.hid hk90
      have u9t : (k8 : Int).tdiv 2 = (k9 : Int) := by rw [Int.tdiv_eq_ediv_of_nonneg (by omega)]; exact u9
      have u9w : IntKind.i64.wrap (k9 : Int) = (k9 : Int) := by rw [IntKind.wrap_i64]; omega
      clear hk90
      refine wpAny_take (i := 9) (oi := ({ dst := some 19, op := Op.binOp BinOp.quo 3 (Operand.tmp 18) (Operand.const (Value.int IntKind.i64 2)) 3, type := 3, pos := "l20_draw.go:331", after := #[{ on := 8, ground := Ground.data }, { on := 12, ground := Ground.gcOnly Departure.lateStores }], guard := none } : Oper)) (v := ?_) rfl (by kernel_rfl) (by kernel_rfl) (by kernel_rfl) (fun _ _ _ h => h) (Or.inl ⟨by rfl, ?_⟩) ?_
      rotate_left
      · intro wq; go_simp; (try with_reducible rfl)
      (try simp only [Act.put, List.setIfInBounds_toArray, List.set_cons_zero, List.set_cons_succ])
      have hk9i : (k9 : Int) < 2 := by have := hk9.out; omega
      refine wpAny_take (i := 10) (oi := ({ dst := some 20, op := Op.indexAddr 23 (Operand.tmp 16) (Operand.tmp 19), type := 0, pos := "l20_draw.go:331", after := #[{ on := 6, ground := Ground.data }, { on := 9, ground := Ground.data }, { on := 12, ground := Ground.gcOnly Departure.lateStores }], guard := none } : Oper)) (v := ?_) rfl (by kernel_rfl) (by kernel_rfl) (by kernel_rfl) (fun _ _ _ h => h) (Or.inl ⟨by rfl, ?_⟩) ?_
      rotate_left
      · intro wq; go_simp; (try with_reducible rfl)
      (try simp only [Act.put, List.setIfInBounds_toArray, List.set_cons_zero, List.set_cons_succ])
      refine wpAny_to (by kernel_rfl) (by kernel_rfl) (HD5.out _ _ ?_)
      apply Exists.intro
      apply Exists.intro
      apply Exists.intro
      apply Exists.intro
      apply Exists.intro
      apply Exists.intro
      refine ⟨?_, ?_, ?_, ?_, ?_⟩
      · (try simp only [Act.put, List.setIfInBounds_toArray, List.set_cons_zero, List.set_cons_succ]); (try rfl)
      · exact hF.out.keep hK' hR'
      · exact h6.out.keep hK'
      · exact n6.out
      · exact hk9.out
    exact AllReady.nil
  refine wpAny_pre 8 #[true, true, true, true, true, false, false, true, false, false, false, false, false, false] (fun act9 W => ∃ q2 : Int, ∃ s3 : Int, act9 = ((((((A0.put (some 10) (.agg #[.slice a1 m.ram.length c1, .slice b1 m.rom.length d1, .int .i64 m.bank, .int .i64 m.a, .int .i64 m.pc, .bool m.carry, .slice f1 m.back.length g1, .bool m.stop, .int .i64 m.cyc])).put (some 11) (.pointer (some ⟨rb, 0, none⟩))).put (some 12) (.int .i64 q2)).put (some 13) (.int .i64 s3)).put (some 14) (.pointer (some ⟨rb, 0, none⟩))).put (some 17) (.pointer (some ⟨rb, 0, none⟩))) ∧ Hid (MidM w w0.heap.size rb w1.heap.size (1200 + 1) (.agg #[.slice a1 m.ram.length c1, .slice b1 m.rom.length d1, .int .i64 m.bank, .int .i64 m.a, .int .i64 m.pc, .bool m.carry, .slice f1 m.back.length g1, .bool m.stop, .int .i64 m.cyc]) (.slice a1 m.ram.length c1) (.slice b1 m.rom.length d1) (.int .i64 m.bank) (.int .i64 m.a) (.int .i64 m.pc) (.bool m.carry) (.slice f1 m.back.length g1) (.bool m.stop) (.int .i64 m.cyc) (.slice none 0 0) (.slice none 0 0) (.int .i64 0) (.int .i64 0) (.int .i64 0) (.bool false) (.slice none 0 0) (.bool false) (.int .i64 0) m W)) ?_ (fun HD11 => ?_)
  · rintro act9 W ⟨q2, s3, rfl, hF⟩
    subst hA0
    have hlW := hF.out.rd.lt
    obtain ⟨x0, x1, x2, x3, x4, x5, x6, x7, x8, xf⟩ := id hF.out.nine
    clear xf
    obtain ⟨e0, e1, e2, e3, e4, e5, e6, e7, e8, ef⟩ := id hF.out.box
    have ef0 := ef 0
    have ef1 := ef 1
    have ef2 := ef 2
    have ef3 := ef 3
    have ef4 := ef 4
    have ef5 := ef 5
    have ef6 := ef 6
    have ef7 := ef 7
    have ef8 := ef 8
    clear ef
    have hX1 : w1.heap.size < W.heap.size := block_lt_of_cell x0
    have hXw : w.heap.size < W.heap.size := block_lt_of_cell e0
    (try simp only [Act.put, List.setIfInBounds_toArray, List.set_cons_zero, List.set_cons_succ])
    refine wpAny_ready (rs := [5]) (by kernel_rfl) (by simp) ?_
    refine AllReady.cons (o := ({ dst := some 15, op := Op.call { callee := Callee.value (Operand.func 13), args := #[Operand.tmp 14, Operand.const (Value.int IntKind.i64 5)], argTypes := #[36, 3] }, type := 3, pos := "l20_draw.go:331", after := #[{ on := 4, ground := Ground.data }, { on := 2, ground := Ground.chain }], guard := none } : Oper)) rfl (fun K hK => ?_) ?_
    · go_simp
      refine (l20Place (B := (1200 + 1)) _ hF.out.rd (by omega)).mono ?_
      rintro e W' ⟨v5, rfl, ⟨q5, rfl⟩, hR', hK'⟩
      first | (refine hK _ _ ?_; clear hK K) | (go_wp2_with fail; (try (refine hK _ _ ?_)); (try clear hK K))
      (try simp only [Act.put, List.setIfInBounds_toArray, List.set_cons_zero, List.set_cons_succ])
      refine wpAny_to (by kernel_rfl) (by kernel_rfl) (HD9.out _ _ ?_)
      apply Exists.intro
      apply Exists.intro
      apply Exists.intro
      refine ⟨?_, ?_⟩
      · (try simp only [Act.put, List.setIfInBounds_toArray, List.set_cons_zero, List.set_cons_succ]); (try rfl)
      · exact hF.out.keep hK' hR'
    exact AllReady.nil
  refine wpAny_pre 8 #[false, true, true, true, true, true, false, true, false, false, false, false, false, false] (fun act9 W => ∃ q2 : Int, ∃ s3 : Int, ∃ q5 : Int, act9 = ((((((A0.put (some 11) (.pointer (some ⟨rb, 0, none⟩))).put (some 12) (.int .i64 q2)).put (some 13) (.int .i64 s3)).put (some 14) (.pointer (some ⟨rb, 0, none⟩))).put (some 15) (.int .i64 q5)).put (some 17) (.pointer (some ⟨rb, 0, none⟩))) ∧ Hid (MidM w w0.heap.size rb w1.heap.size (1200 + 9) (.agg #[.slice a1 m.ram.length c1, .slice b1 m.rom.length d1, .int .i64 m.bank, .int .i64 m.a, .int .i64 m.pc, .bool m.carry, .slice f1 m.back.length g1, .bool m.stop, .int .i64 m.cyc]) (.slice a1 m.ram.length c1) (.slice b1 m.rom.length d1) (.int .i64 m.bank) (.int .i64 m.a) (.int .i64 m.pc) (.bool m.carry) (.slice f1 m.back.length g1) (.bool m.stop) (.int .i64 m.cyc) (.slice none 0 0) (.slice none 0 0) (.int .i64 0) (.int .i64 0) (.int .i64 0) (.bool false) (.slice none 0 0) (.bool false) (.int .i64 0) m W)) ?_ (fun HD12 => ?_)
  · rintro act9 W ⟨q2, s3, q5, rfl, hF⟩
    subst hA0
    have hlW := hF.out.rd.lt
    obtain ⟨x0, x1, x2, x3, x4, x5, x6, x7, x8, xf⟩ := id hF.out.nine
    clear xf
    obtain ⟨e0, e1, e2, e3, e4, e5, e6, e7, e8, ef⟩ := id hF.out.box
    have ef0 := ef 0
    have ef1 := ef 1
    have ef2 := ef 2
    have ef3 := ef 3
    have ef4 := ef 4
    have ef5 := ef 5
    have ef6 := ef 6
    have ef7 := ef 7
    have ef8 := ef 8
    clear ef
    have hX1 : w1.heap.size < W.heap.size := block_lt_of_cell x0
    have hXw : w.heap.size < W.heap.size := block_lt_of_cell e0
    (try simp only [Act.put, List.setIfInBounds_toArray, List.set_cons_zero, List.set_cons_succ])
    refine wpAny_ready (rs := [0, 6, 8]) (by kernel_rfl) (by simp) ?_
    refine AllReady.cons (o := ({ dst := some 10, op := Op.load 28 (Operand.tmp 5), type := 28, pos := "l20_draw.go:331", after := #[], guard := none } : Oper)) rfl (fun K hK => ?_) ?_
    · go_simp
      refine hK _ _ ?_
      clear hK K
      (try simp only [Act.put, List.setIfInBounds_toArray, List.set_cons_zero, List.set_cons_succ])
      refine wpAny_to (by kernel_rfl) (by kernel_rfl) (HD9.out _ _ ?_)
      apply Exists.intro
      apply Exists.intro
      apply Exists.intro
      refine ⟨?_, ?_⟩
      · (try simp only [Act.put, List.setIfInBounds_toArray, List.set_cons_zero, List.set_cons_succ]); (try rfl)
      · exact hF.out
    refine AllReady.cons (o := ({ dst := some 16, op := Op.buildSlice 23 2 #[(0, Operand.tmp 13), (1, Operand.tmp 15)], type := 23, pos := "l20_draw.go:331", after := #[{ on := 3, ground := Ground.data }, { on := 5, ground := Ground.data }, { on := 12, ground := Ground.gcOnly Departure.lateStores }], guard := none } : Oper)) rfl (fun K hK => ?_) ?_
    · go_simp
      refine hK _ _ ?_
      clear hK K
      (try simp only [Act.put, List.setIfInBounds_toArray, List.set_cons_zero, List.set_cons_succ])
      refine wpAny_to (by kernel_rfl) (by kernel_rfl) (HD10.out _ _ ?_)
      apply Exists.intro
      apply Exists.intro
      apply Exists.intro
      apply Exists.intro
      refine ⟨?_, ?_, ?_, ?_⟩
      · (try simp only [Act.put, List.setIfInBounds_toArray, List.set_cons_zero, List.set_cons_succ]); (try rfl)
      · exact hF.out.alloc _
      · exact LitI.new rfl rfl hlW
      · exact Nat.ne_of_lt hXw
    refine AllReady.cons (o := ({ dst := some 18, op := Op.call { callee := Callee.value (Operand.func 12), args := #[Operand.tmp 17, Operand.const (Value.int IntKind.i64 3)], argTypes := #[36, 3] }, type := 3, pos := "l20_draw.go:331", after := #[{ on := 7, ground := Ground.data }, { on := 5, ground := Ground.chain }], guard := none } : Oper)) rfl (fun K hK => ?_) ?_
    · go_simp
      refine (pick (B := (1200 + 9)) _ hF.out.rd (by omega)).mono ?_
      rintro e W' ⟨v8, rfl, ⟨x8', rfl, y8, z8⟩, hR', hK'⟩
      obtain ⟨k8, rfl⟩ := Int.eq_ofNat_of_zero_le y8
      have hk8 := Lib.hid (show k8 < 3 by omega)
      first | (refine hK _ _ ?_; clear hK K) | (go_wp2_with fail; (try (refine hK _ _ ?_)); (try clear hK K))
      (try simp only [Act.put, List.setIfInBounds_toArray, List.set_cons_zero, List.set_cons_succ])
      obtain ⟨k9, hk90, u9⟩ : ∃ k9 : Nat, k9 < 2 ∧ (k8 : Int) / 2 = (k9 : Int) := ⟨k8 / 2, by have := hk8.out; omega, by omega⟩
      have hk9 := Lib.hid hk90
      have u9t : (k8 : Int).tdiv 2 = (k9 : Int) := by rw [Int.tdiv_eq_ediv_of_nonneg (by omega)]; exact u9
      have u9w : IntKind.i64.wrap (k9 : Int) = (k9 : Int) := by rw [IntKind.wrap_i64]; omega
      clear hk90
      refine wpAny_take (i := 9) (oi := ({ dst := some 19, op := Op.binOp BinOp.quo 3 (Operand.tmp 18) (Operand.const (Value.int IntKind.i64 2)) 3, type := 3, pos := "l20_draw.go:331", after := #[{ on := 8, ground := Ground.data }, { on := 12, ground := Ground.gcOnly Departure.lateStores }], guard := none } : Oper)) (v := ?_) rfl (by kernel_rfl) (by kernel_rfl) (by kernel_rfl) (fun _ _ _ h => h) (Or.inl ⟨by rfl, ?_⟩) ?_
      rotate_left
      · intro wq; go_simp; (try with_reducible rfl)
      (try simp only [Act.put, List.setIfInBounds_toArray, List.set_cons_zero, List.set_cons_succ])
      refine wpAny_to (by kernel_rfl) (by kernel_rfl) (HD8.out _ _ ?_)
      apply Exists.intro
      apply Exists.intro
      apply Exists.intro
      apply Exists.intro
      apply Exists.intro
      refine ⟨?_, ?_, ?_⟩
      · (try simp only [Act.put, List.setIfInBounds_toArray, List.set_cons_zero, List.set_cons_succ]); (try rfl)
      · exact hF.out.keep hK' hR'
      · exact hk9.out
    exact AllReady.nil
  refine wpAny_pre 9 #[false, true, true, true, true, false, false, true, false, false, false, false, false, false] (fun act9 W => ∃ q2 : Int, ∃ s3 : Int, act9 = (((((A0.put (some 11) (.pointer (some ⟨rb, 0, none⟩))).put (some 12) (.int .i64 q2)).put (some 13) (.int .i64 s3)).put (some 14) (.pointer (some ⟨rb, 0, none⟩))).put (some 17) (.pointer (some ⟨rb, 0, none⟩))) ∧ Hid (MidM w w0.heap.size rb w1.heap.size (1200 + 1) (.agg #[.slice a1 m.ram.length c1, .slice b1 m.rom.length d1, .int .i64 m.bank, .int .i64 m.a, .int .i64 m.pc, .bool m.carry, .slice f1 m.back.length g1, .bool m.stop, .int .i64 m.cyc]) (.slice a1 m.ram.length c1) (.slice b1 m.rom.length d1) (.int .i64 m.bank) (.int .i64 m.a) (.int .i64 m.pc) (.bool m.carry) (.slice f1 m.back.length g1) (.bool m.stop) (.int .i64 m.cyc) (.slice none 0 0) (.slice none 0 0) (.int .i64 0) (.int .i64 0) (.int .i64 0) (.bool false) (.slice none 0 0) (.bool false) (.int .i64 0) m W)) ?_ (fun HD13 => ?_)
  · rintro act9 W ⟨q2, s3, rfl, hF⟩
    subst hA0
    have hlW := hF.out.rd.lt
    obtain ⟨x0, x1, x2, x3, x4, x5, x6, x7, x8, xf⟩ := id hF.out.nine
    clear xf
    obtain ⟨e0, e1, e2, e3, e4, e5, e6, e7, e8, ef⟩ := id hF.out.box
    have ef0 := ef 0
    have ef1 := ef 1
    have ef2 := ef 2
    have ef3 := ef 3
    have ef4 := ef 4
    have ef5 := ef 5
    have ef6 := ef 6
    have ef7 := ef 7
    have ef8 := ef 8
    clear ef
    have hX1 : w1.heap.size < W.heap.size := block_lt_of_cell x0
    have hXw : w.heap.size < W.heap.size := block_lt_of_cell e0
    (try simp only [Act.put, List.setIfInBounds_toArray, List.set_cons_zero, List.set_cons_succ])
    refine wpAny_ready (rs := [0, 5]) (by kernel_rfl) (by simp) ?_
    refine AllReady.cons (o := ({ dst := some 10, op := Op.load 28 (Operand.tmp 5), type := 28, pos := "l20_draw.go:331", after := #[], guard := none } : Oper)) rfl (fun K hK => ?_) ?_
    · go_simp
      refine hK _ _ ?_
      clear hK K
      (try simp only [Act.put, List.setIfInBounds_toArray, List.set_cons_zero, List.set_cons_succ])
      refine wpAny_to (by kernel_rfl) (by kernel_rfl) (HD11.out _ _ ?_)
      apply Exists.intro
      apply Exists.intro
      refine ⟨?_, ?_⟩
      · (try simp only [Act.put, List.setIfInBounds_toArray, List.set_cons_zero, List.set_cons_succ]); (try rfl)
      · exact hF.out
    refine AllReady.cons (o := ({ dst := some 15, op := Op.call { callee := Callee.value (Operand.func 13), args := #[Operand.tmp 14, Operand.const (Value.int IntKind.i64 5)], argTypes := #[36, 3] }, type := 3, pos := "l20_draw.go:331", after := #[{ on := 4, ground := Ground.data }, { on := 2, ground := Ground.chain }], guard := none } : Oper)) rfl (fun K hK => ?_) ?_
    · go_simp
      refine (l20Place (B := (1200 + 1)) _ hF.out.rd (by omega)).mono ?_
      rintro e W' ⟨v5, rfl, ⟨q5, rfl⟩, hR', hK'⟩
      first | (refine hK _ _ ?_; clear hK K) | (go_wp2_with fail; (try (refine hK _ _ ?_)); (try clear hK K))
      (try simp only [Act.put, List.setIfInBounds_toArray, List.set_cons_zero, List.set_cons_succ])
      refine wpAny_to (by kernel_rfl) (by kernel_rfl) (HD12.out _ _ ?_)
      apply Exists.intro
      apply Exists.intro
      apply Exists.intro
      refine ⟨?_, ?_⟩
      · (try simp only [Act.put, List.setIfInBounds_toArray, List.set_cons_zero, List.set_cons_succ]); (try rfl)
      · exact hF.out.keep hK' hR'
    exact AllReady.nil
  refine wpAny_pre 10 #[true, true, false, false, true, false, false, true, false, false, false, false, false, false] (fun act9 W => act9 = ((((A0.put (some 10) (.agg #[.slice a1 m.ram.length c1, .slice b1 m.rom.length d1, .int .i64 m.bank, .int .i64 m.a, .int .i64 m.pc, .bool m.carry, .slice f1 m.back.length g1, .bool m.stop, .int .i64 m.cyc])).put (some 11) (.pointer (some ⟨rb, 0, none⟩))).put (some 14) (.pointer (some ⟨rb, 0, none⟩))).put (some 17) (.pointer (some ⟨rb, 0, none⟩))) ∧ Hid (MidM w w0.heap.size rb w1.heap.size (1200 + 0) (.agg #[.slice a1 m.ram.length c1, .slice b1 m.rom.length d1, .int .i64 m.bank, .int .i64 m.a, .int .i64 m.pc, .bool m.carry, .slice f1 m.back.length g1, .bool m.stop, .int .i64 m.cyc]) (.slice a1 m.ram.length c1) (.slice b1 m.rom.length d1) (.int .i64 m.bank) (.int .i64 m.a) (.int .i64 m.pc) (.bool m.carry) (.slice f1 m.back.length g1) (.bool m.stop) (.int .i64 m.cyc) (.slice none 0 0) (.slice none 0 0) (.int .i64 0) (.int .i64 0) (.int .i64 0) (.bool false) (.slice none 0 0) (.bool false) (.int .i64 0) m W)) ?_ (fun HD14 => ?_)
  · rintro act9 W ⟨rfl, hF⟩
    subst hA0
    have hlW := hF.out.rd.lt
    obtain ⟨x0, x1, x2, x3, x4, x5, x6, x7, x8, xf⟩ := id hF.out.nine
    clear xf
    obtain ⟨e0, e1, e2, e3, e4, e5, e6, e7, e8, ef⟩ := id hF.out.box
    have ef0 := ef 0
    have ef1 := ef 1
    have ef2 := ef 2
    have ef3 := ef 3
    have ef4 := ef 4
    have ef5 := ef 5
    have ef6 := ef 6
    have ef7 := ef 7
    have ef8 := ef 8
    clear ef
    have hX1 : w1.heap.size < W.heap.size := block_lt_of_cell x0
    have hXw : w.heap.size < W.heap.size := block_lt_of_cell e0
    (try simp only [Act.put, List.setIfInBounds_toArray, List.set_cons_zero, List.set_cons_succ])
    refine wpAny_ready (rs := [2]) (by kernel_rfl) (by simp) ?_
    refine AllReady.cons (o := ({ dst := some 12, op := Op.call { callee := Callee.value (Operand.func 12), args := #[Operand.tmp 11, Operand.const (Value.int IntKind.i64 30)], argTypes := #[36, 3] }, type := 3, pos := "l20_draw.go:331", after := #[{ on := 1, ground := Ground.data }], guard := none } : Oper)) rfl (fun K hK => ?_) ?_
    · go_simp
      refine (pick (B := (1200 + 0)) _ hF.out.rd (by omega)).mono ?_
      rintro e W' ⟨v2, rfl, ⟨q2, rfl, y2, z2⟩, hR', hK'⟩
      first | (refine hK _ _ ?_; clear hK K) | (go_wp2_with fail; (try (refine hK _ _ ?_)); (try clear hK K))
      (try simp only [Act.put, List.setIfInBounds_toArray, List.set_cons_zero, List.set_cons_succ])
      refine wpAny_take (i := 3) (oi := ({ dst := some 13, op := Op.binOp BinOp.add 3 (Operand.const (Value.int IntKind.i64 512)) (Operand.tmp 12) 3, type := 3, pos := "l20_draw.go:331", after := #[{ on := 2, ground := Ground.data }, { on := 12, ground := Ground.gcOnly Departure.lateStores }], guard := none } : Oper)) (v := ?_) rfl (by kernel_rfl) (by kernel_rfl) (by kernel_rfl) (fun _ _ _ h => h) (Or.inl ⟨by rfl, ?_⟩) ?_
      rotate_left
      · intro wq; go_simp; (try with_reducible rfl)
      (try simp only [Act.put, List.setIfInBounds_toArray, List.set_cons_zero, List.set_cons_succ])
      refine wpAny_to (by kernel_rfl) (by kernel_rfl) (HD11.out _ _ ?_)
      apply Exists.intro
      apply Exists.intro
      refine ⟨?_, ?_⟩
      · (try simp only [Act.put, List.setIfInBounds_toArray, List.set_cons_zero, List.set_cons_succ]); (try rfl)
      · exact hF.out.keep hK' hR'
    exact AllReady.nil
  refine wpAny_pre 11 #[false, true, false, false, true, false, false, true, false, false, false, false, false, false] (fun act9 W => act9 = (((A0.put (some 11) (.pointer (some ⟨rb, 0, none⟩))).put (some 14) (.pointer (some ⟨rb, 0, none⟩))).put (some 17) (.pointer (some ⟨rb, 0, none⟩))) ∧ Hid (MidM w w0.heap.size rb w1.heap.size (1200 + 0) (.agg #[.slice a1 m.ram.length c1, .slice b1 m.rom.length d1, .int .i64 m.bank, .int .i64 m.a, .int .i64 m.pc, .bool m.carry, .slice f1 m.back.length g1, .bool m.stop, .int .i64 m.cyc]) (.slice a1 m.ram.length c1) (.slice b1 m.rom.length d1) (.int .i64 m.bank) (.int .i64 m.a) (.int .i64 m.pc) (.bool m.carry) (.slice f1 m.back.length g1) (.bool m.stop) (.int .i64 m.cyc) (.slice none 0 0) (.slice none 0 0) (.int .i64 0) (.int .i64 0) (.int .i64 0) (.bool false) (.slice none 0 0) (.bool false) (.int .i64 0) m W)) ?_ (fun HD15 => ?_)
  · rintro act9 W ⟨rfl, hF⟩
    subst hA0
    have hlW := hF.out.rd.lt
    obtain ⟨x0, x1, x2, x3, x4, x5, x6, x7, x8, xf⟩ := id hF.out.nine
    clear xf
    obtain ⟨e0, e1, e2, e3, e4, e5, e6, e7, e8, ef⟩ := id hF.out.box
    have ef0 := ef 0
    have ef1 := ef 1
    have ef2 := ef 2
    have ef3 := ef 3
    have ef4 := ef 4
    have ef5 := ef 5
    have ef6 := ef 6
    have ef7 := ef 7
    have ef8 := ef 8
    clear ef
    have hX1 : w1.heap.size < W.heap.size := block_lt_of_cell x0
    have hXw : w.heap.size < W.heap.size := block_lt_of_cell e0
    (try simp only [Act.put, List.setIfInBounds_toArray, List.set_cons_zero, List.set_cons_succ])
    refine wpAny_ready (rs := [0, 2]) (by kernel_rfl) (by simp) ?_
    refine AllReady.cons (o := ({ dst := some 10, op := Op.load 28 (Operand.tmp 5), type := 28, pos := "l20_draw.go:331", after := #[], guard := none } : Oper)) rfl (fun K hK => ?_) ?_
    · go_simp
      refine hK _ _ ?_
      clear hK K
      (try simp only [Act.put, List.setIfInBounds_toArray, List.set_cons_zero, List.set_cons_succ])
      refine wpAny_to (by kernel_rfl) (by kernel_rfl) (HD14.out _ _ ?_)
      refine ⟨?_, ?_⟩
      · (try simp only [Act.put, List.setIfInBounds_toArray, List.set_cons_zero, List.set_cons_succ]); (try rfl)
      · exact hF.out
    refine AllReady.cons (o := ({ dst := some 12, op := Op.call { callee := Callee.value (Operand.func 12), args := #[Operand.tmp 11, Operand.const (Value.int IntKind.i64 30)], argTypes := #[36, 3] }, type := 3, pos := "l20_draw.go:331", after := #[{ on := 1, ground := Ground.data }], guard := none } : Oper)) rfl (fun K hK => ?_) ?_
    · go_simp
      refine (pick (B := (1200 + 0)) _ hF.out.rd (by omega)).mono ?_
      rintro e W' ⟨v2, rfl, ⟨q2, rfl, y2, z2⟩, hR', hK'⟩
      first | (refine hK _ _ ?_; clear hK K) | (go_wp2_with fail; (try (refine hK _ _ ?_)); (try clear hK K))
      (try simp only [Act.put, List.setIfInBounds_toArray, List.set_cons_zero, List.set_cons_succ])
      refine wpAny_take (i := 3) (oi := ({ dst := some 13, op := Op.binOp BinOp.add 3 (Operand.const (Value.int IntKind.i64 512)) (Operand.tmp 12) 3, type := 3, pos := "l20_draw.go:331", after := #[{ on := 2, ground := Ground.data }, { on := 12, ground := Ground.gcOnly Departure.lateStores }], guard := none } : Oper)) (v := ?_) rfl (by kernel_rfl) (by kernel_rfl) (by kernel_rfl) (fun _ _ _ h => h) (Or.inl ⟨by rfl, ?_⟩) ?_
      rotate_left
      · intro wq; go_simp; (try with_reducible rfl)
      (try simp only [Act.put, List.setIfInBounds_toArray, List.set_cons_zero, List.set_cons_succ])
      refine wpAny_to (by kernel_rfl) (by kernel_rfl) (HD13.out _ _ ?_)
      apply Exists.intro
      apply Exists.intro
      refine ⟨?_, ?_⟩
      · (try simp only [Act.put, List.setIfInBounds_toArray, List.set_cons_zero, List.set_cons_succ]); (try rfl)
      · exact hF.out.keep hK' hR'
    exact AllReady.nil
  subst hA0
  refine wpAny_take (i := 1) (oi := ({ dst := some 11, op := Op.move (Operand.tmp 4), type := 36, pos := "l20_draw.go:331", after := #[], guard := none } : Oper)) (v := ?_) rfl (by kernel_rfl) (by kernel_rfl) (by kernel_rfl) (fun _ _ _ h => h) (Or.inl ⟨by rfl, ?_⟩) ?_
  rotate_left
  · intro wq; go_simp; (try with_reducible rfl)
  (try simp only [Act.put, List.setIfInBounds_toArray, List.set_cons_zero, List.set_cons_succ])
  refine wpAny_take (i := 4) (oi := ({ dst := some 14, op := Op.move (Operand.tmp 4), type := 36, pos := "l20_draw.go:331", after := #[], guard := none } : Oper)) (v := ?_) rfl (by kernel_rfl) (by kernel_rfl) (by kernel_rfl) (fun _ _ _ h => h) (Or.inl ⟨by rfl, ?_⟩) ?_
  rotate_left
  · intro wq; go_simp; (try with_reducible rfl)
  (try simp only [Act.put, List.setIfInBounds_toArray, List.set_cons_zero, List.set_cons_succ])
  refine wpAny_take (i := 7) (oi := ({ dst := some 17, op := Op.move (Operand.tmp 4), type := 36, pos := "l20_draw.go:331", after := #[], guard := none } : Oper)) (v := ?_) rfl (by kernel_rfl) (by kernel_rfl) (by kernel_rfl) (fun _ _ _ h => h) (Or.inl ⟨by rfl, ?_⟩) ?_
  rotate_left
  · intro wq; go_simp; (try with_reducible rfl)
  (try simp only [Act.put, List.setIfInBounds_toArray, List.set_cons_zero, List.set_cons_succ])
  refine wpAny_to (by kernel_rfl) (by kernel_rfl) (HD15.out _ _ ?_)
  refine ⟨?_, hMF⟩
  (try simp only [Act.put, List.setIfInBounds_toArray, List.set_cons_zero, List.set_cons_succ]); (try rfl)
end Go.Proofs.Ytlnpmanghkeieaa
end

section
/- The law FnRunUntil: for every input it answers true, and changes nothing that was there. No condition. -/
namespace Go.Proofs.Ytlnpmanghkeieaa
open Go.ChangeShapes Go.WideShapes Go.ChangeAt Go.RowKit
set_option linter.unusedVariables false

theorem nineBelow {W W' : World} {b : Nat} {x0 x1 x2 x3 x4 x5 x6 x7 x8 : Value} (h : Nine W b x0 x1 x2 x3 x4 x5 x6 x7 x8) (hb : Below W.heap.size W W') : Nine W' b x0 x1 x2 x3 x4 x5 x6 x7 x8 := h.keep (rb := b + 1) (Keep.ofBelow hb) (by omega)
theorem twoBelow {W W' : World} {b c : Nat} {x0 x1 x2 x3 x4 x5 x6 x7 x8 y0 y1 y2 y3 y4 y5 y6 y7 y8 : Value} (hb : Below W.heap.size W W') (h : Nine W b x0 x1 x2 x3 x4 x5 x6 x7 x8 ∧ Nine W c y0 y1 y2 y3 y4 y5 y6 y7 y8) : Nine W' b x0 x1 x2 x3 x4 x5 x6 x7 x8 ∧ Nine W' c y0 y1 y2 y3 y4 y5 y6 y7 y8 := ⟨nineBelow h.1 hb, nineBelow h.2 hb⟩
theorem twoDrew {W : World} {b c : Nat} {x0 x1 x2 x3 x4 x5 x6 x7 x8 y0 y1 y2 y3 y4 y5 y6 y7 y8 : Value} (h : Nine W b x0 x1 x2 x3 x4 x5 x6 x7 x8 ∧ Nine W c y0 y1 y2 y3 y4 y5 y6 y7 y8) : Nine W.drew b x0 x1 x2 x3 x4 x5 x6 x7 x8 ∧ Nine W.drew c y0 y1 y2 y3 y4 y5 y6 y7 y8 := ⟨h.1.drew, h.2.drew⟩
theorem unt_before {m : Mach} {p : Int} {N k : Nat} (h : IsUnt m p N) (h1 : 1 ≤ k) (hk : k < N) : ¬ (Mach.steps k m).pc = p := by
  intro e
  have := h.1 k hk
  rw [contB_at (by omega) e] at this
  cases this
theorem unt_end {m : Mach} {p : Int} {N : Nat} (h : IsUnt m p N) : (Mach.steps N m).stop = true ∨ (Mach.steps N m).pc = p ∨ N = 500 := by
  have hN := isUnt_le h
  rcases Nat.lt_or_ge N 500 with k | k
  · cases hs : (Mach.steps N m).stop
    · by_cases hp : (Mach.steps N m).pc = p
      · exact .inr (.inl hp)
      · have := contB_yes k hs (.inr hp)
        rw [h.2] at this
        cases this
    · exact .inl rfl
  · exact .inr (.inr (by omega))
theorem unt_stopped {m : Mach} {p : Int} {N : Nat} (h : IsUnt m p N) (hs : m.stop = true) : N = 0 := by
  rcases Nat.eq_zero_or_pos N with k | k
  · exact k
  · have := h.1 0 k
    rw [contB_stop (n := 0) hs] at this
    cases this
theorem calls_mach {P : Program} {f : FuncId} {args : Array Value} {w : World} {m m' : Mach} (h : Calls P f args w (MadeMach m w)) (e : m = m') : Calls P f args w (MadeMach m' w) := e ▸ h
theorem rn_steps {m : Mach} {N : Nat} (hv : machB m = true) (hN : N ≤ 500) : rnM m (N : Int) = Mach.steps N m := by
  have h2 : inR (N : Int) 0 500 = true := inR_iff.2 (by omega)
  simp only [rnM, hv, h2]
  exact if_pos (by rfl)
theorem rn_valid {m : Mach} {N : Nat} (hv : machB m = true) (hc : m.cyc ≤ 1000) (hN : N ≤ 500) : machB (Mach.steps N m) = true := by
  have g := machB_good hv
  have g1 : m.Good 1000 := ⟨g.mem, g.a, g.pc, g.len, g.back, g.c0, hc⟩
  exact good_machB ((g1.steps N).more (by omega))
theorem mach_ram {m : Mach} (hv : machB m = true) : m.ram.length = 256 := by
  have g := machB_good hv
  have := (memB_iff.1 g.mem).1
  simpa [bankB] using (bankB_iff.1 this).1
theorem field_pc (x0 x1 x2 x3 x4 x5 x6 x7 x8 : Value) (w : World) : (Instr.field 28 (.agg #[x0, x1, x2, x3, x4, x5, x6, x7, x8]) 2).run Try.prog w = .ok x4 w := by kernel_rfl
set_option linter.unusedSimpArgs false in
set_option maxHeartbeats 60000000 in
set_option maxRecDepth 20000 in
theorem walk_FnRunUntil (v0 : Value) (w : World) (y0 : IsBytes w v0) : Calls Try.prog 3 #[v0] w fun e w' => e = .returned (.bool true) ∧ Below w.heap.size w w' := by
  have hY := Lib.hid y0
  obtain ⟨a, len, cap, zs, rfl, _⟩ := y0
  by_cases hl : (1048576 : Int) < (len : Int)
  · go_enter Try.func3, Try.ntmps3
    go_wp2_with fail
    go_ret
    exact ⟨rfl, Below.refl _ _⟩
  go_enter Try.func3, Try.ntmps3
  go_wp2_with fail
  refine (draw_RunUntil hY.out).mono ?_
  rintro e w1 ⟨v1, m, p, rfl, hm, hr1, hb1⟩
  have hB1 := Lib.hid hb1
  have HCY := Lib.hid hr1.2
  obtain ⟨a1, c1, b1, d1, f1, g1, rfl, _, _, _, _, _, _⟩ := machV_shape hm
  have HM := Lib.hid hm
  clear hm hb1 hr1
  go_upto_region 4 with fail
  obtain ⟨Y, hY0⟩ : ∃ Y, Y = w1.alloc (.cells #[.slice a1 m.ram.length c1, .slice b1 m.rom.length d1, .int .i64 m.bank, .int .i64 m.a, .int .i64 m.pc, .bool m.carry, .slice f1 m.back.length g1, .bool m.stop, .int .i64 m.cyc] 28) := ⟨_, rfl⟩
  have nY : Hid (Nine Y w1.heap.size (.slice a1 m.ram.length c1) (.slice b1 m.rom.length d1) (.int .i64 m.bank) (.int .i64 m.a) (.int .i64 m.pc) (.bool m.carry) (.slice f1 m.back.length g1) (.bool m.stop) (.int .i64 m.cyc)) := by rw [hY0]; exact nine_lit rfl
  have b1Y : Hid (Below w1.heap.size w1 Y) := by rw [hY0]; exact (Below.refl _ _).alloc (Nat.le_refl _) _
  rw [← hY0]
  clear hY0
  obtain ⟨x0, x1, x2, x3, x4, x5, x6, x7, x8, _⟩ := id nY.out
  have hYl : w1.heap.size < Y.heap.size := block_lt_of_cell x0
  go_wp2_with fail
  refine (impl_RunUntil p (HM.out.below b1Y.out)).mono ?_
  rintro e w3 ⟨N, y, v3, hR, rfl, o3, hb3⟩
  have HR := Lib.hid hR
  have n3 := Lib.hid (nineBelow nY.out hb3)
  have b13 : Hid (Below w1.heap.size w1 w3) := b1Y.out.trans (hb3.mono b1Y.out.size)
  have HX := Lib.hid o3.mach
  obtain ⟨ya, yc, yb, yd, ye, yf, rfl, _, _, _, _, _, _⟩ := machV_shape o3.mach
  clear o3 hb3 hR x0 x1 x2 x3 x4 x5 x6 x7 x8
  have hw3 : w1.heap.size < w3.heap.size := n3.out.lt
  go_upto_region 5 with fail
  obtain ⟨Z, hZ0⟩ : ∃ Z, Z = w3.alloc (.cells #[.slice ya y.ram.length yc, .slice yb y.rom.length yd, .int .i64 y.bank, .int .i64 y.a, .int .i64 y.pc, .bool y.carry, .slice ye y.back.length yf, .bool y.stop, .int .i64 y.cyc] 28) := ⟨_, rfl⟩
  have b3Z : Hid (Below w3.heap.size w3 Z) := by rw [hZ0]; exact (Below.refl _ _).alloc (Nat.le_refl _) _
  have nZ : Hid (Nine Z w3.heap.size (.slice ya y.ram.length yc) (.slice yb y.rom.length yd) (.int .i64 y.bank) (.int .i64 y.a) (.int .i64 y.pc) (.bool y.carry) (.slice ye y.back.length yf) (.bool y.stop) (.int .i64 y.cyc)) := by rw [hZ0]; exact nine_lit rfl
  have b1Z : Hid (Below w1.heap.size w1 Z) := b13.out.trans (b3Z.out.mono b13.out.size)
  have SZ : Hid (Nine Z w1.heap.size (.slice a1 m.ram.length c1) (.slice b1 m.rom.length d1) (.int .i64 m.bank) (.int .i64 m.a) (.int .i64 m.pc) (.bool m.carry) (.slice f1 m.back.length g1) (.bool m.stop) (.int .i64 m.cyc) ∧ Nine Z w3.heap.size (.slice ya y.ram.length yc) (.slice yb y.rom.length yd) (.int .i64 y.bank) (.int .i64 y.a) (.int .i64 y.pc) (.bool y.carry) (.slice ye y.back.length yf) (.bool y.stop) (.int .i64 y.cyc)) := ⟨nineBelow n3.out b3Z.out, nZ.out⟩
  have hBZ : Hid (Below w.heap.size w Z) := hB1.out.trans (b1Z.out.mono hB1.out.size)
  have HXZ : Hid (MachV Z (.agg #[.slice ya y.ram.length yc, .slice yb y.rom.length yd, .int .i64 y.bank, .int .i64 y.a, .int .i64 y.pc, .bool y.carry, .slice ye y.back.length yf, .bool y.stop, .int .i64 y.cyc]) y) := HX.out.below b3Z.out
  have HMZ : Hid (MachV Z (.agg #[.slice a1 m.ram.length c1, .slice b1 m.rom.length d1, .int .i64 m.bank, .int .i64 m.a, .int .i64 m.pc, .bool m.carry, .slice f1 m.back.length g1, .bool m.stop, .int .i64 m.cyc]) m) := HM.out.below b1Z.out
  rw [← hZ0]
  clear hZ0 HX HM nY n3 nZ
  obtain ⟨⟨x0, x1, x2, x3, x4, x5, x6, x7, x8, _⟩, ⟨z0, z1, z2, z3, z4, z5, z6, z7, z8, _⟩⟩ := id SZ.out
  have hzl : w1.heap.size < Z.heap.size := block_lt_of_cell x0
  have hzl3 : w3.heap.size < Z.heap.size := block_lt_of_cell z0
  go_wp2_with fail
  refine (spec_RunUntil p HMZ.out).mono ?_
  rintro e w5 ⟨N', y', v5, hR', rfl, o5, hb5⟩
  obtain ⟨rfl, rfl⟩ := HR.out.unique hR'
  have S5 := Lib.hid (twoBelow hb5 SZ.out)
  have bZ5 : Hid (Below Z.heap.size Z w5) := hb5
  have HW := Lib.hid o5.mach
  obtain ⟨za, zc, zb, zd, ze, zf, rfl, _, _, _, _, _, _⟩ := machV_shape o5.mach
  clear o5 hb5 hR' x0 x1 x2 x3 x4 x5 x6 x7 x8 z0 z1 z2 z3 z4 z5 z6 z7 z8
  go_upto_region 6 with fail
  obtain ⟨V, hV0⟩ : ∃ V, V = w5.alloc (.cells #[.slice za y.ram.length zc, .slice zb y.rom.length zd, .int .i64 y.bank, .int .i64 y.a, .int .i64 y.pc, .bool y.carry, .slice ze y.back.length zf, .bool y.stop, .int .i64 y.cyc] 28) := ⟨_, rfl⟩
  have b5V : Hid (Below w5.heap.size w5 V) := by rw [hV0]; exact (Below.refl _ _).alloc (Nat.le_refl _) _
  have nV : Hid (Nine V w5.heap.size (.slice za y.ram.length zc) (.slice zb y.rom.length zd) (.int .i64 y.bank) (.int .i64 y.a) (.int .i64 y.pc) (.bool y.carry) (.slice ze y.back.length zf) (.bool y.stop) (.int .i64 y.cyc)) := by rw [hV0]; exact nine_lit rfl
  have SV := Lib.hid (twoBelow b5V.out S5.out)
  have bZV : Hid (Below Z.heap.size Z V) := bZ5.out.trans (b5V.out.mono bZ5.out.size)
  have HWV := Lib.hid (HW.out.below b5V.out)
  rw [← hV0]
  clear hV0 HW S5
  obtain ⟨⟨x0, x1, x2, x3, x4, x5, x6, x7, x8, _⟩, ⟨z0, z1, z2, z3, z4, z5, z6, z7, z8, _⟩⟩ := id SV.out
  obtain ⟨u0, u1, u2, u3, u4, u5, u6, u7, u8, _⟩ := id nV.out
  have hvl : w1.heap.size < V.heap.size := block_lt_of_cell x0
  have hvl3 : w3.heap.size < V.heap.size := block_lt_of_cell z0
  have hvl5 : w5.heap.size < V.heap.size := block_lt_of_cell u0
  go_wp2_with fail
  refine (laws_sameMachine (HXZ.out.below bZV.out) HWV.out).mono ?_
  rintro e w6 ⟨rfl, hb6⟩
  have S6 := Lib.hid (twoBelow hb6 SV.out)
  have bZ6 : Hid (Below Z.heap.size Z w6) := bZV.out.trans (hb6.mono bZV.out.size)
  clear hb6 x0 x1 x2 x3 x4 x5 x6 x7 x8 z0 z1 z2 z3 z4 z5 z6 z7 z8 u0 u1 u2 u3 u4 u5 u6 u7 u8 SV nV HWV SZ hvl hvl3 hvl5 b5V bZV bZ5 hzl hzl3
  obtain ⟨⟨x0, x1, x2, x3, x4, x5, x6, x7, x8, _⟩, ⟨z0, z1, z2, z3, z4, z5, z6, z7, z8, _⟩⟩ := id S6.out
  have h6l : w1.heap.size < w6.heap.size := block_lt_of_cell x0
  have h6l3 : w3.heap.size < w6.heap.size := block_lt_of_cell z0
  cases hvp : (machB m && inR p 0 1023)
  · have hr := HR.out
    unfold IsR at hr
    rw [hvp] at hr
    obtain ⟨rfl, hy⟩ := hr
    have hz : ((y.ram.length : Int) == 0) = true := by rw [hy]; rfl
    clear hy HR
    go_wp2_with (go_at_call 8; refine (laws_alive _).mono ?_; rintro e w' ⟨rfl, rfl⟩)
    go_ret
    exact ⟨rfl, hBZ.out.trans (bZ6.out.mono hBZ.out.size)⟩
  · have hr := HR.out
    unfold IsR at hr
    rw [hvp] at hr
    obtain ⟨hu, hy⟩ := hr
    rw [Bool.and_eq_true] at hvp
    have hv := hvp.1
    have hN := isUnt_le hu
    have hval := rn_valid hv HCY.out hN
    rw [← hy] at hval
    have hlen := mach_ram hval
    have hz : ((y.ram.length : Int) == 0) = false := by rw [hlen]; rfl
    have HV := Lib.hid hv
    have HU := Lib.hid hu
    have EN : Hid (rnM m (N : Int) = y) := (rn_steps hv hN).trans hy.symm
    have EY := Lib.hid hy
    clear hvp hv hu hval hlen hy HR
    go_wp2_with fail
    clear x0 x1 x2 x3 x4 x5 x6 x7 x8 z0 z1 z2 z3 z4 z5 z6 z7 z8
    go_loopw [9] (fun u9 wr => ∃ k : Nat, 1 ≤ k ∧ k ≤ 40 ∧ u9 = .int .i64 k ∧ Below w6.heap.size w6 wr) (fun u9 _ => 40 - (intOf u9).toNat)
    case atStart => exact ⟨1, Nat.le_refl _, by omega, rfl, Below.refl _ _⟩
    case round =>
      obtain ⟨k, hk1, hk40, rfl, hbr⟩ := hrel
      have SR := Lib.hid (show Nine wr w1.heap.size (.slice a1 m.ram.length c1) (.slice b1 m.rom.length d1) (.int .i64 m.bank) (.int .i64 m.a) (.int .i64 m.pc) (.bool m.carry) (.slice f1 m.back.length g1) (.bool m.stop) (.int .i64 m.cyc) ∧ Nine wr w3.heap.size (.slice ya y.ram.length yc) (.slice yb y.rom.length yd) (.int .i64 y.bank) (.int .i64 y.a) (.int .i64 y.pc) (.bool y.carry) (.slice ye y.back.length yf) (.bool y.stop) (.int .i64 y.cyc) from ⟨S6.out.1.keep (rb := w1.heap.size + 1) (Keep.ofBelow hbr) (by omega), S6.out.2.keep (rb := w3.heap.size + 1) (Keep.ofBelow hbr) (by omega)⟩)
      have bZr : Hid (Below Z.heap.size Z wr) := bZ6.out.trans (hbr.mono bZ6.out.size)
      obtain ⟨⟨x0, x1, x2, x3, x4, x5, x6, x7, x8, _⟩, ⟨z0, z1, z2, z3, z4, z5, z6, z7, z8, _⟩⟩ := id SR.out
      by_cases hgo : k < N ∧ k < 40
      · have g1 : (k : Int) < N := by omega
        have g2 : (k : Int) < 40 := by omega
        have hpc := unt_before HU.out hk1 hgo.1
        have EK : Hid (rnM m (k : Int) = Mach.steps k m) := rn_steps HV.out (by omega)
        obtain ⟨q, hq⟩ : ∃ q, q = Mach.steps k m := ⟨_, rfl⟩
        rw [← hq] at hpc EK
        clear hq hgo
        go_wp2_with fail
        refine (calls_mach (impl_RunMachine (k : Int) (HMZ.out.below bZr.out)) EK.out).mono ?_
        rintro e w7 ⟨v7, rfl, o7, hb7⟩
        obtain ⟨qa, qc, qb, qd, qe, qf, rfl, _, _, _, _, _, _⟩ := machV_shape o7.mach
        have fp := field_pc
        have hb67 := hbr.trans (hb7.mono hbr.size)
        clear o7 hb7 x0 x1 x2 x3 x4 x5 x6 x7 x8 z0 z1 z2 z3 z4 z5 z6 z7 z8 bZr SR hbr
        go_wp2_with fail
        go_roundw
        case rel => exact ⟨k + 1, by omega, by omega, by go_num, hb67⟩
        case measure => simp [intOf]; omega
      · have HMF := Lib.hid (HMZ.out.below bZr.out)
        have HXF := Lib.hid (HXZ.out.below bZr.out)
        have hBF : Hid (Below w.heap.size w wr) := hBZ.out.trans (bZr.out.mono hBZ.out.size)
        have SF := SR
        obtain ⟨wf, hwf⟩ : ∃ wf, wf = wr := ⟨_, rfl⟩
        subst hwf
        have hend : ((k : Int) < N && (k : Int) < 40) = false := by
          rw [Bool.and_eq_false_iff]
          by_cases q1 : k < N
          · right; rw [decide_eq_false_iff_not]; omega
          · left; rw [decide_eq_false_iff_not]; omega
        have key : (m.stop = true ∧ y.stop = true ∧ N = 0) ∨ (m.stop = false ∧ y.stop = true) ∨ (m.stop = false ∧ y.stop = false ∧ y.pc = p) ∨ (m.stop = false ∧ y.stop = false ∧ ¬ y.pc = p ∧ N = 500) := by
          have he := unt_end HU.out
          rw [← EY.out] at he
          cases hms : m.stop
          · cases hys : y.stop
            · rcases he with h | h | h
              · rw [hys] at h; cases h
              · exact .inr (.inr (.inl ⟨rfl, rfl, h⟩))
              · by_cases hp : y.pc = p
                · exact .inr (.inr (.inl ⟨rfl, rfl, hp⟩))
                · exact .inr (.inr (.inr ⟨rfl, rfl, hp, h⟩))
            · exact .inr (.inl ⟨rfl, rfl⟩)
          · have h0 := unt_stopped HU.out hms
            refine .inl ⟨rfl, ?_, h0⟩
            rw [EY.out, h0]
            exact hms
        clear S6 HU EY HV bZr SR hbr
        go_upto_region 15 with fail
        · clear x0 x1 x2 x3 x4 x5 x6 x7 x8 z0 z1 z2 z3 z4 z5 z6 z7 z8
          rcases key with ⟨e1, e2, e3⟩ | ⟨e1, e2⟩ | ⟨e1, e2, e3⟩ | ⟨e1, e2, e3, e4⟩
          · rw [e1] at HMF SF
            rw [e2] at HXF SF
            subst e3
            clear e1 e2
            refine wp_region_held_drew (S := fun w' => Nine w' w1.heap.size (.slice a1 m.ram.length c1) (.slice b1 m.rom.length d1) (.int .i64 m.bank) (.int .i64 m.a) (.int .i64 m.pc) (.bool m.carry) (.slice f1 m.back.length g1) (.bool true) (.int .i64 m.cyc) ∧ Nine w' w3.heap.size (.slice ya y.ram.length yc) (.slice yb y.rom.length yd) (.int .i64 y.bank) (.int .i64 y.a) (.int .i64 y.pc) (.bool y.carry) (.slice ye y.back.length yf) (.bool true) (.int .i64 y.cyc)) (by kernel_rfl) (twoDrew SF.out) ?_
            intro hS
            try dsimp only at hS
            refine wpAnyH_take (i := 0) (oi := ({ dst := some 64, op := Op.load 28 (Operand.tmp 3), type := 28, pos := "laws.go:539", after := #[], guard := none } : Oper)) (v := ?_) rfl (by kernel_rfl) (by kernel_rfl) (by kernel_rfl) (fun _ _ _ h => h) (Or.inl ⟨by rfl, ?_⟩) hS ?_
            rotate_left
            · intro wq hSw; (try dsimp only at hSw); obtain ⟨⟨s0, s1, s2, s3, s4, s5, s6, s7, s8, _⟩, ⟨t0, t1, t2, t3, t4, t5, t6, t7, t8, _⟩⟩ := hSw; go_simp; (try with_reducible rfl)
            (try simp only [Act.put, List.setIfInBounds_toArray, List.set_cons_zero, List.set_cons_succ])
            refine wpAnyH_take (i := 1) (oi := ({ dst := some 65, op := Op.move (Operand.tmp 6), type := 3, pos := "laws.go:539", after := #[], guard := none } : Oper)) (v := ?_) rfl (by kernel_rfl) (by kernel_rfl) (by kernel_rfl) (fun _ _ _ h => h) (Or.inl ⟨by rfl, ?_⟩) hS ?_
            rotate_left
            · intro wq hSw; (try dsimp only at hSw); obtain ⟨⟨s0, s1, s2, s3, s4, s5, s6, s7, s8, _⟩, ⟨t0, t1, t2, t3, t4, t5, t6, t7, t8, _⟩⟩ := hSw; go_simp; (try with_reducible rfl)
            (try simp only [Act.put, List.setIfInBounds_toArray, List.set_cons_zero, List.set_cons_succ])
            refine wpAnyH_take (i := 3) (oi := ({ dst := some 67, op := Op.load 28 (Operand.tmp 5), type := 28, pos := "laws.go:539", after := #[], guard := none } : Oper)) (v := ?_) rfl (by kernel_rfl) (by kernel_rfl) (by kernel_rfl) (fun _ _ _ h => h) (Or.inl ⟨by rfl, ?_⟩) hS ?_
            rotate_left
            · intro wq hSw; (try dsimp only at hSw); obtain ⟨⟨s0, s1, s2, s3, s4, s5, s6, s7, s8, _⟩, ⟨t0, t1, t2, t3, t4, t5, t6, t7, t8, _⟩⟩ := hSw; go_simp; (try with_reducible rfl)
            (try simp only [Act.put, List.setIfInBounds_toArray, List.set_cons_zero, List.set_cons_succ])
            refine wpAnyH_ready (rs := [2]) (by kernel_rfl) (by simp) ?_
            refine AllReadyH.cons (o := ({ dst := some 66, op := Op.call { callee := Callee.value (Operand.func 9), args := #[Operand.tmp 64, Operand.tmp 65], argTypes := #[28, 3] }, type := 28, pos := "laws.go:539", after := #[{ on := 0, ground := Ground.data }, { on := 1, ground := Ground.data }], guard := none } : Oper)) rfl (fun K hK => ?_) AllReadyH.nil
            go_simp
            (go_at_call 9; refine (calls_mach (impl_RunMachine ((0 : Nat) : Int) (HMF.out.below (Below.refl _ _).drew)) EN.out).mono ?_; rintro e w8 ⟨v8, rfl, o8, hb8⟩; (have S8 := Lib.hid (twoBelow hb8 (twoDrew SF.out))); (have bF8 : Hid (Below wf.heap.size wf w8) := (Below.refl _ _).drew.trans hb8))
            (try go_wp2_with fail)
            refine hK.out _ _ (S8.out) (fun hT => ?_)
            clear hK K hS
            have hS := hT
            clear hT
            try dsimp only at hS
            (try simp only [Act.put, List.setIfInBounds_toArray, List.set_cons_zero, List.set_cons_succ])
            refine wpAnyH_ready (rs := [4]) (by kernel_rfl) (by simp) ?_
            refine AllReadyH.cons (o := ({ dst := some 68, op := Op.call { callee := Callee.value (Operand.func 7), args := #[Operand.tmp 66, Operand.tmp 67], argTypes := #[28, 28] }, type := 4, pos := "laws.go:539", after := #[{ on := 2, ground := Ground.data }, { on := 3, ground := Ground.data }, { on := 2, ground := Ground.chain }], guard := none } : Oper)) rfl (fun K hK => ?_) AllReadyH.nil
            go_simp
            (go_at_call 7; refine (laws_sameMachine o8.mach (HXF.out.below bF8.out)).mono ?_; rintro e w9 ⟨rfl, hb9⟩; (have S9 := Lib.hid (twoBelow hb9 S8.out)); (have bF9 : Hid (Below wf.heap.size wf w9) := bF8.out.trans (hb9.mono bF8.out.size)))
            (try go_wp2_with fail)
            refine hK.out _ _ (S9.out) (fun hT => ?_)
            clear hK K hS
            have hS := hT
            clear hT
            try dsimp only at hS
            (try simp only [Act.put, List.setIfInBounds_toArray, List.set_cons_zero, List.set_cons_succ])
            refine wpAnyH_take (i := 5) (oi := ({ dst := some 69, op := Op.move (Operand.tmp 68), type := 4, pos := "laws.go:539", after := #[{ on := 4, ground := Ground.data }, { on := 4, ground := Ground.chain }], guard := none } : Oper)) (v := ?_) rfl (by kernel_rfl) (by kernel_rfl) (by kernel_rfl) (fun _ _ _ h => h) (Or.inl ⟨by rfl, ?_⟩) hS ?_
            rotate_left
            · intro wq hSw; (try dsimp only at hSw); obtain ⟨⟨s0, s1, s2, s3, s4, s5, s6, s7, s8, _⟩, ⟨t0, t1, t2, t3, t4, t5, t6, t7, t8, _⟩⟩ := hSw; go_simp; (try with_reducible rfl)
            (try simp only [Act.put, List.setIfInBounds_toArray, List.set_cons_zero, List.set_cons_succ])
            refine wpAnyH_take (i := 6) (oi := ({ dst := some 70, op := Op.fieldAddr 28 (Operand.tmp 5) 5, type := 0, pos := "laws.go:539", after := #[{ on := 5, ground := Ground.guard }], guard := some (5, true) } : Oper)) (v := ?_) rfl (by kernel_rfl) (by kernel_rfl) (by kernel_rfl) (fun _ _ _ h => h) (Or.inl ⟨by rfl, ?_⟩) hS ?_
            rotate_left
            · intro wq hSw; (try dsimp only at hSw); obtain ⟨⟨s0, s1, s2, s3, s4, s5, s6, s7, s8, _⟩, ⟨t0, t1, t2, t3, t4, t5, t6, t7, t8, _⟩⟩ := hSw; go_simp; (try with_reducible rfl)
            (try simp only [Act.put, List.setIfInBounds_toArray, List.set_cons_zero, List.set_cons_succ])
            refine wpAnyH_take (i := 7) (oi := ({ dst := some 71, op := Op.load 4 (Operand.tmp 70), type := 4, pos := "laws.go:539", after := #[{ on := 6, ground := Ground.data }, { on := 5, ground := Ground.guard }], guard := some (5, true) } : Oper)) (v := ?_) rfl (by kernel_rfl) (by kernel_rfl) (by kernel_rfl) (fun _ _ _ h => h) (Or.inl ⟨by rfl, ?_⟩) hS ?_
            rotate_left
            · intro wq hSw; (try dsimp only at hSw); obtain ⟨⟨s0, s1, s2, s3, s4, s5, s6, s7, s8, _⟩, ⟨t0, t1, t2, t3, t4, t5, t6, t7, t8, _⟩⟩ := hSw; go_simp; (try with_reducible rfl)
            (try simp only [Act.put, List.setIfInBounds_toArray, List.set_cons_zero, List.set_cons_succ])
            refine wpAnyH_take (i := 8) (oi := ({ dst := some 72, op := Op.move (Operand.tmp 71), type := 4, pos := "laws.go:539", after := #[{ on := 7, ground := Ground.data }, { on := 5, ground := Ground.chain }, { on := 5, ground := Ground.guard }], guard := some (5, true) } : Oper)) (v := ?_) rfl (by kernel_rfl) (by kernel_rfl) (by kernel_rfl) (fun _ _ _ h => h) (Or.inl ⟨by rfl, ?_⟩) hS ?_
            rotate_left
            · intro wq hSw; (try dsimp only at hSw); obtain ⟨⟨s0, s1, s2, s3, s4, s5, s6, s7, s8, _⟩, ⟨t0, t1, t2, t3, t4, t5, t6, t7, t8, _⟩⟩ := hSw; go_simp; (try with_reducible rfl)
            (try simp only [Act.put, List.setIfInBounds_toArray, List.set_cons_zero, List.set_cons_succ])
            refine wpAnyH_take (i := 9) (oi := ({ dst := some 73, op := Op.fieldAddr 28 (Operand.tmp 5) 2, type := 0, pos := "laws.go:539", after := #[{ on := 8, ground := Ground.guard }], guard := some (8, false) } : Oper)) (v := undef) rfl (by kernel_rfl) (by kernel_rfl) (by kernel_rfl) (fun _ _ _ h => h) (Or.inr ⟨by rfl, rfl⟩) hS ?_
            (try simp only [Act.put, List.setIfInBounds_toArray, List.set_cons_zero, List.set_cons_succ])
            refine wpAnyH_take (i := 10) (oi := ({ dst := some 74, op := Op.load 3 (Operand.tmp 73), type := 3, pos := "laws.go:539", after := #[{ on := 9, ground := Ground.data }, { on := 8, ground := Ground.guard }], guard := some (8, false) } : Oper)) (v := undef) rfl (by kernel_rfl) (by kernel_rfl) (by kernel_rfl) (fun _ _ _ h => h) (Or.inr ⟨by rfl, rfl⟩) hS ?_
            (try simp only [Act.put, List.setIfInBounds_toArray, List.set_cons_zero, List.set_cons_succ])
            refine wpAnyH_take (i := 11) (oi := ({ dst := some 75, op := Op.move (Operand.tmp 4), type := 3, pos := "laws.go:539", after := #[{ on := 8, ground := Ground.guard }], guard := some (8, false) } : Oper)) (v := undef) rfl (by kernel_rfl) (by kernel_rfl) (by kernel_rfl) (fun _ _ _ h => h) (Or.inr ⟨by rfl, rfl⟩) hS ?_
            (try simp only [Act.put, List.setIfInBounds_toArray, List.set_cons_zero, List.set_cons_succ])
            refine wpAnyH_take (i := 12) (oi := ({ dst := some 76, op := Op.binOp BinOp.eql 3 (Operand.tmp 74) (Operand.tmp 75) 3, type := 4, pos := "laws.go:539", after := #[{ on := 10, ground := Ground.data }, { on := 11, ground := Ground.data }, { on := 8, ground := Ground.guard }], guard := some (8, false) } : Oper)) (v := undef) rfl (by kernel_rfl) (by kernel_rfl) (by kernel_rfl) (fun _ _ _ h => h) (Or.inr ⟨by rfl, rfl⟩) hS ?_
            (try simp only [Act.put, List.setIfInBounds_toArray, List.set_cons_zero, List.set_cons_succ])
            refine wpAnyH_take (i := 13) (oi := ({ dst := some 77, op := Op.pick (Operand.tmp 72) (Operand.const (Value.bool true)) (Operand.tmp 76), type := 4, pos := "laws.go:539", after := #[{ on := 8, ground := Ground.data }, { on := 12, ground := Ground.data }, { on := 5, ground := Ground.guard }], guard := some (5, true) } : Oper)) (v := ?_) rfl (by kernel_rfl) (by kernel_rfl) (by kernel_rfl) (fun _ _ _ h => h) (Or.inl ⟨by rfl, ?_⟩) hS ?_
            rotate_left
            · intro wq hSw; (try dsimp only at hSw); obtain ⟨⟨s0, s1, s2, s3, s4, s5, s6, s7, s8, _⟩, ⟨t0, t1, t2, t3, t4, t5, t6, t7, t8, _⟩⟩ := hSw; go_simp; (try with_reducible rfl)
            (try simp only [Act.put, List.setIfInBounds_toArray, List.set_cons_zero, List.set_cons_succ])
            refine wpAnyH_take (i := 14) (oi := ({ dst := some 78, op := Op.move (Operand.tmp 77), type := 4, pos := "laws.go:539", after := #[{ on := 13, ground := Ground.data }, { on := 8, ground := Ground.chain }, { on := 5, ground := Ground.guard }], guard := some (5, true) } : Oper)) (v := ?_) rfl (by kernel_rfl) (by kernel_rfl) (by kernel_rfl) (fun _ _ _ h => h) (Or.inl ⟨by rfl, ?_⟩) hS ?_
            rotate_left
            · intro wq hSw; (try dsimp only at hSw); obtain ⟨⟨s0, s1, s2, s3, s4, s5, s6, s7, s8, _⟩, ⟨t0, t1, t2, t3, t4, t5, t6, t7, t8, _⟩⟩ := hSw; go_simp; (try with_reducible rfl)
            (try simp only [Act.put, List.setIfInBounds_toArray, List.set_cons_zero, List.set_cons_succ])
            refine wpAnyH_take (i := 15) (oi := ({ dst := some 79, op := Op.move (Operand.tmp 6), type := 3, pos := "laws.go:539", after := #[{ on := 14, ground := Ground.guard }], guard := some (14, false) } : Oper)) (v := undef) rfl (by kernel_rfl) (by kernel_rfl) (by kernel_rfl) (fun _ _ _ h => h) (Or.inr ⟨by rfl, rfl⟩) hS ?_
            (try simp only [Act.put, List.setIfInBounds_toArray, List.set_cons_zero, List.set_cons_succ])
            refine wpAnyH_take (i := 16) (oi := ({ dst := some 80, op := Op.binOp BinOp.eql 3 (Operand.tmp 79) (Operand.const (Value.int IntKind.i64 500)) 3, type := 4, pos := "laws.go:539", after := #[{ on := 15, ground := Ground.data }, { on := 14, ground := Ground.guard }], guard := some (14, false) } : Oper)) (v := undef) rfl (by kernel_rfl) (by kernel_rfl) (by kernel_rfl) (fun _ _ _ h => h) (Or.inr ⟨by rfl, rfl⟩) hS ?_
            (try simp only [Act.put, List.setIfInBounds_toArray, List.set_cons_zero, List.set_cons_succ])
            refine wpAnyH_take (i := 17) (oi := ({ dst := some 81, op := Op.pick (Operand.tmp 78) (Operand.const (Value.bool true)) (Operand.tmp 80), type := 4, pos := "laws.go:539", after := #[{ on := 14, ground := Ground.data }, { on := 16, ground := Ground.data }, { on := 5, ground := Ground.guard }], guard := some (5, true) } : Oper)) (v := ?_) rfl (by kernel_rfl) (by kernel_rfl) (by kernel_rfl) (fun _ _ _ h => h) (Or.inl ⟨by rfl, ?_⟩) hS ?_
            rotate_left
            · intro wq hSw; (try dsimp only at hSw); obtain ⟨⟨s0, s1, s2, s3, s4, s5, s6, s7, s8, _⟩, ⟨t0, t1, t2, t3, t4, t5, t6, t7, t8, _⟩⟩ := hSw; go_simp; (try with_reducible rfl)
            (try simp only [Act.put, List.setIfInBounds_toArray, List.set_cons_zero, List.set_cons_succ])
            refine wpAnyH_take (i := 18) (oi := ({ dst := some 82, op := Op.pick (Operand.tmp 69) (Operand.tmp 81) (Operand.const (Value.bool false)), type := 4, pos := "laws.go:539", after := #[{ on := 5, ground := Ground.data }, { on := 17, ground := Ground.data }], guard := none } : Oper)) (v := ?_) rfl (by kernel_rfl) (by kernel_rfl) (by kernel_rfl) (fun _ _ _ h => h) (Or.inl ⟨by rfl, ?_⟩) hS ?_
            rotate_left
            · intro wq hSw; (try dsimp only at hSw); obtain ⟨⟨s0, s1, s2, s3, s4, s5, s6, s7, s8, _⟩, ⟨t0, t1, t2, t3, t4, t5, t6, t7, t8, _⟩⟩ := hSw; go_simp; (try with_reducible rfl)
            (try simp only [Act.put, List.setIfInBounds_toArray, List.set_cons_zero, List.set_cons_succ])
            refine wpAnyH_take (i := 19) (oi := ({ dst := some 83, op := Op.move (Operand.tmp 82), type := 4, pos := "laws.go:539", after := #[{ on := 18, ground := Ground.data }, { on := 14, ground := Ground.chain }], guard := none } : Oper)) (v := ?_) rfl (by kernel_rfl) (by kernel_rfl) (by kernel_rfl) (fun _ _ _ h => h) (Or.inl ⟨by rfl, ?_⟩) hS ?_
            rotate_left
            · intro wq hSw; (try dsimp only at hSw); obtain ⟨⟨s0, s1, s2, s3, s4, s5, s6, s7, s8, _⟩, ⟨t0, t1, t2, t3, t4, t5, t6, t7, t8, _⟩⟩ := hSw; go_simp; (try with_reducible rfl)
            (try simp only [Act.put, List.setIfInBounds_toArray, List.set_cons_zero, List.set_cons_succ])
            refine wpAnyH_take (i := 20) (oi := ({ dst := some 84, op := Op.fieldAddr 28 (Operand.tmp 3) 5, type := 0, pos := "laws.go:539", after := #[{ on := 19, ground := Ground.guard }], guard := some (19, true) } : Oper)) (v := ?_) rfl (by kernel_rfl) (by kernel_rfl) (by kernel_rfl) (fun _ _ _ h => h) (Or.inl ⟨by rfl, ?_⟩) hS ?_
            rotate_left
            · intro wq hSw; (try dsimp only at hSw); obtain ⟨⟨s0, s1, s2, s3, s4, s5, s6, s7, s8, _⟩, ⟨t0, t1, t2, t3, t4, t5, t6, t7, t8, _⟩⟩ := hSw; go_simp; (try with_reducible rfl)
            (try simp only [Act.put, List.setIfInBounds_toArray, List.set_cons_zero, List.set_cons_succ])
            refine wpAnyH_take (i := 21) (oi := ({ dst := some 85, op := Op.load 4 (Operand.tmp 84), type := 4, pos := "laws.go:539", after := #[{ on := 20, ground := Ground.data }, { on := 19, ground := Ground.guard }], guard := some (19, true) } : Oper)) (v := ?_) rfl (by kernel_rfl) (by kernel_rfl) (by kernel_rfl) (fun _ _ _ h => h) (Or.inl ⟨by rfl, ?_⟩) hS ?_
            rotate_left
            · intro wq hSw; (try dsimp only at hSw); obtain ⟨⟨s0, s1, s2, s3, s4, s5, s6, s7, s8, _⟩, ⟨t0, t1, t2, t3, t4, t5, t6, t7, t8, _⟩⟩ := hSw; go_simp; (try with_reducible rfl)
            (try simp only [Act.put, List.setIfInBounds_toArray, List.set_cons_zero, List.set_cons_succ])
            refine wpAnyH_take (i := 22) (oi := ({ dst := some 86, op := Op.unOp UnOp.not 4 (Operand.tmp 85), type := 4, pos := "laws.go:539", after := #[{ on := 21, ground := Ground.data }, { on := 19, ground := Ground.guard }], guard := some (19, true) } : Oper)) (v := ?_) rfl (by kernel_rfl) (by kernel_rfl) (by kernel_rfl) (fun _ _ _ h => h) (Or.inl ⟨by rfl, ?_⟩) hS ?_
            rotate_left
            · intro wq hSw; (try dsimp only at hSw); obtain ⟨⟨s0, s1, s2, s3, s4, s5, s6, s7, s8, _⟩, ⟨t0, t1, t2, t3, t4, t5, t6, t7, t8, _⟩⟩ := hSw; go_simp; (try with_reducible rfl)
            (try simp only [Act.put, List.setIfInBounds_toArray, List.set_cons_zero, List.set_cons_succ])
            refine wpAnyH_take (i := 23) (oi := ({ dst := some 87, op := Op.move (Operand.tmp 86), type := 4, pos := "laws.go:539", after := #[{ on := 22, ground := Ground.data }, { on := 19, ground := Ground.chain }, { on := 19, ground := Ground.guard }], guard := some (19, true) } : Oper)) (v := ?_) rfl (by kernel_rfl) (by kernel_rfl) (by kernel_rfl) (fun _ _ _ h => h) (Or.inl ⟨by rfl, ?_⟩) hS ?_
            rotate_left
            · intro wq hSw; (try dsimp only at hSw); obtain ⟨⟨s0, s1, s2, s3, s4, s5, s6, s7, s8, _⟩, ⟨t0, t1, t2, t3, t4, t5, t6, t7, t8, _⟩⟩ := hSw; go_simp; (try with_reducible rfl)
            (try simp only [Act.put, List.setIfInBounds_toArray, List.set_cons_zero, List.set_cons_succ])
            refine wpAnyH_take (i := 24) (oi := ({ dst := some 88, op := Op.move (Operand.tmp 6), type := 3, pos := "laws.go:539", after := #[{ on := 23, ground := Ground.guard }], guard := some (23, false) } : Oper)) (v := ?_) rfl (by kernel_rfl) (by kernel_rfl) (by kernel_rfl) (fun _ _ _ h => h) (Or.inl ⟨by rfl, ?_⟩) hS ?_
            rotate_left
            · intro wq hSw; (try dsimp only at hSw); obtain ⟨⟨s0, s1, s2, s3, s4, s5, s6, s7, s8, _⟩, ⟨t0, t1, t2, t3, t4, t5, t6, t7, t8, _⟩⟩ := hSw; go_simp; (try with_reducible rfl)
            (try simp only [Act.put, List.setIfInBounds_toArray, List.set_cons_zero, List.set_cons_succ])
            refine wpAnyH_take (i := 25) (oi := ({ dst := some 89, op := Op.binOp BinOp.eql 3 (Operand.tmp 88) (Operand.const (Value.int IntKind.i64 0)) 3, type := 4, pos := "laws.go:539", after := #[{ on := 24, ground := Ground.data }, { on := 23, ground := Ground.guard }], guard := some (23, false) } : Oper)) (v := ?_) rfl (by kernel_rfl) (by kernel_rfl) (by kernel_rfl) (fun _ _ _ h => h) (Or.inl ⟨by rfl, ?_⟩) hS ?_
            rotate_left
            · intro wq hSw; (try dsimp only at hSw); obtain ⟨⟨s0, s1, s2, s3, s4, s5, s6, s7, s8, _⟩, ⟨t0, t1, t2, t3, t4, t5, t6, t7, t8, _⟩⟩ := hSw; go_simp; (try with_reducible rfl)
            (try simp only [Act.put, List.setIfInBounds_toArray, List.set_cons_zero, List.set_cons_succ])
            refine wpAnyH_take (i := 26) (oi := ({ dst := some 90, op := Op.pick (Operand.tmp 87) (Operand.const (Value.bool true)) (Operand.tmp 89), type := 4, pos := "laws.go:539", after := #[{ on := 23, ground := Ground.data }, { on := 25, ground := Ground.data }, { on := 19, ground := Ground.guard }], guard := some (19, true) } : Oper)) (v := ?_) rfl (by kernel_rfl) (by kernel_rfl) (by kernel_rfl) (fun _ _ _ h => h) (Or.inl ⟨by rfl, ?_⟩) hS ?_
            rotate_left
            · intro wq hSw; (try dsimp only at hSw); obtain ⟨⟨s0, s1, s2, s3, s4, s5, s6, s7, s8, _⟩, ⟨t0, t1, t2, t3, t4, t5, t6, t7, t8, _⟩⟩ := hSw; go_simp; (try with_reducible rfl)
            (try simp only [Act.put, List.setIfInBounds_toArray, List.set_cons_zero, List.set_cons_succ])
            refine wpAnyH_take (i := 27) (oi := ({ dst := some 91, op := Op.pick (Operand.tmp 83) (Operand.tmp 90) (Operand.const (Value.bool false)), type := 4, pos := "laws.go:539", after := #[{ on := 19, ground := Ground.data }, { on := 26, ground := Ground.data }], guard := none } : Oper)) (v := ?_) rfl (by kernel_rfl) (by kernel_rfl) (by kernel_rfl) (fun _ _ _ h => h) (Or.inl ⟨by rfl, ?_⟩) hS ?_
            rotate_left
            · intro wq hSw; (try dsimp only at hSw); obtain ⟨⟨s0, s1, s2, s3, s4, s5, s6, s7, s8, _⟩, ⟨t0, t1, t2, t3, t4, t5, t6, t7, t8, _⟩⟩ := hSw; go_simp; (try with_reducible rfl)
            (try simp only [Act.put, List.setIfInBounds_toArray, List.set_cons_zero, List.set_cons_succ])
            refine wpAnyH_take (i := 28) (oi := ({ dst := some 2, op := Op.assign (Operand.tmp 91), type := 4, pos := "laws.go:539", after := #[{ on := 27, ground := Ground.data }, { on := 23, ground := Ground.chain }, { on := 0, ground := Ground.phase }, { on := 1, ground := Ground.phase }, { on := 2, ground := Ground.phase }, { on := 3, ground := Ground.phase }, { on := 4, ground := Ground.phase }, { on := 5, ground := Ground.phase }, { on := 6, ground := Ground.phase }, { on := 7, ground := Ground.phase }, { on := 8, ground := Ground.phase }, { on := 9, ground := Ground.phase }, { on := 10, ground := Ground.phase }, { on := 11, ground := Ground.phase }, { on := 12, ground := Ground.phase }, { on := 13, ground := Ground.phase }, { on := 14, ground := Ground.phase }, { on := 15, ground := Ground.phase }, { on := 16, ground := Ground.phase }, { on := 17, ground := Ground.phase }, { on := 18, ground := Ground.phase }, { on := 19, ground := Ground.phase }, { on := 20, ground := Ground.phase }, { on := 21, ground := Ground.phase }, { on := 22, ground := Ground.phase }, { on := 23, ground := Ground.phase }, { on := 24, ground := Ground.phase }, { on := 25, ground := Ground.phase }, { on := 26, ground := Ground.phase }, { on := 27, ground := Ground.phase }], guard := none } : Oper)) (v := ?_) rfl (by kernel_rfl) (by kernel_rfl) (by kernel_rfl) (fun _ _ _ h => h) (Or.inl ⟨by rfl, ?_⟩) hS ?_
            rotate_left
            · intro wq hSw; (try dsimp only at hSw); obtain ⟨⟨s0, s1, s2, s3, s4, s5, s6, s7, s8, _⟩, ⟨t0, t1, t2, t3, t4, t5, t6, t7, t8, _⟩⟩ := hSw; go_simp; (try with_reducible rfl)
            (try simp only [Act.put, List.setIfInBounds_toArray, List.set_cons_zero, List.set_cons_succ])
            refine wpAnyH_done (by kernel_rfl) ?_ _
            go_wp2_with fail
            go_ret
            exact ⟨rfl, hBF.out.trans (bF9.out.mono hBF.out.size)⟩
          · rw [e1] at HMF SF
            rw [e2] at HXF SF
            clear e1 e2
            refine wp_region_held_drew (S := fun w' => Nine w' w1.heap.size (.slice a1 m.ram.length c1) (.slice b1 m.rom.length d1) (.int .i64 m.bank) (.int .i64 m.a) (.int .i64 m.pc) (.bool m.carry) (.slice f1 m.back.length g1) (.bool false) (.int .i64 m.cyc) ∧ Nine w' w3.heap.size (.slice ya y.ram.length yc) (.slice yb y.rom.length yd) (.int .i64 y.bank) (.int .i64 y.a) (.int .i64 y.pc) (.bool y.carry) (.slice ye y.back.length yf) (.bool true) (.int .i64 y.cyc)) (by kernel_rfl) (twoDrew SF.out) ?_
            intro hS
            try dsimp only at hS
            refine wpAnyH_take (i := 0) (oi := ({ dst := some 64, op := Op.load 28 (Operand.tmp 3), type := 28, pos := "laws.go:539", after := #[], guard := none } : Oper)) (v := ?_) rfl (by kernel_rfl) (by kernel_rfl) (by kernel_rfl) (fun _ _ _ h => h) (Or.inl ⟨by rfl, ?_⟩) hS ?_
            rotate_left
            · intro wq hSw; (try dsimp only at hSw); obtain ⟨⟨s0, s1, s2, s3, s4, s5, s6, s7, s8, _⟩, ⟨t0, t1, t2, t3, t4, t5, t6, t7, t8, _⟩⟩ := hSw; go_simp; (try with_reducible rfl)
            (try simp only [Act.put, List.setIfInBounds_toArray, List.set_cons_zero, List.set_cons_succ])
            refine wpAnyH_take (i := 1) (oi := ({ dst := some 65, op := Op.move (Operand.tmp 6), type := 3, pos := "laws.go:539", after := #[], guard := none } : Oper)) (v := ?_) rfl (by kernel_rfl) (by kernel_rfl) (by kernel_rfl) (fun _ _ _ h => h) (Or.inl ⟨by rfl, ?_⟩) hS ?_
            rotate_left
            · intro wq hSw; (try dsimp only at hSw); obtain ⟨⟨s0, s1, s2, s3, s4, s5, s6, s7, s8, _⟩, ⟨t0, t1, t2, t3, t4, t5, t6, t7, t8, _⟩⟩ := hSw; go_simp; (try with_reducible rfl)
            (try simp only [Act.put, List.setIfInBounds_toArray, List.set_cons_zero, List.set_cons_succ])
            refine wpAnyH_take (i := 3) (oi := ({ dst := some 67, op := Op.load 28 (Operand.tmp 5), type := 28, pos := "laws.go:539", after := #[], guard := none } : Oper)) (v := ?_) rfl (by kernel_rfl) (by kernel_rfl) (by kernel_rfl) (fun _ _ _ h => h) (Or.inl ⟨by rfl, ?_⟩) hS ?_
            rotate_left
            · intro wq hSw; (try dsimp only at hSw); obtain ⟨⟨s0, s1, s2, s3, s4, s5, s6, s7, s8, _⟩, ⟨t0, t1, t2, t3, t4, t5, t6, t7, t8, _⟩⟩ := hSw; go_simp; (try with_reducible rfl)
            (try simp only [Act.put, List.setIfInBounds_toArray, List.set_cons_zero, List.set_cons_succ])
            refine wpAnyH_ready (rs := [2]) (by kernel_rfl) (by simp) ?_
            refine AllReadyH.cons (o := ({ dst := some 66, op := Op.call { callee := Callee.value (Operand.func 9), args := #[Operand.tmp 64, Operand.tmp 65], argTypes := #[28, 3] }, type := 28, pos := "laws.go:539", after := #[{ on := 0, ground := Ground.data }, { on := 1, ground := Ground.data }], guard := none } : Oper)) rfl (fun K hK => ?_) AllReadyH.nil
            go_simp
            (go_at_call 9; refine (calls_mach (impl_RunMachine (N : Int) (HMF.out.below (Below.refl _ _).drew)) EN.out).mono ?_; rintro e w8 ⟨v8, rfl, o8, hb8⟩; (have S8 := Lib.hid (twoBelow hb8 (twoDrew SF.out))); (have bF8 : Hid (Below wf.heap.size wf w8) := (Below.refl _ _).drew.trans hb8))
            (try go_wp2_with fail)
            refine hK.out _ _ (S8.out) (fun hT => ?_)
            clear hK K hS
            have hS := hT
            clear hT
            try dsimp only at hS
            (try simp only [Act.put, List.setIfInBounds_toArray, List.set_cons_zero, List.set_cons_succ])
            refine wpAnyH_ready (rs := [4]) (by kernel_rfl) (by simp) ?_
            refine AllReadyH.cons (o := ({ dst := some 68, op := Op.call { callee := Callee.value (Operand.func 7), args := #[Operand.tmp 66, Operand.tmp 67], argTypes := #[28, 28] }, type := 4, pos := "laws.go:539", after := #[{ on := 2, ground := Ground.data }, { on := 3, ground := Ground.data }, { on := 2, ground := Ground.chain }], guard := none } : Oper)) rfl (fun K hK => ?_) AllReadyH.nil
            go_simp
            (go_at_call 7; refine (laws_sameMachine o8.mach (HXF.out.below bF8.out)).mono ?_; rintro e w9 ⟨rfl, hb9⟩; (have S9 := Lib.hid (twoBelow hb9 S8.out)); (have bF9 : Hid (Below wf.heap.size wf w9) := bF8.out.trans (hb9.mono bF8.out.size)))
            (try go_wp2_with fail)
            refine hK.out _ _ (S9.out) (fun hT => ?_)
            clear hK K hS
            have hS := hT
            clear hT
            try dsimp only at hS
            (try simp only [Act.put, List.setIfInBounds_toArray, List.set_cons_zero, List.set_cons_succ])
            refine wpAnyH_take (i := 5) (oi := ({ dst := some 69, op := Op.move (Operand.tmp 68), type := 4, pos := "laws.go:539", after := #[{ on := 4, ground := Ground.data }, { on := 4, ground := Ground.chain }], guard := none } : Oper)) (v := ?_) rfl (by kernel_rfl) (by kernel_rfl) (by kernel_rfl) (fun _ _ _ h => h) (Or.inl ⟨by rfl, ?_⟩) hS ?_
            rotate_left
            · intro wq hSw; (try dsimp only at hSw); obtain ⟨⟨s0, s1, s2, s3, s4, s5, s6, s7, s8, _⟩, ⟨t0, t1, t2, t3, t4, t5, t6, t7, t8, _⟩⟩ := hSw; go_simp; (try with_reducible rfl)
            (try simp only [Act.put, List.setIfInBounds_toArray, List.set_cons_zero, List.set_cons_succ])
            refine wpAnyH_take (i := 6) (oi := ({ dst := some 70, op := Op.fieldAddr 28 (Operand.tmp 5) 5, type := 0, pos := "laws.go:539", after := #[{ on := 5, ground := Ground.guard }], guard := some (5, true) } : Oper)) (v := ?_) rfl (by kernel_rfl) (by kernel_rfl) (by kernel_rfl) (fun _ _ _ h => h) (Or.inl ⟨by rfl, ?_⟩) hS ?_
            rotate_left
            · intro wq hSw; (try dsimp only at hSw); obtain ⟨⟨s0, s1, s2, s3, s4, s5, s6, s7, s8, _⟩, ⟨t0, t1, t2, t3, t4, t5, t6, t7, t8, _⟩⟩ := hSw; go_simp; (try with_reducible rfl)
            (try simp only [Act.put, List.setIfInBounds_toArray, List.set_cons_zero, List.set_cons_succ])
            refine wpAnyH_take (i := 7) (oi := ({ dst := some 71, op := Op.load 4 (Operand.tmp 70), type := 4, pos := "laws.go:539", after := #[{ on := 6, ground := Ground.data }, { on := 5, ground := Ground.guard }], guard := some (5, true) } : Oper)) (v := ?_) rfl (by kernel_rfl) (by kernel_rfl) (by kernel_rfl) (fun _ _ _ h => h) (Or.inl ⟨by rfl, ?_⟩) hS ?_
            rotate_left
            · intro wq hSw; (try dsimp only at hSw); obtain ⟨⟨s0, s1, s2, s3, s4, s5, s6, s7, s8, _⟩, ⟨t0, t1, t2, t3, t4, t5, t6, t7, t8, _⟩⟩ := hSw; go_simp; (try with_reducible rfl)
            (try simp only [Act.put, List.setIfInBounds_toArray, List.set_cons_zero, List.set_cons_succ])
            refine wpAnyH_take (i := 8) (oi := ({ dst := some 72, op := Op.move (Operand.tmp 71), type := 4, pos := "laws.go:539", after := #[{ on := 7, ground := Ground.data }, { on := 5, ground := Ground.chain }, { on := 5, ground := Ground.guard }], guard := some (5, true) } : Oper)) (v := ?_) rfl (by kernel_rfl) (by kernel_rfl) (by kernel_rfl) (fun _ _ _ h => h) (Or.inl ⟨by rfl, ?_⟩) hS ?_
            rotate_left
            · intro wq hSw; (try dsimp only at hSw); obtain ⟨⟨s0, s1, s2, s3, s4, s5, s6, s7, s8, _⟩, ⟨t0, t1, t2, t3, t4, t5, t6, t7, t8, _⟩⟩ := hSw; go_simp; (try with_reducible rfl)
            (try simp only [Act.put, List.setIfInBounds_toArray, List.set_cons_zero, List.set_cons_succ])
            refine wpAnyH_take (i := 9) (oi := ({ dst := some 73, op := Op.fieldAddr 28 (Operand.tmp 5) 2, type := 0, pos := "laws.go:539", after := #[{ on := 8, ground := Ground.guard }], guard := some (8, false) } : Oper)) (v := undef) rfl (by kernel_rfl) (by kernel_rfl) (by kernel_rfl) (fun _ _ _ h => h) (Or.inr ⟨by rfl, rfl⟩) hS ?_
            (try simp only [Act.put, List.setIfInBounds_toArray, List.set_cons_zero, List.set_cons_succ])
            refine wpAnyH_take (i := 10) (oi := ({ dst := some 74, op := Op.load 3 (Operand.tmp 73), type := 3, pos := "laws.go:539", after := #[{ on := 9, ground := Ground.data }, { on := 8, ground := Ground.guard }], guard := some (8, false) } : Oper)) (v := undef) rfl (by kernel_rfl) (by kernel_rfl) (by kernel_rfl) (fun _ _ _ h => h) (Or.inr ⟨by rfl, rfl⟩) hS ?_
            (try simp only [Act.put, List.setIfInBounds_toArray, List.set_cons_zero, List.set_cons_succ])
            refine wpAnyH_take (i := 11) (oi := ({ dst := some 75, op := Op.move (Operand.tmp 4), type := 3, pos := "laws.go:539", after := #[{ on := 8, ground := Ground.guard }], guard := some (8, false) } : Oper)) (v := undef) rfl (by kernel_rfl) (by kernel_rfl) (by kernel_rfl) (fun _ _ _ h => h) (Or.inr ⟨by rfl, rfl⟩) hS ?_
            (try simp only [Act.put, List.setIfInBounds_toArray, List.set_cons_zero, List.set_cons_succ])
            refine wpAnyH_take (i := 12) (oi := ({ dst := some 76, op := Op.binOp BinOp.eql 3 (Operand.tmp 74) (Operand.tmp 75) 3, type := 4, pos := "laws.go:539", after := #[{ on := 10, ground := Ground.data }, { on := 11, ground := Ground.data }, { on := 8, ground := Ground.guard }], guard := some (8, false) } : Oper)) (v := undef) rfl (by kernel_rfl) (by kernel_rfl) (by kernel_rfl) (fun _ _ _ h => h) (Or.inr ⟨by rfl, rfl⟩) hS ?_
            (try simp only [Act.put, List.setIfInBounds_toArray, List.set_cons_zero, List.set_cons_succ])
            refine wpAnyH_take (i := 13) (oi := ({ dst := some 77, op := Op.pick (Operand.tmp 72) (Operand.const (Value.bool true)) (Operand.tmp 76), type := 4, pos := "laws.go:539", after := #[{ on := 8, ground := Ground.data }, { on := 12, ground := Ground.data }, { on := 5, ground := Ground.guard }], guard := some (5, true) } : Oper)) (v := ?_) rfl (by kernel_rfl) (by kernel_rfl) (by kernel_rfl) (fun _ _ _ h => h) (Or.inl ⟨by rfl, ?_⟩) hS ?_
            rotate_left
            · intro wq hSw; (try dsimp only at hSw); obtain ⟨⟨s0, s1, s2, s3, s4, s5, s6, s7, s8, _⟩, ⟨t0, t1, t2, t3, t4, t5, t6, t7, t8, _⟩⟩ := hSw; go_simp; (try with_reducible rfl)
            (try simp only [Act.put, List.setIfInBounds_toArray, List.set_cons_zero, List.set_cons_succ])
            refine wpAnyH_take (i := 14) (oi := ({ dst := some 78, op := Op.move (Operand.tmp 77), type := 4, pos := "laws.go:539", after := #[{ on := 13, ground := Ground.data }, { on := 8, ground := Ground.chain }, { on := 5, ground := Ground.guard }], guard := some (5, true) } : Oper)) (v := ?_) rfl (by kernel_rfl) (by kernel_rfl) (by kernel_rfl) (fun _ _ _ h => h) (Or.inl ⟨by rfl, ?_⟩) hS ?_
            rotate_left
            · intro wq hSw; (try dsimp only at hSw); obtain ⟨⟨s0, s1, s2, s3, s4, s5, s6, s7, s8, _⟩, ⟨t0, t1, t2, t3, t4, t5, t6, t7, t8, _⟩⟩ := hSw; go_simp; (try with_reducible rfl)
            (try simp only [Act.put, List.setIfInBounds_toArray, List.set_cons_zero, List.set_cons_succ])
            refine wpAnyH_take (i := 15) (oi := ({ dst := some 79, op := Op.move (Operand.tmp 6), type := 3, pos := "laws.go:539", after := #[{ on := 14, ground := Ground.guard }], guard := some (14, false) } : Oper)) (v := undef) rfl (by kernel_rfl) (by kernel_rfl) (by kernel_rfl) (fun _ _ _ h => h) (Or.inr ⟨by rfl, rfl⟩) hS ?_
            (try simp only [Act.put, List.setIfInBounds_toArray, List.set_cons_zero, List.set_cons_succ])
            refine wpAnyH_take (i := 16) (oi := ({ dst := some 80, op := Op.binOp BinOp.eql 3 (Operand.tmp 79) (Operand.const (Value.int IntKind.i64 500)) 3, type := 4, pos := "laws.go:539", after := #[{ on := 15, ground := Ground.data }, { on := 14, ground := Ground.guard }], guard := some (14, false) } : Oper)) (v := undef) rfl (by kernel_rfl) (by kernel_rfl) (by kernel_rfl) (fun _ _ _ h => h) (Or.inr ⟨by rfl, rfl⟩) hS ?_
            (try simp only [Act.put, List.setIfInBounds_toArray, List.set_cons_zero, List.set_cons_succ])
            refine wpAnyH_take (i := 17) (oi := ({ dst := some 81, op := Op.pick (Operand.tmp 78) (Operand.const (Value.bool true)) (Operand.tmp 80), type := 4, pos := "laws.go:539", after := #[{ on := 14, ground := Ground.data }, { on := 16, ground := Ground.data }, { on := 5, ground := Ground.guard }], guard := some (5, true) } : Oper)) (v := ?_) rfl (by kernel_rfl) (by kernel_rfl) (by kernel_rfl) (fun _ _ _ h => h) (Or.inl ⟨by rfl, ?_⟩) hS ?_
            rotate_left
            · intro wq hSw; (try dsimp only at hSw); obtain ⟨⟨s0, s1, s2, s3, s4, s5, s6, s7, s8, _⟩, ⟨t0, t1, t2, t3, t4, t5, t6, t7, t8, _⟩⟩ := hSw; go_simp; (try with_reducible rfl)
            (try simp only [Act.put, List.setIfInBounds_toArray, List.set_cons_zero, List.set_cons_succ])
            refine wpAnyH_take (i := 18) (oi := ({ dst := some 82, op := Op.pick (Operand.tmp 69) (Operand.tmp 81) (Operand.const (Value.bool false)), type := 4, pos := "laws.go:539", after := #[{ on := 5, ground := Ground.data }, { on := 17, ground := Ground.data }], guard := none } : Oper)) (v := ?_) rfl (by kernel_rfl) (by kernel_rfl) (by kernel_rfl) (fun _ _ _ h => h) (Or.inl ⟨by rfl, ?_⟩) hS ?_
            rotate_left
            · intro wq hSw; (try dsimp only at hSw); obtain ⟨⟨s0, s1, s2, s3, s4, s5, s6, s7, s8, _⟩, ⟨t0, t1, t2, t3, t4, t5, t6, t7, t8, _⟩⟩ := hSw; go_simp; (try with_reducible rfl)
            (try simp only [Act.put, List.setIfInBounds_toArray, List.set_cons_zero, List.set_cons_succ])
            refine wpAnyH_take (i := 19) (oi := ({ dst := some 83, op := Op.move (Operand.tmp 82), type := 4, pos := "laws.go:539", after := #[{ on := 18, ground := Ground.data }, { on := 14, ground := Ground.chain }], guard := none } : Oper)) (v := ?_) rfl (by kernel_rfl) (by kernel_rfl) (by kernel_rfl) (fun _ _ _ h => h) (Or.inl ⟨by rfl, ?_⟩) hS ?_
            rotate_left
            · intro wq hSw; (try dsimp only at hSw); obtain ⟨⟨s0, s1, s2, s3, s4, s5, s6, s7, s8, _⟩, ⟨t0, t1, t2, t3, t4, t5, t6, t7, t8, _⟩⟩ := hSw; go_simp; (try with_reducible rfl)
            (try simp only [Act.put, List.setIfInBounds_toArray, List.set_cons_zero, List.set_cons_succ])
            refine wpAnyH_take (i := 20) (oi := ({ dst := some 84, op := Op.fieldAddr 28 (Operand.tmp 3) 5, type := 0, pos := "laws.go:539", after := #[{ on := 19, ground := Ground.guard }], guard := some (19, true) } : Oper)) (v := ?_) rfl (by kernel_rfl) (by kernel_rfl) (by kernel_rfl) (fun _ _ _ h => h) (Or.inl ⟨by rfl, ?_⟩) hS ?_
            rotate_left
            · intro wq hSw; (try dsimp only at hSw); obtain ⟨⟨s0, s1, s2, s3, s4, s5, s6, s7, s8, _⟩, ⟨t0, t1, t2, t3, t4, t5, t6, t7, t8, _⟩⟩ := hSw; go_simp; (try with_reducible rfl)
            (try simp only [Act.put, List.setIfInBounds_toArray, List.set_cons_zero, List.set_cons_succ])
            refine wpAnyH_take (i := 21) (oi := ({ dst := some 85, op := Op.load 4 (Operand.tmp 84), type := 4, pos := "laws.go:539", after := #[{ on := 20, ground := Ground.data }, { on := 19, ground := Ground.guard }], guard := some (19, true) } : Oper)) (v := ?_) rfl (by kernel_rfl) (by kernel_rfl) (by kernel_rfl) (fun _ _ _ h => h) (Or.inl ⟨by rfl, ?_⟩) hS ?_
            rotate_left
            · intro wq hSw; (try dsimp only at hSw); obtain ⟨⟨s0, s1, s2, s3, s4, s5, s6, s7, s8, _⟩, ⟨t0, t1, t2, t3, t4, t5, t6, t7, t8, _⟩⟩ := hSw; go_simp; (try with_reducible rfl)
            (try simp only [Act.put, List.setIfInBounds_toArray, List.set_cons_zero, List.set_cons_succ])
            refine wpAnyH_take (i := 22) (oi := ({ dst := some 86, op := Op.unOp UnOp.not 4 (Operand.tmp 85), type := 4, pos := "laws.go:539", after := #[{ on := 21, ground := Ground.data }, { on := 19, ground := Ground.guard }], guard := some (19, true) } : Oper)) (v := ?_) rfl (by kernel_rfl) (by kernel_rfl) (by kernel_rfl) (fun _ _ _ h => h) (Or.inl ⟨by rfl, ?_⟩) hS ?_
            rotate_left
            · intro wq hSw; (try dsimp only at hSw); obtain ⟨⟨s0, s1, s2, s3, s4, s5, s6, s7, s8, _⟩, ⟨t0, t1, t2, t3, t4, t5, t6, t7, t8, _⟩⟩ := hSw; go_simp; (try with_reducible rfl)
            (try simp only [Act.put, List.setIfInBounds_toArray, List.set_cons_zero, List.set_cons_succ])
            refine wpAnyH_take (i := 23) (oi := ({ dst := some 87, op := Op.move (Operand.tmp 86), type := 4, pos := "laws.go:539", after := #[{ on := 22, ground := Ground.data }, { on := 19, ground := Ground.chain }, { on := 19, ground := Ground.guard }], guard := some (19, true) } : Oper)) (v := ?_) rfl (by kernel_rfl) (by kernel_rfl) (by kernel_rfl) (fun _ _ _ h => h) (Or.inl ⟨by rfl, ?_⟩) hS ?_
            rotate_left
            · intro wq hSw; (try dsimp only at hSw); obtain ⟨⟨s0, s1, s2, s3, s4, s5, s6, s7, s8, _⟩, ⟨t0, t1, t2, t3, t4, t5, t6, t7, t8, _⟩⟩ := hSw; go_simp; (try with_reducible rfl)
            (try simp only [Act.put, List.setIfInBounds_toArray, List.set_cons_zero, List.set_cons_succ])
            refine wpAnyH_take (i := 24) (oi := ({ dst := some 88, op := Op.move (Operand.tmp 6), type := 3, pos := "laws.go:539", after := #[{ on := 23, ground := Ground.guard }], guard := some (23, false) } : Oper)) (v := undef) rfl (by kernel_rfl) (by kernel_rfl) (by kernel_rfl) (fun _ _ _ h => h) (Or.inr ⟨by rfl, rfl⟩) hS ?_
            (try simp only [Act.put, List.setIfInBounds_toArray, List.set_cons_zero, List.set_cons_succ])
            refine wpAnyH_take (i := 25) (oi := ({ dst := some 89, op := Op.binOp BinOp.eql 3 (Operand.tmp 88) (Operand.const (Value.int IntKind.i64 0)) 3, type := 4, pos := "laws.go:539", after := #[{ on := 24, ground := Ground.data }, { on := 23, ground := Ground.guard }], guard := some (23, false) } : Oper)) (v := undef) rfl (by kernel_rfl) (by kernel_rfl) (by kernel_rfl) (fun _ _ _ h => h) (Or.inr ⟨by rfl, rfl⟩) hS ?_
            (try simp only [Act.put, List.setIfInBounds_toArray, List.set_cons_zero, List.set_cons_succ])
            refine wpAnyH_take (i := 26) (oi := ({ dst := some 90, op := Op.pick (Operand.tmp 87) (Operand.const (Value.bool true)) (Operand.tmp 89), type := 4, pos := "laws.go:539", after := #[{ on := 23, ground := Ground.data }, { on := 25, ground := Ground.data }, { on := 19, ground := Ground.guard }], guard := some (19, true) } : Oper)) (v := ?_) rfl (by kernel_rfl) (by kernel_rfl) (by kernel_rfl) (fun _ _ _ h => h) (Or.inl ⟨by rfl, ?_⟩) hS ?_
            rotate_left
            · intro wq hSw; (try dsimp only at hSw); obtain ⟨⟨s0, s1, s2, s3, s4, s5, s6, s7, s8, _⟩, ⟨t0, t1, t2, t3, t4, t5, t6, t7, t8, _⟩⟩ := hSw; go_simp; (try with_reducible rfl)
            (try simp only [Act.put, List.setIfInBounds_toArray, List.set_cons_zero, List.set_cons_succ])
            refine wpAnyH_take (i := 27) (oi := ({ dst := some 91, op := Op.pick (Operand.tmp 83) (Operand.tmp 90) (Operand.const (Value.bool false)), type := 4, pos := "laws.go:539", after := #[{ on := 19, ground := Ground.data }, { on := 26, ground := Ground.data }], guard := none } : Oper)) (v := ?_) rfl (by kernel_rfl) (by kernel_rfl) (by kernel_rfl) (fun _ _ _ h => h) (Or.inl ⟨by rfl, ?_⟩) hS ?_
            rotate_left
            · intro wq hSw; (try dsimp only at hSw); obtain ⟨⟨s0, s1, s2, s3, s4, s5, s6, s7, s8, _⟩, ⟨t0, t1, t2, t3, t4, t5, t6, t7, t8, _⟩⟩ := hSw; go_simp; (try with_reducible rfl)
            (try simp only [Act.put, List.setIfInBounds_toArray, List.set_cons_zero, List.set_cons_succ])
            refine wpAnyH_take (i := 28) (oi := ({ dst := some 2, op := Op.assign (Operand.tmp 91), type := 4, pos := "laws.go:539", after := #[{ on := 27, ground := Ground.data }, { on := 23, ground := Ground.chain }, { on := 0, ground := Ground.phase }, { on := 1, ground := Ground.phase }, { on := 2, ground := Ground.phase }, { on := 3, ground := Ground.phase }, { on := 4, ground := Ground.phase }, { on := 5, ground := Ground.phase }, { on := 6, ground := Ground.phase }, { on := 7, ground := Ground.phase }, { on := 8, ground := Ground.phase }, { on := 9, ground := Ground.phase }, { on := 10, ground := Ground.phase }, { on := 11, ground := Ground.phase }, { on := 12, ground := Ground.phase }, { on := 13, ground := Ground.phase }, { on := 14, ground := Ground.phase }, { on := 15, ground := Ground.phase }, { on := 16, ground := Ground.phase }, { on := 17, ground := Ground.phase }, { on := 18, ground := Ground.phase }, { on := 19, ground := Ground.phase }, { on := 20, ground := Ground.phase }, { on := 21, ground := Ground.phase }, { on := 22, ground := Ground.phase }, { on := 23, ground := Ground.phase }, { on := 24, ground := Ground.phase }, { on := 25, ground := Ground.phase }, { on := 26, ground := Ground.phase }, { on := 27, ground := Ground.phase }], guard := none } : Oper)) (v := ?_) rfl (by kernel_rfl) (by kernel_rfl) (by kernel_rfl) (fun _ _ _ h => h) (Or.inl ⟨by rfl, ?_⟩) hS ?_
            rotate_left
            · intro wq hSw; (try dsimp only at hSw); obtain ⟨⟨s0, s1, s2, s3, s4, s5, s6, s7, s8, _⟩, ⟨t0, t1, t2, t3, t4, t5, t6, t7, t8, _⟩⟩ := hSw; go_simp; (try with_reducible rfl)
            (try simp only [Act.put, List.setIfInBounds_toArray, List.set_cons_zero, List.set_cons_succ])
            refine wpAnyH_done (by kernel_rfl) ?_ _
            go_wp2_with fail
            go_ret
            exact ⟨rfl, hBF.out.trans (bF9.out.mono hBF.out.size)⟩
          · rw [e1] at HMF SF
            rw [e2] at HXF SF
            clear e1 e2
            subst e3
            refine wp_region_held_drew (S := fun w' => Nine w' w1.heap.size (.slice a1 m.ram.length c1) (.slice b1 m.rom.length d1) (.int .i64 m.bank) (.int .i64 m.a) (.int .i64 m.pc) (.bool m.carry) (.slice f1 m.back.length g1) (.bool false) (.int .i64 m.cyc) ∧ Nine w' w3.heap.size (.slice ya y.ram.length yc) (.slice yb y.rom.length yd) (.int .i64 y.bank) (.int .i64 y.a) (.int .i64 y.pc) (.bool y.carry) (.slice ye y.back.length yf) (.bool false) (.int .i64 y.cyc)) (by kernel_rfl) (twoDrew SF.out) ?_
            intro hS
            try dsimp only at hS
            refine wpAnyH_take (i := 0) (oi := ({ dst := some 64, op := Op.load 28 (Operand.tmp 3), type := 28, pos := "laws.go:539", after := #[], guard := none } : Oper)) (v := ?_) rfl (by kernel_rfl) (by kernel_rfl) (by kernel_rfl) (fun _ _ _ h => h) (Or.inl ⟨by rfl, ?_⟩) hS ?_
            rotate_left
            · intro wq hSw; (try dsimp only at hSw); obtain ⟨⟨s0, s1, s2, s3, s4, s5, s6, s7, s8, _⟩, ⟨t0, t1, t2, t3, t4, t5, t6, t7, t8, _⟩⟩ := hSw; go_simp; (try with_reducible rfl)
            (try simp only [Act.put, List.setIfInBounds_toArray, List.set_cons_zero, List.set_cons_succ])
            refine wpAnyH_take (i := 1) (oi := ({ dst := some 65, op := Op.move (Operand.tmp 6), type := 3, pos := "laws.go:539", after := #[], guard := none } : Oper)) (v := ?_) rfl (by kernel_rfl) (by kernel_rfl) (by kernel_rfl) (fun _ _ _ h => h) (Or.inl ⟨by rfl, ?_⟩) hS ?_
            rotate_left
            · intro wq hSw; (try dsimp only at hSw); obtain ⟨⟨s0, s1, s2, s3, s4, s5, s6, s7, s8, _⟩, ⟨t0, t1, t2, t3, t4, t5, t6, t7, t8, _⟩⟩ := hSw; go_simp; (try with_reducible rfl)
            (try simp only [Act.put, List.setIfInBounds_toArray, List.set_cons_zero, List.set_cons_succ])
            refine wpAnyH_take (i := 3) (oi := ({ dst := some 67, op := Op.load 28 (Operand.tmp 5), type := 28, pos := "laws.go:539", after := #[], guard := none } : Oper)) (v := ?_) rfl (by kernel_rfl) (by kernel_rfl) (by kernel_rfl) (fun _ _ _ h => h) (Or.inl ⟨by rfl, ?_⟩) hS ?_
            rotate_left
            · intro wq hSw; (try dsimp only at hSw); obtain ⟨⟨s0, s1, s2, s3, s4, s5, s6, s7, s8, _⟩, ⟨t0, t1, t2, t3, t4, t5, t6, t7, t8, _⟩⟩ := hSw; go_simp; (try with_reducible rfl)
            (try simp only [Act.put, List.setIfInBounds_toArray, List.set_cons_zero, List.set_cons_succ])
            refine wpAnyH_ready (rs := [2]) (by kernel_rfl) (by simp) ?_
            refine AllReadyH.cons (o := ({ dst := some 66, op := Op.call { callee := Callee.value (Operand.func 9), args := #[Operand.tmp 64, Operand.tmp 65], argTypes := #[28, 3] }, type := 28, pos := "laws.go:539", after := #[{ on := 0, ground := Ground.data }, { on := 1, ground := Ground.data }], guard := none } : Oper)) rfl (fun K hK => ?_) AllReadyH.nil
            go_simp
            (go_at_call 9; refine (calls_mach (impl_RunMachine (N : Int) (HMF.out.below (Below.refl _ _).drew)) EN.out).mono ?_; rintro e w8 ⟨v8, rfl, o8, hb8⟩; (have S8 := Lib.hid (twoBelow hb8 (twoDrew SF.out))); (have bF8 : Hid (Below wf.heap.size wf w8) := (Below.refl _ _).drew.trans hb8))
            (try go_wp2_with fail)
            refine hK.out _ _ (S8.out) (fun hT => ?_)
            clear hK K hS
            have hS := hT
            clear hT
            try dsimp only at hS
            (try simp only [Act.put, List.setIfInBounds_toArray, List.set_cons_zero, List.set_cons_succ])
            refine wpAnyH_ready (rs := [4]) (by kernel_rfl) (by simp) ?_
            refine AllReadyH.cons (o := ({ dst := some 68, op := Op.call { callee := Callee.value (Operand.func 7), args := #[Operand.tmp 66, Operand.tmp 67], argTypes := #[28, 28] }, type := 4, pos := "laws.go:539", after := #[{ on := 2, ground := Ground.data }, { on := 3, ground := Ground.data }, { on := 2, ground := Ground.chain }], guard := none } : Oper)) rfl (fun K hK => ?_) AllReadyH.nil
            go_simp
            (go_at_call 7; refine (laws_sameMachine o8.mach (HXF.out.below bF8.out)).mono ?_; rintro e w9 ⟨rfl, hb9⟩; (have S9 := Lib.hid (twoBelow hb9 S8.out)); (have bF9 : Hid (Below wf.heap.size wf w9) := bF8.out.trans (hb9.mono bF8.out.size)))
            (try go_wp2_with fail)
            refine hK.out _ _ (S9.out) (fun hT => ?_)
            clear hK K hS
            have hS := hT
            clear hT
            try dsimp only at hS
            (try simp only [Act.put, List.setIfInBounds_toArray, List.set_cons_zero, List.set_cons_succ])
            refine wpAnyH_take (i := 5) (oi := ({ dst := some 69, op := Op.move (Operand.tmp 68), type := 4, pos := "laws.go:539", after := #[{ on := 4, ground := Ground.data }, { on := 4, ground := Ground.chain }], guard := none } : Oper)) (v := ?_) rfl (by kernel_rfl) (by kernel_rfl) (by kernel_rfl) (fun _ _ _ h => h) (Or.inl ⟨by rfl, ?_⟩) hS ?_
            rotate_left
            · intro wq hSw; (try dsimp only at hSw); obtain ⟨⟨s0, s1, s2, s3, s4, s5, s6, s7, s8, _⟩, ⟨t0, t1, t2, t3, t4, t5, t6, t7, t8, _⟩⟩ := hSw; go_simp; (try with_reducible rfl)
            (try simp only [Act.put, List.setIfInBounds_toArray, List.set_cons_zero, List.set_cons_succ])
            refine wpAnyH_take (i := 6) (oi := ({ dst := some 70, op := Op.fieldAddr 28 (Operand.tmp 5) 5, type := 0, pos := "laws.go:539", after := #[{ on := 5, ground := Ground.guard }], guard := some (5, true) } : Oper)) (v := ?_) rfl (by kernel_rfl) (by kernel_rfl) (by kernel_rfl) (fun _ _ _ h => h) (Or.inl ⟨by rfl, ?_⟩) hS ?_
            rotate_left
            · intro wq hSw; (try dsimp only at hSw); obtain ⟨⟨s0, s1, s2, s3, s4, s5, s6, s7, s8, _⟩, ⟨t0, t1, t2, t3, t4, t5, t6, t7, t8, _⟩⟩ := hSw; go_simp; (try with_reducible rfl)
            (try simp only [Act.put, List.setIfInBounds_toArray, List.set_cons_zero, List.set_cons_succ])
            refine wpAnyH_take (i := 7) (oi := ({ dst := some 71, op := Op.load 4 (Operand.tmp 70), type := 4, pos := "laws.go:539", after := #[{ on := 6, ground := Ground.data }, { on := 5, ground := Ground.guard }], guard := some (5, true) } : Oper)) (v := ?_) rfl (by kernel_rfl) (by kernel_rfl) (by kernel_rfl) (fun _ _ _ h => h) (Or.inl ⟨by rfl, ?_⟩) hS ?_
            rotate_left
            · intro wq hSw; (try dsimp only at hSw); obtain ⟨⟨s0, s1, s2, s3, s4, s5, s6, s7, s8, _⟩, ⟨t0, t1, t2, t3, t4, t5, t6, t7, t8, _⟩⟩ := hSw; go_simp; (try with_reducible rfl)
            (try simp only [Act.put, List.setIfInBounds_toArray, List.set_cons_zero, List.set_cons_succ])
            refine wpAnyH_take (i := 8) (oi := ({ dst := some 72, op := Op.move (Operand.tmp 71), type := 4, pos := "laws.go:539", after := #[{ on := 7, ground := Ground.data }, { on := 5, ground := Ground.chain }, { on := 5, ground := Ground.guard }], guard := some (5, true) } : Oper)) (v := ?_) rfl (by kernel_rfl) (by kernel_rfl) (by kernel_rfl) (fun _ _ _ h => h) (Or.inl ⟨by rfl, ?_⟩) hS ?_
            rotate_left
            · intro wq hSw; (try dsimp only at hSw); obtain ⟨⟨s0, s1, s2, s3, s4, s5, s6, s7, s8, _⟩, ⟨t0, t1, t2, t3, t4, t5, t6, t7, t8, _⟩⟩ := hSw; go_simp; (try with_reducible rfl)
            (try simp only [Act.put, List.setIfInBounds_toArray, List.set_cons_zero, List.set_cons_succ])
            refine wpAnyH_take (i := 9) (oi := ({ dst := some 73, op := Op.fieldAddr 28 (Operand.tmp 5) 2, type := 0, pos := "laws.go:539", after := #[{ on := 8, ground := Ground.guard }], guard := some (8, false) } : Oper)) (v := ?_) rfl (by kernel_rfl) (by kernel_rfl) (by kernel_rfl) (fun _ _ _ h => h) (Or.inl ⟨by rfl, ?_⟩) hS ?_
            rotate_left
            · intro wq hSw; (try dsimp only at hSw); obtain ⟨⟨s0, s1, s2, s3, s4, s5, s6, s7, s8, _⟩, ⟨t0, t1, t2, t3, t4, t5, t6, t7, t8, _⟩⟩ := hSw; go_simp; (try with_reducible rfl)
            (try simp only [Act.put, List.setIfInBounds_toArray, List.set_cons_zero, List.set_cons_succ])
            refine wpAnyH_take (i := 10) (oi := ({ dst := some 74, op := Op.load 3 (Operand.tmp 73), type := 3, pos := "laws.go:539", after := #[{ on := 9, ground := Ground.data }, { on := 8, ground := Ground.guard }], guard := some (8, false) } : Oper)) (v := ?_) rfl (by kernel_rfl) (by kernel_rfl) (by kernel_rfl) (fun _ _ _ h => h) (Or.inl ⟨by rfl, ?_⟩) hS ?_
            rotate_left
            · intro wq hSw; (try dsimp only at hSw); obtain ⟨⟨s0, s1, s2, s3, s4, s5, s6, s7, s8, _⟩, ⟨t0, t1, t2, t3, t4, t5, t6, t7, t8, _⟩⟩ := hSw; go_simp; (try with_reducible rfl)
            (try simp only [Act.put, List.setIfInBounds_toArray, List.set_cons_zero, List.set_cons_succ])
            refine wpAnyH_take (i := 11) (oi := ({ dst := some 75, op := Op.move (Operand.tmp 4), type := 3, pos := "laws.go:539", after := #[{ on := 8, ground := Ground.guard }], guard := some (8, false) } : Oper)) (v := ?_) rfl (by kernel_rfl) (by kernel_rfl) (by kernel_rfl) (fun _ _ _ h => h) (Or.inl ⟨by rfl, ?_⟩) hS ?_
            rotate_left
            · intro wq hSw; (try dsimp only at hSw); obtain ⟨⟨s0, s1, s2, s3, s4, s5, s6, s7, s8, _⟩, ⟨t0, t1, t2, t3, t4, t5, t6, t7, t8, _⟩⟩ := hSw; go_simp; (try with_reducible rfl)
            (try simp only [Act.put, List.setIfInBounds_toArray, List.set_cons_zero, List.set_cons_succ])
            refine wpAnyH_take (i := 12) (oi := ({ dst := some 76, op := Op.binOp BinOp.eql 3 (Operand.tmp 74) (Operand.tmp 75) 3, type := 4, pos := "laws.go:539", after := #[{ on := 10, ground := Ground.data }, { on := 11, ground := Ground.data }, { on := 8, ground := Ground.guard }], guard := some (8, false) } : Oper)) (v := ?_) rfl (by kernel_rfl) (by kernel_rfl) (by kernel_rfl) (fun _ _ _ h => h) (Or.inl ⟨by rfl, ?_⟩) hS ?_
            rotate_left
            · intro wq hSw; (try dsimp only at hSw); obtain ⟨⟨s0, s1, s2, s3, s4, s5, s6, s7, s8, _⟩, ⟨t0, t1, t2, t3, t4, t5, t6, t7, t8, _⟩⟩ := hSw; go_simp; (try with_reducible rfl)
            (try simp only [Act.put, List.setIfInBounds_toArray, List.set_cons_zero, List.set_cons_succ])
            refine wpAnyH_take (i := 13) (oi := ({ dst := some 77, op := Op.pick (Operand.tmp 72) (Operand.const (Value.bool true)) (Operand.tmp 76), type := 4, pos := "laws.go:539", after := #[{ on := 8, ground := Ground.data }, { on := 12, ground := Ground.data }, { on := 5, ground := Ground.guard }], guard := some (5, true) } : Oper)) (v := ?_) rfl (by kernel_rfl) (by kernel_rfl) (by kernel_rfl) (fun _ _ _ h => h) (Or.inl ⟨by rfl, ?_⟩) hS ?_
            rotate_left
            · intro wq hSw; (try dsimp only at hSw); obtain ⟨⟨s0, s1, s2, s3, s4, s5, s6, s7, s8, _⟩, ⟨t0, t1, t2, t3, t4, t5, t6, t7, t8, _⟩⟩ := hSw; go_simp; (try with_reducible rfl)
            (try simp only [Act.put, List.setIfInBounds_toArray, List.set_cons_zero, List.set_cons_succ])
            refine wpAnyH_take (i := 14) (oi := ({ dst := some 78, op := Op.move (Operand.tmp 77), type := 4, pos := "laws.go:539", after := #[{ on := 13, ground := Ground.data }, { on := 8, ground := Ground.chain }, { on := 5, ground := Ground.guard }], guard := some (5, true) } : Oper)) (v := ?_) rfl (by kernel_rfl) (by kernel_rfl) (by kernel_rfl) (fun _ _ _ h => h) (Or.inl ⟨by rfl, ?_⟩) hS ?_
            rotate_left
            · intro wq hSw; (try dsimp only at hSw); obtain ⟨⟨s0, s1, s2, s3, s4, s5, s6, s7, s8, _⟩, ⟨t0, t1, t2, t3, t4, t5, t6, t7, t8, _⟩⟩ := hSw; go_simp; (try with_reducible rfl)
            (try simp only [Act.put, List.setIfInBounds_toArray, List.set_cons_zero, List.set_cons_succ])
            refine wpAnyH_take (i := 15) (oi := ({ dst := some 79, op := Op.move (Operand.tmp 6), type := 3, pos := "laws.go:539", after := #[{ on := 14, ground := Ground.guard }], guard := some (14, false) } : Oper)) (v := undef) rfl (by kernel_rfl) (by kernel_rfl) (by kernel_rfl) (fun _ _ _ h => h) (Or.inr ⟨by rfl, rfl⟩) hS ?_
            (try simp only [Act.put, List.setIfInBounds_toArray, List.set_cons_zero, List.set_cons_succ])
            refine wpAnyH_take (i := 16) (oi := ({ dst := some 80, op := Op.binOp BinOp.eql 3 (Operand.tmp 79) (Operand.const (Value.int IntKind.i64 500)) 3, type := 4, pos := "laws.go:539", after := #[{ on := 15, ground := Ground.data }, { on := 14, ground := Ground.guard }], guard := some (14, false) } : Oper)) (v := undef) rfl (by kernel_rfl) (by kernel_rfl) (by kernel_rfl) (fun _ _ _ h => h) (Or.inr ⟨by rfl, rfl⟩) hS ?_
            (try simp only [Act.put, List.setIfInBounds_toArray, List.set_cons_zero, List.set_cons_succ])
            refine wpAnyH_take (i := 17) (oi := ({ dst := some 81, op := Op.pick (Operand.tmp 78) (Operand.const (Value.bool true)) (Operand.tmp 80), type := 4, pos := "laws.go:539", after := #[{ on := 14, ground := Ground.data }, { on := 16, ground := Ground.data }, { on := 5, ground := Ground.guard }], guard := some (5, true) } : Oper)) (v := ?_) rfl (by kernel_rfl) (by kernel_rfl) (by kernel_rfl) (fun _ _ _ h => h) (Or.inl ⟨by rfl, ?_⟩) hS ?_
            rotate_left
            · intro wq hSw; (try dsimp only at hSw); obtain ⟨⟨s0, s1, s2, s3, s4, s5, s6, s7, s8, _⟩, ⟨t0, t1, t2, t3, t4, t5, t6, t7, t8, _⟩⟩ := hSw; go_simp; (try with_reducible rfl)
            (try simp only [Act.put, List.setIfInBounds_toArray, List.set_cons_zero, List.set_cons_succ])
            refine wpAnyH_take (i := 18) (oi := ({ dst := some 82, op := Op.pick (Operand.tmp 69) (Operand.tmp 81) (Operand.const (Value.bool false)), type := 4, pos := "laws.go:539", after := #[{ on := 5, ground := Ground.data }, { on := 17, ground := Ground.data }], guard := none } : Oper)) (v := ?_) rfl (by kernel_rfl) (by kernel_rfl) (by kernel_rfl) (fun _ _ _ h => h) (Or.inl ⟨by rfl, ?_⟩) hS ?_
            rotate_left
            · intro wq hSw; (try dsimp only at hSw); obtain ⟨⟨s0, s1, s2, s3, s4, s5, s6, s7, s8, _⟩, ⟨t0, t1, t2, t3, t4, t5, t6, t7, t8, _⟩⟩ := hSw; go_simp; (try with_reducible rfl)
            (try simp only [Act.put, List.setIfInBounds_toArray, List.set_cons_zero, List.set_cons_succ])
            refine wpAnyH_take (i := 19) (oi := ({ dst := some 83, op := Op.move (Operand.tmp 82), type := 4, pos := "laws.go:539", after := #[{ on := 18, ground := Ground.data }, { on := 14, ground := Ground.chain }], guard := none } : Oper)) (v := ?_) rfl (by kernel_rfl) (by kernel_rfl) (by kernel_rfl) (fun _ _ _ h => h) (Or.inl ⟨by rfl, ?_⟩) hS ?_
            rotate_left
            · intro wq hSw; (try dsimp only at hSw); obtain ⟨⟨s0, s1, s2, s3, s4, s5, s6, s7, s8, _⟩, ⟨t0, t1, t2, t3, t4, t5, t6, t7, t8, _⟩⟩ := hSw; go_simp; (try with_reducible rfl)
            (try simp only [Act.put, List.setIfInBounds_toArray, List.set_cons_zero, List.set_cons_succ])
            refine wpAnyH_take (i := 20) (oi := ({ dst := some 84, op := Op.fieldAddr 28 (Operand.tmp 3) 5, type := 0, pos := "laws.go:539", after := #[{ on := 19, ground := Ground.guard }], guard := some (19, true) } : Oper)) (v := ?_) rfl (by kernel_rfl) (by kernel_rfl) (by kernel_rfl) (fun _ _ _ h => h) (Or.inl ⟨by rfl, ?_⟩) hS ?_
            rotate_left
            · intro wq hSw; (try dsimp only at hSw); obtain ⟨⟨s0, s1, s2, s3, s4, s5, s6, s7, s8, _⟩, ⟨t0, t1, t2, t3, t4, t5, t6, t7, t8, _⟩⟩ := hSw; go_simp; (try with_reducible rfl)
            (try simp only [Act.put, List.setIfInBounds_toArray, List.set_cons_zero, List.set_cons_succ])
            refine wpAnyH_take (i := 21) (oi := ({ dst := some 85, op := Op.load 4 (Operand.tmp 84), type := 4, pos := "laws.go:539", after := #[{ on := 20, ground := Ground.data }, { on := 19, ground := Ground.guard }], guard := some (19, true) } : Oper)) (v := ?_) rfl (by kernel_rfl) (by kernel_rfl) (by kernel_rfl) (fun _ _ _ h => h) (Or.inl ⟨by rfl, ?_⟩) hS ?_
            rotate_left
            · intro wq hSw; (try dsimp only at hSw); obtain ⟨⟨s0, s1, s2, s3, s4, s5, s6, s7, s8, _⟩, ⟨t0, t1, t2, t3, t4, t5, t6, t7, t8, _⟩⟩ := hSw; go_simp; (try with_reducible rfl)
            (try simp only [Act.put, List.setIfInBounds_toArray, List.set_cons_zero, List.set_cons_succ])
            refine wpAnyH_take (i := 22) (oi := ({ dst := some 86, op := Op.unOp UnOp.not 4 (Operand.tmp 85), type := 4, pos := "laws.go:539", after := #[{ on := 21, ground := Ground.data }, { on := 19, ground := Ground.guard }], guard := some (19, true) } : Oper)) (v := ?_) rfl (by kernel_rfl) (by kernel_rfl) (by kernel_rfl) (fun _ _ _ h => h) (Or.inl ⟨by rfl, ?_⟩) hS ?_
            rotate_left
            · intro wq hSw; (try dsimp only at hSw); obtain ⟨⟨s0, s1, s2, s3, s4, s5, s6, s7, s8, _⟩, ⟨t0, t1, t2, t3, t4, t5, t6, t7, t8, _⟩⟩ := hSw; go_simp; (try with_reducible rfl)
            (try simp only [Act.put, List.setIfInBounds_toArray, List.set_cons_zero, List.set_cons_succ])
            refine wpAnyH_take (i := 23) (oi := ({ dst := some 87, op := Op.move (Operand.tmp 86), type := 4, pos := "laws.go:539", after := #[{ on := 22, ground := Ground.data }, { on := 19, ground := Ground.chain }, { on := 19, ground := Ground.guard }], guard := some (19, true) } : Oper)) (v := ?_) rfl (by kernel_rfl) (by kernel_rfl) (by kernel_rfl) (fun _ _ _ h => h) (Or.inl ⟨by rfl, ?_⟩) hS ?_
            rotate_left
            · intro wq hSw; (try dsimp only at hSw); obtain ⟨⟨s0, s1, s2, s3, s4, s5, s6, s7, s8, _⟩, ⟨t0, t1, t2, t3, t4, t5, t6, t7, t8, _⟩⟩ := hSw; go_simp; (try with_reducible rfl)
            (try simp only [Act.put, List.setIfInBounds_toArray, List.set_cons_zero, List.set_cons_succ])
            refine wpAnyH_take (i := 24) (oi := ({ dst := some 88, op := Op.move (Operand.tmp 6), type := 3, pos := "laws.go:539", after := #[{ on := 23, ground := Ground.guard }], guard := some (23, false) } : Oper)) (v := undef) rfl (by kernel_rfl) (by kernel_rfl) (by kernel_rfl) (fun _ _ _ h => h) (Or.inr ⟨by rfl, rfl⟩) hS ?_
            (try simp only [Act.put, List.setIfInBounds_toArray, List.set_cons_zero, List.set_cons_succ])
            refine wpAnyH_take (i := 25) (oi := ({ dst := some 89, op := Op.binOp BinOp.eql 3 (Operand.tmp 88) (Operand.const (Value.int IntKind.i64 0)) 3, type := 4, pos := "laws.go:539", after := #[{ on := 24, ground := Ground.data }, { on := 23, ground := Ground.guard }], guard := some (23, false) } : Oper)) (v := undef) rfl (by kernel_rfl) (by kernel_rfl) (by kernel_rfl) (fun _ _ _ h => h) (Or.inr ⟨by rfl, rfl⟩) hS ?_
            (try simp only [Act.put, List.setIfInBounds_toArray, List.set_cons_zero, List.set_cons_succ])
            refine wpAnyH_take (i := 26) (oi := ({ dst := some 90, op := Op.pick (Operand.tmp 87) (Operand.const (Value.bool true)) (Operand.tmp 89), type := 4, pos := "laws.go:539", after := #[{ on := 23, ground := Ground.data }, { on := 25, ground := Ground.data }, { on := 19, ground := Ground.guard }], guard := some (19, true) } : Oper)) (v := ?_) rfl (by kernel_rfl) (by kernel_rfl) (by kernel_rfl) (fun _ _ _ h => h) (Or.inl ⟨by rfl, ?_⟩) hS ?_
            rotate_left
            · intro wq hSw; (try dsimp only at hSw); obtain ⟨⟨s0, s1, s2, s3, s4, s5, s6, s7, s8, _⟩, ⟨t0, t1, t2, t3, t4, t5, t6, t7, t8, _⟩⟩ := hSw; go_simp; (try with_reducible rfl)
            (try simp only [Act.put, List.setIfInBounds_toArray, List.set_cons_zero, List.set_cons_succ])
            refine wpAnyH_take (i := 27) (oi := ({ dst := some 91, op := Op.pick (Operand.tmp 83) (Operand.tmp 90) (Operand.const (Value.bool false)), type := 4, pos := "laws.go:539", after := #[{ on := 19, ground := Ground.data }, { on := 26, ground := Ground.data }], guard := none } : Oper)) (v := ?_) rfl (by kernel_rfl) (by kernel_rfl) (by kernel_rfl) (fun _ _ _ h => h) (Or.inl ⟨by rfl, ?_⟩) hS ?_
            rotate_left
            · intro wq hSw; (try dsimp only at hSw); obtain ⟨⟨s0, s1, s2, s3, s4, s5, s6, s7, s8, _⟩, ⟨t0, t1, t2, t3, t4, t5, t6, t7, t8, _⟩⟩ := hSw; go_simp; (try with_reducible rfl)
            (try simp only [Act.put, List.setIfInBounds_toArray, List.set_cons_zero, List.set_cons_succ])
            refine wpAnyH_take (i := 28) (oi := ({ dst := some 2, op := Op.assign (Operand.tmp 91), type := 4, pos := "laws.go:539", after := #[{ on := 27, ground := Ground.data }, { on := 23, ground := Ground.chain }, { on := 0, ground := Ground.phase }, { on := 1, ground := Ground.phase }, { on := 2, ground := Ground.phase }, { on := 3, ground := Ground.phase }, { on := 4, ground := Ground.phase }, { on := 5, ground := Ground.phase }, { on := 6, ground := Ground.phase }, { on := 7, ground := Ground.phase }, { on := 8, ground := Ground.phase }, { on := 9, ground := Ground.phase }, { on := 10, ground := Ground.phase }, { on := 11, ground := Ground.phase }, { on := 12, ground := Ground.phase }, { on := 13, ground := Ground.phase }, { on := 14, ground := Ground.phase }, { on := 15, ground := Ground.phase }, { on := 16, ground := Ground.phase }, { on := 17, ground := Ground.phase }, { on := 18, ground := Ground.phase }, { on := 19, ground := Ground.phase }, { on := 20, ground := Ground.phase }, { on := 21, ground := Ground.phase }, { on := 22, ground := Ground.phase }, { on := 23, ground := Ground.phase }, { on := 24, ground := Ground.phase }, { on := 25, ground := Ground.phase }, { on := 26, ground := Ground.phase }, { on := 27, ground := Ground.phase }], guard := none } : Oper)) (v := ?_) rfl (by kernel_rfl) (by kernel_rfl) (by kernel_rfl) (fun _ _ _ h => h) (Or.inl ⟨by rfl, ?_⟩) hS ?_
            rotate_left
            · intro wq hSw; (try dsimp only at hSw); obtain ⟨⟨s0, s1, s2, s3, s4, s5, s6, s7, s8, _⟩, ⟨t0, t1, t2, t3, t4, t5, t6, t7, t8, _⟩⟩ := hSw; go_simp; (try with_reducible rfl)
            (try simp only [Act.put, List.setIfInBounds_toArray, List.set_cons_zero, List.set_cons_succ])
            refine wpAnyH_done (by kernel_rfl) ?_ _
            go_wp2_with fail
            go_ret
            exact ⟨rfl, hBF.out.trans (bF9.out.mono hBF.out.size)⟩
          · rw [e1] at HMF SF
            rw [e2] at HXF SF
            clear e1 e2
            subst e4
            have q1 : (y.pc == p) = false := by rw [beq_eq_false_iff_ne]; exact e3
            have q2 : decide (y.pc = p) = false := decide_eq_false e3
            refine wp_region_held_drew (S := fun w' => Nine w' w1.heap.size (.slice a1 m.ram.length c1) (.slice b1 m.rom.length d1) (.int .i64 m.bank) (.int .i64 m.a) (.int .i64 m.pc) (.bool m.carry) (.slice f1 m.back.length g1) (.bool false) (.int .i64 m.cyc) ∧ Nine w' w3.heap.size (.slice ya y.ram.length yc) (.slice yb y.rom.length yd) (.int .i64 y.bank) (.int .i64 y.a) (.int .i64 y.pc) (.bool y.carry) (.slice ye y.back.length yf) (.bool false) (.int .i64 y.cyc)) (by kernel_rfl) (twoDrew SF.out) ?_
            intro hS
            try dsimp only at hS
            refine wpAnyH_take (i := 0) (oi := ({ dst := some 64, op := Op.load 28 (Operand.tmp 3), type := 28, pos := "laws.go:539", after := #[], guard := none } : Oper)) (v := ?_) rfl (by kernel_rfl) (by kernel_rfl) (by kernel_rfl) (fun _ _ _ h => h) (Or.inl ⟨by rfl, ?_⟩) hS ?_
            rotate_left
            · intro wq hSw; (try dsimp only at hSw); obtain ⟨⟨s0, s1, s2, s3, s4, s5, s6, s7, s8, _⟩, ⟨t0, t1, t2, t3, t4, t5, t6, t7, t8, _⟩⟩ := hSw; go_simp; (try with_reducible rfl)
            (try simp only [Act.put, List.setIfInBounds_toArray, List.set_cons_zero, List.set_cons_succ, q1, q2])
            refine wpAnyH_take (i := 1) (oi := ({ dst := some 65, op := Op.move (Operand.tmp 6), type := 3, pos := "laws.go:539", after := #[], guard := none } : Oper)) (v := ?_) rfl (by kernel_rfl) (by kernel_rfl) (by kernel_rfl) (fun _ _ _ h => h) (Or.inl ⟨by rfl, ?_⟩) hS ?_
            rotate_left
            · intro wq hSw; (try dsimp only at hSw); obtain ⟨⟨s0, s1, s2, s3, s4, s5, s6, s7, s8, _⟩, ⟨t0, t1, t2, t3, t4, t5, t6, t7, t8, _⟩⟩ := hSw; go_simp; (try with_reducible rfl)
            (try simp only [Act.put, List.setIfInBounds_toArray, List.set_cons_zero, List.set_cons_succ, q1, q2])
            refine wpAnyH_take (i := 3) (oi := ({ dst := some 67, op := Op.load 28 (Operand.tmp 5), type := 28, pos := "laws.go:539", after := #[], guard := none } : Oper)) (v := ?_) rfl (by kernel_rfl) (by kernel_rfl) (by kernel_rfl) (fun _ _ _ h => h) (Or.inl ⟨by rfl, ?_⟩) hS ?_
            rotate_left
            · intro wq hSw; (try dsimp only at hSw); obtain ⟨⟨s0, s1, s2, s3, s4, s5, s6, s7, s8, _⟩, ⟨t0, t1, t2, t3, t4, t5, t6, t7, t8, _⟩⟩ := hSw; go_simp; (try with_reducible rfl)
            (try simp only [Act.put, List.setIfInBounds_toArray, List.set_cons_zero, List.set_cons_succ, q1, q2])
            refine wpAnyH_ready (rs := [2]) (by kernel_rfl) (by simp) ?_
            refine AllReadyH.cons (o := ({ dst := some 66, op := Op.call { callee := Callee.value (Operand.func 9), args := #[Operand.tmp 64, Operand.tmp 65], argTypes := #[28, 3] }, type := 28, pos := "laws.go:539", after := #[{ on := 0, ground := Ground.data }, { on := 1, ground := Ground.data }], guard := none } : Oper)) rfl (fun K hK => ?_) AllReadyH.nil
            go_simp
            (go_at_call 9; refine (calls_mach (impl_RunMachine ((500 : Nat) : Int) (HMF.out.below (Below.refl _ _).drew)) EN.out).mono ?_; rintro e w8 ⟨v8, rfl, o8, hb8⟩; (have S8 := Lib.hid (twoBelow hb8 (twoDrew SF.out))); (have bF8 : Hid (Below wf.heap.size wf w8) := (Below.refl _ _).drew.trans hb8))
            (try go_wp2_with fail)
            refine hK.out _ _ (S8.out) (fun hT => ?_)
            clear hK K hS
            have hS := hT
            clear hT
            try dsimp only at hS
            (try simp only [Act.put, List.setIfInBounds_toArray, List.set_cons_zero, List.set_cons_succ, q1, q2])
            refine wpAnyH_ready (rs := [4]) (by kernel_rfl) (by simp) ?_
            refine AllReadyH.cons (o := ({ dst := some 68, op := Op.call { callee := Callee.value (Operand.func 7), args := #[Operand.tmp 66, Operand.tmp 67], argTypes := #[28, 28] }, type := 4, pos := "laws.go:539", after := #[{ on := 2, ground := Ground.data }, { on := 3, ground := Ground.data }, { on := 2, ground := Ground.chain }], guard := none } : Oper)) rfl (fun K hK => ?_) AllReadyH.nil
            go_simp
            (go_at_call 7; refine (laws_sameMachine o8.mach (HXF.out.below bF8.out)).mono ?_; rintro e w9 ⟨rfl, hb9⟩; (have S9 := Lib.hid (twoBelow hb9 S8.out)); (have bF9 : Hid (Below wf.heap.size wf w9) := bF8.out.trans (hb9.mono bF8.out.size)))
            (try go_wp2_with fail)
            refine hK.out _ _ (S9.out) (fun hT => ?_)
            clear hK K hS
            have hS := hT
            clear hT
            try dsimp only at hS
            (try simp only [Act.put, List.setIfInBounds_toArray, List.set_cons_zero, List.set_cons_succ, q1, q2])
            refine wpAnyH_take (i := 5) (oi := ({ dst := some 69, op := Op.move (Operand.tmp 68), type := 4, pos := "laws.go:539", after := #[{ on := 4, ground := Ground.data }, { on := 4, ground := Ground.chain }], guard := none } : Oper)) (v := ?_) rfl (by kernel_rfl) (by kernel_rfl) (by kernel_rfl) (fun _ _ _ h => h) (Or.inl ⟨by rfl, ?_⟩) hS ?_
            rotate_left
            · intro wq hSw; (try dsimp only at hSw); obtain ⟨⟨s0, s1, s2, s3, s4, s5, s6, s7, s8, _⟩, ⟨t0, t1, t2, t3, t4, t5, t6, t7, t8, _⟩⟩ := hSw; go_simp; (try with_reducible rfl)
            (try simp only [Act.put, List.setIfInBounds_toArray, List.set_cons_zero, List.set_cons_succ, q1, q2])
            refine wpAnyH_take (i := 6) (oi := ({ dst := some 70, op := Op.fieldAddr 28 (Operand.tmp 5) 5, type := 0, pos := "laws.go:539", after := #[{ on := 5, ground := Ground.guard }], guard := some (5, true) } : Oper)) (v := ?_) rfl (by kernel_rfl) (by kernel_rfl) (by kernel_rfl) (fun _ _ _ h => h) (Or.inl ⟨by rfl, ?_⟩) hS ?_
            rotate_left
            · intro wq hSw; (try dsimp only at hSw); obtain ⟨⟨s0, s1, s2, s3, s4, s5, s6, s7, s8, _⟩, ⟨t0, t1, t2, t3, t4, t5, t6, t7, t8, _⟩⟩ := hSw; go_simp; (try with_reducible rfl)
            (try simp only [Act.put, List.setIfInBounds_toArray, List.set_cons_zero, List.set_cons_succ, q1, q2])
            refine wpAnyH_take (i := 7) (oi := ({ dst := some 71, op := Op.load 4 (Operand.tmp 70), type := 4, pos := "laws.go:539", after := #[{ on := 6, ground := Ground.data }, { on := 5, ground := Ground.guard }], guard := some (5, true) } : Oper)) (v := ?_) rfl (by kernel_rfl) (by kernel_rfl) (by kernel_rfl) (fun _ _ _ h => h) (Or.inl ⟨by rfl, ?_⟩) hS ?_
            rotate_left
            · intro wq hSw; (try dsimp only at hSw); obtain ⟨⟨s0, s1, s2, s3, s4, s5, s6, s7, s8, _⟩, ⟨t0, t1, t2, t3, t4, t5, t6, t7, t8, _⟩⟩ := hSw; go_simp; (try with_reducible rfl)
            (try simp only [Act.put, List.setIfInBounds_toArray, List.set_cons_zero, List.set_cons_succ, q1, q2])
            refine wpAnyH_take (i := 8) (oi := ({ dst := some 72, op := Op.move (Operand.tmp 71), type := 4, pos := "laws.go:539", after := #[{ on := 7, ground := Ground.data }, { on := 5, ground := Ground.chain }, { on := 5, ground := Ground.guard }], guard := some (5, true) } : Oper)) (v := ?_) rfl (by kernel_rfl) (by kernel_rfl) (by kernel_rfl) (fun _ _ _ h => h) (Or.inl ⟨by rfl, ?_⟩) hS ?_
            rotate_left
            · intro wq hSw; (try dsimp only at hSw); obtain ⟨⟨s0, s1, s2, s3, s4, s5, s6, s7, s8, _⟩, ⟨t0, t1, t2, t3, t4, t5, t6, t7, t8, _⟩⟩ := hSw; go_simp; (try with_reducible rfl)
            (try simp only [Act.put, List.setIfInBounds_toArray, List.set_cons_zero, List.set_cons_succ, q1, q2])
            refine wpAnyH_take (i := 9) (oi := ({ dst := some 73, op := Op.fieldAddr 28 (Operand.tmp 5) 2, type := 0, pos := "laws.go:539", after := #[{ on := 8, ground := Ground.guard }], guard := some (8, false) } : Oper)) (v := ?_) rfl (by kernel_rfl) (by kernel_rfl) (by kernel_rfl) (fun _ _ _ h => h) (Or.inl ⟨by rfl, ?_⟩) hS ?_
            rotate_left
            · intro wq hSw; (try dsimp only at hSw); obtain ⟨⟨s0, s1, s2, s3, s4, s5, s6, s7, s8, _⟩, ⟨t0, t1, t2, t3, t4, t5, t6, t7, t8, _⟩⟩ := hSw; go_simp; (try with_reducible rfl)
            (try simp only [Act.put, List.setIfInBounds_toArray, List.set_cons_zero, List.set_cons_succ, q1, q2])
            refine wpAnyH_take (i := 10) (oi := ({ dst := some 74, op := Op.load 3 (Operand.tmp 73), type := 3, pos := "laws.go:539", after := #[{ on := 9, ground := Ground.data }, { on := 8, ground := Ground.guard }], guard := some (8, false) } : Oper)) (v := ?_) rfl (by kernel_rfl) (by kernel_rfl) (by kernel_rfl) (fun _ _ _ h => h) (Or.inl ⟨by rfl, ?_⟩) hS ?_
            rotate_left
            · intro wq hSw; (try dsimp only at hSw); obtain ⟨⟨s0, s1, s2, s3, s4, s5, s6, s7, s8, _⟩, ⟨t0, t1, t2, t3, t4, t5, t6, t7, t8, _⟩⟩ := hSw; go_simp; (try with_reducible rfl)
            (try simp only [Act.put, List.setIfInBounds_toArray, List.set_cons_zero, List.set_cons_succ, q1, q2])
            refine wpAnyH_take (i := 11) (oi := ({ dst := some 75, op := Op.move (Operand.tmp 4), type := 3, pos := "laws.go:539", after := #[{ on := 8, ground := Ground.guard }], guard := some (8, false) } : Oper)) (v := ?_) rfl (by kernel_rfl) (by kernel_rfl) (by kernel_rfl) (fun _ _ _ h => h) (Or.inl ⟨by rfl, ?_⟩) hS ?_
            rotate_left
            · intro wq hSw; (try dsimp only at hSw); obtain ⟨⟨s0, s1, s2, s3, s4, s5, s6, s7, s8, _⟩, ⟨t0, t1, t2, t3, t4, t5, t6, t7, t8, _⟩⟩ := hSw; go_simp; (try with_reducible rfl)
            (try simp only [Act.put, List.setIfInBounds_toArray, List.set_cons_zero, List.set_cons_succ, q1, q2])
            refine wpAnyH_take (i := 12) (oi := ({ dst := some 76, op := Op.binOp BinOp.eql 3 (Operand.tmp 74) (Operand.tmp 75) 3, type := 4, pos := "laws.go:539", after := #[{ on := 10, ground := Ground.data }, { on := 11, ground := Ground.data }, { on := 8, ground := Ground.guard }], guard := some (8, false) } : Oper)) (v := ?_) rfl (by kernel_rfl) (by kernel_rfl) (by kernel_rfl) (fun _ _ _ h => h) (Or.inl ⟨by rfl, ?_⟩) hS ?_
            rotate_left
            · intro wq hSw; (try dsimp only at hSw); obtain ⟨⟨s0, s1, s2, s3, s4, s5, s6, s7, s8, _⟩, ⟨t0, t1, t2, t3, t4, t5, t6, t7, t8, _⟩⟩ := hSw; go_simp; (try with_reducible rfl)
            (try simp only [Act.put, List.setIfInBounds_toArray, List.set_cons_zero, List.set_cons_succ, q1, q2])
            refine wpAnyH_take (i := 13) (oi := ({ dst := some 77, op := Op.pick (Operand.tmp 72) (Operand.const (Value.bool true)) (Operand.tmp 76), type := 4, pos := "laws.go:539", after := #[{ on := 8, ground := Ground.data }, { on := 12, ground := Ground.data }, { on := 5, ground := Ground.guard }], guard := some (5, true) } : Oper)) (v := ?_) rfl (by kernel_rfl) (by kernel_rfl) (by kernel_rfl) (fun _ _ _ h => h) (Or.inl ⟨by rfl, ?_⟩) hS ?_
            rotate_left
            · intro wq hSw; (try dsimp only at hSw); obtain ⟨⟨s0, s1, s2, s3, s4, s5, s6, s7, s8, _⟩, ⟨t0, t1, t2, t3, t4, t5, t6, t7, t8, _⟩⟩ := hSw; go_simp; (try with_reducible rfl)
            (try simp only [Act.put, List.setIfInBounds_toArray, List.set_cons_zero, List.set_cons_succ, q1, q2])
            refine wpAnyH_take (i := 14) (oi := ({ dst := some 78, op := Op.move (Operand.tmp 77), type := 4, pos := "laws.go:539", after := #[{ on := 13, ground := Ground.data }, { on := 8, ground := Ground.chain }, { on := 5, ground := Ground.guard }], guard := some (5, true) } : Oper)) (v := ?_) rfl (by kernel_rfl) (by kernel_rfl) (by kernel_rfl) (fun _ _ _ h => h) (Or.inl ⟨by rfl, ?_⟩) hS ?_
            rotate_left
            · intro wq hSw; (try dsimp only at hSw); obtain ⟨⟨s0, s1, s2, s3, s4, s5, s6, s7, s8, _⟩, ⟨t0, t1, t2, t3, t4, t5, t6, t7, t8, _⟩⟩ := hSw; go_simp; (try with_reducible rfl)
            (try simp only [Act.put, List.setIfInBounds_toArray, List.set_cons_zero, List.set_cons_succ, q1, q2])
            refine wpAnyH_take (i := 15) (oi := ({ dst := some 79, op := Op.move (Operand.tmp 6), type := 3, pos := "laws.go:539", after := #[{ on := 14, ground := Ground.guard }], guard := some (14, false) } : Oper)) (v := ?_) rfl (by kernel_rfl) (by kernel_rfl) (by kernel_rfl) (fun _ _ _ h => h) (Or.inl ⟨by rfl, ?_⟩) hS ?_
            rotate_left
            · intro wq hSw; (try dsimp only at hSw); obtain ⟨⟨s0, s1, s2, s3, s4, s5, s6, s7, s8, _⟩, ⟨t0, t1, t2, t3, t4, t5, t6, t7, t8, _⟩⟩ := hSw; go_simp; (try with_reducible rfl)
            (try simp only [Act.put, List.setIfInBounds_toArray, List.set_cons_zero, List.set_cons_succ, q1, q2])
            refine wpAnyH_take (i := 16) (oi := ({ dst := some 80, op := Op.binOp BinOp.eql 3 (Operand.tmp 79) (Operand.const (Value.int IntKind.i64 500)) 3, type := 4, pos := "laws.go:539", after := #[{ on := 15, ground := Ground.data }, { on := 14, ground := Ground.guard }], guard := some (14, false) } : Oper)) (v := ?_) rfl (by kernel_rfl) (by kernel_rfl) (by kernel_rfl) (fun _ _ _ h => h) (Or.inl ⟨by rfl, ?_⟩) hS ?_
            rotate_left
            · intro wq hSw; (try dsimp only at hSw); obtain ⟨⟨s0, s1, s2, s3, s4, s5, s6, s7, s8, _⟩, ⟨t0, t1, t2, t3, t4, t5, t6, t7, t8, _⟩⟩ := hSw; go_simp; (try with_reducible rfl)
            (try simp only [Act.put, List.setIfInBounds_toArray, List.set_cons_zero, List.set_cons_succ, q1, q2])
            refine wpAnyH_take (i := 17) (oi := ({ dst := some 81, op := Op.pick (Operand.tmp 78) (Operand.const (Value.bool true)) (Operand.tmp 80), type := 4, pos := "laws.go:539", after := #[{ on := 14, ground := Ground.data }, { on := 16, ground := Ground.data }, { on := 5, ground := Ground.guard }], guard := some (5, true) } : Oper)) (v := ?_) rfl (by kernel_rfl) (by kernel_rfl) (by kernel_rfl) (fun _ _ _ h => h) (Or.inl ⟨by rfl, ?_⟩) hS ?_
            rotate_left
            · intro wq hSw; (try dsimp only at hSw); obtain ⟨⟨s0, s1, s2, s3, s4, s5, s6, s7, s8, _⟩, ⟨t0, t1, t2, t3, t4, t5, t6, t7, t8, _⟩⟩ := hSw; go_simp; (try with_reducible rfl)
            (try simp only [Act.put, List.setIfInBounds_toArray, List.set_cons_zero, List.set_cons_succ, q1, q2])
            refine wpAnyH_take (i := 18) (oi := ({ dst := some 82, op := Op.pick (Operand.tmp 69) (Operand.tmp 81) (Operand.const (Value.bool false)), type := 4, pos := "laws.go:539", after := #[{ on := 5, ground := Ground.data }, { on := 17, ground := Ground.data }], guard := none } : Oper)) (v := ?_) rfl (by kernel_rfl) (by kernel_rfl) (by kernel_rfl) (fun _ _ _ h => h) (Or.inl ⟨by rfl, ?_⟩) hS ?_
            rotate_left
            · intro wq hSw; (try dsimp only at hSw); obtain ⟨⟨s0, s1, s2, s3, s4, s5, s6, s7, s8, _⟩, ⟨t0, t1, t2, t3, t4, t5, t6, t7, t8, _⟩⟩ := hSw; go_simp; (try with_reducible rfl)
            (try simp only [Act.put, List.setIfInBounds_toArray, List.set_cons_zero, List.set_cons_succ, q1, q2])
            refine wpAnyH_take (i := 19) (oi := ({ dst := some 83, op := Op.move (Operand.tmp 82), type := 4, pos := "laws.go:539", after := #[{ on := 18, ground := Ground.data }, { on := 14, ground := Ground.chain }], guard := none } : Oper)) (v := ?_) rfl (by kernel_rfl) (by kernel_rfl) (by kernel_rfl) (fun _ _ _ h => h) (Or.inl ⟨by rfl, ?_⟩) hS ?_
            rotate_left
            · intro wq hSw; (try dsimp only at hSw); obtain ⟨⟨s0, s1, s2, s3, s4, s5, s6, s7, s8, _⟩, ⟨t0, t1, t2, t3, t4, t5, t6, t7, t8, _⟩⟩ := hSw; go_simp; (try with_reducible rfl)
            (try simp only [Act.put, List.setIfInBounds_toArray, List.set_cons_zero, List.set_cons_succ, q1, q2])
            refine wpAnyH_take (i := 20) (oi := ({ dst := some 84, op := Op.fieldAddr 28 (Operand.tmp 3) 5, type := 0, pos := "laws.go:539", after := #[{ on := 19, ground := Ground.guard }], guard := some (19, true) } : Oper)) (v := ?_) rfl (by kernel_rfl) (by kernel_rfl) (by kernel_rfl) (fun _ _ _ h => h) (Or.inl ⟨by rfl, ?_⟩) hS ?_
            rotate_left
            · intro wq hSw; (try dsimp only at hSw); obtain ⟨⟨s0, s1, s2, s3, s4, s5, s6, s7, s8, _⟩, ⟨t0, t1, t2, t3, t4, t5, t6, t7, t8, _⟩⟩ := hSw; go_simp; (try with_reducible rfl)
            (try simp only [Act.put, List.setIfInBounds_toArray, List.set_cons_zero, List.set_cons_succ, q1, q2])
            refine wpAnyH_take (i := 21) (oi := ({ dst := some 85, op := Op.load 4 (Operand.tmp 84), type := 4, pos := "laws.go:539", after := #[{ on := 20, ground := Ground.data }, { on := 19, ground := Ground.guard }], guard := some (19, true) } : Oper)) (v := ?_) rfl (by kernel_rfl) (by kernel_rfl) (by kernel_rfl) (fun _ _ _ h => h) (Or.inl ⟨by rfl, ?_⟩) hS ?_
            rotate_left
            · intro wq hSw; (try dsimp only at hSw); obtain ⟨⟨s0, s1, s2, s3, s4, s5, s6, s7, s8, _⟩, ⟨t0, t1, t2, t3, t4, t5, t6, t7, t8, _⟩⟩ := hSw; go_simp; (try with_reducible rfl)
            (try simp only [Act.put, List.setIfInBounds_toArray, List.set_cons_zero, List.set_cons_succ, q1, q2])
            refine wpAnyH_take (i := 22) (oi := ({ dst := some 86, op := Op.unOp UnOp.not 4 (Operand.tmp 85), type := 4, pos := "laws.go:539", after := #[{ on := 21, ground := Ground.data }, { on := 19, ground := Ground.guard }], guard := some (19, true) } : Oper)) (v := ?_) rfl (by kernel_rfl) (by kernel_rfl) (by kernel_rfl) (fun _ _ _ h => h) (Or.inl ⟨by rfl, ?_⟩) hS ?_
            rotate_left
            · intro wq hSw; (try dsimp only at hSw); obtain ⟨⟨s0, s1, s2, s3, s4, s5, s6, s7, s8, _⟩, ⟨t0, t1, t2, t3, t4, t5, t6, t7, t8, _⟩⟩ := hSw; go_simp; (try with_reducible rfl)
            (try simp only [Act.put, List.setIfInBounds_toArray, List.set_cons_zero, List.set_cons_succ, q1, q2])
            refine wpAnyH_take (i := 23) (oi := ({ dst := some 87, op := Op.move (Operand.tmp 86), type := 4, pos := "laws.go:539", after := #[{ on := 22, ground := Ground.data }, { on := 19, ground := Ground.chain }, { on := 19, ground := Ground.guard }], guard := some (19, true) } : Oper)) (v := ?_) rfl (by kernel_rfl) (by kernel_rfl) (by kernel_rfl) (fun _ _ _ h => h) (Or.inl ⟨by rfl, ?_⟩) hS ?_
            rotate_left
            · intro wq hSw; (try dsimp only at hSw); obtain ⟨⟨s0, s1, s2, s3, s4, s5, s6, s7, s8, _⟩, ⟨t0, t1, t2, t3, t4, t5, t6, t7, t8, _⟩⟩ := hSw; go_simp; (try with_reducible rfl)
            (try simp only [Act.put, List.setIfInBounds_toArray, List.set_cons_zero, List.set_cons_succ, q1, q2])
            refine wpAnyH_take (i := 24) (oi := ({ dst := some 88, op := Op.move (Operand.tmp 6), type := 3, pos := "laws.go:539", after := #[{ on := 23, ground := Ground.guard }], guard := some (23, false) } : Oper)) (v := undef) rfl (by kernel_rfl) (by kernel_rfl) (by kernel_rfl) (fun _ _ _ h => h) (Or.inr ⟨by rfl, rfl⟩) hS ?_
            (try simp only [Act.put, List.setIfInBounds_toArray, List.set_cons_zero, List.set_cons_succ, q1, q2])
            refine wpAnyH_take (i := 25) (oi := ({ dst := some 89, op := Op.binOp BinOp.eql 3 (Operand.tmp 88) (Operand.const (Value.int IntKind.i64 0)) 3, type := 4, pos := "laws.go:539", after := #[{ on := 24, ground := Ground.data }, { on := 23, ground := Ground.guard }], guard := some (23, false) } : Oper)) (v := undef) rfl (by kernel_rfl) (by kernel_rfl) (by kernel_rfl) (fun _ _ _ h => h) (Or.inr ⟨by rfl, rfl⟩) hS ?_
            (try simp only [Act.put, List.setIfInBounds_toArray, List.set_cons_zero, List.set_cons_succ, q1, q2])
            refine wpAnyH_take (i := 26) (oi := ({ dst := some 90, op := Op.pick (Operand.tmp 87) (Operand.const (Value.bool true)) (Operand.tmp 89), type := 4, pos := "laws.go:539", after := #[{ on := 23, ground := Ground.data }, { on := 25, ground := Ground.data }, { on := 19, ground := Ground.guard }], guard := some (19, true) } : Oper)) (v := ?_) rfl (by kernel_rfl) (by kernel_rfl) (by kernel_rfl) (fun _ _ _ h => h) (Or.inl ⟨by rfl, ?_⟩) hS ?_
            rotate_left
            · intro wq hSw; (try dsimp only at hSw); obtain ⟨⟨s0, s1, s2, s3, s4, s5, s6, s7, s8, _⟩, ⟨t0, t1, t2, t3, t4, t5, t6, t7, t8, _⟩⟩ := hSw; go_simp; (try with_reducible rfl)
            (try simp only [Act.put, List.setIfInBounds_toArray, List.set_cons_zero, List.set_cons_succ, q1, q2])
            refine wpAnyH_take (i := 27) (oi := ({ dst := some 91, op := Op.pick (Operand.tmp 83) (Operand.tmp 90) (Operand.const (Value.bool false)), type := 4, pos := "laws.go:539", after := #[{ on := 19, ground := Ground.data }, { on := 26, ground := Ground.data }], guard := none } : Oper)) (v := ?_) rfl (by kernel_rfl) (by kernel_rfl) (by kernel_rfl) (fun _ _ _ h => h) (Or.inl ⟨by rfl, ?_⟩) hS ?_
            rotate_left
            · intro wq hSw; (try dsimp only at hSw); obtain ⟨⟨s0, s1, s2, s3, s4, s5, s6, s7, s8, _⟩, ⟨t0, t1, t2, t3, t4, t5, t6, t7, t8, _⟩⟩ := hSw; go_simp; (try with_reducible rfl)
            (try simp only [Act.put, List.setIfInBounds_toArray, List.set_cons_zero, List.set_cons_succ, q1, q2])
            refine wpAnyH_take (i := 28) (oi := ({ dst := some 2, op := Op.assign (Operand.tmp 91), type := 4, pos := "laws.go:539", after := #[{ on := 27, ground := Ground.data }, { on := 23, ground := Ground.chain }, { on := 0, ground := Ground.phase }, { on := 1, ground := Ground.phase }, { on := 2, ground := Ground.phase }, { on := 3, ground := Ground.phase }, { on := 4, ground := Ground.phase }, { on := 5, ground := Ground.phase }, { on := 6, ground := Ground.phase }, { on := 7, ground := Ground.phase }, { on := 8, ground := Ground.phase }, { on := 9, ground := Ground.phase }, { on := 10, ground := Ground.phase }, { on := 11, ground := Ground.phase }, { on := 12, ground := Ground.phase }, { on := 13, ground := Ground.phase }, { on := 14, ground := Ground.phase }, { on := 15, ground := Ground.phase }, { on := 16, ground := Ground.phase }, { on := 17, ground := Ground.phase }, { on := 18, ground := Ground.phase }, { on := 19, ground := Ground.phase }, { on := 20, ground := Ground.phase }, { on := 21, ground := Ground.phase }, { on := 22, ground := Ground.phase }, { on := 23, ground := Ground.phase }, { on := 24, ground := Ground.phase }, { on := 25, ground := Ground.phase }, { on := 26, ground := Ground.phase }, { on := 27, ground := Ground.phase }], guard := none } : Oper)) (v := ?_) rfl (by kernel_rfl) (by kernel_rfl) (by kernel_rfl) (fun _ _ _ h => h) (Or.inl ⟨by rfl, ?_⟩) hS ?_
            rotate_left
            · intro wq hSw; (try dsimp only at hSw); obtain ⟨⟨s0, s1, s2, s3, s4, s5, s6, s7, s8, _⟩, ⟨t0, t1, t2, t3, t4, t5, t6, t7, t8, _⟩⟩ := hSw; go_simp; (try with_reducible rfl)
            (try simp only [Act.put, List.setIfInBounds_toArray, List.set_cons_zero, List.set_cons_succ, q1, q2])
            refine wpAnyH_done (by kernel_rfl) ?_ _
            go_wp2_with fail
            go_ret
            exact ⟨rfl, hBF.out.trans (bF9.out.mono hBF.out.size)⟩

        · clear x0 x1 x2 x3 x4 x5 x6 x7 x8 z0 z1 z2 z3 z4 z5 z6 z7 z8
          rcases key with ⟨e1, e2, e3⟩ | ⟨e1, e2⟩ | ⟨e1, e2, e3⟩ | ⟨e1, e2, e3, e4⟩
          · rw [e1] at HMF SF
            rw [e2] at HXF SF
            subst e3
            clear e1 e2
            refine wp_region_held_drew (S := fun w' => Nine w' w1.heap.size (.slice a1 m.ram.length c1) (.slice b1 m.rom.length d1) (.int .i64 m.bank) (.int .i64 m.a) (.int .i64 m.pc) (.bool m.carry) (.slice f1 m.back.length g1) (.bool true) (.int .i64 m.cyc) ∧ Nine w' w3.heap.size (.slice ya y.ram.length yc) (.slice yb y.rom.length yd) (.int .i64 y.bank) (.int .i64 y.a) (.int .i64 y.pc) (.bool y.carry) (.slice ye y.back.length yf) (.bool true) (.int .i64 y.cyc)) (by kernel_rfl) (twoDrew SF.out) ?_
            intro hS
            try dsimp only at hS
            refine wpAnyH_take (i := 0) (oi := ({ dst := some 64, op := Op.load 28 (Operand.tmp 3), type := 28, pos := "laws.go:539", after := #[], guard := none } : Oper)) (v := ?_) rfl (by kernel_rfl) (by kernel_rfl) (by kernel_rfl) (fun _ _ _ h => h) (Or.inl ⟨by rfl, ?_⟩) hS ?_
            rotate_left
            · intro wq hSw; (try dsimp only at hSw); obtain ⟨⟨s0, s1, s2, s3, s4, s5, s6, s7, s8, _⟩, ⟨t0, t1, t2, t3, t4, t5, t6, t7, t8, _⟩⟩ := hSw; go_simp; (try with_reducible rfl)
            (try simp only [Act.put, List.setIfInBounds_toArray, List.set_cons_zero, List.set_cons_succ])
            refine wpAnyH_take (i := 1) (oi := ({ dst := some 65, op := Op.move (Operand.tmp 6), type := 3, pos := "laws.go:539", after := #[], guard := none } : Oper)) (v := ?_) rfl (by kernel_rfl) (by kernel_rfl) (by kernel_rfl) (fun _ _ _ h => h) (Or.inl ⟨by rfl, ?_⟩) hS ?_
            rotate_left
            · intro wq hSw; (try dsimp only at hSw); obtain ⟨⟨s0, s1, s2, s3, s4, s5, s6, s7, s8, _⟩, ⟨t0, t1, t2, t3, t4, t5, t6, t7, t8, _⟩⟩ := hSw; go_simp; (try with_reducible rfl)
            (try simp only [Act.put, List.setIfInBounds_toArray, List.set_cons_zero, List.set_cons_succ])
            refine wpAnyH_take (i := 3) (oi := ({ dst := some 67, op := Op.load 28 (Operand.tmp 5), type := 28, pos := "laws.go:539", after := #[], guard := none } : Oper)) (v := ?_) rfl (by kernel_rfl) (by kernel_rfl) (by kernel_rfl) (fun _ _ _ h => h) (Or.inl ⟨by rfl, ?_⟩) hS ?_
            rotate_left
            · intro wq hSw; (try dsimp only at hSw); obtain ⟨⟨s0, s1, s2, s3, s4, s5, s6, s7, s8, _⟩, ⟨t0, t1, t2, t3, t4, t5, t6, t7, t8, _⟩⟩ := hSw; go_simp; (try with_reducible rfl)
            (try simp only [Act.put, List.setIfInBounds_toArray, List.set_cons_zero, List.set_cons_succ])
            refine wpAnyH_ready (rs := [2]) (by kernel_rfl) (by simp) ?_
            refine AllReadyH.cons (o := ({ dst := some 66, op := Op.call { callee := Callee.value (Operand.func 9), args := #[Operand.tmp 64, Operand.tmp 65], argTypes := #[28, 3] }, type := 28, pos := "laws.go:539", after := #[{ on := 0, ground := Ground.data }, { on := 1, ground := Ground.data }], guard := none } : Oper)) rfl (fun K hK => ?_) AllReadyH.nil
            go_simp
            (go_at_call 9; refine (calls_mach (impl_RunMachine ((0 : Nat) : Int) (HMF.out.below (Below.refl _ _).drew)) EN.out).mono ?_; rintro e w8 ⟨v8, rfl, o8, hb8⟩; (have S8 := Lib.hid (twoBelow hb8 (twoDrew SF.out))); (have bF8 : Hid (Below wf.heap.size wf w8) := (Below.refl _ _).drew.trans hb8))
            (try go_wp2_with fail)
            refine hK.out _ _ (S8.out) (fun hT => ?_)
            clear hK K hS
            have hS := hT
            clear hT
            try dsimp only at hS
            (try simp only [Act.put, List.setIfInBounds_toArray, List.set_cons_zero, List.set_cons_succ])
            refine wpAnyH_ready (rs := [4]) (by kernel_rfl) (by simp) ?_
            refine AllReadyH.cons (o := ({ dst := some 68, op := Op.call { callee := Callee.value (Operand.func 7), args := #[Operand.tmp 66, Operand.tmp 67], argTypes := #[28, 28] }, type := 4, pos := "laws.go:539", after := #[{ on := 2, ground := Ground.data }, { on := 3, ground := Ground.data }, { on := 2, ground := Ground.chain }], guard := none } : Oper)) rfl (fun K hK => ?_) AllReadyH.nil
            go_simp
            (go_at_call 7; refine (laws_sameMachine o8.mach (HXF.out.below bF8.out)).mono ?_; rintro e w9 ⟨rfl, hb9⟩; (have S9 := Lib.hid (twoBelow hb9 S8.out)); (have bF9 : Hid (Below wf.heap.size wf w9) := bF8.out.trans (hb9.mono bF8.out.size)))
            (try go_wp2_with fail)
            refine hK.out _ _ (S9.out) (fun hT => ?_)
            clear hK K hS
            have hS := hT
            clear hT
            try dsimp only at hS
            (try simp only [Act.put, List.setIfInBounds_toArray, List.set_cons_zero, List.set_cons_succ])
            refine wpAnyH_take (i := 5) (oi := ({ dst := some 69, op := Op.move (Operand.tmp 68), type := 4, pos := "laws.go:539", after := #[{ on := 4, ground := Ground.data }, { on := 4, ground := Ground.chain }], guard := none } : Oper)) (v := ?_) rfl (by kernel_rfl) (by kernel_rfl) (by kernel_rfl) (fun _ _ _ h => h) (Or.inl ⟨by rfl, ?_⟩) hS ?_
            rotate_left
            · intro wq hSw; (try dsimp only at hSw); obtain ⟨⟨s0, s1, s2, s3, s4, s5, s6, s7, s8, _⟩, ⟨t0, t1, t2, t3, t4, t5, t6, t7, t8, _⟩⟩ := hSw; go_simp; (try with_reducible rfl)
            (try simp only [Act.put, List.setIfInBounds_toArray, List.set_cons_zero, List.set_cons_succ])
            refine wpAnyH_take (i := 6) (oi := ({ dst := some 70, op := Op.fieldAddr 28 (Operand.tmp 5) 5, type := 0, pos := "laws.go:539", after := #[{ on := 5, ground := Ground.guard }], guard := some (5, true) } : Oper)) (v := ?_) rfl (by kernel_rfl) (by kernel_rfl) (by kernel_rfl) (fun _ _ _ h => h) (Or.inl ⟨by rfl, ?_⟩) hS ?_
            rotate_left
            · intro wq hSw; (try dsimp only at hSw); obtain ⟨⟨s0, s1, s2, s3, s4, s5, s6, s7, s8, _⟩, ⟨t0, t1, t2, t3, t4, t5, t6, t7, t8, _⟩⟩ := hSw; go_simp; (try with_reducible rfl)
            (try simp only [Act.put, List.setIfInBounds_toArray, List.set_cons_zero, List.set_cons_succ])
            refine wpAnyH_take (i := 7) (oi := ({ dst := some 71, op := Op.load 4 (Operand.tmp 70), type := 4, pos := "laws.go:539", after := #[{ on := 6, ground := Ground.data }, { on := 5, ground := Ground.guard }], guard := some (5, true) } : Oper)) (v := ?_) rfl (by kernel_rfl) (by kernel_rfl) (by kernel_rfl) (fun _ _ _ h => h) (Or.inl ⟨by rfl, ?_⟩) hS ?_
            rotate_left
            · intro wq hSw; (try dsimp only at hSw); obtain ⟨⟨s0, s1, s2, s3, s4, s5, s6, s7, s8, _⟩, ⟨t0, t1, t2, t3, t4, t5, t6, t7, t8, _⟩⟩ := hSw; go_simp; (try with_reducible rfl)
            (try simp only [Act.put, List.setIfInBounds_toArray, List.set_cons_zero, List.set_cons_succ])
            refine wpAnyH_take (i := 8) (oi := ({ dst := some 72, op := Op.move (Operand.tmp 71), type := 4, pos := "laws.go:539", after := #[{ on := 7, ground := Ground.data }, { on := 5, ground := Ground.chain }, { on := 5, ground := Ground.guard }], guard := some (5, true) } : Oper)) (v := ?_) rfl (by kernel_rfl) (by kernel_rfl) (by kernel_rfl) (fun _ _ _ h => h) (Or.inl ⟨by rfl, ?_⟩) hS ?_
            rotate_left
            · intro wq hSw; (try dsimp only at hSw); obtain ⟨⟨s0, s1, s2, s3, s4, s5, s6, s7, s8, _⟩, ⟨t0, t1, t2, t3, t4, t5, t6, t7, t8, _⟩⟩ := hSw; go_simp; (try with_reducible rfl)
            (try simp only [Act.put, List.setIfInBounds_toArray, List.set_cons_zero, List.set_cons_succ])
            refine wpAnyH_take (i := 9) (oi := ({ dst := some 73, op := Op.fieldAddr 28 (Operand.tmp 5) 2, type := 0, pos := "laws.go:539", after := #[{ on := 8, ground := Ground.guard }], guard := some (8, false) } : Oper)) (v := undef) rfl (by kernel_rfl) (by kernel_rfl) (by kernel_rfl) (fun _ _ _ h => h) (Or.inr ⟨by rfl, rfl⟩) hS ?_
            (try simp only [Act.put, List.setIfInBounds_toArray, List.set_cons_zero, List.set_cons_succ])
            refine wpAnyH_take (i := 10) (oi := ({ dst := some 74, op := Op.load 3 (Operand.tmp 73), type := 3, pos := "laws.go:539", after := #[{ on := 9, ground := Ground.data }, { on := 8, ground := Ground.guard }], guard := some (8, false) } : Oper)) (v := undef) rfl (by kernel_rfl) (by kernel_rfl) (by kernel_rfl) (fun _ _ _ h => h) (Or.inr ⟨by rfl, rfl⟩) hS ?_
            (try simp only [Act.put, List.setIfInBounds_toArray, List.set_cons_zero, List.set_cons_succ])
            refine wpAnyH_take (i := 11) (oi := ({ dst := some 75, op := Op.move (Operand.tmp 4), type := 3, pos := "laws.go:539", after := #[{ on := 8, ground := Ground.guard }], guard := some (8, false) } : Oper)) (v := undef) rfl (by kernel_rfl) (by kernel_rfl) (by kernel_rfl) (fun _ _ _ h => h) (Or.inr ⟨by rfl, rfl⟩) hS ?_
            (try simp only [Act.put, List.setIfInBounds_toArray, List.set_cons_zero, List.set_cons_succ])
            refine wpAnyH_take (i := 12) (oi := ({ dst := some 76, op := Op.binOp BinOp.eql 3 (Operand.tmp 74) (Operand.tmp 75) 3, type := 4, pos := "laws.go:539", after := #[{ on := 10, ground := Ground.data }, { on := 11, ground := Ground.data }, { on := 8, ground := Ground.guard }], guard := some (8, false) } : Oper)) (v := undef) rfl (by kernel_rfl) (by kernel_rfl) (by kernel_rfl) (fun _ _ _ h => h) (Or.inr ⟨by rfl, rfl⟩) hS ?_
            (try simp only [Act.put, List.setIfInBounds_toArray, List.set_cons_zero, List.set_cons_succ])
            refine wpAnyH_take (i := 13) (oi := ({ dst := some 77, op := Op.pick (Operand.tmp 72) (Operand.const (Value.bool true)) (Operand.tmp 76), type := 4, pos := "laws.go:539", after := #[{ on := 8, ground := Ground.data }, { on := 12, ground := Ground.data }, { on := 5, ground := Ground.guard }], guard := some (5, true) } : Oper)) (v := ?_) rfl (by kernel_rfl) (by kernel_rfl) (by kernel_rfl) (fun _ _ _ h => h) (Or.inl ⟨by rfl, ?_⟩) hS ?_
            rotate_left
            · intro wq hSw; (try dsimp only at hSw); obtain ⟨⟨s0, s1, s2, s3, s4, s5, s6, s7, s8, _⟩, ⟨t0, t1, t2, t3, t4, t5, t6, t7, t8, _⟩⟩ := hSw; go_simp; (try with_reducible rfl)
            (try simp only [Act.put, List.setIfInBounds_toArray, List.set_cons_zero, List.set_cons_succ])
            refine wpAnyH_take (i := 14) (oi := ({ dst := some 78, op := Op.move (Operand.tmp 77), type := 4, pos := "laws.go:539", after := #[{ on := 13, ground := Ground.data }, { on := 8, ground := Ground.chain }, { on := 5, ground := Ground.guard }], guard := some (5, true) } : Oper)) (v := ?_) rfl (by kernel_rfl) (by kernel_rfl) (by kernel_rfl) (fun _ _ _ h => h) (Or.inl ⟨by rfl, ?_⟩) hS ?_
            rotate_left
            · intro wq hSw; (try dsimp only at hSw); obtain ⟨⟨s0, s1, s2, s3, s4, s5, s6, s7, s8, _⟩, ⟨t0, t1, t2, t3, t4, t5, t6, t7, t8, _⟩⟩ := hSw; go_simp; (try with_reducible rfl)
            (try simp only [Act.put, List.setIfInBounds_toArray, List.set_cons_zero, List.set_cons_succ])
            refine wpAnyH_take (i := 15) (oi := ({ dst := some 79, op := Op.move (Operand.tmp 6), type := 3, pos := "laws.go:539", after := #[{ on := 14, ground := Ground.guard }], guard := some (14, false) } : Oper)) (v := undef) rfl (by kernel_rfl) (by kernel_rfl) (by kernel_rfl) (fun _ _ _ h => h) (Or.inr ⟨by rfl, rfl⟩) hS ?_
            (try simp only [Act.put, List.setIfInBounds_toArray, List.set_cons_zero, List.set_cons_succ])
            refine wpAnyH_take (i := 16) (oi := ({ dst := some 80, op := Op.binOp BinOp.eql 3 (Operand.tmp 79) (Operand.const (Value.int IntKind.i64 500)) 3, type := 4, pos := "laws.go:539", after := #[{ on := 15, ground := Ground.data }, { on := 14, ground := Ground.guard }], guard := some (14, false) } : Oper)) (v := undef) rfl (by kernel_rfl) (by kernel_rfl) (by kernel_rfl) (fun _ _ _ h => h) (Or.inr ⟨by rfl, rfl⟩) hS ?_
            (try simp only [Act.put, List.setIfInBounds_toArray, List.set_cons_zero, List.set_cons_succ])
            refine wpAnyH_take (i := 17) (oi := ({ dst := some 81, op := Op.pick (Operand.tmp 78) (Operand.const (Value.bool true)) (Operand.tmp 80), type := 4, pos := "laws.go:539", after := #[{ on := 14, ground := Ground.data }, { on := 16, ground := Ground.data }, { on := 5, ground := Ground.guard }], guard := some (5, true) } : Oper)) (v := ?_) rfl (by kernel_rfl) (by kernel_rfl) (by kernel_rfl) (fun _ _ _ h => h) (Or.inl ⟨by rfl, ?_⟩) hS ?_
            rotate_left
            · intro wq hSw; (try dsimp only at hSw); obtain ⟨⟨s0, s1, s2, s3, s4, s5, s6, s7, s8, _⟩, ⟨t0, t1, t2, t3, t4, t5, t6, t7, t8, _⟩⟩ := hSw; go_simp; (try with_reducible rfl)
            (try simp only [Act.put, List.setIfInBounds_toArray, List.set_cons_zero, List.set_cons_succ])
            refine wpAnyH_take (i := 18) (oi := ({ dst := some 82, op := Op.pick (Operand.tmp 69) (Operand.tmp 81) (Operand.const (Value.bool false)), type := 4, pos := "laws.go:539", after := #[{ on := 5, ground := Ground.data }, { on := 17, ground := Ground.data }], guard := none } : Oper)) (v := ?_) rfl (by kernel_rfl) (by kernel_rfl) (by kernel_rfl) (fun _ _ _ h => h) (Or.inl ⟨by rfl, ?_⟩) hS ?_
            rotate_left
            · intro wq hSw; (try dsimp only at hSw); obtain ⟨⟨s0, s1, s2, s3, s4, s5, s6, s7, s8, _⟩, ⟨t0, t1, t2, t3, t4, t5, t6, t7, t8, _⟩⟩ := hSw; go_simp; (try with_reducible rfl)
            (try simp only [Act.put, List.setIfInBounds_toArray, List.set_cons_zero, List.set_cons_succ])
            refine wpAnyH_take (i := 19) (oi := ({ dst := some 83, op := Op.move (Operand.tmp 82), type := 4, pos := "laws.go:539", after := #[{ on := 18, ground := Ground.data }, { on := 14, ground := Ground.chain }], guard := none } : Oper)) (v := ?_) rfl (by kernel_rfl) (by kernel_rfl) (by kernel_rfl) (fun _ _ _ h => h) (Or.inl ⟨by rfl, ?_⟩) hS ?_
            rotate_left
            · intro wq hSw; (try dsimp only at hSw); obtain ⟨⟨s0, s1, s2, s3, s4, s5, s6, s7, s8, _⟩, ⟨t0, t1, t2, t3, t4, t5, t6, t7, t8, _⟩⟩ := hSw; go_simp; (try with_reducible rfl)
            (try simp only [Act.put, List.setIfInBounds_toArray, List.set_cons_zero, List.set_cons_succ])
            refine wpAnyH_take (i := 20) (oi := ({ dst := some 84, op := Op.fieldAddr 28 (Operand.tmp 3) 5, type := 0, pos := "laws.go:539", after := #[{ on := 19, ground := Ground.guard }], guard := some (19, true) } : Oper)) (v := ?_) rfl (by kernel_rfl) (by kernel_rfl) (by kernel_rfl) (fun _ _ _ h => h) (Or.inl ⟨by rfl, ?_⟩) hS ?_
            rotate_left
            · intro wq hSw; (try dsimp only at hSw); obtain ⟨⟨s0, s1, s2, s3, s4, s5, s6, s7, s8, _⟩, ⟨t0, t1, t2, t3, t4, t5, t6, t7, t8, _⟩⟩ := hSw; go_simp; (try with_reducible rfl)
            (try simp only [Act.put, List.setIfInBounds_toArray, List.set_cons_zero, List.set_cons_succ])
            refine wpAnyH_take (i := 21) (oi := ({ dst := some 85, op := Op.load 4 (Operand.tmp 84), type := 4, pos := "laws.go:539", after := #[{ on := 20, ground := Ground.data }, { on := 19, ground := Ground.guard }], guard := some (19, true) } : Oper)) (v := ?_) rfl (by kernel_rfl) (by kernel_rfl) (by kernel_rfl) (fun _ _ _ h => h) (Or.inl ⟨by rfl, ?_⟩) hS ?_
            rotate_left
            · intro wq hSw; (try dsimp only at hSw); obtain ⟨⟨s0, s1, s2, s3, s4, s5, s6, s7, s8, _⟩, ⟨t0, t1, t2, t3, t4, t5, t6, t7, t8, _⟩⟩ := hSw; go_simp; (try with_reducible rfl)
            (try simp only [Act.put, List.setIfInBounds_toArray, List.set_cons_zero, List.set_cons_succ])
            refine wpAnyH_take (i := 22) (oi := ({ dst := some 86, op := Op.unOp UnOp.not 4 (Operand.tmp 85), type := 4, pos := "laws.go:539", after := #[{ on := 21, ground := Ground.data }, { on := 19, ground := Ground.guard }], guard := some (19, true) } : Oper)) (v := ?_) rfl (by kernel_rfl) (by kernel_rfl) (by kernel_rfl) (fun _ _ _ h => h) (Or.inl ⟨by rfl, ?_⟩) hS ?_
            rotate_left
            · intro wq hSw; (try dsimp only at hSw); obtain ⟨⟨s0, s1, s2, s3, s4, s5, s6, s7, s8, _⟩, ⟨t0, t1, t2, t3, t4, t5, t6, t7, t8, _⟩⟩ := hSw; go_simp; (try with_reducible rfl)
            (try simp only [Act.put, List.setIfInBounds_toArray, List.set_cons_zero, List.set_cons_succ])
            refine wpAnyH_take (i := 23) (oi := ({ dst := some 87, op := Op.move (Operand.tmp 86), type := 4, pos := "laws.go:539", after := #[{ on := 22, ground := Ground.data }, { on := 19, ground := Ground.chain }, { on := 19, ground := Ground.guard }], guard := some (19, true) } : Oper)) (v := ?_) rfl (by kernel_rfl) (by kernel_rfl) (by kernel_rfl) (fun _ _ _ h => h) (Or.inl ⟨by rfl, ?_⟩) hS ?_
            rotate_left
            · intro wq hSw; (try dsimp only at hSw); obtain ⟨⟨s0, s1, s2, s3, s4, s5, s6, s7, s8, _⟩, ⟨t0, t1, t2, t3, t4, t5, t6, t7, t8, _⟩⟩ := hSw; go_simp; (try with_reducible rfl)
            (try simp only [Act.put, List.setIfInBounds_toArray, List.set_cons_zero, List.set_cons_succ])
            refine wpAnyH_take (i := 24) (oi := ({ dst := some 88, op := Op.move (Operand.tmp 6), type := 3, pos := "laws.go:539", after := #[{ on := 23, ground := Ground.guard }], guard := some (23, false) } : Oper)) (v := ?_) rfl (by kernel_rfl) (by kernel_rfl) (by kernel_rfl) (fun _ _ _ h => h) (Or.inl ⟨by rfl, ?_⟩) hS ?_
            rotate_left
            · intro wq hSw; (try dsimp only at hSw); obtain ⟨⟨s0, s1, s2, s3, s4, s5, s6, s7, s8, _⟩, ⟨t0, t1, t2, t3, t4, t5, t6, t7, t8, _⟩⟩ := hSw; go_simp; (try with_reducible rfl)
            (try simp only [Act.put, List.setIfInBounds_toArray, List.set_cons_zero, List.set_cons_succ])
            refine wpAnyH_take (i := 25) (oi := ({ dst := some 89, op := Op.binOp BinOp.eql 3 (Operand.tmp 88) (Operand.const (Value.int IntKind.i64 0)) 3, type := 4, pos := "laws.go:539", after := #[{ on := 24, ground := Ground.data }, { on := 23, ground := Ground.guard }], guard := some (23, false) } : Oper)) (v := ?_) rfl (by kernel_rfl) (by kernel_rfl) (by kernel_rfl) (fun _ _ _ h => h) (Or.inl ⟨by rfl, ?_⟩) hS ?_
            rotate_left
            · intro wq hSw; (try dsimp only at hSw); obtain ⟨⟨s0, s1, s2, s3, s4, s5, s6, s7, s8, _⟩, ⟨t0, t1, t2, t3, t4, t5, t6, t7, t8, _⟩⟩ := hSw; go_simp; (try with_reducible rfl)
            (try simp only [Act.put, List.setIfInBounds_toArray, List.set_cons_zero, List.set_cons_succ])
            refine wpAnyH_take (i := 26) (oi := ({ dst := some 90, op := Op.pick (Operand.tmp 87) (Operand.const (Value.bool true)) (Operand.tmp 89), type := 4, pos := "laws.go:539", after := #[{ on := 23, ground := Ground.data }, { on := 25, ground := Ground.data }, { on := 19, ground := Ground.guard }], guard := some (19, true) } : Oper)) (v := ?_) rfl (by kernel_rfl) (by kernel_rfl) (by kernel_rfl) (fun _ _ _ h => h) (Or.inl ⟨by rfl, ?_⟩) hS ?_
            rotate_left
            · intro wq hSw; (try dsimp only at hSw); obtain ⟨⟨s0, s1, s2, s3, s4, s5, s6, s7, s8, _⟩, ⟨t0, t1, t2, t3, t4, t5, t6, t7, t8, _⟩⟩ := hSw; go_simp; (try with_reducible rfl)
            (try simp only [Act.put, List.setIfInBounds_toArray, List.set_cons_zero, List.set_cons_succ])
            refine wpAnyH_take (i := 27) (oi := ({ dst := some 91, op := Op.pick (Operand.tmp 83) (Operand.tmp 90) (Operand.const (Value.bool false)), type := 4, pos := "laws.go:539", after := #[{ on := 19, ground := Ground.data }, { on := 26, ground := Ground.data }], guard := none } : Oper)) (v := ?_) rfl (by kernel_rfl) (by kernel_rfl) (by kernel_rfl) (fun _ _ _ h => h) (Or.inl ⟨by rfl, ?_⟩) hS ?_
            rotate_left
            · intro wq hSw; (try dsimp only at hSw); obtain ⟨⟨s0, s1, s2, s3, s4, s5, s6, s7, s8, _⟩, ⟨t0, t1, t2, t3, t4, t5, t6, t7, t8, _⟩⟩ := hSw; go_simp; (try with_reducible rfl)
            (try simp only [Act.put, List.setIfInBounds_toArray, List.set_cons_zero, List.set_cons_succ])
            refine wpAnyH_take (i := 28) (oi := ({ dst := some 2, op := Op.assign (Operand.tmp 91), type := 4, pos := "laws.go:539", after := #[{ on := 27, ground := Ground.data }, { on := 23, ground := Ground.chain }, { on := 0, ground := Ground.phase }, { on := 1, ground := Ground.phase }, { on := 2, ground := Ground.phase }, { on := 3, ground := Ground.phase }, { on := 4, ground := Ground.phase }, { on := 5, ground := Ground.phase }, { on := 6, ground := Ground.phase }, { on := 7, ground := Ground.phase }, { on := 8, ground := Ground.phase }, { on := 9, ground := Ground.phase }, { on := 10, ground := Ground.phase }, { on := 11, ground := Ground.phase }, { on := 12, ground := Ground.phase }, { on := 13, ground := Ground.phase }, { on := 14, ground := Ground.phase }, { on := 15, ground := Ground.phase }, { on := 16, ground := Ground.phase }, { on := 17, ground := Ground.phase }, { on := 18, ground := Ground.phase }, { on := 19, ground := Ground.phase }, { on := 20, ground := Ground.phase }, { on := 21, ground := Ground.phase }, { on := 22, ground := Ground.phase }, { on := 23, ground := Ground.phase }, { on := 24, ground := Ground.phase }, { on := 25, ground := Ground.phase }, { on := 26, ground := Ground.phase }, { on := 27, ground := Ground.phase }], guard := none } : Oper)) (v := ?_) rfl (by kernel_rfl) (by kernel_rfl) (by kernel_rfl) (fun _ _ _ h => h) (Or.inl ⟨by rfl, ?_⟩) hS ?_
            rotate_left
            · intro wq hSw; (try dsimp only at hSw); obtain ⟨⟨s0, s1, s2, s3, s4, s5, s6, s7, s8, _⟩, ⟨t0, t1, t2, t3, t4, t5, t6, t7, t8, _⟩⟩ := hSw; go_simp; (try with_reducible rfl)
            (try simp only [Act.put, List.setIfInBounds_toArray, List.set_cons_zero, List.set_cons_succ])
            refine wpAnyH_done (by kernel_rfl) ?_ _
            go_wp2_with fail
            go_ret
            exact ⟨rfl, hBF.out.trans (bF9.out.mono hBF.out.size)⟩
          · rw [e1] at HMF SF
            rw [e2] at HXF SF
            clear e1 e2
            refine wp_region_held_drew (S := fun w' => Nine w' w1.heap.size (.slice a1 m.ram.length c1) (.slice b1 m.rom.length d1) (.int .i64 m.bank) (.int .i64 m.a) (.int .i64 m.pc) (.bool m.carry) (.slice f1 m.back.length g1) (.bool false) (.int .i64 m.cyc) ∧ Nine w' w3.heap.size (.slice ya y.ram.length yc) (.slice yb y.rom.length yd) (.int .i64 y.bank) (.int .i64 y.a) (.int .i64 y.pc) (.bool y.carry) (.slice ye y.back.length yf) (.bool true) (.int .i64 y.cyc)) (by kernel_rfl) (twoDrew SF.out) ?_
            intro hS
            try dsimp only at hS
            refine wpAnyH_take (i := 0) (oi := ({ dst := some 64, op := Op.load 28 (Operand.tmp 3), type := 28, pos := "laws.go:539", after := #[], guard := none } : Oper)) (v := ?_) rfl (by kernel_rfl) (by kernel_rfl) (by kernel_rfl) (fun _ _ _ h => h) (Or.inl ⟨by rfl, ?_⟩) hS ?_
            rotate_left
            · intro wq hSw; (try dsimp only at hSw); obtain ⟨⟨s0, s1, s2, s3, s4, s5, s6, s7, s8, _⟩, ⟨t0, t1, t2, t3, t4, t5, t6, t7, t8, _⟩⟩ := hSw; go_simp; (try with_reducible rfl)
            (try simp only [Act.put, List.setIfInBounds_toArray, List.set_cons_zero, List.set_cons_succ])
            refine wpAnyH_take (i := 1) (oi := ({ dst := some 65, op := Op.move (Operand.tmp 6), type := 3, pos := "laws.go:539", after := #[], guard := none } : Oper)) (v := ?_) rfl (by kernel_rfl) (by kernel_rfl) (by kernel_rfl) (fun _ _ _ h => h) (Or.inl ⟨by rfl, ?_⟩) hS ?_
            rotate_left
            · intro wq hSw; (try dsimp only at hSw); obtain ⟨⟨s0, s1, s2, s3, s4, s5, s6, s7, s8, _⟩, ⟨t0, t1, t2, t3, t4, t5, t6, t7, t8, _⟩⟩ := hSw; go_simp; (try with_reducible rfl)
            (try simp only [Act.put, List.setIfInBounds_toArray, List.set_cons_zero, List.set_cons_succ])
            refine wpAnyH_take (i := 3) (oi := ({ dst := some 67, op := Op.load 28 (Operand.tmp 5), type := 28, pos := "laws.go:539", after := #[], guard := none } : Oper)) (v := ?_) rfl (by kernel_rfl) (by kernel_rfl) (by kernel_rfl) (fun _ _ _ h => h) (Or.inl ⟨by rfl, ?_⟩) hS ?_
            rotate_left
            · intro wq hSw; (try dsimp only at hSw); obtain ⟨⟨s0, s1, s2, s3, s4, s5, s6, s7, s8, _⟩, ⟨t0, t1, t2, t3, t4, t5, t6, t7, t8, _⟩⟩ := hSw; go_simp; (try with_reducible rfl)
            (try simp only [Act.put, List.setIfInBounds_toArray, List.set_cons_zero, List.set_cons_succ])
            refine wpAnyH_ready (rs := [2]) (by kernel_rfl) (by simp) ?_
            refine AllReadyH.cons (o := ({ dst := some 66, op := Op.call { callee := Callee.value (Operand.func 9), args := #[Operand.tmp 64, Operand.tmp 65], argTypes := #[28, 3] }, type := 28, pos := "laws.go:539", after := #[{ on := 0, ground := Ground.data }, { on := 1, ground := Ground.data }], guard := none } : Oper)) rfl (fun K hK => ?_) AllReadyH.nil
            go_simp
            (go_at_call 9; refine (calls_mach (impl_RunMachine (N : Int) (HMF.out.below (Below.refl _ _).drew)) EN.out).mono ?_; rintro e w8 ⟨v8, rfl, o8, hb8⟩; (have S8 := Lib.hid (twoBelow hb8 (twoDrew SF.out))); (have bF8 : Hid (Below wf.heap.size wf w8) := (Below.refl _ _).drew.trans hb8))
            (try go_wp2_with fail)
            refine hK.out _ _ (S8.out) (fun hT => ?_)
            clear hK K hS
            have hS := hT
            clear hT
            try dsimp only at hS
            (try simp only [Act.put, List.setIfInBounds_toArray, List.set_cons_zero, List.set_cons_succ])
            refine wpAnyH_ready (rs := [4]) (by kernel_rfl) (by simp) ?_
            refine AllReadyH.cons (o := ({ dst := some 68, op := Op.call { callee := Callee.value (Operand.func 7), args := #[Operand.tmp 66, Operand.tmp 67], argTypes := #[28, 28] }, type := 4, pos := "laws.go:539", after := #[{ on := 2, ground := Ground.data }, { on := 3, ground := Ground.data }, { on := 2, ground := Ground.chain }], guard := none } : Oper)) rfl (fun K hK => ?_) AllReadyH.nil
            go_simp
            (go_at_call 7; refine (laws_sameMachine o8.mach (HXF.out.below bF8.out)).mono ?_; rintro e w9 ⟨rfl, hb9⟩; (have S9 := Lib.hid (twoBelow hb9 S8.out)); (have bF9 : Hid (Below wf.heap.size wf w9) := bF8.out.trans (hb9.mono bF8.out.size)))
            (try go_wp2_with fail)
            refine hK.out _ _ (S9.out) (fun hT => ?_)
            clear hK K hS
            have hS := hT
            clear hT
            try dsimp only at hS
            (try simp only [Act.put, List.setIfInBounds_toArray, List.set_cons_zero, List.set_cons_succ])
            refine wpAnyH_take (i := 5) (oi := ({ dst := some 69, op := Op.move (Operand.tmp 68), type := 4, pos := "laws.go:539", after := #[{ on := 4, ground := Ground.data }, { on := 4, ground := Ground.chain }], guard := none } : Oper)) (v := ?_) rfl (by kernel_rfl) (by kernel_rfl) (by kernel_rfl) (fun _ _ _ h => h) (Or.inl ⟨by rfl, ?_⟩) hS ?_
            rotate_left
            · intro wq hSw; (try dsimp only at hSw); obtain ⟨⟨s0, s1, s2, s3, s4, s5, s6, s7, s8, _⟩, ⟨t0, t1, t2, t3, t4, t5, t6, t7, t8, _⟩⟩ := hSw; go_simp; (try with_reducible rfl)
            (try simp only [Act.put, List.setIfInBounds_toArray, List.set_cons_zero, List.set_cons_succ])
            refine wpAnyH_take (i := 6) (oi := ({ dst := some 70, op := Op.fieldAddr 28 (Operand.tmp 5) 5, type := 0, pos := "laws.go:539", after := #[{ on := 5, ground := Ground.guard }], guard := some (5, true) } : Oper)) (v := ?_) rfl (by kernel_rfl) (by kernel_rfl) (by kernel_rfl) (fun _ _ _ h => h) (Or.inl ⟨by rfl, ?_⟩) hS ?_
            rotate_left
            · intro wq hSw; (try dsimp only at hSw); obtain ⟨⟨s0, s1, s2, s3, s4, s5, s6, s7, s8, _⟩, ⟨t0, t1, t2, t3, t4, t5, t6, t7, t8, _⟩⟩ := hSw; go_simp; (try with_reducible rfl)
            (try simp only [Act.put, List.setIfInBounds_toArray, List.set_cons_zero, List.set_cons_succ])
            refine wpAnyH_take (i := 7) (oi := ({ dst := some 71, op := Op.load 4 (Operand.tmp 70), type := 4, pos := "laws.go:539", after := #[{ on := 6, ground := Ground.data }, { on := 5, ground := Ground.guard }], guard := some (5, true) } : Oper)) (v := ?_) rfl (by kernel_rfl) (by kernel_rfl) (by kernel_rfl) (fun _ _ _ h => h) (Or.inl ⟨by rfl, ?_⟩) hS ?_
            rotate_left
            · intro wq hSw; (try dsimp only at hSw); obtain ⟨⟨s0, s1, s2, s3, s4, s5, s6, s7, s8, _⟩, ⟨t0, t1, t2, t3, t4, t5, t6, t7, t8, _⟩⟩ := hSw; go_simp; (try with_reducible rfl)
            (try simp only [Act.put, List.setIfInBounds_toArray, List.set_cons_zero, List.set_cons_succ])
            refine wpAnyH_take (i := 8) (oi := ({ dst := some 72, op := Op.move (Operand.tmp 71), type := 4, pos := "laws.go:539", after := #[{ on := 7, ground := Ground.data }, { on := 5, ground := Ground.chain }, { on := 5, ground := Ground.guard }], guard := some (5, true) } : Oper)) (v := ?_) rfl (by kernel_rfl) (by kernel_rfl) (by kernel_rfl) (fun _ _ _ h => h) (Or.inl ⟨by rfl, ?_⟩) hS ?_
            rotate_left
            · intro wq hSw; (try dsimp only at hSw); obtain ⟨⟨s0, s1, s2, s3, s4, s5, s6, s7, s8, _⟩, ⟨t0, t1, t2, t3, t4, t5, t6, t7, t8, _⟩⟩ := hSw; go_simp; (try with_reducible rfl)
            (try simp only [Act.put, List.setIfInBounds_toArray, List.set_cons_zero, List.set_cons_succ])
            refine wpAnyH_take (i := 9) (oi := ({ dst := some 73, op := Op.fieldAddr 28 (Operand.tmp 5) 2, type := 0, pos := "laws.go:539", after := #[{ on := 8, ground := Ground.guard }], guard := some (8, false) } : Oper)) (v := undef) rfl (by kernel_rfl) (by kernel_rfl) (by kernel_rfl) (fun _ _ _ h => h) (Or.inr ⟨by rfl, rfl⟩) hS ?_
            (try simp only [Act.put, List.setIfInBounds_toArray, List.set_cons_zero, List.set_cons_succ])
            refine wpAnyH_take (i := 10) (oi := ({ dst := some 74, op := Op.load 3 (Operand.tmp 73), type := 3, pos := "laws.go:539", after := #[{ on := 9, ground := Ground.data }, { on := 8, ground := Ground.guard }], guard := some (8, false) } : Oper)) (v := undef) rfl (by kernel_rfl) (by kernel_rfl) (by kernel_rfl) (fun _ _ _ h => h) (Or.inr ⟨by rfl, rfl⟩) hS ?_
            (try simp only [Act.put, List.setIfInBounds_toArray, List.set_cons_zero, List.set_cons_succ])
            refine wpAnyH_take (i := 11) (oi := ({ dst := some 75, op := Op.move (Operand.tmp 4), type := 3, pos := "laws.go:539", after := #[{ on := 8, ground := Ground.guard }], guard := some (8, false) } : Oper)) (v := undef) rfl (by kernel_rfl) (by kernel_rfl) (by kernel_rfl) (fun _ _ _ h => h) (Or.inr ⟨by rfl, rfl⟩) hS ?_
            (try simp only [Act.put, List.setIfInBounds_toArray, List.set_cons_zero, List.set_cons_succ])
            refine wpAnyH_take (i := 12) (oi := ({ dst := some 76, op := Op.binOp BinOp.eql 3 (Operand.tmp 74) (Operand.tmp 75) 3, type := 4, pos := "laws.go:539", after := #[{ on := 10, ground := Ground.data }, { on := 11, ground := Ground.data }, { on := 8, ground := Ground.guard }], guard := some (8, false) } : Oper)) (v := undef) rfl (by kernel_rfl) (by kernel_rfl) (by kernel_rfl) (fun _ _ _ h => h) (Or.inr ⟨by rfl, rfl⟩) hS ?_
            (try simp only [Act.put, List.setIfInBounds_toArray, List.set_cons_zero, List.set_cons_succ])
            refine wpAnyH_take (i := 13) (oi := ({ dst := some 77, op := Op.pick (Operand.tmp 72) (Operand.const (Value.bool true)) (Operand.tmp 76), type := 4, pos := "laws.go:539", after := #[{ on := 8, ground := Ground.data }, { on := 12, ground := Ground.data }, { on := 5, ground := Ground.guard }], guard := some (5, true) } : Oper)) (v := ?_) rfl (by kernel_rfl) (by kernel_rfl) (by kernel_rfl) (fun _ _ _ h => h) (Or.inl ⟨by rfl, ?_⟩) hS ?_
            rotate_left
            · intro wq hSw; (try dsimp only at hSw); obtain ⟨⟨s0, s1, s2, s3, s4, s5, s6, s7, s8, _⟩, ⟨t0, t1, t2, t3, t4, t5, t6, t7, t8, _⟩⟩ := hSw; go_simp; (try with_reducible rfl)
            (try simp only [Act.put, List.setIfInBounds_toArray, List.set_cons_zero, List.set_cons_succ])
            refine wpAnyH_take (i := 14) (oi := ({ dst := some 78, op := Op.move (Operand.tmp 77), type := 4, pos := "laws.go:539", after := #[{ on := 13, ground := Ground.data }, { on := 8, ground := Ground.chain }, { on := 5, ground := Ground.guard }], guard := some (5, true) } : Oper)) (v := ?_) rfl (by kernel_rfl) (by kernel_rfl) (by kernel_rfl) (fun _ _ _ h => h) (Or.inl ⟨by rfl, ?_⟩) hS ?_
            rotate_left
            · intro wq hSw; (try dsimp only at hSw); obtain ⟨⟨s0, s1, s2, s3, s4, s5, s6, s7, s8, _⟩, ⟨t0, t1, t2, t3, t4, t5, t6, t7, t8, _⟩⟩ := hSw; go_simp; (try with_reducible rfl)
            (try simp only [Act.put, List.setIfInBounds_toArray, List.set_cons_zero, List.set_cons_succ])
            refine wpAnyH_take (i := 15) (oi := ({ dst := some 79, op := Op.move (Operand.tmp 6), type := 3, pos := "laws.go:539", after := #[{ on := 14, ground := Ground.guard }], guard := some (14, false) } : Oper)) (v := undef) rfl (by kernel_rfl) (by kernel_rfl) (by kernel_rfl) (fun _ _ _ h => h) (Or.inr ⟨by rfl, rfl⟩) hS ?_
            (try simp only [Act.put, List.setIfInBounds_toArray, List.set_cons_zero, List.set_cons_succ])
            refine wpAnyH_take (i := 16) (oi := ({ dst := some 80, op := Op.binOp BinOp.eql 3 (Operand.tmp 79) (Operand.const (Value.int IntKind.i64 500)) 3, type := 4, pos := "laws.go:539", after := #[{ on := 15, ground := Ground.data }, { on := 14, ground := Ground.guard }], guard := some (14, false) } : Oper)) (v := undef) rfl (by kernel_rfl) (by kernel_rfl) (by kernel_rfl) (fun _ _ _ h => h) (Or.inr ⟨by rfl, rfl⟩) hS ?_
            (try simp only [Act.put, List.setIfInBounds_toArray, List.set_cons_zero, List.set_cons_succ])
            refine wpAnyH_take (i := 17) (oi := ({ dst := some 81, op := Op.pick (Operand.tmp 78) (Operand.const (Value.bool true)) (Operand.tmp 80), type := 4, pos := "laws.go:539", after := #[{ on := 14, ground := Ground.data }, { on := 16, ground := Ground.data }, { on := 5, ground := Ground.guard }], guard := some (5, true) } : Oper)) (v := ?_) rfl (by kernel_rfl) (by kernel_rfl) (by kernel_rfl) (fun _ _ _ h => h) (Or.inl ⟨by rfl, ?_⟩) hS ?_
            rotate_left
            · intro wq hSw; (try dsimp only at hSw); obtain ⟨⟨s0, s1, s2, s3, s4, s5, s6, s7, s8, _⟩, ⟨t0, t1, t2, t3, t4, t5, t6, t7, t8, _⟩⟩ := hSw; go_simp; (try with_reducible rfl)
            (try simp only [Act.put, List.setIfInBounds_toArray, List.set_cons_zero, List.set_cons_succ])
            refine wpAnyH_take (i := 18) (oi := ({ dst := some 82, op := Op.pick (Operand.tmp 69) (Operand.tmp 81) (Operand.const (Value.bool false)), type := 4, pos := "laws.go:539", after := #[{ on := 5, ground := Ground.data }, { on := 17, ground := Ground.data }], guard := none } : Oper)) (v := ?_) rfl (by kernel_rfl) (by kernel_rfl) (by kernel_rfl) (fun _ _ _ h => h) (Or.inl ⟨by rfl, ?_⟩) hS ?_
            rotate_left
            · intro wq hSw; (try dsimp only at hSw); obtain ⟨⟨s0, s1, s2, s3, s4, s5, s6, s7, s8, _⟩, ⟨t0, t1, t2, t3, t4, t5, t6, t7, t8, _⟩⟩ := hSw; go_simp; (try with_reducible rfl)
            (try simp only [Act.put, List.setIfInBounds_toArray, List.set_cons_zero, List.set_cons_succ])
            refine wpAnyH_take (i := 19) (oi := ({ dst := some 83, op := Op.move (Operand.tmp 82), type := 4, pos := "laws.go:539", after := #[{ on := 18, ground := Ground.data }, { on := 14, ground := Ground.chain }], guard := none } : Oper)) (v := ?_) rfl (by kernel_rfl) (by kernel_rfl) (by kernel_rfl) (fun _ _ _ h => h) (Or.inl ⟨by rfl, ?_⟩) hS ?_
            rotate_left
            · intro wq hSw; (try dsimp only at hSw); obtain ⟨⟨s0, s1, s2, s3, s4, s5, s6, s7, s8, _⟩, ⟨t0, t1, t2, t3, t4, t5, t6, t7, t8, _⟩⟩ := hSw; go_simp; (try with_reducible rfl)
            (try simp only [Act.put, List.setIfInBounds_toArray, List.set_cons_zero, List.set_cons_succ])
            refine wpAnyH_take (i := 20) (oi := ({ dst := some 84, op := Op.fieldAddr 28 (Operand.tmp 3) 5, type := 0, pos := "laws.go:539", after := #[{ on := 19, ground := Ground.guard }], guard := some (19, true) } : Oper)) (v := ?_) rfl (by kernel_rfl) (by kernel_rfl) (by kernel_rfl) (fun _ _ _ h => h) (Or.inl ⟨by rfl, ?_⟩) hS ?_
            rotate_left
            · intro wq hSw; (try dsimp only at hSw); obtain ⟨⟨s0, s1, s2, s3, s4, s5, s6, s7, s8, _⟩, ⟨t0, t1, t2, t3, t4, t5, t6, t7, t8, _⟩⟩ := hSw; go_simp; (try with_reducible rfl)
            (try simp only [Act.put, List.setIfInBounds_toArray, List.set_cons_zero, List.set_cons_succ])
            refine wpAnyH_take (i := 21) (oi := ({ dst := some 85, op := Op.load 4 (Operand.tmp 84), type := 4, pos := "laws.go:539", after := #[{ on := 20, ground := Ground.data }, { on := 19, ground := Ground.guard }], guard := some (19, true) } : Oper)) (v := ?_) rfl (by kernel_rfl) (by kernel_rfl) (by kernel_rfl) (fun _ _ _ h => h) (Or.inl ⟨by rfl, ?_⟩) hS ?_
            rotate_left
            · intro wq hSw; (try dsimp only at hSw); obtain ⟨⟨s0, s1, s2, s3, s4, s5, s6, s7, s8, _⟩, ⟨t0, t1, t2, t3, t4, t5, t6, t7, t8, _⟩⟩ := hSw; go_simp; (try with_reducible rfl)
            (try simp only [Act.put, List.setIfInBounds_toArray, List.set_cons_zero, List.set_cons_succ])
            refine wpAnyH_take (i := 22) (oi := ({ dst := some 86, op := Op.unOp UnOp.not 4 (Operand.tmp 85), type := 4, pos := "laws.go:539", after := #[{ on := 21, ground := Ground.data }, { on := 19, ground := Ground.guard }], guard := some (19, true) } : Oper)) (v := ?_) rfl (by kernel_rfl) (by kernel_rfl) (by kernel_rfl) (fun _ _ _ h => h) (Or.inl ⟨by rfl, ?_⟩) hS ?_
            rotate_left
            · intro wq hSw; (try dsimp only at hSw); obtain ⟨⟨s0, s1, s2, s3, s4, s5, s6, s7, s8, _⟩, ⟨t0, t1, t2, t3, t4, t5, t6, t7, t8, _⟩⟩ := hSw; go_simp; (try with_reducible rfl)
            (try simp only [Act.put, List.setIfInBounds_toArray, List.set_cons_zero, List.set_cons_succ])
            refine wpAnyH_take (i := 23) (oi := ({ dst := some 87, op := Op.move (Operand.tmp 86), type := 4, pos := "laws.go:539", after := #[{ on := 22, ground := Ground.data }, { on := 19, ground := Ground.chain }, { on := 19, ground := Ground.guard }], guard := some (19, true) } : Oper)) (v := ?_) rfl (by kernel_rfl) (by kernel_rfl) (by kernel_rfl) (fun _ _ _ h => h) (Or.inl ⟨by rfl, ?_⟩) hS ?_
            rotate_left
            · intro wq hSw; (try dsimp only at hSw); obtain ⟨⟨s0, s1, s2, s3, s4, s5, s6, s7, s8, _⟩, ⟨t0, t1, t2, t3, t4, t5, t6, t7, t8, _⟩⟩ := hSw; go_simp; (try with_reducible rfl)
            (try simp only [Act.put, List.setIfInBounds_toArray, List.set_cons_zero, List.set_cons_succ])
            refine wpAnyH_take (i := 24) (oi := ({ dst := some 88, op := Op.move (Operand.tmp 6), type := 3, pos := "laws.go:539", after := #[{ on := 23, ground := Ground.guard }], guard := some (23, false) } : Oper)) (v := undef) rfl (by kernel_rfl) (by kernel_rfl) (by kernel_rfl) (fun _ _ _ h => h) (Or.inr ⟨by rfl, rfl⟩) hS ?_
            (try simp only [Act.put, List.setIfInBounds_toArray, List.set_cons_zero, List.set_cons_succ])
            refine wpAnyH_take (i := 25) (oi := ({ dst := some 89, op := Op.binOp BinOp.eql 3 (Operand.tmp 88) (Operand.const (Value.int IntKind.i64 0)) 3, type := 4, pos := "laws.go:539", after := #[{ on := 24, ground := Ground.data }, { on := 23, ground := Ground.guard }], guard := some (23, false) } : Oper)) (v := undef) rfl (by kernel_rfl) (by kernel_rfl) (by kernel_rfl) (fun _ _ _ h => h) (Or.inr ⟨by rfl, rfl⟩) hS ?_
            (try simp only [Act.put, List.setIfInBounds_toArray, List.set_cons_zero, List.set_cons_succ])
            refine wpAnyH_take (i := 26) (oi := ({ dst := some 90, op := Op.pick (Operand.tmp 87) (Operand.const (Value.bool true)) (Operand.tmp 89), type := 4, pos := "laws.go:539", after := #[{ on := 23, ground := Ground.data }, { on := 25, ground := Ground.data }, { on := 19, ground := Ground.guard }], guard := some (19, true) } : Oper)) (v := ?_) rfl (by kernel_rfl) (by kernel_rfl) (by kernel_rfl) (fun _ _ _ h => h) (Or.inl ⟨by rfl, ?_⟩) hS ?_
            rotate_left
            · intro wq hSw; (try dsimp only at hSw); obtain ⟨⟨s0, s1, s2, s3, s4, s5, s6, s7, s8, _⟩, ⟨t0, t1, t2, t3, t4, t5, t6, t7, t8, _⟩⟩ := hSw; go_simp; (try with_reducible rfl)
            (try simp only [Act.put, List.setIfInBounds_toArray, List.set_cons_zero, List.set_cons_succ])
            refine wpAnyH_take (i := 27) (oi := ({ dst := some 91, op := Op.pick (Operand.tmp 83) (Operand.tmp 90) (Operand.const (Value.bool false)), type := 4, pos := "laws.go:539", after := #[{ on := 19, ground := Ground.data }, { on := 26, ground := Ground.data }], guard := none } : Oper)) (v := ?_) rfl (by kernel_rfl) (by kernel_rfl) (by kernel_rfl) (fun _ _ _ h => h) (Or.inl ⟨by rfl, ?_⟩) hS ?_
            rotate_left
            · intro wq hSw; (try dsimp only at hSw); obtain ⟨⟨s0, s1, s2, s3, s4, s5, s6, s7, s8, _⟩, ⟨t0, t1, t2, t3, t4, t5, t6, t7, t8, _⟩⟩ := hSw; go_simp; (try with_reducible rfl)
            (try simp only [Act.put, List.setIfInBounds_toArray, List.set_cons_zero, List.set_cons_succ])
            refine wpAnyH_take (i := 28) (oi := ({ dst := some 2, op := Op.assign (Operand.tmp 91), type := 4, pos := "laws.go:539", after := #[{ on := 27, ground := Ground.data }, { on := 23, ground := Ground.chain }, { on := 0, ground := Ground.phase }, { on := 1, ground := Ground.phase }, { on := 2, ground := Ground.phase }, { on := 3, ground := Ground.phase }, { on := 4, ground := Ground.phase }, { on := 5, ground := Ground.phase }, { on := 6, ground := Ground.phase }, { on := 7, ground := Ground.phase }, { on := 8, ground := Ground.phase }, { on := 9, ground := Ground.phase }, { on := 10, ground := Ground.phase }, { on := 11, ground := Ground.phase }, { on := 12, ground := Ground.phase }, { on := 13, ground := Ground.phase }, { on := 14, ground := Ground.phase }, { on := 15, ground := Ground.phase }, { on := 16, ground := Ground.phase }, { on := 17, ground := Ground.phase }, { on := 18, ground := Ground.phase }, { on := 19, ground := Ground.phase }, { on := 20, ground := Ground.phase }, { on := 21, ground := Ground.phase }, { on := 22, ground := Ground.phase }, { on := 23, ground := Ground.phase }, { on := 24, ground := Ground.phase }, { on := 25, ground := Ground.phase }, { on := 26, ground := Ground.phase }, { on := 27, ground := Ground.phase }], guard := none } : Oper)) (v := ?_) rfl (by kernel_rfl) (by kernel_rfl) (by kernel_rfl) (fun _ _ _ h => h) (Or.inl ⟨by rfl, ?_⟩) hS ?_
            rotate_left
            · intro wq hSw; (try dsimp only at hSw); obtain ⟨⟨s0, s1, s2, s3, s4, s5, s6, s7, s8, _⟩, ⟨t0, t1, t2, t3, t4, t5, t6, t7, t8, _⟩⟩ := hSw; go_simp; (try with_reducible rfl)
            (try simp only [Act.put, List.setIfInBounds_toArray, List.set_cons_zero, List.set_cons_succ])
            refine wpAnyH_done (by kernel_rfl) ?_ _
            go_wp2_with fail
            go_ret
            exact ⟨rfl, hBF.out.trans (bF9.out.mono hBF.out.size)⟩
          · rw [e1] at HMF SF
            rw [e2] at HXF SF
            clear e1 e2
            subst e3
            refine wp_region_held_drew (S := fun w' => Nine w' w1.heap.size (.slice a1 m.ram.length c1) (.slice b1 m.rom.length d1) (.int .i64 m.bank) (.int .i64 m.a) (.int .i64 m.pc) (.bool m.carry) (.slice f1 m.back.length g1) (.bool false) (.int .i64 m.cyc) ∧ Nine w' w3.heap.size (.slice ya y.ram.length yc) (.slice yb y.rom.length yd) (.int .i64 y.bank) (.int .i64 y.a) (.int .i64 y.pc) (.bool y.carry) (.slice ye y.back.length yf) (.bool false) (.int .i64 y.cyc)) (by kernel_rfl) (twoDrew SF.out) ?_
            intro hS
            try dsimp only at hS
            refine wpAnyH_take (i := 0) (oi := ({ dst := some 64, op := Op.load 28 (Operand.tmp 3), type := 28, pos := "laws.go:539", after := #[], guard := none } : Oper)) (v := ?_) rfl (by kernel_rfl) (by kernel_rfl) (by kernel_rfl) (fun _ _ _ h => h) (Or.inl ⟨by rfl, ?_⟩) hS ?_
            rotate_left
            · intro wq hSw; (try dsimp only at hSw); obtain ⟨⟨s0, s1, s2, s3, s4, s5, s6, s7, s8, _⟩, ⟨t0, t1, t2, t3, t4, t5, t6, t7, t8, _⟩⟩ := hSw; go_simp; (try with_reducible rfl)
            (try simp only [Act.put, List.setIfInBounds_toArray, List.set_cons_zero, List.set_cons_succ])
            refine wpAnyH_take (i := 1) (oi := ({ dst := some 65, op := Op.move (Operand.tmp 6), type := 3, pos := "laws.go:539", after := #[], guard := none } : Oper)) (v := ?_) rfl (by kernel_rfl) (by kernel_rfl) (by kernel_rfl) (fun _ _ _ h => h) (Or.inl ⟨by rfl, ?_⟩) hS ?_
            rotate_left
            · intro wq hSw; (try dsimp only at hSw); obtain ⟨⟨s0, s1, s2, s3, s4, s5, s6, s7, s8, _⟩, ⟨t0, t1, t2, t3, t4, t5, t6, t7, t8, _⟩⟩ := hSw; go_simp; (try with_reducible rfl)
            (try simp only [Act.put, List.setIfInBounds_toArray, List.set_cons_zero, List.set_cons_succ])
            refine wpAnyH_take (i := 3) (oi := ({ dst := some 67, op := Op.load 28 (Operand.tmp 5), type := 28, pos := "laws.go:539", after := #[], guard := none } : Oper)) (v := ?_) rfl (by kernel_rfl) (by kernel_rfl) (by kernel_rfl) (fun _ _ _ h => h) (Or.inl ⟨by rfl, ?_⟩) hS ?_
            rotate_left
            · intro wq hSw; (try dsimp only at hSw); obtain ⟨⟨s0, s1, s2, s3, s4, s5, s6, s7, s8, _⟩, ⟨t0, t1, t2, t3, t4, t5, t6, t7, t8, _⟩⟩ := hSw; go_simp; (try with_reducible rfl)
            (try simp only [Act.put, List.setIfInBounds_toArray, List.set_cons_zero, List.set_cons_succ])
            refine wpAnyH_ready (rs := [2]) (by kernel_rfl) (by simp) ?_
            refine AllReadyH.cons (o := ({ dst := some 66, op := Op.call { callee := Callee.value (Operand.func 9), args := #[Operand.tmp 64, Operand.tmp 65], argTypes := #[28, 3] }, type := 28, pos := "laws.go:539", after := #[{ on := 0, ground := Ground.data }, { on := 1, ground := Ground.data }], guard := none } : Oper)) rfl (fun K hK => ?_) AllReadyH.nil
            go_simp
            (go_at_call 9; refine (calls_mach (impl_RunMachine (N : Int) (HMF.out.below (Below.refl _ _).drew)) EN.out).mono ?_; rintro e w8 ⟨v8, rfl, o8, hb8⟩; (have S8 := Lib.hid (twoBelow hb8 (twoDrew SF.out))); (have bF8 : Hid (Below wf.heap.size wf w8) := (Below.refl _ _).drew.trans hb8))
            (try go_wp2_with fail)
            refine hK.out _ _ (S8.out) (fun hT => ?_)
            clear hK K hS
            have hS := hT
            clear hT
            try dsimp only at hS
            (try simp only [Act.put, List.setIfInBounds_toArray, List.set_cons_zero, List.set_cons_succ])
            refine wpAnyH_ready (rs := [4]) (by kernel_rfl) (by simp) ?_
            refine AllReadyH.cons (o := ({ dst := some 68, op := Op.call { callee := Callee.value (Operand.func 7), args := #[Operand.tmp 66, Operand.tmp 67], argTypes := #[28, 28] }, type := 4, pos := "laws.go:539", after := #[{ on := 2, ground := Ground.data }, { on := 3, ground := Ground.data }, { on := 2, ground := Ground.chain }], guard := none } : Oper)) rfl (fun K hK => ?_) AllReadyH.nil
            go_simp
            (go_at_call 7; refine (laws_sameMachine o8.mach (HXF.out.below bF8.out)).mono ?_; rintro e w9 ⟨rfl, hb9⟩; (have S9 := Lib.hid (twoBelow hb9 S8.out)); (have bF9 : Hid (Below wf.heap.size wf w9) := bF8.out.trans (hb9.mono bF8.out.size)))
            (try go_wp2_with fail)
            refine hK.out _ _ (S9.out) (fun hT => ?_)
            clear hK K hS
            have hS := hT
            clear hT
            try dsimp only at hS
            (try simp only [Act.put, List.setIfInBounds_toArray, List.set_cons_zero, List.set_cons_succ])
            refine wpAnyH_take (i := 5) (oi := ({ dst := some 69, op := Op.move (Operand.tmp 68), type := 4, pos := "laws.go:539", after := #[{ on := 4, ground := Ground.data }, { on := 4, ground := Ground.chain }], guard := none } : Oper)) (v := ?_) rfl (by kernel_rfl) (by kernel_rfl) (by kernel_rfl) (fun _ _ _ h => h) (Or.inl ⟨by rfl, ?_⟩) hS ?_
            rotate_left
            · intro wq hSw; (try dsimp only at hSw); obtain ⟨⟨s0, s1, s2, s3, s4, s5, s6, s7, s8, _⟩, ⟨t0, t1, t2, t3, t4, t5, t6, t7, t8, _⟩⟩ := hSw; go_simp; (try with_reducible rfl)
            (try simp only [Act.put, List.setIfInBounds_toArray, List.set_cons_zero, List.set_cons_succ])
            refine wpAnyH_take (i := 6) (oi := ({ dst := some 70, op := Op.fieldAddr 28 (Operand.tmp 5) 5, type := 0, pos := "laws.go:539", after := #[{ on := 5, ground := Ground.guard }], guard := some (5, true) } : Oper)) (v := ?_) rfl (by kernel_rfl) (by kernel_rfl) (by kernel_rfl) (fun _ _ _ h => h) (Or.inl ⟨by rfl, ?_⟩) hS ?_
            rotate_left
            · intro wq hSw; (try dsimp only at hSw); obtain ⟨⟨s0, s1, s2, s3, s4, s5, s6, s7, s8, _⟩, ⟨t0, t1, t2, t3, t4, t5, t6, t7, t8, _⟩⟩ := hSw; go_simp; (try with_reducible rfl)
            (try simp only [Act.put, List.setIfInBounds_toArray, List.set_cons_zero, List.set_cons_succ])
            refine wpAnyH_take (i := 7) (oi := ({ dst := some 71, op := Op.load 4 (Operand.tmp 70), type := 4, pos := "laws.go:539", after := #[{ on := 6, ground := Ground.data }, { on := 5, ground := Ground.guard }], guard := some (5, true) } : Oper)) (v := ?_) rfl (by kernel_rfl) (by kernel_rfl) (by kernel_rfl) (fun _ _ _ h => h) (Or.inl ⟨by rfl, ?_⟩) hS ?_
            rotate_left
            · intro wq hSw; (try dsimp only at hSw); obtain ⟨⟨s0, s1, s2, s3, s4, s5, s6, s7, s8, _⟩, ⟨t0, t1, t2, t3, t4, t5, t6, t7, t8, _⟩⟩ := hSw; go_simp; (try with_reducible rfl)
            (try simp only [Act.put, List.setIfInBounds_toArray, List.set_cons_zero, List.set_cons_succ])
            refine wpAnyH_take (i := 8) (oi := ({ dst := some 72, op := Op.move (Operand.tmp 71), type := 4, pos := "laws.go:539", after := #[{ on := 7, ground := Ground.data }, { on := 5, ground := Ground.chain }, { on := 5, ground := Ground.guard }], guard := some (5, true) } : Oper)) (v := ?_) rfl (by kernel_rfl) (by kernel_rfl) (by kernel_rfl) (fun _ _ _ h => h) (Or.inl ⟨by rfl, ?_⟩) hS ?_
            rotate_left
            · intro wq hSw; (try dsimp only at hSw); obtain ⟨⟨s0, s1, s2, s3, s4, s5, s6, s7, s8, _⟩, ⟨t0, t1, t2, t3, t4, t5, t6, t7, t8, _⟩⟩ := hSw; go_simp; (try with_reducible rfl)
            (try simp only [Act.put, List.setIfInBounds_toArray, List.set_cons_zero, List.set_cons_succ])
            refine wpAnyH_take (i := 9) (oi := ({ dst := some 73, op := Op.fieldAddr 28 (Operand.tmp 5) 2, type := 0, pos := "laws.go:539", after := #[{ on := 8, ground := Ground.guard }], guard := some (8, false) } : Oper)) (v := ?_) rfl (by kernel_rfl) (by kernel_rfl) (by kernel_rfl) (fun _ _ _ h => h) (Or.inl ⟨by rfl, ?_⟩) hS ?_
            rotate_left
            · intro wq hSw; (try dsimp only at hSw); obtain ⟨⟨s0, s1, s2, s3, s4, s5, s6, s7, s8, _⟩, ⟨t0, t1, t2, t3, t4, t5, t6, t7, t8, _⟩⟩ := hSw; go_simp; (try with_reducible rfl)
            (try simp only [Act.put, List.setIfInBounds_toArray, List.set_cons_zero, List.set_cons_succ])
            refine wpAnyH_take (i := 10) (oi := ({ dst := some 74, op := Op.load 3 (Operand.tmp 73), type := 3, pos := "laws.go:539", after := #[{ on := 9, ground := Ground.data }, { on := 8, ground := Ground.guard }], guard := some (8, false) } : Oper)) (v := ?_) rfl (by kernel_rfl) (by kernel_rfl) (by kernel_rfl) (fun _ _ _ h => h) (Or.inl ⟨by rfl, ?_⟩) hS ?_
            rotate_left
            · intro wq hSw; (try dsimp only at hSw); obtain ⟨⟨s0, s1, s2, s3, s4, s5, s6, s7, s8, _⟩, ⟨t0, t1, t2, t3, t4, t5, t6, t7, t8, _⟩⟩ := hSw; go_simp; (try with_reducible rfl)
            (try simp only [Act.put, List.setIfInBounds_toArray, List.set_cons_zero, List.set_cons_succ])
            refine wpAnyH_take (i := 11) (oi := ({ dst := some 75, op := Op.move (Operand.tmp 4), type := 3, pos := "laws.go:539", after := #[{ on := 8, ground := Ground.guard }], guard := some (8, false) } : Oper)) (v := ?_) rfl (by kernel_rfl) (by kernel_rfl) (by kernel_rfl) (fun _ _ _ h => h) (Or.inl ⟨by rfl, ?_⟩) hS ?_
            rotate_left
            · intro wq hSw; (try dsimp only at hSw); obtain ⟨⟨s0, s1, s2, s3, s4, s5, s6, s7, s8, _⟩, ⟨t0, t1, t2, t3, t4, t5, t6, t7, t8, _⟩⟩ := hSw; go_simp; (try with_reducible rfl)
            (try simp only [Act.put, List.setIfInBounds_toArray, List.set_cons_zero, List.set_cons_succ])
            refine wpAnyH_take (i := 12) (oi := ({ dst := some 76, op := Op.binOp BinOp.eql 3 (Operand.tmp 74) (Operand.tmp 75) 3, type := 4, pos := "laws.go:539", after := #[{ on := 10, ground := Ground.data }, { on := 11, ground := Ground.data }, { on := 8, ground := Ground.guard }], guard := some (8, false) } : Oper)) (v := ?_) rfl (by kernel_rfl) (by kernel_rfl) (by kernel_rfl) (fun _ _ _ h => h) (Or.inl ⟨by rfl, ?_⟩) hS ?_
            rotate_left
            · intro wq hSw; (try dsimp only at hSw); obtain ⟨⟨s0, s1, s2, s3, s4, s5, s6, s7, s8, _⟩, ⟨t0, t1, t2, t3, t4, t5, t6, t7, t8, _⟩⟩ := hSw; go_simp; (try with_reducible rfl)
            (try simp only [Act.put, List.setIfInBounds_toArray, List.set_cons_zero, List.set_cons_succ])
            refine wpAnyH_take (i := 13) (oi := ({ dst := some 77, op := Op.pick (Operand.tmp 72) (Operand.const (Value.bool true)) (Operand.tmp 76), type := 4, pos := "laws.go:539", after := #[{ on := 8, ground := Ground.data }, { on := 12, ground := Ground.data }, { on := 5, ground := Ground.guard }], guard := some (5, true) } : Oper)) (v := ?_) rfl (by kernel_rfl) (by kernel_rfl) (by kernel_rfl) (fun _ _ _ h => h) (Or.inl ⟨by rfl, ?_⟩) hS ?_
            rotate_left
            · intro wq hSw; (try dsimp only at hSw); obtain ⟨⟨s0, s1, s2, s3, s4, s5, s6, s7, s8, _⟩, ⟨t0, t1, t2, t3, t4, t5, t6, t7, t8, _⟩⟩ := hSw; go_simp; (try with_reducible rfl)
            (try simp only [Act.put, List.setIfInBounds_toArray, List.set_cons_zero, List.set_cons_succ])
            refine wpAnyH_take (i := 14) (oi := ({ dst := some 78, op := Op.move (Operand.tmp 77), type := 4, pos := "laws.go:539", after := #[{ on := 13, ground := Ground.data }, { on := 8, ground := Ground.chain }, { on := 5, ground := Ground.guard }], guard := some (5, true) } : Oper)) (v := ?_) rfl (by kernel_rfl) (by kernel_rfl) (by kernel_rfl) (fun _ _ _ h => h) (Or.inl ⟨by rfl, ?_⟩) hS ?_
            rotate_left
            · intro wq hSw; (try dsimp only at hSw); obtain ⟨⟨s0, s1, s2, s3, s4, s5, s6, s7, s8, _⟩, ⟨t0, t1, t2, t3, t4, t5, t6, t7, t8, _⟩⟩ := hSw; go_simp; (try with_reducible rfl)
            (try simp only [Act.put, List.setIfInBounds_toArray, List.set_cons_zero, List.set_cons_succ])
            refine wpAnyH_take (i := 15) (oi := ({ dst := some 79, op := Op.move (Operand.tmp 6), type := 3, pos := "laws.go:539", after := #[{ on := 14, ground := Ground.guard }], guard := some (14, false) } : Oper)) (v := undef) rfl (by kernel_rfl) (by kernel_rfl) (by kernel_rfl) (fun _ _ _ h => h) (Or.inr ⟨by rfl, rfl⟩) hS ?_
            (try simp only [Act.put, List.setIfInBounds_toArray, List.set_cons_zero, List.set_cons_succ])
            refine wpAnyH_take (i := 16) (oi := ({ dst := some 80, op := Op.binOp BinOp.eql 3 (Operand.tmp 79) (Operand.const (Value.int IntKind.i64 500)) 3, type := 4, pos := "laws.go:539", after := #[{ on := 15, ground := Ground.data }, { on := 14, ground := Ground.guard }], guard := some (14, false) } : Oper)) (v := undef) rfl (by kernel_rfl) (by kernel_rfl) (by kernel_rfl) (fun _ _ _ h => h) (Or.inr ⟨by rfl, rfl⟩) hS ?_
            (try simp only [Act.put, List.setIfInBounds_toArray, List.set_cons_zero, List.set_cons_succ])
            refine wpAnyH_take (i := 17) (oi := ({ dst := some 81, op := Op.pick (Operand.tmp 78) (Operand.const (Value.bool true)) (Operand.tmp 80), type := 4, pos := "laws.go:539", after := #[{ on := 14, ground := Ground.data }, { on := 16, ground := Ground.data }, { on := 5, ground := Ground.guard }], guard := some (5, true) } : Oper)) (v := ?_) rfl (by kernel_rfl) (by kernel_rfl) (by kernel_rfl) (fun _ _ _ h => h) (Or.inl ⟨by rfl, ?_⟩) hS ?_
            rotate_left
            · intro wq hSw; (try dsimp only at hSw); obtain ⟨⟨s0, s1, s2, s3, s4, s5, s6, s7, s8, _⟩, ⟨t0, t1, t2, t3, t4, t5, t6, t7, t8, _⟩⟩ := hSw; go_simp; (try with_reducible rfl)
            (try simp only [Act.put, List.setIfInBounds_toArray, List.set_cons_zero, List.set_cons_succ])
            refine wpAnyH_take (i := 18) (oi := ({ dst := some 82, op := Op.pick (Operand.tmp 69) (Operand.tmp 81) (Operand.const (Value.bool false)), type := 4, pos := "laws.go:539", after := #[{ on := 5, ground := Ground.data }, { on := 17, ground := Ground.data }], guard := none } : Oper)) (v := ?_) rfl (by kernel_rfl) (by kernel_rfl) (by kernel_rfl) (fun _ _ _ h => h) (Or.inl ⟨by rfl, ?_⟩) hS ?_
            rotate_left
            · intro wq hSw; (try dsimp only at hSw); obtain ⟨⟨s0, s1, s2, s3, s4, s5, s6, s7, s8, _⟩, ⟨t0, t1, t2, t3, t4, t5, t6, t7, t8, _⟩⟩ := hSw; go_simp; (try with_reducible rfl)
            (try simp only [Act.put, List.setIfInBounds_toArray, List.set_cons_zero, List.set_cons_succ])
            refine wpAnyH_take (i := 19) (oi := ({ dst := some 83, op := Op.move (Operand.tmp 82), type := 4, pos := "laws.go:539", after := #[{ on := 18, ground := Ground.data }, { on := 14, ground := Ground.chain }], guard := none } : Oper)) (v := ?_) rfl (by kernel_rfl) (by kernel_rfl) (by kernel_rfl) (fun _ _ _ h => h) (Or.inl ⟨by rfl, ?_⟩) hS ?_
            rotate_left
            · intro wq hSw; (try dsimp only at hSw); obtain ⟨⟨s0, s1, s2, s3, s4, s5, s6, s7, s8, _⟩, ⟨t0, t1, t2, t3, t4, t5, t6, t7, t8, _⟩⟩ := hSw; go_simp; (try with_reducible rfl)
            (try simp only [Act.put, List.setIfInBounds_toArray, List.set_cons_zero, List.set_cons_succ])
            refine wpAnyH_take (i := 20) (oi := ({ dst := some 84, op := Op.fieldAddr 28 (Operand.tmp 3) 5, type := 0, pos := "laws.go:539", after := #[{ on := 19, ground := Ground.guard }], guard := some (19, true) } : Oper)) (v := ?_) rfl (by kernel_rfl) (by kernel_rfl) (by kernel_rfl) (fun _ _ _ h => h) (Or.inl ⟨by rfl, ?_⟩) hS ?_
            rotate_left
            · intro wq hSw; (try dsimp only at hSw); obtain ⟨⟨s0, s1, s2, s3, s4, s5, s6, s7, s8, _⟩, ⟨t0, t1, t2, t3, t4, t5, t6, t7, t8, _⟩⟩ := hSw; go_simp; (try with_reducible rfl)
            (try simp only [Act.put, List.setIfInBounds_toArray, List.set_cons_zero, List.set_cons_succ])
            refine wpAnyH_take (i := 21) (oi := ({ dst := some 85, op := Op.load 4 (Operand.tmp 84), type := 4, pos := "laws.go:539", after := #[{ on := 20, ground := Ground.data }, { on := 19, ground := Ground.guard }], guard := some (19, true) } : Oper)) (v := ?_) rfl (by kernel_rfl) (by kernel_rfl) (by kernel_rfl) (fun _ _ _ h => h) (Or.inl ⟨by rfl, ?_⟩) hS ?_
            rotate_left
            · intro wq hSw; (try dsimp only at hSw); obtain ⟨⟨s0, s1, s2, s3, s4, s5, s6, s7, s8, _⟩, ⟨t0, t1, t2, t3, t4, t5, t6, t7, t8, _⟩⟩ := hSw; go_simp; (try with_reducible rfl)
            (try simp only [Act.put, List.setIfInBounds_toArray, List.set_cons_zero, List.set_cons_succ])
            refine wpAnyH_take (i := 22) (oi := ({ dst := some 86, op := Op.unOp UnOp.not 4 (Operand.tmp 85), type := 4, pos := "laws.go:539", after := #[{ on := 21, ground := Ground.data }, { on := 19, ground := Ground.guard }], guard := some (19, true) } : Oper)) (v := ?_) rfl (by kernel_rfl) (by kernel_rfl) (by kernel_rfl) (fun _ _ _ h => h) (Or.inl ⟨by rfl, ?_⟩) hS ?_
            rotate_left
            · intro wq hSw; (try dsimp only at hSw); obtain ⟨⟨s0, s1, s2, s3, s4, s5, s6, s7, s8, _⟩, ⟨t0, t1, t2, t3, t4, t5, t6, t7, t8, _⟩⟩ := hSw; go_simp; (try with_reducible rfl)
            (try simp only [Act.put, List.setIfInBounds_toArray, List.set_cons_zero, List.set_cons_succ])
            refine wpAnyH_take (i := 23) (oi := ({ dst := some 87, op := Op.move (Operand.tmp 86), type := 4, pos := "laws.go:539", after := #[{ on := 22, ground := Ground.data }, { on := 19, ground := Ground.chain }, { on := 19, ground := Ground.guard }], guard := some (19, true) } : Oper)) (v := ?_) rfl (by kernel_rfl) (by kernel_rfl) (by kernel_rfl) (fun _ _ _ h => h) (Or.inl ⟨by rfl, ?_⟩) hS ?_
            rotate_left
            · intro wq hSw; (try dsimp only at hSw); obtain ⟨⟨s0, s1, s2, s3, s4, s5, s6, s7, s8, _⟩, ⟨t0, t1, t2, t3, t4, t5, t6, t7, t8, _⟩⟩ := hSw; go_simp; (try with_reducible rfl)
            (try simp only [Act.put, List.setIfInBounds_toArray, List.set_cons_zero, List.set_cons_succ])
            refine wpAnyH_take (i := 24) (oi := ({ dst := some 88, op := Op.move (Operand.tmp 6), type := 3, pos := "laws.go:539", after := #[{ on := 23, ground := Ground.guard }], guard := some (23, false) } : Oper)) (v := undef) rfl (by kernel_rfl) (by kernel_rfl) (by kernel_rfl) (fun _ _ _ h => h) (Or.inr ⟨by rfl, rfl⟩) hS ?_
            (try simp only [Act.put, List.setIfInBounds_toArray, List.set_cons_zero, List.set_cons_succ])
            refine wpAnyH_take (i := 25) (oi := ({ dst := some 89, op := Op.binOp BinOp.eql 3 (Operand.tmp 88) (Operand.const (Value.int IntKind.i64 0)) 3, type := 4, pos := "laws.go:539", after := #[{ on := 24, ground := Ground.data }, { on := 23, ground := Ground.guard }], guard := some (23, false) } : Oper)) (v := undef) rfl (by kernel_rfl) (by kernel_rfl) (by kernel_rfl) (fun _ _ _ h => h) (Or.inr ⟨by rfl, rfl⟩) hS ?_
            (try simp only [Act.put, List.setIfInBounds_toArray, List.set_cons_zero, List.set_cons_succ])
            refine wpAnyH_take (i := 26) (oi := ({ dst := some 90, op := Op.pick (Operand.tmp 87) (Operand.const (Value.bool true)) (Operand.tmp 89), type := 4, pos := "laws.go:539", after := #[{ on := 23, ground := Ground.data }, { on := 25, ground := Ground.data }, { on := 19, ground := Ground.guard }], guard := some (19, true) } : Oper)) (v := ?_) rfl (by kernel_rfl) (by kernel_rfl) (by kernel_rfl) (fun _ _ _ h => h) (Or.inl ⟨by rfl, ?_⟩) hS ?_
            rotate_left
            · intro wq hSw; (try dsimp only at hSw); obtain ⟨⟨s0, s1, s2, s3, s4, s5, s6, s7, s8, _⟩, ⟨t0, t1, t2, t3, t4, t5, t6, t7, t8, _⟩⟩ := hSw; go_simp; (try with_reducible rfl)
            (try simp only [Act.put, List.setIfInBounds_toArray, List.set_cons_zero, List.set_cons_succ])
            refine wpAnyH_take (i := 27) (oi := ({ dst := some 91, op := Op.pick (Operand.tmp 83) (Operand.tmp 90) (Operand.const (Value.bool false)), type := 4, pos := "laws.go:539", after := #[{ on := 19, ground := Ground.data }, { on := 26, ground := Ground.data }], guard := none } : Oper)) (v := ?_) rfl (by kernel_rfl) (by kernel_rfl) (by kernel_rfl) (fun _ _ _ h => h) (Or.inl ⟨by rfl, ?_⟩) hS ?_
            rotate_left
            · intro wq hSw; (try dsimp only at hSw); obtain ⟨⟨s0, s1, s2, s3, s4, s5, s6, s7, s8, _⟩, ⟨t0, t1, t2, t3, t4, t5, t6, t7, t8, _⟩⟩ := hSw; go_simp; (try with_reducible rfl)
            (try simp only [Act.put, List.setIfInBounds_toArray, List.set_cons_zero, List.set_cons_succ])
            refine wpAnyH_take (i := 28) (oi := ({ dst := some 2, op := Op.assign (Operand.tmp 91), type := 4, pos := "laws.go:539", after := #[{ on := 27, ground := Ground.data }, { on := 23, ground := Ground.chain }, { on := 0, ground := Ground.phase }, { on := 1, ground := Ground.phase }, { on := 2, ground := Ground.phase }, { on := 3, ground := Ground.phase }, { on := 4, ground := Ground.phase }, { on := 5, ground := Ground.phase }, { on := 6, ground := Ground.phase }, { on := 7, ground := Ground.phase }, { on := 8, ground := Ground.phase }, { on := 9, ground := Ground.phase }, { on := 10, ground := Ground.phase }, { on := 11, ground := Ground.phase }, { on := 12, ground := Ground.phase }, { on := 13, ground := Ground.phase }, { on := 14, ground := Ground.phase }, { on := 15, ground := Ground.phase }, { on := 16, ground := Ground.phase }, { on := 17, ground := Ground.phase }, { on := 18, ground := Ground.phase }, { on := 19, ground := Ground.phase }, { on := 20, ground := Ground.phase }, { on := 21, ground := Ground.phase }, { on := 22, ground := Ground.phase }, { on := 23, ground := Ground.phase }, { on := 24, ground := Ground.phase }, { on := 25, ground := Ground.phase }, { on := 26, ground := Ground.phase }, { on := 27, ground := Ground.phase }], guard := none } : Oper)) (v := ?_) rfl (by kernel_rfl) (by kernel_rfl) (by kernel_rfl) (fun _ _ _ h => h) (Or.inl ⟨by rfl, ?_⟩) hS ?_
            rotate_left
            · intro wq hSw; (try dsimp only at hSw); obtain ⟨⟨s0, s1, s2, s3, s4, s5, s6, s7, s8, _⟩, ⟨t0, t1, t2, t3, t4, t5, t6, t7, t8, _⟩⟩ := hSw; go_simp; (try with_reducible rfl)
            (try simp only [Act.put, List.setIfInBounds_toArray, List.set_cons_zero, List.set_cons_succ])
            refine wpAnyH_done (by kernel_rfl) ?_ _
            go_wp2_with fail
            go_ret
            exact ⟨rfl, hBF.out.trans (bF9.out.mono hBF.out.size)⟩
          · rw [e1] at HMF SF
            rw [e2] at HXF SF
            clear e1 e2
            subst e4
            have q1 : (y.pc == p) = false := by rw [beq_eq_false_iff_ne]; exact e3
            have q2 : decide (y.pc = p) = false := decide_eq_false e3
            refine wp_region_held_drew (S := fun w' => Nine w' w1.heap.size (.slice a1 m.ram.length c1) (.slice b1 m.rom.length d1) (.int .i64 m.bank) (.int .i64 m.a) (.int .i64 m.pc) (.bool m.carry) (.slice f1 m.back.length g1) (.bool false) (.int .i64 m.cyc) ∧ Nine w' w3.heap.size (.slice ya y.ram.length yc) (.slice yb y.rom.length yd) (.int .i64 y.bank) (.int .i64 y.a) (.int .i64 y.pc) (.bool y.carry) (.slice ye y.back.length yf) (.bool false) (.int .i64 y.cyc)) (by kernel_rfl) (twoDrew SF.out) ?_
            intro hS
            try dsimp only at hS
            refine wpAnyH_take (i := 0) (oi := ({ dst := some 64, op := Op.load 28 (Operand.tmp 3), type := 28, pos := "laws.go:539", after := #[], guard := none } : Oper)) (v := ?_) rfl (by kernel_rfl) (by kernel_rfl) (by kernel_rfl) (fun _ _ _ h => h) (Or.inl ⟨by rfl, ?_⟩) hS ?_
            rotate_left
            · intro wq hSw; (try dsimp only at hSw); obtain ⟨⟨s0, s1, s2, s3, s4, s5, s6, s7, s8, _⟩, ⟨t0, t1, t2, t3, t4, t5, t6, t7, t8, _⟩⟩ := hSw; go_simp; (try with_reducible rfl)
            (try simp only [Act.put, List.setIfInBounds_toArray, List.set_cons_zero, List.set_cons_succ, q1, q2])
            refine wpAnyH_take (i := 1) (oi := ({ dst := some 65, op := Op.move (Operand.tmp 6), type := 3, pos := "laws.go:539", after := #[], guard := none } : Oper)) (v := ?_) rfl (by kernel_rfl) (by kernel_rfl) (by kernel_rfl) (fun _ _ _ h => h) (Or.inl ⟨by rfl, ?_⟩) hS ?_
            rotate_left
            · intro wq hSw; (try dsimp only at hSw); obtain ⟨⟨s0, s1, s2, s3, s4, s5, s6, s7, s8, _⟩, ⟨t0, t1, t2, t3, t4, t5, t6, t7, t8, _⟩⟩ := hSw; go_simp; (try with_reducible rfl)
            (try simp only [Act.put, List.setIfInBounds_toArray, List.set_cons_zero, List.set_cons_succ, q1, q2])
            refine wpAnyH_take (i := 3) (oi := ({ dst := some 67, op := Op.load 28 (Operand.tmp 5), type := 28, pos := "laws.go:539", after := #[], guard := none } : Oper)) (v := ?_) rfl (by kernel_rfl) (by kernel_rfl) (by kernel_rfl) (fun _ _ _ h => h) (Or.inl ⟨by rfl, ?_⟩) hS ?_
            rotate_left
            · intro wq hSw; (try dsimp only at hSw); obtain ⟨⟨s0, s1, s2, s3, s4, s5, s6, s7, s8, _⟩, ⟨t0, t1, t2, t3, t4, t5, t6, t7, t8, _⟩⟩ := hSw; go_simp; (try with_reducible rfl)
            (try simp only [Act.put, List.setIfInBounds_toArray, List.set_cons_zero, List.set_cons_succ, q1, q2])
            refine wpAnyH_ready (rs := [2]) (by kernel_rfl) (by simp) ?_
            refine AllReadyH.cons (o := ({ dst := some 66, op := Op.call { callee := Callee.value (Operand.func 9), args := #[Operand.tmp 64, Operand.tmp 65], argTypes := #[28, 3] }, type := 28, pos := "laws.go:539", after := #[{ on := 0, ground := Ground.data }, { on := 1, ground := Ground.data }], guard := none } : Oper)) rfl (fun K hK => ?_) AllReadyH.nil
            go_simp
            (go_at_call 9; refine (calls_mach (impl_RunMachine ((500 : Nat) : Int) (HMF.out.below (Below.refl _ _).drew)) EN.out).mono ?_; rintro e w8 ⟨v8, rfl, o8, hb8⟩; (have S8 := Lib.hid (twoBelow hb8 (twoDrew SF.out))); (have bF8 : Hid (Below wf.heap.size wf w8) := (Below.refl _ _).drew.trans hb8))
            (try go_wp2_with fail)
            refine hK.out _ _ (S8.out) (fun hT => ?_)
            clear hK K hS
            have hS := hT
            clear hT
            try dsimp only at hS
            (try simp only [Act.put, List.setIfInBounds_toArray, List.set_cons_zero, List.set_cons_succ, q1, q2])
            refine wpAnyH_ready (rs := [4]) (by kernel_rfl) (by simp) ?_
            refine AllReadyH.cons (o := ({ dst := some 68, op := Op.call { callee := Callee.value (Operand.func 7), args := #[Operand.tmp 66, Operand.tmp 67], argTypes := #[28, 28] }, type := 4, pos := "laws.go:539", after := #[{ on := 2, ground := Ground.data }, { on := 3, ground := Ground.data }, { on := 2, ground := Ground.chain }], guard := none } : Oper)) rfl (fun K hK => ?_) AllReadyH.nil
            go_simp
            (go_at_call 7; refine (laws_sameMachine o8.mach (HXF.out.below bF8.out)).mono ?_; rintro e w9 ⟨rfl, hb9⟩; (have S9 := Lib.hid (twoBelow hb9 S8.out)); (have bF9 : Hid (Below wf.heap.size wf w9) := bF8.out.trans (hb9.mono bF8.out.size)))
            (try go_wp2_with fail)
            refine hK.out _ _ (S9.out) (fun hT => ?_)
            clear hK K hS
            have hS := hT
            clear hT
            try dsimp only at hS
            (try simp only [Act.put, List.setIfInBounds_toArray, List.set_cons_zero, List.set_cons_succ, q1, q2])
            refine wpAnyH_take (i := 5) (oi := ({ dst := some 69, op := Op.move (Operand.tmp 68), type := 4, pos := "laws.go:539", after := #[{ on := 4, ground := Ground.data }, { on := 4, ground := Ground.chain }], guard := none } : Oper)) (v := ?_) rfl (by kernel_rfl) (by kernel_rfl) (by kernel_rfl) (fun _ _ _ h => h) (Or.inl ⟨by rfl, ?_⟩) hS ?_
            rotate_left
            · intro wq hSw; (try dsimp only at hSw); obtain ⟨⟨s0, s1, s2, s3, s4, s5, s6, s7, s8, _⟩, ⟨t0, t1, t2, t3, t4, t5, t6, t7, t8, _⟩⟩ := hSw; go_simp; (try with_reducible rfl)
            (try simp only [Act.put, List.setIfInBounds_toArray, List.set_cons_zero, List.set_cons_succ, q1, q2])
            refine wpAnyH_take (i := 6) (oi := ({ dst := some 70, op := Op.fieldAddr 28 (Operand.tmp 5) 5, type := 0, pos := "laws.go:539", after := #[{ on := 5, ground := Ground.guard }], guard := some (5, true) } : Oper)) (v := ?_) rfl (by kernel_rfl) (by kernel_rfl) (by kernel_rfl) (fun _ _ _ h => h) (Or.inl ⟨by rfl, ?_⟩) hS ?_
            rotate_left
            · intro wq hSw; (try dsimp only at hSw); obtain ⟨⟨s0, s1, s2, s3, s4, s5, s6, s7, s8, _⟩, ⟨t0, t1, t2, t3, t4, t5, t6, t7, t8, _⟩⟩ := hSw; go_simp; (try with_reducible rfl)
            (try simp only [Act.put, List.setIfInBounds_toArray, List.set_cons_zero, List.set_cons_succ, q1, q2])
            refine wpAnyH_take (i := 7) (oi := ({ dst := some 71, op := Op.load 4 (Operand.tmp 70), type := 4, pos := "laws.go:539", after := #[{ on := 6, ground := Ground.data }, { on := 5, ground := Ground.guard }], guard := some (5, true) } : Oper)) (v := ?_) rfl (by kernel_rfl) (by kernel_rfl) (by kernel_rfl) (fun _ _ _ h => h) (Or.inl ⟨by rfl, ?_⟩) hS ?_
            rotate_left
            · intro wq hSw; (try dsimp only at hSw); obtain ⟨⟨s0, s1, s2, s3, s4, s5, s6, s7, s8, _⟩, ⟨t0, t1, t2, t3, t4, t5, t6, t7, t8, _⟩⟩ := hSw; go_simp; (try with_reducible rfl)
            (try simp only [Act.put, List.setIfInBounds_toArray, List.set_cons_zero, List.set_cons_succ, q1, q2])
            refine wpAnyH_take (i := 8) (oi := ({ dst := some 72, op := Op.move (Operand.tmp 71), type := 4, pos := "laws.go:539", after := #[{ on := 7, ground := Ground.data }, { on := 5, ground := Ground.chain }, { on := 5, ground := Ground.guard }], guard := some (5, true) } : Oper)) (v := ?_) rfl (by kernel_rfl) (by kernel_rfl) (by kernel_rfl) (fun _ _ _ h => h) (Or.inl ⟨by rfl, ?_⟩) hS ?_
            rotate_left
            · intro wq hSw; (try dsimp only at hSw); obtain ⟨⟨s0, s1, s2, s3, s4, s5, s6, s7, s8, _⟩, ⟨t0, t1, t2, t3, t4, t5, t6, t7, t8, _⟩⟩ := hSw; go_simp; (try with_reducible rfl)
            (try simp only [Act.put, List.setIfInBounds_toArray, List.set_cons_zero, List.set_cons_succ, q1, q2])
            refine wpAnyH_take (i := 9) (oi := ({ dst := some 73, op := Op.fieldAddr 28 (Operand.tmp 5) 2, type := 0, pos := "laws.go:539", after := #[{ on := 8, ground := Ground.guard }], guard := some (8, false) } : Oper)) (v := ?_) rfl (by kernel_rfl) (by kernel_rfl) (by kernel_rfl) (fun _ _ _ h => h) (Or.inl ⟨by rfl, ?_⟩) hS ?_
            rotate_left
            · intro wq hSw; (try dsimp only at hSw); obtain ⟨⟨s0, s1, s2, s3, s4, s5, s6, s7, s8, _⟩, ⟨t0, t1, t2, t3, t4, t5, t6, t7, t8, _⟩⟩ := hSw; go_simp; (try with_reducible rfl)
            (try simp only [Act.put, List.setIfInBounds_toArray, List.set_cons_zero, List.set_cons_succ, q1, q2])
            refine wpAnyH_take (i := 10) (oi := ({ dst := some 74, op := Op.load 3 (Operand.tmp 73), type := 3, pos := "laws.go:539", after := #[{ on := 9, ground := Ground.data }, { on := 8, ground := Ground.guard }], guard := some (8, false) } : Oper)) (v := ?_) rfl (by kernel_rfl) (by kernel_rfl) (by kernel_rfl) (fun _ _ _ h => h) (Or.inl ⟨by rfl, ?_⟩) hS ?_
            rotate_left
            · intro wq hSw; (try dsimp only at hSw); obtain ⟨⟨s0, s1, s2, s3, s4, s5, s6, s7, s8, _⟩, ⟨t0, t1, t2, t3, t4, t5, t6, t7, t8, _⟩⟩ := hSw; go_simp; (try with_reducible rfl)
            (try simp only [Act.put, List.setIfInBounds_toArray, List.set_cons_zero, List.set_cons_succ, q1, q2])
            refine wpAnyH_take (i := 11) (oi := ({ dst := some 75, op := Op.move (Operand.tmp 4), type := 3, pos := "laws.go:539", after := #[{ on := 8, ground := Ground.guard }], guard := some (8, false) } : Oper)) (v := ?_) rfl (by kernel_rfl) (by kernel_rfl) (by kernel_rfl) (fun _ _ _ h => h) (Or.inl ⟨by rfl, ?_⟩) hS ?_
            rotate_left
            · intro wq hSw; (try dsimp only at hSw); obtain ⟨⟨s0, s1, s2, s3, s4, s5, s6, s7, s8, _⟩, ⟨t0, t1, t2, t3, t4, t5, t6, t7, t8, _⟩⟩ := hSw; go_simp; (try with_reducible rfl)
            (try simp only [Act.put, List.setIfInBounds_toArray, List.set_cons_zero, List.set_cons_succ, q1, q2])
            refine wpAnyH_take (i := 12) (oi := ({ dst := some 76, op := Op.binOp BinOp.eql 3 (Operand.tmp 74) (Operand.tmp 75) 3, type := 4, pos := "laws.go:539", after := #[{ on := 10, ground := Ground.data }, { on := 11, ground := Ground.data }, { on := 8, ground := Ground.guard }], guard := some (8, false) } : Oper)) (v := ?_) rfl (by kernel_rfl) (by kernel_rfl) (by kernel_rfl) (fun _ _ _ h => h) (Or.inl ⟨by rfl, ?_⟩) hS ?_
            rotate_left
            · intro wq hSw; (try dsimp only at hSw); obtain ⟨⟨s0, s1, s2, s3, s4, s5, s6, s7, s8, _⟩, ⟨t0, t1, t2, t3, t4, t5, t6, t7, t8, _⟩⟩ := hSw; go_simp; (try with_reducible rfl)
            (try simp only [Act.put, List.setIfInBounds_toArray, List.set_cons_zero, List.set_cons_succ, q1, q2])
            refine wpAnyH_take (i := 13) (oi := ({ dst := some 77, op := Op.pick (Operand.tmp 72) (Operand.const (Value.bool true)) (Operand.tmp 76), type := 4, pos := "laws.go:539", after := #[{ on := 8, ground := Ground.data }, { on := 12, ground := Ground.data }, { on := 5, ground := Ground.guard }], guard := some (5, true) } : Oper)) (v := ?_) rfl (by kernel_rfl) (by kernel_rfl) (by kernel_rfl) (fun _ _ _ h => h) (Or.inl ⟨by rfl, ?_⟩) hS ?_
            rotate_left
            · intro wq hSw; (try dsimp only at hSw); obtain ⟨⟨s0, s1, s2, s3, s4, s5, s6, s7, s8, _⟩, ⟨t0, t1, t2, t3, t4, t5, t6, t7, t8, _⟩⟩ := hSw; go_simp; (try with_reducible rfl)
            (try simp only [Act.put, List.setIfInBounds_toArray, List.set_cons_zero, List.set_cons_succ, q1, q2])
            refine wpAnyH_take (i := 14) (oi := ({ dst := some 78, op := Op.move (Operand.tmp 77), type := 4, pos := "laws.go:539", after := #[{ on := 13, ground := Ground.data }, { on := 8, ground := Ground.chain }, { on := 5, ground := Ground.guard }], guard := some (5, true) } : Oper)) (v := ?_) rfl (by kernel_rfl) (by kernel_rfl) (by kernel_rfl) (fun _ _ _ h => h) (Or.inl ⟨by rfl, ?_⟩) hS ?_
            rotate_left
            · intro wq hSw; (try dsimp only at hSw); obtain ⟨⟨s0, s1, s2, s3, s4, s5, s6, s7, s8, _⟩, ⟨t0, t1, t2, t3, t4, t5, t6, t7, t8, _⟩⟩ := hSw; go_simp; (try with_reducible rfl)
            (try simp only [Act.put, List.setIfInBounds_toArray, List.set_cons_zero, List.set_cons_succ, q1, q2])
            refine wpAnyH_take (i := 15) (oi := ({ dst := some 79, op := Op.move (Operand.tmp 6), type := 3, pos := "laws.go:539", after := #[{ on := 14, ground := Ground.guard }], guard := some (14, false) } : Oper)) (v := ?_) rfl (by kernel_rfl) (by kernel_rfl) (by kernel_rfl) (fun _ _ _ h => h) (Or.inl ⟨by rfl, ?_⟩) hS ?_
            rotate_left
            · intro wq hSw; (try dsimp only at hSw); obtain ⟨⟨s0, s1, s2, s3, s4, s5, s6, s7, s8, _⟩, ⟨t0, t1, t2, t3, t4, t5, t6, t7, t8, _⟩⟩ := hSw; go_simp; (try with_reducible rfl)
            (try simp only [Act.put, List.setIfInBounds_toArray, List.set_cons_zero, List.set_cons_succ, q1, q2])
            refine wpAnyH_take (i := 16) (oi := ({ dst := some 80, op := Op.binOp BinOp.eql 3 (Operand.tmp 79) (Operand.const (Value.int IntKind.i64 500)) 3, type := 4, pos := "laws.go:539", after := #[{ on := 15, ground := Ground.data }, { on := 14, ground := Ground.guard }], guard := some (14, false) } : Oper)) (v := ?_) rfl (by kernel_rfl) (by kernel_rfl) (by kernel_rfl) (fun _ _ _ h => h) (Or.inl ⟨by rfl, ?_⟩) hS ?_
            rotate_left
            · intro wq hSw; (try dsimp only at hSw); obtain ⟨⟨s0, s1, s2, s3, s4, s5, s6, s7, s8, _⟩, ⟨t0, t1, t2, t3, t4, t5, t6, t7, t8, _⟩⟩ := hSw; go_simp; (try with_reducible rfl)
            (try simp only [Act.put, List.setIfInBounds_toArray, List.set_cons_zero, List.set_cons_succ, q1, q2])
            refine wpAnyH_take (i := 17) (oi := ({ dst := some 81, op := Op.pick (Operand.tmp 78) (Operand.const (Value.bool true)) (Operand.tmp 80), type := 4, pos := "laws.go:539", after := #[{ on := 14, ground := Ground.data }, { on := 16, ground := Ground.data }, { on := 5, ground := Ground.guard }], guard := some (5, true) } : Oper)) (v := ?_) rfl (by kernel_rfl) (by kernel_rfl) (by kernel_rfl) (fun _ _ _ h => h) (Or.inl ⟨by rfl, ?_⟩) hS ?_
            rotate_left
            · intro wq hSw; (try dsimp only at hSw); obtain ⟨⟨s0, s1, s2, s3, s4, s5, s6, s7, s8, _⟩, ⟨t0, t1, t2, t3, t4, t5, t6, t7, t8, _⟩⟩ := hSw; go_simp; (try with_reducible rfl)
            (try simp only [Act.put, List.setIfInBounds_toArray, List.set_cons_zero, List.set_cons_succ, q1, q2])
            refine wpAnyH_take (i := 18) (oi := ({ dst := some 82, op := Op.pick (Operand.tmp 69) (Operand.tmp 81) (Operand.const (Value.bool false)), type := 4, pos := "laws.go:539", after := #[{ on := 5, ground := Ground.data }, { on := 17, ground := Ground.data }], guard := none } : Oper)) (v := ?_) rfl (by kernel_rfl) (by kernel_rfl) (by kernel_rfl) (fun _ _ _ h => h) (Or.inl ⟨by rfl, ?_⟩) hS ?_
            rotate_left
            · intro wq hSw; (try dsimp only at hSw); obtain ⟨⟨s0, s1, s2, s3, s4, s5, s6, s7, s8, _⟩, ⟨t0, t1, t2, t3, t4, t5, t6, t7, t8, _⟩⟩ := hSw; go_simp; (try with_reducible rfl)
            (try simp only [Act.put, List.setIfInBounds_toArray, List.set_cons_zero, List.set_cons_succ, q1, q2])
            refine wpAnyH_take (i := 19) (oi := ({ dst := some 83, op := Op.move (Operand.tmp 82), type := 4, pos := "laws.go:539", after := #[{ on := 18, ground := Ground.data }, { on := 14, ground := Ground.chain }], guard := none } : Oper)) (v := ?_) rfl (by kernel_rfl) (by kernel_rfl) (by kernel_rfl) (fun _ _ _ h => h) (Or.inl ⟨by rfl, ?_⟩) hS ?_
            rotate_left
            · intro wq hSw; (try dsimp only at hSw); obtain ⟨⟨s0, s1, s2, s3, s4, s5, s6, s7, s8, _⟩, ⟨t0, t1, t2, t3, t4, t5, t6, t7, t8, _⟩⟩ := hSw; go_simp; (try with_reducible rfl)
            (try simp only [Act.put, List.setIfInBounds_toArray, List.set_cons_zero, List.set_cons_succ, q1, q2])
            refine wpAnyH_take (i := 20) (oi := ({ dst := some 84, op := Op.fieldAddr 28 (Operand.tmp 3) 5, type := 0, pos := "laws.go:539", after := #[{ on := 19, ground := Ground.guard }], guard := some (19, true) } : Oper)) (v := ?_) rfl (by kernel_rfl) (by kernel_rfl) (by kernel_rfl) (fun _ _ _ h => h) (Or.inl ⟨by rfl, ?_⟩) hS ?_
            rotate_left
            · intro wq hSw; (try dsimp only at hSw); obtain ⟨⟨s0, s1, s2, s3, s4, s5, s6, s7, s8, _⟩, ⟨t0, t1, t2, t3, t4, t5, t6, t7, t8, _⟩⟩ := hSw; go_simp; (try with_reducible rfl)
            (try simp only [Act.put, List.setIfInBounds_toArray, List.set_cons_zero, List.set_cons_succ, q1, q2])
            refine wpAnyH_take (i := 21) (oi := ({ dst := some 85, op := Op.load 4 (Operand.tmp 84), type := 4, pos := "laws.go:539", after := #[{ on := 20, ground := Ground.data }, { on := 19, ground := Ground.guard }], guard := some (19, true) } : Oper)) (v := ?_) rfl (by kernel_rfl) (by kernel_rfl) (by kernel_rfl) (fun _ _ _ h => h) (Or.inl ⟨by rfl, ?_⟩) hS ?_
            rotate_left
            · intro wq hSw; (try dsimp only at hSw); obtain ⟨⟨s0, s1, s2, s3, s4, s5, s6, s7, s8, _⟩, ⟨t0, t1, t2, t3, t4, t5, t6, t7, t8, _⟩⟩ := hSw; go_simp; (try with_reducible rfl)
            (try simp only [Act.put, List.setIfInBounds_toArray, List.set_cons_zero, List.set_cons_succ, q1, q2])
            refine wpAnyH_take (i := 22) (oi := ({ dst := some 86, op := Op.unOp UnOp.not 4 (Operand.tmp 85), type := 4, pos := "laws.go:539", after := #[{ on := 21, ground := Ground.data }, { on := 19, ground := Ground.guard }], guard := some (19, true) } : Oper)) (v := ?_) rfl (by kernel_rfl) (by kernel_rfl) (by kernel_rfl) (fun _ _ _ h => h) (Or.inl ⟨by rfl, ?_⟩) hS ?_
            rotate_left
            · intro wq hSw; (try dsimp only at hSw); obtain ⟨⟨s0, s1, s2, s3, s4, s5, s6, s7, s8, _⟩, ⟨t0, t1, t2, t3, t4, t5, t6, t7, t8, _⟩⟩ := hSw; go_simp; (try with_reducible rfl)
            (try simp only [Act.put, List.setIfInBounds_toArray, List.set_cons_zero, List.set_cons_succ, q1, q2])
            refine wpAnyH_take (i := 23) (oi := ({ dst := some 87, op := Op.move (Operand.tmp 86), type := 4, pos := "laws.go:539", after := #[{ on := 22, ground := Ground.data }, { on := 19, ground := Ground.chain }, { on := 19, ground := Ground.guard }], guard := some (19, true) } : Oper)) (v := ?_) rfl (by kernel_rfl) (by kernel_rfl) (by kernel_rfl) (fun _ _ _ h => h) (Or.inl ⟨by rfl, ?_⟩) hS ?_
            rotate_left
            · intro wq hSw; (try dsimp only at hSw); obtain ⟨⟨s0, s1, s2, s3, s4, s5, s6, s7, s8, _⟩, ⟨t0, t1, t2, t3, t4, t5, t6, t7, t8, _⟩⟩ := hSw; go_simp; (try with_reducible rfl)
            (try simp only [Act.put, List.setIfInBounds_toArray, List.set_cons_zero, List.set_cons_succ, q1, q2])
            refine wpAnyH_take (i := 24) (oi := ({ dst := some 88, op := Op.move (Operand.tmp 6), type := 3, pos := "laws.go:539", after := #[{ on := 23, ground := Ground.guard }], guard := some (23, false) } : Oper)) (v := undef) rfl (by kernel_rfl) (by kernel_rfl) (by kernel_rfl) (fun _ _ _ h => h) (Or.inr ⟨by rfl, rfl⟩) hS ?_
            (try simp only [Act.put, List.setIfInBounds_toArray, List.set_cons_zero, List.set_cons_succ, q1, q2])
            refine wpAnyH_take (i := 25) (oi := ({ dst := some 89, op := Op.binOp BinOp.eql 3 (Operand.tmp 88) (Operand.const (Value.int IntKind.i64 0)) 3, type := 4, pos := "laws.go:539", after := #[{ on := 24, ground := Ground.data }, { on := 23, ground := Ground.guard }], guard := some (23, false) } : Oper)) (v := undef) rfl (by kernel_rfl) (by kernel_rfl) (by kernel_rfl) (fun _ _ _ h => h) (Or.inr ⟨by rfl, rfl⟩) hS ?_
            (try simp only [Act.put, List.setIfInBounds_toArray, List.set_cons_zero, List.set_cons_succ, q1, q2])
            refine wpAnyH_take (i := 26) (oi := ({ dst := some 90, op := Op.pick (Operand.tmp 87) (Operand.const (Value.bool true)) (Operand.tmp 89), type := 4, pos := "laws.go:539", after := #[{ on := 23, ground := Ground.data }, { on := 25, ground := Ground.data }, { on := 19, ground := Ground.guard }], guard := some (19, true) } : Oper)) (v := ?_) rfl (by kernel_rfl) (by kernel_rfl) (by kernel_rfl) (fun _ _ _ h => h) (Or.inl ⟨by rfl, ?_⟩) hS ?_
            rotate_left
            · intro wq hSw; (try dsimp only at hSw); obtain ⟨⟨s0, s1, s2, s3, s4, s5, s6, s7, s8, _⟩, ⟨t0, t1, t2, t3, t4, t5, t6, t7, t8, _⟩⟩ := hSw; go_simp; (try with_reducible rfl)
            (try simp only [Act.put, List.setIfInBounds_toArray, List.set_cons_zero, List.set_cons_succ, q1, q2])
            refine wpAnyH_take (i := 27) (oi := ({ dst := some 91, op := Op.pick (Operand.tmp 83) (Operand.tmp 90) (Operand.const (Value.bool false)), type := 4, pos := "laws.go:539", after := #[{ on := 19, ground := Ground.data }, { on := 26, ground := Ground.data }], guard := none } : Oper)) (v := ?_) rfl (by kernel_rfl) (by kernel_rfl) (by kernel_rfl) (fun _ _ _ h => h) (Or.inl ⟨by rfl, ?_⟩) hS ?_
            rotate_left
            · intro wq hSw; (try dsimp only at hSw); obtain ⟨⟨s0, s1, s2, s3, s4, s5, s6, s7, s8, _⟩, ⟨t0, t1, t2, t3, t4, t5, t6, t7, t8, _⟩⟩ := hSw; go_simp; (try with_reducible rfl)
            (try simp only [Act.put, List.setIfInBounds_toArray, List.set_cons_zero, List.set_cons_succ, q1, q2])
            refine wpAnyH_take (i := 28) (oi := ({ dst := some 2, op := Op.assign (Operand.tmp 91), type := 4, pos := "laws.go:539", after := #[{ on := 27, ground := Ground.data }, { on := 23, ground := Ground.chain }, { on := 0, ground := Ground.phase }, { on := 1, ground := Ground.phase }, { on := 2, ground := Ground.phase }, { on := 3, ground := Ground.phase }, { on := 4, ground := Ground.phase }, { on := 5, ground := Ground.phase }, { on := 6, ground := Ground.phase }, { on := 7, ground := Ground.phase }, { on := 8, ground := Ground.phase }, { on := 9, ground := Ground.phase }, { on := 10, ground := Ground.phase }, { on := 11, ground := Ground.phase }, { on := 12, ground := Ground.phase }, { on := 13, ground := Ground.phase }, { on := 14, ground := Ground.phase }, { on := 15, ground := Ground.phase }, { on := 16, ground := Ground.phase }, { on := 17, ground := Ground.phase }, { on := 18, ground := Ground.phase }, { on := 19, ground := Ground.phase }, { on := 20, ground := Ground.phase }, { on := 21, ground := Ground.phase }, { on := 22, ground := Ground.phase }, { on := 23, ground := Ground.phase }, { on := 24, ground := Ground.phase }, { on := 25, ground := Ground.phase }, { on := 26, ground := Ground.phase }, { on := 27, ground := Ground.phase }], guard := none } : Oper)) (v := ?_) rfl (by kernel_rfl) (by kernel_rfl) (by kernel_rfl) (fun _ _ _ h => h) (Or.inl ⟨by rfl, ?_⟩) hS ?_
            rotate_left
            · intro wq hSw; (try dsimp only at hSw); obtain ⟨⟨s0, s1, s2, s3, s4, s5, s6, s7, s8, _⟩, ⟨t0, t1, t2, t3, t4, t5, t6, t7, t8, _⟩⟩ := hSw; go_simp; (try with_reducible rfl)
            (try simp only [Act.put, List.setIfInBounds_toArray, List.set_cons_zero, List.set_cons_succ, q1, q2])
            refine wpAnyH_done (by kernel_rfl) ?_ _
            go_wp2_with fail
            go_ret
            exact ⟨rfl, hBF.out.trans (bF9.out.mono hBF.out.size)⟩
set_option maxRecDepth 100000 in
theorem lifted_FnRunUntil (os : Os) (started : os.Started) (H : Type) (enc : TypeId × Value → H) :
    ReturnsInHanded {} Try.checked os 3 .any (Rows.fnRunUntilSpec.pre6 enc Try.prog Try.f3 Rows.fnRunUntilRow.domain false) (Rows.fnRunUntilSpec.post enc Try.prog Try.f3 false true false false) := by
  refine returnsInHanded_of_change (C := Try.checked) own started (by kernel_rfl) Try.func3
    (ChangeSpec.witness6 (enc := enc) (C := Try.checked) false ⟨#[], #[.slice none 0 0], []⟩ 8 (by kernel_rfl) (by kernel_rfl) (by kernel_rfl) (by kernel_rfl)) ?_
  intro W base args ds gs before hval0 hW hcnd _
  have hval : ∀ (j : Nat) t v, Try.f3.params[j]? = some t → args[j]? = some v → Value.okWide Try.prog W .any base t v := hval0
  have hW' := hW
  obtain ⟨p, q, hA0, hV, rfl, hfz, hnd⟩ := hW
  have hA : DataW.TrodAll enc Try.prog W 0 (fun _ => true) true Try.f3.params.toList args.toList ds p := hA0
  rw [Try.params3] at hA hval
  obtain ⟨v0, vs0, d0, ds0, p0, q0, hargs, rfl, rfl, h0, r0⟩ := trodAll_cons hA
  obtain ⟨rfl, rfl, rfl⟩ := trodAll_nil r0
  obtain rfl : args = #[v0] := by cases args; simp_all
  obtain ⟨rfl, rfl⟩ := trodVars_none hV
  have lt0 : ∀ x ∈ p0, x.block < W.heap.size := by obtain ⟨m, hm⟩ := h0; exact DataW.trod_lt m _ _ _ hm
  have y0 := read_bytes (hval 0 22 v0 rfl rfl) h0
  clear hA0 hval0
  refine (walk_FnRunUntil v0 W y0).mono fun e W' ⟨he, bel⟩ => ?_
  subst he
  exact ⟨_, rfl, _, _, _, [], _, [], hW', trodAll_mk1 (shut_bool Try.underlying4 _), (trodAll_cons_mk (Below.trod laidOut (by kernel_rfl) (of_decide_eq_true (by kernel_rfl)) h0 bel lt0) trodAll_mk0), rfl, bel.frame _, fun h => by cases h⟩
theorem closed_FnRunUntil : joinedFacts Try.prog 3 Try.f3 Rows.fnRunUntilSpec Rows.fnRunUntilRow = true := by
  unfold joinedFacts
  rw [shared.1, shared.2.1, shared.2.2.1, shared.2.2.2]
  kernel_rfl
/-- The given statement of FnRunUntil. -/
theorem FnRunUntil_holds : Rows.FnRunUntilSaid :=
  OpenClaim.holds_of_wide 3 Try.f3 rfl rfl rfl rfl rfl rfl rfl ⟨rfl, rfl, rfl, rfl, rfl⟩ rfl rfl rfl rfl rfl (by kernel_rfl) Try.func3 closed_FnRunUntil
    (of_decide_eq_true (by kernel_rfl)) (by unfold Func.isWrapper; first | (rw [if_pos (by decide +kernel)]; kernel_rfl) | (rw [if_neg (by decide +kernel)]; exact ⟨rfl, rfl⟩))
    (fun os started H enc _ => lifted_FnRunUntil os started H enc)

end Go.Proofs.Ytlnpmanghkeieaa
end
