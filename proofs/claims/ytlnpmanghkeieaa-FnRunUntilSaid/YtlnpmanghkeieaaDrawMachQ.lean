/- Plain words for the second half of the drawn machines. No condition. -/
import Derived.Test.YtlnpmanghkeieaaDrawMachP
import Derived.Test.YtlnpmanghkeieaaDrawMem
namespace Go.Proofs.Ytlnpmanghkeieaa
open Go.RowKit
set_option linter.unusedVariables false

theorem PI.grown {rb B L base : Nat} {W0 w1 W W' : World} {r : Option Nat} (h : PI rb B W0 L w1 W) (hg : W.grownBy W' r) (hr : ∀ k, r = some k → base ≤ k) (h1 : w1.heap.size ≤ base) (h2 : rb < base) : PI rb B W0 L w1 W' := by
  obtain ⟨ag, rd, kp, sz, lr, l0⟩ := h
  exact ⟨ag.trans (fun k k1 k2 => hg.block k (by omega) (fun e => by have := hr k e.symm; omega)), rd.grown hg hr h2, kp.grown hg (fun k e => by have := hr k e; omega), Nat.le_trans sz hg.size, lr, l0⟩
theorem Nine.grown {W W' : World} {b base : Nat} {r : Option Nat} {x0 x1 x2 x3 x4 x5 x6 x7 x8 : Value} (h : Nine W b x0 x1 x2 x3 x4 x5 x6 x7 x8) (hg : W.grownBy W' r) (hr : ∀ k, r = some k → base ≤ k) (hb : b < base) : Nine W' b x0 x1 x2 x3 x4 x5 x6 x7 x8 := by
  have l := h.lt
  have hk := hg.block b l (fun e => by have := hr b e.symm; omega)
  have e : ∀ i, W'.cell? ⟨b, i, none⟩ = W.cell? ⟨b, i, none⟩ := fun i => World.cell?_of_block (a := ⟨b, i, none⟩) hk
  exact ⟨(e 0).trans h.c0, (e 1).trans h.c1, (e 2).trans h.c2, (e 3).trans h.c3, (e 4).trans h.c4, (e 5).trans h.c5, (e 6).trans h.c6, (e 7).trans h.c7, (e 8).trans h.c8, fun i => (World.frozen?_of_block (a := ⟨b, i, none⟩) hk).trans (h.fz i)⟩
/-- A machine that is being drawn: its box is block n5, its return addresses are the call's own, in blocks from base on. -/
structure RunD (rb B : Nat) (W0 : World) (L : Nat) (w1 : World) (base n5 : Nat) (x y : Value) (bank a pc : Int) (carry : Bool) (xs : List Int) (stop : Bool) (cyc : Int) (z : Value) (W : World) : Prop where
  pi : PI rb B W0 L w1 W
  nine : Nine W n5 x y (.int .i64 bank) (.int .i64 a) (.int .i64 pc) (.bool carry) z (.bool stop) (.int .i64 cyc)
  own : OwnV W base 3 z (xs.map (.int .i64))
  b1 : w1.heap.size ≤ base
  b2 : n5 < base
  b3 : rb < base
  b4 : L ≤ base
  b5 : base ≤ W.heap.size
  l5 : n5 < L ∨ w1.heap.size ≤ n5
  r5 : rb < n5
  w5 : W0.heap.size ≤ n5
  cb : cyc ≤ 1000
section
variable {rb B B' L base n5 : Nat} {W0 w1 W W' : World} {x y z : Value} {bank a pc cyc : Int} {carry stop : Bool} {xs : List Int}
theorem RunD.keep (h : RunD rb B W0 L w1 base n5 x y bank a pc carry xs stop cyc z W) (hK : Keep rb W W') (hR : Reader W' rb B') : RunD rb B' W0 L w1 base n5 x y bank a pc carry xs stop cyc z W' := by
  obtain ⟨p, n, o, b1, b2, b3, b4, b5, l5, r5, w5, cb⟩ := h
  exact ⟨p.keep hK hR, n.keep hK (by omega), o.of (fun g hg => by have := o.lt g hg; exact hK.block g this.2 (by omega)), b1, b2, b3, b4, Nat.le_trans b5 hK.size, l5, r5, w5, cb⟩
theorem RunD.mono (h : RunD rb B W0 L w1 base n5 x y bank a pc carry xs stop cyc z W) (hB : B ≤ B') : RunD rb B' W0 L w1 base n5 x y bank a pc carry xs stop cyc z W := by
  obtain ⟨p, n, o, b1, b2, b3, b4, b5, l5, r5, w5, cb⟩ := h
  exact ⟨p.mono hB, n, o, b1, b2, b3, b4, b5, l5, r5, w5, cb⟩
theorem RunD.alloc (h : RunD rb B W0 L w1 base n5 x y bank a pc carry xs stop cyc z W) (o : Obj) : RunD rb B W0 L w1 base n5 x y bank a pc carry xs stop cyc z (W.alloc o) := h.keep ((Keep.refl _ _).alloc o) (h.pi.rd.alloc o)
theorem RunD.drew (h : RunD rb B W0 L w1 base n5 x y bank a pc carry xs stop cyc z W) : RunD rb B W0 L w1 base n5 x y bank a pc carry xs stop cyc z W.drew := h.keep (Keep.refl _ _).drew h.pi.rd.drewM
theorem RunD.own_set (h : RunD rb B W0 L w1 base n5 x y bank a pc carry xs stop cyc z W) (i : Nat) (v : Value) : OwnV (W.setCell ⟨n5, i, none⟩ v) base 3 z (xs.map (.int .i64)) :=
  h.own.of (fun g hg => by have := h.own.lt g hg; have := h.b2; exact Below.heap_setCell _ _ _ _ (by show g ≠ n5; omega))
theorem RunD.setA (h : RunD rb B W0 L w1 base n5 x y bank a pc carry xs stop cyc z W) (k : Int) : RunD rb B W0 L w1 base n5 x y bank k pc carry xs stop cyc z (W.setCell ⟨n5, 3, none⟩ (.int .i64 k)) :=
  ⟨h.pi.set h.l5 h.r5 h.w5 _ _, h.nine.set3 _, h.own_set _ _, h.b1, h.b2, h.b3, h.b4, by rw [size_set]; exact h.b5, h.l5, h.r5, h.w5, h.cb⟩
theorem RunD.setPc (h : RunD rb B W0 L w1 base n5 x y bank a pc carry xs stop cyc z W) (k : Int) : RunD rb B W0 L w1 base n5 x y bank a k carry xs stop cyc z (W.setCell ⟨n5, 4, none⟩ (.int .i64 k)) :=
  ⟨h.pi.set h.l5 h.r5 h.w5 _ _, h.nine.set4 _, h.own_set _ _, h.b1, h.b2, h.b3, h.b4, by rw [size_set]; exact h.b5, h.l5, h.r5, h.w5, h.cb⟩
theorem RunD.setStop (h : RunD rb B W0 L w1 base n5 x y bank a pc carry xs stop cyc z W) (k : Bool) : RunD rb B W0 L w1 base n5 x y bank a pc carry xs k cyc z (W.setCell ⟨n5, 7, none⟩ (.bool k)) :=
  ⟨h.pi.set h.l5 h.r5 h.w5 _ _, h.nine.set7 _, h.own_set _ _, h.b1, h.b2, h.b3, h.b4, by rw [size_set]; exact h.b5, h.l5, h.r5, h.w5, h.cb⟩
theorem RunD.setCyc (h : RunD rb B W0 L w1 base n5 x y bank a pc carry xs stop cyc z W) (k : Int) (hk : k ≤ 1000) : RunD rb B W0 L w1 base n5 x y bank a pc carry xs stop k z (W.setCell ⟨n5, 8, none⟩ (.int .i64 k)) :=
  ⟨h.pi.set h.l5 h.r5 h.w5 _ _, h.nine.set8 _, h.own_set _ _, h.b1, h.b2, h.b3, h.b4, by rw [size_set]; exact h.b5, h.l5, h.r5, h.w5, hk⟩
theorem RunD.setBack (h : RunD rb B W0 L w1 base n5 x y bank a pc carry xs stop cyc z W) {z' : Value} {ys : List Int} (o : OwnV W base 3 z' (ys.map (.int .i64))) : RunD rb B W0 L w1 base n5 x y bank a pc carry ys stop cyc z' (W.setCell ⟨n5, 6, none⟩ z') :=
  ⟨h.pi.set h.l5 h.r5 h.w5 _ _, h.nine.set6 _, o.of (fun g hg => by have := o.lt g hg; have := h.b2; exact Below.heap_setCell _ _ _ _ (by show g ≠ n5; omega)), h.b1, h.b2, h.b3, h.b4, by rw [size_set]; exact h.b5, h.l5, h.r5, h.w5, h.cb⟩
/-- Behind an append onto the return addresses, which is stored. -/
theorem RunD.push (h : RunD rb B W0 L w1 base n5 x y bank a pc carry xs stop cyc z W) {z' : Value} {ys : List Int} (hg : W.grownBy W' z.ownBlock) (o : OwnV W' base 3 z' (ys.map (.int .i64))) :
    RunD rb B W0 L w1 base n5 x y bank a pc carry ys stop cyc z' (W'.setCell ⟨n5, 6, none⟩ z') := by
  have hr : ∀ k, z.ownBlock = some k → base ≤ k := fun k e => (h.own.lt k e).1
  refine ⟨(h.pi.grown hg hr h.b1 h.b3).set h.l5 h.r5 h.w5 _ _, (h.nine.grown hg hr h.b2).set6 _, ?_, h.b1, h.b2, h.b3, h.b4, by rw [size_set]; exact Nat.le_trans h.b5 hg.size, h.l5, h.r5, h.w5, h.cb⟩
  exact o.of (fun g hgg => by have := o.lt g hgg; have := h.b2; exact Below.heap_setCell _ _ _ _ (by show g ≠ n5; omega))
theorem RunD.thru (h : RunD rb B W0 L w1 base n5 x y bank a pc carry xs stop cyc z W) (hg : W.grownBy W' z.ownBlock) : Nine W' n5 x y (.int .i64 bank) (.int .i64 a) (.int .i64 pc) (.bool carry) z (.bool stop) (.int .i64 cyc) :=
  h.nine.grown hg (fun k e => (h.own.lt k e).1) h.b2
theorem RunD.pushE (h : RunD rb B W0 L w1 base n5 x y bank a pc carry xs stop cyc z W) {z' : Value} {e : Int} (hg : W.grownBy W' z.ownBlock) (o : OwnV W' base 3 z' ((xs ++ [e]).map (.int .i64))) :
    ∃ ys : List Int, ys.length = xs.length + 1 ∧ RunD rb B W0 L w1 base n5 x y bank a pc carry ys stop cyc z' (W'.setCell ⟨n5, 6, none⟩ z') := ⟨_, by simp, h.push hg o⟩
/-- The result's box stands as it was laid. -/
theorem RunD.box {R : Nat} {x0 x1 x2 x3 x4 x5 x6 x7 x8 : Value} (h : RunD rb B W0 L w1 base n5 x y bank a pc carry xs stop cyc z W) (n : Nine W0 R x0 x1 x2 x3 x4 x5 x6 x7 x8) (hR : R ≠ rb) : Nine W R x0 x1 x2 x3 x4 x5 x6 x7 x8 := n.keep h.pi.kp hR
/-- What is drawn, in the end. -/
theorem RunD.done {w : World} {ram : List Int} {rom : List (List Int)} (h : RunD rb B W0 L w1 base n5 x y bank a pc carry xs stop cyc z W) (hm : MemA L w1 (.agg #[x, y, .int .i64 bank]) ram rom bank) {R : Nat} (hR : R < L) (hw : w.heap.size ≤ R) (hrR : rb < R) (K0 : Keep rb w W0) (y0 y1 y2 y3 y4 y5 y6 y7 y8 : Value) :
    MachA w.heap.size (((((((((W.setCell ⟨R, 0, none⟩ y0).setCell ⟨R, 1, none⟩ y1).setCell ⟨R, 2, none⟩ y2).setCell ⟨R, 3, none⟩ y3).setCell ⟨R, 4, none⟩ y4).setCell ⟨R, 5, none⟩ y5).setCell ⟨R, 6, none⟩ y6).setCell ⟨R, 7, none⟩ y7).setCell ⟨R, 8, none⟩ y8) (.agg #[x, y, .int .i64 bank, .int .i64 a, .int .i64 pc, .bool carry, z, .bool stop, .int .i64 cyc]) ⟨ram, rom, bank, a, pc, carry, xs, stop, cyc⟩ ∧
    Reader (((((((((W.setCell ⟨R, 0, none⟩ y0).setCell ⟨R, 1, none⟩ y1).setCell ⟨R, 2, none⟩ y2).setCell ⟨R, 3, none⟩ y3).setCell ⟨R, 4, none⟩ y4).setCell ⟨R, 5, none⟩ y5).setCell ⟨R, 6, none⟩ y6).setCell ⟨R, 7, none⟩ y7).setCell ⟨R, 8, none⟩ y8) rb B ∧
    Keep rb w (((((((((W.setCell ⟨R, 0, none⟩ y0).setCell ⟨R, 1, none⟩ y1).setCell ⟨R, 2, none⟩ y2).setCell ⟨R, 3, none⟩ y3).setCell ⟨R, 4, none⟩ y4).setCell ⟨R, 5, none⟩ y5).setCell ⟨R, 6, none⟩ y6).setCell ⟨R, 7, none⟩ y7).setCell ⟨R, 8, none⟩ y8) := by
  have lr := h.pi.lr
  have hb1 := h.b1
  have h1 : MachA L W (.agg #[x, y, .int .i64 bank, .int .i64 a, .int .i64 pc, .bool carry, z, .bool stop, .int .i64 cyc]) ⟨ram, rom, bank, a, pc, carry, xs, stop, cyc⟩ := by
    intro X g
    have g1 : Agree L w1.heap.size w1 X := h.pi.ag.trans (g.sub (Nat.le_refl _) h.pi.sz)
    obtain ⟨q0, q1, e, i1, i2⟩ := hm X g1
    injection e with e
    simp only [Array.mk.injEq, List.cons.injEq, and_true] at e
    obtain ⟨rfl, rfl⟩ := e
    refine ⟨_, _, _, rfl, i1, i2, ?_⟩
    have o := h.own.own
    exact (o.agree (g.sub h.b4 (Nat.le_refl _))).ints
  have h2 := ((((((((h1.set (p := ⟨R, 0, none⟩) hR y0).set (p := ⟨R, 1, none⟩) hR y1).set (p := ⟨R, 2, none⟩) hR y2).set (p := ⟨R, 3, none⟩) hR y3).set (p := ⟨R, 4, none⟩) hR y4).set (p := ⟨R, 5, none⟩) hR y5).set (p := ⟨R, 6, none⟩) hR y6).set (p := ⟨R, 7, none⟩) hR y7).set (p := ⟨R, 8, none⟩) hR y8
  refine ⟨fun X g => h2 X (g.sub (by omega) (Nat.le_refl _)), ?_, ?_⟩
  · exact ((((((((h.pi.rd.setNew (p := ⟨R, 0, none⟩) hrR y0).setNew (p := ⟨R, 1, none⟩) hrR y1).setNew (p := ⟨R, 2, none⟩) hrR y2).setNew (p := ⟨R, 3, none⟩) hrR y3).setNew (p := ⟨R, 4, none⟩) hrR y4).setNew (p := ⟨R, 5, none⟩) hrR y5).setNew (p := ⟨R, 6, none⟩) hrR y6).setNew (p := ⟨R, 7, none⟩) hrR y7).setNew (p := ⟨R, 8, none⟩) hrR y8
  · exact (((((((((K0.trans h.pi.kp).setNew (p := ⟨R, 0, none⟩) hw y0).setNew (p := ⟨R, 1, none⟩) hw y1).setNew (p := ⟨R, 2, none⟩) hw y2).setNew (p := ⟨R, 3, none⟩) hw y3).setNew (p := ⟨R, 4, none⟩) hw y4).setNew (p := ⟨R, 5, none⟩) hw y5).setNew (p := ⟨R, 6, none⟩) hw y6).setNew (p := ⟨R, 7, none⟩) hw y7).setNew (p := ⟨R, 8, none⟩) hw y8
end
/-- An empty machine's box that is not the reader's block. -/
def Zero9 (rb : Nat) (W : World) (b : Nat) : Prop := Nine W b (.slice none 0 0) (.slice none 0 0) (.int .i64 0) (.int .i64 0) (.int .i64 0) (.bool false) (.slice none 0 0) (.bool false) (.int .i64 0) ∧ b ≠ rb
theorem Zero9.keep {rb b : Nat} {W W' : World} (h : Zero9 rb W b) (hK : Keep rb W W') : Zero9 rb W' b := ⟨h.1.keep hK h.2, h.2⟩
theorem Zero9.alloc {rb b : Nat} {W : World} (h : Zero9 rb W b) (o : Obj) : Zero9 rb (W.alloc o) b := ⟨h.1.alloc o, h.2⟩
theorem Zero9.new {rb : Nat} {W : World} {e : TypeId} (h : rb < W.heap.size) : Zero9 rb (W.alloc (.cells #[.slice none 0 0, .slice none 0 0, .int .i64 0, .int .i64 0, .int .i64 0, .bool false, .slice none 0 0, .bool false, .int .i64 0] e)) W.heap.size := ⟨nine_lit rfl, by omega⟩
end Go.Proofs.Ytlnpmanghkeieaa
