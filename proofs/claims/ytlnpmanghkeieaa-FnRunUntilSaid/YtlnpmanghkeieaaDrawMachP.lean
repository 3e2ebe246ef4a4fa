/- Plain words for the drawn machines. No condition. -/
import Derived.Test.YtlnpmanghkeieaaDrawMems
import Derived.Test.YtlnpmanghkeieaaDrawByte
import Derived.Test.YtlnpmanghkeieaaMachIn
import Derived.Test.YtlnpmanghkeieaaBranch
import Derived.Test.YtlnpmanghkeieaaCellsN
namespace Go.Proofs.Ytlnpmanghkeieaa
open Go.RowKit
set_option linter.unusedVariables false

/-- While a machine is drawn: the memory of world w1 stands (blocks from L on below w1's size), the reader goes on, old things stay. -/
structure PI (rb B : Nat) (W0 : World) (L : Nat) (w1 W : World) : Prop where
  ag : Agree L w1.heap.size w1 W
  rd : Reader W rb B
  kp : Keep rb W0 W
  sz : w1.heap.size ≤ W.heap.size
  lr : rb < L
  l0 : W0.heap.size ≤ w1.heap.size
section
variable {rb B B' L : Nat} {W0 w1 W W' : World}
theorem PI.keep (h : PI rb B W0 L w1 W) (hK : Keep rb W W') (hR : Reader W' rb B') : PI rb B' W0 L w1 W' := by
  obtain ⟨ag, rd, kp, sz, lr, l0⟩ := h
  exact ⟨ag.trans (fun k h1 h2 => hK.block k (by omega) (by omega)), hR, kp.trans hK, Nat.le_trans sz hK.size, lr, l0⟩
theorem PI.alloc (h : PI rb B W0 L w1 W) (o : Obj) : PI rb B W0 L w1 (W.alloc o) := h.keep ((Keep.refl _ _).alloc o) (h.rd.alloc o)
theorem PI.drew (h : PI rb B W0 L w1 W) : PI rb B W0 L w1 W.drew := h.keep (Keep.refl _ _).drew h.rd.drewM
theorem PI.set (h : PI rb B W0 L w1 W) {n5 : Nat} (h1 : n5 < L ∨ w1.heap.size ≤ n5) (h2 : rb < n5) (h3 : W0.heap.size ≤ n5) (i : Nat) (v : Value) : PI rb B W0 L w1 (W.setCell ⟨n5, i, none⟩ v) := by
  obtain ⟨ag, rd, kp, sz, lr, l0⟩ := h
  exact ⟨ag.setCell h1 v, rd.setNew h2 v, kp.setNew h3 v, by rw [size_set]; exact sz, lr, l0⟩
theorem PI.mono (h : PI rb B W0 L w1 W) (hB : B ≤ B') : PI rb B' W0 L w1 W := ⟨h.ag, h.rd.mono hB, h.kp, h.sz, h.lr, h.l0⟩
theorem PI.below (h : PI rb B W0 L w1 W) (hb : Below W.heap.size W W') : PI rb B W0 L w1 W' := h.keep (Keep.ofBelow hb) (h.rd.below hb)
end
/-- Nine cells of block b, which may be written. -/
structure Nine (W : World) (b : Nat) (x0 x1 x2 x3 x4 x5 x6 x7 x8 : Value) : Prop where
  c0 : W.cell? ⟨b, 0, none⟩ = some x0
  c1 : W.cell? ⟨b, 1, none⟩ = some x1
  c2 : W.cell? ⟨b, 2, none⟩ = some x2
  c3 : W.cell? ⟨b, 3, none⟩ = some x3
  c4 : W.cell? ⟨b, 4, none⟩ = some x4
  c5 : W.cell? ⟨b, 5, none⟩ = some x5
  c6 : W.cell? ⟨b, 6, none⟩ = some x6
  c7 : W.cell? ⟨b, 7, none⟩ = some x7
  c8 : W.cell? ⟨b, 8, none⟩ = some x8
  fz : ∀ i, W.frozen? ⟨b, i, none⟩ = false
section
variable {W W' : World} {b rb : Nat} {x0 x1 x2 x3 x4 x5 x6 x7 x8 y0 y1 y2 y3 y4 y5 y6 y7 y8 : Value}
theorem Nine.lt (h : Nine W b x0 x1 x2 x3 x4 x5 x6 x7 x8) : b < W.heap.size := block_lt_of_cell h.c0
theorem nine_lit {e : TypeId} (he : b = W.heap.size) : Nine (W.alloc (.cells #[x0, x1, x2, x3, x4, x5, x6, x7, x8] e)) b x0 x1 x2 x3 x4 x5 x6 x7 x8 := by
  subst he
  constructor <;> simp [go_sem]
theorem Nine.keep (h : Nine W b x0 x1 x2 x3 x4 x5 x6 x7 x8) (hK : Keep rb W W') (hn : b ≠ rb) : Nine W' b x0 x1 x2 x3 x4 x5 x6 x7 x8 := by
  have l := h.lt
  have e : ∀ i, W'.cell? ⟨b, i, none⟩ = W.cell? ⟨b, i, none⟩ := fun i => hK.cells.1 _ _ l hn
  exact ⟨(e 0).trans h.c0, (e 1).trans h.c1, (e 2).trans h.c2, (e 3).trans h.c3, (e 4).trans h.c4, (e 5).trans h.c5, (e 6).trans h.c6, (e 7).trans h.c7, (e 8).trans h.c8, fun i => (hK.cells.2 _ _ l hn).trans (h.fz i)⟩
theorem Nine.alloc (h : Nine W b x0 x1 x2 x3 x4 x5 x6 x7 x8) (o : Obj) : Nine (W.alloc o) b x0 x1 x2 x3 x4 x5 x6 x7 x8 := by
  have l := h.lt
  have hb : Below W.heap.size W (W.alloc o) := (Below.refl _ _).alloc (Nat.le_refl _) o
  have e : ∀ i, (W.alloc o).cell? ⟨b, i, none⟩ = W.cell? ⟨b, i, none⟩ := fun i => hb.cell (p := ⟨b, i, none⟩) l
  exact ⟨(e 0).trans h.c0, (e 1).trans h.c1, (e 2).trans h.c2, (e 3).trans h.c3, (e 4).trans h.c4, (e 5).trans h.c5, (e 6).trans h.c6, (e 7).trans h.c7, (e 8).trans h.c8, fun i => (hb.frozen (p := ⟨b, i, none⟩) l).trans (h.fz i)⟩
theorem Nine.drew (h : Nine W b x0 x1 x2 x3 x4 x5 x6 x7 x8) : Nine W.drew b x0 x1 x2 x3 x4 x5 x6 x7 x8 := ⟨h.c0, h.c1, h.c2, h.c3, h.c4, h.c5, h.c6, h.c7, h.c8, h.fz⟩
theorem Nine.other (h : Nine W b x0 x1 x2 x3 x4 x5 x6 x7 x8) {q i : Nat} (hn : b ≠ q) (v : Value) : Nine (W.setCell ⟨q, i, none⟩ v) b x0 x1 x2 x3 x4 x5 x6 x7 x8 := by
  have e : ∀ o, (W.setCell ⟨q, i, none⟩ v).cell? ⟨b, o, none⟩ = W.cell? ⟨b, o, none⟩ := fun o => World.cell?_setCell_other _ _ _ _ (by intro e; injection e with e1; exact hn e1.symm)
  exact ⟨(e 0).trans h.c0, (e 1).trans h.c1, (e 2).trans h.c2, (e 3).trans h.c3, (e 4).trans h.c4, (e 5).trans h.c5, (e 6).trans h.c6, (e 7).trans h.c7, (e 8).trans h.c8, fun i => by have := h.fz i; simpa [go_sem] using this⟩
theorem cell_own {i j : Nat} {v u : Value} (h : W.cell? ⟨b, i, none⟩ = some u) (hn : i ≠ j) : (W.setCell ⟨b, j, none⟩ v).cell? ⟨b, i, none⟩ = some u :=
  (World.cell?_setCell_other _ _ _ _ (by intro e; injection e with _ e2; exact hn e2.symm)).trans h
theorem Nine.set0 (h : Nine W b x0 x1 x2 x3 x4 x5 x6 x7 x8) (v : Value) : Nine (W.setCell ⟨b, 0, none⟩ v) b v x1 x2 x3 x4 x5 x6 x7 x8 :=
  ⟨World.cell?_setCell_same _ _ _ h.c0, cell_own h.c1 (by decide), cell_own h.c2 (by decide), cell_own h.c3 (by decide), cell_own h.c4 (by decide), cell_own h.c5 (by decide), cell_own h.c6 (by decide), cell_own h.c7 (by decide), cell_own h.c8 (by decide), fun i => by have := h.fz i; simpa [go_sem] using this⟩
theorem Nine.set1 (h : Nine W b x0 x1 x2 x3 x4 x5 x6 x7 x8) (v : Value) : Nine (W.setCell ⟨b, 1, none⟩ v) b x0 v x2 x3 x4 x5 x6 x7 x8 :=
  ⟨cell_own h.c0 (by decide), World.cell?_setCell_same _ _ _ h.c1, cell_own h.c2 (by decide), cell_own h.c3 (by decide), cell_own h.c4 (by decide), cell_own h.c5 (by decide), cell_own h.c6 (by decide), cell_own h.c7 (by decide), cell_own h.c8 (by decide), fun i => by have := h.fz i; simpa [go_sem] using this⟩
theorem Nine.set2 (h : Nine W b x0 x1 x2 x3 x4 x5 x6 x7 x8) (v : Value) : Nine (W.setCell ⟨b, 2, none⟩ v) b x0 x1 v x3 x4 x5 x6 x7 x8 :=
  ⟨cell_own h.c0 (by decide), cell_own h.c1 (by decide), World.cell?_setCell_same _ _ _ h.c2, cell_own h.c3 (by decide), cell_own h.c4 (by decide), cell_own h.c5 (by decide), cell_own h.c6 (by decide), cell_own h.c7 (by decide), cell_own h.c8 (by decide), fun i => by have := h.fz i; simpa [go_sem] using this⟩
theorem Nine.set3 (h : Nine W b x0 x1 x2 x3 x4 x5 x6 x7 x8) (v : Value) : Nine (W.setCell ⟨b, 3, none⟩ v) b x0 x1 x2 v x4 x5 x6 x7 x8 :=
  ⟨cell_own h.c0 (by decide), cell_own h.c1 (by decide), cell_own h.c2 (by decide), World.cell?_setCell_same _ _ _ h.c3, cell_own h.c4 (by decide), cell_own h.c5 (by decide), cell_own h.c6 (by decide), cell_own h.c7 (by decide), cell_own h.c8 (by decide), fun i => by have := h.fz i; simpa [go_sem] using this⟩
theorem Nine.set4 (h : Nine W b x0 x1 x2 x3 x4 x5 x6 x7 x8) (v : Value) : Nine (W.setCell ⟨b, 4, none⟩ v) b x0 x1 x2 x3 v x5 x6 x7 x8 :=
  ⟨cell_own h.c0 (by decide), cell_own h.c1 (by decide), cell_own h.c2 (by decide), cell_own h.c3 (by decide), World.cell?_setCell_same _ _ _ h.c4, cell_own h.c5 (by decide), cell_own h.c6 (by decide), cell_own h.c7 (by decide), cell_own h.c8 (by decide), fun i => by have := h.fz i; simpa [go_sem] using this⟩
theorem Nine.set5 (h : Nine W b x0 x1 x2 x3 x4 x5 x6 x7 x8) (v : Value) : Nine (W.setCell ⟨b, 5, none⟩ v) b x0 x1 x2 x3 x4 v x6 x7 x8 :=
  ⟨cell_own h.c0 (by decide), cell_own h.c1 (by decide), cell_own h.c2 (by decide), cell_own h.c3 (by decide), cell_own h.c4 (by decide), World.cell?_setCell_same _ _ _ h.c5, cell_own h.c6 (by decide), cell_own h.c7 (by decide), cell_own h.c8 (by decide), fun i => by have := h.fz i; simpa [go_sem] using this⟩
theorem Nine.set6 (h : Nine W b x0 x1 x2 x3 x4 x5 x6 x7 x8) (v : Value) : Nine (W.setCell ⟨b, 6, none⟩ v) b x0 x1 x2 x3 x4 x5 v x7 x8 :=
  ⟨cell_own h.c0 (by decide), cell_own h.c1 (by decide), cell_own h.c2 (by decide), cell_own h.c3 (by decide), cell_own h.c4 (by decide), cell_own h.c5 (by decide), World.cell?_setCell_same _ _ _ h.c6, cell_own h.c7 (by decide), cell_own h.c8 (by decide), fun i => by have := h.fz i; simpa [go_sem] using this⟩
theorem Nine.set7 (h : Nine W b x0 x1 x2 x3 x4 x5 x6 x7 x8) (v : Value) : Nine (W.setCell ⟨b, 7, none⟩ v) b x0 x1 x2 x3 x4 x5 x6 v x8 :=
  ⟨cell_own h.c0 (by decide), cell_own h.c1 (by decide), cell_own h.c2 (by decide), cell_own h.c3 (by decide), cell_own h.c4 (by decide), cell_own h.c5 (by decide), cell_own h.c6 (by decide), World.cell?_setCell_same _ _ _ h.c7, cell_own h.c8 (by decide), fun i => by have := h.fz i; simpa [go_sem] using this⟩
theorem Nine.set8 (h : Nine W b x0 x1 x2 x3 x4 x5 x6 x7 x8) (v : Value) : Nine (W.setCell ⟨b, 8, none⟩ v) b x0 x1 x2 x3 x4 x5 x6 x7 v :=
  ⟨cell_own h.c0 (by decide), cell_own h.c1 (by decide), cell_own h.c2 (by decide), cell_own h.c3 (by decide), cell_own h.c4 (by decide), cell_own h.c5 (by decide), cell_own h.c6 (by decide), cell_own h.c7 (by decide), World.cell?_setCell_same _ _ _ h.c8, fun i => by have := h.fz i; simpa [go_sem] using this⟩
theorem nine_set9 (h : Nine W b x0 x1 x2 x3 x4 x5 x6 x7 x8) : Nine (((((((((W.setCell ⟨b, 0, none⟩ y0).setCell ⟨b, 1, none⟩ y1).setCell ⟨b, 2, none⟩ y2).setCell ⟨b, 3, none⟩ y3).setCell ⟨b, 4, none⟩ y4).setCell ⟨b, 5, none⟩ y5).setCell ⟨b, 6, none⟩ y6).setCell ⟨b, 7, none⟩ y7).setCell ⟨b, 8, none⟩ y8) b y0 y1 y2 y3 y4 y5 y6 y7 y8 :=
  ((((((((h.set0 y0).set1 y1).set2 y2).set3 y3).set4 y4).set5 y5).set6 y6).set7 y7).set8 y8
end
theorem PI.set9 {rb B L : Nat} {W0 w1 W : World} {n5 : Nat} {y0 y1 y2 y3 y4 y5 y6 y7 y8 : Value} (h : PI rb B W0 L w1 W) (h1 : n5 < L ∨ w1.heap.size ≤ n5) (h2 : rb < n5) (h3 : W0.heap.size ≤ n5) :
    PI rb B W0 L w1 (((((((((W.setCell ⟨n5, 0, none⟩ y0).setCell ⟨n5, 1, none⟩ y1).setCell ⟨n5, 2, none⟩ y2).setCell ⟨n5, 3, none⟩ y3).setCell ⟨n5, 4, none⟩ y4).setCell ⟨n5, 5, none⟩ y5).setCell ⟨n5, 6, none⟩ y6).setCell ⟨n5, 7, none⟩ y7).setCell ⟨n5, 8, none⟩ y8) :=
  ((((((((h.set h1 h2 h3 0 y0).set h1 h2 h3 1 y1).set h1 h2 h3 2 y2).set h1 h2 h3 3 y3).set h1 h2 h3 4 y4).set h1 h2 h3 5 y5).set h1 h2 h3 6 y6).set h1 h2 h3 7 y7).set h1 h2 h3 8 y8
/-- A machine's value that stays while the blocks from L on stay. -/
def MachA (L : Nat) (w : World) (v : Value) (m : Mach) : Prop := ∀ W, Agree L w.heap.size w W → MachV W v m
theorem MachA.mach {L : Nat} {w : World} {v : Value} {m : Mach} (h : MachA L w v m) : MachV w v m := h w (Agree.refl _ _ _)
theorem MachA.to {L : Nat} {w W : World} {v : Value} {m : Mach} (h : MachA L w v m) (g : Agree L w.heap.size w W) (hs : w.heap.size ≤ W.heap.size) : MachA L W v m := fun X k => h X (g.trans (k.sub (Nat.le_refl _) hs))
theorem MachA.keep {L rb : Nat} {w W : World} {v : Value} {m : Mach} (h : MachA L w v m) (hK : Keep rb w W) (hr : rb < L) : MachA L W v m := h.to (fun k h1 h2 => hK.block k h2 (by omega)) hK.size
theorem MachA.set {L : Nat} {w : World} {v : Value} {m : Mach} (h : MachA L w v m) {p : Addr} (hp : p.block < L) (x : Value) : MachA L (w.setCell p x) v m :=
  h.to ((Agree.refl _ _ _).setCell (.inl hp) x) (by rw [size_set]; exact Nat.le_refl _)
theorem MachA.alloc {L : Nat} {w : World} {v : Value} {m : Mach} (h : MachA L w v m) (o : Obj) : MachA L (w.alloc o) v m := h.to ((Agree.refl _ _ _).alloc (Nat.le_refl _) o) (by simp)
theorem MachA.drew {L : Nat} {w : World} {v : Value} {m : Mach} (h : MachA L w v m) : MachA L w.drew v m := h.to (Agree.refl _ _ _).drew (Nat.le_refl _)
/-- What is drawn. -/
def PicksMach (rb B : Nat) (w : World) (e : Ending) (w' : World) : Prop := ∃ v m, e = .returned v ∧ MachA w.heap.size w' v m ∧ (m.ram.length ≤ 256 ∧ m.cyc ≤ 1000) ∧ Reader w' rb (B + 1200) ∧ Keep rb w w'
end Go.Proofs.Ytlnpmanghkeieaa
