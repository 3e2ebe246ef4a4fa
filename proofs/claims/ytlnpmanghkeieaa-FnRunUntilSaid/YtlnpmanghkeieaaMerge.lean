/- Words for a drawn region that is walked set by set (operations done), not order by order. No condition. -/
import Derived.Test.YtlnpmanghkeieaaDrawMemP
import Derived.Deep.RegionWith
import Derived.Deep.DrawnRows
import Derived.Lib.Hide
namespace Go.Proofs.Ytlnpmanghkeieaa
open Go.RowKit
set_option linter.unusedVariables false

section
variable {P : Program} {md : Region.Mode} {ops : Array Oper} {Q : Exit → Act → World → Prop} {fuel : Nat} {listed : Array Bool} {a : Act} {w : World}
/-- What holds behind a set of operations is shown once, ahead of the ways that lead there. -/
theorem wpAny_pre (fuel' : Nat) (listed' : Array Bool) (I : Act → World → Prop) (H : ∀ a w, I a w → wpAny P md ops Q fuel' listed' a w) (h : Hid (∀ a w, I a w → wpAny P md ops Q fuel' listed' a w) → wpAny P md ops Q fuel listed a w) : wpAny P md ops Q fuel listed a w := h (Lib.hid H)
theorem wpAny_to {fuel' : Nat} {listed' : Array Bool} (hf : fuel = fuel') (hl : listed = listed') (h : wpAny P md ops Q fuel' listed' a w) : wpAny P md ops Q fuel listed a w := by subst hf hl; exact h
theorem name_act (h : ∀ A, A = a → wpAny P md ops Q fuel listed A w) : wpAny P md ops Q fuel listed a w := h a rfl
end
/-- Since world W0 only the reader went on, and new blocks came. -/
structure MF (rb : Nat) (W0 : World) (B : Nat) (W : World) : Prop where
  keep : Keep rb W0 W
  rd : Reader W rb B
theorem MF.call {rb B B' : Nat} {W0 W W' : World} (h : MF rb W0 B W) (hK : Keep rb W W') (hR : Reader W' rb B') : MF rb W0 B' W' := ⟨h.keep.trans hK, hR⟩
theorem MF.alloc {rb B : Nat} {W0 W : World} (h : MF rb W0 B W) (o : Obj) : MF rb W0 B (W.alloc o) := ⟨h.keep.alloc o, h.rd.alloc o⟩
theorem MF.lt {rb B : Nat} {W0 W : World} (h : MF rb W0 B W) : rb < W.heap.size := h.rd.lt
/-- A literal of integers in block b. -/
def LitI (rb n : Nat) (W : World) (b : Nat) : Prop := b ≠ rb ∧ b < W.heap.size ∧ ∀ k, k < n → ∃ m : Int, W.cell? ⟨b, k, none⟩ = some (.int .i64 m)
/-- .. of natural numbers below q. -/
def LitR (rb n q : Nat) (W : World) (b : Nat) : Prop := b ≠ rb ∧ b < W.heap.size ∧ ∀ k, k < n → ∃ m : Nat, m < q ∧ W.cell? ⟨b, k, none⟩ = some (.int .i64 (m : Int))
section
variable {rb n q b : Nat} {W W' : World}
theorem LitI.keep (h : LitI rb n W b) (hK : Keep rb W W') : LitI rb n W' b := by
  obtain ⟨h1, h2, h3⟩ := h
  refine ⟨h1, Nat.lt_of_lt_of_le h2 hK.size, fun k hk => ?_⟩
  obtain ⟨m, hm⟩ := h3 k hk
  exact ⟨m, (hK.cells.1 _ _ h2 h1).trans hm⟩
theorem LitR.keep (h : LitR rb n q W b) (hK : Keep rb W W') : LitR rb n q W' b := by
  obtain ⟨h1, h2, h3⟩ := h
  refine ⟨h1, Nat.lt_of_lt_of_le h2 hK.size, fun k hk => ?_⟩
  obtain ⟨m, hm, hc⟩ := h3 k hk
  exact ⟨m, hm, (hK.cells.1 _ _ h2 h1).trans hc⟩
theorem LitI.alloc (h : LitI rb n W b) (o : Obj) : LitI rb n (W.alloc o) b := h.keep ((Keep.refl _ _).alloc o)
theorem LitR.alloc (h : LitR rb n q W b) (o : Obj) : LitR rb n q (W.alloc o) b := h.keep ((Keep.refl _ _).alloc o)
theorem LitI.set (h : LitI rb n W b) {p : Addr} (hp : p.block ≠ b) (v : Value) : LitI rb n (W.setCell p v) b := by
  obtain ⟨h1, h2, h3⟩ := h
  refine ⟨h1, by rw [size_set]; exact h2, fun k hk => ?_⟩
  obtain ⟨m, hm⟩ := h3 k hk
  exact ⟨m, (World.cell?_setCell_other _ _ _ _ (by intro e; rw [e] at hp; exact hp rfl)).trans hm⟩
theorem LitR.set (h : LitR rb n q W b) {p : Addr} (hp : p.block ≠ b) (v : Value) : LitR rb n q (W.setCell p v) b := by
  obtain ⟨h1, h2, h3⟩ := h
  refine ⟨h1, by rw [size_set]; exact h2, fun k hk => ?_⟩
  obtain ⟨m, hm, hc⟩ := h3 k hk
  exact ⟨m, hm, (World.cell?_setCell_other _ _ _ _ (by intro e; rw [e] at hp; exact hp rfl)).trans hc⟩
theorem LitI.new {cs : Array Value} {t : TypeId} (h : cs.toList.all isI64 = true) (hn : n = cs.size) (hr : rb < W.heap.size) : LitI rb n (W.alloc (.cells cs t)) W.heap.size := by
  refine ⟨by omega, by simp, fun k hk => ?_⟩
  obtain ⟨m, hm⟩ := ints_at h (k := k) (by omega)
  exact ⟨m, by rw [World.cell?_alloc_new]; exact hm⟩
theorem LitR.new {cs : Array Value} {t : TypeId} (h : ∀ k, k < n → ∃ m : Nat, m < q ∧ cs[k]? = some (.int .i64 (m : Int))) (hr : rb < W.heap.size) : LitR rb n q (W.alloc (.cells cs t)) W.heap.size := by
  refine ⟨by omega, by simp, fun k hk => ?_⟩
  obtain ⟨m, hm, hc⟩ := h k hk
  exact ⟨m, hm, by rw [World.cell?_alloc_new]; exact hc⟩
end
end Go.Proofs.Ytlnpmanghkeieaa
