/- The walks of the functions that measure, copy, mark and hold machines for the laws, and of MachineValid. No condition. -/
import Derived.Test.YtlnpmanghkeieaaMach
import Derived.Test.YtlnpmanghkeieaaReadMem
namespace Go.Proofs.Ytlnpmanghkeieaa
open Go.RowKit
set_option linter.unusedVariables false

/-- A machine of the call's own. -/
def MadeMach (m : Mach) (w : World) (e : Ending) (w' : World) : Prop := ∃ v, e = .returned v ∧ OwnMach w.heap.size w'.heap.size w' v m ∧ Below w.heap.size w w'
/-- The cells of a machine in a block. -/
def Mc (W : World) (B : Nat) (x y z : Value) (m : Mach) : Prop :=
  (W.cell? ⟨B, 0, none⟩ = some x ∧ W.cell? ⟨B, 1, none⟩ = some y ∧ W.cell? ⟨B, 2, none⟩ = some (.int .i64 m.bank)) ∧ (W.cell? ⟨B, 3, none⟩ = some (.int .i64 m.a) ∧ W.cell? ⟨B, 4, none⟩ = some (.int .i64 m.pc) ∧ W.cell? ⟨B, 5, none⟩ = some (.bool m.carry)) ∧
    W.cell? ⟨B, 6, none⟩ = some z ∧ W.cell? ⟨B, 7, none⟩ = some (.bool m.stop) ∧ W.cell? ⟨B, 8, none⟩ = some (.int .i64 m.cyc)
/-- None of them is frozen. -/
def McF (W : World) (B : Nat) : Prop := ∀ i, i < 9 → W.frozen? ⟨B, i, none⟩ = false
section
variable {W w' : World} {B n : Nat} {x y z : Value} {m : Mach}
theorem Mc.lt (h : Mc W B x y z m) : B < W.heap.size := block_lt_of_cell h.1.1
theorem mc_be (hb : Below n W w') (h : Mc W B x y z m) (hB : B < n) : Mc w' B x y z m := by
  obtain ⟨⟨h0, h1, h2⟩, ⟨h3, h4, h5⟩, h6, h7, h8⟩ := h
  exact ⟨⟨cell_be hb h0 hB, cell_be hb h1 hB, cell_be hb h2 hB⟩, ⟨cell_be hb h3 hB, cell_be hb h4 hB, cell_be hb h5 hB⟩, cell_be hb h6 hB, cell_be hb h7 hB, cell_be hb h8 hB⟩
theorem mc_below (hb : Below W.heap.size W w') (h : Mc W B x y z m) : Mc w' B x y z m := mc_be hb h h.lt
theorem mc_alloc (o : Obj) (h : Mc W B x y z m) : Mc (W.alloc o) B x y z m := mc_below ((Below.refl _ _).alloc (Nat.le_refl _) o) h
theorem mc_drew (h : Mc W B x y z m) : Mc W.drew B x y z m := h
theorem mc_lit {b : Nat} {e : TypeId} (he : b = W.heap.size) : Mc (W.alloc (.cells #[x, y, .int .i64 m.bank, .int .i64 m.a, .int .i64 m.pc, .bool m.carry, z, .bool m.stop, .int .i64 m.cyc] e)) b x y z m := by
  subst he
  refine ⟨⟨?_, ?_, ?_⟩, ⟨?_, ?_, ?_⟩, ?_, ?_, ?_⟩ <;> simp [go_sem]
theorem mc_within {l h : Nat} (hw : Within l h W w') (t : Mc W B x y z m) (hd : B < l ∨ h ≤ B) : Mc w' B x y z m := by
  have lp := t.lt
  have k := fun o => World.cell?_of_block (w := W) (a := ⟨B, o, none⟩) (hw.block B lp hd)
  obtain ⟨⟨h0, h1, h2⟩, ⟨h3, h4, h5⟩, h6, h7, h8⟩ := t
  exact ⟨⟨(k 0).trans h0, (k 1).trans h1, (k 2).trans h2⟩, ⟨(k 3).trans h3, (k 4).trans h4, (k 5).trans h5⟩, (k 6).trans h6, (k 7).trans h7, (k 8).trans h8⟩
end
/-- Stores to another block. -/
theorem mc_sc {W : World} {B b i : Nat} {x y z v : Value} {m : Mach} (h : Mc W B x y z m) (hn : B ≠ b) : Mc (W.setCell ⟨b, i, none⟩ v) B x y z m := by
  have k : ∀ o, (W.setCell ⟨b, i, none⟩ v).cell? ⟨B, o, none⟩ = W.cell? ⟨B, o, none⟩ := fun o => World.cell?_setCell_other _ _ _ _ (by intro e; injection e with e1; exact hn e1.symm)
  obtain ⟨⟨h0, h1, h2⟩, ⟨h3, h4, h5⟩, h6, h7, h8⟩ := h
  exact ⟨⟨(k 0).trans h0, (k 1).trans h1, (k 2).trans h2⟩, ⟨(k 3).trans h3, (k 4).trans h4, (k 5).trans h5⟩, (k 6).trans h6, (k 7).trans h7, (k 8).trans h8⟩
def zeroM : Mach := ⟨[], [], 0, 0, 0, false, [], false, 0⟩
theorem mc_zero {W : World} {b : Nat} {e : TypeId} (he : b = W.heap.size) : Mc (W.alloc (.cells #[.slice none 0 0, .slice none 0 0, .int .i64 0, .int .i64 0, .int .i64 0, .bool false, .slice none 0 0, .bool false, .int .i64 0] e)) b (.slice none 0 0) (.slice none 0 0) (.slice none 0 0) zeroM := mc_lit (m := zeroM) he
/-- A machine, marked from k on. -/
def markM (k : Int) (m : Mach) : Mach := { m with ram := marks k m.ram.length, rom := markRows (k + m.ram.length) m.rom, back := marks (k + m.ram.length + sumLen m.rom) m.back.length }
theorem markedOwn_mach {lo hi : Nat} {w : World} {x y z : Value} {m : Mach} {k : Int} {mi : Nat} (h1 : lo ≤ mi) (h2 : mi ≤ hi) (g1 : MarkedOwn lo mi w (.agg #[x, y, .int .i64 m.bank]) k m.ram m.rom m.bank) (g2 : Own mi hi w z (marks (k + m.ram.length + sumLen m.rom) m.back.length)) :
    OwnMach lo hi w (.agg #[x, y, .int .i64 m.bank, .int .i64 m.a, .int .i64 m.pc, .bool m.carry, z, .bool m.stop, .int .i64 m.cyc]) (markM k m) := ⟨x, y, z, mi, rfl, h1, h2, g1, g2⟩
theorem markedM_below {w w' : World} {v : Value} {k : Int} {ram : List Int} {rom : List (List Int)} {bank : Int} (h : MarkedM w v k ram rom bank) (hb : Below w.heap.size w w') : MarkedM w' v k ram rom bank := MemV.below h hb
end Go.Proofs.Ytlnpmanghkeieaa
