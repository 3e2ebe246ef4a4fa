/- The first part of the walk of impl.execute: what an instruction makes of a machine in place. No condition. -/
import Derived.Test.YtlnpmanghkeieaaBranch
import Derived.Test.YtlnpmanghkeieaaPeek
namespace Go.Proofs.Ytlnpmanghkeieaa
open Go.RowKit
set_option linter.unusedVariables false

section
variable {m : Mach} {arg op : Int}
theorem exec_1 : m.exec 1 arg = { m with a := arg } := by simp [Mach.exec]
theorem exec_2 : m.exec 2 arg = { m with a := m.peek arg } := by simp [Mach.exec]
theorem exec_3 : m.exec 3 arg = { m with ram := pokeR m.ram arg m.a, bank := pokeB m.rom m.bank arg m.a } := by simp [Mach.exec]
theorem exec_4 : m.exec 4 arg = { { m with a := add1 m.a (m.peek arg) m.carry } with carry := add2 m.a (m.peek arg) m.carry } := by simp [Mach.exec]
theorem exec_5 : m.exec 5 arg = { { m with a := sub1 m.a (m.peek arg) m.carry } with carry := sub2 m.a (m.peek arg) m.carry } := by simp [Mach.exec]
theorem exec_6 : m.exec 6 arg = { m with a := bits .and .i64 m.a (m.peek arg) } := by simp [Mach.exec]
theorem exec_7 : m.exec 7 arg = { m with a := bits .xor .i64 m.a (m.peek arg) } := by simp [Mach.exec]
theorem exec_8 : m.exec 8 arg = { { m with a := rotl1 m.a m.carry } with carry := rotl2 m.a m.carry } := by simp [Mach.exec]
theorem exec_9 : m.exec 9 arg = { { m with a := rotr1 m.a m.carry } with carry := rotr2 m.a m.carry } := by simp [Mach.exec]
theorem exec_no (h1 : op ≠ 1) (h2 : op ≠ 2) (h3 : op ≠ 3) (h4 : op ≠ 4) (h5 : op ≠ 5) (h6 : op ≠ 6) (h7 : op ≠ 7) (h8 : op ≠ 8) (h9 : op ≠ 9) : m.exec op arg = m.goes op arg := by simp [Mach.exec, h1, h2, h3, h4, h5, h6, h7, h8, h9]
end
theorem MachIn.drewN {L : Nat} {w : World} {B : Nat} {m : Mach} {a : Option Addr} {c : Nat} {b : Option Addr} {d l1 t1 l2 t2 : Nat} {v : Value} (h : MachIn L w B m a c b d l1 t1 l2 t2 v) (n : Nat) : MachIn L (w.drewN n) B m a c b d l1 t1 l2 t2 v := h.below ⟨rfl, rfl, rfl, Nat.le_refl _, fun _ _ => rfl⟩
theorem below_drewN' {B : Nat} {w X : World} (n : Nat) (h : Below B w X) : Below B w (X.drewN n) := ⟨h.os, h.tape, h.output, h.size, h.block⟩
theorem tri_drew {W : World} {p q r : Addr} {x y z : Value} (h : W.cell? p = some x ∧ W.cell? q = some y ∧ W.cell? r = some z) : W.drew.cell? p = some x ∧ W.drew.cell? q = some y ∧ W.drew.cell? r = some z := h
theorem tri_drewN {W : World} {p q r : Addr} {x y z : Value} (n : Nat) (h : W.cell? p = some x ∧ W.cell? q = some y ∧ W.cell? r = some z) : (W.drewN n).cell? p = some x ∧ (W.drewN n).cell? q = some y ∧ (W.drewN n).cell? r = some z := h
end Go.Proofs.Ytlnpmanghkeieaa
