/- Machines in memory: what they hold, whose they are; the walks of the functions that look at them. No condition. -/
import Derived.Test.YtlnpmanghkeieaaStep
import Derived.Test.YtlnpmanghkeieaaMemRead
namespace Go.Proofs.Ytlnpmanghkeieaa
open Go.RowKit
set_option linter.unusedVariables false

/-- The value v is the machine m in w. -/
def MachV (w : World) (v : Value) (m : Mach) : Prop :=
  ∃ x y z, v = .agg #[x, y, .int .i64 m.bank, .int .i64 m.a, .int .i64 m.pc, .bool m.carry, z, .bool m.stop, .int .i64 m.cyc] ∧ Ints w x m.ram ∧ Mat w y m.rom ∧ Ints w z m.back
/-- .. of the call's own. -/
def OwnMach (lo hi : Nat) (w : World) (v : Value) (m : Mach) : Prop :=
  ∃ x y z mi, v = .agg #[x, y, .int .i64 m.bank, .int .i64 m.a, .int .i64 m.pc, .bool m.carry, z, .bool m.stop, .int .i64 m.cyc] ∧ lo ≤ mi ∧ mi ≤ hi ∧ OwnMem lo mi w (.agg #[x, y, .int .i64 m.bank]) m.ram m.rom m.bank ∧ Own mi hi w z m.back
theorem memV_parts {w : World} {x y : Value} {ram : List Int} {rom : List (List Int)} {bank : Int} (h : MemV w (.agg #[x, y, .int .i64 bank]) ram rom bank) : Ints w x ram ∧ Mat w y rom := by
  obtain ⟨x', y', e, h1, h2⟩ := h
  simp only [Value.agg.injEq, Array.mk.injEq, List.cons.injEq, and_true] at e
  obtain ⟨rfl, rfl⟩ := e
  exact ⟨h1, h2⟩
section
variable {lo hi : Nat} {w w' : World} {v : Value} {m : Mach}
theorem MachV.below (h : MachV w v m) (hb : Below w.heap.size w w') : MachV w' v m := by
  obtain ⟨x, y, z, rfl, h1, h2, h3⟩ := h
  exact ⟨x, y, z, rfl, h1.below hb, h2.below hb, h3.below hb⟩
theorem MachV.alloc (h : MachV w v m) (o : Obj) : MachV (w.alloc o) v m := h.below ((Below.refl _ _).alloc (Nat.le_refl _) o)
theorem OwnMach.mach (h : OwnMach lo hi w v m) : MachV w v m := by
  obtain ⟨x, y, z, mi, rfl, _, _, h1, h2⟩ := h
  obtain ⟨k1, k2⟩ := memV_parts h1.mem
  exact ⟨x, y, z, rfl, k1, k2, h2.ints⟩
theorem OwnMach.agree (h : OwnMach lo hi w v m) (g : Agree lo hi w w') : OwnMach lo hi w' v m := by
  obtain ⟨x, y, z, mi, rfl, k1, k2, h1, h2⟩ := h
  exact ⟨x, y, z, mi, rfl, k1, k2, h1.agree (g.sub (Nat.le_refl _) k2), h2.agree (g.sub k1 (Nat.le_refl _))⟩
theorem OwnMach.wide {lo' hi' : Nat} (h : OwnMach lo hi w v m) (k1 : lo' ≤ lo) (k2 : hi ≤ hi') : OwnMach lo' hi' w v m := by
  obtain ⟨x, y, z, mi, rfl, q1, q2, h1, h2⟩ := h
  exact ⟨x, y, z, mi, rfl, by omega, by omega, h1.wide k1 (Nat.le_refl _), h2.wide (Nat.le_refl _) k2⟩
end
theorem machV_shape {w : World} {v : Value} {m : Mach} (h : MachV w v m) : ∃ a c b d e f, v = .agg #[.slice a m.ram.length c, .slice b m.rom.length d, .int .i64 m.bank, .int .i64 m.a, .int .i64 m.pc, .bool m.carry, .slice e m.back.length f, .bool m.stop, .int .i64 m.cyc] ∧
    m.ram.length ≤ c ∧ (c : Int) ≤ 9223372036854775807 ∧ m.rom.length ≤ d ∧ (d : Int) ≤ 9223372036854775807 ∧ m.back.length ≤ f ∧ (f : Int) ≤ 9223372036854775807 := by
  obtain ⟨x, y, z, rfl, h1, h2, h3⟩ := h
  obtain ⟨a, c, rfl, k1, k2⟩ := ints_shape h1
  obtain ⟨b, d, rfl, k3, k4⟩ := mat_shape h2
  obtain ⟨e, f, rfl, k5, k6⟩ := ints_shape h3
  exact ⟨_, _, _, _, _, _, rfl, k1, k2, k3, k4, k5, k6⟩
/-- What a machine's value holds, its memory as a value of its own. -/
theorem machV_parts {w : World} {m : Mach} {x y z : Value} (h : MachV w (.agg #[x, y, .int .i64 m.bank, .int .i64 m.a, .int .i64 m.pc, .bool m.carry, z, .bool m.stop, .int .i64 m.cyc]) m) :
    MemV w (.agg #[x, y, .int .i64 m.bank]) m.ram m.rom m.bank ∧ Ints w z m.back := by
  obtain ⟨x', y', z', e, h1, h2, h3⟩ := h
  simp only [Value.agg.injEq, Array.mk.injEq, List.cons.injEq, and_true, true_and] at e
  obtain ⟨rfl, rfl, rfl⟩ := e
  exact ⟨⟨x, y, rfl, h1, h2⟩, h3⟩
/-- Is a machine valid, but for its cycles; in all? -/
def machF (m : Mach) : Bool := memB m.ram m.rom m.bank && byteB m.a && inR m.pc 0 1023 && decide (m.back.length ≤ 8) && m.back.all (fun x => inR x 0 1023)
def machB (m : Mach) : Bool := machF m && inR m.cyc 0 1000000000
theorem machF_iff {m : Mach} : machF m = true ↔ memB m.ram m.rom m.bank = true ∧ byteB m.a = true ∧ inR m.pc 0 1023 = true ∧ m.back.length ≤ 8 ∧ m.back.all (fun x => inR x 0 1023) = true := by
  simp [machF, and_assoc]
theorem machB_good {m : Mach} (h : machB m = true) : m.Good 1000000000 := by
  simp only [machB, Bool.and_eq_true] at h
  obtain ⟨h1, h2, h3, h4, h5⟩ := machF_iff.1 h.1
  obtain ⟨c0, c1⟩ := inR_iff.1 h.2
  exact ⟨h1, h2, h3, h4, h5, c0, c1⟩
theorem good_machB {m : Mach} (h : m.Good 1000000000) : machB m = true := by
  simp only [machB, Bool.and_eq_true]
  exact ⟨machF_iff.2 ⟨h.mem, h.a, h.pc, h.len, h.back⟩, inR_iff.2 ⟨h.c0, h.c1⟩⟩
/-- Equality of machines, part by part. -/
def eqMach (a b : Mach) : Bool := eqM a.ram a.rom a.bank b.ram b.rom b.bank && a.a == b.a && a.pc == b.pc && a.carry == b.carry && a.back == b.back && a.stop == b.stop && a.cyc == b.cyc
theorem eqMach_self (a : Mach) : eqMach a a = true := by simp [eqMach, eqM]
theorem eqMach_iff {a b : Mach} : eqMach a b = true ↔ a = b := by
  constructor
  · intro h
    simp only [eqMach, eqM, Bool.and_eq_true, beq_iff_eq] at h
    obtain ⟨⟨⟨⟨⟨⟨⟨⟨h1, h2⟩, h3⟩, h4⟩, h5⟩, h6⟩, h7⟩, h8⟩, h9⟩ := h
    cases a; cases b
    simp_all
  · rintro rfl; exact eqMach_self a
end Go.Proofs.Ytlnpmanghkeieaa
