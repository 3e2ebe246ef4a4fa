/- The walks of the functions on memories that only look at them, mark them or copy them for the laws. No condition. -/
import Derived.Test.YthplgehdgaeapaaDoorMem
namespace Go.Proofs.YthplgehdgaeapaaDoor
open Go.RowKit
set_option linter.unusedVariables false

/-- The value v is a memory in w. -/
def MemV (w : World) (v : Value) (ram : List Int) (rom : List (List Int)) (bank : Int) : Prop := ∃ a b, v = .agg #[a, b, .int .i64 bank] ∧ Ints w a ram ∧ Mat w b rom
/-- Two stretches of blocks within lo and hi, apart from each other. -/
structure Apart (lo hi l1 h1 l2 h2 : Nat) : Prop where
  a1 : lo ≤ l1
  b1 : h1 ≤ hi
  a2 : lo ≤ l2
  b2 : h2 ≤ hi
  sep : h1 ≤ l2 ∨ h2 ≤ l1
/-- .. of the call's own: the working memory and the banks apart from each other. -/
def OwnMem (lo hi : Nat) (w : World) (v : Value) (ram : List Int) (rom : List (List Int)) (bank : Int) : Prop :=
  ∃ a b l1 h1 l2 h2, v = .agg #[a, b, .int .i64 bank] ∧ Apart lo hi l1 h1 l2 h2 ∧ Own l1 h1 w a ram ∧ OwnMat l2 h2 w b rom
section
variable {lo hi : Nat} {w w' : World} {v : Value} {ram : List Int} {rom : List (List Int)} {bank : Int}
theorem MemV.below (h : MemV w v ram rom bank) (hb : Below w.heap.size w w') : MemV w' v ram rom bank := by
  obtain ⟨a, b, rfl, h1, h2⟩ := h
  exact ⟨a, b, rfl, h1.below hb, h2.below hb⟩
theorem MemV.alloc (h : MemV w v ram rom bank) (o : Obj) : MemV (w.alloc o) v ram rom bank := h.below ((Below.refl _ _).alloc (Nat.le_refl _) o)
theorem OwnMem.mem (h : OwnMem lo hi w v ram rom bank) : MemV w v ram rom bank := by
  obtain ⟨a, b, _, _, _, _, rfl, _, h1, h2⟩ := h
  exact ⟨a, b, rfl, h1.ints, h2.mat⟩
theorem OwnMem.agree (h : OwnMem lo hi w v ram rom bank) (g : Agree lo hi w w') : OwnMem lo hi w' v ram rom bank := by
  obtain ⟨a, b, l1, h1, l2, h2, rfl, k, o1, o2⟩ := h
  exact ⟨a, b, l1, h1, l2, h2, rfl, k, o1.agree (g.sub k.a1 k.b1), o2.agree (g.sub k.a2 k.b2)⟩
theorem OwnMem.wide {lo' hi' : Nat} (h : OwnMem lo hi w v ram rom bank) (k1 : lo' ≤ lo) (k2 : hi ≤ hi') : OwnMem lo' hi' w v ram rom bank := by
  obtain ⟨a, b, l1, h1, l2, h2, rfl, k, o1, o2⟩ := h
  obtain ⟨a1, b1, a2, b2, sp⟩ := k
  exact ⟨a, b, l1, h1, l2, h2, rfl, ⟨by omega, by omega, by omega, by omega, sp⟩, o1, o2⟩
end
theorem memV_shape {w : World} {v : Value} {ram : List Int} {rom : List (List Int)} {bank : Int} (h : MemV w v ram rom bank) : ∃ a c b d, v = .agg #[.slice a ram.length c, .slice b rom.length d, .int .i64 bank] ∧ ram.length ≤ c ∧ (c : Int) ≤ 9223372036854775807 ∧ rom.length ≤ d ∧ (d : Int) ≤ 9223372036854775807 := by
  obtain ⟨x, y, rfl, h1, h2⟩ := h
  obtain ⟨a, c, rfl, k1, k2⟩ := ints_shape h1
  obtain ⟨b, d, rfl, k3, k4⟩ := mat_shape h2
  exact ⟨_, _, _, _, rfl, k1, k2, k3, k4⟩
theorem Ints.drewN' {w : World} {u : Value} {zs : List Int} (h : Ints w u zs) (n : Nat) : Ints (w.drewN n) u zs := h.drewN n
theorem Mat.drewN {w : World} {u : Value} {zss : List (List Int)} (h : Mat w u zss) (n : Nat) : Mat (w.drewN n) u zss := h.below ⟨rfl, rfl, rfl, Nat.le_refl _, fun _ _ => rfl⟩
def eqM (r1 : List Int) (m1 : List (List Int)) (b1 : Int) (r2 : List Int) (m2 : List (List Int)) (b2 : Int) : Bool := r1 == r2 && m1 == m2 && b1 == b2
/-- A memory, marked from k on. -/
def MarkedM (w : World) (v : Value) (k : Int) (ram : List Int) (rom : List (List Int)) (bank : Int) : Prop := MemV w v (marks k ram.length) (markRows (k + ram.length) rom) bank
def MarkedOwn (lo hi : Nat) (w : World) (v : Value) (k : Int) (ram : List Int) (rom : List (List Int)) (bank : Int) : Prop := OwnMem lo hi w v (marks k ram.length) (markRows (k + ram.length) rom) bank
end Go.Proofs.YthplgehdgaeapaaDoor
