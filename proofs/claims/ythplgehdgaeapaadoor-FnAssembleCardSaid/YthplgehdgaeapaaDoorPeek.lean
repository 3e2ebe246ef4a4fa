/- The walks of the functions that read a byte of a memory. No condition. -/
import Derived.Test.YthplgehdgaeapaaDoorMemory
namespace Go.Proofs.YthplgehdgaeapaaDoor
open Go.RowKit
set_option linter.unusedVariables false

/-- The byte at an address. -/
def peekL (ram : List Int) (rom : List (List Int)) (bank p : Int) : Int :=
  if p < 512 then ram.getD (p.toNat % 256) 0 else if p < 768 then (rom.getD 0 []).getD (p - 512).toNat 0 else (rom.getD bank.toNat []).getD (p - 768).toNat 0
/-- The sizes of a valid memory. -/
structure Shp (ram : List Int) (rom : List (List Int)) (bank : Int) : Prop where
  r : ram.length = 256
  n : 0 < rom.length
  n4 : rom.length ≤ 4
  row : ∀ i, i < rom.length → (rom.getD i []).length = 256
  b0 : 0 ≤ bank
  b1 : bank < (rom.length : Int)
theorem shp_of {ram : List Int} {rom : List (List Int)} {bank : Int} (h : memB ram rom bank = true) : Shp ram rom bank := by
  simp only [memB, banksB, bankB, Bool.and_eq_true, decide_eq_true_eq, inR_iff] at h
  obtain ⟨⟨⟨h1, _⟩, ⟨h2, h3⟩, h4⟩, h5, h6⟩ := h
  refine ⟨h1, by omega, by omega, fun i hi => ?_, h5, by omega⟩
  have : bankB (rom.getD i []) = true := List.all_eq_true.1 h4 (rom.getD i []) (by rw [List.getD_eq_getElem?_getD, List.getElem?_eq_getElem hi]; exact List.getElem_mem hi)
  simp only [bankB, Bool.and_eq_true, decide_eq_true_eq] at this
  exact this.1
/-- The memory lies in block B, from its head on. -/
structure MemAt (w : World) (B : Nat) (ram : List Int) (rom : List (List Int)) (bank : Int) (a : Option Addr) (c : Nat) (b : Option Addr) (d : Nat) : Prop where
  c0 : w.cell? ⟨B, 0, none⟩ = some (.slice a ram.length c)
  c1 : w.cell? ⟨B, 1, none⟩ = some (.slice b rom.length d)
  c2 : w.cell? ⟨B, 2, none⟩ = some (.int .i64 bank)
  i : Ints w (.slice a ram.length c) ram
  m : Mat w (.slice b rom.length d) rom
/-- One cell of a slice. -/
theorem ints_at_ {w : World} {a : Option Addr} {n c k : Nat} {zs : List Int} (h : Ints w (.slice a n c) zs) (hk : k < zs.length) : n = zs.length ∧ n ≤ c ∧ (c : Int) ≤ 9223372036854775807 ∧ ∃ b off, a = some ⟨b, off, none⟩ ∧ b < w.heap.size ∧ w.cell? ⟨b, off + k, none⟩ = some (.int .i64 (zs.getD k 0)) := by
  obtain ⟨a', c', e, h1, h2, h3⟩ := h
  injection e with e1 e2 e3
  subst e1 e2 e3
  unfold maxLen at h2
  rcases h3 with h0 | ⟨b, off, rfl, hc⟩
  · rw [h0] at hk; simp at hk
  · exact ⟨rfl, h1, by omega, b, off, rfl, block_lt_of_cell (hc k hk), hc k hk⟩
theorem mat_at_ {w : World} {a : Option Addr} {n c k : Nat} {zss : List (List Int)} (h : Mat w (.slice a n c) zss) (hk : k < zss.length) : n = zss.length ∧ n ≤ c ∧ (c : Int) ≤ 9223372036854775807 ∧ ∃ b off a' c', a = some ⟨b, off, none⟩ ∧ b < w.heap.size ∧ w.cell? ⟨b, off + k, none⟩ = some (.slice a' (zss.getD k []).length c') ∧ Ints w (.slice a' (zss.getD k []).length c') (zss.getD k []) := by
  obtain ⟨a1, c1, e, h1, h2, h3⟩ := mat_cells h
  injection e with e1 e2 e3
  subst e1 e2 e3
  obtain ⟨b, off, u, rfl, hb, hc, hi⟩ := h3 k hk
  obtain ⟨a', c', rfl, _, _⟩ := ints_shape hi
  exact ⟨rfl, h1, h2, b, off, a', c', rfl, hb, hc, hi⟩
theorem i64_wrap_nat (n : Nat) (h : n < 1024) : ((n : Int) % 256) = ((n % 256 : Nat) : Int) := by omega
end Go.Proofs.YthplgehdgaeapaaDoor
