/- The walks of the functions on memories that only look: which memories are valid. No condition. -/
import Derived.Test.YthplgehdgaeapaaDoorMatWrite
namespace Go.Proofs.YthplgehdgaeapaaDoor
open Go.RowKit

theorem Ints.alloc {w : World} {v : Value} {zs : List Int} (h : Ints w v zs) (o : Obj) : Ints (w.alloc o) v zs := h.below ((Below.refl _ _).alloc (Nat.le_refl _) o)
theorem Mat.alloc {w : World} {v : Value} {zss : List (List Int)} (h : Mat w v zss) (o : Obj) : Mat (w.alloc o) v zss := h.below ((Below.refl _ _).alloc (Nat.le_refl _) o)
theorem cell_sc {W : World} {b o b' o' : Nat} {v u : Value} (h : W.cell? ⟨b, o, none⟩ = some v) (hn : b ≠ b' ∨ o ≠ o') : (W.setCell ⟨b', o', none⟩ u).cell? ⟨b, o, none⟩ = some v :=
  (World.cell?_setCell_other _ _ _ _ (by intro e; injection e with e1 e2; omega)).trans h
theorem ints_shape {w : World} {v : Value} {zs : List Int} (h : Ints w v zs) : ∃ a cap, v = .slice a zs.length cap ∧ zs.length ≤ cap ∧ (cap : Int) ≤ 9223372036854775807 := by
  obtain ⟨a, cap, rfl, h1, h2, _⟩ := h
  unfold maxLen at h2
  exact ⟨a, cap, rfl, h1, by omega⟩
theorem mat_shape {w : World} {v : Value} {zss : List (List Int)} (h : Mat w v zss) : ∃ a cap, v = .slice a zss.length cap ∧ zss.length ≤ cap ∧ (cap : Int) ≤ 9223372036854775807 := by
  obtain ⟨a, cap, rfl, h1, h2, _⟩ := h
  unfold maxLen at h2
  exact ⟨a, cap, rfl, h1, by omega⟩
def allB (zs : List Int) : Bool := zs.all byteB
def bankB (zs : List Int) : Bool := decide (zs.length = 256) && allB zs
def banksB (rom : List (List Int)) : Bool := inR rom.length 1 4 && rom.all bankB
/-- Is a memory valid? -/
def memB (ram : List Int) (rom : List (List Int)) (bank : Int) : Bool := bankB ram && banksB rom && inR bank 0 ((rom.length : Int) - 1)
theorem all_take_not {α : Type} {p : α → Bool} {zs : List α} {k : Nat} {x : α} (_hk : k < zs.length) (hx : zs[k]? = some x) (h : p x = false) : zs.all p = false := by
  rw [List.all_eq_false]
  exact ⟨x, List.mem_of_getElem? hx, by simp [h]⟩
theorem all_take_succ {α : Type} {p : α → Bool} {zs : List α} {k : Nat} {x : α} (_hk : k < zs.length) (hx : zs[k]? = some x) (h : p x = true) (ht : (zs.take k).all p = true) : (zs.take (k + 1)).all p = true := by
  rw [List.take_add_one, hx]
  simp [List.all_append, ht, h]
theorem getD_some {zs : List Int} {k : Nat} (hk : k < zs.length) : zs[k]? = some (zs.getD k 0) := by simp [List.getD_eq_getElem?_getD, hk]
theorem getD_some_row {zss : List (List Int)} {k : Nat} (hk : k < zss.length) : zss[k]? = some (zss.getD k []) := by simp [List.getD_eq_getElem?_getD, hk]
end Go.Proofs.YthplgehdgaeapaaDoor
