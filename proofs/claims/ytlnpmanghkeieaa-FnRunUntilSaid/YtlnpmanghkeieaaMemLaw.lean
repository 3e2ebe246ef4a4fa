/- The plain laws of memories: reading, writing, copying. Plain words; no condition. -/
import Derived.Test.YtlnpmanghkeieaaPeek
namespace Go.Proofs.Ytlnpmanghkeieaa
open Go.RowKit
set_option linter.unusedVariables false

theorem all_set {p : Int → Bool} {zs : List Int} (k : Nat) {x : Int} (h : zs.all p = true) (hx : p x = true) : (zs.set k x).all p = true := by
  rw [List.all_eq_true] at h ⊢
  intro y hy
  rcases List.mem_or_eq_of_mem_set hy with h1 | h1
  · exact h y h1
  · rw [h1]; exact hx
theorem bankB_iff {zs : List Int} : bankB zs = true ↔ zs.length = 256 ∧ zs.all byteB = true := by simp [bankB, allB]
theorem bankB_set {zs : List Int} (k : Nat) {x : Int} (h : bankB zs = true) (hx : byteB x = true) : bankB (zs.set k x) = true := by
  rw [bankB_iff] at h ⊢
  exact ⟨by rw [List.length_set]; exact h.1, all_set k h.2 hx⟩
theorem allB_at {zs : List Int} (h : zs.all byteB = true) (i : Nat) : byteB (zs.getD i 0) = true := by
  by_cases hi : i < zs.length
  · rw [List.getD_eq_getElem?_getD, List.getElem?_eq_getElem hi]
    exact List.all_eq_true.1 h _ (List.getElem_mem hi)
  · rw [List.getD_eq_getElem?_getD, List.getElem?_eq_none (by omega)]; rfl
theorem memB_iff {ram : List Int} {rom : List (List Int)} {bank : Int} : memB ram rom bank = true ↔ bankB ram = true ∧ banksB rom = true ∧ inR bank 0 ((rom.length : Int) - 1) = true := by
  simp [memB, and_assoc]
theorem rows_at {rom : List (List Int)} (h : banksB rom = true) (i : Nat) : (rom.getD i []).all byteB = true := by
  simp only [banksB, Bool.and_eq_true] at h
  by_cases hi : i < rom.length
  · rw [List.getD_eq_getElem?_getD, List.getElem?_eq_getElem hi]
    exact (bankB_iff.1 (List.all_eq_true.1 h.2 _ (List.getElem_mem hi))).2
  · rw [List.getD_eq_getElem?_getD, List.getElem?_eq_none (by omega)]; rfl
theorem peekL_byte {ram : List Int} {rom : List (List Int)} {bank : Int} (h : memB ram rom bank = true) (p : Int) : byteB (peekL ram rom bank p) = true := by
  obtain ⟨h1, h2, h3⟩ := memB_iff.1 h
  unfold peekL
  split
  · exact allB_at (bankB_iff.1 h1).2 _
  · split
    · exact allB_at (rows_at h2 _) _
    · exact allB_at (rows_at h2 _) _
/-- What ReadMemory answers. -/
def readV (ram : List Int) (rom : List (List Int)) (bank p : Int) : Int := if memB ram rom bank && inR p 0 1023 then peekL ram rom bank p else 0
/-- What is written. -/
def pokeR (ram : List Int) (p x : Int) : List Int := if p < 512 then ram.set (p.toNat % 256) x else ram
def pokeB (rom : List (List Int)) (bank p x : Int) : Int := if p < 768 then bank else x % (rom.length : Int)
theorem pokeR_len (ram : List Int) (p x : Int) : (pokeR ram p x).length = ram.length := by unfold pokeR; split <;> simp
theorem poke_valid {ram : List Int} {rom : List (List Int)} {bank p x : Int} (h : memB ram rom bank = true) (hx : byteB x = true) : memB (pokeR ram p x) rom (pokeB rom bank p x) = true := by
  obtain ⟨h1, h2, h3⟩ := memB_iff.1 h
  refine memB_iff.2 ⟨?_, h2, ?_⟩
  · unfold pokeR
    split
    · exact bankB_set _ h1 hx
    · exact h1
  · unfold pokeB
    split
    · exact h3
    · have h4 : 0 < rom.length := (shp_of h).n
      have := Int.emod_nonneg x (show (rom.length : Int) ≠ 0 by omega)
      have := Int.emod_lt_of_pos x (show 0 < (rom.length : Int) by omega)
      exact inR_iff.2 ⟨by omega, by omega⟩
/-- The working memory after k bytes were copied, from p on, to q on. -/
def copyN (ram : List Int) (rom : List (List Int)) (bank : Int) (p q : Nat) : Nat → List Int
  | 0 => ram
  | k + 1 => (copyN ram rom bank p q k).set ((q + k) % 256) (peekL (copyN ram rom bank p q k) rom bank (((p + k) % 1024 : Nat) : Int))
theorem copyN_len (ram : List Int) (rom : List (List Int)) (bank : Int) (p q k : Nat) : (copyN ram rom bank p q k).length = ram.length := by
  induction k with
  | zero => rfl
  | succ k ih => simp only [copyN, List.length_set]; exact ih
theorem copyN_valid {ram : List Int} {rom : List (List Int)} {bank : Int} (h : memB ram rom bank = true) (p q k : Nat) : memB (copyN ram rom bank p q k) rom bank = true := by
  induction k with
  | zero => exact h
  | succ k ih =>
    obtain ⟨h1, h2, h3⟩ := memB_iff.1 ih
    exact memB_iff.2 ⟨bankB_set _ h1 (peekL_byte ih _), h2, h3⟩
/-- Copying by one place forward fills. -/
theorem copyN_fill (ram : List Int) (rom : List (List Int)) (bank : Int) (k : Nat) (hl : ram.length = 256) (n : Nat) (hn : k + n < 256) : ∀ j, k ≤ j → j ≤ k + n → (copyN ram rom bank k (k + 1) n).getD j 0 = ram.getD k 0 := by
  induction n with
  | zero => intro j h1 h2; obtain rfl : j = k := by omega
            rfl
  | succ n ih =>
    intro j h1 h2
    have ih' := ih (by omega)
    have hlen := copyN_len ram rom bank k (k + 1) n
    simp only [copyN]
    have e1 : (k + 1 + n) % 256 = k + 1 + n := Nat.mod_eq_of_lt (by omega)
    have e2 : (k + n) % 1024 = k + n := Nat.mod_eq_of_lt (by omega)
    rw [e1, e2]
    have hp : peekL (copyN ram rom bank k (k + 1) n) rom bank ((k + n : Nat) : Int) = ram.getD k 0 := by
      unfold peekL
      rw [if_pos (by omega)]
      have : ((k + n : Nat) : Int).toNat % 256 = k + n := by rw [Int.toNat_natCast]; exact Nat.mod_eq_of_lt (by omega)
      rw [this]
      exact ih' _ (by omega) (by omega)
    rw [hp]
    by_cases hj : j = k + 1 + n
    · subst hj
      rw [List.getD_eq_getElem?_getD, List.getElem?_set_self (by omega)]; rfl
    · rw [List.getD_eq_getElem?_getD, List.getElem?_set_ne (by omega), ← List.getD_eq_getElem?_getD]
      exact ih' j h1 (by omega)
/-- Copying out of bank 0. -/
theorem copyN_rom (ram : List Int) (rom : List (List Int)) (bank : Int) (k : Nat) (hl : ram.length = 256) (hk : k < 256) (n : Nat) (hn : k + n ≤ 256) : ∀ j, k ≤ j → j < k + n → (copyN ram rom bank (512 + k) k n).getD j 0 = (rom.getD 0 []).getD j 0 := by
  induction n with
  | zero => intro j h1 h2; omega
  | succ n ih =>
    intro j h1 h2
    have ih' := ih (by omega)
    have hlen := copyN_len ram rom bank (512 + k) k n
    simp only [copyN]
    have e1 : (k + n) % 256 = k + n := Nat.mod_eq_of_lt (by omega)
    have e2 : (512 + k + n) % 1024 = 512 + k + n := Nat.mod_eq_of_lt (by omega)
    rw [e1, e2]
    have hp : peekL (copyN ram rom bank (512 + k) k n) rom bank ((512 + k + n : Nat) : Int) = (rom.getD 0 []).getD (k + n) 0 := by
      unfold peekL
      rw [if_neg (by omega), if_pos (by omega)]
      congr 1
      omega
    rw [hp]
    by_cases hj : j = k + n
    · subst hj
      rw [List.getD_eq_getElem?_getD, List.getElem?_set_self (by omega)]; rfl
    · rw [List.getD_eq_getElem?_getD, List.getElem?_set_ne (by omega), ← List.getD_eq_getElem?_getD]
      exact ih' j h1 (by omega)
theorem set_getD {zs : List Int} {i : Nat} : zs.set i (zs.getD i 0) = zs := by
  apply List.ext_getElem?
  intro j
  by_cases h : j = i
  · subst h
    by_cases hj : j < zs.length
    · rw [List.getElem?_set_self hj, List.getD_eq_getElem?_getD, List.getElem?_eq_getElem hj]; rfl
    · rw [List.getElem?_eq_none (by simp; omega), List.getElem?_eq_none (by omega)]
  · rw [List.getElem?_set_ne (by omega)]
/-- The whole working memory onto itself. -/
theorem copyN_self (ram : List Int) (rom : List (List Int)) (bank : Int) (n : Nat) (hn : n ≤ 256) : copyN ram rom bank 0 0 n = ram := by
  induction n with
  | zero => rfl
  | succ n ih =>
    simp only [copyN]
    rw [ih (by omega)]
    have e1 : (0 + n) % 256 = n := by rw [Nat.zero_add]; exact Nat.mod_eq_of_lt (by omega)
    have e2 : (0 + n) % 1024 = n := by rw [Nat.zero_add]; exact Nat.mod_eq_of_lt (by omega)
    rw [e1, e2]
    have hp : peekL ram rom bank (n : Int) = ram.getD n 0 := by
      unfold peekL
      rw [if_pos (by omega), Int.toNat_natCast, Nat.mod_eq_of_lt (by omega)]
    rw [hp, set_getD]
end Go.Proofs.Ytlnpmanghkeieaa
