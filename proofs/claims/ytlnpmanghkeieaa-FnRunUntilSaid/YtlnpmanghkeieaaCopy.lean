/- The walks of the functions that copy slices of integers and of slices of integers: the copy is of the call's own. No condition. -/
import Derived.Test.YtlnpmanghkeieaaApp
namespace Go.Proofs.Ytlnpmanghkeieaa
open Go.RowKit

theorem rowIs_ownV {w : World} {base b n : Nat} {e : TypeId} {f : Nat → Value} {vs : List Value} (h : w.rowIs b e n f) (hb : base ≤ b) (hm : n ≤ maxLen) (hl : vs.length = n) (hf : ∀ i, i < n → some (f i) = vs[i]?) : OwnV w base e (.slice (some ⟨b, 0, none⟩) n n) vs := by
  obtain ⟨c, hc, hn, hi⟩ := h
  subst hl
  refine ⟨by simp, .inr ⟨b, vs.length, c, rfl, hb, hc, Nat.le_refl _, hm, by simpa using hn, ?_⟩⟩
  rw [Nat.mul_one]
  apply List.ext_getElem?
  intro i
  by_cases h : i < vs.length
  · rw [List.getElem?_take_of_lt h, ← hf i h, ← hi i h]; simp
  · rw [List.getElem?_eq_none (by simp; omega), List.getElem?_eq_none (by omega)]
/-- A slice of the call's own, whole and to be appended to, which holds zs. -/
def MadeV (zs : List Int) (w : World) (e : Ending) (w' : World) : Prop := ∃ v, e = .returned v ∧ OwnV w' w.heap.size 3 v (zs.map (.int .i64)) ∧ Below w.heap.size w w'
def upto (zs : List Int) (k : Nat) (i : Nat) : Value := if i < k then .int .i64 (zs.getD i 0) else .int .i64 0
end Go.Proofs.Ytlnpmanghkeieaa
