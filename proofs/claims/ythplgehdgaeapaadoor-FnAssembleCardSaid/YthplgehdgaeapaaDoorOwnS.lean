/- Slices of strings of the call's own: behind other calls, and by comparison. No condition. -/
import Derived.Test.YthplgehdgaeapaaDoorAsm
namespace Go.Proofs.YthplgehdgaeapaaDoor
open Go.RowKit
set_option linter.unusedVariables false
theorem OwnS.agree {lo hi : Nat} {w w' : World} {v : Value} {zs : List ByteArray} (o : OwnS lo hi w v zs) (a : Agree lo hi w w') : OwnS lo hi w' v zs := by
  obtain ⟨ad, cap, rfl, h1, h2, h3⟩ := o
  refine ⟨ad, cap, rfl, h1, h2, ?_⟩
  rcases h3 with h0 | ⟨b, off, rfl, k1, k2, hc⟩
  · exact .inl h0
  · exact .inr ⟨b, off, rfl, k1, k2, fun i hi => ⟨(a.cell (p := ⟨b, off + i, none⟩) k1 k2).trans (hc i hi).1, (a.frozen (p := ⟨b, off + i, none⟩) k1 k2).trans (hc i hi).2⟩⟩
theorem OwnV.ownS {w : World} {base e : Nat} {v : Value} {xs : List ByteArray} (h : OwnV w base e v (xs.map Value.string)) : OwnS base w.heap.size w v xs := by
  unfold OwnV at h
  rw [List.length_map] at h
  rcases h.2 with ⟨rfl, hn⟩ | ⟨g, cap, cur, rfl, hg, hh, hnc, hcm, hcs, htk⟩
  · have : xs = [] := List.eq_nil_of_length_eq_zero hn
    subst this
    exact ⟨none, 0, rfl, Nat.le_refl _, Nat.zero_le _, .inl rfl⟩
  · refine ⟨_, cap, rfl, hnc, hcm, .inr ⟨g, 0, rfl, hg, ?_, fun i hi => ?_⟩⟩
    · exact (Array.getElem?_eq_some_iff.1 hh).1
    · have hc := h.cellAt i (by omega)
      refine ⟨?_, ?_⟩
      · rw [Nat.zero_add, hc, List.getElem?_map, List.getD_eq_getElem?_getD, List.getElem?_eq_getElem hi]; rfl
      · rw [Nat.zero_add]; exact h.frozenAt i
theorem asm_len {ss : List ByteArray} {zs : List Int} {n : Int} (h : IsAsm ss zs n) : zs.length ≤ 180 := by
  rcases h with ⟨k, h1, h2, h3, rfl, rfl⟩ | ⟨h1, h2, rfl, rfl⟩ | ⟨h1, h2, rfl, rfl⟩
  · simp
  · simp
  · have := asmK_len ss ss.length
    omega
theorem eqStringS_b {v u : Value} {xs ys : List ByteArray} {w : World} (h : Strs w v xs) (g : Strs w u ys) : Calls Tryd.prog 16 #[v, u] w fun e w' => e = .returned (.bool (decide (xs = ys))) ∧ Below w.heap.size w w' := (laws_eqStringS h g).mono fun _ _ ⟨he, q⟩ => ⟨he, q.below⟩
theorem sameTexts_b {v u : Value} {xs ys : List ByteArray} {w : World} (h : Strs w v xs) (g : Strs w u ys) : Calls Tryd.prog 33 #[v, u] w fun e w' => e = .returned (.bool (decide (xs = ys))) ∧ Below w.heap.size w w' := (laws_sameTexts h g).mono fun _ _ ⟨he, q⟩ => ⟨he, q.below⟩
end Go.Proofs.YthplgehdgaeapaaDoor
