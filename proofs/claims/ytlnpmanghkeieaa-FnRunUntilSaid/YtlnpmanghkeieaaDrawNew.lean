/- The drawn lists of banks: whatever the code; where they are a cartridge's banks, they are of the call's own. No condition. -/
import Derived.Test.YtlnpmanghkeieaaDrawRom
import Derived.Test.YtlnpmanghkeieaaPoke
import Derived.Deep.RegionLaw
namespace Go.Proofs.Ytlnpmanghkeieaa
open Go.RowKit
set_option linter.unusedVariables false

/-- Behind the draw: rows, not too many. -/
def DrawnRom (w : World) (e : Ending) (w' : World) : Prop := ∃ v zss, e = .returned v ∧ Mat w' v zss ∧ (banksB zss = true → OwnMat w.heap.size w'.heap.size w' v zss) ∧ zss.length ≤ 8 ∧ sumLen zss ≤ 4000 ∧ Below w.heap.size w w'
theorem banks_sum {zss : List (List Int)} (h : banksB zss = true) : zss.length ≤ 4 ∧ sumLen zss ≤ 1024 ∧ 0 < zss.length ∧ ∀ i, i < zss.length → (zss.getD i []).length = 256 := by
  simp only [banksB, Bool.and_eq_true, inR_iff] at h
  obtain ⟨⟨h1, h2⟩, h3⟩ := h
  have hrow : ∀ i, i < zss.length → (zss.getD i []).length = 256 := fun i hi => by
    have : bankB (zss.getD i []) = true := List.all_eq_true.1 h3 (zss.getD i []) (by rw [List.getD_eq_getElem?_getD, List.getElem?_eq_getElem hi]; exact List.getElem_mem hi)
    exact (bankB_iff.1 this).1
  have key : ∀ l : List (List Int), (∀ z ∈ l, z.length = 256) → sumLen l = 256 * l.length := by
    intro l
    induction l with
    | nil => intro _; rfl
    | cons z r ih =>
      intro hz
      have := ih (fun y hy => hz y (List.mem_cons_of_mem _ hy))
      have h0 := hz z (List.mem_cons_self ..)
      simp only [sumLen, List.map_cons, List.sum_cons, List.length_cons] at this ⊢
      omega
  have := key zss (fun z hz => by
    obtain ⟨i, hi, rfl⟩ := List.getElem_of_mem hz
    have := hrow i hi
    rwa [List.getD_eq_getElem?_getD, List.getElem?_eq_getElem hi] at this)
  exact ⟨by omega, by omega, by omega, hrow⟩
theorem mat_of_ownV {w : World} {base : Nat} {v : Value} {us : List Value} {zss : List (List Int)} (h : OwnV w base 23 v us) (hl : us.length = zss.length) (hr : ∀ i, i < zss.length → Ints w (us.getD i (.bool false)) (zss.getD i [])) : Mat w v zss := by
  have ho := h
  unfold OwnV at ho
  rcases ho.2 with ⟨rfl, hn⟩ | ⟨b, cap, cur, rfl, hb, hh, hnc, hcm, hcs, htk⟩
  · have : zss = [] := List.eq_nil_of_length_eq_zero (by omega)
    subst this
    exact ⟨none, 0, rfl, Nat.le_refl _, Nat.zero_le _, .inl rfl⟩
  · refine ⟨some ⟨b, 0, none⟩, cap, by rw [hl], by omega, hcm, .inr ⟨b, 0, rfl, fun i hi => ⟨us.getD i (.bool false), ?_, hr i hi⟩⟩⟩
    have hi' : i < us.length := by omega
    rw [Nat.zero_add, ho.cellAt i (by omega), List.getD_eq_getElem?_getD, List.getElem?_eq_getElem hi']; rfl
theorem RowsAt.keepAt {rb base : Nat} {w w' : World} {v : Value} {zss : List (List Int)} {us : List Value} {g : Nat → Nat} (h : RowsAt base w v zss us g) (hK : Keep rb w w') (hr : rb < base) : RowsAt base w' v zss us g :=
  h.agree (fun k k1 k2 => hK.block k k2 (by omega)) hK.size
theorem ints_tail {w : World} {b o n c : Nat} {zs : List Int} (h : Ints w (.slice (some ⟨b, o, none⟩) n c) zs) (hz : 0 < zs.length) : Ints w (.slice (some ⟨b, o + 1, none⟩) (n - 1) (c - 1)) (zs.drop 1) := by
  obtain ⟨a', c', e, h1, h2, h3⟩ := h
  injection e with e1 e2 e3
  subst e1 e2 e3
  refine ⟨_, c - 1, by simp, by simp; omega, by omega, .inr ⟨b, o + 1, rfl, fun i hi => ?_⟩⟩
  have hi' : i + 1 < zs.length := by simp at hi; omega
  rcases h3 with h0 | ⟨b', off, e4, hc⟩
  · rw [h0] at hz; simp at hz
  · injection e4 with e5
    injection e5 with e6 e7
    subst e6 e7
    have := hc (i + 1) hi'
    rw [show o + 1 + i = o + (i + 1) by omega, this, List.getD_eq_getElem?_getD, List.getD_eq_getElem?_getD, List.getElem?_drop, Nat.add_comm 1 i]
theorem ints_sc {w : World} {b o n c q i : Nat} {zs : List Int} {v : Value} (h : Ints w (.slice (some ⟨b, o, none⟩) n c) zs) (hn : b ≠ q) : Ints (w.setCell ⟨q, i, none⟩ v) (.slice (some ⟨b, o, none⟩) n c) zs := by
  obtain ⟨a', c', e, h1, h2, h3⟩ := h
  injection e with e1 e2 e3
  subst e1 e2 e3
  refine ⟨_, c, rfl, h1, h2, ?_⟩
  rcases h3 with h0 | ⟨b', off, e4, hc⟩
  · exact .inl h0
  · injection e4 with e5
    injection e5 with e6 e7
    subst e6 e7
    exact .inr ⟨b, o, rfl, fun j hj => cell_sc (hc j hj) (.inl hn)⟩
theorem rows_ints {base : Nat} {w W w' : World} {v : Value} {zss : List (List Int)} {us : List Value} {g : Nat → Nat} (h : RowsAt base w v zss us g) (hb : Below w.heap.size w W) (hg : W.grownBy w' v.ownBlock) : ∀ i, i < zss.length → Ints w' (us.getD i (.bool false)) (zss.getD i []) := fun i hi => by
  by_cases h0 : zss.getD i [] = []
  · have := h.row i hi
    rw [h0] at this ⊢
    exact (own_nil this 0 0).ints
  · obtain ⟨k1, k2, k3⟩ := h.at_ i hi h0
    refine ((h.row i hi).agree fun j j1 j2 => ?_).ints
    obtain rfl : j = g i := by omega
    rw [hg.block _ (Nat.lt_of_lt_of_le k2 hb.size) (fun e => k3 e.symm), hb.block _ k2]
theorem banks_short {zss : List (List Int)} {z : List Int} (h : 0 < zss.length) (hz : z.length ≠ 256) : banksB (zss.set 0 z) = false := by
  unfold banksB
  rw [Bool.and_eq_false_iff]
  right
  rw [List.all_eq_false]
  exact ⟨z, List.mem_of_getElem? (i := 0) (by rw [List.getElem?_set_self h]), by simp [bankB, hz]⟩
theorem sum_set0 {zss : List (List Int)} {z : List Int} (h : 0 < zss.length) (hz : z.length ≤ (zss.getD 0 []).length) : sumLen (zss.set 0 z) ≤ sumLen zss := by
  cases zss with
  | nil => simp at h
  | cons a r => simp only [sumLen, List.set_cons_zero, List.map_cons, List.sum_cons, List.getD_cons_zero] at hz ⊢; omega
end Go.Proofs.Ytlnpmanghkeieaa
