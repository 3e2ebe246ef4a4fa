/- Slices of slices of integers that a call builds by append, row by row: each row of a block of its own. Plain words; no condition. -/
import Derived.Test.YtlnpmanghkeieaaReadMem
namespace Go.Proofs.Ytlnpmanghkeieaa
open Go.RowKit
set_option linter.unusedVariables false

/-- append of rows onto rows. -/
theorem wp_appR {w : World} {ops : Array Oper} {rest : List Oper} {o : Oper} {a : Act} {Q : Exit → Act → World → Prop} (hgd : o.guard = none) (s x : Operand)
    (ho : o.op = .call { callee := .builtin .append, args := #[s, x], argTypes := #[24, 24] })
    (base : Nat) (v u : Value) (vs us : List Value) (hs : a.eval s = v) (hx : a.eval x = u) (hv : OwnV w base 23 v vs) (hu : Holds w u us) (h1 : ∀ x ∈ us, x.oneCell' = true) (hb : vs.length + us.length ≤ 1000000000) (hbase : base ≤ w.heap.size)
    (h : ∀ v' w', OwnV w' base 23 v' (vs ++ us) → w.grownBy w' v.ownBlock → (v'.ownBlock = v.ownBlock ∨ v'.ownBlock = some w.heap.size) → wpList Try.prog ops Q rest (a.put o.dst v') w') : wpList Try.prog ops Q (o :: rest) a w := by
  obtain ⟨i, hi, hz, hsz, hby⟩ := info_parts infoInts
  exact wp_app hgd s x 24 ho 23 i _ 24 Try.underlying24 hi hz hsz hby rfl base v u _ _ hs hx hv hu h1 (by unfold maxLen; omega) (by omega) hbase h
theorem one_slice (a : Option Addr) (n c : Nat) : ∀ x ∈ [Value.slice a n c], x.oneCell' = true := by
  intro x hx
  obtain rfl : x = Value.slice a n c := by simpa using hx
  rfl

/-- Rows that a call builds: the outer slice is whole and to be appended to; each row lies in a block of its own. -/
structure RowsAt (base : Nat) (w : World) (v : Value) (zss : List (List Int)) (us : List Value) (g : Nat → Nat) : Prop where
  own : OwnV w base 23 v us
  len : us.length = zss.length
  row : ∀ i, i < zss.length → Own (g i) (g i + 1) w (us.getD i (.bool false)) (zss.getD i [])
  at_ : ∀ i, i < zss.length → zss.getD i [] ≠ [] → base ≤ g i ∧ g i < w.heap.size ∧ v.ownBlock ≠ some (g i)
  apart : ∀ i j, i < zss.length → j < zss.length → i ≠ j → zss.getD i [] ≠ [] → zss.getD j [] ≠ [] → g i ≠ g j
def RowsV (base : Nat) (w : World) (v : Value) (zss : List (List Int)) : Prop := ∃ us g, RowsAt base w v zss us g
section
variable {base : Nat} {w w' W : World} {v v' u : Value} {zss : List (List Int)} {z : List Int} {us : List Value} {g : Nat → Nat}
theorem RowsAt.agree (h : RowsAt base w v zss us g) (a : Agree base w.heap.size w w') (hs : w.heap.size ≤ w'.heap.size) : RowsAt base w' v zss us g where
  own := h.own.of (fun k hk => a k (h.own.lt k hk).1 (h.own.lt k hk).2)
  len := h.len
  row i hi := by
    by_cases h0 : zss.getD i [] = []
    · have := h.row i hi
      rw [h0] at this ⊢
      exact own_nil this _ _
    · obtain ⟨k1, k2, _⟩ := h.at_ i hi h0
      exact (h.row i hi).agree (a.sub k1 (by omega))
  at_ i hi h0 := by
    obtain ⟨k1, k2, k3⟩ := h.at_ i hi h0
    exact ⟨k1, by omega, k3⟩
  apart := h.apart
theorem RowsV.agree (h : RowsV base w v zss) (a : Agree base w.heap.size w w') (hs : w.heap.size ≤ w'.heap.size) : RowsV base w' v zss := by
  obtain ⟨us, g, r⟩ := h
  exact ⟨us, g, r.agree a hs⟩
theorem RowsV.below (h : RowsV base w v zss) (hb : Below w.heap.size w w') : RowsV base w' v zss := h.agree (fun k _ k2 => hb.block k k2) hb.size
theorem RowsV.nil (base : Nat) (w : World) : RowsV base w (.slice none 0 0) [] :=
  ⟨[], fun _ => 0, OwnV.nil _ _ _, rfl, fun i hi => by simp at hi, fun i hi => by simp at hi, fun i j hi => by simp at hi⟩
theorem own_point {lo hi : Nat} (ho : Own lo hi w u z) : ∃ k, Own k (k + 1) w u z ∧ (z ≠ [] → lo ≤ k ∧ k < hi) := by
  obtain ⟨a, cap, rfl, h1, h2, h3⟩ := ho
  rcases h3 with h0 | ⟨b, off, rfl, k1, k2, hc⟩
  · exact ⟨0, ⟨a, cap, rfl, h1, h2, .inl h0⟩, fun h => absurd h0 h⟩
  · exact ⟨b, ⟨_, cap, rfl, h1, h2, .inr ⟨b, off, rfl, Nat.le_refl _, Nat.lt_succ_self _, hc⟩⟩, fun _ => ⟨k1, k2⟩⟩
theorem getD_left {α : Type} (l : List α) (x d : α) {i : Nat} (h : i < l.length) : (l ++ [x]).getD i d = l.getD i d := by
  simp only [List.getD_eq_getElem?_getD]
  rw [List.getElem?_append_left h]
theorem getD_right {α : Type} (l : List α) (x d : α) : (l ++ [x]).getD l.length d = x := by simp [List.getD_eq_getElem?_getD]
/-- One more row. -/
theorem RowsAt.push (h : RowsAt base w v zss us g) (hbase : base ≤ w.heap.size) (hB : Below w.heap.size w W) (ho : Own w.heap.size W.heap.size W u z)
    (h' : OwnV w' base 23 v' (us ++ [u])) (hg : W.grownBy w' v.ownBlock) (hn : v'.ownBlock = v.ownBlock ∨ v'.ownBlock = some W.heap.size) : RowsV base w' v' (zss ++ [z]) := by
  obtain ⟨k, ok, hk⟩ := own_point ho
  have hs := hB.size
  have hs' := hg.size
  refine ⟨us ++ [u], fun i => if i = zss.length then k else g i, h', by simp [h.len], fun i hi => ?_, fun i hi h0 => ?_, fun i j hi hj hne hi0 hj0 => ?_⟩
  · have hi' : i < zss.length ∨ i = zss.length := by simp at hi; omega
    rcases hi' with hi' | rfl
    · rw [if_neg (by omega), getD_left _ _ _ hi', getD_left _ _ _ (by rw [h.len]; exact hi')]
      by_cases h0 : zss.getD i [] = []
      · have := h.row i hi'
        rw [h0] at this ⊢
        exact own_nil this _ _
      · obtain ⟨k1, k2, k3⟩ := h.at_ i hi' h0
        refine (h.row i hi').agree fun j j1 j2 => ?_
        obtain rfl : j = g i := by omega
        rw [hg.block _ (by omega) (fun e => k3 e.symm), hB.block _ k2]
    · rw [if_pos rfl, getD_right, ← h.len, getD_right]
      by_cases h0 : z = []
      · rw [h0] at ok ⊢
        exact own_nil ok _ _
      · obtain ⟨k1, k2⟩ := hk h0
        refine ok.agree fun j j1 j2 => ?_
        obtain rfl : j = k := by omega
        exact hg.block _ k2 (fun e => by have := (h.own.lt j e.symm).2; omega)
  · have hi' : i < zss.length ∨ i = zss.length := by simp at hi; omega
    rcases hi' with hi' | rfl
    · rw [getD_left _ _ _ hi'] at h0
      rw [if_neg (by omega)]
      obtain ⟨k1, k2, k3⟩ := h.at_ i hi' h0
      refine ⟨k1, by omega, ?_⟩
      rcases hn with e | e
      · rw [e]; exact k3
      · rw [e]; intro e2; injection e2 with e3; omega
    · rw [getD_right] at h0
      rw [if_pos rfl]
      obtain ⟨k1, k2⟩ := hk h0
      refine ⟨by omega, by omega, ?_⟩
      rcases hn with e | e
      · rw [e]; intro e2; have := (h.own.lt _ e2).2; omega
      · rw [e]; intro e2; injection e2 with e3; omega
  · have hi' : i < zss.length ∨ i = zss.length := by simp at hi; omega
    have hj' : j < zss.length ∨ j = zss.length := by simp at hj; omega
    rcases hi' with hi' | rfl
    · rw [getD_left _ _ _ hi'] at hi0
      rw [if_neg (by omega)]
      obtain ⟨k1, k2, k3⟩ := h.at_ i hi' hi0
      rcases hj' with hj' | rfl
      · rw [getD_left _ _ _ hj'] at hj0
        rw [if_neg (by omega)]
        exact h.apart i j hi' hj' hne hi0 hj0
      · rw [getD_right] at hj0
        rw [if_pos rfl]
        have := (hk hj0).1
        omega
    · rw [getD_right] at hi0
      rw [if_pos rfl]
      have := (hk hi0).1
      rcases hj' with hj' | rfl
      · rw [getD_left _ _ _ hj'] at hj0
        rw [if_neg (by omega)]
        obtain ⟨k1, k2, k3⟩ := h.at_ j hj' hj0
        omega
      · exact absurd rfl hne
/-- What is built so is of the call's own. -/
theorem RowsV.mat (h : RowsV base w v zss) : OwnMat base w.heap.size w v zss := by
  obtain ⟨us, g, r⟩ := h
  have ho := r.own
  unfold OwnV at ho
  have hl := r.len
  rcases ho.2 with ⟨rfl, hn⟩ | ⟨b, cap, cur, rfl, hb, hh, hnc, hcm, hcs, htk⟩
  · have : zss = [] := List.eq_nil_of_length_eq_zero (by omega)
    subst this
    exact ⟨none, 0, rfl, Nat.le_refl _, Nat.zero_le _, .inl rfl⟩
  · refine ⟨some ⟨b, 0, none⟩, cap, by rw [hl], by omega, hcm, .inr ⟨b, 0, fun i => us.getD i (.bool false), g, rfl, hb, ?_, fun i hi => ?_, fun i hi => ?_, r.row, fun i hi h0 => ?_, r.apart⟩⟩
    · exact (Array.getElem?_eq_some_iff.1 hh).1
    · have hi' : i < us.length := by omega
      rw [Nat.zero_add, ho.cellAt i (by omega), List.getD_eq_getElem?_getD, List.getElem?_eq_getElem hi']; rfl
    · rw [Nat.zero_add]; exact ho.frozenAt i
    · obtain ⟨k1, k2, k3⟩ := r.at_ i hi h0
      refine ⟨k1, k2, fun e => k3 ?_⟩
      rw [e]; rfl
theorem RowsV.wide {b' : Nat} (h : RowsV base w v zss) (hb : b' ≤ base) : OwnMat b' w.heap.size w v zss := h.mat.wide hb (Nat.le_refl _)
end
end Go.Proofs.Ytlnpmanghkeieaa
