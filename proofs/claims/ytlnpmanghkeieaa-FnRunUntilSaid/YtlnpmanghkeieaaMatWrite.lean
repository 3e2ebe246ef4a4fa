/- The walks of the functions that mark and copy slices of slices of integers. No condition. -/
import Derived.Test.YtlnpmanghkeieaaMat
namespace Go.Proofs.Ytlnpmanghkeieaa
open Go.RowKit

section
variable {lo hi : Nat} {w w' : World} {zss : List (List Int)} {b off : Nat} {us : Nat → Value} {g : Nat → Nat}
theorem getD_set_same {zss : List (List Int)} {j : Nat} {z : List Int} (h : j < zss.length) : (zss.set j z).getD j [] = z := by simp [List.getD_eq_getElem?_getD, h]
theorem getD_set_other {zss : List (List Int)} {i j : Nat} {z : List Int} (h : i ≠ j) : (zss.set j z).getD i [] = zss.getD i [] := by
  simp only [List.getD_eq_getElem?_getD]
  rw [List.getElem?_set_ne (by omega)]
theorem agree_one {l h k : Nat} (hw : Within l h w w') (hk : k < w.heap.size) (hd : k < l ∨ h ≤ k) : Agree k (k + 1) w w' := fun i h1 h2 => by
  obtain rfl : i = k := by omega
  exact hw.block i hk hd
/-- One row is written, and nothing else. -/
theorem MatAt.write (r : MatAt lo hi w zss b off us g) (hs : hi ≤ w.heap.size) {j : Nat} (hj : j < zss.length) : ∃ l h, Own l h w (us j) (zss.getD j []) ∧
    ∀ w' z', Within l h w w' → Own l h w' (us j) z' → z'.length = (zss.getD j []).length → MatAt lo hi w' (zss.set j z') b off us g ∧ Within lo hi w w' := by
  by_cases h0 : zss.getD j [] = []
  · refine ⟨0, 0, ?_, fun w' z' hw ho hl => ?_⟩
    · have := r.row j hj
      rw [h0] at this ⊢
      exact own_nil this _ _
    · have hz : z' = [] := List.eq_nil_of_length_eq_zero (by rw [hl, h0]; rfl)
      subst hz
      have he : zss.set j [] = zss := by
        apply List.ext_getElem?
        intro i
        by_cases e : i = j
        · subst e
          simp [List.getD_eq_getElem?_getD, hj] at h0
          simp [hj, h0]
        · rw [List.getElem?_set_ne (by omega)]
      rw [he]
      exact ⟨r.agree (fun k _ k2 => hw.block k (by omega) (by omega)), hw.os, hw.tape, hw.output, hw.size, fun k hk _ => hw.block k hk (by omega)⟩
  · obtain ⟨k1, k2, k3⟩ := r.at_ j hj h0
    refine ⟨g j, g j + 1, r.row j hj, fun w' z' hw ho hl => ⟨?_, hw.wide k1 k2⟩⟩
    have hz : z' ≠ [] := by
      intro e
      rw [e] at hl
      exact h0 (List.eq_nil_of_length_eq_zero hl.symm)
    have hb := r.hb2
    have hd : b < g j ∨ g j + 1 ≤ b := by omega
    have ab := agree_one hw (by omega) hd
    have key : ∀ i, i ≠ j → (zss.set j z').getD i [] = zss.getD i [] := fun i h => getD_set_other h
    have ne : ∀ i, (zss.set j z').getD i [] ≠ [] → zss.getD i [] ≠ [] := fun i h => by
      by_cases e : i = j
      · subst e; exact h0
      · rwa [key i e] at h
    refine ⟨r.hb1, r.hb2, fun i hi' => ?_, fun i hi' => ?_, fun i hi' => ?_, fun i hi' hne => ?_, fun i i' hi' hi'' hne n1 n2 => ?_⟩
    · rw [List.length_set] at hi'
      exact (ab.cell (p := ⟨b, off + i, none⟩) (Nat.le_refl _) (Nat.lt_succ_self _)).trans (r.cell i hi')
    · rw [List.length_set] at hi'
      exact (ab.frozen (p := ⟨b, off + i, none⟩) (Nat.le_refl _) (Nat.lt_succ_self _)).trans (r.fz i hi')
    · rw [List.length_set] at hi'
      by_cases e : i = j
      · subst e; rw [getD_set_same hj]; exact ho
      · rw [key i e]
        by_cases hi0 : zss.getD i [] = []
        · have := r.row i hi'
          rw [hi0] at this ⊢
          exact own_nil this _ _
        · have hne := r.apart i j hi' hj e hi0 h0
          have hlt := (r.at_ i hi' hi0).2.1
          exact (r.row i hi').agree (agree_one hw (by omega) (by omega))
    · rw [List.length_set] at hi'
      exact r.at_ i hi' (ne i hne)
    · rw [List.length_set] at hi' hi''
      exact r.apart i i' hi' hi'' hne (ne i n1) (ne i' n2)
end
/-- The rows of which the first j are marked. -/
def half (k0 : Int) (zss : List (List Int)) (j : Nat) : List (List Int) := (markRows k0 zss).take j ++ zss.drop j
theorem half_len (k0 : Int) (zss : List (List Int)) (j : Nat) (h : j ≤ zss.length) : (half k0 zss j).length = zss.length := by
  simp [half, markRows_len]; omega
theorem half_at (k0 : Int) (zss : List (List Int)) (j : Nat) (h : j < zss.length) : (half k0 zss j).getD j [] = zss.getD j [] := by
  unfold half
  rw [List.getD_eq_getElem?_getD, List.getElem?_append_right (by rw [List.length_take, markRows_len]; omega), List.length_take, markRows_len, List.getElem?_drop, List.getD_eq_getElem?_getD]
  congr 3
  omega
theorem half_succ (k0 : Int) (zss : List (List Int)) (j : Nat) (h : j < zss.length) : half k0 zss (j + 1) = (half k0 zss j).set j (marks (k0 + sumLen (zss.take j)) (zss.getD j []).length) := by
  rw [← markRows_at k0 zss j h]
  have hm : j < (markRows k0 zss).length := by rw [markRows_len]; exact h
  unfold half
  rw [List.set_append_right _ _ (by rw [List.length_take]; omega), List.length_take, Nat.min_eq_left (by omega), Nat.sub_self, List.drop_eq_getElem_cons h, List.set_cons_zero]
  have e := List.take_succ_eq_append_getElem hm
  rw [e, List.append_assoc]
  simp [List.getD_eq_getElem?_getD, hm]
theorem half_all (k0 : Int) (zss : List (List Int)) : half k0 zss zss.length = markRows k0 zss := by
  unfold half
  rw [List.take_of_length_le (by rw [markRows_len]; exact Nat.le_refl _), List.drop_length, List.append_nil]

theorem size_set (w : World) (a : Addr) (v : Value) : (w.setCell a v).heap.size = w.heap.size := by simp [World.setCell]
/-- Rows under way: the header lies in block b; the first k rows are made, in blocks of their own. -/
theorem MatAt.put {lo hi : Nat} {w w' : World} {b off k : Nat} {zss : List (List Int)} {us : Nat → Value} {g : Nat → Nat} (r : MatAt lo hi w zss b off us g) (hs : hi ≤ w.heap.size) (hk : k < zss.length) (h0 : zss.getD k [] = [])
    {u : Value} {z : List Int} (hb : Below w.heap.size w w') (ho : Own w.heap.size w'.heap.size w' u z) :
    ∃ us' g', MatAt lo w'.heap.size (w'.setCell ⟨b, off + k, none⟩ u) (zss.set k z) b off us' g' := by
  have hbl : b < w.heap.size := Nat.lt_of_lt_of_le r.hb2 hs
  -- the block in which the new row lies, if there is one
  obtain ⟨q, hq1, hq2⟩ : ∃ q, Own q (q + 1) w' u z ∧ (z ≠ [] → w.heap.size ≤ q ∧ q < w'.heap.size) := by
    obtain ⟨a, cap, rfl, h1, h2, h3⟩ := ho
    rcases h3 with rfl | ⟨bb, o, rfl, k1, k2, hc⟩
    · exact ⟨0, ⟨a, cap, rfl, h1, h2, .inl rfl⟩, fun h => absurd rfl h⟩
    · exact ⟨bb, ⟨_, cap, rfl, h1, h2, .inr ⟨bb, o, rfl, Nat.le_refl _, Nat.lt_succ_self _, hc⟩⟩, fun _ => ⟨k1, k2⟩⟩
  have key : ∀ i, i ≠ k → (zss.set k z).getD i [] = zss.getD i [] := fun i h => getD_set_other h
  have same : (zss.set k z).getD k [] = z := getD_set_same hk
  have hcell := fun i (hi : i < zss.length) => (hb.cell (p := ⟨b, off + i, none⟩) hbl).trans (r.cell i hi)
  have hfz := fun i (hi : i < zss.length) => (hb.frozen (p := ⟨b, off + i, none⟩) hbl).trans (r.fz i hi)
  refine ⟨fun i => if i = k then u else us i, fun i => if i = k then q else g i, r.hb1, Nat.lt_of_lt_of_le r.hb2 (Nat.le_trans hs hb.size), fun i hi => ?_, fun i hi => ?_, fun i hi => ?_, fun i hi hne => ?_, fun i j hi hj hij n1 n2 => ?_⟩
  · rw [List.length_set] at hi
    by_cases e : i = k
    · subst e; simp only [if_pos]; exact World.cell?_setCell_same _ _ _ (hcell i hi)
    · rw [if_neg e, World.cell?_setCell_other _ _ _ _ (by intro h; injection h with _ h2; omega)]; exact hcell i hi
  · rw [List.length_set] at hi
    have := hfz i hi
    simpa [go_sem] using this
  · rw [List.length_set] at hi
    have far : ∀ l, l ≠ b → ∀ {x : Value} {y : List Int}, Own l (l + 1) w' x y → Own l (l + 1) (w'.setCell ⟨b, off + k, none⟩ u) x y := fun l hl x y o =>
      o.agree ((Agree.refl _ _ _).setCell (by show b < l ∨ l + 1 ≤ b; omega) _)
    by_cases e : i = k
    · subst e
      rw [same]
      simp only [if_pos]
      by_cases hz : z = []
      · subst hz; exact own_nil hq1 _ _
      · exact far q (by have := hq2 hz; omega) hq1
    · rw [key i e, if_neg e, if_neg e]
      by_cases hi0 : zss.getD i [] = []
      · have := r.row i hi
        rw [hi0] at this ⊢
        exact own_nil this _ _
      · obtain ⟨k1, k2, k3⟩ := r.at_ i hi hi0
        exact far _ k3 ((r.row i hi).agree (agree_below hb (Agree.refl _ _ _) (by omega)))
  · rw [List.length_set] at hi
    have hlo : lo ≤ w.heap.size := by have := r.hb1; omega
    by_cases e : i = k
    · subst e
      rw [same] at hne
      have := hq2 hne
      simp only [if_pos]
      omega
    · rw [key i e] at hne
      rw [if_neg e]
      have := r.at_ i hi hne
      have := hb.size
      omega
  · rw [List.length_set] at hi hj
    by_cases e : i = k
    · subst e
      rw [same] at n1
      have hj' : j ≠ i := fun h => hij h.symm
      rw [key j hj'] at n2
      have h1 := hq2 n1
      have h2 := r.at_ j hj n2
      simp only [if_pos, if_neg hj']
      omega
    · rw [key i e] at n1
      have h1 := r.at_ i hi n1
      by_cases e2 : j = k
      · subst e2
        rw [same] at n2
        have h2 := hq2 n2
        simp only [if_pos, if_neg e]
        omega
      · rw [key j e2] at n2
        rw [if_neg e, if_neg e2]
        exact r.apart i j hi hj hij n1 n2
/-- The rows of which the first k are copied. -/
def copied (zss : List (List Int)) (k : Nat) : List (List Int) := zss.take k ++ List.replicate (zss.length - k) []
theorem copied_len (zss : List (List Int)) (k : Nat) (h : k ≤ zss.length) : (copied zss k).length = zss.length := by simp [copied]; omega
theorem copied_at (zss : List (List Int)) (k : Nat) (h : k < zss.length) : (copied zss k).getD k [] = [] := by
  unfold copied
  rw [List.getD_eq_getElem?_getD, List.getElem?_append_right (by rw [List.length_take]; omega), List.length_take, List.getElem?_replicate]
  split <;> rfl
theorem copied_succ (zss : List (List Int)) (k : Nat) (h : k < zss.length) : copied zss (k + 1) = (copied zss k).set k (zss.getD k []) := by
  unfold copied
  rw [List.set_append_right _ _ (by rw [List.length_take]; omega), List.length_take, Nat.min_eq_left (by omega), Nat.sub_self, show zss.length - k = (zss.length - (k + 1)) + 1 by omega, List.replicate_succ, List.set_cons_zero]
  have e := List.take_succ_eq_append_getElem h
  rw [e, List.append_assoc]
  simp [List.getD_eq_getElem?_getD, h]
theorem copied_all (zss : List (List Int)) : copied zss zss.length = zss := by simp [copied]
def MadeM (zss : List (List Int)) (w : World) (e : Ending) (w' : World) : Prop := ∃ v, e = .returned v ∧ OwnMat w.heap.size w'.heap.size w' v zss ∧ Below w.heap.size w w'
theorem infoInts : (Try.prog.info? 23).map (fun i => (i.zero, i.size, i.bytes)) = some (some (.slice none 0 0), 1, 24) := by kernel_rfl
end Go.Proofs.Ytlnpmanghkeieaa
