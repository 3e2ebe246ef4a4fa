/- The drawn lists of banks: whatever the code; where they are a cartridge's banks, they are of the call's own. No condition. -/
import Derived.Test.YtadippkanlbgjaaDrawRom
import Derived.Test.YtadippkanlbgjaaPoke
import Derived.Deep.RegionLaw
namespace Go.Proofs.Ytadippkanlbgjaa
open Go.RowKit
set_option linter.unusedVariables false

/-- Behind the draw: rows, not too many. -/
def DrawnRom (w : World) (e : Ending) (w' : World) : Prop := ∃ v zss, e = .returned v ∧ Mat w' v zss ∧ (banksB zss = true → OwnMat w.heap.size w'.heap.size w' v zss) ∧ zss.length ≤ 8 ∧ sumLen zss ≤ 4000 ∧ Below w.heap.size w w'
theorem banks_sum {zss : List (List Int)} (h : banksB zss = true) : zss.length ≤ 4 ∧ sumLen zss ≤ 1024 ∧ 0 < zss.length ∧ ∀ i, i < zss.length → (zss.getD i []).length = 256 := by
  simp only [banksB, Bool.and_eq_true, inR_iff] at h
  obtain ⟨⟨h1, h2⟩, h3⟩ := h
  have hrow : ∀ i, i < zss.length → (zss.getD i []).length = 256 := fun i hi => by
    have : bankB (zss.getD i []) = true := List.all_eq_true.1 h3 (zss.getD i []) (by rw [List.getD_eq_getElem?_getD, List.getElem?_eq_getElem hi]; exact List.getElem_mem hi)
    exact (bankB_iff.1 this).1
  have key : ∀ l : List (List Int), (∀ z ∈ l, z.length = 256) → sumLen l = 256 * l.length := by
    intro l
    induction l with
    | nil => intro _; rfl
    | cons z r ih =>
      intro hz
      have := ih (fun y hy => hz y (List.mem_cons_of_mem _ hy))
      have h0 := hz z (List.mem_cons_self ..)
      simp only [sumLen, List.map_cons, List.sum_cons, List.length_cons] at this ⊢
      omega
  have := key zss (fun z hz => by
    obtain ⟨i, hi, rfl⟩ := List.getElem_of_mem hz
    have := hrow i hi
    rwa [List.getD_eq_getElem?_getD, List.getElem?_eq_getElem hi] at this)
  exact ⟨by omega, by omega, by omega, hrow⟩
theorem mat_of_ownV {w : World} {base : Nat} {v : Value} {us : List Value} {zss : List (List Int)} (h : OwnV w base 30 v us) (hl : us.length = zss.length) (hr : ∀ i, i < zss.length → Ints w (us.getD i (.bool false)) (zss.getD i [])) : Mat w v zss := by
  have ho := h
  unfold OwnV at ho
  rcases ho.2 with ⟨rfl, hn⟩ | ⟨b, cap, cur, rfl, hb, hh, hnc, hcm, hcs, htk⟩
  · have : zss = [] := List.eq_nil_of_length_eq_zero (by omega)
    subst this
    exact ⟨none, 0, rfl, Nat.le_refl _, Nat.zero_le _, .inl rfl⟩
  · refine ⟨some ⟨b, 0, none⟩, cap, by rw [hl], by omega, hcm, .inr ⟨b, 0, rfl, fun i hi => ⟨us.getD i (.bool false), ?_, hr i hi⟩⟩⟩
    have hi' : i < us.length := by omega
    rw [Nat.zero_add, ho.cellAt i (by omega), List.getD_eq_getElem?_getD, List.getElem?_eq_getElem hi']; rfl
theorem RowsAt.keepAt {rb base : Nat} {w w' : World} {v : Value} {zss : List (List Int)} {us : List Value} {g : Nat → Nat} (h : RowsAt base w v zss us g) (hK : Keep rb w w') (hr : rb < base) : RowsAt base w' v zss us g :=
  h.agree (fun k k1 k2 => hK.block k k2 (by omega)) hK.size
theorem ints_tail {w : World} {b o n c : Nat} {zs : List Int} (h : Ints w (.slice (some ⟨b, o, none⟩) n c) zs) (hz : 0 < zs.length) : Ints w (.slice (some ⟨b, o + 1, none⟩) (n - 1) (c - 1)) (zs.drop 1) := by
  obtain ⟨a', c', e, h1, h2, h3⟩ := h
  injection e with e1 e2 e3
  subst e1 e2 e3
  refine ⟨_, c - 1, by simp, by simp; omega, by omega, .inr ⟨b, o + 1, rfl, fun i hi => ?_⟩⟩
  have hi' : i + 1 < zs.length := by simp at hi; omega
  rcases h3 with h0 | ⟨b', off, e4, hc⟩
  · rw [h0] at hz; simp at hz
  · injection e4 with e5
    injection e5 with e6 e7
    subst e6 e7
    have := hc (i + 1) hi'
    rw [show o + 1 + i = o + (i + 1) by omega, this, List.getD_eq_getElem?_getD, List.getD_eq_getElem?_getD, List.getElem?_drop, Nat.add_comm 1 i]
theorem ints_sc {w : World} {b o n c q i : Nat} {zs : List Int} {v : Value} (h : Ints w (.slice (some ⟨b, o, none⟩) n c) zs) (hn : b ≠ q) : Ints (w.setCell ⟨q, i, none⟩ v) (.slice (some ⟨b, o, none⟩) n c) zs := by
  obtain ⟨a', c', e, h1, h2, h3⟩ := h
  injection e with e1 e2 e3
  subst e1 e2 e3
  refine ⟨_, c, rfl, h1, h2, ?_⟩
  rcases h3 with h0 | ⟨b', off, e4, hc⟩
  · exact .inl h0
  · injection e4 with e5
    injection e5 with e6 e7
    subst e6 e7
    exact .inr ⟨b, o, rfl, fun j hj => cell_sc (hc j hj) (.inl hn)⟩
theorem rows_ints {base : Nat} {w W w' : World} {v : Value} {zss : List (List Int)} {us : List Value} {g : Nat → Nat} (h : RowsAt base w v zss us g) (hb : Below w.heap.size w W) (hg : W.grownBy w' v.ownBlock) : ∀ i, i < zss.length → Ints w' (us.getD i (.bool false)) (zss.getD i []) := fun i hi => by
  by_cases h0 : zss.getD i [] = []
  · have := h.row i hi
    rw [h0] at this ⊢
    exact (own_nil this 0 0).ints
  · obtain ⟨k1, k2, k3⟩ := h.at_ i hi h0
    refine ((h.row i hi).agree fun j j1 j2 => ?_).ints
    obtain rfl : j = g i := by omega
    rw [hg.block _ (Nat.lt_of_lt_of_le k2 hb.size) (fun e => k3 e.symm), hb.block _ k2]
theorem banks_short {zss : List (List Int)} {z : List Int} (h : 0 < zss.length) (hz : z.length ≠ 256) : banksB (zss.set 0 z) = false := by
  unfold banksB
  rw [Bool.and_eq_false_iff]
  right
  rw [List.all_eq_false]
  exact ⟨z, List.mem_of_getElem? (i := 0) (by rw [List.getElem?_set_self h]), by simp [bankB, hz]⟩
theorem sum_set0 {zss : List (List Int)} {z : List Int} (h : 0 < zss.length) (hz : z.length ≤ (zss.getD 0 []).length) : sumLen (zss.set 0 z) ≤ sumLen zss := by
  cases zss with
  | nil => simp at h
  | cons a r => simp only [sumLen, List.set_cons_zero, List.map_cons, List.sum_cons, List.getD_cons_zero] at hz ⊢; omega
set_option maxHeartbeats 4000000 in
set_option maxRecDepth 20000 in
theorem draw_NewMemory {v : Value} {w : World} (h : IsBytes w v) : Calls Try.prog 32 #[v] w (DrawnRom w) := by
  go_enter Try.func32, Try.ntmps32
  go_wp2_with fail
  refine (l20Open h).mono ?_
  rintro e w1 ⟨rb, rfl, hrb, hR1, hb1⟩
  go_wp2_with fail
  refine (l20Rom hR1 (by omega)).mono ?_
  rintro e w2 ⟨v2, zss, rfl, hRows, hbk, hl3, hR2, hK2⟩
  have hlt1 := hR1.lt
  have hB2 : Hid (Below w.heap.size w w2) := hK2.below hb1 hrb
  have hs1 := hb1.size
  go_wp2_with fail
  refine (odd _ hR2 (by omega)).mono ?_
  rintro e w3 ⟨v, rfl, ⟨bb, rfl⟩, hR3, hK3⟩
  have hB3 : Hid (Below w.heap.size w w3) := hK3.below hB2.out hrb
  obtain ⟨us, g, r2⟩ := hRows
  have R3 := Lib.hid (r2.keepAt hK3 hlt1)
  have hBK := Lib.hid hbk
  obtain ⟨q1, q2, q3, q4⟩ := banks_sum hbk
  have hM3 := Lib.hid (RowsV.wide (b' := w.heap.size) ⟨us, g, R3.out⟩ hs1)
  have hz2 := hK2.size
  have hz3 := hK3.size
  clear r2 hR2 hK2 hK3 hb1 hbk
  cases bb
  · go_wp2_with fail
    go_ret
    exact ⟨_, zss, rfl, hM3.out.mat, fun _ => hM3.out, by omega, by omega, hB3.out⟩
  go_wp2_with fail
  refine (pick _ hR3 (by omega)).mono ?_
  rintro e w4 ⟨v4, rfl, ⟨x4, rfl, y4, z4⟩, hR4, hK4⟩
  have hB4 : Hid (Below w.heap.size w w4) := hK4.below hB3.out hrb
  have R4 := Lib.hid (R3.out.keepAt hK4 hlt1)
  have hM4 := Lib.hid (RowsV.wide (b' := w.heap.size) ⟨us, g, R4.out⟩ hs1)
  have hs4 := hB4.out.size
  have hz4 := hK4.size
  have hz14 : w1.heap.size ≤ w4.heap.size := by omega
  clear hR3 hK4 hR4 hM3 R3
  rcases (show x4 = 0 ∨ x4 = 1 ∨ x4 = 2 by omega) with rfl | rfl | rfl
  · go_wp2_with fail
    go_ret
    exact ⟨_, [], rfl, ⟨_, 0, rfl, Nat.le_refl _, Nat.zero_le _, .inl rfl⟩, fun h => by simp [banksB, inR] at h, by simp, by simp [sumLen], hB4.out.alloc hs4 _⟩
  · obtain ⟨ca, cap, hv2, c1, c2, c3⟩ := hM4.out
    rcases c3 with c0 | ⟨b, off, us', g', rfl, ma⟩
    · rw [c0] at q3; simp at q3
    · subst hv2
      have hcell := ma.cell 0 q3
      have hfz := ma.fz 0 q3
      have hrow := ma.row 0 q3
      have hz0 := q4 0 q3
      have hne : zss.getD 0 [] ≠ [] := by intro e; rw [e] at hz0; simp at hz0
      obtain ⟨ra, rc, hu0⟩ := own_shape hrow
      rw [hu0] at hcell hrow
      obtain ⟨d1, d2, rb0, ro, rfl, lb1, lb2, _, _, _, _⟩ := hrow.set (k := 0) (by omega)
      rw [hz0] at hcell d1
      have MA := Lib.hid ma
      have HI : Hid (Ints w4 (.slice (some ⟨rb0, ro + 1, none⟩) 255 (rc - 1)) ((zss.getD 0 []).drop 1)) := by have := ints_tail hrow.ints (by omega); rw [hz0] at this; exact this
      have hk1 : 0 < (zss.length : Int) := by omega
      have hcap : (cap : Int) ≤ 9223372036854775807 := by unfold maxLen at c2; omega
      have hg' : rb0 ≠ b := by have := (ma.at_ 0 q3 hne).2.2; omega
      have HZ := Lib.hid hz0
      rw [Nat.add_zero] at hcell hfz
      have hb1' := ma.hb1
      clear hrow ma hu0 hz0
      go_wp2_with fail
      go_ret
      refine ⟨_, zss.set 0 ((zss.getD 0 []).drop 1), rfl, ?_, fun hh => ?_, by simp; omega, Nat.le_trans (sum_set0 q3 (by simp)) (by omega), ?_⟩
      · refine ⟨_, cap, by simp, by simpa using c1, c2, .inr ⟨b, off, rfl, fun i hi => ?_⟩⟩
        rw [List.length_set] at hi
        by_cases e : i = 0
        · subst e
          rw [getD_set_same q3]
          exact ⟨_, by rw [Nat.add_zero]; exact World.cell?_setCell_same _ _ _ hcell, ints_sc HI.out hg'⟩
        · rw [getD_set_other e]
          refine ⟨us' i, cell_sc (MA.out.cell i hi) (.inr (by omega)), ?_⟩
          by_cases h0 : zss.getD i [] = []
          · have := MA.out.row i hi
            rw [h0] at this ⊢
            exact (own_nil this 0 0).ints
          · obtain ⟨k1, k2, k3⟩ := MA.out.at_ i hi h0
            exact ((MA.out.row i hi).agree ((Agree.refl _ _ _).setCell (by show b < g' i ∨ g' i + 1 ≤ b; omega) _)).ints
      · rw [banks_short q3 (by rw [List.length_drop, HZ.out]; decide)] at hh; cases hh
      · exact hB4.out.setCell (p := ⟨b, off, none⟩) hb1' _
  · have ho := R4.out.own
    unfold OwnV at ho
    have hul := R4.out.len
    rcases ho.2 with ⟨_, hn⟩ | ⟨b, cap, cur, hv2, hb, hh, hnc, hcm, hcs, htk⟩
    · omega
    · have hrow := R4.out.row 0 q3
      obtain ⟨ra, rc, hu0⟩ := own_shape hrow
      have hcell : w4.cell? ⟨b, 0, none⟩ = some (.slice ra (zss.getD 0 []).length rc) := by
        subst hv2
        rw [ho.cellAt 0 (by omega), ← hu0, List.getD_eq_getElem?_getD, List.getElem?_eq_getElem (by omega)]; rfl
      have hk1 : 0 < (us.length : Int) := by omega
      have hk2 : 0 < us.length := by omega
      have hcap : (cap : Int) ≤ 9223372036854775807 := by unfold maxLen at hcm; omega
      have R5 := Lib.hid (R4.out.agree (w' := w4.drew) (fun _ _ _ => rfl) (Nat.le_refl _))
      have hB5 : Hid (Below w.heap.size w w4.drew) := hB4.out.drew
      have hHR := Lib.hid hrow
      have hs5 : w1.heap.size ≤ w4.drew.heap.size := hz14
      subst hv2
      clear ho hh hcs htk hM4
      have hul2 : us.length ≤ 8 := by omega
      have hzb : (zss.getD 0 []).length ≤ 256 := by have := q4 0 q3; omega
      have hsl : ∀ i, i < zss.length + 4 → ((zss ++ [zss.getD 0 [], zss.getD 0 [], zss.getD 0 [], zss.getD 0 []]).getD i []) = if i < zss.length then zss.getD i [] else zss.getD 0 [] := by
        intro i hi
        by_cases hlt : i < zss.length
        · rw [if_pos hlt, List.getD_eq_getElem?_getD, List.getElem?_append_left hlt, ← List.getD_eq_getElem?_getD]
        · rw [if_neg hlt, List.getD_eq_getElem?_getD, List.getElem?_append_right (by omega)]
          rcases (show i - zss.length = 0 ∨ i - zss.length = 1 ∨ i - zss.length = 2 ∨ i - zss.length = 3 by omega) with e | e | e | e <;> rw [e] <;> rfl
      have hsu : ∀ (x : Value) i, i < us.length + 4 → (us ++ [x, x, x, x]).getD i (.bool false) = if i < us.length then us.getD i (.bool false) else x := by
        intro x i hi
        by_cases hlt : i < us.length
        · rw [if_pos hlt, List.getD_eq_getElem?_getD, List.getElem?_append_left hlt, ← List.getD_eq_getElem?_getD]
        · rw [if_neg hlt, List.getD_eq_getElem?_getD, List.getElem?_append_right (by omega)]
          rcases (show i - us.length = 0 ∨ i - us.length = 1 ∨ i - us.length = 2 ∨ i - us.length = 3 by omega) with e | e | e | e <;> rw [e] <;> rfl
      have HSL := Lib.hid hsl
      have HSU := Lib.hid hsu
      have HU0 := Lib.hid hu0
      have HUL := Lib.hid hul
      have HRO := Lib.hid hrow.ints
      clear hsl hsu hu0 hul hHR hrow
      generalize hzz : zss.getD 0 [] = z0 at *
      have FIN : Hid (∀ (w9 : World) (v9 : Value) (W : World), Below w4.drew.heap.size w4.drew W → OwnV w9 w1.heap.size 30 v9 (us ++ [.slice ra z0.length rc, .slice ra z0.length rc, .slice ra z0.length rc, .slice ra z0.length rc]) → W.grownBy w9 (Value.slice (some ⟨b, 0, none⟩) us.length cap).ownBlock → DrawnRom w (.returned v9) w9) := fun w9 v9 W hb ow hg => by
        have hints := rows_ints R5.out hb hg
        have hul' := HUL.out
        have h0 : Ints w9 (.slice ra z0.length rc) z0 := by
          have := hints 0 q3
          rwa [HU0.out, hzz] at this
        have hX : Below w.heap.size w W := hB5.out.trans (hb.mono hB5.out.size)
        refine ⟨v9, zss ++ [z0, z0, z0, z0], rfl, mat_of_ownV ow (by simp; omega) (fun i hi => ?_), fun hh => ?_, by simp; omega, ?_, ?_⟩
        · have hi' : i < zss.length + 4 := by simpa using hi
          rw [HSU.out _ i (by omega), HSL.out i hi']
          by_cases hlt : i < zss.length
          · rw [if_pos (by omega), if_pos hlt]; exact hints i hlt
          · rw [if_neg (by omega), if_neg hlt]; exact h0
        · exfalso
          have := (banks_sum hh).1
          rw [List.length_append, show [z0, z0, z0, z0].length = 4 from rfl] at this
          omega
        · have e4 : sumLen [z0, z0, z0, z0] = 4 * z0.length := by simp [sumLen]; omega
          rw [sumLen_append, e4]
          omega
        · exact below_app hX hg R5.out.own hX.size hs1
      clear hzz
      go_wp2_with fail
      go_region_law (refine step_appR rfl _ _ rfl w1.heap.size _ _ us [.slice ra z0.length rc, .slice ra z0.length rc, .slice ra z0.length rc, .slice ra z0.length rc] rfl rfl (R5.out.own.alloc _) (Holds.lit _ _ _ _ _ rfl (Nat.le_refl _)) (by intro x hx; simp at hx; subst hx; rfl) (by simp; omega) (by simp; omega) ?_; intro v9 w9 ow9 hg9 _)
      all_goals
        have fin := Lib.hid (FIN.out _ _ _ ((Below.refl _ _).alloc (Nat.le_refl _) _) ow9 hg9)
        clear ow9 hg9
        go_wp2_with fail
        go_ret
        exact fin.out
end Go.Proofs.Ytadippkanlbgjaa
