/- The law FnMemoryValid: for every input it answers true, and changes nothing that was there. No condition. -/
import Derived.Test.YtadippkanlbgjaaDrawMems
import Derived.Test.YtadippkanlbgjaaDrawByte
import Derived.Test.YtadippkanlbgjaaMemRead
import Derived.Test.YtadippkanlbgjaaMemFns
import Derived.Test.YtadippkanlbgjaaSame
import Derived.Test.YtadippkanlbgjaaCellsN
import Derived.Deep.RegionHeld3
import Derived.Deep.RegionWith
import Derived.Deep.DrawnRows
namespace Go.Proofs.Ytadippkanlbgjaa
open Go.ChangeShapes Go.WideShapes Go.ChangeAt Go.RowKit
set_option linter.unusedVariables false
attribute [local go_sem ↓] Go.wp_at_zero Go.wp_at_succ

/-- The values that a table's cells hold. -/
theorem mat_heads {w : World} {b o n c : Nat} {zss : List (List Int)} (h : Mat w (.slice (some ⟨b, o, none⟩) n c) zss) : ∃ us : List Value, us.length = zss.length ∧ (∀ x ∈ us, x.oneCell' = true) ∧ ∀ i, i < zss.length → w.cell? ⟨b, o + i, none⟩ = some (us.getD i (.bool false)) ∧ Ints w (us.getD i (.bool false)) (zss.getD i []) := by
  obtain ⟨a, cap, e, h1, h2, h3⟩ := h
  injection e with e1 e2 e3
  subst e1 e2 e3
  rcases h3 with h0 | ⟨b', o', e, hc⟩
  · subst h0
    exact ⟨[], rfl, by simp, fun i hi => by simp at hi⟩
  · injection e with e
    injection e with e1 e2
    subst e1 e2
    have hc' : ∀ i, ∃ u, i < zss.length → w.cell? ⟨b, o + i, none⟩ = some u ∧ Ints w u (zss.getD i []) := fun i => by
      by_cases hi : i < zss.length
      · obtain ⟨u, h⟩ := hc i hi
        exact ⟨u, fun _ => h⟩
      · exact ⟨.bool false, fun h => absurd h hi⟩
    obtain ⟨f, hf⟩ := Classical.axiomOfChoice hc'
    have hg : ∀ i, i < zss.length → ((List.range zss.length).map f).getD i (.bool false) = f i := fun i hi => by
      rw [List.getD_eq_getElem?_getD, List.getElem?_map, List.getElem?_range hi]; rfl
    refine ⟨(List.range zss.length).map f, by simp, ?_, fun i hi => ?_⟩
    · intro x hx
      obtain ⟨i, hi, rfl⟩ := List.mem_map.1 hx
      obtain ⟨_, _, e, _⟩ := (hf i (List.mem_range.1 hi)).2
      rw [e]; rfl
    · rw [hg i hi]; exact hf i hi
theorem six_row {W : World} {b : Nat} {x y z : Value} (h : Six W b x y z) : W.cell? ⟨b, 0, none⟩ = some x ∧ W.cell? ⟨b, 1, none⟩ = some y ∧ W.cell? ⟨b, 2, none⟩ = some z := ⟨h.1, h.2.1, h.2.2.1⟩
theorem MemV.mk' {w : World} {x y : Value} {ram : List Int} {rom : List (List Int)} {bank : Int} (h : Ints w x ram) (g : Mat w y rom) : MemV w (.agg #[x, y, .int .i64 bank]) ram rom bank := ⟨x, y, rfl, h, g⟩
theorem mat_fin9 {w3 Z : World} {base : Nat} {v row0 : Value} {ut : List Value} {z0 : List Int} {zt : List (List Int)} (O : OwnV Z base 30 v (row0 :: ut)) (h0 : Ints w3 row0 z0) (hut : ∀ i, i < zt.length → Ints w3 (ut.getD i (.bool false)) (zt.getD i [])) (hl : ut.length = zt.length) (hb : Below w3.heap.size w3 Z) : Mat Z v (z0 :: zt) :=
  mat_of_ownV O (by simp [hl]) (fun i hi => by
    cases i with
    | zero => exact h0.below hb
    | succ i =>
      have := (hut i (by simpa using hi)).below hb
      simpa using this)
theorem MemV.rebank {w : World} {x y : Value} {k : Int} {ram : List Int} {rom : List (List Int)} {bank : Int} (h : MemV w (.agg #[x, y, .int .i64 k]) ram rom bank) (q : Int) : MemV w (.agg #[x, y, .int .i64 q]) ram rom q := by
  obtain ⟨a, b, e, h1, h2⟩ := h
  injection e with e
  simp at e
  obtain ⟨rfl, rfl, rfl⟩ := e
  exact ⟨_, _, rfl, h1, h2⟩
theorem ownV_any {w : World} {base e : Nat} {v : Value} {vs : List Value} (h : OwnV w base e v vs) : ∃ a n c, v = .slice a n c := by
  obtain ⟨a, c, h⟩ := ownV_shape h
  exact ⟨a, _, c, h⟩
theorem holds_below {w w' : World} {u : Value} {us : List Value} (h : Holds w u us) (hb : Below w.heap.size w w') : Holds w' u us := by
  obtain ⟨a, cap, e, h1, h2⟩ := h
  refine ⟨a, cap, e, h1, ?_⟩
  rcases h2 with h0 | ⟨b, off, e2, hc⟩
  · exact .inl h0
  · refine .inr ⟨b, off, e2, fun i hi => ?_⟩
    have hc' := hc i hi
    rw [List.getElem?_eq_getElem hi] at hc' ⊢
    exact cell_below hb hc'
theorem cells4_set {W : World} {b1 b2 q i : Nat} {v : Value} {o0 o1 o2 o3 : Nat} {v0 v1 v2 v3 : Value} (h1 : b1 ≠ q) (h2 : b2 ≠ q)
    (h : W.cell? ⟨b1, o0, none⟩ = some v0 ∧ W.cell? ⟨b1, o1, none⟩ = some v1 ∧ W.cell? ⟨b1, o2, none⟩ = some v2 ∧ W.cell? ⟨b2, o3, none⟩ = some v3) :
    (W.setCell ⟨q, i, none⟩ v).cell? ⟨b1, o0, none⟩ = some v0 ∧ (W.setCell ⟨q, i, none⟩ v).cell? ⟨b1, o1, none⟩ = some v1 ∧ (W.setCell ⟨q, i, none⟩ v).cell? ⟨b1, o2, none⟩ = some v2 ∧ (W.setCell ⟨q, i, none⟩ v).cell? ⟨b2, o3, none⟩ = some v3 := by
  obtain ⟨e0, e1, e2, e3⟩ := h
  exact ⟨cell_sc e0 (.inl h1), cell_sc e1 (.inl h1), cell_sc e2 (.inl h1), cell_sc e3 (.inl h2)⟩
set_option maxHeartbeats 4000000 in
set_option maxRecDepth 20000 in
theorem walk_FnMemoryValid (v0 : Value) (w : World) (y0 : IsBytes w v0) : Calls Try.prog 5 #[v0] w fun e w' => e = .returned (.bool true) ∧ Below w.heap.size w w' := by
  have hY := Lib.hid y0
  obtain ⟨a, len, cap, zs, rfl, _⟩ := y0
  by_cases hl : (1048576 : Int) < (len : Int)
  · go_enter Try.func5, Try.ntmps5
    go_wp2_with fail
    go_ret
    exact ⟨rfl, Below.refl _ _⟩
  go_enter Try.func5, Try.ntmps5
  go_wp2_with fail
  refine (draw_MemoryValid hY.out).mono ?_
  rintro e w1 ⟨v1, ram, rom, bank, rfl, hm, hr1, hr2, hr3, hb1⟩
  have HM := Lib.hid hm
  have hB1 := Lib.hid hb1
  obtain ⟨xa, xc, xb, xd, rfl, k1, k2, k3, k4⟩ := memV_shape hm
  clear hm hb1
  obtain ⟨nr, hnr⟩ : ∃ nr, nr = rom.length := ⟨_, rfl⟩
  have hRL := Lib.hid hnr
  rw [← hnr] at HM
  rw [← hnr]
  clear hnr
  cases hv : memB ram rom bank
  · skip
    go_wp2_with fail
    refine (calls_eqv (impl_MemoryValid (HM.out.alloc _)) hv).mono ?_
    rintro e w2 ⟨rfl, hb2⟩
    have t2 := six_below hb2 (six_lit rfl)
    have b12 : Hid (Below w1.heap.size w1 w2) := ((Below.refl _ _).alloc (Nat.le_refl _) _).trans (hb2.mono (by simp))
    clear hb2
    obtain ⟨x20, x21, x22, x23, x24, x25⟩ := id t2
    go_wp2_with fail
    refine (calls_eqv (spec_MemoryValid (HM.out.below b12.out)) hv).mono ?_
    rintro e w3 ⟨rfl, hb3⟩
    have t3 := six_below hb3 t2
    have b13 : Hid (Below w1.heap.size w1 w3) := b12.out.trans (hb3.mono b12.out.size)
    clear hb3 x20 x21 x22 x23 x24 x25 t2
    have hB3 : Hid (Below w.heap.size w w3) := hB1.out.trans (b13.out.mono hB1.out.size)
    go_wp2_with (first | (go_at_call 21; refine (laws_alive _).mono ?_; rintro e w' ⟨rfl, rfl⟩))
    go_ret
    exact ⟨rfl, hB3.out⟩
  · skip
    go_wp2_with fail
    refine (calls_eqv (impl_MemoryValid (HM.out.alloc _)) hv).mono ?_
    rintro e w2 ⟨rfl, hb2⟩
    have t2 := six_below hb2 (six_lit rfl)
    have b12 : Hid (Below w1.heap.size w1 w2) := ((Below.refl _ _).alloc (Nat.le_refl _) _).trans (hb2.mono (by simp))
    clear hb2
    obtain ⟨x20, x21, x22, x23, x24, x25⟩ := id t2
    go_wp2_with fail
    refine (calls_eqv (spec_MemoryValid (HM.out.below b12.out)) hv).mono ?_
    rintro e w3 ⟨rfl, hb3⟩
    have t3 := six_below hb3 t2
    have b13 : Hid (Below w1.heap.size w1 w3) := b12.out.trans (hb3.mono b12.out.size)
    clear hb3 x20 x21 x22 x23 x24 x25 t2
    have hs := shp_of hv
    have hbR : Hid (memB ram rom (rom.length : Int) = false) := by
      show _ = _
      cases h : memB ram rom (rom.length : Int)
      · rfl
      · have := inR_iff.1 (memB_iff.1 h).2.2
        omega
    have hbS : Hid (memB ram ((rom.getD 0 []).drop 1 :: rom.drop 1) bank = false) := by
      show _ = _
      cases h : memB ram ((rom.getD 0 []).drop 1 :: rom.drop 1) bank
      · rfl
      · have h1 := (shp_of h).row 0 (by simp)
        have h2 := hs.row 0 hs.n
        simp only [List.getD_cons_zero, List.length_drop] at h1
        omega
    obtain ⟨hi, hmm⟩ := memV_parts (HM.out.below b13.out)
    obtain ⟨qa, q5, q6, bb, bo, a0, c0, hbe, hbb, hb0, hi0⟩ := mat_at_ hmm (k := 0) hs.n
    subst hbe
    obtain ⟨us, hul, hu1, huc⟩ := mat_heads hmm
    have hl0 := hs.row 0 hs.n
    obtain ⟨qb, q8, q9, db, dof, rfl, hdb, hdc⟩ := ints_at_ hi0 (k := 0) (by omega)
    have hn := hs.n
    have hnr := hRL.out
    obtain ⟨l0, hl0'⟩ : ∃ l0, l0 = (rom.getD 0 []).length := ⟨_, rfl⟩
    have HusB : Hid (¬ xd = 1 → Hid (Holds w3 (.slice (some ⟨bb, bo + 1, none⟩) (nr - 1) (xd - 1)) (us.drop 1))) := by
      intro hxd
      refine ⟨_, xd - 1, by rw [List.length_drop, hul, hnr], by rw [List.length_drop]; omega, ?_⟩
      refine .inr ⟨bb, bo + 1, rfl, fun i hi => ?_⟩
      rw [List.length_drop] at hi
      have := (huc (1 + i) (by omega)).1
      rw [show bo + 1 + i = bo + (1 + i) by omega, this, List.getElem?_drop, List.getD_eq_getElem?_getD, List.getElem?_eq_getElem (by omega)]; rfl
    have hrows : Hid (∀ i, i < nr - 1 → Ints w3 ((us.drop 1).getD i (.bool false)) ((rom.drop 1).getD i [])) := fun i hi => by
      have := (huc (i + 1) (by omega)).2
      simpa [List.getD_eq_getElem?_getD, List.getElem?_drop] using this
    have ht0 : Hid (Ints w3 (.slice (some ⟨db, dof + 1, none⟩) (l0 - 1) (c0 - 1)) ((rom.getD 0 []).drop 1)) := by rw [hl0']; exact ints_tail hi0 (by omega)
    have hiR := Lib.hid hi
    obtain ⟨s0, s1, s2⟩ := six_row t3
    have S3 : Hid (w3.cell? ⟨w1.heap.size, 0, none⟩ = some (.slice xa ram.length xc) ∧ w3.cell? ⟨w1.heap.size, 1, none⟩ = some (.slice (some ⟨bb, bo, none⟩) nr xd) ∧ w3.cell? ⟨w1.heap.size, 2, none⟩ = some (.int .i64 bank) ∧ w3.cell? ⟨bb, bo, none⟩ = some (.slice (some ⟨db, dof, none⟩) (rom.getD 0 []).length c0)) := ⟨s0, s1, s2, hb0⟩
    have hw13 : w1.heap.size < w3.heap.size := block_lt_of_cell s0
    have hlen : Hid (us.length = nr) := by show _ = _; omega
    have hx1 : ((1 : Nat) : Int) ≤ (l0 : Int) := by omega
    have hx2 : (1 : Int) ≤ (nr : Int) := by omega
    have hx3 : (l0 : Int) ≤ (c0 : Int) := by omega
    have hx4 : (nr : Int) ≤ (xd : Int) := by omega
    have hxa : (1 : Int) ≤ (l0 : Int) := by omega
    have hn1 : 0 < nr := by omega
    have hl1 : 0 < l0 := by omega
    have hc3 : Hid (nr ≤ 4) := by have := hs.n4; show _ ≤ _; omega
    have hc1 : ¬ c0 = 1 := by omega
    have hxb : 1 ≤ l0 := by omega
    have hxc : 1 ≤ nr := by omega
    rw [← hl0'] at S3
    rw [← hnr] at hbR
    have hRD : Hid (((rom.getD 0 []).drop 1 :: rom.drop 1).length = 1 + (nr - 1)) := by show _ = _; rw [List.length_cons, List.length_drop]; omega
    have hu1' := Lib.hid hu1
    clear qa qb hl0 hl0' hs hn hnr hi hmm hi0 q5 q6 q8 q9 hb0 hdc huc hul hu1 hv hr1 hr2 hr3 k1 k2 k3 k4
    by_cases hxd : xd = 1
    · obtain rfl : nr = 1 := by omega
      subst hxd
      have hus : Hid (Holds w3 (.slice (some ⟨bb, bo, none⟩) 0 0) (us.drop 1)) := by
        have e : us.drop 1 = [] := List.eq_nil_of_length_eq_zero (by have := hlen.out; simp; omega)
        rw [e]
        exact ⟨_, 0, rfl, Nat.le_refl _, .inl rfl⟩
      go_upto_region 10 with fail
      obtain ⟨Y, hY0⟩ : ∃ Y, Y = w3.alloc (.cells #[.slice xa ram.length xc, .slice (some ⟨bb, bo, none⟩) 1 1, .int .i64 bank] 42) := ⟨_, rfl⟩
      have S5 : Hid (Six Y w3.heap.size (.slice xa ram.length xc) (.slice (some ⟨bb, bo, none⟩) 1 1) (.int .i64 bank)) := by rw [hY0]; exact six_lit rfl
      have SY : Hid (Y.cell? ⟨w1.heap.size, 0, none⟩ = some (.slice xa ram.length xc) ∧ Y.cell? ⟨w1.heap.size, 1, none⟩ = some (.slice (some ⟨bb, bo, none⟩) 1 1) ∧ Y.cell? ⟨w1.heap.size, 2, none⟩ = some (.int .i64 bank) ∧ Y.cell? ⟨bb, bo, none⟩ = some (.slice (some ⟨db, dof, none⟩) l0 c0)) := by rw [hY0]; exact cells4_alloc _ S3.out
      have b3Y : Hid (Below w3.heap.size w3 Y) := by rw [hY0]; exact (Below.refl _ _).alloc (Nat.le_refl _) _
      have hYs : Y.heap.size = w3.heap.size + 1 := by rw [hY0]; simp
      rw [← hY0]
      clear hY0
      obtain ⟨f0, f1, f2, g0, g1, g2⟩ := id S5.out
      have hY3 : w3.heap.size < Y.heap.size := by omega
      have hY3' : w3.heap.size < Y.heap.size + 1 := by omega
      have hne1 : w1.heap.size ≠ w3.heap.size := by omega
      have hne2 : bb ≠ w3.heap.size := by omega
      obtain ⟨R0, hR0⟩ : ∃ R0 : Value, R0 = .slice (some ⟨db, dof + 1, none⟩) (l0 - 1) (c0 - 1) := ⟨_, rfl⟩
      obtain ⟨W8, hW8⟩ : ∃ W8, W8 = (Y.alloc (.cells #[.slice (some ⟨db, dof + 1, none⟩) (l0 - 1) (c0 - 1)] 30)).drew := ⟨_, rfl⟩
      have O8 : Hid (OwnV W8 Y.heap.size 30 (.slice (some ⟨Y.heap.size, 0, none⟩) 1 1) [.slice (some ⟨db, dof + 1, none⟩) (l0 - 1) (c0 - 1)]) := by rw [hW8]; exact (OwnV.lit (n := 1) #[.slice (some ⟨db, dof + 1, none⟩) (l0 - 1) (c0 - 1)] _ (Nat.le_refl _) rfl (by decide)).drew
      have BY8 : Hid (Below Y.heap.size Y W8) := by rw [hW8]; exact ((Below.refl _ _).alloc (Nat.le_refl _) _).drew
      have H8 := Lib.hid (holds_below hus.out (b3Y.out.trans (BY8.out.mono (by omega))))
      have S8 : Hid (W8.cell? ⟨w1.heap.size, 0, none⟩ = some (.slice xa ram.length xc) ∧ W8.cell? ⟨w1.heap.size, 1, none⟩ = some (.slice (some ⟨bb, bo, none⟩) 1 1) ∧ W8.cell? ⟨w1.heap.size, 2, none⟩ = some (.int .i64 bank) ∧ W8.cell? ⟨bb, bo, none⟩ = some (.slice (some ⟨db, dof, none⟩) l0 c0)) := cells4_below BY8.out SY.out
      rw [hW8] at O8 H8 S8 BY8
      clear hW8 hR0 hYs
      go_region_held3 (fun w' => w'.cell? ⟨w1.heap.size, 0, none⟩ = some (.slice xa ram.length xc) ∧ w'.cell? ⟨w1.heap.size, 1, none⟩ = some (.slice (some ⟨bb, bo, none⟩) 1 1) ∧ w'.cell? ⟨w1.heap.size, 2, none⟩ = some (.int .i64 bank) ∧ w'.cell? ⟨bb, bo, none⟩ = some (.slice (some ⟨db, dof, none⟩) l0 c0)) (first | with_reducible exact S10.out | with_reducible exact S9.out | with_reducible exact S8.out | with_reducible exact cells4_drew SY.out | with_reducible exact cells4_drew (cells4_alloc _ (cells4_set hne1 hne2 SY.out)) | with_reducible exact cells4_alloc _ (cells4_set hne1 hne2 SY.out))
        (first
          | (refine step_appR rfl _ _ rfl Y.heap.size (.slice (some ⟨_, 0, none⟩) 1 1) (.slice (some ⟨bb, bo + 1, none⟩) (1 - 1) (1 - 1)) [.slice (some ⟨db, dof + 1, none⟩) (l0 - 1) (c0 - 1)] (us.drop 1) rfl rfl ?_ ?_ ?_ ?_ ?_ ?_; exact O8.out; exact H8.out; exact (fun x hx => hu1'.out x (List.mem_of_mem_drop hx)); (have e1 := hlen.out; have e2 := hc3.out; simp; omega); exact BY8.out.size; intro v9 w9 ow9 hg9 _; (have b9 : Hid (Below Y.heap.size Y w9) := below_app BY8.out hg9 O8.out BY8.out.size (Nat.le_refl _)); (have S9 := Lib.hid (cells4_below b9.out SY.out)); (have F9 := six_be b9.out S5.out hY3); (have S10 := Lib.hid (cells4_set (i := 1) (v := v9) hne1 hne2 S9.out)); obtain ⟨a9, n9, c9, rfl⟩ := ownV_any ow9; obtain ⟨f90, f91, f92, g90, g91, g92⟩ := id F9))
      all_goals
        have hbA : Hid (Below w3.heap.size w3 (((Y.setCell ⟨w3.heap.size, 1, none⟩ (.slice (some ⟨Y.heap.size, 0, none⟩) 1 1)).alloc (.cells #[.slice (some ⟨db, dof + 1, none⟩) (l0 - 1) (c0 - 1)] 30)).drew)) := by show Below _ _ _; exact ((b3Y.out.setCell (p := ⟨w3.heap.size, 1, none⟩) (Nat.le_refl _) _).alloc (by rw [size_set]; exact b3Y.out.size) _).drew
        have OA : OwnV (((Y.setCell ⟨w3.heap.size, 1, none⟩ (.slice (some ⟨Y.heap.size, 0, none⟩) 1 1)).alloc (.cells #[.slice (some ⟨db, dof + 1, none⟩) (l0 - 1) (c0 - 1)] 30)).drew) Y.heap.size 30 (.slice (some ⟨Y.heap.size, 0, none⟩) 1 1) ((.slice (some ⟨db, dof + 1, none⟩) (l0 - 1) (c0 - 1)) :: us.drop 1) := by
          have e : us.drop 1 = [] := List.eq_nil_of_length_eq_zero (by have := hlen.out; simp; omega)
          rw [e]
          have := (OwnV.lit (w := Y.setCell ⟨w3.heap.size, 1, none⟩ (.slice (some ⟨Y.heap.size, 0, none⟩) 1 1)) (base := Y.heap.size) (n := 1) #[.slice (some ⟨db, dof + 1, none⟩) (l0 - 1) (c0 - 1)] 30 (by rw [size_set]; exact Nat.le_refl _) rfl (by decide)).drew
          rwa [size_set] at this
        have MA : Hid (MemV (((Y.setCell ⟨w3.heap.size, 1, none⟩ (.slice (some ⟨Y.heap.size, 0, none⟩) 1 1)).alloc (.cells #[.slice (some ⟨db, dof + 1, none⟩) (l0 - 1) (c0 - 1)] 30)).drew) (.agg #[.slice xa ram.length xc, (.slice (some ⟨Y.heap.size, 0, none⟩) 1 1), .int .i64 bank]) ram ((rom.getD 0 []).drop 1 :: rom.drop 1) bank) := MemV.mk' (hiR.out.below hbA.out) (mat_fin9 OA ht0.out (fun i hi => hrows.out i (by have := hRD.out; simp only [List.length_cons] at this; omega)) (by have := hRD.out; have := hlen.out; simp only [List.length_cons] at *; rw [List.length_drop]; omega) hbA.out)
        have SZ := Lib.hid (cells4_drew (cells4_alloc (.cells #[.slice (some ⟨db, dof + 1, none⟩) (l0 - 1) (c0 - 1)] 30) (cells4_set (i := 1) (v := .slice (some ⟨Y.heap.size, 0, none⟩) 1 1) hne1 hne2 SY.out)))
        have FZ := Lib.hid (six_drew (six_alloc (.cells #[.slice (some ⟨db, dof + 1, none⟩) (l0 - 1) (c0 - 1)] 30) (six_set1 (v := .slice (some ⟨Y.heap.size, 0, none⟩) 1 1) S5.out)))
        have HMZ : Hid (MemV (((Y.setCell ⟨w3.heap.size, 1, none⟩ (.slice (some ⟨Y.heap.size, 0, none⟩) 1 1)).alloc (.cells #[.slice (some ⟨db, dof + 1, none⟩) (l0 - 1) (c0 - 1)] 30)).drew) (.agg #[.slice xa ram.length xc, .slice (some ⟨bb, bo, none⟩) 1 1, .int .i64 bank]) ram rom bank) := HM.out.below (b13.out.trans (hbA.out.mono b13.out.size))
        have hB3 : Hid (Below w.heap.size w w3) := hB1.out.trans (b13.out.mono hB1.out.size)
        have hBZ : Hid (Below w.heap.size w (((Y.setCell ⟨w3.heap.size, 1, none⟩ (.slice (some ⟨Y.heap.size, 0, none⟩) 1 1)).alloc (.cells #[.slice (some ⟨db, dof + 1, none⟩) (l0 - 1) (c0 - 1)] 30)).drew)) := hB3.out.trans (hbA.out.mono hB3.out.size)
        generalize (((Y.setCell ⟨w3.heap.size, 1, none⟩ (.slice (some ⟨Y.heap.size, 0, none⟩) 1 1)).alloc (.cells #[.slice (some ⟨db, dof + 1, none⟩) (l0 - 1) (c0 - 1)] 30)).drew) = Z at *
        obtain ⟨z0, z1, z2, z3⟩ := id SZ.out
        obtain ⟨y0, y1, y2, _, _, _⟩ := id FZ.out
        have hZ3 : w3.heap.size < Z.heap.size := block_lt_of_cell y0
        have hZ1 : w1.heap.size < Z.heap.size := block_lt_of_cell z0
        clear S3 S5 SY S8 O8 H8 BY8 f0 f1 f2 g0 g1 g2 OA
        go_wp2_with fail
        refine (calls_eqv (impl_MemoryValid (MA.out.alloc _)) hbS.out).mono ?_
        rintro e wA ⟨rfl, hbA1⟩
        have t6 := six_below hbA1 (six_lit rfl)
        obtain ⟨v0, v1, v2, _, _, _⟩ := id t6
        have bZA : Hid (Below Z.heap.size Z wA) := ((Below.refl _ _).alloc (Nat.le_refl _) _).trans (hbA1.mono (by simp))
        clear hbA1
        go_wp2_with fail
        refine (calls_eqv (impl_MemoryValid (MemV.rebank (HMZ.out.below bZA.out) _)) hbR.out).mono ?_
        rintro e wB ⟨rfl, hbB⟩
        go_wp2_with fail
        go_ret
        exact ⟨rfl, (hBZ.out.trans (bZA.out.mono hBZ.out.size)).trans (hbB.mono (hBZ.out.trans (bZA.out.mono hBZ.out.size)).size)⟩
    · have hus := HusB.out hxd
      go_upto_region 10 with fail
      obtain ⟨Y, hY0⟩ : ∃ Y, Y = w3.alloc (.cells #[.slice xa ram.length xc, .slice (some ⟨bb, bo, none⟩) nr xd, .int .i64 bank] 42) := ⟨_, rfl⟩
      have S5 : Hid (Six Y w3.heap.size (.slice xa ram.length xc) (.slice (some ⟨bb, bo, none⟩) nr xd) (.int .i64 bank)) := by rw [hY0]; exact six_lit rfl
      have SY : Hid (Y.cell? ⟨w1.heap.size, 0, none⟩ = some (.slice xa ram.length xc) ∧ Y.cell? ⟨w1.heap.size, 1, none⟩ = some (.slice (some ⟨bb, bo, none⟩) nr xd) ∧ Y.cell? ⟨w1.heap.size, 2, none⟩ = some (.int .i64 bank) ∧ Y.cell? ⟨bb, bo, none⟩ = some (.slice (some ⟨db, dof, none⟩) l0 c0)) := by rw [hY0]; exact cells4_alloc _ S3.out
      have b3Y : Hid (Below w3.heap.size w3 Y) := by rw [hY0]; exact (Below.refl _ _).alloc (Nat.le_refl _) _
      have hYs : Y.heap.size = w3.heap.size + 1 := by rw [hY0]; simp
      rw [← hY0]
      clear hY0
      obtain ⟨f0, f1, f2, g0, g1, g2⟩ := id S5.out
      have hY3 : w3.heap.size < Y.heap.size := by omega
      have hY3' : w3.heap.size < Y.heap.size + 1 := by omega
      have hne1 : w1.heap.size ≠ w3.heap.size := by omega
      have hne2 : bb ≠ w3.heap.size := by omega
      obtain ⟨R0, hR0⟩ : ∃ R0 : Value, R0 = .slice (some ⟨db, dof + 1, none⟩) (l0 - 1) (c0 - 1) := ⟨_, rfl⟩
      obtain ⟨W8, hW8⟩ : ∃ W8, W8 = (Y.alloc (.cells #[.slice (some ⟨db, dof + 1, none⟩) (l0 - 1) (c0 - 1)] 30)).drew := ⟨_, rfl⟩
      have O8 : Hid (OwnV W8 Y.heap.size 30 (.slice (some ⟨Y.heap.size, 0, none⟩) 1 1) [.slice (some ⟨db, dof + 1, none⟩) (l0 - 1) (c0 - 1)]) := by rw [hW8]; exact (OwnV.lit (n := 1) #[.slice (some ⟨db, dof + 1, none⟩) (l0 - 1) (c0 - 1)] _ (Nat.le_refl _) rfl (by decide)).drew
      have BY8 : Hid (Below Y.heap.size Y W8) := by rw [hW8]; exact ((Below.refl _ _).alloc (Nat.le_refl _) _).drew
      have H8 := Lib.hid (holds_below hus.out (b3Y.out.trans (BY8.out.mono (by omega))))
      have S8 : Hid (W8.cell? ⟨w1.heap.size, 0, none⟩ = some (.slice xa ram.length xc) ∧ W8.cell? ⟨w1.heap.size, 1, none⟩ = some (.slice (some ⟨bb, bo, none⟩) nr xd) ∧ W8.cell? ⟨w1.heap.size, 2, none⟩ = some (.int .i64 bank) ∧ W8.cell? ⟨bb, bo, none⟩ = some (.slice (some ⟨db, dof, none⟩) l0 c0)) := cells4_below BY8.out SY.out
      rw [hW8] at O8 H8 S8 BY8
      clear hW8 hR0 hYs
      go_region_held3 (fun w' => w'.cell? ⟨w1.heap.size, 0, none⟩ = some (.slice xa ram.length xc) ∧ w'.cell? ⟨w1.heap.size, 1, none⟩ = some (.slice (some ⟨bb, bo, none⟩) nr xd) ∧ w'.cell? ⟨w1.heap.size, 2, none⟩ = some (.int .i64 bank) ∧ w'.cell? ⟨bb, bo, none⟩ = some (.slice (some ⟨db, dof, none⟩) l0 c0)) (first | with_reducible exact S10.out | with_reducible exact S9.out | with_reducible exact S8.out | with_reducible exact cells4_drew SY.out | with_reducible exact cells4_drew (cells4_alloc _ (cells4_set hne1 hne2 SY.out)) | with_reducible exact cells4_alloc _ (cells4_set hne1 hne2 SY.out))
        (first
          | (refine step_appR rfl _ _ rfl Y.heap.size (.slice (some ⟨_, 0, none⟩) 1 1) (.slice (some ⟨bb, bo + 1, none⟩) (nr - 1) (xd - 1)) [.slice (some ⟨db, dof + 1, none⟩) (l0 - 1) (c0 - 1)] (us.drop 1) rfl rfl ?_ ?_ ?_ ?_ ?_ ?_; exact O8.out; exact H8.out; exact (fun x hx => hu1'.out x (List.mem_of_mem_drop hx)); (have e1 := hlen.out; have e2 := hc3.out; simp; omega); exact BY8.out.size; intro v9 w9 ow9 hg9 _; (have b9 : Hid (Below Y.heap.size Y w9) := below_app BY8.out hg9 O8.out BY8.out.size (Nat.le_refl _)); (have S9 := Lib.hid (cells4_below b9.out SY.out)); (have F9 := six_be b9.out S5.out hY3); (have S10 := Lib.hid (cells4_set (i := 1) (v := v9) hne1 hne2 S9.out)); obtain ⟨a9, n9, c9, rfl⟩ := ownV_any ow9; obtain ⟨f90, f91, f92, g90, g91, g92⟩ := id F9))
      all_goals
        have hbA : Hid (Below w3.heap.size w3 (w9.setCell ⟨w3.heap.size, 1, none⟩ (.slice a9 n9 c9))) := by show Below _ _ _; exact (b3Y.out.trans (b9.out.mono (by omega))).setCell (p := ⟨w3.heap.size, 1, none⟩) (Nat.le_refl _) _
        have OA : OwnV (w9.setCell ⟨w3.heap.size, 1, none⟩ (.slice a9 n9 c9)) Y.heap.size 30 (.slice a9 n9 c9) ((.slice (some ⟨db, dof + 1, none⟩) (l0 - 1) (c0 - 1)) :: us.drop 1) := OwnV.of ow9 (fun g hg => Below.heap_setCell _ _ _ _ (by have := (ow9.lt g hg).1; show g ≠ w3.heap.size; omega))
        have MA : Hid (MemV (w9.setCell ⟨w3.heap.size, 1, none⟩ (.slice a9 n9 c9)) (.agg #[.slice xa ram.length xc, (.slice a9 n9 c9), .int .i64 bank]) ram ((rom.getD 0 []).drop 1 :: rom.drop 1) bank) := MemV.mk' (hiR.out.below hbA.out) (mat_fin9 OA ht0.out (fun i hi => hrows.out i (by have := hRD.out; simp only [List.length_cons] at this; omega)) (by have := hRD.out; have := hlen.out; simp only [List.length_cons] at *; rw [List.length_drop]; omega) hbA.out)
        have SZ := Lib.hid (S10.out)
        have FZ := Lib.hid (six_set1 (v := .slice a9 n9 c9) F9)
        have HMZ : Hid (MemV (w9.setCell ⟨w3.heap.size, 1, none⟩ (.slice a9 n9 c9)) (.agg #[.slice xa ram.length xc, .slice (some ⟨bb, bo, none⟩) nr xd, .int .i64 bank]) ram rom bank) := HM.out.below (b13.out.trans (hbA.out.mono b13.out.size))
        have hB3 : Hid (Below w.heap.size w w3) := hB1.out.trans (b13.out.mono hB1.out.size)
        have hBZ : Hid (Below w.heap.size w (w9.setCell ⟨w3.heap.size, 1, none⟩ (.slice a9 n9 c9))) := hB3.out.trans (hbA.out.mono hB3.out.size)
        generalize (w9.setCell ⟨w3.heap.size, 1, none⟩ (.slice a9 n9 c9)) = Z at *
        obtain ⟨z0, z1, z2, z3⟩ := id SZ.out
        obtain ⟨y0, y1, y2, _, _, _⟩ := id FZ.out
        have hZ3 : w3.heap.size < Z.heap.size := block_lt_of_cell y0
        have hZ1 : w1.heap.size < Z.heap.size := block_lt_of_cell z0
        clear S3 S5 SY S8 O8 H8 BY8 f0 f1 f2 g0 g1 g2 OA
        go_wp2_with fail
        refine (calls_eqv (impl_MemoryValid (MA.out.alloc _)) hbS.out).mono ?_
        rintro e wA ⟨rfl, hbA1⟩
        have t6 := six_below hbA1 (six_lit rfl)
        obtain ⟨v0, v1, v2, _, _, _⟩ := id t6
        have bZA : Hid (Below Z.heap.size Z wA) := ((Below.refl _ _).alloc (Nat.le_refl _) _).trans (hbA1.mono (by simp))
        clear hbA1
        go_wp2_with fail
        refine (calls_eqv (impl_MemoryValid (MemV.rebank (HMZ.out.below bZA.out) _)) hbR.out).mono ?_
        rintro e wB ⟨rfl, hbB⟩
        go_wp2_with fail
        go_ret
        exact ⟨rfl, (hBZ.out.trans (bZA.out.mono hBZ.out.size)).trans (hbB.mono (hBZ.out.trans (bZA.out.mono hBZ.out.size)).size)⟩
set_option maxRecDepth 100000 in
theorem lifted_FnMemoryValid (os : Os) (started : os.Started) (H : Type) (enc : TypeId × Value → H) :
    ReturnsInHanded {} Try.checked os 5 .any (Rows.fnMemoryValidSpec.pre6 enc Try.prog Try.f5 Rows.fnMemoryValidRow.domain false) (Rows.fnMemoryValidSpec.post enc Try.prog Try.f5 false true false false) := by
  refine returnsInHanded_of_change (C := Try.checked) own started (by kernel_rfl) Try.func5
    (ChangeSpec.witness6 (enc := enc) (C := Try.checked) false ⟨#[], #[.slice none 0 0], []⟩ 8 (by kernel_rfl) (by kernel_rfl) (by kernel_rfl) (by kernel_rfl)) ?_
  intro W base args ds gs before hval0 hW hcnd _
  have hval : ∀ (j : Nat) t v, Try.f5.params[j]? = some t → args[j]? = some v → Value.okWide Try.prog W .any base t v := hval0
  have hW' := hW
  obtain ⟨p, q, hA0, hV, rfl, hfz, hnd⟩ := hW
  have hA : DataW.TrodAll enc Try.prog W 0 (fun _ => true) true Try.f5.params.toList args.toList ds p := hA0
  rw [Try.params5] at hA hval
  obtain ⟨v0, vs0, d0, ds0, p0, q0, hargs, rfl, rfl, h0, r0⟩ := trodAll_cons hA
  obtain ⟨rfl, rfl, rfl⟩ := trodAll_nil r0
  obtain rfl : args = #[v0] := by cases args; simp_all
  obtain ⟨rfl, rfl⟩ := trodVars_none hV
  have lt0 : ∀ x ∈ p0, x.block < W.heap.size := by obtain ⟨m, hm⟩ := h0; exact DataW.trod_lt m _ _ _ hm
  have y0 := read_bytes (hval 0 22 v0 rfl rfl) h0
  clear hA0 hval0
  refine (walk_FnMemoryValid v0 W y0).mono fun e W' ⟨he, bel⟩ => ?_
  subst he
  exact ⟨_, rfl, _, _, _, [], _, [], hW', trodAll_mk1 (shut_bool Try.underlying4 _), (trodAll_cons_mk (Below.trod laidOut (by kernel_rfl) (of_decide_eq_true (by kernel_rfl)) h0 bel lt0) trodAll_mk0), rfl, bel.frame _, fun h => by cases h⟩
theorem closed_FnMemoryValid : joinedFacts Try.prog 5 Try.f5 Rows.fnMemoryValidSpec Rows.fnMemoryValidRow = true := by
  unfold joinedFacts
  rw [shared.1, shared.2.1, shared.2.2.1, shared.2.2.2]
  kernel_rfl
/-- The given statement of FnMemoryValid. -/
theorem FnMemoryValid_holds : Rows.FnMemoryValidSaid :=
  OpenClaim.holds_of_wide 5 Try.f5 rfl rfl rfl rfl rfl rfl rfl ⟨rfl, rfl, rfl, rfl, rfl⟩ rfl rfl rfl rfl rfl (by kernel_rfl) Try.func5 closed_FnMemoryValid
    (of_decide_eq_true (by kernel_rfl)) (by unfold Func.isWrapper; first | (rw [if_pos (by decide +kernel)]; kernel_rfl) | (rw [if_neg (by decide +kernel)]; exact ⟨rfl, rfl⟩))
    (fun os started H enc _ => lifted_FnMemoryValid os started H enc)

end Go.Proofs.Ytadippkanlbgjaa
