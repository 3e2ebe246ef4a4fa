/- Assemble, both sides: the bytes of the lines' instructions, or the first line that is none. Condition: at most 2^20 lines of at most 2^20 bytes. -/
import Derived.Test.YthplgehdgaeapaaDoorStrs
import Derived.Test.YthplgehdgaeapaaDoorParseS
import Derived.Test.YthplgehdgaeapaaDoorCodec
import Derived.Deep.RegionHeld3
namespace Go.Proofs.YthplgehdgaeapaaDoor
open Go.RowKit
set_option linter.unusedVariables false
set_option linter.unusedSimpArgs false

theorem parse_ex (s : ByteArray) : ∃ (p : Int × Int) (ok : Bool), IsParse s p.1 p.2 ok := by
  by_cases h : ∃ op arg, ovB op arg = true ∧ fmtS op arg = s
  · obtain ⟨op, arg, h1, h2⟩ := h
    exact ⟨(op, arg), true, parse_yes h1 h2⟩
  · exact ⟨(0, 0), false, parse_no (fun op arg h1 h2 => h ⟨op, arg, h1, h2⟩)⟩
/-- The instruction of a text; is there one? -/
noncomputable def pO (s : ByteArray) : Int × Int := Classical.choose (parse_ex s)
noncomputable def pK (s : ByteArray) : Bool := Classical.choose (Classical.choose_spec (parse_ex s))
theorem isP (s : ByteArray) : IsParse s (pO s).1 (pO s).2 (pK s) := Classical.choose_spec (Classical.choose_spec (parse_ex s))
theorem parse_of {s : ByteArray} {w w' : World} {e : Ending} (h : MadeParse s w e w') : e = .returned (.tuple #[.agg #[.int .i64 (pO s).1, .int .i64 (pO s).2], .bool (pK s)]) ∧ Below w.heap.size w w' := by
  obtain ⟨op, arg, ok, hP, rfl, hb⟩ := h
  obtain ⟨rfl, rfl, rfl⟩ := hP.unique (isP s)
  exact ⟨rfl, hb⟩
/-- The bytes of a line. -/
noncomputable def lineB (s : ByteArray) : List Int := obytes (pO s).1 (pO s).2
noncomputable def asmK (ss : List ByteArray) (k : Nat) : List Int := ((ss.take k).map lineB).flatten
theorem asmK_succ {ss : List ByteArray} {k : Nat} (h : k < ss.length) : asmK ss (k + 1) = asmK ss k ++ lineB (ss.getD k ByteArray.empty) := by
  unfold asmK
  rw [List.take_succ_eq_append_getElem h, List.map_append, List.flatten_append, List.getD_eq_getElem?_getD, List.getElem?_eq_getElem h]
  simp
theorem asmK_len (ss : List ByteArray) : ∀ k : Nat, (asmK ss k).length ≤ 3 * k
  | 0 => by simp [asmK]
  | k + 1 => by
    have ih := asmK_len ss k
    rcases Nat.lt_or_ge k ss.length with h | h
    · rw [asmK_succ h, List.length_append]
      have := obytes_len (pO (ss.getD k ByteArray.empty)).1 (pO (ss.getD k ByteArray.empty)).2
      unfold lineB
      omega
    · have : asmK ss (k + 1) = asmK ss k := by
        unfold asmK
        rw [List.take_of_length_le (by omega), List.take_of_length_le h]
      rw [this]; omega
def OkTo (ss : List ByteArray) (k : Nat) : Prop := ∀ i, i < k → pK (ss.getD i ByteArray.empty) = true
theorem okTo_succ {ss : List ByteArray} {k : Nat} (h : OkTo ss k) (hk : pK (ss.getD k ByteArray.empty) = true) : OkTo ss (k + 1) := fun i hi => by
  rcases Nat.lt_or_ge i k with q | q
  · exact h i q
  · rwa [show i = k by omega]
/-- What Assemble gives. -/
def IsAsm (ss : List ByteArray) (zs : List Int) (n : Int) : Prop :=
  (∃ k, k < ss.length ∧ OkTo ss k ∧ pK (ss.getD k ByteArray.empty) = false ∧ n = (k : Int) + 1 ∧ zs = []) ∨ (OkTo ss ss.length ∧ 60 < ss.length ∧ n = 61 ∧ zs = []) ∨ (OkTo ss ss.length ∧ ss.length ≤ 60 ∧ n = 0 ∧ zs = asmK ss ss.length)
theorem IsAsm.unique {ss : List ByteArray} {zs zs' : List Int} {n n' : Int} (h : IsAsm ss zs n) (h' : IsAsm ss zs' n') : zs = zs' ∧ n = n' := by
  rcases h with ⟨k, h1, h2, h3, rfl, rfl⟩ | ⟨h1, h2, rfl, rfl⟩ | ⟨h1, h2, rfl, rfl⟩ <;> rcases h' with ⟨k', g1, g2, g3, rfl, rfl⟩ | ⟨g1, g2, rfl, rfl⟩ | ⟨g1, g2, rfl, rfl⟩
  · have : k = k' := by
      rcases Nat.lt_trichotomy k k' with q | q | q
      · rw [g2 k q] at h3; cases h3
      · exact q
      · rw [h2 k' q] at g3; cases g3
    subst this
    exact ⟨rfl, rfl⟩
  · rw [g1 k h1] at h3; cases h3
  · rw [g1 k h1] at h3; cases h3
  · rw [h1 k' g1] at g3; cases g3
  · exact ⟨rfl, rfl⟩
  · omega
  · rw [h1 k' g1] at g3; cases g3
  · omega
  · exact ⟨rfl, rfl⟩
def MadeAsm (ss : List ByteArray) (w : World) (e : Ending) (w' : World) : Prop := ∃ v zs n, IsAsm ss zs n ∧ e = .returned (.tuple #[v, .int .i64 n]) ∧ Own w.heap.size w'.heap.size w' v zs ∧ Below w.heap.size w w'
theorem own_none {lo hi : Nat} {w : World} (a : Option Addr) : Own lo hi w (.slice a 0 0) [] := ⟨a, 0, rfl, Nat.le_refl _, Nat.zero_le _, .inl rfl⟩
theorem ownV_shapeA {w : World} {base e : Nat} {v : Value} {vs : List Value} (h : OwnV w base e v vs) : ∃ a c, v = .slice a vs.length c := by
  rcases h.2 with ⟨rfl, h0⟩ | ⟨g, cap, cur, rfl, _⟩
  · exact ⟨_, _, by rw [h0]⟩
  · exact ⟨_, _, rfl⟩
set_option maxHeartbeats 4000000 in
set_option maxRecDepth 20000 in
theorem impl_Assemble {v : Value} {ss : List ByteArray} {w : World} (h : Strs w v ss) (hl : ss.length ≤ 1048576) (hs : SmallS ss ss.length) (hL : LaidW w) : Calls Tryd.prog 14 #[v] w (MadeAsm ss w) := by
  obtain ⟨a, cap, rfl, hlc, hcap, hcells⟩ := h
  unfold maxLen at hcap
  obtain ⟨n, hn⟩ : ∃ n, n = ss.length := ⟨_, rfl⟩
  have hn1 : n ≤ 1048576 := by omega
  have hcap1 : (cap : Int) ≤ 9223372036854775807 := by omega
  have hsrc : ∀ k, k < n → ∃ b off, a = some ⟨b, off, none⟩ ∧ b < w.heap.size ∧ w.cell? ⟨b, off + k, none⟩ = some (.string (ss.getD k ByteArray.empty)) := fun k hk => by
    rcases hcells with h0 | ⟨b, off, rfl, hc⟩
    · omega
    · exact ⟨b, off, rfl, block_lt_of_cell (hc k (by omega)), hc k (by omega)⟩
  have hsz' : ∀ k, k < n → (ss.getD k ByteArray.empty).size ≤ 1048576 := fun k hk => hs k (by omega)
  have fin1 : ∀ k, k < n → OkTo ss k → pK (ss.getD k ByteArray.empty) = false → IsAsm ss [] ((k : Int) + 1) := fun k h1 h2 h3 => .inl ⟨k, by omega, h2, h3, rfl, rfl⟩
  have fin2 : OkTo ss n → 60 < n → IsAsm ss [] 61 := fun h1 h2 => .inr (.inl ⟨hn ▸ h1, by omega, rfl, rfl⟩)
  have fin3 : OkTo ss n → n ≤ 60 → IsAsm ss (asmK ss n) 0 := fun h1 h2 => .inr (.inr ⟨hn ▸ h1, by omega, rfl, by rw [hn]⟩)
  have hstep : ∀ k, k < n → asmK ss (k + 1) = asmK ss k ++ lineB (ss.getD k ByteArray.empty) := fun k hk => asmK_succ (by omega)
  have hal := asmK_len ss
  rw [← hn] at hlc ⊢
  have S := Lib.hid hsrc
  have Z := Lib.hid hsz'
  have F1 := Lib.hid fin1
  have F2 := Lib.hid fin2
  have F3 := Lib.hid fin3
  have ST := Lib.hid hstep
  have AL := Lib.hid hal
  clear hsrc hsz' fin1 fin2 fin3 hstep hal hcells hs hn hl
  go_enter Tryd.func14, Tryd.ntmps14
  go_wp2_with fail
  go_loopw [4, 11] (fun s4 s11 wr => ∃ k : Nat, k ≤ n ∧ s11 = .int .i64 k ∧ Hid (OwnV wr w.heap.size 3 s4 ((asmK ss k).map (.int .i64))) ∧ Hid (OkTo ss k) ∧ Hid (Below w.heap.size w wr)) (fun _ s11 _ => n - (intOf s11).toNat)
  case atStart => exact ⟨0, Nat.zero_le _, rfl, OwnV.nil _ _ _, fun i hi => absurd hi (Nat.not_lt_zero _), Below.refl _ _⟩
  case round =>
    obtain ⟨k, hk, rfl, hO, hK, hb⟩ := hrel
    by_cases hlt : k < n
    · obtain ⟨b, off, rfl, hbl, hc⟩ := S.out k hlt
      have g0 := (hb.out.cell (p := ⟨b, off + k, none⟩) hbl).trans hc
      have hsz := Z.out k hlt
      have G1 := Lib.hid (F1.out k hlt hK.out)
      have GS := Lib.hid (ST.out k hlt)
      have GK := Lib.hid (fun q => okTo_succ hK.out q)
      have ga := AL.out k
      have hi : (k : Int) < (n : Int) := by omega
      have LW := hL.below hb.out
      generalize ss.getD k ByteArray.empty = s at *
      clear hc S Z F1 F2 F3 ST AL hK hlc
      go_wp2_with fail
      refine (impl_ParseOrder s hsz LW).mono ?_
      rintro e w2 hP
      obtain ⟨rfl, hb2⟩ := parse_of hP
      have hB2 : Hid (Below w.heap.size w w2) := hb.out.trans (hb2.mono hb.out.size)
      have hO2 := Lib.hid (hO.out.of (fun g hg => hb2.block g (hO.out.lt g hg).2))
      clear hP hO hb2 LW
      have hOB := obytes_len (pO s).1 (pO s).2
      have hLB : lineB s = obytes (pO s).1 (pO s).2 := rfl
      rw [hLB] at GS
      generalize (pO s).1 = op at *
      generalize (pO s).2 = arg at *
      cases hok : pK s
      · have R := Lib.hid (G1.out hok)
        clear G1 GK hok
        go_wp2_with fail
        go_ret2
        refine ⟨_, _, _, R.out, rfl, own_none _, ?_⟩
        exact hB2.out.alloc hB2.out.size _
      · have GK2 := Lib.hid (GK.out hok)
        clear G1 GK hok
        go_wp2_with fail
        refine (impl_OrderBytes op arg _).mono ?_
        rintro e w4 ⟨v4, rfl, o4, hb4⟩
        have hO4 := Lib.hid o4.ints
        have hB3 : Hid (Below w.heap.size w (w2.alloc (.cells #[.int .i64 op, .int .i64 arg] 35))) := hB2.out.alloc hB2.out.size _
        have hOV := Lib.hid ((hO2.out.alloc (.cells #[.int .i64 op, .int .i64 arg] 35)).of (fun g hg => hb4.block g ((hO2.out.alloc (.cells #[.int .i64 op, .int .i64 arg] 35)).lt g hg).2))
        have hB4 : Hid (Below w.heap.size w w4) := hB3.out.trans (hb4.mono hB3.out.size)
        have hs4 : w.heap.size ≤ w4.heap.size := hB4.out.size
        generalize obytes op arg = ob at *
        obtain ⟨ua, uc, rfl⟩ := own_shape o4
        clear o4 hb4 hO2 hB3 hB2
        generalize asmK ss k = zs at *
        go_wp2_with (at_builtin; refine wp_appI rfl _ _ rfl w.heap.size _ _ zs ob rfl rfl hOV.out hO4.out (by omega) hs4 ?_; intro v5 w5 ow5 hg5 _)
        have hB5 : Hid (Below w.heap.size w w5) := hB4.out.grown hg5 hs4 (fun j hj => (hOV.out.lt j hj).1)
        rw [← GS.out] at ow5
        have OW5 := Lib.hid ow5
        clear ow5 hg5
        go_wp2_with fail
        go_roundw
        case rel => exact ⟨k + 1, by omega, by go_num, OW5.out, GK2.out, hB5.out⟩
        case measure => simp [intOf]; omega
    · have : k = n := by omega
      subst this
      obtain ⟨sa, sc, rfl⟩ := ownV_shapeA hO.out
      have hO1 := hO.out.own
      rw [List.length_map] at hO1
      have hOO := Lib.hid hO1
      clear hO1
      by_cases h60 : 60 < k
      · have R := Lib.hid (F2.out hK.out h60)
        have h60i : (60 : Int) < (k : Int) := by omega
        go_wp2_with fail
        go_ret2
        exact ⟨_, _, _, R.out, rfl, own_none _, hb.out⟩
      · have R := Lib.hid (F3.out hK.out (by omega))
        have h60i : ¬ (60 : Int) < (k : Int) := by omega
        go_wp2_with fail
        go_ret2
        exact ⟨_, _, _, R.out, rfl, hOO.out, hb.out⟩
set_option maxHeartbeats 4000000 in
set_option maxRecDepth 20000 in
theorem spec_Assemble {v : Value} {ss : List ByteArray} {w : World} (h : Strs w v ss) (hl : ss.length ≤ 1048576) (hs : SmallS ss ss.length) : Calls Tryd.prog 12 #[v] w (MadeAsm ss w) := by
  obtain ⟨a, cap, rfl, hlc, hcap, hcells⟩ := h
  unfold maxLen at hcap
  obtain ⟨n, hn⟩ : ∃ n, n = ss.length := ⟨_, rfl⟩
  have hn1 : n ≤ 1048576 := by omega
  have hcap1 : (cap : Int) ≤ 9223372036854775807 := by omega
  have hsrc : ∀ k, k < n → ∃ b off, a = some ⟨b, off, none⟩ ∧ b < w.heap.size ∧ w.cell? ⟨b, off + k, none⟩ = some (.string (ss.getD k ByteArray.empty)) := fun k hk => by
    rcases hcells with h0 | ⟨b, off, rfl, hc⟩
    · omega
    · exact ⟨b, off, rfl, block_lt_of_cell (hc k (by omega)), hc k (by omega)⟩
  have hsz' : ∀ k, k < n → (ss.getD k ByteArray.empty).size ≤ 1048576 := fun k hk => hs k (by omega)
  have fin1 : ∀ k, k < n → OkTo ss k → pK (ss.getD k ByteArray.empty) = false → IsAsm ss [] ((k : Int) + 1) := fun k h1 h2 h3 => .inl ⟨k, by omega, h2, h3, rfl, rfl⟩
  have fin2 : OkTo ss n → 60 < n → IsAsm ss [] 61 := fun h1 h2 => .inr (.inl ⟨hn ▸ h1, by omega, rfl, rfl⟩)
  have fin3 : OkTo ss n → n ≤ 60 → IsAsm ss (asmK ss n) 0 := fun h1 h2 => .inr (.inr ⟨hn ▸ h1, by omega, rfl, by rw [hn]⟩)
  have hstep : ∀ k, k < n → asmK ss (k + 1) = asmK ss k ++ lineB (ss.getD k ByteArray.empty) := fun k hk => asmK_succ (by omega)
  have hal := asmK_len ss
  rw [← hn] at hlc ⊢
  have S := Lib.hid hsrc
  have Z := Lib.hid hsz'
  have F1 := Lib.hid fin1
  have F2 := Lib.hid fin2
  have F3 := Lib.hid fin3
  have ST := Lib.hid hstep
  have AL := Lib.hid hal
  clear hsrc hsz' fin1 fin2 fin3 hstep hal hcells hs hn hl
  go_enter Tryd.func12, Tryd.ntmps12
  go_wp2_with fail
  go_loopw [4, 5] (fun s4 s11 wr => ∃ k : Nat, k ≤ n ∧ s11 = .int .i64 k ∧ Hid (OwnV wr w.heap.size 3 s4 ((asmK ss k).map (.int .i64))) ∧ Hid (OkTo ss k) ∧ Hid (Below w.heap.size w wr)) (fun _ s11 _ => n - (intOf s11).toNat)
  case atStart => exact ⟨0, Nat.zero_le _, rfl, OwnV.lit #[] _ (Nat.le_refl _) rfl (Nat.zero_le _), fun i hi => absurd hi (Nat.not_lt_zero _), (Below.refl _ _).alloc (Nat.le_refl _) _⟩
  case round =>
    obtain ⟨k, hk, rfl, hO, hK, hb⟩ := hrel
    by_cases hlt : k < n
    · obtain ⟨b, off, rfl, hbl, hc⟩ := S.out k hlt
      have g0 := (hb.out.cell (p := ⟨b, off + k, none⟩) hbl).trans hc
      have hsz := Z.out k hlt
      have G1 := Lib.hid (F1.out k hlt hK.out)
      have GS := Lib.hid (ST.out k hlt)
      have GK := Lib.hid (fun q => okTo_succ hK.out q)
      have ga := AL.out k
      have hi : (k : Int) < (n : Int) := by omega
      generalize ss.getD k ByteArray.empty = s at *
      clear hc S Z F1 F2 F3 ST AL hK hlc
      go_wp2_with fail
      refine (spec_ParseOrder s hsz _).mono ?_
      rintro e w2 hP
      obtain ⟨rfl, hb2⟩ := parse_of hP
      have hB2 : Hid (Below w.heap.size w w2) := hb.out.trans (hb2.mono hb.out.size)
      have hO2 := Lib.hid (hO.out.of (fun g hg => hb2.block g (hO.out.lt g hg).2))
      clear hP hO hb2
      have hOB := obytes_len (pO s).1 (pO s).2
      have hLB : lineB s = obytes (pO s).1 (pO s).2 := rfl
      rw [hLB] at GS
      generalize (pO s).1 = op at *
      generalize (pO s).2 = arg at *
      cases hok : pK s
      · have R := Lib.hid (G1.out hok)
        clear G1 GK hok
        go_wp2_with fail
        go_ret2
        refine ⟨_, _, _, R.out, rfl, own_none _, ?_⟩
        have hBb := hB2.out
        have hBs := hB2.out.size
        repeat (first | with_reducible exact Below.refl _ _ | with_reducible refine below_via (by assumption) ?_ (by go_size) | with_reducible refine below_within (by assumption) ?_ (by go_size) (by omega) | with_reducible refine Below.alloc ?_ (by go_size) _ | with_reducible refine Below.setCell ?_ (by go_size) _ | with_reducible refine Below.drew ?_)
      · have GK2 := Lib.hid (GK.out hok)
        clear G1 GK hok
        go_wp2_with fail
        refine (spec_OrderBytes op arg _).mono ?_
        rintro e w4 ⟨v4, rfl, o4, hb4⟩
        have hO4 := Lib.hid o4.ints
        have hB3 : Hid (Below w.heap.size w (w2.alloc (.cells #[.int .i64 op, .int .i64 arg] 35))) := hB2.out.alloc hB2.out.size _
        have hOV := Lib.hid ((hO2.out.alloc (.cells #[.int .i64 op, .int .i64 arg] 35)).of (fun g hg => hb4.block g ((hO2.out.alloc (.cells #[.int .i64 op, .int .i64 arg] 35)).lt g hg).2))
        have hB4 : Hid (Below w.heap.size w w4) := hB3.out.trans (hb4.mono hB3.out.size)
        have hs4 : w.heap.size ≤ w4.heap.size := hB4.out.size
        generalize obytes op arg = ob at *
        obtain ⟨ua, uc, rfl⟩ := own_shape o4
        clear o4 hb4 hO2 hB3 hB2
        generalize asmK ss k = zs at *
        go_wp2_with (at_builtin; refine wp_appI rfl _ _ rfl w.heap.size _ _ zs ob rfl rfl hOV.out hO4.out (by omega) hs4 ?_; intro v5 w5 ow5 hg5 _)
        have hB5 : Hid (Below w.heap.size w w5) := hB4.out.grown hg5 hs4 (fun j hj => (hOV.out.lt j hj).1)
        rw [← GS.out] at ow5
        have OW5 := Lib.hid ow5
        clear ow5 hg5
        go_wp2_with fail
        go_roundw
        case rel => exact ⟨k + 1, by omega, by go_num, OW5.out, GK2.out, hB5.out⟩
        case measure => simp [intOf]; omega
    · have : k = n := by omega
      subst this
      obtain ⟨sa, sc, rfl⟩ := ownV_shapeA hO.out
      have hO1 := hO.out.own
      rw [List.length_map] at hO1
      have hOO := Lib.hid hO1
      clear hO1
      by_cases h60 : 60 < k
      · have R := Lib.hid (F2.out hK.out h60)
        have h60i : (60 : Int) < (k : Int) := by omega
        go_wp2_with fail
        go_ret2
        have hBb := hb.out
        have hBs := hb.out.size
        refine ⟨_, _, _, R.out, rfl, own_none _, ?_⟩
        repeat (first | with_reducible exact Below.refl _ _ | with_reducible refine below_via (by assumption) ?_ (by go_size) | with_reducible refine below_within (by assumption) ?_ (by go_size) (by omega) | with_reducible refine Below.alloc ?_ (by go_size) _ | with_reducible refine Below.setCell ?_ (by go_size) _ | with_reducible refine Below.drew ?_)
      · have R := Lib.hid (F3.out hK.out (by omega))
        have h60i : ¬ (60 : Int) < (k : Int) := by omega
        go_wp2_with fail
        go_ret2
        exact ⟨_, _, _, R.out, rfl, hOO.out, hb.out⟩
end Go.Proofs.YthplgehdgaeapaaDoor
