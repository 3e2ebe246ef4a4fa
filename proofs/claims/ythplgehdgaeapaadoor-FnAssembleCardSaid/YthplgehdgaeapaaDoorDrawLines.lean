/- The drawn lists of lines: at most 61 lines of at most 40 bytes. No condition. -/
import Derived.Test.YthplgehdgaeapaaDoorDrawPO
import Derived.Test.YthplgehdgaeapaaDoorDisL
import Derived.Test.YthplgehdgaeapaaDoorDrawRom
namespace Go.Proofs.YthplgehdgaeapaaDoor
open Go.RowKit
set_option linter.unusedVariables false
set_option linter.unusedSimpArgs false
def sliceLen (v : Value) : Nat := match v with | .slice _ n _ => n | _ => 0
def Short (ss : List ByteArray) : Prop := ∀ s ∈ ss, s.size ≤ 40
theorem short_snoc {ss : List ByteArray} {s : ByteArray} (h : Short ss) (hs : s.size ≤ 40) : Short (ss ++ [s]) := fun x hx => by
  rcases List.mem_append.1 hx with q | q
  · exact h x q
  · obtain rfl : x = s := by simpa using q
    exact hs
theorem own_nn {w : World} {base e : Nat} {v : Value} {ss : List ByteArray} {s : ByteArray} (h : OwnV w base e v ((ss ++ [s]).map Value.string)) : v ≠ .slice none 0 0 := by
  rintro rfl
  unfold OwnV at h
  rcases h.2 with ⟨_, h0⟩ | ⟨g, cap, cur, h0, _⟩
  · simp at h0
  · cases h0
/-- Lines that a draw builds. -/
structure RowS (rb : Nat) (w w' : World) (v : Value) (ss : List ByteArray) (B : Nat) : Prop where
  own : OwnV w' w.heap.size 9 v (ss.map Value.string)
  short : Short ss
  nn : v ≠ .slice none 0 0
  rd : Reader w' rb B
  keep : Keep rb w w'
def PicksLines (rb B : Nat) (w : World) (e : Ending) (w' : World) : Prop := ∃ v ss, e = .returned v ∧ ss.length ≤ 61 ∧ RowS rb w w' v ss B
set_option maxHeartbeats 4000000 in
set_option maxRecDepth 20000 in
theorem l20Lines {rb B : Nat} {w : World} (n : Int) (hR : Reader w rb B) (hB : B ≤ 10000) :
    Calls Tryd.prog 51 #[.pointer (some ⟨rb, 0, none⟩), .int .i64 n] w (PicksLines rb (B + 500) w) := by
  have hlt := hR.lt
  go_enter Tryd.func51, Tryd.ntmps51
  go_wp2_with fail
  refine (pick _ (hR.alloc _) (by omega)).mono ?_
  rintro e w2 ⟨v2, rfl, ⟨x2, rfl, y2, z2⟩, hR2, hK2⟩
  obtain ⟨J, rfl⟩ := Int.eq_ofNat_of_zero_le y2
  have hJ : J ≤ 8 := by omega
  have hRow2 : Hid (RowS rb w w2 (.slice (some ⟨w.heap.size, 0, none⟩) 0 0) [] (B + 1)) := ⟨(ownV_lit0 (Nat.le_refl _) rfl).keep hK2 hlt, (fun s hs => by simp at hs), nofun, hR2.mono (by omega), ((Keep.refl _ _).alloc _).trans hK2⟩
  clear hR2 hK2 z2 y2
  go_wp2_with fail
  go_loopw [5, 6] (fun s5 s6 wi => ∃ (j : Nat) (ss : List ByteArray), s6 = .int .i64 j ∧ j ≤ 8 ∧ ss.length + j ≤ 8 ∧ Hid (RowS rb w wi s5 ss (B + 1 + 16 * (8 - j)))) (fun _ s6 _ => (intOf s6).toNat)
  case atStart => exact ⟨J, [], rfl, hJ, by simp; omega, hRow2.out.own, hRow2.out.short, hRow2.out.nn, hRow2.out.rd.mono (by omega), hRow2.out.keep⟩
  case round =>
    obtain ⟨j, ss, rfl, hj, hsl, hRo⟩ := hrel
    by_cases hjp : 0 < j
    · have hji : (0 : Int) < (j : Int) := by omega
      go_wp2_with fail
      refine (l20Line n hRo.out.rd (by omega)).mono ?_
      rintro e w4 ⟨v4, rfl, ⟨s, rfl, hss⟩, hR3, hK3⟩
      have hR4 : Hid (RowS rb w w4 _ ss (B + 1 + 16 * (8 - j) + 16)) := ⟨hRo.out.own.keep hK3 hlt, hRo.out.short, hRo.out.nn, hR3, hRo.out.keep.trans hK3⟩
      clear hRo hR3 hK3
      have hs4 : w.heap.size ≤ w4.heap.size := hR4.out.keep.size
      have hO5 := Lib.hid (hR4.out.own.alloc (.cells #[.string s] 9))
      have hR5 := Lib.hid (hR4.out.rd.alloc (.cells #[.string s] 9))
      have hK5 := Lib.hid (hR4.out.keep.alloc (.cells #[.string s] 9))
      have hS5 := Lib.hid (short_snoc hR4.out.short hss)
      have hsz : w.heap.size ≤ (w4.alloc (.cells #[.string s] 9)).heap.size := hK5.out.size
      clear hR4
      go_wp2_with (at_builtin; refine wp_appS rfl _ _ rfl w.heap.size _ _ ss [s] rfl rfl hO5.out (holds_one w4 _ s _ rfl) (by simp; omega) hsz ?_; intro v5 w5 ow5 hg5 _)
      have hRow : Hid (RowS rb w w5 v5 (ss ++ [s]) (B + 1 + 16 * (8 - (j - 1)))) := ⟨ow5, hS5.out, own_nn ow5, (hR5.out.grown hg5 (fun k hk => (hO5.out.lt k hk).1) hlt).mono (by omega), hK5.out.grown hg5 (fun k hk => (hO5.out.lt k hk).1)⟩
      clear ow5 hg5 hO5 hR5 hK5 hS5 hsz
      go_wp2_with fail
      go_roundw
      case rel => exact ⟨j - 1, ss ++ [s], by go_num, by omega, by rw [List.length_append]; simp; omega, hRow.out⟩
      case measure => simp [intOf]; omega
    · have hji : ¬ (0 : Int) < (j : Int) := by omega
      have hRE : Hid (RowS rb w wr _ ss (B + 130)) := ⟨hRo.out.own, hRo.out.short, hRo.out.nn, hRo.out.rd.mono (by omega), hRo.out.keep⟩
      clear hRo
      go_wp2_with fail
      refine (odd _ hRE.out.rd (by omega)).mono ?_
      rintro e w6 ⟨v6, rfl, ⟨ob, rfl⟩, hR6, hK6⟩
      have hR7 : Hid (RowS rb w w6 _ ss (B + 131)) := ⟨hRE.out.own.keep hK6 hlt, hRE.out.short, hRE.out.nn, hR6.mono (by omega), hRE.out.keep.trans hK6⟩
      clear hRE hR6 hK6
      cases ob
      · go_wp2_with fail
        go_ret
        exact ⟨_, ss, rfl, by omega, hR7.out.own, hR7.out.short, hR7.out.nn, hR7.out.rd.mono (by omega), hR7.out.keep⟩
      · have hs8 : ss.length ≤ 61 := by omega
        have h500 : (⟨#[97, 100, 100, 32, 53, 48, 48]⟩ : ByteArray).size ≤ 40 := by decide
        clear hsl hji hjp hj
        go_wp2_with fail
        go_loopw [5] (fun s5 wi => ∃ (zs : List ByteArray), zs.length ≤ 61 ∧ Hid (RowS rb w wi s5 zs (B + 131))) (fun s5 _ => 61 - sliceLen s5)
        case atStart => exact ⟨ss, hs8, hR7.out⟩
        case round =>
          obtain ⟨zs, hzl, hRo⟩ := hrel
          obtain ⟨sa, sc, rfl⟩ := ownV_shapeA hRo.out.own
          have hlm : (zs.map Value.string).length = zs.length := List.length_map ..
          rw [hlm] at hRo ⊢
          clear hlm
          by_cases h60 : zs.length ≤ 60
          · have h6i : (zs.length : Int) ≤ 60 := by omega
            have hs4 : w.heap.size ≤ wr.heap.size := hRo.out.keep.size
            have hO5 := Lib.hid (hRo.out.own.alloc (.cells #[.string ⟨#[97, 100, 100, 32, 53, 48, 48]⟩] 9))
            have hR5 := Lib.hid (hRo.out.rd.alloc (.cells #[.string ⟨#[97, 100, 100, 32, 53, 48, 48]⟩] 9))
            have hK5 := Lib.hid (hRo.out.keep.alloc (.cells #[.string ⟨#[97, 100, 100, 32, 53, 48, 48]⟩] 9))
            have hS5 := Lib.hid (short_snoc hRo.out.short h500)
            have hsz : w.heap.size ≤ (wr.alloc (.cells #[.string ⟨#[97, 100, 100, 32, 53, 48, 48]⟩] 9)).heap.size := hK5.out.size
            clear hRo
            go_wp2_with (at_builtin; refine wp_appS rfl _ _ rfl w.heap.size _ _ zs [⟨#[97, 100, 100, 32, 53, 48, 48]⟩] rfl rfl hO5.out (holds_one wr _ ⟨#[97, 100, 100, 32, 53, 48, 48]⟩ _ rfl) (by simp; omega) hsz ?_; intro v5 w5 ow5 hg5 _)
            have hRow : Hid (RowS rb w w5 v5 (zs ++ [⟨#[97, 100, 100, 32, 53, 48, 48]⟩]) (B + 131)) := ⟨ow5, hS5.out, own_nn ow5, hR5.out.grown hg5 (fun k hk => (hO5.out.lt k hk).1) hlt, hK5.out.grown hg5 (fun k hk => (hO5.out.lt k hk).1)⟩
            obtain ⟨a5, c5, rfl⟩ := ownV_shapeA ow5
            clear ow5 hg5 hO5 hR5 hK5 hS5 hsz
            go_wp2_with fail
            go_roundw
            case rel => exact ⟨_, (by rw [List.length_append]; show zs.length + 1 ≤ 61; omega : (zs ++ [(⟨#[97, 100, 100, 32, 53, 48, 48]⟩ : ByteArray)]).length ≤ 61), hRow.out⟩
            case measure => simp [sliceLen]; omega
          · have h6i : ¬ (zs.length : Int) ≤ 60 := by omega
            go_wp2_with fail
            go_ret
            exact ⟨_, zs, rfl, hzl, hRo.out.own, hRo.out.short, hRo.out.nn, hRo.out.rd.mono (by omega), hRo.out.keep⟩
theorem OwnV.wideS {w : World} {base base' e : Nat} {v : Value} {vs : List Value} (h : OwnV w base e v vs) (hb : base' ≤ base) : OwnV w base' e v vs := by
  refine ⟨h.1, ?_⟩
  rcases h.2 with h0 | ⟨g, cap, cur, rfl, h1, h2, h3⟩
  · exact .inl h0
  · exact .inr ⟨g, cap, cur, rfl, Nat.le_trans hb h1, h2, h3⟩
/-- The drawn lines of Assemble's law. -/
def DrawnLines (w : World) (e : Ending) (w' : World) : Prop := ∃ v ss, e = .returned v ∧ ss.length ≤ 61 ∧ Short ss ∧ v ≠ .slice none 0 0 ∧ OwnV w' w.heap.size 9 v (ss.map Value.string) ∧ Below w.heap.size w w'
theorem draw_Assemble {v : Value} {w : World} (h : IsBytes w v) : Calls Tryd.prog 30 #[v] w (DrawnLines w) := by
  have H := Lib.hid h
  clear h
  go_enter Tryd.func30, Tryd.ntmps30
  go_wp2_with fail
  refine (l20Open H.out).mono ?_
  rintro e w0 ⟨rb, rfl, hrb, hR0, hB0⟩
  go_wp2_with fail
  refine (l20Lines _ hR0 (by omega)).mono ?_
  rintro e w1 ⟨v1, ss, rfl, hl, hR⟩
  have HB1 : Hid (Below w.heap.size w w1) := hR.keep.below hB0 hrb
  have HO := Lib.hid (hR.own.wideS hB0.size)
  have HS := Lib.hid hR.short
  have HN := Lib.hid hR.nn
  clear hR hB0
  go_wp2_with fail
  go_ret
  exact ⟨_, ss, rfl, hl, HS.out, HN.out, HO.out, HB1.out⟩
/-- A slice of strings of the call's own lies nowhere, or at the head of a block; a drawn one never nowhere. -/
theorem ownV_strs {w : World} {base : Nat} {v : Value} {ss : List ByteArray} (h : OwnV w base 9 v (ss.map Value.string)) (hn : v ≠ .slice none 0 0) : ∃ b cap, v = .slice (some ⟨b, 0, none⟩) ss.length cap ∧ ss.length ≤ cap ∧ cap ≤ maxLen ∧ b < w.heap.size ∧ ∀ i, i < ss.length → w.cell? ⟨b, i, none⟩ = some (.string (ss.getD i ByteArray.empty)) := by
  unfold OwnV at h
  rw [List.length_map] at h
  rcases h.2 with ⟨rfl, _⟩ | ⟨g, cap, cur, rfl, hg, hh, hnc, hcm, hcs, htk⟩
  · exact absurd rfl hn
  · refine ⟨g, cap, rfl, hnc, hcm, (Array.getElem?_eq_some_iff.1 hh).1, fun i hi => ?_⟩
    have hc := h.cellAt i (by omega)
    rw [hc, List.getElem?_map, List.getD_eq_getElem?_getD, List.getElem?_eq_getElem hi]; rfl
/-- A part of it. -/
theorem strs_take {w : World} {b cap : Nat} {ss : List ByteArray} (h1 : ss.length ≤ cap) (h2 : cap ≤ maxLen) (hc : ∀ i, i < ss.length → w.cell? ⟨b, i, none⟩ = some (.string (ss.getD i ByteArray.empty))) (k : Nat) (hk : k ≤ ss.length) : Strs w (.slice (some ⟨b, 0, none⟩) k cap) (ss.take k) := by
  have hl : (ss.take k).length = k := by rw [List.length_take]; omega
  refine ⟨_, cap, by rw [hl], by omega, h2, .inr ⟨b, 0, rfl, fun i hi => ?_⟩⟩
  rw [hl] at hi
  rw [Nat.zero_add, hc i (by omega), List.getD_eq_getElem?_getD, List.getD_eq_getElem?_getD, List.getElem?_take_of_lt hi]
theorem strs_drop {w : World} {b cap : Nat} {ss : List ByteArray} (h1 : ss.length ≤ cap) (h2 : cap ≤ maxLen) (hc : ∀ i, i < ss.length → w.cell? ⟨b, i, none⟩ = some (.string (ss.getD i ByteArray.empty))) (k : Nat) (hk : k ≤ ss.length) : Strs w (.slice (some ⟨b, k, none⟩) (ss.length - k) (cap - k)) (ss.drop k) := by
  have hl : (ss.drop k).length = ss.length - k := List.length_drop ..
  refine ⟨_, cap - k, by rw [hl], by omega, by omega, .inr ⟨b, k, rfl, fun i hi => ?_⟩⟩
  rw [hl] at hi
  rw [hc (k + i) (by omega), List.getD_eq_getElem?_getD, List.getD_eq_getElem?_getD, List.getElem?_drop]
theorem short_small {ss : List ByteArray} (h : Short ss) : SmallS ss ss.length := fun i hi => by
  rw [List.getD_eq_getElem?_getD, List.getElem?_eq_getElem hi]
  have := h _ (List.getElem_mem hi)
  show (ss[i]).size ≤ _
  omega
theorem short_take {ss : List ByteArray} (h : Short ss) (k : Nat) : Short (ss.take k) := fun s hs => h s (List.mem_of_mem_take hs)
theorem short_drop {ss : List ByteArray} (h : Short ss) (k : Nat) : Short (ss.drop k) := fun s hs => h s (List.mem_of_mem_drop hs)
theorem okTo_take {ss : List ByteArray} (h : OkTo ss ss.length) (k : Nat) : OkTo (ss.take k) (ss.take k).length := fun i hi => by
  rw [List.length_take] at hi
  rw [List.getD_eq_getElem?_getD, List.getElem?_take_of_lt (by omega), ← List.getD_eq_getElem?_getD]
  exact h i (by omega)
theorem okTo_drop {ss : List ByteArray} (h : OkTo ss ss.length) (k : Nat) : OkTo (ss.drop k) (ss.drop k).length := fun i hi => by
  rw [List.length_drop] at hi
  rw [List.getD_eq_getElem?_getD, List.getElem?_drop, ← List.getD_eq_getElem?_getD]
  exact h (k + i) (by omega)
theorem asm_ok {ss : List ByteArray} {zs : List Int} {n : Int} (h : IsAsm ss zs n) (hk : OkTo ss ss.length) (hl : ss.length ≤ 60) : zs = (ss.map lineB).flatten ∧ n = 0 := by
  rcases h with ⟨k, h1, h2, h3, _, _⟩ | ⟨h1, h2, _, _⟩ | ⟨h1, h2, rfl, rfl⟩
  · rw [hk k h1] at h3; cases h3
  · omega
  · exact ⟨asmAll ss, rfl⟩
end Go.Proofs.YthplgehdgaeapaaDoor
