/- The drawn bytes of instructions, and the drawn bytes and index. No condition. -/
import Derived.Test.YthplgehdgaeapaaDoorDrawRom
import Derived.Test.YthplgehdgaeapaaDoorPoke
import Derived.Deep.RegionHeld3
import Derived.Deep.RegionWith
import Derived.Deep.DrawnRows
namespace Go.Proofs.YthplgehdgaeapaaDoor
open Go.RowKit
set_option linter.unusedVariables false
attribute [local go_sem ↓] Go.wp_at_zero Go.wp_at_succ

/-- A list that is drawn, of the call's own. -/
def PicksCode (rb B : Nat) (w : World) (e : Ending) (w' : World) : Prop := ∃ v zs, e = .returned v ∧ Own w.heap.size w'.heap.size w' v zs ∧ zs.length ≤ 40 ∧ Reader w' rb B ∧ Keep rb w w'
theorem own_cut {lo hi n c : Nat} {a : Option Addr} {w : World} {zs : List Int} (h : Own lo hi w (.slice a n c) zs) : Own lo hi w (.slice a (n - 1) c) (zs.take (n - 1)) := by
  obtain ⟨a', c', e, h1, h2, h3⟩ := h
  injection e with e1 e2 e3
  subst e1 e2 e3
  have hl : (zs.take (zs.length - 1)).length = zs.length - 1 := by rw [List.length_take]; omega
  refine ⟨_, _, by rw [hl], by omega, h2, ?_⟩
  rcases h3 with h0 | ⟨b, off, rfl, h4, h5, hc⟩
  · left; rw [h0]; rfl
  · refine .inr ⟨b, off, rfl, h4, h5, fun i hi => ?_⟩
    have := hc i (by omega)
    rw [List.getD_eq_getElem?_getD, List.getElem?_take_of_lt (by omega), ← List.getD_eq_getElem?_getD]
    exact this
theorem own_bounds {lo hi n c : Nat} {a : Option Addr} {w : World} {zs : List Int} (h : Own lo hi w (.slice a n c) zs) : n ≤ c ∧ (c : Int) ≤ 9223372036854775807 := by
  obtain ⟨a', c', e, h1, h2, h3⟩ := h
  injection e with e1 e2 e3
  subst e1 e2 e3
  unfold maxLen at h2
  omega
theorem own_keep {rb lo hi : Nat} {w w' : World} {v : Value} {zs : List Int} (h : Own lo hi w v zs) (hK : Keep rb w w') (hr : rb < lo) (hs : hi ≤ w.heap.size) : Own lo hi w' v zs := h.agree (fun k h1 h2 => hK.block k (by omega) (by omega))
set_option maxHeartbeats 8000000 in
set_option maxRecDepth 20000 in
theorem l20Code {rb B : Nat} {w : World} (n : Int) (hR : Reader w rb B) (hB : B ≤ 10000) :
    Calls Tryd.prog 56 #[.pointer (some ⟨rb, 0, none⟩), .int .i64 n] w (PicksCode rb (B + 500) w) := by
  have hlt := hR.lt
  go_enter Tryd.func56, Tryd.ntmps56
  go_wp2_with fail
  refine (pick _ (hR.alloc _) (by omega)).mono ?_
  rintro e w2 ⟨v2, rfl, ⟨x2, rfl, y2, z2⟩, hR2, hK2⟩
  obtain ⟨J, rfl⟩ := Int.eq_ofNat_of_zero_le y2
  have hJ : J ≤ 7 := by omega
  have hRow2 : Hid (Row rb w w2 (.slice (some ⟨w.heap.size, 0, none⟩) 0 0) [] (B + 1)) := ⟨(ownV_lit0 (Nat.le_refl _) rfl).keep hK2 hlt, rfl, hR2.mono (by omega), ((Keep.refl _ _).alloc _).trans hK2⟩
  clear hR2 hK2 z2 y2
  go_wp2_with fail
  go_loopw [5, 6] (fun s5 s6 wi => ∃ (j : Nat) (zs : List Int), s6 = .int .i64 j ∧ j ≤ 7 ∧ zs.length + 3 * j ≤ 21 ∧ Hid (Row rb w wi s5 zs (B + 1 + 12 * (7 - j)))) (fun _ s6 _ => (intOf s6).toNat)
  case atStart => exact ⟨J, [], rfl, hJ, by simp; omega, hRow2.out.own, rfl, hRow2.out.rd.mono (by omega), hRow2.out.keep⟩
  case round =>
    obtain ⟨j, zs, rfl, hj, hzl, hRo⟩ := hrel
    by_cases hjp : 0 < j
    · have hji : (0 : Int) < (j : Int) := by omega
      go_wp2_with fail
      refine (l20Order _ hRo.out.rd (by omega)).mono ?_
      rintro e w3 ⟨v3, rfl, ⟨o, a, rfl⟩, hR3, hK3⟩
      go_wp2_with fail
      refine (spec_OrderBytes o a _).mono ?_
      rintro e w4 ⟨v4, rfl, o4, hb4⟩
      have hO4 := Lib.hid o4.ints
      have hOV := Lib.hid ((hRo.out.own.keep hK3 hlt).keep (Keep.ofBelow (rb := rb) hb4) hlt)
      have hR4 := Lib.hid (hR3.below hb4)
      have hK4 := Lib.hid ((hRo.out.keep.trans hK3).trans (Keep.ofBelow (rb := rb) hb4))
      have hol := obytes_len o a
      have hob := Lib.hid (obytes_byte o a)
      have hBy := Lib.hid hRo.out.byte
      generalize obytes o a = ob at *
      obtain ⟨ua, uc, rfl⟩ := own_shape o4
      have hs4 : w.heap.size ≤ w4.heap.size := hK4.out.size
      clear o4 hb4 hR3 hK3
      go_wp2_with (first
        | (at_builtin; refine wp_appI rfl _ _ rfl w.heap.size _ _ zs ob rfl rfl hOV.out hO4.out (by omega) hs4 ?_; intro v5 w5 ow5 hg5 _))
      have hRow5 : Hid (Row rb w w5 v5 (zs ++ ob) (B + 1 + 12 * (7 - (j - 1)))) := ⟨ow5, by rw [List.all_append, hBy.out, hob.out]; rfl, (hR4.out.grown hg5 (fun k hk => (hOV.out.lt k hk).1) hlt).mono (by omega), hK4.out.grown hg5 (fun k hk => (hOV.out.lt k hk).1)⟩
      clear ow5 hg5
      go_wp2_with fail
      go_roundw
      case rel => exact ⟨j - 1, zs ++ ob, by go_num, by omega, by rw [List.length_append]; omega, hRow5.out⟩
      case measure => simp [intOf]; omega
    · have hji : ¬ (0 : Int) < (j : Int) := by omega
      obtain ⟨sa, sc, rfl⟩ := ownV_shape hRo.out.own
      have hlm0 : (List.map (Value.int .i64) zs).length = zs.length := List.length_map ..
      have HOZ : Hid (OwnV wr w.heap.size 3 (.slice sa zs.length sc) (zs.map (.int .i64))) := by have := hRo.out.own; rw [hlm0] at this; exact this
      have HKr : Hid (Keep rb w wr) := hRo.out.keep
      have HRr : Hid (Reader wr rb (B + 100)) := hRo.out.rd.mono (by omega)
      clear hRo
      simp only [List.length_map]
      clear hlm0
      by_cases hz : zs.length = 0
      · have hzi : ¬ (0 : Int) < (zs.length : Int) := by omega
        have OE : Hid (Own w.heap.size wr.heap.size wr (.slice sa zs.length sc) zs) := HOZ.out.own
        have hEl : zs.length ≤ 40 := by omega
        have hRE := HRr
        have hKE := HKr
        clear hz
        try (obtain ⟨ea, ec, rfl⟩ := own_shape OE.out)
        go_wp2_with fail
        go_ret
        exact ⟨_, _, rfl, OE.out, hEl, hRE.out.mono (by omega), hKE.out⟩
      have hzi : (0 : Int) < (zs.length : Int) := by omega
      have hzn : 0 < zs.length := by omega
      go_wp2_with fail
      refine (odd _ HRr.out (by omega)).mono ?_
      rintro e w6 ⟨v6, rfl, ⟨ob, rfl⟩, hR6, hK6⟩
      have HO6 := Lib.hid (HOZ.out.keep hK6 hlt)
      have HK6 : Hid (Keep rb w w6) := HKr.out.trans hK6
      have HR6 := Lib.hid hR6
      clear hR6 hK6 HOZ HKr HRr
      cases ob
      · have OE : Hid (Own w.heap.size w6.heap.size w6 (.slice sa zs.length sc) zs) := HO6.out.own
        have hEl : zs.length ≤ 40 := by omega
        have hRE := HR6
        have hKE := HK6
        try (obtain ⟨ea, ec, rfl⟩ := own_shape OE.out)
        go_wp2_with fail
        go_ret
        exact ⟨_, _, rfl, OE.out, hEl, hRE.out.mono (by omega), hKE.out⟩
      go_wp2_with fail
      refine (pick _ HR6.out (by omega)).mono ?_
      rintro e w7 ⟨v7, rfl, ⟨x7, rfl, y7, z7⟩, hR7, hK7⟩
      have HO7 := Lib.hid (HO6.out.keep hK7 hlt)
      have HK7 : Hid (Keep rb w w7) := HK6.out.trans hK7
      have HR7 := Lib.hid hR7
      clear hR7 hK7 HO6 HK6 HR6
      by_cases j0 : x7 = 0
      · have q0 : (x7 == 0) = true := by simpa using j0
        clear j0
        go_wp2_with fail
        refine (pick _ HR7.out (by omega)).mono ?_
        rintro e w8 ⟨v8, rfl, ⟨x8, rfl, y8, z8⟩, hR8, hK8⟩
        obtain ⟨K, rfl⟩ := Int.eq_ofNat_of_zero_le y8
        have hKl : K < zs.length := by omega
        have hKi : (K : Int) < (zs.length : Int) := by omega
        have HO8 := Lib.hid (HO7.out.keep hK8 hlt)
        have HK8 : Hid (Keep rb w w8) := HK7.out.trans hK8
        go_wp2_with fail
        refine (l20Byte _ hR8 (by omega)).mono ?_
        rintro e w9 ⟨v9, rfl, ⟨x9, rfl⟩, hR9, hK9⟩
        have HO9 := Lib.hid (HO8.out.keep hK9 hlt)
        have HK9 : Hid (Keep rb w w9) := HK8.out.trans hK9
        have HR9 := Lib.hid hR9
        clear hR9 hK9 hR8 hK8 HO8 HK8 HO7 HK7 HR7
        obtain ⟨g1, g2, ab, ao, rfl, gl, gh, gh2, gc, gf, gs⟩ := HO9.out.own.set (k := K) hKl
        have HK10 : Hid (Keep rb w (w9.setCell ⟨ab, ao + K, none⟩ (.int .i64 x9))) := HK9.out.setNew (p := ⟨ab, ao + K, none⟩) gl _
        have HR10 : Hid (Reader (w9.setCell ⟨ab, ao + K, none⟩ (.int .i64 x9)) rb (B + 200)) := (HR9.out.setNew (p := ⟨ab, ao + K, none⟩) (Nat.lt_of_lt_of_le hlt gl) _).mono (by omega)
        have OE := Lib.hid (gs x9)
        have hEl : (zs.set K x9).length ≤ 40 := by rw [List.length_set]; omega
        go_wp2_with fail
        go_ret
        refine ⟨_, _, rfl, ?_, hEl, HR10.out.mono (by omega), HK10.out⟩
        rw [size_set]
        exact OE.out
      have q0 : (x7 == 0) = false := by simpa using j0
      by_cases j1 : x7 = 1
      · have q1 : (x7 == 1) = true := by simpa using j1
        clear j0 j1
        have OE : Hid (Own w.heap.size w7.heap.size w7 (.slice sa (zs.length - 1) sc) (zs.take (zs.length - 1))) := own_cut HO7.out.own
        have hEl : (zs.take (zs.length - 1)).length ≤ 40 := by rw [List.length_take]; omega
        obtain ⟨hc1, hc2⟩ := own_bounds HO7.out.own
        have hi1 : (1 : Int) ≤ (zs.length : Int) := by omega
        have hi2 : (zs.length : Int) ≤ (sc : Int) := by omega
        go_wp2_with fail
        go_ret
        exact ⟨_, _, rfl, OE.out, hEl, HR7.out.mono (by omega), HK7.out⟩
      have q1 : (x7 == 1) = false := by simpa using j1
      clear j0 j1
      go_wp2_with fail
      refine (pick _ HR7.out (by omega)).mono ?_
      rintro e w8 ⟨v8, rfl, ⟨x8, rfl, y8, z8⟩, hR8, hK8⟩
      have HO8 := Lib.hid (HO7.out.keep hK8 hlt)
      have HK8 : Hid (Keep rb w w8) := HK7.out.trans hK8
      have HR8 := Lib.hid hR8
      have hs8 : w.heap.size ≤ w8.heap.size := HK8.out.size
      clear hR8 hK8 HO7 HK7 HR7
      go_wp2_with (first
        | (at_builtin; refine wp_appI rfl _ _ rfl w.heap.size _ _ zs [x8] rfl rfl (HO8.out.alloc _) (ints_lit1 _ _ _) (by simp; omega) (by simp; omega) ?_; intro v9 w9 ow9 hg9 _; (have OE := Lib.hid (OwnV.own ow9)); (have hEl : (zs ++ [x8]).length ≤ 40 := by simp; omega); (have hRE : Hid (Reader w9 rb (B + 200)) := ((HR8.out.alloc _).grown hg9 (fun k hk => (HO8.out.lt k hk).1) hlt).mono (by omega)); (have hKE : Hid (Keep rb w w9) := (HK8.out.alloc _).grown hg9 (fun k hk => (HO8.out.lt k hk).1)); clear ow9 hg9))
      try (obtain ⟨ea, ec, rfl⟩ := own_shape OE.out)
      go_wp2_with fail
      go_ret
      exact ⟨_, _, rfl, OE.out, hEl, hRE.out.mono (by omega), hKE.out⟩
theorem readerDrew {w : World} {rb B : Nat} (h : Reader w rb B) : Reader w.drew rb B := h.below (Below.refl _ _).drew
theorem codePick {l : List Value} (h : l.all isI64 = true) {k : Nat} (hk : k < l.length) : ∃ m : Int, l[k] = .int .i64 m := by
  have := List.all_eq_true.1 h l[k] (List.getElem_mem hk)
  cases hv : l[k] with
  | int kd m => cases kd <;> simp [isI64, hv] at this; exact ⟨m, rfl⟩
  | _ => simp [isI64, hv] at this
/-- Bytes and an index. -/
def DrawnCode (w : World) (e : Ending) (w' : World) : Prop := ∃ v zs p, e = .returned (.tuple #[v, .int .i64 p]) ∧ Ints w' v zs ∧ zs.length ≤ 40 ∧ Below w.heap.size w w'
end Go.Proofs.YthplgehdgaeapaaDoor
