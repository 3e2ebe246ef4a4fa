/- The law FnExactRunUntil: for every input it answers true, and changes nothing that was there. No condition. -/
import Derived.Test.YtpoiojknahmicaaReadMach
import Derived.Test.YtpoiojknahmicaaRunS
import Derived.Deep.RegionWith
import Derived.Test.YtpoiojknahmicaaUntS
namespace Go.Proofs.Ytpoiojknahmicaa
open Go.ChangeShapes Go.WideShapes Go.ChangeAt Go.RowKit
set_option linter.unusedVariables false

theorem sumLen_rows {rom : List (List Int)} (h : ∀ zs ∈ rom, zs.length = 256) : sumLen rom = 256 * rom.length := by
  unfold sumLen
  induction rom with
  | nil => rfl
  | cons z r ih =>
    have h1 := h z (List.mem_cons_self ..)
    have h2 := ih (fun zs hz => h zs (List.mem_cons_of_mem _ hz))
    simp only [List.map_cons, List.sum_cons, List.length_cons] at h2 ⊢
    omega
theorem good_small {m : Mach} {C : Int} (g : m.Good C) : m.ram.length ≤ 1048576 ∧ sumLen m.rom ≤ 1048576 ∧ m.back.length ≤ 1048576 := by
  obtain ⟨h1, h2, _⟩ := memB_iff.1 g.mem
  have hr := (shp_of g.mem).r
  have hn := (shp_of g.mem).n4
  have hrow := (shp_of g.mem).row
  have hs := sumLen_rows (rom := m.rom) fun zs hz => by
    obtain ⟨i, hi, rfl⟩ := List.mem_iff_getElem.1 hz
    have := hrow i hi
    rwa [List.getD_eq_getElem?_getD, List.getElem?_eq_getElem hi] at this
  have hl := g.len
  exact ⟨by omega, by omega, by omega⟩
theorem zero_small : zeroM.ram.length ≤ 1048576 ∧ sumLen zeroM.rom ≤ 1048576 ∧ zeroM.back.length ≤ 1048576 := by simp [zeroM, sumLen]
theorem isR_small {m mm : Mach} {p : Int} {N : Nat} (h : IsR m p N mm) : mm.ram.length ≤ 1048576 ∧ sumLen mm.rom ≤ 1048576 ∧ mm.back.length ≤ 1048576 := by
  unfold IsR at h
  split at h
  · rename_i hc
    rw [Bool.and_eq_true] at hc
    rw [h.2]
    exact good_small ((machB_good hc.1).steps _)
  · rw [h.2]; exact zero_small
theorem isR_le {m mm : Mach} {p : Int} {N : Nat} (h : IsR m p N mm) : N ≤ 500 := by
  unfold IsR at h
  split at h
  · exact isUnt_le h.1
  · rw [h.1]; omega
set_option maxHeartbeats 8000000 in
set_option maxRecDepth 20000 in
theorem walk_FnExactRunUntil (v0 v1 : Value) (w : World) (y0 : IsMach w v0) (y1 : IsInt w v1) : Calls Try.prog 17 #[v0, v1] w fun e w' => e = .returned (.bool true) ∧ Below w.heap.size w w' := by
  obtain ⟨m, y0⟩ := y0
  obtain ⟨n, rfl⟩ := y1
  have hY := Lib.hid y0
  obtain ⟨za, zc, zb, zd, ze, zf, rfl, _, _, _, _, _, _⟩ := machV_shape y0
  clear y0
  have k1 : (1048576 : Int) ≤ 1048576 := by omega
  have k2 : (0 : Int) ≤ 1048576 := by omega
  go_enter Try.func17, Try.ntmps17
  go_wp2_with fail
  refine (laws_szMachine (hY.out.alloc _) k1 k2).mono ?_
  rintro e w1 ⟨rfl, hb1⟩
  obtain ⟨hc1, hf1⟩ := bcell hb1
  have hs1 : w.heap.size + 1 ≤ w1.heap.size := Nat.le_trans (by go_size) hb1.size
  have z1_0 : w.heap.size < w1.heap.size := Nat.lt_of_lt_of_le (by go_size) hb1.size
  have hB1 : Hid (Below w.heap.size w w1) := below_via hb1 (by repeat (first | with_reducible exact Below.refl _ _ | with_reducible refine below_via (by assumption) ?_ (by go_size) | with_reducible refine below_within (by assumption) ?_ (by go_size) (by omega) | with_reducible refine Below.alloc ?_ (by go_size) _ | with_reducible refine Below.setCell ?_ (by go_size) _ | with_reducible refine Below.drew ?_)) (by go_size)
  have tP1 := mc_below hb1 (mc_lit rfl)
  obtain ⟨⟨tP1_0, tP1_1, tP1_2⟩, ⟨tP1_3, tP1_4, tP1_5⟩, tP1_6, tP1_7, tP1_8⟩ := id tP1
  by_cases hneg : szMach 1048576 m < 0
  · go_wp2_with fail
    go_ret
    refine ⟨rfl, ?_⟩
    repeat (first | with_reducible exact Below.refl _ _ | with_reducible refine below_via (by assumption) ?_ (by go_size) | with_reducible refine below_within (by assumption) ?_ (by go_size) (by omega) | with_reducible refine Below.alloc ?_ (by go_size) _ | with_reducible refine Below.setCell ?_ (by go_size) _ | with_reducible refine Below.drew ?_)
  obtain ⟨b1, b2, b3, b4⟩ := szMach_ok hneg
  go_wp2_with fail
  refine (laws_toMachine (hY.out.below hB1.out) (by omega) (by omega) (by omega) (by omega)).mono ?_
  rintro e w2 ⟨v2, rfl, o2, hb2⟩
  have hB2 : Hid (Below w.heap.size w w2) := below_via hb2 hB1.out hB1.out.size
  have tP2 := mc_below hb2 tP1
  obtain ⟨⟨tP2_0, tP2_1, tP2_2⟩, ⟨tP2_3, tP2_4, tP2_5⟩, tP2_6, tP2_7, tP2_8⟩ := id tP2
  have hs2 := hB2.out.size
  go_wp2_with fail
  refine (spec_RunUntil n o2.mach).mono ?_
  rintro e w3 ⟨N, mm, v3, hN, rfl, o3, hb3⟩
  have HN := Lib.hid hN
  have S13 := Lib.hid (isR_small hN)
  have hN5 := isR_le hN
  clear hN
  have hB3 : Hid (Below w.heap.size w w3) := below_via hb3 hB2.out hs2
  have tP3 := mc_below hb3 tP2
  obtain ⟨⟨tP3_0, tP3_1, tP3_2⟩, ⟨tP3_3, tP3_4, tP3_5⟩, tP3_6, tP3_7, tP3_8⟩ := id tP3
  have lP3 : w.heap.size < w3.heap.size := Mc.lt tP3
  have hs3 := hB3.out.size
  obtain ⟨s1, s3, s4⟩ := S13.out
  have M3 := Lib.hid o3.mach
  obtain ⟨wa, wc, wb, wd, we, wf, rfl, _, _, _, _, _, _⟩ := machV_shape M3.out
  clear o3 o2
  go_wp2_with fail
  refine (laws_toMachine (hY.out.below (hB3.out.alloc hs3 _)) (by omega) (by omega) (by omega) (by omega)).mono ?_
  rintro e w4 ⟨v4, rfl, o4, hb4⟩
  have hB4 : Hid (Below w.heap.size w w4) := below_via hb4 (hB3.out.alloc hs3 _) (hB3.out.alloc hs3 _).size
  have tP4 := mc_below hb4 (mc_alloc _ tP3)
  have tW4 := mc_below hb4 (mc_lit rfl)
  obtain ⟨⟨tP4_0, tP4_1, tP4_2⟩, ⟨tP4_3, tP4_4, tP4_5⟩, tP4_6, tP4_7, tP4_8⟩ := id tP4
  obtain ⟨⟨tW4_0, tW4_1, tW4_2⟩, ⟨tW4_3, tW4_4, tW4_5⟩, tW4_6, tW4_7, tW4_8⟩ := id tW4
  have lP4 : w.heap.size < w4.heap.size := Mc.lt tP4
  have lW4 : w3.heap.size < w4.heap.size := Mc.lt tW4
  have B34 : Hid (Below w3.heap.size w3 w4) := ((Below.refl _ _).alloc (Nat.le_refl _) _).trans (hb4.mono (by simp))
  have hs4 : w3.heap.size + 1 ≤ w4.heap.size := Nat.le_trans (by simp) hb4.size
  have O4 := Lib.hid o4
  obtain ⟨xa, xc, xb, xd, xe, xf, rfl, _, _, _, _, _, _⟩ := machV_shape O4.out.mach
  clear o4
  go_wp2_with fail
  refine (impl_RunUntil n (O4.out.mach.alloc _)).mono ?_
  rintro e w5 ⟨N', mm', v5, hN', rfl, o5, hb5⟩
  obtain ⟨rfl, rfl⟩ := HN.out.unique hN'
  clear hN'
  have hB5 : Hid (Below w.heap.size w w5) := below_via hb5 (hB4.out.alloc hB4.out.size _) (hB4.out.alloc hB4.out.size _).size
  have tP5 := mc_below hb5 (mc_alloc _ tP4)
  have tW5 := mc_below hb5 (mc_alloc _ tW4)
  have tX5 := mc_below hb5 (mc_lit rfl)
  obtain ⟨⟨tP5_0, tP5_1, tP5_2⟩, ⟨tP5_3, tP5_4, tP5_5⟩, tP5_6, tP5_7, tP5_8⟩ := id tP5
  obtain ⟨⟨tW5_0, tW5_1, tW5_2⟩, ⟨tW5_3, tW5_4, tW5_5⟩, tW5_6, tW5_7, tW5_8⟩ := id tW5
  obtain ⟨⟨tX5_0, tX5_1, tX5_2⟩, ⟨tX5_3, tX5_4, tX5_5⟩, tX5_6, tX5_7, tX5_8⟩ := id tX5
  have lP5 : w.heap.size < w5.heap.size := Mc.lt tP5
  have lW5 : w3.heap.size < w5.heap.size := Mc.lt tW5
  have lX5 : w4.heap.size < w5.heap.size := Mc.lt tX5
  have B35 : Hid (Below w3.heap.size w3 w5) := (B34.out.alloc (Nat.le_of_lt lW4) _).trans (hb5.mono (by first | omega | (simp; omega)))
  have hs5 : w4.heap.size + 1 ≤ w5.heap.size := Nat.le_trans (by simp) hb5.size
  have O5 := Lib.hid o5
  obtain ⟨ga, gc, gb, gd, ge, gf, rfl, _, _, _, _, _, _⟩ := machV_shape O5.out.mach
  clear o5
  have X5 := Lib.hid (O4.out.agree (agree_below hb5 ((Agree.refl _ _ _).alloc (Nat.le_refl _) _) (by simp)))
  have hE : eqMach mm mm = true := eqMach_self mm
  go_wp2_with fail
  refine (calls_eqv (laws_eqMachine (O5.out.mach.alloc _) ((M3.out.below B35.out).alloc _)) hE).mono ?_
  rintro e w6 ⟨rfl, hb6⟩
  have hB6 : Hid (Below w.heap.size w w6) := below_via hb6 (hB5.out.alloc hB5.out.size _) (hB5.out.alloc hB5.out.size _).size
  have tP6 := mc_below hb6 (mc_alloc _ tP5)
  have tW6 := mc_below hb6 (mc_alloc _ tW5)
  have tX6 := mc_below hb6 (mc_alloc _ tX5)
  have tG6 := mc_below hb6 (mc_lit rfl)
  obtain ⟨⟨tP6_0, tP6_1, tP6_2⟩, ⟨tP6_3, tP6_4, tP6_5⟩, tP6_6, tP6_7, tP6_8⟩ := id tP6
  obtain ⟨⟨tW6_0, tW6_1, tW6_2⟩, ⟨tW6_3, tW6_4, tW6_5⟩, tW6_6, tW6_7, tW6_8⟩ := id tW6
  obtain ⟨⟨tX6_0, tX6_1, tX6_2⟩, ⟨tX6_3, tX6_4, tX6_5⟩, tX6_6, tX6_7, tX6_8⟩ := id tX6
  obtain ⟨⟨tG6_0, tG6_1, tG6_2⟩, ⟨tG6_3, tG6_4, tG6_5⟩, tG6_6, tG6_7, tG6_8⟩ := id tG6
  have hs6 : w5.heap.size + 1 ≤ w6.heap.size := Nat.le_trans (by simp) hb6.size
  have B36 : Hid (Below w3.heap.size w3 w6) := (B35.out.alloc (Nat.le_of_lt lW5) _).trans (hb6.mono (by first | omega | (simp; omega)))
  have X6 := Lib.hid (X5.out.agree (agree_below hb6 ((Agree.refl _ _ _).alloc (by omega) _) (by first | omega | (simp; omega))))
  have G6 := Lib.hid (O5.out.agree (agree_below hb6 ((Agree.refl _ _ _).alloc (Nat.le_refl _) _) (by simp)))
  have hE2 : eqMach m m = true := eqMach_self m
  go_wp2_with fail
  go_region_with (first
    | (go_at_call 62; refine (laws_toMachine (hY.out.below hB6.out.drew) (by omega) (by omega) (by omega) (by omega)).mono ?_; rintro e w7 ⟨v7, rfl, o7, hb7⟩; (have tX7 := mc_below hb7 (mc_drew tX6)); obtain ⟨⟨tX7_0, tX7_1, tX7_2⟩, ⟨tX7_3, tX7_4, tX7_5⟩, tX7_6, tX7_7, tX7_8⟩ := id tX7)
    | (go_at_call 64; refine (calls_eqv (laws_eqMachine (X6.out.agree (by (repeat (first | assumption | with_reducible exact Agree.refl _ _ _ | with_reducible refine agree_below (by assumption) ?_ (by first | omega | go_size) | with_reducible refine agree_within (by assumption) ?_ (by first | omega | go_size) (by omega) | with_reducible refine Agree.alloc ?_ (by first | omega | go_size) _ | with_reducible refine Agree.setCell ?_ (by first | omega | (dsimp only; omega)) _ | with_reducible refine Agree.drew ?_)))).mach o7.mach) hE2).mono ?_; rintro e w8 ⟨rfl, hb8⟩))
  all_goals
    have b68 : Below w6.heap.size w6 w8 := ((Below.refl _ w6).drew.trans (hb7.mono (Nat.le_refl _))).trans (hb8.mono hb7.size)
    have hs8 := b68.size
    have hB8 : Hid (Below w.heap.size w w8) := hB6.out.trans (b68.mono hB6.out.size)
    have B38 : Hid (Below w3.heap.size w3 w8) := B36.out.trans (b68.mono B36.out.size)
    have tP8 := mc_below b68 tP6
    have tW8 := mc_below b68 tW6
    have tX8 := mc_below b68 tX6
    have tG8 := mc_below b68 tG6
    obtain ⟨⟨tP8_0, tP8_1, tP8_2⟩, ⟨tP8_3, tP8_4, tP8_5⟩, tP8_6, tP8_7, tP8_8⟩ := id tP8
    obtain ⟨⟨tW8_0, tW8_1, tW8_2⟩, ⟨tW8_3, tW8_4, tW8_5⟩, tW8_6, tW8_7, tW8_8⟩ := id tW8
    obtain ⟨⟨tX8_0, tX8_1, tX8_2⟩, ⟨tX8_3, tX8_4, tX8_5⟩, tX8_6, tX8_7, tX8_8⟩ := id tX8
    obtain ⟨⟨tG8_0, tG8_1, tG8_2⟩, ⟨tG8_3, tG8_4, tG8_5⟩, tG8_6, tG8_7, tG8_8⟩ := id tG8
    have X8 := Lib.hid (X6.out.agree (agree_below b68 (Agree.refl _ _ _) (by omega)))
    have G8 := Lib.hid (G6.out.agree (agree_below b68 (Agree.refl _ _ _) (by omega)))
    have hk0 : ¬ (1 : Int) + (m.ram.length : Int) + (sumLen m.rom : Int) + (m.back.length : Int) < 0 := by omega
    have hq0 : ¬ (1 : Int) + (mm.ram.length : Int) + (sumLen mm.rom : Int) + (mm.back.length : Int) < 0 := by omega
    have hq1 : ((1 : Int) + (mm.ram.length : Int) + (sumLen mm.rom : Int) + (mm.back.length : Int) != 1 + (mm.ram.length : Int) + (sumLen mm.rom : Int) + (mm.back.length : Int)) = false := by simp
    clear hc1 hf1
    go_wp2_with fail
    refine (laws_markMachine X8.out (by omega) (by omega) (by omega) (by omega) (by omega) (by omega)).mono ?_
    rintro e w9 ⟨rfl, _, hw9⟩
    have hs9 := hw9.size
    have hB9 : Hid (Below w.heap.size w w9) := below_within hw9 hB8.out hB8.out.size (by first | omega | (simp; omega))
    have B39 : Hid (Below w3.heap.size w3 w9) := below_within hw9 B38.out B38.out.size (by first | omega | simp)
    have tP9 := mc_within hw9 tP8 (.inl (by first | omega | (simp; omega)))
    have tW9 := mc_within hw9 tW8 (.inl (by first | omega | simp))
    have tX9 := mc_within hw9 tX8 (.inr (Nat.le_refl _))
    have tG9 := mc_within hw9 tG8 (.inr (by omega))
    obtain ⟨⟨tP9_0, tP9_1, tP9_2⟩, ⟨tP9_3, tP9_4, tP9_5⟩, tP9_6, tP9_7, tP9_8⟩ := id tP9
    obtain ⟨⟨tW9_0, tW9_1, tW9_2⟩, ⟨tW9_3, tW9_4, tW9_5⟩, tW9_6, tW9_7, tW9_8⟩ := id tW9
    obtain ⟨⟨tX9_0, tX9_1, tX9_2⟩, ⟨tX9_3, tX9_4, tX9_5⟩, tX9_6, tX9_7, tX9_8⟩ := id tX9
    obtain ⟨⟨tG9_0, tG9_1, tG9_2⟩, ⟨tG9_3, tG9_4, tG9_5⟩, tG9_6, tG9_7, tG9_8⟩ := id tG9
    have G9 := Lib.hid (G8.out.agree (agree_within hw9 (Agree.refl _ _ _) (by omega) (.inr (by first | omega | simp))))
    go_wp2_with fail
    refine (calls_eqv (laws_eqMachine G9.out.mach (M3.out.below B39.out)) hE).mono ?_
    rintro e w10 ⟨rfl, hb10⟩
    have hs10 := hb10.size
    have hB10 : Hid (Below w.heap.size w w10) := below_via hb10 hB9.out hB9.out.size
    have B310 : Hid (Below w3.heap.size w3 w10) := below_via hb10 B39.out B39.out.size
    have tP10 := mc_below hb10 tP9
    have tW10 := mc_below hb10 tW9
    have tG10 := mc_below hb10 tG9
    obtain ⟨⟨tP10_0, tP10_1, tP10_2⟩, ⟨tP10_3, tP10_4, tP10_5⟩, tP10_6, tP10_7, tP10_8⟩ := id tP10
    obtain ⟨⟨tW10_0, tW10_1, tW10_2⟩, ⟨tW10_3, tW10_4, tW10_5⟩, tW10_6, tW10_7, tW10_8⟩ := id tW10
    obtain ⟨⟨tG10_0, tG10_1, tG10_2⟩, ⟨tG10_3, tG10_4, tG10_5⟩, tG10_6, tG10_7, tG10_8⟩ := id tG10
    have G10 := Lib.hid (G9.out.agree (agree_below hb10 (Agree.refl _ _ _) (by omega)))
    go_wp2_with fail
    refine (laws_markMachine G10.out (by omega) (by omega) (by omega) (by omega) (by omega) (by omega)).mono ?_
    rintro e w11 ⟨rfl, mk11, hw11⟩
    have hs11 := hw11.size
    have MK := Lib.hid mk11
    clear mk11
    have hB11 : Hid (Below w.heap.size w w11) := below_within hw11 hB10.out hB10.out.size (by first | omega | (simp; omega))
    have B311 : Hid (Below w3.heap.size w3 w11) := below_within hw11 B310.out B310.out.size (by first | omega | (simp; omega))
    have tP11 := mc_within hw11 tP10 (.inl (by first | omega | (simp; omega)))
    have tW11 := mc_within hw11 tW10 (.inl (by first | omega | (simp; omega)))
    have tG11 := mc_within hw11 tG10 (.inr (Nat.le_refl _))
    obtain ⟨⟨tP11_0, tP11_1, tP11_2⟩, ⟨tP11_3, tP11_4, tP11_5⟩, tP11_6, tP11_7, tP11_8⟩ := id tP11
    obtain ⟨⟨tW11_0, tW11_1, tW11_2⟩, ⟨tW11_3, tW11_4, tW11_5⟩, tW11_6, tW11_7, tW11_8⟩ := id tW11
    obtain ⟨⟨tG11_0, tG11_1, tG11_2⟩, ⟨tG11_3, tG11_4, tG11_5⟩, tG11_6, tG11_7, tG11_8⟩ := id tG11
    go_wp2_with fail
    refine (laws_heldMachine MK.out.mach (by omega) (by omega) (by omega) (by omega) (by omega)).mono ?_
    rintro e w12 ⟨rfl, hb12⟩
    have hs12 := hb12.size
    have hB12 : Hid (Below w.heap.size w w12) := below_via hb12 hB11.out hB11.out.size
    have B312 : Hid (Below w3.heap.size w3 w12) := below_via hb12 B311.out B311.out.size
    have tP12 := mc_below hb12 tP11
    have tW12 := mc_below hb12 tW11
    have tG12 := mc_below hb12 tG11
    obtain ⟨⟨tP12_0, tP12_1, tP12_2⟩, ⟨tP12_3, tP12_4, tP12_5⟩, tP12_6, tP12_7, tP12_8⟩ := id tP12
    obtain ⟨⟨tW12_0, tW12_1, tW12_2⟩, ⟨tW12_3, tW12_4, tW12_5⟩, tW12_6, tW12_7, tW12_8⟩ := id tW12
    obtain ⟨⟨tG12_0, tG12_1, tG12_2⟩, ⟨tG12_3, tG12_4, tG12_5⟩, tG12_6, tG12_7, tG12_8⟩ := id tG12
    go_wp2_with fail
    refine (laws_toMachine (hY.out.below hB12.out) (by omega) (by omega) (by omega) (by omega)).mono ?_
    rintro e w13 ⟨v13, rfl, o13, hb13⟩
    have hs13 := hb13.size
    have hB13 : Hid (Below w.heap.size w w13) := below_via hb13 hB12.out hB12.out.size
    have B313 : Hid (Below w3.heap.size w3 w13) := below_via hb13 B312.out B312.out.size
    have tW13 := mc_below hb13 tW12
    have tG13 := mc_below hb13 tG12
    obtain ⟨⟨tW13_0, tW13_1, tW13_2⟩, ⟨tW13_3, tW13_4, tW13_5⟩, tW13_6, tW13_7, tW13_8⟩ := id tW13
    obtain ⟨⟨tG13_0, tG13_1, tG13_2⟩, ⟨tG13_3, tG13_4, tG13_5⟩, tG13_6, tG13_7, tG13_8⟩ := id tG13
    go_wp2_with fail
    refine (impl_RunUntil n o13.mach).mono ?_
    rintro e w14 ⟨N', mm', v14, hN', rfl, o14, hb14⟩
    obtain ⟨rfl, rfl⟩ := HN.out.unique hN'
    clear hN'
    have hs14 := hb14.size
    have hB14 : Hid (Below w.heap.size w w14) := below_via hb14 hB13.out hB13.out.size
    have B314 : Hid (Below w3.heap.size w3 w14) := below_via hb14 B313.out B313.out.size
    have tW14 := mc_below hb14 tW13
    have tG14 := mc_below hb14 tG13
    obtain ⟨⟨tW14_0, tW14_1, tW14_2⟩, ⟨tW14_3, tW14_4, tW14_5⟩, tW14_6, tW14_7, tW14_8⟩ := id tW14
    obtain ⟨⟨tG14_0, tG14_1, tG14_2⟩, ⟨tG14_3, tG14_4, tG14_5⟩, tG14_6, tG14_7, tG14_8⟩ := id tG14
    have lW14 : w3.heap.size < w14.heap.size := Mc.lt tW14
    have lG14 : w5.heap.size < w14.heap.size := Mc.lt tG14
    have O14 := Lib.hid o14.mach
    obtain ⟨ha, hc, hb, hd, he, hf, rfl, _, _, _, _, _, _⟩ := machV_shape O14.out
    clear o14 o13
    go_wp2_with fail
    refine (calls_eqv (laws_eqMachine (O14.out.alloc _) ((M3.out.below B314.out).alloc _)) hE).mono ?_
    rintro e w15 ⟨rfl, hb15⟩
    have hs15 := hb15.size
    have hB15 : Hid (Below w.heap.size w w15) := below_via hb15 (hB14.out.alloc hB14.out.size _) (hB14.out.alloc hB14.out.size _).size
    have tG15 := mc_below hb15 (mc_alloc _ tG14)
    obtain ⟨⟨tG15_0, tG15_1, tG15_2⟩, ⟨tG15_3, tG15_4, tG15_5⟩, tG15_6, tG15_7, tG15_8⟩ := id tG15
    have MK15 := Lib.hid (MK.out.agree (show Agree _ _ w11 w15 from (by (repeat (first | assumption | with_reducible exact Agree.refl _ _ _ | with_reducible refine agree_below (by assumption) ?_ (by first | omega | go_size) | with_reducible refine agree_within (by assumption) ?_ (by first | omega | go_size) (by omega) | with_reducible refine Agree.alloc ?_ (by first | omega | go_size) _ | with_reducible refine Agree.setCell ?_ (by first | omega | (dsimp only; omega)) _ | with_reducible refine Agree.drew ?_)))))
    go_wp2_with fail
    refine (laws_heldMachine MK15.out.mach (by omega) (by omega) (by omega) (by omega) (by omega)).mono ?_
    rintro e w16 ⟨rfl, hb16⟩
    have hB16 : Hid (Below w.heap.size w w16) := below_via hb16 hB15.out hB15.out.size
    go_wp2_with fail
    go_ret
    exact ⟨rfl, hB16.out⟩
set_option maxRecDepth 100000 in
theorem lifted_FnExactRunUntil (os : Os) (started : os.Started) (H : Type) (enc : TypeId × Value → H) :
    ReturnsInHanded {} Try.checked os 17 .any (Rows.fnExactRunUntilSpec.pre6 enc Try.prog Try.f17 Rows.fnExactRunUntilRow.domain false) (Rows.fnExactRunUntilSpec.post enc Try.prog Try.f17 false true false false) := by
  refine returnsInHanded_of_change (C := Try.checked) own started (by kernel_rfl) Try.func17
    (ChangeSpec.witness6 (enc := enc) (C := Try.checked) false ⟨#[], #[.agg #[.slice none 0 0, .slice none 0 0, .int .i64 0, .int .i64 0, .int .i64 0, .bool false, .slice none 0 0, .bool false, .int .i64 0], .int .i64 0], []⟩ 8 (by kernel_rfl) (by kernel_rfl) (by kernel_rfl) (by kernel_rfl)) ?_
  intro W base args ds gs before hval0 hW hcnd _
  have hval : ∀ (j : Nat) t v, Try.f17.params[j]? = some t → args[j]? = some v → Value.okWide Try.prog W .any base t v := hval0
  have hW' := hW
  obtain ⟨p, q, hA0, hV, rfl, hfz, hnd⟩ := hW
  have hA : DataW.TrodAll enc Try.prog W 0 (fun _ => true) true Try.f17.params.toList args.toList ds p := hA0
  rw [Try.params17] at hA hval
  obtain ⟨v0, vs0, d0, ds0, p0, q0, hargs, rfl, rfl, h0, r0⟩ := trodAll_cons hA
  obtain ⟨v1, vs1, d1, ds1, p1, q1, rfl, rfl, rfl, h1, r1⟩ := trodAll_cons r0
  obtain ⟨rfl, rfl, rfl⟩ := trodAll_nil r1
  obtain rfl : args = #[v0, v1] := by cases args; simp_all
  obtain ⟨rfl, rfl⟩ := trodVars_none hV
  have lt0 : ∀ x ∈ p0, x.block < W.heap.size := by obtain ⟨m, hm⟩ := h0; exact DataW.trod_lt m _ _ _ hm
  have y0 := read_Machine (hval 0 67 v0 rfl rfl) h0
  have lt1 : ∀ x ∈ p1, x.block < W.heap.size := by obtain ⟨m, hm⟩ := h1; exact DataW.trod_lt m _ _ _ hm
  have y1 := read_int (hval 1 3 v1 rfl rfl) h1
  clear hA0 hval0
  refine (walk_FnExactRunUntil v0 v1 W y0 y1).mono fun e W' ⟨he, bel⟩ => ?_
  subst he
  exact ⟨_, rfl, _, _, _, [], _, [], hW', trodAll_mk1 (shut_bool Try.underlying4 _), (trodAll_cons_mk (Below.trod laidOut (by kernel_rfl) (of_decide_eq_true (by kernel_rfl)) h0 bel lt0) (trodAll_cons_mk (Below.trod laidOut (by kernel_rfl) (of_decide_eq_true (by kernel_rfl)) h1 bel lt1) trodAll_mk0)), rfl, bel.frame _, fun h => by cases h⟩
theorem closed_FnExactRunUntil : joinedFacts Try.prog 17 Try.f17 Rows.fnExactRunUntilSpec Rows.fnExactRunUntilRow = true := by
  unfold joinedFacts
  rw [shared.1, shared.2.1, shared.2.2.1, shared.2.2.2]
  kernel_rfl
/-- The given statement of FnExactRunUntil. -/
theorem FnExactRunUntil_holds : Rows.FnExactRunUntilSaid :=
  OpenClaim.holds_of_wide 17 Try.f17 rfl rfl rfl rfl rfl rfl rfl ⟨rfl, rfl, rfl, rfl, rfl⟩ rfl rfl rfl rfl rfl (by kernel_rfl) Try.func17 closed_FnExactRunUntil
    (of_decide_eq_true (by kernel_rfl)) (by unfold Func.isWrapper; first | (rw [if_pos (by decide +kernel)]; kernel_rfl) | (rw [if_neg (by decide +kernel)]; exact ⟨rfl, rfl⟩))
    (fun os started H enc _ => lifted_FnExactRunUntil os started H enc)

end Go.Proofs.Ytpoiojknahmicaa
