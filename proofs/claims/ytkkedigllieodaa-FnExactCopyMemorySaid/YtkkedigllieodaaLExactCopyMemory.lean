/- The law FnExactCopyMemory: for every input it answers true, and changes nothing that was there. No condition. -/
import Derived.Test.YtkkedigllieodaaReadMem
import Derived.Deep.RegionWith
import Derived.Test.YtkkedigllieodaaCopyFns
namespace Go.Proofs.Ytkkedigllieodaa
open Go.ChangeShapes Go.WideShapes Go.ChangeAt Go.RowKit
set_option linter.unusedVariables false

theorem sizes_cp {ram : List Int} {rom : List (List Int)} {bank : Int} (p q n : Int) (b1 : ram.length ≤ 1048576) (b3 : sumLen rom ≤ 1048576) : (cpR ram rom bank p q n).length ≤ 1048576 ∧ sumLen (cpM ram rom bank p q n) ≤ 1048576 := by
  unfold cpR cpM
  split
  · rw [copyN_len]; exact ⟨b1, b3⟩
  · simp [sumLen]
set_option maxHeartbeats 4000000 in
theorem walk_FnExactCopyMemory (v0 v1 v2 v3 : Value) (w : World) (y0 : IsMem w v0) (y1 : IsInt w v1) (y2 : IsInt w v2) (y3 : IsInt w v3) : Calls Try.prog 12 #[v0, v1, v2, v3] w fun e w' => e = .returned (.bool true) ∧ Below w.heap.size w w' := by
  obtain ⟨ram, rom, bank, y0⟩ := y0
  obtain ⟨p, rfl⟩ := y1
  obtain ⟨q, rfl⟩ := y2
  obtain ⟨n, rfl⟩ := y3
  have hY := Lib.hid y0
  obtain ⟨za, zc, zb, zd, rfl, _, _, _, _⟩ := memV_shape y0
  clear y0
  have k1 : (1048576 : Int) ≤ 1048576 := by omega
  have k2 : (0 : Int) ≤ 1048576 := by omega
  go_enter Try.func12, Try.ntmps12
  go_wp2_with fail
  refine (laws_szMemory (hY.out.alloc _) k1 k2).mono ?_
  rintro e w1 ⟨rfl, hb1⟩
  obtain ⟨hc1, hf1⟩ := bcell hb1
  have hs1 : w.heap.size + 1 ≤ w1.heap.size := Nat.le_trans (by go_size) hb1.size
  have z1_0 : w.heap.size < w1.heap.size := Nat.lt_of_lt_of_le (by go_size) hb1.size
  have hB1 : Hid (Below w.heap.size w w1) := below_via hb1 (by repeat (first | with_reducible exact Below.refl _ _ | with_reducible refine below_via (by assumption) ?_ (by go_size) | with_reducible refine below_within (by assumption) ?_ (by go_size) (by omega) | with_reducible refine Below.alloc ?_ (by go_size) _ | with_reducible refine Below.setCell ?_ (by go_size) _ | with_reducible refine Below.drew ?_)) (by go_size)
  have tP1 := three_below hb1 (three_lit rfl)
  obtain ⟨tP1a, tP1b, tP1c⟩ := id tP1
  by_cases hneg : szMem 1048576 ram rom < 0
  · go_wp2_with fail
    go_ret
    refine ⟨rfl, ?_⟩
    repeat (first | with_reducible exact Below.refl _ _ | with_reducible refine below_via (by assumption) ?_ (by go_size) | with_reducible refine below_within (by assumption) ?_ (by go_size) (by omega) | with_reducible refine Below.alloc ?_ (by go_size) _ | with_reducible refine Below.setCell ?_ (by go_size) _ | with_reducible refine Below.drew ?_)
  obtain ⟨b1, b2, b3⟩ := szMem_ok hneg
  obtain ⟨s1, s3⟩ := sizes_cp (ram := ram) (rom := rom) (bank := bank) p q n b1 b3
  go_wp2_with fail
  refine (laws_toMemory (hY.out.below hB1.out) (by omega) (by omega) (by omega)).mono ?_
  rintro e w2 ⟨v2, rfl, o2, hb2⟩
  have hB2 : Hid (Below w.heap.size w w2) := below_via hb2 hB1.out hB1.out.size
  have tP2 := three_below hb2 tP1
  obtain ⟨tP2a, tP2b, tP2c⟩ := id tP2
  have hs2 := hB2.out.size
  go_wp2_with fail
  refine (spec_CopyMemory p q n o2.mem).mono ?_
  rintro e w3 ⟨v3, rfl, o3, hb3⟩
  have hB3 : Hid (Below w.heap.size w w3) := below_via hb3 hB2.out hs2
  have tP3 := three_below hb3 tP2
  obtain ⟨tP3a, tP3b, tP3c⟩ := id tP3
  have lP3 : w.heap.size < w3.heap.size := block_lt_of_cell tP3a
  have hs3 := hB3.out.size
  generalize hR : cpR ram rom bank p q n = R at *
  generalize hM : cpM ram rom bank p q n = M at *
  generalize hBk : cpB ram rom bank p q n = K at *
  have M3 := Lib.hid o3.mem
  obtain ⟨wa, wc, wb, wd, rfl, _, _, _, _⟩ := memV_shape M3.out
  clear o3 o2
  go_wp2_with fail
  refine (laws_toMemory (hY.out.below (hB3.out.alloc hs3 _)) (by omega) (by omega) (by omega)).mono ?_
  rintro e w4 ⟨v4, rfl, o4, hb4⟩
  have hB4 : Hid (Below w.heap.size w w4) := below_via hb4 (hB3.out.alloc hs3 _) (hB3.out.alloc hs3 _).size
  have tP4 := three_below hb4 (three_alloc _ tP3)
  have tW4 := three_below hb4 (three_lit rfl)
  obtain ⟨tP4a, tP4b, tP4c⟩ := id tP4
  obtain ⟨tW4a, tW4b, tW4c⟩ := id tW4
  have lP4 : w.heap.size < w4.heap.size := block_lt_of_cell tP4a
  have lW4 : w3.heap.size < w4.heap.size := block_lt_of_cell tW4a
  have B34 : Hid (Below w3.heap.size w3 w4) := ((Below.refl _ _).alloc (Nat.le_refl _) _).trans (hb4.mono (by simp))
  have hs4 : w3.heap.size + 1 ≤ w4.heap.size := Nat.le_trans (by simp) hb4.size
  have O4 := Lib.hid o4
  obtain ⟨xa, xc, xb, xd, rfl, _, _, _, _⟩ := memV_shape O4.out.mem
  clear o4
  go_wp2_with fail
  refine (impl_CopyMemory p q n (O4.out.mem.alloc _)).mono ?_
  rw [hR, hM, hBk]
  rintro e w5 ⟨v5, rfl, o5, hb5⟩
  have hB5 : Hid (Below w.heap.size w w5) := below_via hb5 (hB4.out.alloc hB4.out.size _) (hB4.out.alloc hB4.out.size _).size
  have tP5 := three_below hb5 (three_alloc _ tP4)
  have tW5 := three_below hb5 (three_alloc _ tW4)
  have tX5 := three_below hb5 (three_lit rfl)
  obtain ⟨tP5a, tP5b, tP5c⟩ := id tP5
  obtain ⟨tW5a, tW5b, tW5c⟩ := id tW5
  obtain ⟨tX5a, tX5b, tX5c⟩ := id tX5
  have lP5 : w.heap.size < w5.heap.size := block_lt_of_cell tP5a
  have lW5 : w3.heap.size < w5.heap.size := block_lt_of_cell tW5a
  have lX5 : w4.heap.size < w5.heap.size := block_lt_of_cell tX5a
  have B35 : Hid (Below w3.heap.size w3 w5) := (B34.out.alloc (Nat.le_of_lt lW4) _).trans (hb5.mono (by simp; omega))
  have hs5 : w4.heap.size + 1 ≤ w5.heap.size := Nat.le_trans (by simp) hb5.size
  have O5 := Lib.hid o5
  obtain ⟨ga, gc, gb, gd, rfl, _, _, _, _⟩ := memV_shape O5.out.mem
  clear o5
  have X5 := Lib.hid (O4.out.agree (agree_below hb5 ((Agree.refl _ _ _).alloc (Nat.le_refl _) _) (by simp)))
  have hE : eqM R M K R M K = true := by simp [eqM]
  go_wp2_with fail
  refine (calls_eqv (laws_eqMemory (O5.out.mem.alloc _) ((M3.out.below B35.out).alloc _)) hE).mono ?_
  rintro e w6 ⟨rfl, hb6⟩
  have hB6 : Hid (Below w.heap.size w w6) := below_via hb6 (hB5.out.alloc hB5.out.size _) (hB5.out.alloc hB5.out.size _).size
  have tP6 := three_below hb6 (three_alloc _ tP5)
  have tW6 := three_below hb6 (three_alloc _ tW5)
  have tX6 := three_below hb6 (three_alloc _ tX5)
  have tG6 := three_below hb6 (three_lit rfl)
  obtain ⟨tP6a, tP6b, tP6c⟩ := id tP6
  obtain ⟨tW6a, tW6b, tW6c⟩ := id tW6
  obtain ⟨tX6a, tX6b, tX6c⟩ := id tX6
  obtain ⟨tG6a, tG6b, tG6c⟩ := id tG6
  have hs6 : w5.heap.size + 1 ≤ w6.heap.size := Nat.le_trans (by simp) hb6.size
  have B36 : Hid (Below w3.heap.size w3 w6) := (B35.out.alloc (Nat.le_of_lt lW5) _).trans (hb6.mono (by simp; omega))
  have X6 := Lib.hid (X5.out.agree (agree_below hb6 ((Agree.refl _ _ _).alloc (by omega) _) (by simp; omega)))
  have G6 := Lib.hid (O5.out.agree (agree_below hb6 ((Agree.refl _ _ _).alloc (Nat.le_refl _) _) (by simp)))
  have hE2 : eqM ram rom bank ram rom bank = true := by simp [eqM]
  go_wp2_with fail
  go_region_with (first
    | (go_at_call 49; refine (laws_toMemory (hY.out.below hB6.out.drew) (by omega) (by omega) (by omega)).mono ?_; rintro e w7 ⟨v7, rfl, o7, hb7⟩; (have tX7 := three_below hb7 (three_drew tX6)); obtain ⟨tX7a, tX7b, tX7c⟩ := id tX7)
    | (go_at_call 51; refine (calls_eqv (laws_eqMemory (X6.out.agree (by (repeat (first | assumption | with_reducible exact Agree.refl _ _ _ | with_reducible refine agree_below (by assumption) ?_ (by first | omega | go_size) | with_reducible refine agree_within (by assumption) ?_ (by first | omega | go_size) (by omega) | with_reducible refine Agree.alloc ?_ (by first | omega | go_size) _ | with_reducible refine Agree.setCell ?_ (by first | omega | (dsimp only; omega)) _ | with_reducible refine Agree.drew ?_)))).mem o7.mem) hE2).mono ?_; rintro e w8 ⟨rfl, hb8⟩))
  all_goals
    have b68 : Below w6.heap.size w6 w8 := ((Below.refl _ w6).drew.trans (hb7.mono (Nat.le_refl _))).trans (hb8.mono hb7.size)
    have hs8 := b68.size
    have hB8 : Hid (Below w.heap.size w w8) := hB6.out.trans (b68.mono hB6.out.size)
    have B38 : Hid (Below w3.heap.size w3 w8) := B36.out.trans (b68.mono B36.out.size)
    have tP8 := three_below b68 tP6
    have tW8 := three_below b68 tW6
    have tX8 := three_below b68 tX6
    have tG8 := three_below b68 tG6
    obtain ⟨tP8a, tP8b, tP8c⟩ := id tP8
    obtain ⟨tW8a, tW8b, tW8c⟩ := id tW8
    obtain ⟨tX8a, tX8b, tX8c⟩ := id tX8
    obtain ⟨tG8a, tG8b, tG8c⟩ := id tG8
    have X8 := Lib.hid (X6.out.agree (agree_below b68 (Agree.refl _ _ _) (by omega)))
    have G8 := Lib.hid (G6.out.agree (agree_below b68 (Agree.refl _ _ _) (by omega)))
    have hk0 : ¬ (1 : Int) + (ram.length : Int) + (sumLen rom : Int) < 0 := by omega
    have hq0 : ¬ (1 : Int) + (R.length : Int) + (sumLen M : Int) < 0 := by omega
    have hq1 : ((1 : Int) + (R.length : Int) + (sumLen M : Int) != 1 + (R.length : Int) + (sumLen M : Int)) = false := by simp
    clear hc1 hf1
    go_wp2_with fail
    refine (laws_markMemory X8.out (by omega) (by omega) (by omega) (by omega) (by omega)).mono ?_
    rintro e w9 ⟨rfl, _, hw9⟩
    have hs9 := hw9.size
    have hB9 : Hid (Below w.heap.size w w9) := below_within hw9 hB8.out hB8.out.size (by simp; omega)
    have B39 : Hid (Below w3.heap.size w3 w9) := below_within hw9 B38.out B38.out.size (by simp)
    have tP9 := three_within hw9 tP8 (.inl (by simp; omega))
    have tW9 := three_within hw9 tW8 (.inl (by simp))
    have tX9 := three_within hw9 tX8 (.inr (Nat.le_refl _))
    have tG9 := three_within hw9 tG8 (.inr (by omega))
    obtain ⟨tP9a, tP9b, tP9c⟩ := id tP9
    obtain ⟨tW9a, tW9b, tW9c⟩ := id tW9
    obtain ⟨tX9a, tX9b, tX9c⟩ := id tX9
    obtain ⟨tG9a, tG9b, tG9c⟩ := id tG9
    have G9 := Lib.hid (G8.out.agree (agree_within hw9 (Agree.refl _ _ _) (by omega) (.inr (by simp))))
    go_wp2_with fail
    refine (calls_eqv (laws_eqMemory G9.out.mem (M3.out.below B39.out)) hE).mono ?_
    rintro e w10 ⟨rfl, hb10⟩
    have hs10 := hb10.size
    have hB10 : Hid (Below w.heap.size w w10) := below_via hb10 hB9.out hB9.out.size
    have B310 : Hid (Below w3.heap.size w3 w10) := below_via hb10 B39.out B39.out.size
    have tP10 := three_below hb10 tP9
    have tW10 := three_below hb10 tW9
    have tG10 := three_below hb10 tG9
    obtain ⟨tP10a, tP10b, tP10c⟩ := id tP10
    obtain ⟨tW10a, tW10b, tW10c⟩ := id tW10
    obtain ⟨tG10a, tG10b, tG10c⟩ := id tG10
    have G10 := Lib.hid (G9.out.agree (agree_below hb10 (Agree.refl _ _ _) (by omega)))
    go_wp2_with fail
    refine (laws_markMemory G10.out (by omega) (by omega) (by omega) (by omega) (by omega)).mono ?_
    rintro e w11 ⟨rfl, mk11, hw11⟩
    have hs11 := hw11.size
    have MK := Lib.hid mk11
    clear mk11
    have hB11 : Hid (Below w.heap.size w w11) := below_within hw11 hB10.out hB10.out.size (by simp; omega)
    have B311 : Hid (Below w3.heap.size w3 w11) := below_within hw11 B310.out B310.out.size (by simp; omega)
    have tP11 := three_within hw11 tP10 (.inl (by simp; omega))
    have tW11 := three_within hw11 tW10 (.inl (by simp; omega))
    have tG11 := three_within hw11 tG10 (.inr (Nat.le_refl _))
    obtain ⟨tP11a, tP11b, tP11c⟩ := id tP11
    obtain ⟨tW11a, tW11b, tW11c⟩ := id tW11
    obtain ⟨tG11a, tG11b, tG11c⟩ := id tG11
    go_wp2_with fail
    refine (laws_heldMemory MK.out.mem (by omega) (by omega) (by omega) (by omega)).mono ?_
    rintro e w12 ⟨rfl, hb12⟩
    have hs12 := hb12.size
    have hB12 : Hid (Below w.heap.size w w12) := below_via hb12 hB11.out hB11.out.size
    have B312 : Hid (Below w3.heap.size w3 w12) := below_via hb12 B311.out B311.out.size
    have tP12 := three_below hb12 tP11
    have tW12 := three_below hb12 tW11
    have tG12 := three_below hb12 tG11
    obtain ⟨tP12a, tP12b, tP12c⟩ := id tP12
    obtain ⟨tW12a, tW12b, tW12c⟩ := id tW12
    obtain ⟨tG12a, tG12b, tG12c⟩ := id tG12
    go_wp2_with fail
    refine (laws_toMemory (hY.out.below hB12.out) (by omega) (by omega) (by omega)).mono ?_
    rintro e w13 ⟨v13, rfl, o13, hb13⟩
    have hs13 := hb13.size
    have hB13 : Hid (Below w.heap.size w w13) := below_via hb13 hB12.out hB12.out.size
    have B313 : Hid (Below w3.heap.size w3 w13) := below_via hb13 B312.out B312.out.size
    have tW13 := three_below hb13 tW12
    have tG13 := three_below hb13 tG12
    obtain ⟨tW13a, tW13b, tW13c⟩ := id tW13
    obtain ⟨tG13a, tG13b, tG13c⟩ := id tG13
    go_wp2_with fail
    refine (impl_CopyMemory p q n o13.mem).mono ?_
    rw [hR, hM, hBk]
    rintro e w14 ⟨v14, rfl, o14, hb14⟩
    have hs14 := hb14.size
    have hB14 : Hid (Below w.heap.size w w14) := below_via hb14 hB13.out hB13.out.size
    have B314 : Hid (Below w3.heap.size w3 w14) := below_via hb14 B313.out B313.out.size
    have tW14 := three_below hb14 tW13
    have tG14 := three_below hb14 tG13
    obtain ⟨tW14a, tW14b, tW14c⟩ := id tW14
    obtain ⟨tG14a, tG14b, tG14c⟩ := id tG14
    have lW14 : w3.heap.size < w14.heap.size := block_lt_of_cell tW14a
    have lG14 : w5.heap.size < w14.heap.size := block_lt_of_cell tG14a
    have O14 := Lib.hid o14.mem
    obtain ⟨ha, hc, hb, hd, rfl, _, _, _, _⟩ := memV_shape O14.out
    clear o14 o13
    go_wp2_with fail
    refine (calls_eqv (laws_eqMemory (O14.out.alloc _) ((M3.out.below B314.out).alloc _)) hE).mono ?_
    rintro e w15 ⟨rfl, hb15⟩
    have hs15 := hb15.size
    have hB15 : Hid (Below w.heap.size w w15) := below_via hb15 (hB14.out.alloc hB14.out.size _) (hB14.out.alloc hB14.out.size _).size
    have tG15 := three_below hb15 (three_alloc _ tG14)
    obtain ⟨tG15a, tG15b, tG15c⟩ := id tG15
    have MK15 := Lib.hid (MK.out.agree (show Agree _ _ w11 w15 from (by (repeat (first | assumption | with_reducible exact Agree.refl _ _ _ | with_reducible refine agree_below (by assumption) ?_ (by first | omega | go_size) | with_reducible refine agree_within (by assumption) ?_ (by first | omega | go_size) (by omega) | with_reducible refine Agree.alloc ?_ (by first | omega | go_size) _ | with_reducible refine Agree.setCell ?_ (by first | omega | (dsimp only; omega)) _ | with_reducible refine Agree.drew ?_)))))
    go_wp2_with fail
    refine (laws_heldMemory MK15.out.mem (by omega) (by omega) (by omega) (by omega)).mono ?_
    rintro e w16 ⟨rfl, hb16⟩
    have hB16 : Hid (Below w.heap.size w w16) := below_via hb16 hB15.out hB15.out.size
    go_wp2_with fail
    go_ret
    exact ⟨rfl, hB16.out⟩
set_option maxRecDepth 100000 in
theorem lifted_FnExactCopyMemory (os : Os) (started : os.Started) (H : Type) (enc : TypeId × Value → H) :
    ReturnsInHanded {} Try.checked os 12 .any (Rows.fnExactCopyMemorySpec.pre6 enc Try.prog Try.f12 Rows.fnExactCopyMemoryRow.domain false) (Rows.fnExactCopyMemorySpec.post enc Try.prog Try.f12 false true false false) := by
  refine returnsInHanded_of_change (C := Try.checked) own started (by kernel_rfl) Try.func12
    (ChangeSpec.witness6 (enc := enc) (C := Try.checked) false ⟨#[], #[.agg #[.slice none 0 0, .slice none 0 0, .int .i64 0], .int .i64 0, .int .i64 0, .int .i64 0], []⟩ 8 (by kernel_rfl) (by kernel_rfl) (by kernel_rfl) (by kernel_rfl)) ?_
  intro W base args ds gs before hval0 hW hcnd _
  have hval : ∀ (j : Nat) t v, Try.f12.params[j]? = some t → args[j]? = some v → Value.okWide Try.prog W .any base t v := hval0
  have hW' := hW
  obtain ⟨p, q, hA0, hV, rfl, hfz, hnd⟩ := hW
  have hA : DataW.TrodAll enc Try.prog W 0 (fun _ => true) true Try.f12.params.toList args.toList ds p := hA0
  rw [Try.params12] at hA hval
  obtain ⟨v0, vs0, d0, ds0, p0, q0, hargs, rfl, rfl, h0, r0⟩ := trodAll_cons hA
  obtain ⟨v1, vs1, d1, ds1, p1, q1, rfl, rfl, rfl, h1, r1⟩ := trodAll_cons r0
  obtain ⟨v2, vs2, d2, ds2, p2, q2, rfl, rfl, rfl, h2, r2⟩ := trodAll_cons r1
  obtain ⟨v3, vs3, d3, ds3, p3, q3, rfl, rfl, rfl, h3, r3⟩ := trodAll_cons r2
  obtain ⟨rfl, rfl, rfl⟩ := trodAll_nil r3
  obtain rfl : args = #[v0, v1, v2, v3] := by cases args; simp_all
  obtain ⟨rfl, rfl⟩ := trodVars_none hV
  have lt0 : ∀ x ∈ p0, x.block < W.heap.size := by obtain ⟨m, hm⟩ := h0; exact DataW.trod_lt m _ _ _ hm
  have y0 := read_Memory (hval 0 44 v0 rfl rfl) h0
  have lt1 : ∀ x ∈ p1, x.block < W.heap.size := by obtain ⟨m, hm⟩ := h1; exact DataW.trod_lt m _ _ _ hm
  have y1 := read_int (hval 1 3 v1 rfl rfl) h1
  have lt2 : ∀ x ∈ p2, x.block < W.heap.size := by obtain ⟨m, hm⟩ := h2; exact DataW.trod_lt m _ _ _ hm
  have y2 := read_int (hval 2 3 v2 rfl rfl) h2
  have lt3 : ∀ x ∈ p3, x.block < W.heap.size := by obtain ⟨m, hm⟩ := h3; exact DataW.trod_lt m _ _ _ hm
  have y3 := read_int (hval 3 3 v3 rfl rfl) h3
  clear hA0 hval0
  refine (walk_FnExactCopyMemory v0 v1 v2 v3 W y0 y1 y2 y3).mono fun e W' ⟨he, bel⟩ => ?_
  subst he
  exact ⟨_, rfl, _, _, _, [], _, [], hW', trodAll_mk1 (shut_bool Try.underlying4 _), (trodAll_cons_mk (Below.trod laidOut (by kernel_rfl) (of_decide_eq_true (by kernel_rfl)) h0 bel lt0) (trodAll_cons_mk (Below.trod laidOut (by kernel_rfl) (of_decide_eq_true (by kernel_rfl)) h1 bel lt1) (trodAll_cons_mk (Below.trod laidOut (by kernel_rfl) (of_decide_eq_true (by kernel_rfl)) h2 bel lt2) (trodAll_cons_mk (Below.trod laidOut (by kernel_rfl) (of_decide_eq_true (by kernel_rfl)) h3 bel lt3) trodAll_mk0)))), rfl, bel.frame _, fun h => by cases h⟩
theorem closed_FnExactCopyMemory : joinedFacts Try.prog 12 Try.f12 Rows.fnExactCopyMemorySpec Rows.fnExactCopyMemoryRow = true := by
  unfold joinedFacts
  rw [shared.1, shared.2.1, shared.2.2.1, shared.2.2.2]
  kernel_rfl
/-- The given statement of FnExactCopyMemory. -/
theorem FnExactCopyMemory_holds : Rows.FnExactCopyMemorySaid :=
  OpenClaim.holds_of_wide 12 Try.f12 rfl rfl rfl rfl rfl rfl rfl ⟨rfl, rfl, rfl, rfl, rfl⟩ rfl rfl rfl rfl rfl (by kernel_rfl) Try.func12 closed_FnExactCopyMemory
    (of_decide_eq_true (by kernel_rfl)) (by unfold Func.isWrapper; first | (rw [if_pos (by decide +kernel)]; kernel_rfl) | (rw [if_neg (by decide +kernel)]; exact ⟨rfl, rfl⟩))
    (fun os started H enc _ => lifted_FnExactCopyMemory os started H enc)

end Go.Proofs.Ytkkedigllieodaa
