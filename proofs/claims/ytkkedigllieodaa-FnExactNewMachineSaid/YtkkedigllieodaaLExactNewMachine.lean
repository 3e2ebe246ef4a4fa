/- The law FnExactNewMachine: for every input it answers true, and changes nothing that was there. No condition. -/
import Derived.Test.YtkkedigllieodaaReadMach
import Derived.Deep.RegionWith
import Derived.Test.YtkkedigllieodaaNewMach
namespace Go.Proofs.Ytkkedigllieodaa
open Go.ChangeShapes Go.WideShapes Go.ChangeAt Go.RowKit
set_option linter.unusedVariables false

theorem sizes_nm {rom : List (List Int)} (b3 : sumLen rom ≤ 1048576) : (newM rom).ram.length ≤ 1048576 ∧ sumLen (newM rom).rom ≤ 1048576 ∧ (newM rom).back.length ≤ 1048576 := by
  unfold newM
  split
  · show zeros.length ≤ 1048576 ∧ sumLen rom ≤ 1048576 ∧ ([] : List Int).length ≤ 1048576
    rw [zeros_len]; exact ⟨by omega, b3, by simp⟩
  · simp [zeroM, sumLen]
theorem szM_ok {rom : List (List Int)} (h : ¬ szM 1048576 rom < 0) : rom.length ≤ 1048576 ∧ sumLen rom ≤ 1048576 := by
  unfold szM at h
  split at h <;> omega
set_option maxHeartbeats 4000000 in
set_option maxRecDepth 20000 in
theorem walk_FnExactNewMachine (v0 : Value) (w : World) (y0 : IsMat w v0) : Calls Try.prog 13 #[v0] w fun e w' => e = .returned (.bool true) ∧ Below w.heap.size w w' := by
  obtain ⟨rom, y0⟩ := y0
  have hY := Lib.hid y0
  obtain ⟨za, zc, rfl, _, _⟩ := mat_shape y0
  clear y0
  have k1 : (1048576 : Int) ≤ 1048576 := by omega
  have k2 : (0 : Int) ≤ 1048576 := by omega
  go_enter Try.func13, Try.ntmps13
  go_wp2_with fail
  refine (laws_szIntSS hY.out k1 k2).mono ?_
  rintro e w1 ⟨rfl, rfl⟩
  by_cases hneg : szM 1048576 rom < 0
  · go_wp2_with fail
    go_ret
    exact ⟨rfl, Below.refl _ _⟩
  obtain ⟨b2, b3⟩ := szM_ok hneg
  have S13 := Lib.hid (sizes_nm b3)
  go_wp2_with fail
  refine (laws_toIntSS hY.out (by omega) (by omega)).mono ?_
  rintro e w2 ⟨v2, rfl, o2, hb2⟩
  have hB2 : Hid (Below w.heap.size w w2) := hb2
  have hs2 := hB2.out.size
  go_wp2_with fail
  refine (spec_NewMachine o2.mat (by omega) (by omega)).mono ?_
  rintro e w3 ⟨v3, rfl, o3, hb3⟩
  have hB3 : Hid (Below w.heap.size w w3) := below_via hb3 hB2.out hs2
  have hs3 := hB3.out.size
  generalize hR : newM rom = mm at *
  obtain ⟨s1, s3, s4⟩ := S13.out
  have M3 := Lib.hid o3.mach
  obtain ⟨wa, wc, wb, wd, we, wf, rfl, _, _, _, _, _, _⟩ := machV_shape M3.out
  clear o3 o2
  go_wp2_with fail
  refine (laws_toIntSS (hY.out.below (hB3.out.alloc hs3 _)) (by omega) (by omega)).mono ?_
  rintro e w4 ⟨v4, rfl, o4, hb4⟩
  have hB4 : Hid (Below w.heap.size w w4) := below_via hb4 (hB3.out.alloc hs3 _) (hB3.out.alloc hs3 _).size
  have tW4 := mc_below hb4 (mc_lit rfl)
  obtain ⟨⟨W4_0, W4_1, W4_2⟩, ⟨W4_3, W4_4, W4_5⟩, W4_6, W4_7, W4_8⟩ := id tW4
  have lW4 : w3.heap.size < w4.heap.size := Mc.lt tW4
  have B34 : Hid (Below w3.heap.size w3 w4) := ((Below.refl _ _).alloc (Nat.le_refl _) _).trans (hb4.mono (by simp))
  have hs4 : w3.heap.size + 1 ≤ w4.heap.size := Nat.le_trans (by simp) hb4.size
  have O4 := Lib.hid o4
  obtain ⟨xa, xc, rfl, _, _⟩ := mat_shape O4.out.mat
  clear o4
  go_wp2_with fail
  refine (impl_NewMachine O4.out.mat (by omega) (by omega)).mono ?_
  rw [hR]
  rintro e w5 ⟨v5, rfl, o5, hb5⟩
  have hB5 : Hid (Below w.heap.size w w5) := below_via hb5 hB4.out hB4.out.size
  have tW5 := mc_below hb5 tW4
  obtain ⟨⟨W5_0, W5_1, W5_2⟩, ⟨W5_3, W5_4, W5_5⟩, W5_6, W5_7, W5_8⟩ := id tW5
  have lW5 : w3.heap.size < w5.heap.size := Mc.lt tW5
  have B35 : Hid (Below w3.heap.size w3 w5) := B34.out.trans (hb5.mono (by omega))
  have hs5 : w4.heap.size ≤ w5.heap.size := hb5.size
  have O5 := Lib.hid o5
  obtain ⟨ga, gc, gb, gd, ge, gf, rfl, _, _, _, _, _, _⟩ := machV_shape O5.out.mach
  clear o5
  have X5 := Lib.hid (O4.out.agree (agree_below hb5 (Agree.refl _ _ _) (Nat.le_refl _)))
  have hE : eqMach mm mm = true := eqMach_self mm
  go_wp2_with fail
  refine (calls_eqv (laws_eqMachine (O5.out.mach.alloc _) ((M3.out.below B35.out).alloc _)) hE).mono ?_
  rintro e w6 ⟨rfl, hb6⟩
  have hB6 : Hid (Below w.heap.size w w6) := below_via hb6 (hB5.out.alloc hB5.out.size _) (hB5.out.alloc hB5.out.size _).size
  have tW6 := mc_below hb6 (mc_alloc _ tW5)
  have tG6 := mc_below hb6 (mc_lit rfl)
  obtain ⟨⟨W6_0, W6_1, W6_2⟩, ⟨W6_3, W6_4, W6_5⟩, W6_6, W6_7, W6_8⟩ := id tW6
  obtain ⟨⟨G6_0, G6_1, G6_2⟩, ⟨G6_3, G6_4, G6_5⟩, G6_6, G6_7, G6_8⟩ := id tG6
  have hs6 : w5.heap.size + 1 ≤ w6.heap.size := Nat.le_trans (by simp) hb6.size
  have B36 : Hid (Below w3.heap.size w3 w6) := (B35.out.alloc (Nat.le_of_lt lW5) _).trans (hb6.mono (by first | omega | (simp; omega)))
  have X6 := Lib.hid (X5.out.agree (agree_below hb6 ((Agree.refl _ _ _).alloc (by omega) _) (by first | omega | (simp; omega))))
  have G6 := Lib.hid (O5.out.agree (agree_below hb6 ((Agree.refl _ _ _).alloc (Nat.le_refl _) _) (by simp)))
  have hE2 : (rom == rom) = true := by simp
  go_wp2_with fail
  refine (laws_toIntSS (hY.out.below hB6.out) (by omega) (by omega)).mono ?_
  rintro e w7 ⟨v7, rfl, o7, hb7⟩
  have X7 := Lib.hid (X6.out.agree (agree_below hb7 (Agree.refl _ _ _) (by omega)))
  go_wp2_with fail
  refine (laws_eqIntSS X7.out.mat o7.mat).mono ?_
  rintro e w8 ⟨rfl, q8⟩
  rw [hE2]
  have b78 : Below w7.heap.size w7 w8 := q8.below
  have b68 : Below w6.heap.size w6 w8 := hb7.trans (b78.mono hb7.size)
  clear q8 o7
  have hs8 := b68.size
  have hB8 : Hid (Below w.heap.size w w8) := hB6.out.trans (b68.mono hB6.out.size)
  have B38 : Hid (Below w3.heap.size w3 w8) := B36.out.trans (b68.mono B36.out.size)
  have tW8 := mc_below b68 tW6
  have tG8 := mc_below b68 tG6
  obtain ⟨⟨W8_0, W8_1, W8_2⟩, ⟨W8_3, W8_4, W8_5⟩, W8_6, W8_7, W8_8⟩ := id tW8
  obtain ⟨⟨G8_0, G8_1, G8_2⟩, ⟨G8_3, G8_4, G8_5⟩, G8_6, G8_7, G8_8⟩ := id tG8
  have X8 := Lib.hid (X6.out.agree (agree_below b68 (Agree.refl _ _ _) (by omega)))
  have G8 := Lib.hid (G6.out.agree (agree_below b68 (Agree.refl _ _ _) (by omega)))
  have hk0 : ¬ (1 : Int) + (sumLen rom : Int) < 0 := by omega
  have hq0 : ¬ (1 : Int) + (mm.ram.length : Int) + (sumLen mm.rom : Int) + (mm.back.length : Int) < 0 := by omega
  have hq1 : ((1 : Int) + (mm.ram.length : Int) + (sumLen mm.rom : Int) + (mm.back.length : Int) != 1 + (mm.ram.length : Int) + (sumLen mm.rom : Int) + (mm.back.length : Int)) = false := by simp
  go_wp2_with fail
  refine (laws_markIntSS X8.out (by omega) (by omega) (by omega) (by omega)).mono ?_
  rintro e w9 ⟨rfl, _, hw9⟩
  have hs9 := hw9.size
  have hB9 : Hid (Below w.heap.size w w9) := below_within hw9 hB8.out hB8.out.size (by first | omega | (simp; omega))
  have B39 : Hid (Below w3.heap.size w3 w9) := below_within hw9 B38.out B38.out.size (by first | omega | simp)
  have tW9 := mc_within hw9 tW8 (.inl (by first | omega | simp))
  have tG9 := mc_within hw9 tG8 (.inr (by omega))
  obtain ⟨⟨W9_0, W9_1, W9_2⟩, ⟨W9_3, W9_4, W9_5⟩, W9_6, W9_7, W9_8⟩ := id tW9
  obtain ⟨⟨G9_0, G9_1, G9_2⟩, ⟨G9_3, G9_4, G9_5⟩, G9_6, G9_7, G9_8⟩ := id tG9
  have G9 := Lib.hid (G8.out.agree (agree_within hw9 (Agree.refl _ _ _) (by omega) (.inr (by first | omega | simp))))
  go_wp2_with fail
  refine (calls_eqv (laws_eqMachine G9.out.mach (M3.out.below B39.out)) hE).mono ?_
  rintro e w10 ⟨rfl, hb10⟩
  have hs10 := hb10.size
  have hB10 : Hid (Below w.heap.size w w10) := below_via hb10 hB9.out hB9.out.size
  have B310 : Hid (Below w3.heap.size w3 w10) := below_via hb10 B39.out B39.out.size
  have tW10 := mc_below hb10 tW9
  have tG10 := mc_below hb10 tG9
  obtain ⟨⟨W10_0, W10_1, W10_2⟩, ⟨W10_3, W10_4, W10_5⟩, W10_6, W10_7, W10_8⟩ := id tW10
  obtain ⟨⟨G10_0, G10_1, G10_2⟩, ⟨G10_3, G10_4, G10_5⟩, G10_6, G10_7, G10_8⟩ := id tG10
  have G10 := Lib.hid (G9.out.agree (agree_below hb10 (Agree.refl _ _ _) (by omega)))
  go_wp2_with fail
  refine (laws_markMachine G10.out (by omega) (by omega) (by omega) (by omega) (by omega) (by omega)).mono ?_
  rintro e w11 ⟨rfl, mk11, hw11⟩
  have hs11 := hw11.size
  have MK := Lib.hid mk11
  clear mk11
  have hB11 : Hid (Below w.heap.size w w11) := below_within hw11 hB10.out hB10.out.size (by first | omega | (simp; omega))
  have B311 : Hid (Below w3.heap.size w3 w11) := below_within hw11 B310.out B310.out.size (by first | omega | (simp; omega))
  have tW11 := mc_within hw11 tW10 (.inl (by first | omega | (simp; omega)))
  have tG11 := mc_within hw11 tG10 (.inr (Nat.le_refl _))
  obtain ⟨⟨W11_0, W11_1, W11_2⟩, ⟨W11_3, W11_4, W11_5⟩, W11_6, W11_7, W11_8⟩ := id tW11
  obtain ⟨⟨G11_0, G11_1, G11_2⟩, ⟨G11_3, G11_4, G11_5⟩, G11_6, G11_7, G11_8⟩ := id tG11
  go_wp2_with fail
  refine (laws_heldMachine MK.out.mach (by omega) (by omega) (by omega) (by omega) (by omega)).mono ?_
  rintro e w12 ⟨rfl, hb12⟩
  have hs12 := hb12.size
  have hB12 : Hid (Below w.heap.size w w12) := below_via hb12 hB11.out hB11.out.size
  have B312 : Hid (Below w3.heap.size w3 w12) := below_via hb12 B311.out B311.out.size
  have tW12 := mc_below hb12 tW11
  have tG12 := mc_below hb12 tG11
  obtain ⟨⟨W12_0, W12_1, W12_2⟩, ⟨W12_3, W12_4, W12_5⟩, W12_6, W12_7, W12_8⟩ := id tW12
  obtain ⟨⟨G12_0, G12_1, G12_2⟩, ⟨G12_3, G12_4, G12_5⟩, G12_6, G12_7, G12_8⟩ := id tG12
  go_wp2_with fail
  refine (laws_toIntSS (hY.out.below hB12.out) (by omega) (by omega)).mono ?_
  rintro e w13 ⟨v13, rfl, o13, hb13⟩
  have hs13 := hb13.size
  have hB13 : Hid (Below w.heap.size w w13) := below_via hb13 hB12.out hB12.out.size
  have B313 : Hid (Below w3.heap.size w3 w13) := below_via hb13 B312.out B312.out.size
  have tW13 := mc_below hb13 tW12
  have tG13 := mc_below hb13 tG12
  obtain ⟨⟨W13_0, W13_1, W13_2⟩, ⟨W13_3, W13_4, W13_5⟩, W13_6, W13_7, W13_8⟩ := id tW13
  obtain ⟨⟨G13_0, G13_1, G13_2⟩, ⟨G13_3, G13_4, G13_5⟩, G13_6, G13_7, G13_8⟩ := id tG13
  go_wp2_with fail
  refine (impl_NewMachine o13.mat (by omega) (by omega)).mono ?_
  rw [hR]
  rintro e w14 ⟨v14, rfl, o14, hb14⟩
  have hs14 := hb14.size
  have hB14 : Hid (Below w.heap.size w w14) := below_via hb14 hB13.out hB13.out.size
  have B314 : Hid (Below w3.heap.size w3 w14) := below_via hb14 B313.out B313.out.size
  have tW14 := mc_below hb14 tW13
  have tG14 := mc_below hb14 tG13
  obtain ⟨⟨W14_0, W14_1, W14_2⟩, ⟨W14_3, W14_4, W14_5⟩, W14_6, W14_7, W14_8⟩ := id tW14
  obtain ⟨⟨G14_0, G14_1, G14_2⟩, ⟨G14_3, G14_4, G14_5⟩, G14_6, G14_7, G14_8⟩ := id tG14
  have lW14 : w3.heap.size < w14.heap.size := Mc.lt tW14
  have lG14 : w5.heap.size < w14.heap.size := Mc.lt tG14
  have O14 := Lib.hid o14.mach
  obtain ⟨ha, hc, hb, hd, he, hf, rfl, _, _, _, _, _, _⟩ := machV_shape O14.out
  clear o14 o13
  go_wp2_with fail
  refine (calls_eqv (laws_eqMachine (O14.out.alloc _) ((M3.out.below B314.out).alloc _)) hE).mono ?_
  rintro e w15 ⟨rfl, hb15⟩
  have hs15 := hb15.size
  have hB15 : Hid (Below w.heap.size w w15) := below_via hb15 (hB14.out.alloc hB14.out.size _) (hB14.out.alloc hB14.out.size _).size
  have tG15 := mc_below hb15 (mc_alloc _ tG14)
  obtain ⟨⟨G15_0, G15_1, G15_2⟩, ⟨G15_3, G15_4, G15_5⟩, G15_6, G15_7, G15_8⟩ := id tG15
  have MK15 := Lib.hid (MK.out.agree (show Agree _ _ w11 w15 from (by (repeat (first | assumption | with_reducible exact Agree.refl _ _ _ | with_reducible refine agree_below (by assumption) ?_ (by first | omega | go_size) | with_reducible refine agree_within (by assumption) ?_ (by first | omega | go_size) (by omega) | with_reducible refine Agree.alloc ?_ (by first | omega | go_size) _ | with_reducible refine Agree.setCell ?_ (by first | omega | (dsimp only; omega)) _ | with_reducible refine Agree.drew ?_)))))
  go_wp2_with fail
  refine (laws_heldMachine MK15.out.mach (by omega) (by omega) (by omega) (by omega) (by omega)).mono ?_
  rintro e w16 ⟨rfl, hb16⟩
  have hB16 : Hid (Below w.heap.size w w16) := below_via hb16 hB15.out hB15.out.size
  go_wp2_with fail
  go_ret
  exact ⟨rfl, hB16.out⟩
set_option maxRecDepth 100000 in
theorem lifted_FnExactNewMachine (os : Os) (started : os.Started) (H : Type) (enc : TypeId × Value → H) :
    ReturnsInHanded {} Try.checked os 13 .any (Rows.fnExactNewMachineSpec.pre6 enc Try.prog Try.f13 Rows.fnExactNewMachineRow.domain false) (Rows.fnExactNewMachineSpec.post enc Try.prog Try.f13 false true false false) := by
  refine returnsInHanded_of_change (C := Try.checked) own started (by kernel_rfl) Try.func13
    (ChangeSpec.witness6 (enc := enc) (C := Try.checked) false ⟨#[], #[.slice none 0 0], []⟩ 8 (by kernel_rfl) (by kernel_rfl) (by kernel_rfl) (by kernel_rfl)) ?_
  intro W base args ds gs before hval0 hW hcnd _
  have hval : ∀ (j : Nat) t v, Try.f13.params[j]? = some t → args[j]? = some v → Value.okWide Try.prog W .any base t v := hval0
  have hW' := hW
  obtain ⟨p, q, hA0, hV, rfl, hfz, hnd⟩ := hW
  have hA : DataW.TrodAll enc Try.prog W 0 (fun _ => true) true Try.f13.params.toList args.toList ds p := hA0
  rw [Try.params13] at hA hval
  obtain ⟨v0, vs0, d0, ds0, p0, q0, hargs, rfl, rfl, h0, r0⟩ := trodAll_cons hA
  obtain ⟨rfl, rfl, rfl⟩ := trodAll_nil r0
  obtain rfl : args = #[v0] := by cases args; simp_all
  obtain ⟨rfl, rfl⟩ := trodVars_none hV
  have lt0 : ∀ x ∈ p0, x.block < W.heap.size := by obtain ⟨m, hm⟩ := h0; exact DataW.trod_lt m _ _ _ hm
  have y0 := read_rows (hval 0 42 v0 rfl rfl) h0
  clear hA0 hval0
  refine (walk_FnExactNewMachine v0 W y0).mono fun e W' ⟨he, bel⟩ => ?_
  subst he
  exact ⟨_, rfl, _, _, _, [], _, [], hW', trodAll_mk1 (shut_bool Try.underlying4 _), (trodAll_cons_mk (Below.trod laidOut (by kernel_rfl) (of_decide_eq_true (by kernel_rfl)) h0 bel lt0) trodAll_mk0), rfl, bel.frame _, fun h => by cases h⟩
theorem closed_FnExactNewMachine : joinedFacts Try.prog 13 Try.f13 Rows.fnExactNewMachineSpec Rows.fnExactNewMachineRow = true := by
  unfold joinedFacts
  rw [shared.1, shared.2.1, shared.2.2.1, shared.2.2.2]
  kernel_rfl
/-- The given statement of FnExactNewMachine. -/
theorem FnExactNewMachine_holds : Rows.FnExactNewMachineSaid :=
  OpenClaim.holds_of_wide 13 Try.f13 rfl rfl rfl rfl rfl rfl rfl ⟨rfl, rfl, rfl, rfl, rfl⟩ rfl rfl rfl rfl rfl (by kernel_rfl) Try.func13 closed_FnExactNewMachine
    (of_decide_eq_true (by kernel_rfl)) (by unfold Func.isWrapper; first | (rw [if_pos (by decide +kernel)]; kernel_rfl) | (rw [if_neg (by decide +kernel)]; exact ⟨rfl, rfl⟩))
    (fun os started H enc _ => lifted_FnExactNewMachine os started H enc)

end Go.Proofs.Ytkkedigllieodaa
