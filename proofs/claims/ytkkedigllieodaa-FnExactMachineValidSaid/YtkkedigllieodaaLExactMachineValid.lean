/- The law FnExactMachineValid: for every input it answers true, and changes nothing that was there. No condition. -/
import Derived.Test.YtkkedigllieodaaReadMach
import Derived.Deep.RegionWith
namespace Go.Proofs.Ytkkedigllieodaa
open Go.ChangeShapes Go.WideShapes Go.ChangeAt Go.RowKit
set_option linter.unusedVariables false

set_option maxHeartbeats 4000000 in
theorem walk_FnExactMachineValid (v0 : Value) (w : World) (y0 : IsMach w v0) : Calls Try.prog 10 #[v0] w fun e w' => e = .returned (.bool true) ∧ Below w.heap.size w w' := by
  obtain ⟨m, y0⟩ := y0
  have hY := Lib.hid y0
  obtain ⟨za, zc, zb, zd, ze, zf, rfl, _, _, _, _, _, _⟩ := machV_shape y0
  clear y0
  have k1 : (1048576 : Int) ≤ 1048576 := by omega
  have k2 : (0 : Int) ≤ 1048576 := by omega
  go_enter Try.func10, Try.ntmps10
  go_wp2_with fail
  refine (laws_szMachine (hY.out.alloc _) k1 k2).mono ?_
  rintro e w1 ⟨rfl, hb1⟩
  have hB1 : Hid (Below w.heap.size w w1) := ((Below.refl _ _).alloc (Nat.le_refl _) _).trans (hb1.mono (by simp))
  have tP1 := mc_below hb1 (mc_lit rfl)
  obtain ⟨⟨p10, p11, p12⟩, ⟨p13, p14, p15⟩, p16, p17, p18⟩ := id tP1
  by_cases hneg : szMach 1048576 m < 0
  · go_wp2_with fail
    go_ret
    exact ⟨rfl, hB1.out⟩
  obtain ⟨b1, b2, b3, b4⟩ := szMach_ok hneg
  have hs1 := hB1.out.size
  go_wp2_with fail
  refine (laws_toMachine (hY.out.below hB1.out) (by omega) (by omega) (by omega) (by omega)).mono ?_
  rintro e w2 ⟨v2, rfl, o2, hb2⟩
  have hB2 : Hid (Below w.heap.size w w2) := below_via hb2 hB1.out hs1
  have tP2 := mc_below hb2 tP1
  obtain ⟨⟨p20, p21, p22⟩, ⟨p23, p24, p25⟩, p26, p27, p28⟩ := id tP2
  go_wp2_with fail
  refine (spec_MachineValid o2.mach).mono ?_
  rintro e w3 ⟨rfl, hb3⟩
  have hB3 : Hid (Below w.heap.size w w3) := below_via hb3 hB2.out hB2.out.size
  have tP3 := mc_below hb3 tP2
  obtain ⟨⟨p30, p31, p32⟩, ⟨p33, p34, p35⟩, p36, p37, p38⟩ := id tP3
  clear o2
  go_wp2_with fail
  refine (laws_toMachine (hY.out.below hB3.out) (by omega) (by omega) (by omega) (by omega)).mono ?_
  rintro e w4 ⟨v4, rfl, o4, hb4⟩
  have hB4 : Hid (Below w.heap.size w w4) := below_via hb4 hB3.out hB3.out.size
  have tP4 := mc_below hb4 tP3
  obtain ⟨⟨p40, p41, p42⟩, ⟨p43, p44, p45⟩, p46, p47, p48⟩ := id tP4
  have O4 := Lib.hid o4
  obtain ⟨xa, xc, xb, xd, xe, xf, rfl, _, _, _, _, _, _⟩ := machV_shape O4.out.mach
  clear o4
  have lP4 : w.heap.size < w4.heap.size := tP4.lt
  go_wp2_with fail
  refine (impl_MachineValid (O4.out.mach.alloc _)).mono ?_
  rintro e w5 ⟨rfl, hb5⟩
  have hB5 : Hid (Below w.heap.size w w5) := below_via hb5 (hB4.out.alloc hB4.out.size _) (hB4.out.alloc hB4.out.size _).size
  have tP5 := mc_below hb5 (mc_alloc _ tP4)
  have tX5 := mc_below hb5 (mc_lit rfl)
  obtain ⟨⟨p50, p51, p52⟩, ⟨p53, p54, p55⟩, p56, p57, p58⟩ := id tP5
  obtain ⟨⟨x50, x51, x52⟩, ⟨x53, x54, x55⟩, x56, x57, x58⟩ := id tX5
  have X5 := Lib.hid (O4.out.agree (agree_below hb5 ((Agree.refl _ _ _).alloc (Nat.le_refl _) _) (by simp)))
  have hE : eqMach m m = true := eqMach_self m
  have hs5 : w4.heap.size + 1 ≤ w5.heap.size := Nat.le_trans (by simp) hb5.size
  clear hb1 hb2 hb3 hb4
  go_wp2_with fail
  go_region_with (first
    | (go_at_call 64; refine (laws_toMachine (hY.out.below hB5.out.drew) (by omega) (by omega) (by omega) (by omega)).mono ?_; rintro e w6 ⟨v6, rfl, o6, hb6⟩; (have tX6 := mc_below hb6 (mc_drew tX5)); obtain ⟨⟨x60, x61, x62⟩, ⟨x63, x64, x65⟩, x66, x67, x68⟩ := id tX6)
    | (go_at_call 66; refine (calls_eqv (laws_eqMachine (X5.out.agree (by (repeat (first | assumption | with_reducible exact Agree.refl _ _ _ | with_reducible refine agree_below (by assumption) ?_ (by first | omega | go_size) | with_reducible refine agree_within (by assumption) ?_ (by first | omega | go_size) (by omega) | with_reducible refine Agree.alloc ?_ (by first | omega | go_size) _ | with_reducible refine Agree.setCell ?_ (by first | omega | (dsimp only; omega)) _ | with_reducible refine Agree.drew ?_)))).mach o6.mach) hE).mono ?_; rintro e w7 ⟨rfl, hb7⟩))
  all_goals
    go_wp2_with fail
    go_ret
    refine ⟨rfl, ?_⟩
    exact (hB5.out.drew.trans (hb6.mono hB5.out.size)).trans (hb7.mono (Nat.le_trans hB5.out.size hb6.size))
set_option maxRecDepth 100000 in
theorem lifted_FnExactMachineValid (os : Os) (started : os.Started) (H : Type) (enc : TypeId × Value → H) :
    ReturnsInHanded {} Try.checked os 10 .any (Rows.fnExactMachineValidSpec.pre6 enc Try.prog Try.f10 Rows.fnExactMachineValidRow.domain false) (Rows.fnExactMachineValidSpec.post enc Try.prog Try.f10 false true false false) := by
  refine returnsInHanded_of_change (C := Try.checked) own started (by kernel_rfl) Try.func10
    (ChangeSpec.witness6 (enc := enc) (C := Try.checked) false ⟨#[], #[.agg #[.slice none 0 0, .slice none 0 0, .int .i64 0, .int .i64 0, .int .i64 0, .bool false, .slice none 0 0, .bool false, .int .i64 0]], []⟩ 8 (by kernel_rfl) (by kernel_rfl) (by kernel_rfl) (by kernel_rfl)) ?_
  intro W base args ds gs before hval0 hW hcnd _
  have hval : ∀ (j : Nat) t v, Try.f10.params[j]? = some t → args[j]? = some v → Value.okWide Try.prog W .any base t v := hval0
  have hW' := hW
  obtain ⟨p, q, hA0, hV, rfl, hfz, hnd⟩ := hW
  have hA : DataW.TrodAll enc Try.prog W 0 (fun _ => true) true Try.f10.params.toList args.toList ds p := hA0
  rw [Try.params10] at hA hval
  obtain ⟨v0, vs0, d0, ds0, p0, q0, hargs, rfl, rfl, h0, r0⟩ := trodAll_cons hA
  obtain ⟨rfl, rfl, rfl⟩ := trodAll_nil r0
  obtain rfl : args = #[v0] := by cases args; simp_all
  obtain ⟨rfl, rfl⟩ := trodVars_none hV
  have lt0 : ∀ x ∈ p0, x.block < W.heap.size := by obtain ⟨m, hm⟩ := h0; exact DataW.trod_lt m _ _ _ hm
  have y0 := read_Machine (hval 0 59 v0 rfl rfl) h0
  clear hA0 hval0
  refine (walk_FnExactMachineValid v0 W y0).mono fun e W' ⟨he, bel⟩ => ?_
  subst he
  exact ⟨_, rfl, _, _, _, [], _, [], hW', trodAll_mk1 (shut_bool Try.underlying4 _), (trodAll_cons_mk (Below.trod laidOut (by kernel_rfl) (of_decide_eq_true (by kernel_rfl)) h0 bel lt0) trodAll_mk0), rfl, bel.frame _, fun h => by cases h⟩
theorem closed_FnExactMachineValid : joinedFacts Try.prog 10 Try.f10 Rows.fnExactMachineValidSpec Rows.fnExactMachineValidRow = true := by
  unfold joinedFacts
  rw [shared.1, shared.2.1, shared.2.2.1, shared.2.2.2]
  kernel_rfl
/-- The given statement of FnExactMachineValid. -/
theorem FnExactMachineValid_holds : Rows.FnExactMachineValidSaid :=
  OpenClaim.holds_of_wide 10 Try.f10 rfl rfl rfl rfl rfl rfl rfl ⟨rfl, rfl, rfl, rfl, rfl⟩ rfl rfl rfl rfl rfl (by kernel_rfl) Try.func10 closed_FnExactMachineValid
    (of_decide_eq_true (by kernel_rfl)) (by unfold Func.isWrapper; first | (rw [if_pos (by decide +kernel)]; kernel_rfl) | (rw [if_neg (by decide +kernel)]; exact ⟨rfl, rfl⟩))
    (fun os started H enc _ => lifted_FnExactMachineValid os started H enc)

end Go.Proofs.Ytkkedigllieodaa
