/- The law FnParseOrder: for every input it answers true, and changes nothing that was there. The listed package-level variables are tied by the card. No condition. -/
import Derived.Test.YthplgehdgaeapaaDoorReadStr
import Derived.Test.YthplgehdgaeapaaDoorParseS
import Derived.Test.YthplgehdgaeapaaDoorDrawPO
import Derived.Deep.RegionHeld3
import Derived.Deep.RegionWith
import Derived.Deep.DrawnRows
import Derived.Test.YthplgehdgaeapaaDoorTie
import Derived.Test.YthplgehdgaeapaaDoorCards
import Derived.Stop.Joined
namespace Go.Proofs.YthplgehdgaeapaaDoor
open Go.ChangeShapes Go.WideShapes Go.ChangeAt Go.RowKit
set_option linter.unusedVariables false

set_option maxHeartbeats 4000000 in
set_option maxRecDepth 20000 in
theorem walk_FnParseOrder (v0 : Value) (w : World) (y0 : IsBytes w v0) (hL : LaidW w) : Calls Tryd.prog 10 #[v0] w fun e w' => e = .returned (.bool true) ∧ Below w.heap.size w w' := by
  have hY0 := Lib.hid y0
  obtain ⟨a0, len0, cap0, zs0, rfl, _⟩ := y0
  by_cases hl : (1048576 : Int) < (len0 : Int)
  · go_enter Tryd.func10, Tryd.ntmps10
    go_wp2_with fail
    go_ret
    exact ⟨rfl, Below.refl _ _⟩
  go_enter Tryd.func10, Tryd.ntmps10
  go_wp2_with fail
  refine (draw_ParseOrder hY0.out).mono ?_
  rintro e w1 ⟨v, rfl, ⟨s, rfl, hs⟩, hb1⟩
  obtain ⟨hc1, hf1⟩ := bcell hb1
  have hs1 : w.heap.size + 0 ≤ w1.heap.size := Nat.le_trans (by go_size) hb1.size
  have hB1 : Hid (Below w.heap.size w w1) := below_via hb1 (by repeat (first | with_reducible exact Below.refl _ _ | with_reducible refine below_via (by assumption) ?_ (by go_size) | with_reducible refine below_within (by assumption) ?_ (by go_size) (by omega) | with_reducible refine Below.alloc ?_ (by go_size) _ | with_reducible refine Below.setCell ?_ (by go_size) _ | with_reducible refine Below.drew ?_)) (by go_size)
  go_wp2_with fail
  refine (impl_ParseOrder s (by omega) (hL.below hB1.out)).mono ?_
  rintro e w2 ⟨op, arg, ok, hP, rfl, hb2⟩
  obtain ⟨hc2, hf2⟩ := bcell hb2
  have hs2 : w1.heap.size + 0 ≤ w2.heap.size := Nat.le_trans (by go_size) hb2.size
  have hB2 : Hid (Below w.heap.size w w2) := below_via hb2 (by repeat (first | with_reducible exact Below.refl _ _ | with_reducible refine below_via (by assumption) ?_ (by go_size) | with_reducible refine below_within (by assumption) ?_ (by go_size) (by omega) | with_reducible refine Below.alloc ?_ (by go_size) _ | with_reducible refine Below.setCell ?_ (by go_size) _ | with_reducible refine Below.drew ?_)) (by go_size)
  go_wp2_with fail
  refine (spec_ParseOrder s (by omega) _).mono ?_
  rintro e w3 ⟨op', arg', ok', hP', rfl, hb3⟩
  obtain ⟨hc3, hf3⟩ := bcell hb3
  have hs3 : w2.heap.size + 1 ≤ w3.heap.size := Nat.le_trans (by go_size) hb3.size
  have z3_0 : w2.heap.size < w3.heap.size := Nat.lt_of_lt_of_le (by go_size) hb3.size
  have hB3 : Hid (Below w.heap.size w w3) := below_via hb3 (by repeat (first | with_reducible exact Below.refl _ _ | with_reducible refine below_via (by assumption) ?_ (by go_size) | with_reducible refine below_within (by assumption) ?_ (by go_size) (by omega) | with_reducible refine Below.alloc ?_ (by go_size) _ | with_reducible refine Below.setCell ?_ (by go_size) _ | with_reducible refine Below.drew ?_)) (by go_size)
  obtain ⟨rfl, rfl, rfl⟩ := hP.unique hP'
  have LW3 := Lib.hid (hL.below hB3.out)
  have p0 := (hb3.cell (p := ⟨w2.heap.size, 0, none⟩) (by go_size)).trans (show (w2.alloc (.cells #[.int .i64 op, .int .i64 arg] 35)).cell? ⟨w2.heap.size, 0, none⟩ = some (.int .i64 op) by simp)
  have p1 := (hb3.cell (p := ⟨w2.heap.size, 1, none⟩) (by go_size)).trans (show (w2.alloc (.cells #[.int .i64 op, .int .i64 arg] 35)).cell? ⟨w2.heap.size, 1, none⟩ = some (.int .i64 arg) by simp)
  have hB3' := hB3.out
  have hX : Below w3.heap.size w3 (w3.alloc (.cells #[.int .i64 op, .int .i64 arg] 35)) := (Below.refl _ _).alloc (Nat.le_refl _) _
  have hBX : Below w.heap.size w (w3.alloc (.cells #[.int .i64 op, .int .i64 arg] 35)) := hB3'.trans (hX.mono hB3'.size)
  clear hb1 hb2 hb3 hc1 hc2 hc3 hf1 hf2 hf3 hB1 hB2 hP' hL
  cases ok
  · obtain ⟨rfl, rfl, _⟩ := hP
    go_wp2_with (go_at_call 32; refine (laws_alive _).mono ?_; rintro e w' ⟨rfl, rfl⟩)
    go_ret
    exact ⟨rfl, hBX⟩
  · obtain ⟨hv, he⟩ := hP
    have hz : ¬ (9223372036854775807 < s.size + 1) := by omega
    have HV := fun w => hv ▸ impl_OrderValid op arg w
    have CP := impl_ParseOrder (s ++ ⟨#[32]⟩) (by rw [ByteArray.size_append]; show s.size + 1 ≤ _; omega) (LW3.out.below hX)
    have PNM := Lib.hid (pn_more hv)
    rw [he] at PNM
    have hq : ((fmtS op arg).toList == s.toList) = true := by rw [he]; exact beq_self_eq_true _
    clear he hv
    go_wp2_with fail
    refine CP.mono ?_
    rintro e w4 ⟨op'', arg'', ok'', hP'', rfl, hb4⟩
    have hno : ok'' = false := by
      cases ok''
      · rfl
      · exact absurd hP''.2 (PNM.out _ _ hP''.1)
    subst hno
    have hB4 : Below w.heap.size w w4 := hBX.trans (hb4.mono hBX.size)
    have q0 := (hb4.cell (p := ⟨w2.heap.size, 0, none⟩) (by go_size)).trans ((hX.cell (p := ⟨w2.heap.size, 0, none⟩) z3_0).trans p0)
    have q1 := (hb4.cell (p := ⟨w2.heap.size, 1, none⟩) (by go_size)).trans ((hX.cell (p := ⟨w2.heap.size, 1, none⟩) z3_0).trans p1)
    have z4 : w2.heap.size < w4.heap.size := Nat.lt_of_lt_of_le (by go_size) hb4.size
    obtain ⟨Z, hZ⟩ : ∃ Z, Z = w4.alloc (.cells #[.int .i64 op'', .int .i64 arg''] 35) := ⟨_, rfl⟩
    have hB4Z : Below w4.heap.size w4 Z := by rw [hZ]; exact (Below.refl _ _).alloc (Nat.le_refl _) _
    have hBZ : Below w.heap.size w Z := hB4.trans (hB4Z.mono hB4.size)
    have LWZ := Lib.hid ((LW3.out.below hX).below hb4 |>.below hB4Z)
    have r0 := (hB4Z.cell (p := ⟨w2.heap.size, 0, none⟩) z4).trans q0
    have r1 := (hB4Z.cell (p := ⟨w2.heap.size, 1, none⟩) z4).trans q1
    have zZ : w2.heap.size < Z.heap.size := Nat.lt_of_lt_of_le z4 hB4Z.size
    clear hb4 hX hBX p0 p1 CP LW3 hB3'
    go_upto_region 11 with fail
    rw [← hZ]
    clear hZ hB4Z q0 q1
    go_wp2_with (first
      | (go_at_call 38; refine (HV _).mono ?_; rintro e w5 ⟨rfl, hb5⟩; (have k0 := (hb5.cell (p := ⟨w2.heap.size, 0, none⟩) zZ).trans r0); (have k1 := (hb5.cell (p := ⟨w2.heap.size, 1, none⟩) zZ).trans r1))
      | (go_at_call 22; refine (impl_FormatOrder op arg (LWZ.out.below hb5).1).mono ?_; rintro e w6 ⟨rfl, hb6⟩))
    go_ret
    exact ⟨rfl, hBZ.trans ((hb5.trans (hb6.mono hb5.size)).mono hBZ.size)⟩
set_option maxRecDepth 100000 in
theorem lifted_FnParseOrder (os : Os) (started : os.Started) (H : Type) (enc : TypeId × Value → H) :
    ReturnsInHanded {} Tryd.checked os 10 .any (fun w args => (Rows.fnParseOrderSpec.pre enc Tryd.prog Tryd.f10 Rows.fnParseOrderRow.domain false w args ∧ laidMetH Tryd.prog laid5 w) ∧ sizedMet enc Tryd.prog Tryd.f10 (OpenSpec.ofChange Rows.fnParseOrderSpec) false w args) (Rows.fnParseOrderSpec.post enc Tryd.prog Tryd.f10 false true false false) := by
  refine returnsInHanded_of_change_and (C := Tryd.checked) (X := (fun w _ => laidMetH Tryd.prog laid5 w)) (fun _ _ _ hh h => h.of_heap hh) own started (by kernel_rfl) Tryd.func10
    (ChangeSpec.witness_shaped (enc := enc) (C := Tryd.checked) (os := os) (X := (fun w _ => laidMetH Tryd.prog laid5 w)) false (World.doorLaid Tryd.prog 400 os) #[.slice none 0 0] 8 rfl (door_shaped os _) (by kernel_rfl) (by kernel_rfl) (by kernel_rfl) (door_met5 os _)) ?_
  intro W base args ds gs before hval0 hW _ _ hL _
  have hval : ∀ (j : Nat) t v, Tryd.f10.params[j]? = some t → args[j]? = some v → Value.okWide Tryd.prog W .any base t v := hval0
  have hW' := hW
  obtain ⟨p, q, hA0, hV, rfl, hfz, hnd⟩ := hW
  have hA : DataW.TrodAll enc Tryd.prog W 0 (fun _ => true) true Tryd.f10.params.toList args.toList ds p := hA0
  rw [Tryd.params10] at hA hval
  obtain ⟨v0, vs0, d0, ds0, p0, q0, hargs, rfl, rfl, h0, r0⟩ := trodAll_cons hA
  obtain ⟨rfl, rfl, rfl⟩ := trodAll_nil r0
  obtain rfl : args = #[v0] := by cases args; simp_all
  obtain ⟨rfl, rfl⟩ := trodVars_none hV
  have lt0 : ∀ x ∈ p0, x.block < W.heap.size := by obtain ⟨m, hm⟩ := h0; exact DataW.trod_lt m _ _ _ hm
  have y0 := read_bytes (hval 0 46 v0 rfl rfl) h0
  clear hA0 hval0
  refine (walk_FnParseOrder v0 W y0 (laid_of_laid5 hL)).mono fun e W' ⟨he, bel⟩ => ?_
  subst he
  exact ⟨_, rfl, _, _, _, [], _, [], hW', trodAll_mk1 (shut_bool Tryd.underlying4 _), (trodAll_cons_mk (Below.trod laidOut (by kernel_rfl) (of_decide_eq_true (by kernel_rfl)) h0 bel lt0) trodAll_mk0), rfl, bel.frame _, fun h => by cases h⟩
theorem closed_FnParseOrder : joinedFacts Tryd.prog 10 Tryd.f10 Rows.fnParseOrderSpec Rows.fnParseOrderRow = true := by
  unfold joinedFacts
  rw [shared.1, shared.2.1, shared.2.2.1, shared.2.2.2]
  kernel_rfl
theorem FnParseOrder_row : Rows.FnParseOrderSaid :=
  OpenClaim.holds_of_wide 10 Tryd.f10 rfl rfl rfl rfl rfl rfl rfl ⟨rfl, rfl, rfl, rfl, rfl⟩ rfl rfl rfl rfl rfl (by kernel_rfl) Tryd.func10 closed_FnParseOrder
    (of_decide_eq_true (by kernel_rfl)) (by unfold Func.isWrapper; first | (rw [if_pos (by decide +kernel)]; kernel_rfl) | (rw [if_neg (by decide +kernel)]; exact ⟨rfl, rfl⟩))
    (fun os started H enc _ => lifted_FnParseOrder os started H enc)
/-- The given statement, a tied card, of FnParseOrder. -/
theorem FnParseOrder_holds : Rows.FnParseOrderCardSaid :=
  Claim7.holds_tied_plain_at .later [] [.data, .data, .data, .sentinel, .sentinel] true Rows.fnParseOrderCard.stood.harness true
    FnParseOrder_row (fun _ h => by cases h) (by kernel_rfl) (fun _ h => by cases h) fnParseOrder_row_tie rfl ⟨rfl, rfl⟩ (by kernel_rfl) rfl
    (fun f fn hf hfn => by
      obtain rfl : f = 10 := Option.some.inj ((show Tryd.prog.funcNamed Rows.fnParseOrderRow.func = some 10 by kernel_rfl).symm.trans hf) |>.symm
      obtain rfl : fn = Tryd.f10 := (Option.some.inj (Tryd.func10.symm.trans hfn)).symm
      exact ⟨by kernel_rfl, fun j t ht => by
        rw [Tryd.params10] at ht
        have hm : t ∈ [46] := by simpa using Array.mem_of_getElem? ht
        have hall : ([46].all fun u => !Tryd.prog.wantsStandIn u) = true := by kernel_rfl
        exact (show Tryd.prog.wantsStandIn t = false by simpa using List.all_eq_true.1 hall t hm)⟩)
    (by kernel_rfl)

end Go.Proofs.YthplgehdgaeapaaDoor
