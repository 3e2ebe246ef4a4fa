/- The law FnExactParseOrder: for every input it answers true, and changes nothing that was there. The listed package-level variables are tied by the card. No condition. -/
import Derived.Test.YthplgehdgaeapaaDoorReadStr
import Derived.Test.YthplgehdgaeapaaDoorParseS
import Derived.Test.YthplgehdgaeapaaDoorTie
import Derived.Test.YthplgehdgaeapaaDoorCards
import Derived.Stop.Joined
namespace Go.Proofs.YthplgehdgaeapaaDoor
open Go.ChangeShapes Go.WideShapes Go.ChangeAt Go.RowKit
set_option linter.unusedVariables false

set_option maxHeartbeats 1000000 in
theorem walk_FnExactParseOrder (v0 : Value) (w : World) (y0 : IsString w v0) (hL : LaidW w) : Calls Tryd.prog 6 #[v0] w fun e w' => e = .returned (.bool true) ∧ Below w.heap.size w w' := by
  obtain ⟨s, rfl⟩ := y0
  by_cases hl : 1048576 < s.size
  · go_enter Tryd.func6, Tryd.ntmps6
    go_wp2_with fail
    go_ret
    exact ⟨rfl, Below.refl _ _⟩
  · go_enter Tryd.func6, Tryd.ntmps6
    go_wp2_with fail
    refine (spec_ParseOrder s (by omega) w).mono ?_
    rintro e w1 ⟨op, arg, ok, hP, rfl, hb1⟩
    go_wp2_with fail
    have hX : Below w.heap.size w (w1.alloc (.cells #[.int .i64 op, .int .i64 arg] 35)) := hb1.alloc hb1.size _
    refine (impl_ParseOrder s (by omega) (hL.below hX)).mono ?_
    rintro e w2 ⟨op', arg', ok', hP', rfl, hb2⟩
    obtain ⟨rfl, rfl, rfl⟩ := hP.unique hP'
    have hs2 : w1.heap.size < w2.heap.size := Nat.lt_of_lt_of_le (by go_size) hb2.size
    have k0 := (hb2.cell (p := ⟨w1.heap.size, 0, none⟩) (by go_size)).trans (show (w1.alloc (.cells #[.int .i64 op, .int .i64 arg] 35)).cell? ⟨w1.heap.size, 0, none⟩ = some (.int .i64 op) by simp)
    have k1 := (hb2.cell (p := ⟨w1.heap.size, 1, none⟩) (by go_size)).trans (show (w1.alloc (.cells #[.int .i64 op, .int .i64 arg] 35)).cell? ⟨w1.heap.size, 1, none⟩ = some (.int .i64 arg) by simp)
    have hW2 : Below w.heap.size w w2 := hX.trans (hb2.mono hX.size)
    go_wp2_with (go_at_call 29; refine (laws_eqOrder op arg op arg _).mono ?_; rintro e w3 ⟨rfl, hb3⟩)
    go_ret
    refine ⟨by simp, ?_⟩
    exact (hW2.alloc hW2.size _).trans (hb3.mono (hW2.alloc hW2.size _).size)
set_option maxRecDepth 100000 in
theorem lifted_FnExactParseOrder (os : Os) (started : os.Started) (H : Type) (enc : TypeId × Value → H) :
    ReturnsInHanded {} Tryd.checked os 6 .any (fun w args => (Rows.fnExactParseOrderSpec.pre enc Tryd.prog Tryd.f6 Rows.fnExactParseOrderRow.domain false w args ∧ laidMetH Tryd.prog laid5 w) ∧ sizedMet enc Tryd.prog Tryd.f6 (OpenSpec.ofChange Rows.fnExactParseOrderSpec) false w args) (Rows.fnExactParseOrderSpec.post enc Tryd.prog Tryd.f6 false true false false) := by
  refine returnsInHanded_of_change_and (C := Tryd.checked) (X := (fun w _ => laidMetH Tryd.prog laid5 w)) (fun _ _ _ hh h => h.of_heap hh) own started (by kernel_rfl) Tryd.func6
    (ChangeSpec.witness_shaped (enc := enc) (C := Tryd.checked) (os := os) (X := (fun w _ => laidMetH Tryd.prog laid5 w)) false (World.doorLaid Tryd.prog 400 os) #[.string ByteArray.empty] 8 rfl (door_shaped os _) (by kernel_rfl) (by kernel_rfl) (by kernel_rfl) (door_met5 os _)) ?_
  intro W base args ds gs before hval0 hW _ _ hL _
  have hval : ∀ (j : Nat) t v, Tryd.f6.params[j]? = some t → args[j]? = some v → Value.okWide Tryd.prog W .any base t v := hval0
  have hW' := hW
  obtain ⟨p, q, hA0, hV, rfl, hfz, hnd⟩ := hW
  have hA : DataW.TrodAll enc Tryd.prog W 0 (fun _ => true) true Tryd.f6.params.toList args.toList ds p := hA0
  rw [Tryd.params6] at hA hval
  obtain ⟨v0, vs0, d0, ds0, p0, q0, hargs, rfl, rfl, h0, r0⟩ := trodAll_cons hA
  obtain ⟨rfl, rfl, rfl⟩ := trodAll_nil r0
  obtain rfl : args = #[v0] := by cases args; simp_all
  obtain ⟨rfl, rfl⟩ := trodVars_none hV
  have lt0 : ∀ x ∈ p0, x.block < W.heap.size := by obtain ⟨m, hm⟩ := h0; exact DataW.trod_lt m _ _ _ hm
  have y0 := read_string (hval 0 9 v0 rfl rfl) h0
  clear hA0 hval0
  refine (walk_FnExactParseOrder v0 W y0 (laid_of_laid5 hL)).mono fun e W' ⟨he, bel⟩ => ?_
  subst he
  exact ⟨_, rfl, _, _, _, [], _, [], hW', trodAll_mk1 (shut_bool Tryd.underlying4 _), (trodAll_cons_mk (Below.trod laidOut (by kernel_rfl) (of_decide_eq_true (by kernel_rfl)) h0 bel lt0) trodAll_mk0), rfl, bel.frame _, fun h => by cases h⟩
theorem closed_FnExactParseOrder : joinedFacts Tryd.prog 6 Tryd.f6 Rows.fnExactParseOrderSpec Rows.fnExactParseOrderRow = true := by
  unfold joinedFacts
  rw [shared.1, shared.2.1, shared.2.2.1, shared.2.2.2]
  kernel_rfl
theorem FnExactParseOrder_row : Rows.FnExactParseOrderSaid :=
  OpenClaim.holds_of_wide 6 Tryd.f6 rfl rfl rfl rfl rfl rfl rfl ⟨rfl, rfl, rfl, rfl, rfl⟩ rfl rfl rfl rfl rfl (by kernel_rfl) Tryd.func6 closed_FnExactParseOrder
    (of_decide_eq_true (by kernel_rfl)) (by unfold Func.isWrapper; first | (rw [if_pos (by decide +kernel)]; kernel_rfl) | (rw [if_neg (by decide +kernel)]; exact ⟨rfl, rfl⟩))
    (fun os started H enc _ => lifted_FnExactParseOrder os started H enc)
/-- The given statement, a tied card, of FnExactParseOrder. -/
theorem FnExactParseOrder_holds : Rows.FnExactParseOrderCardSaid :=
  Claim7.holds_tied_plain_at .later [] [.data, .data, .data, .sentinel, .sentinel] true Rows.fnExactParseOrderCard.stood.harness true
    FnExactParseOrder_row (fun _ h => by cases h) (by kernel_rfl) (fun _ h => by cases h) fnExactParseOrder_row_tie rfl ⟨rfl, rfl⟩ (by kernel_rfl) rfl
    (fun f fn hf hfn => by
      obtain rfl : f = 6 := Option.some.inj ((show Tryd.prog.funcNamed Rows.fnExactParseOrderRow.func = some 6 by kernel_rfl).symm.trans hf) |>.symm
      obtain rfl : fn = Tryd.f6 := (Option.some.inj (Tryd.func6.symm.trans hfn)).symm
      exact ⟨by kernel_rfl, fun j t ht => by
        rw [Tryd.params6] at ht
        have hm : t ∈ [9] := by simpa using Array.mem_of_getElem? ht
        have hall : ([9].all fun u => !Tryd.prog.wantsStandIn u) = true := by kernel_rfl
        exact (show Tryd.prog.wantsStandIn t = false by simpa using List.all_eq_true.1 hall t hm)⟩)
    (by kernel_rfl)

end Go.Proofs.YthplgehdgaeapaaDoor
