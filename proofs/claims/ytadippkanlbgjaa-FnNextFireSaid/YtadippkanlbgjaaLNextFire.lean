/- The law FnNextFire: for every input it answers true, and changes nothing that was there. No condition. -/
import Derived.Test.YtadippkanlbgjaaDrawTimers
import Derived.Test.YtadippkanlbgjaaClone
import Derived.Test.YtadippkanlbgjaaTimer
import Derived.Test.YtadippkanlbgjaaMemRead
import Derived.Deep.RegionWith
import Derived.Deep.RegionHeld3
import Derived.Deep.DrawnRows
import Derived.Test.YtadippkanlbgjaaCellsN
namespace Go.Proofs.Ytadippkanlbgjaa
open Go.ChangeShapes Go.WideShapes Go.ChangeAt Go.RowKit
set_option linter.unusedVariables false
attribute [local go_sem ↓] Go.wp_at_zero Go.wp_at_succ

theorem fld2 (x y z : Int) (w : World) : (Instr.field 24 (.agg #[.int .i64 x, .int .i64 y, .int .i64 z]) 2).run Try.prog w = .ok (.int .i64 z) w := by kernel_rfl
theorem sk_before (l r f : Int) (h : tvB l r f = true) : ∃ x y, skV l r f l = .agg #[.int .i64 x, .int .i64 y, .int .i64 f] := by
  obtain ⟨⟨a0, a1⟩, _, _, _⟩ := tvB_iff.1 h
  exact ⟨_, _, skV_low (skB_iff.2 ⟨h, by omega, by omega⟩) (Int.le_refl _)⟩
theorem sk_at (l r f : Int) (h : tvB l r f = true) : ∃ x y, skV l r f (l + 1) = .agg #[.int .i64 x, .int .i64 y, .int .i64 (f + 1)] := by
  obtain ⟨⟨a0, a1⟩, _, _, _⟩ := tvB_iff.1 h
  have e : (l + 1 - l - 1) / (r + 1) = 0 := by
    have : l + 1 - l - 1 = 0 := by omega
    rw [this]; simp
  refine ⟨r - (l + 1 - l - 1) % (r + 1), r, ?_⟩
  rw [skV_high (skB_iff.2 ⟨h, by omega, by omega⟩) (by omega), e, Int.add_zero]
theorem t3_drew {W : World} {p q r : Addr} {x y z : Value} (h : W.cell? p = some x ∧ W.cell? q = some y ∧ W.cell? r = some z) : W.drew.cell? p = some x ∧ W.drew.cell? q = some y ∧ W.drew.cell? r = some z := h
theorem t3_be {n p : Nat} {W w' : World} {a b c : Value} (hb : Below n W w') (h : Three W p a b c) (hp : p < n) : Three w' p a b c := ⟨cell_be hb h.1 hp, cell_be hb h.2.1 hp, cell_be hb h.2.2 hp⟩
theorem t3_lit {W : World} {b : Nat} {x y z : Value} {e : TypeId} (he : b = W.heap.size) : Three (W.alloc (.cells #[x, y, z] e)) b x y z := by
  subst he
  refine ⟨?_, ?_, ?_⟩ <;> simp [go_sem]
set_option maxHeartbeats 16000000 in
set_option maxRecDepth 20000 in
theorem walk_FnNextFire (v0 : Value) (w : World) (y0 : IsBytes w v0) : Calls Try.prog 3 #[v0] w fun e w' => e = .returned (.bool true) ∧ Below w.heap.size w w' := by
  have hY := Lib.hid y0
  obtain ⟨a, len, cap, zs, rfl, _, _, _⟩ := y0
  by_cases hl : (1048576 : Int) < (len : Int)
  · go_enter Try.func3, Try.ntmps3
    go_wp2_with fail
    go_ret
    exact ⟨rfl, Below.refl _ _⟩
  have hfld := fld2
  go_enter Try.func3, Try.ntmps3
  go_wp2_with fail
  refine (draw_NextFire hY.out).mono ?_
  rintro e w1 ⟨v, rfl, ⟨l, r, f, rfl, h8⟩, hb1⟩
  have hy1 : w.heap.size ≤ w1.heap.size := hb1.size
  have HB1 := Lib.hid hb1
  clear hb1
  cases hv : tvB l r f
  · have CI : Hid (∀ W, Calls Try.prog 19 #[.agg #[.int .i64 l, .int .i64 r, .int .i64 f]] W fun e w' => e = .returned (.int .i64 (-1)) ∧ Below W.heap.size W w') := fun W => by have := impl_NextFire l r f W; rwa [hv] at this
    have CS : Hid (∀ W, Calls Try.prog 20 #[.agg #[.int .i64 l, .int .i64 r, .int .i64 f]] W fun e w' => e = .returned (.int .i64 (-1)) ∧ Below W.heap.size W w') := fun W => by have := spec_NextFire l r f W; rwa [hv] at this
    go_wp2_with fail
    refine (CI.out _).mono ?_
    rintro e w2 ⟨rfl, hb2⟩
    have T2 := three_below hb2 (t3_lit rfl)
    obtain ⟨t0, t1, t2⟩ := id T2
    have HB2 : Hid (Below w.heap.size w w2) := below_via hb2 (HB1.out.alloc hy1 _) (HB1.out.alloc hy1 _).size
    go_wp2_with fail
    refine (CS.out _).mono ?_
    rintro e w3 ⟨rfl, hb3⟩
    have HB3 : Hid (Below w.heap.size w w3) := below_via hb3 HB2.out HB2.out.size
    go_wp2_with (go_at_call 21; refine (laws_alive _).mono ?_; rintro e w' ⟨rfl, rfl⟩)
    go_ret
    exact ⟨rfl, HB3.out⟩
  · have CI : Hid (∀ W, Calls Try.prog 19 #[.agg #[.int .i64 l, .int .i64 r, .int .i64 f]] W fun e w' => e = .returned (.int .i64 (l + 1)) ∧ Below W.heap.size W w') := fun W => by have := impl_NextFire l r f W; rwa [hv] at this
    have CS : Hid (∀ W, Calls Try.prog 20 #[.agg #[.int .i64 l, .int .i64 r, .int .i64 f]] W fun e w' => e = .returned (.int .i64 (l + 1)) ∧ Below W.heap.size W w') := fun W => by have := spec_NextFire l r f W; rwa [hv] at this
    obtain ⟨u1, u2, hu⟩ := sk_before l r f hv
    obtain ⟨q1, q2, hq⟩ := sk_at l r f hv
    have K1 : Hid (∀ W, Calls Try.prog 22 #[.agg #[.int .i64 l, .int .i64 r, .int .i64 f], .int .i64 l] W fun e w' => e = .returned (.agg #[.int .i64 u1, .int .i64 u2, .int .i64 f]) ∧ Below W.heap.size W w') := fun W => by have := impl_SkipTimer l r f l W; rwa [hu] at this
    have K2 : Hid (∀ W, Calls Try.prog 22 #[.agg #[.int .i64 l, .int .i64 r, .int .i64 f], .int .i64 (l + 1)] W fun e w' => e = .returned (.agg #[.int .i64 q1, .int .i64 q2, .int .i64 (f + 1)]) ∧ Below W.heap.size W w') := fun W => by have := impl_SkipTimer l r f (l + 1) W; rwa [hq] at this
    obtain ⟨⟨bl0, bl1⟩, ⟨br0, br1⟩, bf0, bf1⟩ := tvB_iff.1 hv
    obtain ⟨l1, hl1⟩ : ∃ x, x = l + 1 := ⟨_, rfl⟩
    obtain ⟨f1, hf1⟩ : ∃ x, x = f + 1 := ⟨_, rfl⟩
    rw [← hl1] at CI CS K2
    rw [← hf1] at K2
    have hwf : IntKind.i64.wrap (f + 1) = f1 := by rw [IntKind.wrap_i64]; omega
    have hwl : IntKind.i64.wrap (l1 - 1) = l := by rw [IntKind.wrap_i64]; omega
    have hn0 : ¬ l1 < 0 := by omega
    have hn1 : (1 : Int) ≤ l1 := by omega
    clear hl1 hf1 bl0 bl1 br0 br1 bf0 bf1
    clear hu hq
    go_wp2_with fail
    refine (CI.out _).mono ?_
    rintro e w2 ⟨rfl, hb2⟩
    have T2 := three_below hb2 (t3_lit rfl)
    obtain ⟨t0, t1, t2⟩ := id T2
    have HB2 : Hid (Below w.heap.size w w2) := below_via hb2 (HB1.out.alloc hy1 _) (HB1.out.alloc hy1 _).size
    clear hb2
    go_wp2_with fail
    refine (CS.out _).mono ?_
    rintro e w3 ⟨rfl, hb3⟩
    have HB3 : Hid (Below w.heap.size w w3) := below_via hb3 HB2.out HB2.out.size
    have T3 := three_below hb3 T2
    clear t0 t1 t2 T2 hb3
    go_upto_region 9 with fail
    have S3 : Hid (w3.cell? ⟨w1.heap.size, 0, none⟩ = some (.int .i64 l) ∧ w3.cell? ⟨w1.heap.size, 1, none⟩ = some (.int .i64 r) ∧ w3.cell? ⟨w1.heap.size, 2, none⟩ = some (.int .i64 f)) := T3
    clear T3
    go_region_held3 (fun w' => w'.cell? ⟨w1.heap.size, 0, none⟩ = some (.int .i64 l) ∧ w'.cell? ⟨w1.heap.size, 1, none⟩ = some (.int .i64 r) ∧ w'.cell? ⟨w1.heap.size, 2, none⟩ = some (.int .i64 f)) (first | with_reducible exact S5.out | with_reducible exact S4.out | with_reducible exact cells3_drew S3.out)
      (first
        | (go_at_call_of 22 (Value.int IntKind.i64 l1); refine (K2.out _).mono ?_; rintro e w5 ⟨rfl, hb5⟩; (have S5 := Lib.hid (cells3_below hb5 S4.out)); (have HB5 : Hid (Below w.heap.size w w5) := HB4.out.trans (hb5.mono HB4.out.size)))
        | (go_at_call 22; refine (K1.out _).mono ?_; rintro e w4 ⟨rfl, hb4⟩; (have S4 := Lib.hid (cells3_below hb4 (cells3_drew S3.out))); (have HB4 : Hid (Below w.heap.size w w4) := HB3.out.drew.trans (hb4.mono HB3.out.drew.size))))
    all_goals
      go_wp2_with fail
      go_ret
      exact ⟨rfl, HB5.out⟩
set_option maxRecDepth 100000 in
theorem lifted_FnNextFire (os : Os) (started : os.Started) (H : Type) (enc : TypeId × Value → H) :
    ReturnsInHanded {} Try.checked os 3 .any (Rows.fnNextFireSpec.pre6 enc Try.prog Try.f3 Rows.fnNextFireRow.domain false) (Rows.fnNextFireSpec.post enc Try.prog Try.f3 false true false false) := by
  refine returnsInHanded_of_change (C := Try.checked) own started (by kernel_rfl) Try.func3
    (ChangeSpec.witness6 (enc := enc) (C := Try.checked) false ⟨#[], #[.slice none 0 0], []⟩ 8 (by kernel_rfl) (by kernel_rfl) (by kernel_rfl) (by kernel_rfl)) ?_
  intro W base args ds gs before hval0 hW hcnd _
  have hval : ∀ (j : Nat) t v, Try.f3.params[j]? = some t → args[j]? = some v → Value.okWide Try.prog W .any base t v := hval0
  have hW' := hW
  obtain ⟨p, q, hA0, hV, rfl, hfz, hnd⟩ := hW
  have hA : DataW.TrodAll enc Try.prog W 0 (fun _ => true) true Try.f3.params.toList args.toList ds p := hA0
  rw [Try.params3] at hA hval
  obtain ⟨v0, vs0, d0, ds0, p0, q0, hargs, rfl, rfl, h0, r0⟩ := trodAll_cons hA
  obtain ⟨rfl, rfl, rfl⟩ := trodAll_nil r0
  obtain rfl : args = #[v0] := by cases args; simp_all
  obtain ⟨rfl, rfl⟩ := trodVars_none hV
  have lt0 : ∀ x ∈ p0, x.block < W.heap.size := by obtain ⟨m, hm⟩ := h0; exact DataW.trod_lt m _ _ _ hm
  have y0 := read_bytes (hval 0 22 v0 rfl rfl) h0
  clear hA0 hval0
  refine (walk_FnNextFire v0 W y0).mono fun e W' ⟨he, bel⟩ => ?_
  subst he
  exact ⟨_, rfl, _, _, _, [], _, [], hW', trodAll_mk1 (shut_bool Try.underlying4 _), (trodAll_cons_mk (Below.trod laidOut (by kernel_rfl) (of_decide_eq_true (by kernel_rfl)) h0 bel lt0) trodAll_mk0), rfl, bel.frame _, fun h => by cases h⟩
theorem closed_FnNextFire : joinedFacts Try.prog 3 Try.f3 Rows.fnNextFireSpec Rows.fnNextFireRow = true := by
  unfold joinedFacts
  rw [shared.1, shared.2.1, shared.2.2.1, shared.2.2.2]
  kernel_rfl
/-- The given statement of FnNextFire. -/
theorem FnNextFire_holds : Rows.FnNextFireSaid :=
  OpenClaim.holds_of_wide 3 Try.f3 rfl rfl rfl rfl rfl rfl rfl ⟨rfl, rfl, rfl, rfl, rfl⟩ rfl rfl rfl rfl rfl (by kernel_rfl) Try.func3 closed_FnNextFire
    (of_decide_eq_true (by kernel_rfl)) (by unfold Func.isWrapper; first | (rw [if_pos (by decide +kernel)]; kernel_rfl) | (rw [if_neg (by decide +kernel)]; exact ⟨rfl, rfl⟩))
    (fun os started H enc _ => lifted_FnNextFire os started H enc)

end Go.Proofs.Ytadippkanlbgjaa
