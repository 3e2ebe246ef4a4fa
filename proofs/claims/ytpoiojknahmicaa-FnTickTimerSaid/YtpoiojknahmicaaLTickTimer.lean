/- The law FnTickTimer: for every input it answers true, and changes nothing that was there. No condition. -/
import Derived.Test.YtpoiojknahmicaaDrawTimers
import Derived.Test.YtpoiojknahmicaaClone
import Derived.Test.YtpoiojknahmicaaTimer
import Derived.Test.YtpoiojknahmicaaMemRead
import Derived.Deep.RegionWith
namespace Go.Proofs.Ytpoiojknahmicaa
open Go.ChangeShapes Go.WideShapes Go.ChangeAt Go.RowKit
set_option linter.unusedVariables false

theorem tick_vals (l r f : Int) (h8 : f ≤ 8) : ∃ x y z, skV l r f 1 = .agg #[.int .i64 x, .int .i64 y, .int .i64 z] ∧ ((tvB l r f = false ∧ x = 0 ∧ y = 0 ∧ z = 0) ∨ (tvB l r f = true ∧ tvB x y z = true ∧ y = r ∧ ((l = 0 ∧ z = f + 1 ∧ (z == f + 1) = true) ∨ ((l == 0) = false ∧ z = f ∧ (f == f + 1) = false ∧ x = l - 1)))) := by
  cases ht : tvB l r f
  · have hs : skB l r f 1 = false := by simp [skB, ht]
    exact ⟨0, 0, 0, skV_no hs, .inl ⟨rfl, rfl, rfl, rfl⟩⟩
  · obtain ⟨⟨a0, a1⟩, ⟨b0, b1⟩, c0, c1⟩ := tvB_iff.1 ht
    have hs : skB l r f 1 = true := skB_iff.2 ⟨ht, by omega, by omega⟩
    by_cases h : 1 ≤ l
    · refine ⟨l - 1, r, f, skV_low hs h, .inr ⟨rfl, tvB_iff.2 (by omega), rfl, .inr ⟨by simp; omega, rfl, by simp; omega, rfl⟩⟩⟩
    · have h0 : l = 0 := by omega
      subst h0
      have e1 : ((1 : Int) - 0 - 1) % (r + 1) = 0 := by simp
      have e2 : ((1 : Int) - 0 - 1) / (r + 1) = 0 := by simp
      refine ⟨r - ((1 : Int) - 0 - 1) % (r + 1), r, f + 1 + ((1 : Int) - 0 - 1) / (r + 1), skV_high hs h, .inr ⟨rfl, ?_, rfl, .inl ⟨rfl, by rw [e2]; omega, by rw [e2]; simp⟩⟩⟩
      rw [e1, e2]
      exact tvB_iff.2 (by omega)
theorem t3_lit {W : World} {b : Nat} {x y z : Value} {e : TypeId} (he : b = W.heap.size) : Three (W.alloc (.cells #[x, y, z] e)) b x y z := by
  subst he
  refine ⟨?_, ?_, ?_⟩ <;> simp [go_sem]
theorem three_be {n p : Nat} {W w' : World} {a b c : Value} (hb : Below n W w') (h : Three W p a b c) (hp : p < n) : Three w' p a b c := ⟨cell_be hb h.1 hp, cell_be hb h.2.1 hp, cell_be hb h.2.2 hp⟩
set_option maxHeartbeats 2000000 in
set_option maxRecDepth 20000 in
theorem walk_FnTickTimer (v0 : Value) (w : World) (y0 : IsBytes w v0) : Calls Try.prog 5 #[v0] w fun e w' => e = .returned (.bool true) ∧ Below w.heap.size w w' := by
  have hY := Lib.hid y0
  obtain ⟨a, len, cap, zs, rfl, _, _, _⟩ := y0
  by_cases hl : (1048576 : Int) < (len : Int)
  · go_enter Try.func5, Try.ntmps5
    go_wp2_with fail
    go_ret
    exact ⟨rfl, Below.refl _ _⟩
  go_enter Try.func5, Try.ntmps5
  go_wp2_with fail
  refine (draw_TickTimer hY.out).mono ?_
  rintro e w1 ⟨v, rfl, ⟨l, r, f, rfl, h8⟩, hb1⟩
  have hy1 : w.heap.size ≤ w1.heap.size := hb1.size
  have HB1 := Lib.hid hb1
  obtain ⟨x, y, z, hx, hc⟩ := tick_vals l r f h8
  have CI : Hid (∀ W, Calls Try.prog 31 #[.agg #[.int .i64 l, .int .i64 r, .int .i64 f]] W fun e w' => e = .returned (.agg #[.int .i64 x, .int .i64 y, .int .i64 z]) ∧ Below W.heap.size W w') := fun W => by have := impl_TickTimer l r f W; rwa [hx] at this
  have CS : Hid (∀ W, Calls Try.prog 32 #[.agg #[.int .i64 l, .int .i64 r, .int .i64 f]] W fun e w' => e = .returned (.agg #[.int .i64 x, .int .i64 y, .int .i64 z]) ∧ Below W.heap.size W w') := fun W => by have := spec_TickTimer l r f W; rwa [hx] at this
  clear hx hb1
  go_wp2_with fail
  refine (CI.out _).mono ?_
  rintro e w2 ⟨rfl, hb2⟩
  obtain ⟨t0, t1, t2⟩ := three_below hb2 (t3_lit rfl)
  have hT2 : w1.heap.size < w2.heap.size := block_lt_of_cell t0
  have HB2 : Hid (Below w.heap.size w w2) := below_via hb2 (HB1.out.alloc hy1 _) (HB1.out.alloc hy1 _).size
  have hx2 : ∀ W, W = w2.alloc (.cells #[.int .i64 x, .int .i64 y, .int .i64 z] 24) → Three W w1.heap.size (.int .i64 l) (.int .i64 r) (.int .i64 f) ∧ Three W w2.heap.size (.int .i64 x) (.int .i64 y) (.int .i64 z) := by
    rintro W rfl
    exact ⟨three_alloc _ ⟨t0, t1, t2⟩, t3_lit rfl⟩
  have HX := Lib.hid hx2
  clear hx2 hb2
  go_wp2_with fail
  go_region_with (go_at_call 32; refine (CS.out _).mono ?_; rintro e w3 ⟨rfl, hb3⟩; obtain ⟨T3, X3⟩ := HX.out _ rfl; (have hb3' := (Below.refl _ _).drew.trans hb3); obtain ⟨u0, u1, u2⟩ := three_be hb3' T3 (block_lt_of_cell T3.1); obtain ⟨x0, x1, x2⟩ := three_be hb3' X3 (block_lt_of_cell X3.1))
  all_goals
    have HB3 : Hid (Below w.heap.size w w3) := below_via hb3' (HB2.out.alloc HB2.out.size _) (HB2.out.alloc HB2.out.size _).size
    have hy3 : w.heap.size ≤ w3.heap.size := HB3.out.size
    have z2 : w2.heap.size < w3.heap.size := block_lt_of_cell x0
    have z1 : w1.heap.size < w3.heap.size := block_lt_of_cell u0
    have HT3 := Lib.hid (show Three w3 w1.heap.size (.int .i64 l) (.int .i64 r) (.int .i64 f) from ⟨u0, u1, u2⟩)
    have HX3 := Lib.hid (show Three w3 w2.heap.size (.int .i64 x) (.int .i64 y) (.int .i64 z) from ⟨x0, x1, x2⟩)
    have ex : (x == x && y == y && z == z) = true := by simp
    clear hb3 T3 X3 HX hb3'
    rcases hc with ⟨hv, rfl, rfl, rfl⟩ | ⟨hv, hv2, rfl, hc⟩
    · go_wp2_with fail
      refine (calls_eqv (spec_TimerValid l r f w3) hv).mono ?_
      rintro e w4 ⟨rfl, rfl⟩
      go_wp2_with (go_at_call 25; refine (laws_alive _).mono ?_; rintro e w' ⟨rfl, rfl⟩)
      go_ret
      exact ⟨rfl, by repeat (first | with_reducible exact HB3.out | with_reducible refine Below.alloc ?_ (by go_size) _)⟩
    · go_wp2_with fail
      refine (calls_eqv (spec_TimerValid l y f w3) hv).mono ?_
      rintro e w4 ⟨rfl, rfl⟩
      obtain ⟨⟨bl0, bl1⟩, ⟨br0, br1⟩, bf0, bf1⟩ := tvB_iff.1 hv
      have hwf : IntKind.i64.wrap (f + 1) = f + 1 := by rw [IntKind.wrap_i64]; omega
      have hwl : IntKind.i64.wrap (l - 1) = l - 1 := by rw [IntKind.wrap_i64]; omega
      rcases hc with ⟨rfl, rfl, hz⟩ | ⟨hl0, rfl, hz, rfl⟩
      · go_wp2_with fail
        refine (calls_eqv (impl_TimerValid x y (f + 1) _) hv2).mono ?_
        rintro e w5 ⟨rfl, rfl⟩
        go_wp2_with fail
        go_ret
        exact ⟨rfl, by repeat (first | with_reducible exact HB3.out | with_reducible refine Below.alloc ?_ (by go_size) _)⟩
      · go_wp2_with fail
        refine (calls_eqv (impl_TimerValid (l - 1) y z _) hv2).mono ?_
        rintro e w5 ⟨rfl, rfl⟩
        go_wp2_with fail
        go_ret
        exact ⟨rfl, by repeat (first | with_reducible exact HB3.out | with_reducible refine Below.alloc ?_ (by go_size) _)⟩
set_option maxRecDepth 100000 in
theorem lifted_FnTickTimer (os : Os) (started : os.Started) (H : Type) (enc : TypeId × Value → H) :
    ReturnsInHanded {} Try.checked os 5 .any (Rows.fnTickTimerSpec.pre6 enc Try.prog Try.f5 Rows.fnTickTimerRow.domain false) (Rows.fnTickTimerSpec.post enc Try.prog Try.f5 false true false false) := by
  refine returnsInHanded_of_change (C := Try.checked) own started (by kernel_rfl) Try.func5
    (ChangeSpec.witness6 (enc := enc) (C := Try.checked) false ⟨#[], #[.slice none 0 0], []⟩ 8 (by kernel_rfl) (by kernel_rfl) (by kernel_rfl) (by kernel_rfl)) ?_
  intro W base args ds gs before hval0 hW hcnd _
  have hval : ∀ (j : Nat) t v, Try.f5.params[j]? = some t → args[j]? = some v → Value.okWide Try.prog W .any base t v := hval0
  have hW' := hW
  obtain ⟨p, q, hA0, hV, rfl, hfz, hnd⟩ := hW
  have hA : DataW.TrodAll enc Try.prog W 0 (fun _ => true) true Try.f5.params.toList args.toList ds p := hA0
  rw [Try.params5] at hA hval
  obtain ⟨v0, vs0, d0, ds0, p0, q0, hargs, rfl, rfl, h0, r0⟩ := trodAll_cons hA
  obtain ⟨rfl, rfl, rfl⟩ := trodAll_nil r0
  obtain rfl : args = #[v0] := by cases args; simp_all
  obtain ⟨rfl, rfl⟩ := trodVars_none hV
  have lt0 : ∀ x ∈ p0, x.block < W.heap.size := by obtain ⟨m, hm⟩ := h0; exact DataW.trod_lt m _ _ _ hm
  have y0 := read_bytes (hval 0 22 v0 rfl rfl) h0
  clear hA0 hval0
  refine (walk_FnTickTimer v0 W y0).mono fun e W' ⟨he, bel⟩ => ?_
  subst he
  exact ⟨_, rfl, _, _, _, [], _, [], hW', trodAll_mk1 (shut_bool Try.underlying4 _), (trodAll_cons_mk (Below.trod laidOut (by kernel_rfl) (of_decide_eq_true (by kernel_rfl)) h0 bel lt0) trodAll_mk0), rfl, bel.frame _, fun h => by cases h⟩
theorem closed_FnTickTimer : joinedFacts Try.prog 5 Try.f5 Rows.fnTickTimerSpec Rows.fnTickTimerRow = true := by
  unfold joinedFacts
  rw [shared.1, shared.2.1, shared.2.2.1, shared.2.2.2]
  kernel_rfl
/-- The given statement of FnTickTimer. -/
theorem FnTickTimer_holds : Rows.FnTickTimerSaid :=
  OpenClaim.holds_of_wide 5 Try.f5 rfl rfl rfl rfl rfl rfl rfl ⟨rfl, rfl, rfl, rfl, rfl⟩ rfl rfl rfl rfl rfl (by kernel_rfl) Try.func5 closed_FnTickTimer
    (of_decide_eq_true (by kernel_rfl)) (by unfold Func.isWrapper; first | (rw [if_pos (by decide +kernel)]; kernel_rfl) | (rw [if_neg (by decide +kernel)]; exact ⟨rfl, rfl⟩))
    (fun os started H enc _ => lifted_FnTickTimer os started H enc)

end Go.Proofs.Ytpoiojknahmicaa
