/- The law FnDisassemble: for every input it answers true, and changes nothing that was there. The listed package-level variables are tied by the card. No condition. -/
import Derived.Test.YthplgehdgaeapaaDoorDrawDis
import Derived.Test.YthplgehdgaeapaaDoorTie
import Derived.Test.YthplgehdgaeapaaDoorCards
import Derived.Stop.Joined
namespace Go.Proofs.YthplgehdgaeapaaDoor
open Go.ChangeShapes Go.WideShapes Go.ChangeAt Go.RowKit
set_option linter.unusedVariables false

theorem ownS_shape {lo hi : Nat} {w : World} {v : Value} {ss : List ByteArray} (o : OwnS lo hi w v ss) : ∃ (a : Option Addr) (cap : Nat), v = .slice a ss.length cap := by
  obtain ⟨a, cap, rfl, _⟩ := o
  exact ⟨a, cap, rfl⟩
theorem ok_small {ss : List ByteArray} (h : OkTo ss ss.length) : SmallS ss ss.length := fun i hi => by
  obtain ⟨h1, h2⟩ := line_ok (h i hi)
  have := fmt_len h1
  rw [h2] at this
  omega
theorem dis_ok {zs : List Int} {ss : List ByteArray} (h : dis zs = some ss) : OkTo ss ss.length ∧ ss.length ≤ 60 := by
  rcases dis_asm h with ⟨k, _, _, _, h1, _⟩ | ⟨_, _, h1, _⟩ | ⟨h1, h2, _, _⟩
  · omega
  · omega
  · exact ⟨h1, h2⟩
theorem sameIntsB {v u : Value} {xs ys : List Int} {w : World} (h : Ints w v xs) (g : Ints w u ys) (e : xs = ys) : Calls Tryd.prog 31 #[v, u] w fun e w' => e = .returned (.bool true) ∧ Below w.heap.size w w' := by
  subst e
  exact (sameInts_b h g).mono fun _ _ ⟨he, q⟩ => ⟨he.trans (by simp), q⟩
set_option maxHeartbeats 4000000 in
set_option maxRecDepth 20000 in
theorem walk_FnDisassemble (v0 : Value) (w : World) (y0 : IsBytes w v0) (hL : LaidW w) : Calls Tryd.prog 8 #[v0] w fun e w' => e = .returned (.bool true) ∧ Below w.heap.size w w' := by
  have hY0 := Lib.hid y0
  obtain ⟨a0, len0, cap0, zs0, rfl, _⟩ := y0
  by_cases hl : (1048576 : Int) < (len0 : Int)
  · go_enter Tryd.func8, Tryd.ntmps8
    go_wp2_with fail
    go_ret
    exact ⟨rfl, Below.refl _ _⟩
  go_enter Tryd.func8, Tryd.ntmps8
  go_wp2_with fail
  refine (draw_Disassemble hY0.out).mono ?_
  rintro e w1 ⟨v1, zs, rfl, hz, hzl, hb1⟩
  obtain ⟨hc1, hf1⟩ := bcell hb1
  have hs1 : w.heap.size + 0 ≤ w1.heap.size := Nat.le_trans (by go_size) hb1.size
  have hB1 : Hid (Below w.heap.size w w1) := below_via hb1 (by repeat (first | with_reducible exact Below.refl _ _ | with_reducible refine below_via (by assumption) ?_ (by go_size) | with_reducible refine below_within (by assumption) ?_ (by go_size) (by omega) | with_reducible refine Below.alloc ?_ (by go_size) _ | with_reducible refine Below.setCell ?_ (by go_size) _ | with_reducible refine Below.drew ?_)) (by go_size)
  go_wp2_with fail
  have hzl2 : zs.length ≤ 1048576 := by omega
  have hb1z := hz
  have LW1 := hL.below hB1.out
  have CI := impl_Disassemble hz hzl2 LW1.1
  have CS := fun {w' : World} (hb : Below w1.heap.size w1 w') => spec_Disassemble (hz.below hb) hzl2
  unfold MadeDis at CI CS
  cases hd : dis zs with
  | none =>
    rw [hd] at CI CS
    refine CI.mono ?_
    rintro e w2 ⟨v2, rfl, o2, hb2⟩
    obtain ⟨a2, c2, rfl⟩ := ownS_shape o2
    go_wp2_with fail
    refine (CS hb2).mono ?_
    rintro e w3 ⟨v3, rfl, o3, hb3⟩
    have q2 : OwnS w1.heap.size w2.heap.size w3 _ [] := o2.agree (agree_below hb3 (Agree.refl _ _ _) (Nat.le_refl _))
    have hB3 : Below w.heap.size w w3 := hB1.out.trans ((hb2.trans (hb3.mono hb2.size)).mono hB1.out.size)
    go_wp2_with fail
    refine (sameTexts_b q2.strs o3.strs).mono ?_
    rintro e w4 ⟨rfl, hb4⟩
    have hB4 : Below w.heap.size w w4 := hB3.trans (hb4.mono hB3.size)
    clear hd CI CS o2 o3 q2 hb2 hb3 hb4
    go_wp2_with (go_at_call 32; refine (laws_alive _).mono ?_; rintro e w' ⟨rfl, rfl⟩)
    go_ret
    exact ⟨rfl, hB4⟩
  | some ss =>
    obtain ⟨hok, h60⟩ := dis_ok hd
    have hsm := ok_small hok
    have HA := Lib.hid (dis_asm hd)
    rw [hd] at CI CS
    refine CI.mono ?_
    rintro e w2 ⟨v2, rfl, o2, hb2⟩
    have o2' : OwnS w1.heap.size w2.heap.size w2 v2 ss := o2
    obtain ⟨a2, c2, rfl⟩ := ownS_shape o2'
    go_wp2_with fail
    refine (CS hb2).mono ?_
    rintro e w3 ⟨v3, rfl, o3, hb3⟩
    have o3' : OwnS w2.heap.size w3.heap.size w3 v3 ss := o3
    have q2 : OwnS w1.heap.size w2.heap.size w3 _ ss := o2'.agree (agree_below hb3 (Agree.refl _ _ _) (Nat.le_refl _))
    have hB3 : Below w.heap.size w w3 := hB1.out.trans ((hb2.trans (hb3.mono hb2.size)).mono hB1.out.size)
    have hz3 : Below w1.heap.size w1 w3 := hb2.trans (hb3.mono hb2.size)
    go_wp2_with fail
    refine (sameTexts_b q2.strs o3'.strs).mono ?_
    rintro e w4 ⟨rfl, hb4⟩
    have hB4 : Below w.heap.size w w4 := hB3.trans (hb4.mono hB3.size)
    have hz4 : Below w1.heap.size w1 w4 := hz3.trans (hb4.mono hz3.size)
    have hs24 : w2.heap.size ≤ w3.heap.size := hb3.size
    have q4 : OwnS w1.heap.size w2.heap.size w4 _ ss := q2.agree (agree_below hb4 (Agree.refl _ _ _) hs24)
    have Q4 := Lib.hid q4.strs
    have LW4 := Lib.hid (hL.below hB4)
    have SM := Lib.hid hsm
    clear hd CI CS o2 o2' o3 o3' q2 q4 hb2 hb3 hb4 hz3 hB3 hsm hok LW1
    go_wp2_with fail
    refine (impl_Assemble Q4.out (by omega) SM.out LW4.out).mono ?_
    rintro e w5 ⟨v5, zs5, n5, hA5, rfl, o5, hb5⟩
    obtain ⟨rfl, rfl⟩ := HA.out.unique hA5
    have HZ := Lib.hid (hz.below (hz4.trans (hb5.mono hz4.size)))
    have HO5 := Lib.hid o5.ints
    have hB5 : Below w.heap.size w w5 := hB4.trans (hb5.mono hB4.size)
    clear o5 hA5 hb5
    go_wp2_with fail
    refine (sameIntsB HO5.out HZ.out rfl).mono ?_
    rintro e w6 ⟨rfl, hb6⟩
    go_wp2_with fail
    go_ret
    exact ⟨rfl, hB5.trans (hb6.mono hB5.size)⟩
set_option maxRecDepth 100000 in
theorem lifted_FnDisassemble (os : Os) (started : os.Started) (H : Type) (enc : TypeId × Value → H) :
    ReturnsInHanded {} Tryd.checked os 8 .any (fun w args => (Rows.fnDisassembleSpec.pre enc Tryd.prog Tryd.f8 Rows.fnDisassembleRow.domain false w args ∧ laidMetH Tryd.prog laid5 w) ∧ sizedMet enc Tryd.prog Tryd.f8 (OpenSpec.ofChange Rows.fnDisassembleSpec) false w args) (Rows.fnDisassembleSpec.post enc Tryd.prog Tryd.f8 false true false false) := by
  refine returnsInHanded_of_change_and (C := Tryd.checked) (X := (fun w _ => laidMetH Tryd.prog laid5 w)) (fun _ _ _ hh h => h.of_heap hh) own started (by kernel_rfl) Tryd.func8
    (ChangeSpec.witness_shaped (enc := enc) (C := Tryd.checked) (os := os) (X := (fun w _ => laidMetH Tryd.prog laid5 w)) false (World.doorLaid Tryd.prog 400 os) #[.slice none 0 0] 8 rfl (door_shaped os _) (by kernel_rfl) (by kernel_rfl) (by kernel_rfl) (door_met5 os _)) ?_
  intro W base args ds gs before hval0 hW _ _ hL _
  have hval : ∀ (j : Nat) t v, Tryd.f8.params[j]? = some t → args[j]? = some v → Value.okWide Tryd.prog W .any base t v := hval0
  have hW' := hW
  obtain ⟨p, q, hA0, hV, rfl, hfz, hnd⟩ := hW
  have hA : DataW.TrodAll enc Tryd.prog W 0 (fun _ => true) true Tryd.f8.params.toList args.toList ds p := hA0
  rw [Tryd.params8] at hA hval
  obtain ⟨v0, vs0, d0, ds0, p0, q0, hargs, rfl, rfl, h0, r0⟩ := trodAll_cons hA
  obtain ⟨rfl, rfl, rfl⟩ := trodAll_nil r0
  obtain rfl : args = #[v0] := by cases args; simp_all
  obtain ⟨rfl, rfl⟩ := trodVars_none hV
  have lt0 : ∀ x ∈ p0, x.block < W.heap.size := by obtain ⟨m, hm⟩ := h0; exact DataW.trod_lt m _ _ _ hm
  have y0 := read_bytes (hval 0 46 v0 rfl rfl) h0
  clear hA0 hval0
  refine (walk_FnDisassemble v0 W y0 (laid_of_laid5 hL)).mono fun e W' ⟨he, bel⟩ => ?_
  subst he
  exact ⟨_, rfl, _, _, _, [], _, [], hW', trodAll_mk1 (shut_bool Tryd.underlying4 _), (trodAll_cons_mk (Below.trod laidOut (by kernel_rfl) (of_decide_eq_true (by kernel_rfl)) h0 bel lt0) trodAll_mk0), rfl, bel.frame _, fun h => by cases h⟩
theorem closed_FnDisassemble : joinedFacts Tryd.prog 8 Tryd.f8 Rows.fnDisassembleSpec Rows.fnDisassembleRow = true := by
  unfold joinedFacts
  rw [shared.1, shared.2.1, shared.2.2.1, shared.2.2.2]
  kernel_rfl
theorem FnDisassemble_row : Rows.FnDisassembleSaid :=
  OpenClaim.holds_of_wide 8 Tryd.f8 rfl rfl rfl rfl rfl rfl rfl ⟨rfl, rfl, rfl, rfl, rfl⟩ rfl rfl rfl rfl rfl (by kernel_rfl) Tryd.func8 closed_FnDisassemble
    (of_decide_eq_true (by kernel_rfl)) (by unfold Func.isWrapper; first | (rw [if_pos (by decide +kernel)]; kernel_rfl) | (rw [if_neg (by decide +kernel)]; exact ⟨rfl, rfl⟩))
    (fun os started H enc _ => lifted_FnDisassemble os started H enc)
/-- The given statement, a tied card, of FnDisassemble. -/
theorem FnDisassemble_holds : Rows.FnDisassembleCardSaid :=
  Claim7.holds_tied_plain_at .later [] [.data, .data, .data, .sentinel, .sentinel] true Rows.fnDisassembleCard.stood.harness true
    FnDisassemble_row (fun _ h => by cases h) (by kernel_rfl) (fun _ h => by cases h) fnDisassemble_row_tie rfl ⟨rfl, rfl⟩ (by kernel_rfl) rfl
    (fun f fn hf hfn => by
      obtain rfl : f = 8 := Option.some.inj ((show Tryd.prog.funcNamed Rows.fnDisassembleRow.func = some 8 by kernel_rfl).symm.trans hf) |>.symm
      obtain rfl : fn = Tryd.f8 := (Option.some.inj (Tryd.func8.symm.trans hfn)).symm
      exact ⟨by kernel_rfl, fun j t ht => by
        rw [Tryd.params8] at ht
        have hm : t ∈ [46] := by simpa using Array.mem_of_getElem? ht
        have hall : ([46].all fun u => !Tryd.prog.wantsStandIn u) = true := by kernel_rfl
        exact (show Tryd.prog.wantsStandIn t = false by simpa using List.all_eq_true.1 hall t hm)⟩)
    (by kernel_rfl)

end Go.Proofs.YthplgehdgaeapaaDoor
