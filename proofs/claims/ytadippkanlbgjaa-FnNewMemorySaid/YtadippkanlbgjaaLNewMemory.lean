/- The law FnNewMemory: for every input it answers true, and changes nothing that was there. No condition. -/
import Derived.Test.YtadippkanlbgjaaDrawNew
import Derived.Test.YtadippkanlbgjaaDrawByte
import Derived.Test.YtadippkanlbgjaaSame
import Derived.Deep.RegionWith
import Derived.Deep.DrawnRows
import Derived.Deep.RegionHeld3
import Derived.Test.YtadippkanlbgjaaCellsN
namespace Go.Proofs.Ytadippkanlbgjaa
open Go.ChangeShapes Go.WideShapes Go.ChangeAt Go.RowKit
set_option linter.unusedVariables false
attribute [local go_sem ↓] Go.wp_at_zero Go.wp_at_succ

theorem nw_valid' {rom : List (List Int)} : memB (nwR rom) (nwM rom) 0 = nwOk rom := by
  cases ht : nwOk rom
  · have e1 : nwR rom = [] := by simp [nwR, ht]
    have e2 : nwM rom = [] := by simp [nwM, ht]
    rw [e1, e2]; rfl
  · have e1 : nwR rom = zeros := by simp [nwR, ht]
    have e2 : nwM rom = rom := by simp [nwM, ht]
    rw [e1, e2]; exact ht
set_option maxHeartbeats 4000000 in
set_option maxRecDepth 20000 in
theorem walk_FnNewMemory (v0 : Value) (w : World) (y0 : IsBytes w v0) : Calls Try.prog 6 #[v0] w fun e w' => e = .returned (.bool true) ∧ Below w.heap.size w w' := by
  have hY := Lib.hid y0
  obtain ⟨a, len, cap, zs, rfl, _⟩ := y0
  by_cases hl : (1048576 : Int) < (len : Int)
  · go_enter Try.func6, Try.ntmps6
    go_wp2_with fail
    go_ret
    exact ⟨rfl, Below.refl _ _⟩
  go_enter Try.func6, Try.ntmps6
  go_wp2_with fail
  refine (draw_NewMemory hY.out).mono ?_
  rintro e w1 ⟨v1, zss, rfl, hm, hown, hl, hs, hb1⟩
  have HM := Lib.hid hm
  have HOwn := Lib.hid hown
  have hB1 := Lib.hid hb1
  have hs1 := hB1.out.size
  obtain ⟨va, vc, rfl, _, _⟩ := mat_shape hm
  clear hm hb1 hown
  go_wp2_with fail
  refine (impl_NewMemory HM.out (by omega) (by omega)).mono ?_
  rintro e w2 ⟨v2, rfl, o2, hb2⟩
  have hB2 : Hid (Below w.heap.size w w2) := below_via hb2 hB1.out hs1
  have hs2 : w1.heap.size ≤ w2.heap.size := hb2.size
  have O2 := Lib.hid o2
  have HB2 := Lib.hid hb2
  have hok : nwOk zss = true ∨ nwOk zss = false := by cases nwOk zss <;> simp
  obtain ⟨R, hR⟩ : ∃ R, R = nwR zss := ⟨_, rfl⟩
  obtain ⟨M, hM⟩ : ∃ M, M = nwM zss := ⟨_, rfl⟩
  rw [← hR, ← hM] at o2
  have HR := Lib.hid hR
  have HMm := Lib.hid hM
  obtain ⟨xa, xc, xb, xd, rfl, _, _, _, _⟩ := memV_shape o2.mem
  have OM := Lib.hid o2
  clear o2 hb2 hR hM O2
  have hTX := Lib.hid (three_lit (W := w2) (x := .slice xa R.length xc) (y := .slice xb M.length xd) (z := .int .i64 0) (e := 42) rfl)
  go_wp2_with fail
  go_region_with (first
    | (go_at_call 35; refine (spec_NewMemory (HM.out.below ((HB2.out.alloc hs2 _).drew)) (by omega) (by omega)).mono ?_; rintro e w3 ⟨v3, rfl, o3, hb3⟩; rw [← HR.out, ← HMm.out] at o3; have tX3 := three_below hb3 (three_drew hTX.out); obtain ⟨x30, x31, x32⟩ := id tX3; have hB3 : Hid (Below w.heap.size w w3) := ((hB2.out.alloc hB2.out.size _).drew).trans (hb3.mono (hB2.out.alloc hB2.out.size _).size); have b13 : Hid (Below w1.heap.size w1 w3) := ((HB2.out.alloc hs2 _).drew).trans (hb3.mono (HB2.out.alloc hs2 _).size); have b23 : Hid (Below w2.heap.size w2 w3) := (((Below.refl _ _).alloc (Nat.le_refl _) _).drew).trans (hb3.mono (by simp)))
    | (go_at_call 34; refine (laws_sameMemory (OM.out.mem.below b23.out) o3.mem).mono ?_; rintro e w4 ⟨rfl, hb4⟩))
  all_goals
    have hB4 : Hid (Below w.heap.size w w4) := hB3.out.trans (hb4.mono hB3.out.size)
    have b14 : Hid (Below w1.heap.size w1 w4) := b13.out.trans (hb4.mono b13.out.size)
    have b24 : Hid (Below w2.heap.size w2 w4) := b23.out.trans (hb4.mono b23.out.size)
    have tX4 := three_below hb4 tX3
    obtain ⟨x40, x41, x42⟩ := id tX4
    have hV : memB R M 0 = nwOk zss := by rw [HR.out, HMm.out]; exact nw_valid'
    rcases hok with hok | hok
    · go_wp2_with fail
      refine (calls_at (impl_MemoryValid (OM.out.mem.below b24.out)) (hV.trans hok)).mono ?_
      rintro e w6 ⟨rfl, hb6⟩
      have tX6 := three_below hb6 tX4
      obtain ⟨x60, x61, x62⟩ := id tX6
      have hB6 : Hid (Below w.heap.size w w6) := hB4.out.trans (hb6.mono hB4.out.size)
      have b16 : Below w1.heap.size w1 w6 := b14.out.trans (hb6.mono b14.out.size)
      have b26 : Below w2.heap.size w2 w6 := b24.out.trans (hb6.mono b24.out.size)
      have hbk : banksB zss = true := (memB_iff.1 (show memB zeros zss 0 = true from hok)).2.1
      obtain ⟨q1, q2, q3, q4⟩ := banks_sum hbk
      have e1 : R = zeros := by rw [HR.out]; simp [nwR, hok]
      have e2 : M = zss := by rw [HMm.out]; simp [nwM, hok]
      have hby := allB_at (rows_at hbk 0) 0
      have hl0 := q4 0 q3
      have hne : zss.getD 0 [] ≠ [] := by intro e; rw [e] at hl0; simp at hl0
      obtain ⟨oc, ocap, oe, _, o2', o3'⟩ := (HOwn.out hbk).agree (w' := w6) (fun k _ k2 => b16.block k k2)
      injection oe with oe1 oe2 oe3
      subst oe1 oe3
      obtain ⟨mx, my, l1, t1, l2, t2, me, ⟨ma1, mb1, ma2, mb2, msp⟩, mo1, mo2⟩ := OM.out.agree (w' := w6) (fun k _ k2 => b26.block k k2)
      simp only [Value.agg.injEq, Array.mk.injEq, List.cons.injEq, and_true] at me
      obtain ⟨rfl, rfl⟩ := me
      rw [e1] at mo1
      rw [e2] at mo2
      obtain ⟨pc, pcap, pe, _, p2', p3'⟩ := mo2
      injection pe with pe1 pe2 pe3
      subst pe1 pe3
      rcases o3' with c0 | ⟨ob, ooff, ous, og, rfl, oma⟩
      · rw [c0] at q3; simp at q3
      rcases p3' with c0 | ⟨pb, poff, pus, pg, rfl, pma⟩
      · rw [c0] at q3; simp at q3
      have orow := oma.row 0 q3
      obtain ⟨ora, orc, ou0⟩ := own_shape orow
      have ocell := oma.cell 0 q3
      rw [ou0] at ocell orow
      obtain ⟨od1, od2, rb0, ro, rfl, olb1, olb2, olb3, ohc, ohf, ohs⟩ := orow.set (k := 0) (by omega)
      have oat := oma.at_ 0 q3 hne
      have prow := pma.row 0 q3
      obtain ⟨pra, prc, pu0⟩ := own_shape prow
      have pcell := pma.cell 0 q3
      rw [pu0] at pcell prow
      obtain ⟨pd1, pd2, rb2, ro2, rfl, plb1, plb2, plb3, phc, _, _⟩ := prow.set (k := 0) (by omega)
      have pat' := pma.at_ 0 q3 hne
      have obb := oma.hb2
      have pbb := pma.hb1
      have f1 : ob ≠ rb0 := by omega
      have f2 : pb ≠ rb0 := by omega
      have f3 : rb2 ≠ rb0 := by omega
      have f4 : w2.heap.size ≠ rb0 := by omega
      have g1' : rb0 ≠ ob := by omega
      obtain ⟨yb0, yb1⟩ := byteB_iff.1 hby
      have hA : Hid (∀ v v', Ints ((w6.setCell ⟨rb0, ro, none⟩ v).setCell ⟨rb0, ro, none⟩ v') (.slice xa 256 xc) zeros) := fun v v' => by
        have k0 : rb0 < l1 := by omega
        have := (mo1.agree (((Agree.refl _ _ w6).setCell (p := ⟨rb0, ro, none⟩) (.inl k0) v).setCell (p := ⟨rb0, ro, none⟩) (.inl k0) v')).ints
        rw [zeros_len] at this
        exact this
      have hbel : Hid (∀ v v', Below w.heap.size w ((w6.setCell ⟨rb0, ro, none⟩ v).setCell ⟨rb0, ro, none⟩ v')) := fun v v' => (hB6.out.setCell (p := ⟨rb0, ro, none⟩) (show w.heap.size ≤ rb0 by omega) v).setCell (p := ⟨rb0, ro, none⟩) (show w.heap.size ≤ rb0 by omega) v'
      have hmk : ∀ W : World, (Instr.makeSlice 30 (.int .i64 256) (.int .i64 256)).run Try.prog W = .ok (.slice (some ⟨W.heap.size, 0, none⟩) 256 256) (W.alloc (.cells (madeCells #[.int .i64 0] 256) 3)) := fun W => run_make_row' (P := Try.prog) 30 3 (.int .i64 0) 8 Try.underlying30 infoInt rfl .i64 .i64 256 (by omega) (by omega) W
      have hz : Hid (zeros.length = 256) := zeros_len
      rw [Nat.add_zero] at ocell ohc ohf pcell phc
      rw [hl0] at ocell od1 pcell pd1
      rw [e2] at x61
      rw [e1, zeros_len] at x60
      have hq3 : 0 < (zss.length : Int) := by omega
      generalize (zss.getD 0 []).getD 0 0 = y at *
      clear mo1 oma pma orow prow hby hl0 hne oat pat' hl hs
      have lX6 : w2.heap.size < w6.heap.size := block_lt_of_cell x62
      have lX6' : w2.heap.size < w6.heap.size + 1 := by omega
      go_upto_region 13 with fail
      obtain ⟨Z, hZ⟩ : ∃ Z, Z = ((w6.setCell ⟨rb0, ro, none⟩ (.int .i64 (255 - y))).setCell ⟨rb0, ro, none⟩ (.int .i64 y)) := ⟨_, rfl⟩
      have hAZ : Hid (Ints Z (.slice xa 256 xc) zeros) := by rw [hZ]; exact hA.out _ _
      have hBZ : Hid (Below w.heap.size w Z) := by rw [hZ]; exact hbel.out _ _
      have SZ : Hid (Z.cell? ⟨w2.heap.size, 0, none⟩ = some (.slice xa 256 xc) ∧ Z.cell? ⟨w2.heap.size, 2, none⟩ = some (.int .i64 0) ∧ Z.cell? ⟨w2.heap.size, 2, none⟩ = some (.int .i64 0)) := by
        have e : ∀ o, Z.cell? ⟨w2.heap.size, o, none⟩ = w6.cell? ⟨w2.heap.size, o, none⟩ := fun o => by
          rw [hZ]
          exact (World.cell?_setCell_other _ _ _ _ (by intro e; injection e with e1; exact f4 e1.symm)).trans (World.cell?_setCell_other _ _ _ _ (by intro e; injection e with e1; exact f4 e1.symm))
        exact ⟨(e 0).trans x60, (e 2).trans x62, (e 2).trans x62⟩
      rw [← hZ]
      clear hZ hA hbel x60 x61 x62
      go_region_held3 (fun w' => w'.cell? ⟨w2.heap.size, 0, none⟩ = some (.slice xa 256 xc) ∧ w'.cell? ⟨w2.heap.size, 2, none⟩ = some (.int .i64 0) ∧ w'.cell? ⟨w2.heap.size, 2, none⟩ = some (.int .i64 0)) (first | with_reducible exact S7.out | with_reducible exact cells3_drew SZ.out | with_reducible exact cells3_drew (cells3_alloc _ SZ.out))
        (first
          | (go_at_call 27; refine (calls_at (sameInts_b (hAZ.out.below (by repeat (first | with_reducible exact Below.refl _ _ | with_reducible refine below_via (by assumption) ?_ (by go_size) | with_reducible refine below_within (by assumption) ?_ (by go_size) (by omega) | with_reducible refine Below.alloc ?_ (by go_size) _ | with_reducible refine Below.setCell ?_ (by go_size) _ | with_reducible refine Below.drew ?_))) (own_made (by repeat (first | with_reducible exact rowIs_new (by first | rfl | simp) | with_reducible refine rowIs_drew ?_))).ints) (beq_self_eq_true zeros)).mono ?_; rintro e w7 ⟨rfl, hb7⟩; (have S7 := Lib.hid (cells3_below hb7 (cells3_drew (cells3_alloc _ SZ.out))))))
      all_goals
        go_wp2_with fail
        go_ret
        refine ⟨rfl, below_from (n := w.heap.size) hBZ.out ?_ hBZ.out.size⟩
        refine Below.trans ?_ (hb7.mono (by simp))
        repeat (first | with_reducible exact Below.refl _ _ | with_reducible refine below_via (by assumption) ?_ (by go_size) | with_reducible refine below_within (by assumption) ?_ (by go_size) (by omega) | with_reducible refine Below.alloc ?_ (by go_size) _ | with_reducible refine Below.setCell ?_ (by go_size) _ | with_reducible refine Below.drew ?_)
    · go_wp2_with fail
      refine (calls_at (impl_MemoryValid (OM.out.mem.below b24.out)) (hV.trans hok)).mono ?_
      rintro e w6 ⟨rfl, hb6⟩
      have tX6 := three_below hb6 tX4
      obtain ⟨x60, x61, x62⟩ := id tX6
      have e1 : R.length = 0 := by rw [HR.out]; simp [nwR, hok]
      have e2 : M.length = 0 := by rw [HMm.out]; simp [nwM, hok]
      go_wp2_with (first | (go_at_call 21; refine (laws_alive _).mono ?_; rintro e w' ⟨rfl, rfl⟩))
      go_ret
      exact ⟨rfl, hB4.out.trans (hb6.mono hB4.out.size)⟩
set_option maxRecDepth 100000 in
theorem lifted_FnNewMemory (os : Os) (started : os.Started) (H : Type) (enc : TypeId × Value → H) :
    ReturnsInHanded {} Try.checked os 6 .any (Rows.fnNewMemorySpec.pre6 enc Try.prog Try.f6 Rows.fnNewMemoryRow.domain false) (Rows.fnNewMemorySpec.post enc Try.prog Try.f6 false true false false) := by
  refine returnsInHanded_of_change (C := Try.checked) own started (by kernel_rfl) Try.func6
    (ChangeSpec.witness6 (enc := enc) (C := Try.checked) false ⟨#[], #[.slice none 0 0], []⟩ 8 (by kernel_rfl) (by kernel_rfl) (by kernel_rfl) (by kernel_rfl)) ?_
  intro W base args ds gs before hval0 hW hcnd _
  have hval : ∀ (j : Nat) t v, Try.f6.params[j]? = some t → args[j]? = some v → Value.okWide Try.prog W .any base t v := hval0
  have hW' := hW
  obtain ⟨p, q, hA0, hV, rfl, hfz, hnd⟩ := hW
  have hA : DataW.TrodAll enc Try.prog W 0 (fun _ => true) true Try.f6.params.toList args.toList ds p := hA0
  rw [Try.params6] at hA hval
  obtain ⟨v0, vs0, d0, ds0, p0, q0, hargs, rfl, rfl, h0, r0⟩ := trodAll_cons hA
  obtain ⟨rfl, rfl, rfl⟩ := trodAll_nil r0
  obtain rfl : args = #[v0] := by cases args; simp_all
  obtain ⟨rfl, rfl⟩ := trodVars_none hV
  have lt0 : ∀ x ∈ p0, x.block < W.heap.size := by obtain ⟨m, hm⟩ := h0; exact DataW.trod_lt m _ _ _ hm
  have y0 := read_bytes (hval 0 22 v0 rfl rfl) h0
  clear hA0 hval0
  refine (walk_FnNewMemory v0 W y0).mono fun e W' ⟨he, bel⟩ => ?_
  subst he
  exact ⟨_, rfl, _, _, _, [], _, [], hW', trodAll_mk1 (shut_bool Try.underlying4 _), (trodAll_cons_mk (Below.trod laidOut (by kernel_rfl) (of_decide_eq_true (by kernel_rfl)) h0 bel lt0) trodAll_mk0), rfl, bel.frame _, fun h => by cases h⟩
theorem closed_FnNewMemory : joinedFacts Try.prog 6 Try.f6 Rows.fnNewMemorySpec Rows.fnNewMemoryRow = true := by
  unfold joinedFacts
  rw [shared.1, shared.2.1, shared.2.2.1, shared.2.2.2]
  kernel_rfl
/-- The given statement of FnNewMemory. -/
theorem FnNewMemory_holds : Rows.FnNewMemorySaid :=
  OpenClaim.holds_of_wide 6 Try.f6 rfl rfl rfl rfl rfl rfl rfl ⟨rfl, rfl, rfl, rfl, rfl⟩ rfl rfl rfl rfl rfl (by kernel_rfl) Try.func6 closed_FnNewMemory
    (of_decide_eq_true (by kernel_rfl)) (by unfold Func.isWrapper; first | (rw [if_pos (by decide +kernel)]; kernel_rfl) | (rw [if_neg (by decide +kernel)]; exact ⟨rfl, rfl⟩))
    (fun os started H enc _ => lifted_FnNewMemory os started H enc)

end Go.Proofs.Ytadippkanlbgjaa
