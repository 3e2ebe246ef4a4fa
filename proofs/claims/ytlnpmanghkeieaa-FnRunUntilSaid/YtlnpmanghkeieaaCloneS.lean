/- The walk of the reference's function that copies a memory: the copy is of the call's own. No condition. -/
import Derived.Test.YtlnpmanghkeieaaClone
import Derived.Deep.RegionLaw
namespace Go.Proofs.Ytlnpmanghkeieaa
open Go.RowKit
set_option linter.unusedVariables false

theorem below_drewX {B : Nat} {w X : World} (h : Below B w X) : Below B w X.drew := h.drew
/-- What stands behind the first part of l2Copy. -/
structure Begun (X wx : World) (O : Nat) (a1 : Option Addr) (c1 : Nat) (ram : List Int) (bank : Int) (l1 t1 : Nat) : Prop where
  box : Six wx O (.slice a1 ram.length c1) (.slice none 0 0) (.int .i64 bank)
  own : Own l1 t1 wx (.slice a1 ram.length c1) ram
  l : X.heap.size ≤ l1
  t : t1 ≤ wx.heap.size
  lt : X.heap.size ≤ O
  sep : O < l1 ∨ t1 ≤ O
  be : Below X.heap.size X wx
set_option maxHeartbeats 4000000 in
set_option maxRecDepth 20000 in
theorem spec_l2Copy {v : Value} {ram : List Int} {rom : List (List Int)} {bank : Int} {w : World} (h : MemV w v ram rom bank) (z1 : ram.length ≤ 1000000000) (z2 : rom.length ≤ 1048576) (z3 : sumLen rom ≤ 1000000000) :
    Calls Try.prog 34 #[v] w (MadeMem ram rom bank w) := by
  have H := Lib.hid h
  obtain ⟨a, c, b, d, rfl, k1, k2, k3, k4⟩ := memV_shape h
  clear h
  obtain ⟨x1, x2, e0, hi1, hm1⟩ := H.out
  simp only [Value.agg.injEq, Array.mk.injEq, List.cons.injEq, and_true] at e0
  obtain ⟨rfl, rfl⟩ := e0
  have HI := Lib.hid hi1
  have HM := Lib.hid hm1
  clear hi1 hm1 H
  go_enter Try.func34, Try.ntmps34
  go_upto_region 1 with fail
  have hS : Three ((w.alloc (.cells #[.slice a ram.length c, .slice b rom.length d, .int .i64 bank] 26)).alloc (.cells #[.slice none 0 0, .slice none 0 0, .int .i64 0] 26)) w.heap.size (.slice a ram.length c) (.slice b rom.length d) (.int .i64 bank) := by
    refine ⟨?_, ?_, ?_⟩ <;> simp [go_sem]
  have hT : Six ((w.alloc (.cells #[.slice a ram.length c, .slice b rom.length d, .int .i64 bank] 26)).alloc (.cells #[.slice none 0 0, .slice none 0 0, .int .i64 0] 26)) (w.heap.size + 1) (.slice none 0 0) (.slice none 0 0) (.int .i64 0) := by
    refine ⟨?_, ?_, ?_, ?_, ?_, ?_⟩ <;> simp [go_sem]
  have hXs : ((w.alloc (.cells #[.slice a ram.length c, .slice b rom.length d, .int .i64 bank] 26)).alloc (.cells #[.slice none 0 0, .slice none 0 0, .int .i64 0] 26)).heap.size = w.heap.size + 2 := by simp
  have hXb : Hid (Below w.heap.size w ((w.alloc (.cells #[.slice a ram.length c, .slice b rom.length d, .int .i64 bank] 26)).alloc (.cells #[.slice none 0 0, .slice none 0 0, .int .i64 0] 26))) := ((Below.refl _ _).alloc (Nat.le_refl _) _).alloc (by simp) _
  generalize ((w.alloc (.cells #[.slice a ram.length c, .slice b rom.length d, .int .i64 bank] 26)).alloc (.cells #[.slice none 0 0, .slice none 0 0, .int .i64 0] 26)) = X at *
  obtain ⟨s1, s2, s3⟩ := id hS
  have hXn : w.heap.size ≤ X.heap.size := by omega
  have hXl : w.heap.size < X.heap.size := by omega
  have hXl2 : w.heap.size + 1 < X.heap.size := by omega
  have HXs := Lib.hid hXs
  clear hXs
  go_cut [3] (fun s3 wx => ∃ O a1 c1 l1 t1, s3 = .pointer (some ⟨O, 0, none⟩) ∧ Begun X wx O a1 c1 ram bank l1 t1)
  case first =>
    go_region_held3 (fun W => W.cell? ⟨w.heap.size, 0, none⟩ = some (.slice a ram.length c) ∧ W.cell? ⟨w.heap.size, 2, none⟩ = some (.int .i64 bank))
      (repeat (first | with_reducible assumption | with_reducible exact ⟨s1, s3⟩ | with_reducible refine pair_drew ?_ | with_reducible refine pair_alloc _ ?_ | exact ⟨cell_be hb1 s1 hXl, cell_be hb1 s3 hXl⟩ | (refine ⟨?_, ?_⟩ <;> (repeat (with_reducible refine cell_sc ?_ (by omega))) <;> first | exact cell_be hb1 s1 hXl | exact cell_be hb1 s3 hXl)))
      (first
        | (refine step_cloneI rfl _ _ rfl X.heap.size (.slice (some ⟨_, 0, none⟩) 0 0) _ ram rfl rfl ?_ (HI.out.below ?_) (by omega) ?_ ?_; exact (by repeat (first | with_reducible exact ownV_lit0 (by simp) (by simp) | with_reducible refine OwnV.alloc ?_ _ | with_reducible refine OwnV.drew ?_)); exact hXb.out.trans ((show Below X.heap.size X _ from by repeat (first | with_reducible exact Below.refl _ _ | with_reducible refine below_via (by assumption) ?_ (by go_size) | with_reducible refine below_within (by assumption) ?_ (by go_size) (by omega) | with_reducible refine Below.alloc ?_ (by go_size) _ | with_reducible refine Below.setCell ?_ (by go_size) _ | with_reducible refine Below.drew ?_)).mono hXn); exact (by first | (simp; done) | (simp; omega)); intro v1 w1 ow1 hg1 ha1; obtain ⟨hcg, hfg⟩ := grown_cells hg1; obtain ⟨kk, hk1, hkl, hkp⟩ := ownV_point ow1 ha1; (try simp only [World.size_alloc, World.size_drew] at hk1); have hb1 : Below X.heap.size X w1 := below_own0 (show Below X.heap.size X _ from by repeat (first | with_reducible exact Below.refl _ _ | with_reducible refine below_via (by assumption) ?_ (by go_size) | with_reducible refine below_within (by assumption) ?_ (by go_size) (by omega) | with_reducible refine Below.alloc ?_ (by go_size) _ | with_reducible refine Below.setCell ?_ (by go_size) _ | with_reducible refine Below.drew ?_)) hg1 (by first | (simp; done) | (simp; omega)) (by first | (simp; done) | omega); have O1 := Lib.hid hkp; clear ow1 ha1 hkp; obtain ⟨a1, c1, rfl⟩ := own_shape O1.out))
    all_goals
      have hs1 : X.heap.size ≤ w1.heap.size := hb1.size
      go_wp2_with fail
      go_meet
      refine ⟨_, a1, c1, kk, kk + 1, rfl, ?_, ?_, by omega, ?_, by omega, by omega, ?_⟩
      · first | exact six_lit rfl | exact six_set3 (six_grown (x := .slice none 0 0) (y := .slice none 0 0) (z := .int .i64 0) hg1 (by repeat (first | with_reducible exact six_lit (by simp) | with_reducible refine six_alloc _ ?_ | with_reducible refine six_drew ?_)) (by simp [Value.ownBlock]))
      · exact O1.out.agree (by (repeat (first | assumption | with_reducible exact Agree.refl _ _ _ | with_reducible refine agree_below (by assumption) ?_ (by first | omega | go_size) | with_reducible refine agree_within (by assumption) ?_ (by first | omega | go_size) (by omega) | with_reducible refine Agree.alloc ?_ (by first | omega | go_size) _ | with_reducible refine Agree.setCell ?_ (by first | omega | (dsimp only; omega)) _ | with_reducible refine Agree.drew ?_)))
      · first | (simp; omega) | (simp only [size_set]; omega)
      · repeat (first | with_reducible exact Below.refl _ _ | with_reducible refine below_via (by assumption) ?_ (by go_size) | with_reducible refine below_within (by assumption) ?_ (by go_size) (by omega) | with_reducible refine Below.alloc ?_ (by go_size) _ | with_reducible refine Below.setCell ?_ (by go_size) _ | with_reducible refine Below.drew ?_)
  case rest =>
    obtain ⟨O, a1, c1, l1, t1, rfl, hG⟩ := hcut
    obtain ⟨hbox, how, hl, ht, hXO, hsep, hbe⟩ := hG
    obtain ⟨a', cb, e0, hb1, hb2, hbc⟩ := mat_cells HM.out
    injection e0 with e1 e2 e3
    subst e1 e3
    clear e2
    obtain ⟨n, hn⟩ : ∃ n, n = rom.length := ⟨_, rfl⟩
    have N := Lib.hid hn
    have A := Lib.hid hbc
    have BX := Lib.hid hbe
    have OW := Lib.hid how
    rw [← hn] at hb1 k3 s2
    have S2 := Lib.hid s2
    have HT := Lib.hid hT
    clear hbc hbe how hS hT s1 s2 s3
    have hn1 : (n : Int) ≤ 1048576 := by have := N.out; omega
    have hOw : w.heap.size ≠ O := by omega
    have hWX : Hid (∀ {wr : World}, Below X.heap.size X wr → Below w.heap.size w wr) := fun h => hXb.out.trans (h.mono hXn)
    have hwc : w.heap.size < wc.heap.size := Nat.lt_of_lt_of_le hXl BX.out.size
    have hOc : O < wc.heap.size := block_lt_of_cell hbox.1
    go_wp2_with fail
    go_loopw [4] (fun i wr => ∃ k : Nat, k ≤ n ∧ i = .int .i64 k ∧ wc.heap.size ≤ wr.heap.size ∧ Hid (Below X.heap.size X wr) ∧ Hid (Own l1 t1 wr (.slice a1 ram.length c1) ram) ∧ Hid (∃ v, Six wr O (.slice a1 ram.length c1) v (.int .i64 bank) ∧ RowsV wc.heap.size wr v (rom.take k))) (fun i _ => n - (intOf i).toNat)
    case atStart => exact ⟨0, Nat.zero_le _, rfl, Nat.le_refl _, BX.out, OW.out, _, hbox, RowsV.nil _ _⟩
    case round =>
      obtain ⟨k, hk, rfl, hsz, hB, hO, hR⟩ := hrel
      obtain ⟨v, hx, us, g, r⟩ := hR.out
      obtain ⟨va, vc, rfl⟩ := ownV_shape r.own
      have R := Lib.hid r
      have HX := Lib.hid hx
      have hBw := Lib.hid (hWX.out hB.out)
      have p1 : wr.cell? ⟨w.heap.size, 1, none⟩ = some (.slice b n d) := (hB.out.cell (p := ⟨w.heap.size, 1, none⟩) hXl).trans S2.out
      by_cases hlt : k < n
      · have hkl : k < rom.length := by have := N.out; omega
        obtain ⟨b', off, u, rfl, hb, hc, hi⟩ := A.out k hkl
        have hs := sumLen_row rom k hkl
        have T : Hid (rom.take (k + 1) = rom.take k ++ [rom.getD k []]) := take_succ_getD hkl
        have I : Hid (Ints wr u (rom.getD k [])) := hi.below ⟨hBw.out.os, hBw.out.tape, hBw.out.output, hBw.out.size, hBw.out.block⟩
        have hlen : us.length ≤ 1048576 := by have := r.len; rw [List.length_take] at this; omega
        have g0 : wr.cell? ⟨b', off + k, none⟩ = some u := (hBw.out.cell (p := ⟨b', off + k, none⟩) hb).trans hc
        generalize rom.getD k [] = z at *
        obtain ⟨ua, uc, rfl⟩ := row_value I.out
        obtain ⟨q1, q2, q3, q4, q5, q6⟩ := hx
        have hki : (k : Int) < (n : Int) := by omega
        have hzl : z.length ≤ 1000000000000 := by omega
        have hbO : b' ≠ O := by omega
        have hOr : O < wr.heap.size := by omega
        have hw0 := hBw.out.size
        have hw1 : w.heap.size < wr.heap.size := by omega
        have hw2 : b' < wr.heap.size := by omega
        have hw3 : b' < wc.heap.size := by omega
        clear hi hc r
        go_wp2_with fail
        go_region_law
          (first
            | (refine step_clone (wr := wr) rfl _ _ rfl _ _ z rfl rfl (by repeat (first | with_reducible exact lit0_here (by simp) | with_reducible refine lit0_drew ?_ | with_reducible refine lit0_base ?_)) I.out hzl ?_; intro v1 w1 O1' hb1; have O1 := Lib.hid O1'; clear O1'; obtain ⟨a9, c9, rfl⟩ := own_shape O1.out; have y1 := six_below hb1 HX.out; have hO1 : O < w1.heap.size := Nat.lt_of_lt_of_le hOr hb1.size; have hw11 : w.heap.size < w1.heap.size := Nat.lt_of_lt_of_le hw1 hb1.size; have hw21 : b' < w1.heap.size := Nat.lt_of_lt_of_le hw2 hb1.size; have p11 := cell_be hb1 p1 hw1; have g01 := cell_be hb1 g0 hw2; obtain ⟨y11, y12, y13, y14, y15, y16⟩ := id y1)
            | (refine step_push rfl _ _ rfl _ wc.heap.size _ _ rfl rfl R.out hsz hb1 O1.out (by repeat (first | with_reducible exact lit1_here (by simp) | with_reducible refine lit1_drew ?_)) hlen ?_; intro v2 w2 P2' hb2; obtain ⟨va2, vn2, vc2, rfl⟩ := rowsV_shape P2'; have P2 : Hid (RowsV wc.heap.size w2 _ (rom.take (k + 1))) := (by rw [Hid, T.out]; exact P2'); clear P2'; have y2 := six_be hb2 HX.out hOc; obtain ⟨y21, y22, y23, y24, y25, y26⟩ := id y2))
        all_goals
          have B2 : Hid (Below X.heap.size X w2) := hB.out.trans (hb2.mono BX.out.size)
          have O2 : Hid (Own l1 t1 w2 (.slice a1 ram.length c1) ram) := hO.out.agree (agree_below hb2 (Agree.refl _ _ _) ht)
          have hs2 := hb2.size
          go_wp2_with fail
          go_roundw
          case rel => exact ⟨k + 1, by omega, by go_num, by rw [size_set]; omega, B2.out.setCell (p := ⟨O, 1, none⟩) hXO _, O2.out.agree ((Agree.refl _ _ _).setCell (by show O < l1 ∨ t1 ≤ O; exact hsep) _), _, six_set1 y2, P2.out.agree ((Agree.refl _ _ _).setCell (.inl hOc) _) (by rw [size_set]; exact Nat.le_refl _)⟩
          case measure => simp [intOf]; omega
      · have hki : ¬ (k : Int) < (n : Int) := by omega
        have e : k = n := by omega
        have E : Hid (rom.take k = rom) := by show rom.take k = rom; rw [e, N.out, List.take_length]
        obtain ⟨q1, q2, q3, q4, q5, q6⟩ := hx
        obtain ⟨r1, r2, r3, r4, r5, r6⟩ := six_below hB.out HT.out
        have F := Lib.hid (rowsV_all ⟨us, g, R.out⟩ E.out)
        have hwc2 : w.heap.size + 1 < l1 := by omega
        go_wp2_with fail
        (try simp only [Exit.inBlock, Exit.then])
        refine bodyPost_ret (v := .agg #[.slice a1 ram.length c1, .slice va us.length vc, .int .i64 bank]) (by simp [results, Try.results34, go_sem, r1, r2, r3]) rfl ⟨_, rfl, ⟨_, _, l1, t1, wc.heap.size, wr.heap.size, rfl, ⟨by omega, by simp only [size_set]; omega, by omega, by simp only [size_set]; exact Nat.le_refl _, .inl ht⟩, ?_, ?_⟩, ?_⟩
        · exact hO.out.agree (by (repeat (first | assumption | with_reducible exact Agree.refl _ _ _ | with_reducible refine agree_below (by assumption) ?_ (by first | omega | go_size) | with_reducible refine agree_within (by assumption) ?_ (by first | omega | go_size) (by omega) | with_reducible refine Agree.alloc ?_ (by first | omega | go_size) _ | with_reducible refine Agree.setCell ?_ (by first | omega | (dsimp only; omega)) _ | with_reducible refine Agree.drew ?_)))
        · exact F.out.agree (by (repeat (first | assumption | with_reducible exact Agree.refl _ _ _ | with_reducible refine agree_below (by assumption) ?_ (by first | omega | go_size) | with_reducible refine agree_within (by assumption) ?_ (by first | omega | go_size) (by omega) | with_reducible refine Agree.alloc ?_ (by first | omega | go_size) _ | with_reducible refine Agree.setCell ?_ (by first | omega | (dsimp only; omega)) _ | with_reducible refine Agree.drew ?_)))
        · repeat (with_reducible refine Below.setCell ?_ (by show w.heap.size ≤ w.heap.size + 1; omega) _)
          exact hBw.out
end Go.Proofs.Ytlnpmanghkeieaa
