/- The walk of the reference's NewMemory. No condition. -/
import Derived.Test.YtlnpmanghkeieaaMemFns
import Derived.Deep.RegionLaw
namespace Go.Proofs.Ytlnpmanghkeieaa
open Go.RowKit
set_option linter.unusedVariables false

set_option maxHeartbeats 4000000 in
set_option maxRecDepth 20000 in
theorem spec_NewMemory {v : Value} {rom : List (List Int)} {w : World} (h : Mat w v rom) (z2 : rom.length ≤ 1048576) (z3 : sumLen rom ≤ 1000000000) :
    Calls Try.prog 39 #[v] w (MadeMem (nwR rom) (nwM rom) 0 w) := by
  obtain ⟨a, ca, rfl, ha1, ha2, ha⟩ := mat_cells h
  obtain ⟨n, hn⟩ : ∃ n, n = rom.length := ⟨_, rfl⟩
  have N := Lib.hid hn
  have A := Lib.hid ha
  rw [← hn] at ha1 ⊢
  clear ha hn h
  have hn1 : (n : Int) ≤ 1048576 := by have := N.out; omega
  have hmk : ∀ W : World, (Instr.makeSlice 23 (.int .i64 256) (.int .i64 256)).run Try.prog W = .ok (.slice (some ⟨W.heap.size, 0, none⟩) 256 256) (W.alloc (.cells (madeCells #[.int .i64 0] 256) 3)) := fun W => run_make_row' (P := Try.prog) 23 3 (.int .i64 0) 8 Try.underlying23 infoInt rfl .i64 .i64 256 (by omega) (by omega) W
  go_enter Try.func39, Try.ntmps39
  go_upto_region 1 with fail
  have hT : Six (w.alloc (.cells #[.slice none 0 0, .slice none 0 0, .int .i64 0] 26)) w.heap.size (.slice none 0 0) (.slice none 0 0) (.int .i64 0) := six_lit rfl
  have hXb : Hid (Below w.heap.size w (w.alloc (.cells #[.slice none 0 0, .slice none 0 0, .int .i64 0] 26))) := (Below.refl _ _).alloc (Nat.le_refl _) _
  have hXs : (w.alloc (.cells #[.slice none 0 0, .slice none 0 0, .int .i64 0] 26)).heap.size = w.heap.size + 1 := by simp
  generalize w.alloc (.cells #[.slice none 0 0, .slice none 0 0, .int .i64 0] 26) = X at *
  have hXl : w.heap.size < X.heap.size := by omega
  have HT := Lib.hid hT
  clear hXs hT
  have hbox : Six ((X.alloc (.cells (madeCells #[.int .i64 0] 256) 3)).alloc (.cells #[.slice (some ⟨X.heap.size, 0, none⟩) 256 256, .slice none 0 0, .int .i64 0] 26)) (X.heap.size + 1) (.slice (some ⟨X.heap.size, 0, none⟩) 256 256) (.slice none 0 0) (.int .i64 0) := six_lit (by simp)
  have OW : Hid (Own X.heap.size (X.heap.size + 1) ((X.alloc (.cells (madeCells #[.int .i64 0] 256) 3)).alloc (.cells #[.slice (some ⟨X.heap.size, 0, none⟩) 256 256, .slice none 0 0, .int .i64 0] 26)) (.slice (some ⟨X.heap.size, 0, none⟩) 256 256) zeros) := own_made (rowIs_alloc _ (rowIs_new rfl))
  have BX : Hid (Below X.heap.size X ((X.alloc (.cells (madeCells #[.int .i64 0] 256) 3)).alloc (.cells #[.slice (some ⟨X.heap.size, 0, none⟩) 256 256, .slice none 0 0, .int .i64 0] 26))) := ((Below.refl _ _).alloc (Nat.le_refl _) _).alloc (by simp) _
  go_wp2_with fail
  generalize (X.alloc (.cells (madeCells #[.int .i64 0] 256) 3)).alloc (.cells #[.slice (some ⟨X.heap.size, 0, none⟩) 256 256, .slice none 0 0, .int .i64 0] 26) = wc at *
  have hWX : Hid (∀ {wr : World}, Below X.heap.size X wr → Below w.heap.size w wr) := fun h => hXb.out.trans (h.mono (Nat.le_of_lt hXl))
  have hOc : X.heap.size + 1 < wc.heap.size := block_lt_of_cell hbox.1
  have HB := Lib.hid hbox
  clear hbox
  go_loopw [4] (fun i wr => ∃ k : Nat, k ≤ n ∧ i = .int .i64 k ∧ wc.heap.size ≤ wr.heap.size ∧ Hid (Below X.heap.size X wr) ∧ Hid (Own X.heap.size (X.heap.size + 1) wr (.slice (some ⟨X.heap.size, 0, none⟩) 256 256) zeros) ∧ Hid (∃ v, Six wr (X.heap.size + 1) (.slice (some ⟨X.heap.size, 0, none⟩) 256 256) v (.int .i64 0) ∧ RowsV wc.heap.size wr v (rom.take k))) (fun i _ => n - (intOf i).toNat)
  case atStart => exact ⟨0, Nat.zero_le _, rfl, Nat.le_refl _, BX.out, OW.out, _, HB.out, RowsV.nil _ _⟩
  case round =>
    obtain ⟨k, hk, rfl, hsz, hB, hO, hR⟩ := hrel
    obtain ⟨v, hx, us, g, r⟩ := hR.out
    obtain ⟨va, vc, rfl⟩ := ownV_shape r.own
    have R := Lib.hid r
    have HX := Lib.hid hx
    have hBw := Lib.hid (hWX.out hB.out)
    by_cases hlt : k < n
    · have hkl : k < rom.length := by have := N.out; omega
      obtain ⟨b', off, u, rfl, hb, hc, hi⟩ := A.out k hkl
      have hs := sumLen_row rom k hkl
      have T : Hid (rom.take (k + 1) = rom.take k ++ [rom.getD k []]) := take_succ_getD hkl
      have I : Hid (Ints wr u (rom.getD k [])) := hi.below ⟨hBw.out.os, hBw.out.tape, hBw.out.output, hBw.out.size, hBw.out.block⟩
      have hlen : us.length ≤ 1048576 := by have := r.len; rw [List.length_take] at this; omega
      have g0 : wr.cell? ⟨b', off + k, none⟩ = some u := (hBw.out.cell (p := ⟨b', off + k, none⟩) hb).trans hc
      generalize rom.getD k [] = z at *
      obtain ⟨ua, uc, rfl⟩ := row_value I.out
      obtain ⟨q1, q2, q3, q4, q5, q6⟩ := hx
      have hki : (k : Int) < (n : Int) := by omega
      have hzl : z.length ≤ 1000000000000 := by omega
      have hbO : b' ≠ X.heap.size + 1 := by omega
      have hOr : X.heap.size + 1 < wr.heap.size := by omega
      have hw0 := hBw.out.size
      have hw2 : b' < wr.heap.size := by omega
      have hw3 : b' < wc.heap.size := by omega
      clear hi hc r
      go_wp2_with fail
      go_region_law
        (first
          | (refine step_clone (wr := wr) rfl _ _ rfl _ _ z rfl rfl (by repeat (first | with_reducible exact lit0_here (by simp) | with_reducible refine lit0_drew ?_ | with_reducible refine lit0_base ?_)) I.out hzl ?_; intro v1 w1 O1' hb1; have O1 := Lib.hid O1'; clear O1'; obtain ⟨a9, c9, rfl⟩ := own_shape O1.out; have y1 := six_below hb1 HX.out; have hO1 : X.heap.size + 1 < w1.heap.size := Nat.lt_of_lt_of_le hOr hb1.size; have hw21 : b' < w1.heap.size := Nat.lt_of_lt_of_le hw2 hb1.size; have g01 := cell_be hb1 g0 hw2; obtain ⟨y11, y12, y13, y14, y15, y16⟩ := id y1)
          | (refine step_push rfl _ _ rfl _ wc.heap.size _ _ rfl rfl R.out hsz hb1 O1.out (by repeat (first | with_reducible exact lit1_here (by simp) | with_reducible refine lit1_drew ?_)) hlen ?_; intro v2 w2 P2' hb2; obtain ⟨va2, vn2, vc2, rfl⟩ := rowsV_shape P2'; have P2 : Hid (RowsV wc.heap.size w2 _ (rom.take (k + 1))) := (by rw [Hid, T.out]; exact P2'); clear P2'; have y2 := six_be hb2 HX.out hOc; obtain ⟨y21, y22, y23, y24, y25, y26⟩ := id y2))
      all_goals
        have B2 : Hid (Below X.heap.size X w2) := hB.out.trans (hb2.mono (by omega))
        have O2 : Hid (Own X.heap.size (X.heap.size + 1) w2 (.slice (some ⟨X.heap.size, 0, none⟩) 256 256) zeros) := hO.out.agree (agree_below hb2 (Agree.refl _ _ _) (by omega))
        have hs2 := hb2.size
        go_wp2_with fail
        go_roundw
        case rel => exact ⟨k + 1, by omega, by go_num, by rw [size_set]; omega, B2.out.setCell (p := ⟨X.heap.size + 1, 1, none⟩) (by show X.heap.size ≤ X.heap.size + 1; omega) _, O2.out.agree ((Agree.refl _ _ _).setCell (by show X.heap.size + 1 < X.heap.size ∨ X.heap.size + 1 ≤ X.heap.size + 1; omega) _), _, six_set1 y2, P2.out.agree ((Agree.refl _ _ _).setCell (.inl hOc) _) (by rw [size_set]; exact Nat.le_refl _)⟩
        case measure => simp [intOf]; omega
    · have hki : ¬ (k : Int) < (n : Int) := by omega
      have e : k = n := by omega
      have E : Hid (rom.take k = rom) := by show rom.take k = rom; rw [e, N.out, List.take_length]
      obtain ⟨q1, q2, q3, q4, q5, q6⟩ := hx
      have hT2 := six_below hB.out HT.out
      have F := Lib.hid (rowsV_all ⟨us, g, R.out⟩ E.out)
      have hM : Hid (MemV wr (.agg #[.slice (some ⟨X.heap.size, 0, none⟩) 256 256, .slice va us.length vc, .int .i64 0]) zeros rom 0) := ⟨_, _, rfl, hO.out.ints, F.out.mat⟩
      have hOr : X.heap.size + 1 < wr.heap.size := by omega
      clear e r
      cases hv : memB zeros rom 0
      · have e1 : nwR rom = [] := by simp [nwR, nwOk, hv]
        have e2 : nwM rom = [] := by simp [nwM, nwOk, hv]
        go_wp2_with fail
        refine (calls_eqv (spec_MemoryValid hM.out) hv).mono ?_
        rintro e w3 ⟨rfl, hb3⟩
        obtain ⟨r1, r2, r3, r4, r5, r6⟩ := six_below hb3 hT2
        have hs3 := hb3.size
        go_wp2_with fail
        (try simp only [Exit.inBlock, Exit.then])
        refine bodyPost_ret (v := .agg #[.slice none 0 0, .slice none 0 0, .int .i64 0]) (by simp [results, Try.results39, go_sem, r1, r2, r3]) rfl ⟨_, rfl, (by rw [e1, e2]; exact ownMem_zero (by simp only [size_set]; omega)), ?_⟩
        repeat (with_reducible refine Below.setCell ?_ (by show w.heap.size ≤ w.heap.size; omega) _)
        exact hBw.out.trans (hb3.mono (by omega))
      · have e1 : nwR rom = zeros := by simp [nwR, nwOk, hv]
        have e2 : nwM rom = rom := by simp [nwM, nwOk, hv]
        go_wp2_with fail
        refine (calls_eqv (spec_MemoryValid hM.out) hv).mono ?_
        rintro e w3 ⟨rfl, hb3⟩
        obtain ⟨r1, r2, r3, r4, r5, r6⟩ := six_below hb3 hT2
        obtain ⟨y1, y2, y3, y4, y5, y6⟩ := six_below hb3 HX.out
        have hs3 := hb3.size
        go_wp2_with fail
        (try simp only [Exit.inBlock, Exit.then])
        refine bodyPost_ret (v := .agg #[.slice (some ⟨X.heap.size, 0, none⟩) 256 256, .slice va us.length vc, .int .i64 0]) (by simp [results, Try.results39, go_sem, r1, r2, r3]) rfl ⟨_, rfl, (by rw [e1, e2]; exact ⟨_, _, X.heap.size, X.heap.size + 1, wc.heap.size, wr.heap.size, rfl, ⟨by omega, by simp only [size_set]; omega, by omega, by simp only [size_set]; omega, .inl (by omega)⟩, hO.out.agree (by (repeat (first | assumption | with_reducible exact Agree.refl _ _ _ | with_reducible refine agree_below (by assumption) ?_ (by first | omega | go_size) | with_reducible refine agree_within (by assumption) ?_ (by first | omega | go_size) (by omega) | with_reducible refine Agree.alloc ?_ (by first | omega | go_size) _ | with_reducible refine Agree.setCell ?_ (by first | omega | (dsimp only; omega)) _ | with_reducible refine Agree.drew ?_))), F.out.agree (by (repeat (first | assumption | with_reducible exact Agree.refl _ _ _ | with_reducible refine agree_below (by assumption) ?_ (by first | omega | go_size) | with_reducible refine agree_within (by assumption) ?_ (by first | omega | go_size) (by omega) | with_reducible refine Agree.alloc ?_ (by first | omega | go_size) _ | with_reducible refine Agree.setCell ?_ (by first | omega | (dsimp only; omega)) _ | with_reducible refine Agree.drew ?_)))⟩), ?_⟩
        repeat (with_reducible refine Below.setCell ?_ (by show w.heap.size ≤ w.heap.size; omega) _)
        exact hBw.out.trans (hb3.mono (by omega))
end Go.Proofs.Ytlnpmanghkeieaa
