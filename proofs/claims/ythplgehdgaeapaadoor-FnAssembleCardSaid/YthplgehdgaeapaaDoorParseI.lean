/- The walk of the program's ParseOrder. Condition: a text of at most 2^20 bytes. -/
import Derived.Test.YthplgehdgaeapaaDoorNames
import Derived.Test.YthplgehdgaeapaaDoorFmt
namespace Go.Proofs.YthplgehdgaeapaaDoor
open Go.RowKit Go.Maps Go.WideMaps
set_option linter.unusedVariables false
set_option linter.unusedSimpArgs false

def MadeParse (s : ByteArray) (w : World) (e : Ending) (w' : World) : Prop := ∃ op arg ok, IsParse s op arg ok ∧ e = .returned (.tuple #[.agg #[.int .i64 op, .int .i64 arg], .bool ok]) ∧ Below w.heap.size w w'
set_option maxHeartbeats 4000000 in
set_option maxRecDepth 100000 in
theorem impl_ParseOrder (s : ByteArray) (hs : s.size ≤ 1048576) {w : World} (hL : LaidW w) : Calls Tryd.prog 28 #[.string s] w (MadeParse s w) := by
  have hmm := @run_makeMap Tryd.prog
  obtain ⟨na, hna⟩ : ∃ na, na = (Lib.cut s.data.toList [32]).1 := ⟨_, rfl⟩
  obtain ⟨ar, har⟩ : ∃ ar, ar = (Lib.cut s.data.toList [32]).2.1 := ⟨_, rfl⟩
  obtain ⟨fo, hfo⟩ : ∃ fo, fo = (Lib.cut s.data.toList [32]).2.2 := ⟨_, rfl⟩
  have hcut : Hid (Lib.cut s.data.toList [32] = (na, ar, fo)) := by rw [hna, har, hfo]; rfl
  have CUT := strings_Cut1 s hs
  unfold CutR at CUT
  rw [← hna, ← har, ← hfo] at CUT
  clear hna har hfo
  go_enter Tryd.func28, Tryd.ntmps28
  go_wp2_with (first
    | (go_at_call 49; refine (CUT _).mono ?_; rintro e w1 ⟨rfl, n, rfl⟩)
    | (go_at_call 45; refine (impl_orderTable _).mono ?_; rintro e w2 ⟨rfl, rfl⟩))
  obtain ⟨X, hX⟩ : ∃ X, X = (w.alloc (.cells #[.int .i64 0, .int .i64 0] 35)).drewN n := ⟨_, rfl⟩
  have xs : X.heap.size = w.heap.size + 1 := by rw [hX]; simp
  have xb : Below w.heap.size w X := by rw [hX]; exact ((Below.refl _ _).alloc (Nat.le_refl _) _).trans ⟨rfl, rfl, rfl, Nat.le_refl _, fun _ _ => rfl⟩
  have x0 : X.cell? ⟨w.heap.size, 0, none⟩ = some (.int .i64 0) := by rw [hX]; simp
  have x1 : X.cell? ⟨w.heap.size, 1, none⟩ = some (.int .i64 0) := by rw [hX]; simp
  have xf : ∀ i, X.frozen? ⟨w.heap.size, i, none⟩ = false := fun i => by rw [hX]; simp [go_sem]
  have xm := World.ownsMap_made X Tryd.prog 9 (plainElem (H := Unit) Tryd.prog 3)
  rw [xs] at xm
  have hm2 : X.heap.size < (X.alloc (.map #[] 0)).heap.size := by simp
  rw [← hX]
  clear hX hmm CUT
  go_loopw [23] (fun i wr => ∃ k : Nat, k ≤ 16 ∧ i = .int .i64 k ∧ wr.ownsMap Tryd.prog 9 (plainElem Tryd.prog 3) (w.heap.size + 1) k (opD k) ∧ Below X.heap.size X wr)
    (fun i _ => 16 - (intOf i).toNat)
  case atStart => exact ⟨0, Nat.zero_le _, rfl, xm.alloc _, ((Below.refl _ _).alloc (Nat.le_refl _) _).alloc (by simp) _⟩
  case round =>
    obtain ⟨k, hk, rfl, hown, hnx⟩ := hrel
    rcases Nat.lt_or_ge k 16 with hlt | hge
    · have hop : inR (k : Int) 0 15 = true := inR_iff.2 (by omega)
      have ix := tbl_at hop
      have hkey := name_key hop
      go_wp2_with (at_mapUpdate; refine wpList_mapUpdate_own _ rfl _ _ _ 67 rfl 9 3 keyLaw Tryd.underlying67 _ (w.heap.size + 1) k _ rfl (hown.alloc _) (by unfold maxLen; omega) _ _ _ rfl rfl hkey _ [] (plainElem_int Tryd.underlying3 (WalkArith.wf_i64 (by omega))) ?_)
      intro w1 hown1 hgrow1
      have R1 := (opD_succ k).symm ▸ hown1
      have R2 := (hnx.alloc hnx.size (.cells #[.string (nameS k), .int .i64 (olen k)] 60)).grown hgrow1 (hnx.alloc hnx.size _).size (fun j hj => by cases hj; omega)
      clear hown1 hgrow1 hown ix
      go_wp2
      go_roundw
      case rel => exact ⟨k + 1, by omega, by go_num, R1, R2⟩
      case measure => simp [intOf]; omega
    · have : k = 16 := by omega
      subst this
      have hw : w.heap.size < X.heap.size := by omega
      have r0 := (hnx.cell (p := ⟨w.heap.size, 0, none⟩) hw).trans x0
      have r1 := (hnx.cell (p := ⟨w.heap.size, 1, none⟩) hw).trans x1
      have rf : ∀ i, wr.frozen? ⟨w.heap.size, i, none⟩ = false := fun i => (hnx.frozen (p := ⟨w.heap.size, i, none⟩) hw).trans (xf i)
      have hbw : Below w.heap.size w wr := xb.trans (hnx.mono (by omega))
      have hwr : w.heap.size < wr.heap.size := Nat.lt_of_lt_of_le hw hnx.size
      have LW := Lib.hid (hL.below hbw)
      have hle := cut_le hcut.out
      have HK := na_key (na := na) (by omega)
      clear hnx xb x0 x1 xf xm hm2 xs hk hge hL hw
      by_cases hN : ∀ op, inR op 0 15 = true → na ≠ nm op
      · have hhas := opD_no 16 (l := na) (fun i hi => hN i (inR_iff.2 (by omega)))
        have PN := Lib.hid (pn_name hcut.out hN)
        clear hN
        go_wp2_with (at_lookup; refine wpList_lookup_own_ok_int _ rfl _ _ 67 rfl 9 3 .i64 keyLaw Tryd.underlying67 Tryd.underlying3 (zeroInt _) (w.heap.size + 1) 16 _ rfl hown _ _ rfl HK ?_; intro c hat hwc; rw [hhas])
        refine bodyPost_ret (v := .tuple #[.agg #[.int .i64 0, .int .i64 0], .bool false]) (by simp [results, Tryd.results28, go_sem, r0, r1]) rfl ⟨0, 0, false, parse_no PN.out, rfl, ?_⟩
        repeat (first | with_reducible exact hbw | refine Below.setCell ?_ (by show w.heap.size ≤ w.heap.size; omega) _)
      · obtain ⟨op, hop, hnm⟩ : ∃ op, inR op 0 15 = true ∧ na = nm op := by
          apply Classical.byContradiction
          intro hx
          exact hN (fun op h1 h2 => hx ⟨op, h1, h2⟩)
        subst hnm
        have hhas := opD_yes hop
        have hget := opD_get hop
        clear hN
        by_cases ha : ar = []
        · subst ha
          have hn : NumIs [] 0 := .inl ⟨rfl, rfl⟩
          have j0 := True.intro
          have j1 := True.intro
          have hX := (Below.refl wr.heap.size wr).alloc (Nat.le_refl _) (.cells #[.int .i64 op, .int .i64 0] 35)
          have CF := impl_FormatOrder op 0 (TabW.below LW.out.1 hX)
          by_cases he : fmtS op 0 = s
          · have PY := Lib.hid (parse_yes (py_valid hcut.out hop he) he)
            rw [he] at CF
            go_wp2_with (first
              | (at_lookup; refine wpList_lookup_own_ok_int _ rfl _ _ 67 rfl 9 3 .i64 keyLaw Tryd.underlying67 Tryd.underlying3 (zeroInt _) (w.heap.size + 1) 16 _ rfl hown _ _ rfl HK ?_; intro c hat hwc; rw [hhas]; (obtain rfl : op = c := by simpa [hget] using hat))
              | (go_at_call 22; refine CF.mono ?_; rintro e w3 ⟨rfl, hb3⟩; (have q0 := (hb3.cell (p := ⟨w.heap.size, 0, none⟩) (by go_size)).trans ((hX.cell (p := ⟨w.heap.size, 0, none⟩) hwr).trans r0)); (have q1 := (hb3.cell (p := ⟨w.heap.size, 1, none⟩) (by go_size)).trans ((hX.cell (p := ⟨w.heap.size, 1, none⟩) hwr).trans r1)); (have k0 := (hb3.cell (p := ⟨wr.heap.size, 0, none⟩) (by go_size)).trans (show _ = some (Value.int .i64 op) by simp [j0])); (have k1 := (hb3.cell (p := ⟨wr.heap.size, 1, none⟩) (by go_size)).trans (show _ = some (Value.int .i64 0) by simp [j1])); (have qf : ∀ i, w3.frozen? ⟨w.heap.size, i, none⟩ = false := fun i => (hb3.frozen (p := ⟨w.heap.size, i, none⟩) (by go_size)).trans ((hX.frozen (p := ⟨w.heap.size, i, none⟩) hwr).trans (rf i))); (have hW3 : Below w.heap.size w w3 := hbw.trans ((hX.trans (hb3.mono hX.size)).mono (Nat.le_of_lt hwr)))))
            refine bodyPost_ret (v := .tuple #[.agg #[.int .i64 op, .int .i64 0], .bool true]) (by simp [results, Tryd.results28, go_sem, q0, q1, k0, k1]) rfl ⟨op, 0, true, PY.out, rfl, ?_⟩
            repeat (first | with_reducible exact hW3 | refine Below.setCell ?_ (by show w.heap.size ≤ w.heap.size; omega) _)
          · have PN := Lib.hid (parse_no (pn_other hcut.out hop hn he))
            have hne := str_ne he
            clear he
            go_wp2_with (first
              | (at_lookup; refine wpList_lookup_own_ok_int _ rfl _ _ 67 rfl 9 3 .i64 keyLaw Tryd.underlying67 Tryd.underlying3 (zeroInt _) (w.heap.size + 1) 16 _ rfl hown _ _ rfl HK ?_; intro c hat hwc; rw [hhas]; (obtain rfl : op = c := by simpa [hget] using hat))
              | (go_at_call 22; refine CF.mono ?_; rintro e w3 ⟨rfl, hb3⟩; (have q0 := (hb3.cell (p := ⟨w.heap.size, 0, none⟩) (by go_size)).trans ((hX.cell (p := ⟨w.heap.size, 0, none⟩) hwr).trans r0)); (have q1 := (hb3.cell (p := ⟨w.heap.size, 1, none⟩) (by go_size)).trans ((hX.cell (p := ⟨w.heap.size, 1, none⟩) hwr).trans r1)); (have k0 := (hb3.cell (p := ⟨wr.heap.size, 0, none⟩) (by go_size)).trans (show _ = some (Value.int .i64 op) by simp [j0])); (have k1 := (hb3.cell (p := ⟨wr.heap.size, 1, none⟩) (by go_size)).trans (show _ = some (Value.int .i64 0) by simp [j1])); (have qf : ∀ i, w3.frozen? ⟨w.heap.size, i, none⟩ = false := fun i => (hb3.frozen (p := ⟨w.heap.size, i, none⟩) (by go_size)).trans ((hX.frozen (p := ⟨w.heap.size, i, none⟩) hwr).trans (rf i))); (have hW3 : Below w.heap.size w w3 := hbw.trans ((hX.trans (hb3.mono hX.size)).mono (Nat.le_of_lt hwr)))))
            refine bodyPost_ret (v := .tuple #[.agg #[.int .i64 0, .int .i64 0], .bool false]) (by simp [results, Tryd.results28, go_sem, q0, q1, k0, k1]) rfl ⟨0, 0, false, PN.out, rfl, ?_⟩
            repeat (first | with_reducible exact hW3 | refine Below.setCell ?_ (by show w.heap.size ≤ w.heap.size; omega) _)
        · have hq : ar.isEmpty = false := by cases ar; exact absurd rfl ha; rfl
          have hX := (Below.refl wr.heap.size wr).alloc (Nat.le_refl _) (.cells #[.int .i64 op, .int .i64 0] 35)
          by_cases hA : ∃ n, Lib.atoiAll ar = .ok n
          · obtain ⟨n, hA⟩ := hA
            have hn : NumIs ar n := .inr ⟨ha, hA⟩
            have CA := atoi_ok (by omega) hA (wr.alloc (.cells #[.int .i64 op, .int .i64 0] 35))
            clear ha hA
            by_cases he : fmtS op n = s
            · have PY := Lib.hid (parse_yes (py_valid hcut.out hop he) he)
              have hne : ((fmtS op n).toList == s.toList) = true := by rw [he]; exact beq_self_eq_true _
              clear he
              go_wp2_with (first
                | (at_lookup; refine wpList_lookup_own_ok_int _ rfl _ _ 67 rfl 9 3 .i64 keyLaw Tryd.underlying67 Tryd.underlying3 (zeroInt _) (w.heap.size + 1) 16 _ rfl hown _ _ rfl HK ?_; intro c hat hwc; rw [hhas]; (obtain rfl : op = c := by simpa [hget] using hat))
                | (go_at_call 50; refine CA.mono ?_; rintro e w2 ⟨rfl, hb2⟩; (have j0 := (hb2.cell (p := ⟨wr.heap.size, 0, none⟩) (by go_size)).trans (show _ = some (Value.int .i64 op) by simp)); (have j1 := (hb2.cell (p := ⟨wr.heap.size, 1, none⟩) (by go_size)).trans (show _ = some (Value.int .i64 0) by simp)); (have jf : ∀ i, w2.frozen? ⟨wr.heap.size, i, none⟩ = false := fun i => (hb2.frozen (p := ⟨wr.heap.size, i, none⟩) (by go_size)).trans (by simp [go_sem])); (have hX2 : Below wr.heap.size wr w2 := hX.trans (hb2.mono hX.size)); (have hs2 : wr.heap.size < w2.heap.size := Nat.lt_of_lt_of_le (by go_size) hb2.size)))
              have hX3 : Below wr.heap.size wr (w2.setCell ⟨wr.heap.size, 1, none⟩ (.int .i64 n)) := hX2.setCell (Nat.le_refl _) _
              refine (impl_FormatOrder op n (TabW.below LW.out.1 hX3)).mono ?_
              rintro e w3 ⟨rfl, hb3⟩
              have hs3 : w2.heap.size ≤ w3.heap.size := Nat.le_trans (by go_size) hb3.size
              have q0 := (hb3.cell (p := ⟨w.heap.size, 0, none⟩) (by go_size)).trans ((hX3.cell (p := ⟨w.heap.size, 0, none⟩) hwr).trans r0)
              have q1 := (hb3.cell (p := ⟨w.heap.size, 1, none⟩) (by go_size)).trans ((hX3.cell (p := ⟨w.heap.size, 1, none⟩) hwr).trans r1)
              have k0 := (hb3.cell (p := ⟨wr.heap.size, 0, none⟩) (by go_size)).trans (show (w2.setCell ⟨wr.heap.size, 1, none⟩ (.int .i64 n)).cell? ⟨wr.heap.size, 0, none⟩ = some (.int .i64 op) by simp [go_sem, j0])
              have k1 := (hb3.cell (p := ⟨wr.heap.size, 1, none⟩) (by go_size)).trans (show (w2.setCell ⟨wr.heap.size, 1, none⟩ (.int .i64 n)).cell? ⟨wr.heap.size, 1, none⟩ = some (.int .i64 n) by simp [go_sem, j1])
              have qf : ∀ i, w3.frozen? ⟨w.heap.size, i, none⟩ = false := fun i => (hb3.frozen (p := ⟨w.heap.size, i, none⟩) (by go_size)).trans ((hX3.frozen (p := ⟨w.heap.size, i, none⟩) hwr).trans (rf i))
              have hW3 : Below w.heap.size w w3 := hbw.trans ((hX3.trans (hb3.mono hX3.size)).mono (Nat.le_of_lt hwr))
              go_wp2_with fail
              refine bodyPost_ret (v := .tuple #[.agg #[.int .i64 op, .int .i64 n], .bool true]) (by simp [results, Tryd.results28, go_sem, q0, q1, k0, k1]) rfl ⟨op, n, true, PY.out, rfl, ?_⟩
              repeat (first | with_reducible exact hW3 | refine Below.setCell ?_ (by show w.heap.size ≤ w.heap.size; omega) _)
            · have PN := Lib.hid (parse_no (pn_other hcut.out hop hn he))
              have hne := str_ne he
              clear he
              go_wp2_with (first
                | (at_lookup; refine wpList_lookup_own_ok_int _ rfl _ _ 67 rfl 9 3 .i64 keyLaw Tryd.underlying67 Tryd.underlying3 (zeroInt _) (w.heap.size + 1) 16 _ rfl hown _ _ rfl HK ?_; intro c hat hwc; rw [hhas]; (obtain rfl : op = c := by simpa [hget] using hat))
                | (go_at_call 50; refine CA.mono ?_; rintro e w2 ⟨rfl, hb2⟩; (have j0 := (hb2.cell (p := ⟨wr.heap.size, 0, none⟩) (by go_size)).trans (show _ = some (Value.int .i64 op) by simp)); (have j1 := (hb2.cell (p := ⟨wr.heap.size, 1, none⟩) (by go_size)).trans (show _ = some (Value.int .i64 0) by simp)); (have jf : ∀ i, w2.frozen? ⟨wr.heap.size, i, none⟩ = false := fun i => (hb2.frozen (p := ⟨wr.heap.size, i, none⟩) (by go_size)).trans (by simp [go_sem])); (have hX2 : Below wr.heap.size wr w2 := hX.trans (hb2.mono hX.size)); (have hs2 : wr.heap.size < w2.heap.size := Nat.lt_of_lt_of_le (by go_size) hb2.size)))
              have hX3 : Below wr.heap.size wr (w2.setCell ⟨wr.heap.size, 1, none⟩ (.int .i64 n)) := hX2.setCell (Nat.le_refl _) _
              refine (impl_FormatOrder op n (TabW.below LW.out.1 hX3)).mono ?_
              rintro e w3 ⟨rfl, hb3⟩
              have hs3 : w2.heap.size ≤ w3.heap.size := Nat.le_trans (by go_size) hb3.size
              have q0 := (hb3.cell (p := ⟨w.heap.size, 0, none⟩) (by go_size)).trans ((hX3.cell (p := ⟨w.heap.size, 0, none⟩) hwr).trans r0)
              have q1 := (hb3.cell (p := ⟨w.heap.size, 1, none⟩) (by go_size)).trans ((hX3.cell (p := ⟨w.heap.size, 1, none⟩) hwr).trans r1)
              have k0 := (hb3.cell (p := ⟨wr.heap.size, 0, none⟩) (by go_size)).trans (show (w2.setCell ⟨wr.heap.size, 1, none⟩ (.int .i64 n)).cell? ⟨wr.heap.size, 0, none⟩ = some (.int .i64 op) by simp [go_sem, j0])
              have k1 := (hb3.cell (p := ⟨wr.heap.size, 1, none⟩) (by go_size)).trans (show (w2.setCell ⟨wr.heap.size, 1, none⟩ (.int .i64 n)).cell? ⟨wr.heap.size, 1, none⟩ = some (.int .i64 n) by simp [go_sem, j1])
              have qf : ∀ i, w3.frozen? ⟨w.heap.size, i, none⟩ = false := fun i => (hb3.frozen (p := ⟨w.heap.size, i, none⟩) (by go_size)).trans ((hX3.frozen (p := ⟨w.heap.size, i, none⟩) hwr).trans (rf i))
              have hW3 : Below w.heap.size w w3 := hbw.trans ((hX3.trans (hb3.mono hX3.size)).mono (Nat.le_of_lt hwr))
              go_wp2_with fail
              refine bodyPost_ret (v := .tuple #[.agg #[.int .i64 0, .int .i64 0], .bool false]) (by simp [results, Tryd.results28, go_sem, q0, q1, k0, k1]) rfl ⟨0, 0, false, PN.out, rfl, ?_⟩
              repeat (first | with_reducible exact hW3 | refine Below.setCell ?_ (by show w.heap.size ≤ w.heap.size; omega) _)
          · have hA' : ∀ n, Lib.atoiAll ar ≠ .ok n := fun n h => hA ⟨n, h⟩
            have PN := Lib.hid (parse_no (pn_bad hcut.out ha hA'))
            have CA := atoi_bad (by omega) hA' (LW.out.2.below hX)
            clear hA hA' ha
            go_wp2_with (first
              | (at_lookup; refine wpList_lookup_own_ok_int _ rfl _ _ 67 rfl 9 3 .i64 keyLaw Tryd.underlying67 Tryd.underlying3 (zeroInt _) (w.heap.size + 1) 16 _ rfl hown _ _ rfl HK ?_; intro c hat hwc; rw [hhas]; (obtain rfl : op = c := by simpa [hget] using hat))
              | (go_at_call 50; refine CA.mono ?_; rintro e w3 ⟨⟨m, tq, pq, rfl⟩, hb3⟩; (have q0 := (hb3.cell (p := ⟨w.heap.size, 0, none⟩) (by go_size)).trans ((hX.cell (p := ⟨w.heap.size, 0, none⟩) hwr).trans r0)); (have q1 := (hb3.cell (p := ⟨w.heap.size, 1, none⟩) (by go_size)).trans ((hX.cell (p := ⟨w.heap.size, 1, none⟩) hwr).trans r1)); (have qf : ∀ i, w3.frozen? ⟨w.heap.size, i, none⟩ = false := fun i => (hb3.frozen (p := ⟨w.heap.size, i, none⟩) (by go_size)).trans ((hX.frozen (p := ⟨w.heap.size, i, none⟩) hwr).trans (rf i))); (have hW3 : Below w.heap.size w w3 := hbw.trans ((hX.trans (hb3.mono hX.size)).mono (Nat.le_of_lt hwr)))))
            refine bodyPost_ret (v := .tuple #[.agg #[.int .i64 0, .int .i64 0], .bool false]) (by simp [results, Tryd.results28, go_sem, q0, q1]) rfl ⟨0, 0, false, PN.out, rfl, ?_⟩
            repeat (first | with_reducible exact hW3 | refine Below.setCell ?_ (by show w.heap.size ≤ w.heap.size; omega) _)
end Go.Proofs.YthplgehdgaeapaaDoor
