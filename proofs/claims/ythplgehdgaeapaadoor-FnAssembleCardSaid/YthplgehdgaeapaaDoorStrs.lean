/- Slices of strings: what they hold, and the walks of the functions that compare, measure, copy, mark and hold them. No condition. -/
import Derived.Test.YthplgehdgaeapaaDoorReadStr
import Derived.Test.YthplgehdgaeapaaDoorNames
import Derived.LoopTactic
import Derived.Lib.ItoaLen
import Derived.Deep.LoopGhost
import Derived.Deep.Draws
import Derived.Deep.QuietTactic
import Derived.Deep.RegionWith
import Derived.Deep.RegionHeld3
import Derived.Deep.Cut
import Derived.BigQuiet
namespace Go.Proofs.YthplgehdgaeapaaDoor
open Go.RowKit
set_option linter.unusedVariables false
set_option linter.unusedSimpArgs false

theorem str_eq {a b : ByteArray} (h : (a.toList == b.toList) = true) : a = b := by
  have := eq_of_beq h
  rw [ByteArray.toList_eq, ByteArray.toList_eq] at this
  exact WideShapes.bytes_inj this
theorem str_ne' {a b : ByteArray} (h : (a.toList == b.toList) = false) : a ≠ b := by
  rintro rfl
  simp at h
theorem eqS_take {xs ys : List ByteArray} {k : Nat} (h : xs.take k = ys.take k) (hk : k < xs.length) (hk' : k < ys.length) (e : xs.getD k ByteArray.empty = ys.getD k ByteArray.empty) : xs.take (k + 1) = ys.take (k + 1) := by
  rw [List.take_succ_eq_append_getElem hk, List.take_succ_eq_append_getElem hk', h]
  simp [List.getD_eq_getElem?_getD, hk, hk'] at e
  rw [e]
theorem eqS_not {xs ys : List ByteArray} {k : Nat} (e : xs.getD k ByteArray.empty ≠ ys.getD k ByteArray.empty) : decide (xs = ys) = false := by
  rw [decide_eq_false_iff_not]
  intro h
  exact e (by rw [h])
set_option maxHeartbeats 1000000 in
theorem laws_eqStringS {v u : Value} {xs ys : List ByteArray} {w : World} (h : Strs w v xs) (g : Strs w u ys) :
    Calls Tryd.prog 16 #[v, u] w fun e w' => e = .returned (.bool (decide (xs = ys))) ∧ Quiet w w' := by
  obtain ⟨a, ca, rfl, ha1, ha2, ha⟩ := h
  obtain ⟨b, cb, rfl, hb1, hb2, hb⟩ := g
  unfold maxLen at ha2 hb2
  by_cases hlen : xs.length = ys.length
  · rcases ha with h0 | ⟨b1, o1, rfl, hc1⟩
    · obtain rfl := List.eq_nil_of_length_eq_zero h0
      have hy : ys = [] := by simpa using hlen.symm
      subst hy
      go_enter Tryd.func16, Tryd.ntmps16
      go_wp2
      refine wp_loop_rounds 1 ?_
      rw [rounds_succ]
      go_wp2
      go_ret
      exact ⟨rfl, 0, rfl⟩
    rcases hb with h0 | ⟨b2, o2, rfl, hc2⟩
    · obtain rfl := List.eq_nil_of_length_eq_zero h0
      have hx : xs = [] := by simpa using hlen
      subst hx
      go_enter Tryd.func16, Tryd.ntmps16
      go_wp2
      refine wp_loop_rounds 1 ?_
      rw [rounds_succ]
      go_wp2
      go_ret
      exact ⟨rfl, 0, rfl⟩
    have C1 := Lib.hid hc1
    have C2 := Lib.hid hc2
    have hn : ((xs.length : Int) != (ys.length : Int)) = false := by simp; omega
    have HL := Lib.hid hlen
    clear hc1 hc2 hlen
    go_enter Tryd.func16, Tryd.ntmps16
    go_wp2
    go_loopw [5] (fun i wr => ∃ k : Nat, k ≤ xs.length ∧ i = .int .i64 k ∧ Hid (xs.take k = ys.take k) ∧ Quiet w wr)
      (fun i _ => xs.length - (intOf i).toNat)
    case atStart => exact ⟨0, Nat.zero_le _, rfl, rfl, 0, rfl⟩
    case round =>
      obtain ⟨k, hk, rfl, hT, m, rfl⟩ := hrel
      by_cases hlt : k < xs.length
      · have g1 := C1.out k hlt
        have g2 := C2.out k (by have := HL.out; omega)
        have hi1 : (k : Int) < (xs.length : Int) := by omega
        have hi2 : (k : Int) < (ys.length : Int) := by have := HL.out; omega
        have hT1 := fun e => eqS_take hT.out hlt (by have := HL.out; omega) e
        have hT2 := fun e => eqS_not (xs := xs) (ys := ys) (k := k) e
        have T1 := Lib.hid hT1
        have T2 := Lib.hid hT2
        clear hT1 hT2
        generalize xs.getD k ByteArray.empty = x at *
        generalize ys.getD k ByteArray.empty = y at *
        cases hxy : (x.toList == y.toList)
        · go_wp2
          go_quiet (fail)
          go_wp2
          go_ret
          exact ⟨ret_bool (T2.out (str_ne' hxy)).symm, quiet_more _ _ _⟩
        · go_wp2
          go_quiet (fail)
          go_wp2
          go_roundw
          case rel => exact ⟨k + 1, by omega, by go_num, T1.out (str_eq hxy), _, rfl⟩
          case measure => simp [intOf]; omega
      · have hk1 : k = xs.length := by omega
        have hT1 : Hid ((decide (xs = ys)) = true) := by
          have := hT.out
          rw [hk1, List.take_length, HL.out, List.take_length] at this
          show (decide (xs = ys)) = true
          simp [this]
        clear hk1
        go_wp2
        go_ret
        exact ⟨ret_bool hT1.out.symm, _, rfl⟩
  · have hne : (decide (xs = ys)) = false := by rw [decide_eq_false_iff_not]; intro e; exact hlen (by rw [e])
    have hn : ((xs.length : Int) != (ys.length : Int)) = true := by simp; omega
    have H := Lib.hid hne
    clear hne hlen ha hb
    go_enter Tryd.func16, Tryd.ntmps16
    go_wp2
    go_ret
    exact ⟨ret_bool H.out.symm, 0, rfl⟩
set_option maxHeartbeats 1000000 in
theorem laws_sameTexts {v u : Value} {xs ys : List ByteArray} {w : World} (h : Strs w v xs) (g : Strs w u ys) :
    Calls Tryd.prog 33 #[v, u] w fun e w' => e = .returned (.bool (decide (xs = ys))) ∧ Quiet w w' := by
  obtain ⟨a, ca, rfl, ha1, ha2, ha⟩ := h
  obtain ⟨b, cb, rfl, hb1, hb2, hb⟩ := g
  unfold maxLen at ha2 hb2
  by_cases hlen : xs.length = ys.length
  · rcases ha with h0 | ⟨b1, o1, rfl, hc1⟩
    · obtain rfl := List.eq_nil_of_length_eq_zero h0
      have hy : ys = [] := by simpa using hlen.symm
      subst hy
      go_enter Tryd.func33, Tryd.ntmps33
      go_wp2
      refine wp_loop_rounds 1 ?_
      rw [rounds_succ]
      go_wp2
      go_ret
      exact ⟨rfl, 0, rfl⟩
    rcases hb with h0 | ⟨b2, o2, rfl, hc2⟩
    · obtain rfl := List.eq_nil_of_length_eq_zero h0
      have hx : xs = [] := by simpa using hlen
      subst hx
      go_enter Tryd.func33, Tryd.ntmps33
      go_wp2
      refine wp_loop_rounds 1 ?_
      rw [rounds_succ]
      go_wp2
      go_ret
      exact ⟨rfl, 0, rfl⟩
    have C1 := Lib.hid hc1
    have C2 := Lib.hid hc2
    have hn : ((xs.length : Int) != (ys.length : Int)) = false := by simp; omega
    have HL := Lib.hid hlen
    clear hc1 hc2 hlen
    go_enter Tryd.func33, Tryd.ntmps33
    go_wp2
    go_loopw [5] (fun i wr => ∃ k : Nat, k ≤ xs.length ∧ i = .int .i64 k ∧ Hid (xs.take k = ys.take k) ∧ Quiet w wr)
      (fun i _ => xs.length - (intOf i).toNat)
    case atStart => exact ⟨0, Nat.zero_le _, rfl, rfl, 0, rfl⟩
    case round =>
      obtain ⟨k, hk, rfl, hT, m, rfl⟩ := hrel
      by_cases hlt : k < xs.length
      · have g1 := C1.out k hlt
        have g2 := C2.out k (by have := HL.out; omega)
        have hi1 : (k : Int) < (xs.length : Int) := by omega
        have hi2 : (k : Int) < (ys.length : Int) := by have := HL.out; omega
        have hT1 := fun e => eqS_take hT.out hlt (by have := HL.out; omega) e
        have hT2 := fun e => eqS_not (xs := xs) (ys := ys) (k := k) e
        have T1 := Lib.hid hT1
        have T2 := Lib.hid hT2
        clear hT1 hT2
        generalize xs.getD k ByteArray.empty = x at *
        generalize ys.getD k ByteArray.empty = y at *
        cases hxy : (x.toList == y.toList)
        · go_wp2
          go_quiet (fail)
          go_wp2
          go_ret
          exact ⟨ret_bool (T2.out (str_ne' hxy)).symm, quiet_more _ _ _⟩
        · go_wp2
          go_quiet (fail)
          go_wp2
          go_roundw
          case rel => exact ⟨k + 1, by omega, by go_num, T1.out (str_eq hxy), _, rfl⟩
          case measure => simp [intOf]; omega
      · have hk1 : k = xs.length := by omega
        have hT1 : Hid ((decide (xs = ys)) = true) := by
          have := hT.out
          rw [hk1, List.take_length, HL.out, List.take_length] at this
          show (decide (xs = ys)) = true
          simp [this]
        clear hk1
        go_wp2
        go_ret
        exact ⟨ret_bool hT1.out.symm, _, rfl⟩
  · have hne : (decide (xs = ys)) = false := by rw [decide_eq_false_iff_not]; intro e; exact hlen (by rw [e])
    have hn : ((xs.length : Int) != (ys.length : Int)) = true := by simp; omega
    have H := Lib.hid hne
    clear hne hlen ha hb
    go_enter Tryd.func33, Tryd.ntmps33
    go_wp2
    go_ret
    exact ⟨ret_bool H.out.symm, 0, rfl⟩
/-- .. in blocks from lo on, below hi, none of them frozen. -/
def OwnS (lo hi : Nat) (w : World) (v : Value) (zs : List ByteArray) : Prop :=
  ∃ (a : Option Addr) (cap : Nat), v = .slice a zs.length cap ∧ zs.length ≤ cap ∧ cap ≤ maxLen ∧ (zs.length = 0 ∨ ∃ b off, a = some ⟨b, off, none⟩ ∧ lo ≤ b ∧ b < hi ∧ ∀ i, i < zs.length → w.cell? ⟨b, off + i, none⟩ = some (.string (zs.getD i ByteArray.empty)) ∧ w.frozen? ⟨b, off + i, none⟩ = false)
theorem OwnS.strs {lo hi : Nat} {w : World} {v : Value} {zs : List ByteArray} (h : OwnS lo hi w v zs) : Strs w v zs := by
  obtain ⟨a, cap, rfl, h1, h2, h3⟩ := h
  refine ⟨a, cap, rfl, h1, h2, ?_⟩
  rcases h3 with h0 | ⟨b, off, rfl, _, _, hc⟩
  · exact .inl h0
  · exact .inr ⟨b, off, rfl, fun i hi => (hc i hi).1⟩

theorem infoStr : (Tryd.prog.info? 9).map (fun i => (i.zero, i.size, i.bytes)) = some (some (.string ByteArray.empty), 1, 16) := by kernel_rfl
/-- A slice of the call's own, whole and to be appended to, which holds zs. -/
def MadeS (zs : List ByteArray) (w : World) (e : Ending) (w' : World) : Prop := ∃ v, e = .returned v ∧ OwnV w' w.heap.size 9 v (zs.map Value.string) ∧ Below w.heap.size w w'
def uptoS (zs : List ByteArray) (k : Nat) (i : Nat) : Value := if i < k then .string (zs.getD i ByteArray.empty) else .string ByteArray.empty
set_option maxHeartbeats 1000000 in
theorem laws_toStringS {v : Value} {zs : List ByteArray} {w : World} (h : Strs w v zs) (hz : zs.length ≤ 1000000000000) : Calls Tryd.prog 13 #[v] w (MadeS zs w) := by
  obtain ⟨a, cap, rfl, hlc, hcap, hcells⟩ := h
  obtain ⟨n, hn⟩ : ∃ n, n = zs.length := ⟨_, rfl⟩
  have fin : ∀ wr : World, wr.rowIs w.heap.size 9 n (uptoS zs n) → Below w.heap.size w wr → MadeS zs w (.returned (.slice (some ⟨w.heap.size, 0, none⟩) n n)) wr := fun wr hr hb =>
    ⟨_, rfl, rowIs_ownV hr (Nat.le_refl _) (by unfold maxLen; omega) (by simp [hn]) (fun i hi => by
      have hi' : i < zs.length := by omega
      rw [List.getElem?_map, List.getElem?_eq_getElem hi']
      simp [uptoS, hi, List.getD_eq_getElem?_getD, hi']), hb⟩
  have hmk := fun W => run_make_row' (P := Tryd.prog) 22 9 (.string ByteArray.empty) 16 Tryd.underlying22 infoStr rfl .i64 .i64 n (by omega) (by omega) W
  have R0 : (w.alloc (.cells (madeCells #[.string ByteArray.empty] n) 9)).rowIs w.heap.size 9 n (uptoS zs 0) := (World.rowIs_made w (.string ByteArray.empty) n 9).congr (fun i _ => by simp [uptoS])
  have hsrc : ∀ k, k < n → ∃ b off, a = some ⟨b, off, none⟩ ∧ b < w.heap.size ∧ w.cell? ⟨b, off + k, none⟩ = some (.string (zs.getD k ByteArray.empty)) := fun k hk => by
    rcases hcells with h0 | ⟨b, off, rfl, hc⟩
    · omega
    · exact ⟨b, off, rfl, block_lt_of_cell (hc k (by omega)), hc k (by omega)⟩
  rw [← hn] at hlc ⊢
  have hn1 : (n : Int) ≤ 1000000000000 := by omega
  have F := Lib.hid fin
  have S := Lib.hid hsrc
  have RH := Lib.hid R0
  clear fin hsrc R0 hcells hn
  go_enter Tryd.func13, Tryd.ntmps13
  go_wp2
  go_loopw [4] (fun i wr => ∃ k : Nat, k ≤ n ∧ i = .int .i64 k ∧ Hid (wr.rowIs w.heap.size 9 n (uptoS zs k)) ∧ Hid (Below w.heap.size w wr)) (fun i _ => n - (intOf i).toNat)
  case atStart => exact ⟨0, Nat.zero_le _, rfl, RH.out, (Below.refl _ _).alloc (Nat.le_refl _) _⟩
  case round =>
    obtain ⟨k, hk, rfl, hr, hb⟩ := hrel
    by_cases hlt : k < n
    · obtain ⟨b, off, rfl, hbl, hc⟩ := S.out k hlt
      have g0 := (hb.out.cell (p := ⟨b, off + k, none⟩) hbl).trans hc
      have g1 := hr.out.cell hlt
      have g2 := hr.out.frozen k
      have hi : (k : Int) < (n : Int) := by omega
      have R1 : Hid ((wr.setCell ⟨w.heap.size, k, none⟩ (.string (zs.getD k ByteArray.empty))).rowIs w.heap.size 9 n (uptoS zs (k + 1))) := (hr.out.set k _).congr (fun i hi => by
        unfold uptoS
        by_cases e : i = k
        · subst e; simp
        · by_cases h2 : i < k
          · rw [if_neg e, if_pos h2, if_pos (by omega)]
          · rw [if_neg e, if_neg h2, if_neg (by omega)])
      have B1 : Hid (Below w.heap.size w (wr.setCell ⟨w.heap.size, k, none⟩ (.string (zs.getD k ByteArray.empty)))) := hb.out.setCell (Nat.le_refl _) _
      clear hc hbl
      generalize zs.getD k ByteArray.empty = x at *
      go_wp2
      go_roundw
      case rel => exact ⟨k + 1, by omega, by go_num, R1.out, B1.out⟩
      case measure => simp [intOf]; omega
    · have hi : ¬ (k : Int) < (n : Int) := by omega
      have e : k = n := by omega
      subst e
      have fo := Lib.hid (F.out _ hr.out hb.out)
      go_wp2
      go_ret
      exact fo.out
/-! ### Marks -/
theorem nDigits_le20' (u : Nat) (h : u ≤ 1000000000000) : Lib.nDigits u ≤ 20 := Lib.nDigits_le20 u (by omega)
def mkT (k : Int) : ByteArray := if k ≤ 0 then ⟨#[109, 48]⟩ else ⟨#[109]⟩ ++ ⟨(Lib.decDigits k.toNat).toArray⟩
theorem str_cons (b : UInt8) (t : List UInt8) : Value.string ((⟨#[b]⟩ : ByteArray) ++ ⟨t.toArray⟩) = .string ⟨(b :: t).toArray⟩ := by
  rw [bytes_app]
  simp
def left10 (m : Nat) : List UInt8 := if m = 0 then [] else Lib.decDigits m
theorem left10_step {m : Nat} (h : 0 < m) : left10 m = left10 (m / 10) ++ [UInt8.ofNat (48 + (m : Int) % 10).toNat] := by
  unfold left10
  rw [if_neg (by omega)]
  by_cases h10 : m < 10
  · rw [if_pos (by omega)]
    have := dig_one (n := (m : Int)) (by omega) (by omega)
    simpa using this
  · rw [if_neg (by omega)]
    have := dig_split (n := (m : Int)) (by omega) (by omega)
    rw [show ((m : Int) / 10).toNat = m / 10 by omega] at this
    simpa using this
set_option maxHeartbeats 1000000 in
set_option maxRecDepth 20000 in
theorem laws_markText (k : Int) (w : World) (hk : k ≤ 1000000000000) : Calls Tryd.prog 41 #[.int .i64 k] w fun e w' => e = .returned (.string (mkT k)) ∧ Below w.heap.size w w' := by
  by_cases h0 : k ≤ 0
  · have e : mkT k = ⟨#[109, 48]⟩ := by unfold mkT; rw [if_pos h0]
    rw [e]
    go_enter Tryd.func41, Tryd.ntmps41
    go_wp2_with fail
    go_ret
    exact ⟨rfl, Below.refl _ _⟩
  · obtain ⟨n, rfl⟩ := Int.eq_ofNat_of_zero_le (show 0 ≤ k by omega)
    have e : mkT (n : Int) = ⟨#[109]⟩ ++ ⟨(left10 n).toArray⟩ := by
      unfold mkT left10
      rw [if_neg h0, if_neg (by omega)]
      rfl
    have hlen : (left10 n).length ≤ 20 := by
      unfold left10
      rw [if_neg (by omega), Lib.decDigits_length]
      exact nDigits_le20' _ (by omega)
    have cv := conv_at
    go_enter Tryd.func41, Tryd.ntmps41
    go_wp2_with fail
    go_loopw [0, 3] (fun u0 u3 wr => ∃ (m : Nat) (t : List UInt8), m ≤ n ∧ u0 = .int .i64 m ∧ u3 = .string ⟨t.toArray⟩ ∧ left10 m ++ t = left10 n ∧ Below w.heap.size w wr) (fun u0 _ _ => (intOf u0).toNat)
    case atStart => exact ⟨n, [], Nat.le_refl _, rfl, rfl, by simp, Below.refl _ _⟩
    case round =>
      obtain ⟨m, t, hm, rfl, rfl, ht, hb⟩ := hrel
      have hl : t.length ≤ 20 := by
        have := congrArg List.length ht
        rw [List.length_append] at this
        omega
      have l1 : ¬ (9223372036854775807 < 1 + t.length) := by omega
      have hb2 := hb.size
      by_cases h1 : 0 < m
      · have g1 : (0 : Int) < m := by omega
        have ht2 := Lib.hid (show left10 (m / 10) ++ ((48 + UInt8.ofNat (m % 10)) :: t) = left10 n by
          rw [← ht, left10_step h1, List.append_assoc]
          rw [show UInt8.ofNat (48 + (m : Int) % 10).toNat = 48 + UInt8.ofNat (m % 10) by rw [show (48 + (m : Int) % 10).toNat = 48 + m % 10 by omega, UInt8.ofNat_add]; rfl]
          rfl)
        have g0 : (0 : Int) ≤ m := by omega
        clear ht e
        go_wp2_with fail
        go_roundw
        case rel =>
          refine ⟨m / 10, _, by omega, congrArg (Value.int .i64) (by omega), str_cons _ _, ht2.out, ?_⟩
          repeat (first | with_reducible exact Below.refl _ _ | with_reducible refine below_via (by assumption) ?_ (by go_size) | with_reducible refine below_within (by assumption) ?_ (by go_size) (by omega) | with_reducible refine Below.alloc ?_ (by go_size) _ | with_reducible refine Below.setCell ?_ (by go_size) _ | with_reducible refine Below.drew ?_)
        case measure => simp [intOf]; omega
      · have : m = 0 := by omega
        subst this
        have ht2 : t = left10 n := ht
        subst ht2
        clear ht hl
        go_wp2_with fail
        go_ret
        exact ⟨by rw [e]; rfl, hb⟩
def marksS (k : Int) (n : Nat) : List ByteArray := (List.range n).map fun (i : Nat) => mkT (k + (i : Int))
theorem marksS_len (k : Int) (n : Nat) : (marksS k n).length = n := by simp [marksS]
theorem marksS_at (k : Int) (n i : Nat) (h : i < n) : (marksS k n).getD i ByteArray.empty = mkT (k + (i : Int)) := by
  simp [marksS, h]
set_option maxHeartbeats 2000000 in
theorem laws_heldStringS {v : Value} {n : Nat} {k0 : Int} {w : World} (h : Strs w v (marksS k0 n)) (h0 : 0 ≤ k0) (h1 : k0 ≤ 100000000) (h2 : n ≤ 100000000) :
    Calls Tryd.prog 26 #[v, .int .i64 k0] w fun e w' => e = .returned (.int .i64 (k0 + (n : Int))) ∧ Below w.heap.size w w' := by
  obtain ⟨a, ca, rfl, ha1, ha2, ha⟩ := h
  rw [marksS_len] at ha1 ha ⊢
  unfold maxLen at ha2
  have hc : n = 0 ∨ ∃ b off, a = some ⟨b, off, none⟩ ∧ ∀ i, i < n → w.cell? ⟨b, off + i, none⟩ = some (.string (mkT (k0 + (i : Int)))) := by
    rcases ha with h | ⟨b, off, rfl, hc⟩
    · exact .inl h
    · exact .inr ⟨b, off, rfl, fun i hi => by rw [hc i hi, marksS_at k0 n i hi]⟩
  clear ha
  rcases hc with rfl | ⟨b, off, rfl, hc⟩
  · go_enter Tryd.func26, Tryd.ntmps26
    go_wp2
    refine wp_loop_rounds 1 ?_
    rw [rounds_succ]
    go_wp2
    go_ret
    exact ⟨ret_int (by simp), Below.refl _ _⟩
  have C := Lib.hid hc
  clear hc
  go_enter Tryd.func26, Tryd.ntmps26
  go_wp2
  go_loopw [1, 5] (fun k i wr => ∃ j : Nat, j ≤ n ∧ i = .int .i64 j ∧ k = .int .i64 (k0 + (j : Int)) ∧ Below w.heap.size w wr) (fun _ i _ => n - (intOf i).toNat)
  case atStart => exact ⟨0, Nat.zero_le _, rfl, by simp, Below.refl _ _⟩
  case round =>
    obtain ⟨j, hj, rfl, rfl, hb⟩ := hrel
    by_cases hlt : j < n
    · have hbl : b < w.heap.size := block_lt_of_cell (C.out j hlt)
      have g := (hb.cell (p := ⟨b, off + j, none⟩) hbl).trans (C.out j hlt)
      have hbw : b < wr.heap.size := Nat.lt_of_lt_of_le hbl hb.size
      have hi : (j : Int) < (n : Int) := by omega
      have CM := laws_markText (k0 + (j : Int)) wr.drew (by omega)
      obtain ⟨q, hq⟩ : ∃ q, q = mkT (k0 + (j : Int)) := ⟨_, rfl⟩
      rw [← hq] at g CM
      clear hq
      go_upto_region 4 with fail
      go_region_with (go_at_call 41; refine CM.mono ?_; rintro e w2 ⟨rfl, hb2⟩; (have g2 := (hb2.cell (p := ⟨b, off + j, none⟩) hbw).trans g); (have hW2 : Below w.heap.size w w2 := hb.trans (((Below.refl _ _).drew.trans hb2).mono hb.size)))
      all_goals
        go_wp2_with fail
        go_roundw
        case rel => exact ⟨j + 1, by omega, by go_num, by go_num, hW2⟩
        case measure => simp [intOf]; omega
    · have hi : ¬ (j : Int) < (n : Int) := by omega
      have e : j = n := by omega
      have E := Lib.hid e
      clear e
      go_wp2
      go_ret
      exact ⟨ret_int (by rw [E.out]), hb⟩
/-- What a round of markStringS leaves. -/
def MarkedS (b off n : Nat) (k0 : Int) (w wr : World) (j : Nat) : Prop :=
  Keep b w wr ∧ b < wr.heap.size ∧ (∀ i, i < j → wr.cell? ⟨b, off + i, none⟩ = some (.string (mkT (k0 + (i : Int))))) ∧ (∀ i, i < n → ∃ z : ByteArray, wr.cell? ⟨b, off + i, none⟩ = some (.string z)) ∧ (∀ i, i < n → wr.frozen? ⟨b, off + i, none⟩ = false)
theorem MarkedS.below {b off n : Nat} {k0 : Int} {w wr w2 : World} {j : Nat} (h : MarkedS b off n k0 w wr j) (hb : Below wr.heap.size wr w2) : MarkedS b off n k0 w w2 j := by
  obtain ⟨h1, h0, h2, h3, h4⟩ := h
  have c : ∀ i, w2.cell? ⟨b, off + i, none⟩ = wr.cell? ⟨b, off + i, none⟩ := fun i => hb.cell (p := ⟨b, off + i, none⟩) h0
  refine ⟨h1.trans (Keep.ofBelow hb), Nat.lt_of_lt_of_le h0 hb.size, fun i hi => (c i).trans (h2 i hi), fun i hi => ?_, fun i hi => (hb.frozen (p := ⟨b, off + i, none⟩) h0).trans (h4 i hi)⟩
  obtain ⟨z, hz⟩ := h3 i hi
  exact ⟨z, (c i).trans hz⟩
theorem MarkedS.step {b off n : Nat} {k0 : Int} {w wr : World} {j : Nat} (h : MarkedS b off n k0 w wr j) (hj : j < n) : MarkedS b off n k0 w (wr.setCell ⟨b, off + j, none⟩ (.string (mkT (k0 + (j : Int))))) (j + 1) := by
  obtain ⟨h1, h0, h2, h3, h4⟩ := h
  obtain ⟨z, hz⟩ := h3 j hj
  have same := World.cell?_setCell_same (w := wr) (a := ⟨b, off + j, none⟩) (v := .string (mkT (k0 + (j : Int)))) hz
  have other : ∀ i, i ≠ j → (wr.setCell ⟨b, off + j, none⟩ (.string (mkT (k0 + (j : Int))))).cell? ⟨b, off + i, none⟩ = wr.cell? ⟨b, off + i, none⟩ := fun i hi =>
    World.cell?_setCell_other _ _ _ _ (by intro e; injection e with _ e2; omega)
  refine ⟨h1.setCell rfl _, by simpa [World.setCell] using h0, fun i hi => ?_, fun i hi => ?_, fun i hi => ?_⟩
  · by_cases e : i = j
    · subst e; exact same
    · rw [other i e]; exact h2 i (by omega)
  · by_cases e : i = j
    · subst e; exact ⟨_, same⟩
    · rw [other i e]; exact h3 i hi
  · have := h4 i hi
    simp [go_sem, this]
set_option maxHeartbeats 2000000 in
theorem laws_markStringS {lo hi : Nat} {v : Value} {zs : List ByteArray} {k0 : Int} {w : World} (h : OwnS lo hi w v zs) (h0 : 0 ≤ k0) (h1 : k0 ≤ 100000000) (h2 : zs.length ≤ 100000000) (hhi : hi ≤ w.heap.size) :
    Calls Tryd.prog 17 #[v, .int .i64 k0] w fun e w' => e = .returned (.int .i64 (k0 + (zs.length : Int))) ∧ OwnS lo hi w' v (marksS k0 zs.length) ∧ Within lo hi w w' := by
  obtain ⟨a, ca, rfl, ha1, ha2, ha⟩ := h
  have hca := ha2
  unfold maxLen at ha2
  rcases ha with hz | ⟨b, off, rfl, hb1, hb2, hc⟩
  · obtain rfl := List.eq_nil_of_length_eq_zero hz
    go_enter Tryd.func17, Tryd.ntmps17
    go_wp2
    refine wp_loop_rounds 1 ?_
    rw [rounds_succ]
    go_wp2
    go_ret
    exact ⟨ret_int (by simp), ⟨a, ca, rfl, ha1, hca, .inl rfl⟩, Within.refl _ _ _⟩
  obtain ⟨n, hn⟩ : ∃ n, n = zs.length := ⟨_, rfl⟩
  rw [← hn] at ha1 h2 hc ⊢
  have M0 : MarkedS b off n k0 w w 0 := ⟨Keep.refl _ _, by omega, fun i hi => by omega, fun i hi => ⟨_, (hc i hi).1⟩, fun i hi => (hc i hi).2⟩
  clear hc hn
  have fin : ∀ wr, MarkedS b off n k0 w wr n → OwnS lo hi wr (.slice (some ⟨b, off, none⟩) n ca) (marksS k0 n) ∧ Within lo hi w wr := fun wr hm =>
    ⟨⟨_, ca, by rw [marksS_len], by rw [marksS_len]; exact ha1, hca, .inr ⟨b, off, rfl, hb1, hb2, fun i hi => by
      rw [marksS_len] at hi
      exact ⟨by rw [marksS_at k0 n i hi]; exact hm.2.2.1 i hi, hm.2.2.2.2 i hi⟩⟩⟩, Within.ofKeep hm.1 hb1 hb2⟩
  have F := Lib.hid fin
  have HM := Lib.hid M0
  clear fin M0
  go_enter Tryd.func17, Tryd.ntmps17
  go_wp2
  go_loopw [1, 5] (fun k i wr => ∃ j : Nat, j ≤ n ∧ i = .int .i64 j ∧ k = .int .i64 (k0 + (j : Int)) ∧ Hid (MarkedS b off n k0 w wr j)) (fun _ i _ => n - (intOf i).toNat)
  case atStart => exact ⟨0, Nat.zero_le _, rfl, by simp, HM.out⟩
  case round =>
    obtain ⟨j, hj, rfl, rfl, hm⟩ := hrel
    by_cases hlt : j < n
    · have hi : (j : Int) < (n : Int) := by omega
      go_wp2_with fail
      refine (laws_markText (k0 + (j : Int)) _ (by omega)).mono ?_
      rintro e w2 ⟨rfl, hb2⟩
      have hm2 := Lib.hid (hm.out.below hb2)
      obtain ⟨z, hz⟩ := hm2.out.2.2.2.1 j hlt
      have hf := hm2.out.2.2.2.2 j hlt
      have S := Lib.hid (hm2.out.step hlt)
      clear hm hb2
      go_wp2
      go_roundw
      case rel => exact ⟨j + 1, by omega, by go_num, by go_num, S.out⟩
      case measure => simp [intOf]; omega
    · have hi : ¬ (j : Int) < (n : Int) := by omega
      have e : j = n := by omega
      subst e
      have R := Lib.hid (F.out _ hm.out)
      go_wp2
      go_ret
      exact ⟨rfl, R.out.1, R.out.2⟩
/-- The first n strings have at most 2^20 bytes. -/
def SmallS (ss : List ByteArray) (n : Nat) : Prop := ∀ i, i < n → (ss.getD i ByteArray.empty).size ≤ 1048576
set_option maxHeartbeats 2000000 in
theorem laws_szStringS {v : Value} {ss : List ByteArray} {w : World} (h : Strs w v ss) (hm : ∀ s ∈ ss, s.size ≤ maxLen) :
    Calls Tryd.prog 11 #[v, .int .i64 1048576] w fun e w' => (∃ z : Int, e = .returned (.int .i64 z) ∧ (¬ z < 0 → ss.length ≤ 1048576 ∧ SmallS ss ss.length)) ∧ w = w' := by
  obtain ⟨a, ca, rfl, ha1, ha2, ha⟩ := h
  unfold maxLen at ha2 hm
  obtain ⟨n, hn⟩ : ∃ n, n = ss.length := ⟨_, rfl⟩
  have hsz : ∀ i, i < n → (ss.getD i ByteArray.empty).size ≤ 9223372036854775807 := fun i hi => by
    rw [List.getD_eq_getElem?_getD, List.getElem?_eq_getElem (by omega)]
    exact hm _ (List.getElem_mem _)
  rw [← hn] at ha1 ha ⊢
  clear hm hn
  by_cases hbig : 1048576 < n
  · have e1 : IntKind.i64.wrap (1048576 - (n : Int)) = 1048576 - n := by rw [IntKind.wrap_i64]; omega
    have e2 : (1048576 : Int) - n < 0 := by omega
    go_enter Tryd.func11, Tryd.ntmps11
    go_wp2
    go_ret
    exact ⟨⟨_, rfl, fun h => by omega⟩, rfl⟩
  have e1 : IntKind.i64.wrap (1048576 - (n : Int)) = 1048576 - n := by rw [IntKind.wrap_i64]; omega
  have e2 : ¬ (1048576 : Int) - n < 0 := by omega
  have hn1 : n ≤ 1048576 := by omega
  rcases ha with rfl | ⟨b, off, rfl, hc⟩
  · go_enter Tryd.func11, Tryd.ntmps11
    go_wp2
    refine wp_loop_rounds 1 ?_
    rw [rounds_succ]
    go_wp2
    go_ret
    exact ⟨⟨_, rfl, fun _ => by first | exact ⟨by omega, fun i hi => absurd hi (by omega)⟩ | exact fun i hi => absurd hi (by omega)⟩, rfl⟩
  have C := Lib.hid hc
  have SZ := Lib.hid hsz
  clear hc hsz
  go_enter Tryd.func11, Tryd.ntmps11
  go_wp2
  go_loop [1, 5] (fun l i => ∃ (j : Nat) (z : Int), j ≤ n ∧ i = .int .i64 j ∧ l = .int .i64 z ∧ 0 ≤ z ∧ z ≤ 1048576 ∧ Hid (SmallS ss j)) (fun _ i => n - (intOf i).toNat)
  case atStart => exact ⟨0, _, Nat.zero_le _, rfl, rfl, by omega, by omega, fun i hi => absurd hi (Nat.not_lt_zero _)⟩
  case round =>
    obtain ⟨j, z, hj, rfl, rfl, z0, z1, hs⟩ := hrel
    by_cases hlt : j < n
    · have g := C.out j hlt
      have hb := SZ.out j hlt
      have hi : (j : Int) < (n : Int) := by omega
      have HS : Hid ((ss.getD j ByteArray.empty).size ≤ 1048576 → SmallS ss (j + 1)) := fun hq i hi => by
        rcases Nat.lt_or_ge i j with k | k
        · exact hs.out i k
        · rwa [show i = j by omega]
      generalize ss.getD j ByteArray.empty = s at *
      have e3 : IntKind.i64.wrap (z - (s.size : Int)) = z - s.size := by rw [IntKind.wrap_i64]; omega
      by_cases hneg : z - (s.size : Int) < 0
      · go_wp2
        go_ret
        exact ⟨⟨_, rfl, fun h => by omega⟩, rfl⟩
      · have HS2 := Lib.hid (HS.out (by omega))
        go_wp2
        go_round
        case rel => exact ⟨j + 1, _, by omega, by go_num, rfl, by omega, by omega, HS2.out⟩
        case measure => simp [intOf]; omega
    · have hi : ¬ (j : Int) < (n : Int) := by omega
      have e : j = n := by omega
      subst e
      go_wp2
      go_ret
      exact ⟨⟨_, rfl, fun _ => by first | exact ⟨hn1, hs.out⟩ | exact hs.out⟩, rfl⟩
end Go.Proofs.YthplgehdgaeapaaDoor
