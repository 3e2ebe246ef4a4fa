/- The law FnDecodeOrder: for every input it answers true, and changes nothing that was there. No condition. -/
import Derived.Test.YtkkgolgmhckgoaaDrawCode
import Derived.Test.YtkkgolgmhckgoaaDrawByte
import Derived.Test.YtkkgolgmhckgoaaDecode
import Derived.Test.YtkkgolgmhckgoaaCellsN
import Derived.Deep.RegionHeld3
import Derived.Deep.RegionWith
import Derived.Deep.DrawnRows
namespace Go.Proofs.Ytkkgolgmhckgoaa
open Go.ChangeShapes Go.WideShapes Go.ChangeAt Go.RowKit
set_option linter.unusedVariables false
attribute [local go_sem ↓] Go.wp_at_zero Go.wp_at_succ

theorem calls_eqv' {P : Program} {f : FuncId} {args : Array Value} {w : World} {b b' : Bool} {R : World → Prop} (h : Calls P f args w fun e w' => e = .returned (.bool b) ∧ R w') (hb : b = b') : Calls P f args w fun e w' => e = .returned (.bool b') ∧ R w' := hb ▸ h
theorem calls_val {P : Program} {f : FuncId} {args : Array Value} {w : World} {v v' : Value} {R : World → Prop} (h : Calls P f args w fun e w' => e = .returned v ∧ R w') (hb : v = v') : Calls P f args w fun e w' => e = .returned v' ∧ R w' := hb ▸ h
theorem sameInts_yes {v u : Value} {xs ys : List Int} {w : World} (h : Ints w v xs) (g : Ints w u ys) (e : xs = ys) : Calls Try.prog 18 #[v, u] w fun e w' => e = .returned (.bool true) ∧ Below w.heap.size w w' :=
  (laws_sameInts h g).mono fun _ _ ⟨he, q⟩ => ⟨by rw [he, e]; simp, q.below⟩
/-- A part of a slice. -/
theorem ints_part {w : World} {a : Option Addr} {n c : Nat} {zs : List Int} (h : Ints w (.slice a n c) zs) {p q : Nat} (h1 : p < q) (h2 : q ≤ n) : ∃ b off, a = some ⟨b, off, none⟩ ∧ Ints w (.slice (some ⟨b, off + p, none⟩) (q - p) (c - p)) ((zs.drop p).take (q - p)) := by
  obtain ⟨a', c', e, k1, k2, h3⟩ := h
  injection e with e1 e2 e3
  subst e1 e2 e3
  rcases h3 with h0 | ⟨b, off, rfl, hc⟩
  · rw [h0] at h2; simp at h2; omega
  · have hl : ((zs.drop p).take (q - p)).length = q - p := by rw [List.length_take, List.length_drop]; omega
    refine ⟨b, off, rfl, _, _, by rw [hl], by omega, by omega, .inr ⟨b, off + p, rfl, fun i hi => ?_⟩⟩
    rw [hl] at hi
    have := hc (p + i) (by omega)
    rw [Nat.add_assoc, this, List.getD_eq_getElem?_getD, List.getD_eq_getElem?_getD, List.getElem?_take_of_lt hi, List.getElem?_drop]
/-- The bytes of the instruction that is decoded stand in the list. -/
theorem dec_bytes {zs : List Int} {p : Nat} (h : dOk zs p = true) : obytes (dOp zs p) (dArg zs p) = (zs.drop p).take (olen (dOp zs p)).toNat ∧ p + (olen (dOp zs p)).toNat ≤ zs.length ∧ 1 ≤ olen (dOp zs p) := by
  unfold dOk at h
  rw [Bool.and_eq_true] at h
  obtain ⟨hp, hk⟩ := h
  have hp' := inR_iff.1 hp
  have hov := okX_ov hk
  have hg : ∀ i, (zs.drop p).getD i 0 = zs.getD (p + i) 0 := fun i => by rw [List.getD_eq_getElem?_getD, List.getD_eq_getElem?_getD, List.getElem?_drop]
  have hd : ∀ (ys : List Int) (n : Nat) (a b c : Int), n ≤ ys.length → ys.getD 0 0 = a → ys.getD 1 0 = b → ys.getD 2 0 = c → n ≤ 3 → ys.take n = [a, b, c].take n := fun ys n a b c h1 h2 h3 h4 h5 => by
    apply List.ext_getElem?
    intro i
    by_cases hi : i < n
    · rw [List.getElem?_take_of_lt hi, List.getElem?_take_of_lt hi]
      rcases (show i = 0 ∨ i = 1 ∨ i = 2 by omega) with rfl | rfl | rfl
      · rw [List.getElem?_eq_getElem (by omega), ← h2, List.getD_eq_getElem?_getD, List.getElem?_eq_getElem (by omega)]; rfl
      · rw [List.getElem?_eq_getElem (by omega), ← h3, List.getD_eq_getElem?_getD, List.getElem?_eq_getElem (by omega)]; rfl
      · rw [List.getElem?_eq_getElem (by omega), ← h4, List.getD_eq_getElem?_getD, List.getElem?_eq_getElem (by omega)]; rfl
    · rw [List.getElem?_eq_none (by rw [List.length_take]; omega), List.getElem?_eq_none (by rw [List.length_take]; omega)]
  unfold okX at hk
  rw [Bool.and_eq_true] at hk
  obtain ⟨hn, hk⟩ := hk
  have hn' : (p : Int) + olen (dOp zs p) ≤ zs.length := of_decide_eq_true hn
  unfold dArg at *
  have e0 : (zs.drop p).getD 0 0 = dOp zs p := by rw [hg]; simp [dOp]
  have e1 : (zs.drop p).getD 1 0 = dz1 zs p := by rw [hg]; simp [dz1]
  have e2 : (zs.drop p).getD 2 0 = dz2 zs p := by rw [hg]; simp [dz2]
  have hdl : (zs.drop p).length = zs.length - p := List.length_drop ..
  generalize dOp zs p = x at *
  generalize dz1 zs p = y at *
  generalize dz2 zs p = z at *
  rcases olen_vals x with h | h | h | h
  · simp [h] at hk
  · refine ⟨?_, by omega, by omega⟩
    rw [obytes_1 hov h, h]
    exact (hd _ 1 x y z (by omega) e0 e1 e2 (by omega)).symm
  · refine ⟨?_, by omega, by omega⟩
    rw [obytes_2 hov h, h]
    simp [h] at hk
    have hb := byteB_iff.1 hk
    have ha : argX x y z = y := by simp [argX, h]
    rw [ha, Int.emod_eq_of_lt hb.1 (by omega)]
    exact (hd _ 2 x y z (by omega) e0 e1 e2 (by omega)).symm
  · refine ⟨?_, by omega, by omega⟩
    rw [obytes_3 hov h, h]
    simp [h] at hk
    have hb := byteB_iff.1 hk.1
    have hz := inR_iff.1 hk.2
    have ha : argX x y z = y + 256 * z := by simp [argX, h]
    rw [ha, show (y + 256 * z) % 256 = y by omega, show (y + 256 * z) / 256 = z by omega]
    exact (hd _ 3 x y z (by omega) e0 e1 e2 (by omega)).symm
/-- Without its last byte it is not decoded. -/
theorem dec_short {zs : List Int} {p : Nat} (h : dOk zs p = true) : dOk (zs.take (p + (olen (dOp zs p)).toNat - 1)) p = false := by
  obtain ⟨_, h2, h3⟩ := dec_bytes h
  have hb := olen_bd (dOp zs p)
  cases hk : dOk (zs.take (p + (olen (dOp zs p)).toNat - 1)) p
  · rfl
  exfalso
  obtain ⟨_, h5, _⟩ := dec_bytes hk
  unfold dOk at hk
  rw [Bool.and_eq_true] at hk
  obtain ⟨hp0, hp1⟩ := inR_iff.1 hk.1
  rw [List.length_take] at hp1 h5
  obtain ⟨L, hL⟩ : ∃ L, L = (olen (dOp zs p)).toNat := ⟨_, rfl⟩
  rw [← hL] at hp1 h5 h2
  have hmin : min (p + L - 1) zs.length ≤ p + L - 1 := Nat.min_le_left _ _
  have hlt : p < p + L - 1 := by omega
  have e : dOp (zs.take (p + L - 1)) p = dOp zs p := by
    simp only [dOp, Int.toNat_natCast]
    rw [List.getD_eq_getElem?_getD, List.getD_eq_getElem?_getD, List.getElem?_take_of_lt hlt]
  rw [e, ← hL] at h5
  omega
theorem ints_take {w : World} {a : Option Addr} {n c : Nat} {zs : List Int} (h : Ints w (.slice a n c) zs) {q : Nat} (h2 : q ≤ n) : Ints w (.slice a q c) (zs.take q) := by
  obtain ⟨a', c', e, k1, k2, h3⟩ := h
  injection e with e1 e2 e3
  subst e1 e2 e3
  have hl : (zs.take q).length = q := by rw [List.length_take]; omega
  refine ⟨_, _, by rw [hl], by omega, k2, ?_⟩
  rcases h3 with h0 | ⟨b, off, rfl, hc⟩
  · left; rw [h0]; simp
  · refine .inr ⟨b, off, rfl, fun i hi => ?_⟩
    rw [hl] at hi
    rw [hc i (by omega), List.getD_eq_getElem?_getD, List.getD_eq_getElem?_getD, List.getElem?_take_of_lt hi]
theorem pair_stay {W w' : World} {B : Nat} {x y : Value} (hb : Below W.heap.size W w') (h : W.cell? ⟨B, 0, none⟩ = some x ∧ W.cell? ⟨B, 1, none⟩ = some y) : w'.cell? ⟨B, 0, none⟩ = some x ∧ w'.cell? ⟨B, 1, none⟩ = some y := ⟨cell_below hb h.1, cell_below hb h.2⟩
theorem pair_new {W : World} {B : Nat} {x y : Value} {t : TypeId} (hB : B = W.heap.size) : (W.alloc (.cells #[x, y] t)).cell? ⟨B, 0, none⟩ = some x ∧ (W.alloc (.cells #[x, y] t)).cell? ⟨B, 1, none⟩ = some y := by
  subst hB
  constructor <;> simp [go_sem]
theorem intsElem : Try.prog.underlying 23 = some (.slice (Try.prog.elem 23)) := by kernel_rfl
set_option maxHeartbeats 4000000 in
theorem walk_FnDecodeOrder (v0 : Value) (w : World) (y0 : IsBytes w v0) : Calls Try.prog 3 #[v0] w fun e w' => e = .returned (.bool true) ∧ Below w.heap.size w w' := by
  have hY := Lib.hid y0
  obtain ⟨a0, len, cap, zs0, rfl, _⟩ := y0
  by_cases hl : (1048576 : Int) < (len : Int)
  · go_enter Try.func3, Try.ntmps3
    go_wp2_with fail
    go_ret
    exact ⟨rfl, Below.refl _ _⟩
  go_enter Try.func3, Try.ntmps3
  go_wp2_with fail
  refine (draw_DecodeOrder hY.out).mono ?_
  rintro e w1 ⟨v1, zs, p, rfl, hi, hz, hb1⟩
  have HI := Lib.hid hi
  have HB1 := Lib.hid hb1
  obtain ⟨a, c, rfl, hc1, hc2⟩ := ints_shape hi
  clear hi hb1
  cases hk : dOk zs p
  · obtain ⟨o, ho⟩ : ∃ o : Int, o = 0 := ⟨_, rfl⟩
    obtain ⟨ar, har⟩ : ∃ ar : Int, ar = 0 := ⟨_, rfl⟩
    have HD : Hid (decV zs p = .tuple #[.agg #[.int .i64 o, .int .i64 ar], .int .i64 0, .bool false]) := by show _ = _; simp [decV, hk, noV, ho, har]
    have HO := Lib.hid ho
    have HA := Lib.hid har
    clear hk ho har
    go_wp2_with fail
    refine (calls_val (impl_DecodeOrder _ HI.out) HD.out).mono ?_
    rintro e w2 ⟨rfl, hb2⟩
    have b12 := Lib.hid hb2
    have n2 := pair_new (W := w2) (x := .int .i64 o) (y := .int .i64 ar) (t := 27) rfl
    obtain ⟨n20, n21⟩ := id n2
    have hBX : Below w1.heap.size w1 (w2.alloc (.cells #[.int .i64 o, .int .i64 ar] 27)) := hb2.alloc hb2.size _
    go_wp2_with fail
    refine (calls_val (spec_DecodeOrder _ (HI.out.below hBX)) HD.out).mono ?_
    rintro e w3 ⟨rfl, hb3⟩
    have t3 := pair_stay hb3 n2
    have b13 : Hid (Below w1.heap.size w1 w3) := hBX.trans (hb3.mono hBX.size)
    clear hb2 hb3 n20 n21 n2 hBX
    obtain ⟨n30, n31⟩ := id t3
    have hl3 : w2.heap.size < w3.heap.size := block_lt_of_cell n30
    have hl3' : w2.heap.size < w3.heap.size + 1 := by omega
    have hE := eqOrd o ar o ar
    have hG := eqOrdG
    have ho := HO.out
    have har := HA.out
    subst ho har
    go_wp2_with (first | (go_at_call 16; refine (laws_alive _).mono ?_; rintro e w' ⟨rfl, rfl⟩))
    go_ret
    exact ⟨rfl, (HB1.out.trans (b13.out.mono HB1.out.size)).alloc (HB1.out.trans (b13.out.mono HB1.out.size)).size _⟩
  have hp := inR_iff.1 ((Bool.and_eq_true _ _).mp (by simpa only [dOk] using hk)).1
  obtain ⟨P, rfl⟩ := Int.eq_ofNat_of_zero_le hp.1
  obtain ⟨d1, d2, d3⟩ := dec_bytes hk
  have ds := dec_short hk
  have hov : ovB (dOp zs P) (dArg zs P) = true := by
    have h2 := ((Bool.and_eq_true _ _).mp (by simpa only [dOk] using hk)).2
    exact okX_ov h2
  have hd : decV zs P = .tuple #[.agg #[.int .i64 (dOp zs P), .int .i64 (dArg zs P)], .int .i64 (olen (dOp zs P)), .bool true] := by simp [decV, hk]
  obtain ⟨o, ho⟩ : ∃ o, o = dOp zs P := ⟨_, rfl⟩
  obtain ⟨ar, har⟩ : ∃ ar, ar = dArg zs P := ⟨_, rfl⟩
  obtain ⟨L, hL⟩ : ∃ L : Nat, (L : Int) = olen o := ⟨(olen o).toNat, by have := olen_bd o; omega⟩
  have hL3 : L ≤ 3 := by have := olen_bd o; omega
  rw [← ho, ← har, ← hL] at d1
  rw [← ho, ← hL] at d2 d3 ds
  rw [← ho, ← har] at hov
  rw [← ho, ← har, ← hL] at hd
  rw [Int.toNat_natCast] at d1 d2 ds
  have HD := Lib.hid hd
  have D1 := Lib.hid d1
  have DS := Lib.hid ds
  have HOV := Lib.hid hov
  have hL1 : 1 ≤ L := by omega
  clear hd d1 ds hov ho har hL hk d3 hp
  have DS' : Hid (decV (zs.take (P + L - 1)) P = .tuple #[.agg #[.int .i64 0, .int .i64 0], .int .i64 0, .bool false]) := by show _ = _; simp [decV, DS.out, noV]
  go_wp2_with fail
  refine (calls_val (impl_DecodeOrder _ HI.out) HD.out).mono ?_
  rintro e w2 ⟨rfl, hb2⟩
  have b12 := Lib.hid hb2
  have n2 := pair_new (W := w2) (x := .int .i64 o) (y := .int .i64 ar) (t := 27) rfl
  obtain ⟨n20, n21⟩ := id n2
  have hBX : Below w1.heap.size w1 (w2.alloc (.cells #[.int .i64 o, .int .i64 ar] 27)) := hb2.alloc hb2.size _
  go_wp2_with fail
  refine (calls_val (spec_DecodeOrder _ (HI.out.below hBX)) HD.out).mono ?_
  rintro e w3 ⟨rfl, hb3⟩
  have t3 := pair_stay hb3 n2
  have b13 : Hid (Below w1.heap.size w1 w3) := hBX.trans (hb3.mono hBX.size)
  clear hb2 hb3 n20 n21 n2 hBX
  obtain ⟨n30, n31⟩ := id t3
  have hl3 : w2.heap.size < w3.heap.size := block_lt_of_cell n30
  have hl3' : w2.heap.size < w3.heap.size + 1 := by omega
  have hE := eqOrd o ar o ar
  have hG := eqOrdG
  obtain ⟨q, hq⟩ : ∃ q : Nat, q = P + L - 1 := ⟨_, rfl⟩
  obtain ⟨r, hr⟩ : ∃ r : Nat, r = P + L := ⟨_, rfl⟩
  have hrP' : r - P = L := by omega
  have hrP := Lib.hid hrP'
  clear hrP'
  have u1 : IntKind.i64.wrap ((P : Int) + (L : Int)) = (r : Int) := by rw [IntKind.wrap_i64]; omega
  have u2 : IntKind.i64.wrap ((r : Int) - 1) = (q : Int) := by rw [IntKind.wrap_i64]; omega
  have u3 : (P : Int) + (L : Int) = (r : Int) := by omega
  have u4 : (r : Int) - 1 = (q : Int) := by omega
  have u5 : IntKind.i64.wrap (r : Int) = (r : Int) := by rw [IntKind.wrap_i64]; omega
  have hq0 : (0 : Int) ≤ (q : Int) := by omega
  have hqc : (q : Int) ≤ (c : Int) := by omega
  have hqn : q ≤ zs.length := by omega
  have hrn : r ≤ zs.length := by omega
  have hrc : (r : Int) ≤ (c : Int) := by omega
  have hPr : (P : Int) ≤ (r : Int) := by omega
  have hPn : ¬ P = c := by omega
  have hPn' : ¬ c = P := by omega
  have hPi : ¬ (c : Int) = (P : Int) := by omega
  have hP0 : (0 : Int) ≤ (P : Int) := by omega
  have hPci : (P : Int) ≤ (c : Int) := by omega
  have hrcN : r ≤ c := by omega
  have hPrN : P ≤ r := by omega
  have hPc : P < c := by omega
  have hPr' : P < r := by omega
  rw [← hq] at DS'
  have HR := Lib.hid hr
  clear hq hr DS d2
  have b1X : Hid (Below w1.heap.size w1 (w3.alloc (.cells #[.int .i64 o, .int .i64 ar] 27))) := b13.out.alloc b13.out.size _
  have t3X := pair_stay ((Below.refl w3.heap.size w3).alloc (Nat.le_refl _) (.cells #[.int .i64 o, .int .i64 ar] 27)) t3
  go_wp2_with fail
  refine (calls_val (impl_DecodeOrder (P : Int) ((ints_take HI.out hqn).below b1X.out)) DS'.out).mono ?_
  rintro e w4 ⟨rfl, hb4⟩
  have t4 := pair_stay hb4 t3X
  have b14 : Hid (Below w1.heap.size w1 w4) := b1X.out.trans (hb4.mono b1X.out.size)
  obtain ⟨b, off, rfl, hpart⟩ := ints_part (HI.out.below b14.out) hPr' hrn
  have HPP := Lib.hid hpart
  clear hpart hb4 n30 n31 t3X t3 hE hG
  go_upto_region 11 with fail
  obtain ⟨Y, hY0⟩ : ∃ Y, Y = w4.alloc (.cells #[.int .i64 0, .int .i64 0] 27) := ⟨_, rfl⟩
  have tY : Hid (Y.cell? ⟨w2.heap.size, 0, none⟩ = some (.int .i64 o) ∧ Y.cell? ⟨w2.heap.size, 1, none⟩ = some (.int .i64 ar)) := by rw [hY0]; exact pair_stay ((Below.refl _ _).alloc (Nat.le_refl _) _) t4
  have b4Y : Hid (Below w4.heap.size w4 Y) := by rw [hY0]; exact (Below.refl _ _).alloc (Nat.le_refl _) _
  have b1Y : Hid (Below w1.heap.size w1 Y) := b14.out.trans (b4Y.out.mono b14.out.size)
  have hsl : ∀ W : World, (Instr.slice 23 (.slice (some ⟨b, off, none⟩) zs.length c) (some (.int .i64 (P : Int))) (some (.int .i64 (r : Int))) none).run Try.prog W = .ok (.slice (some ⟨b, off + P, none⟩) (r - P) (c - P)) W := fun W => by
    clear u1 u2 u3 u4 u5
    rw [run_slice_lh (P := Try.prog) W 23 (some ⟨b, off, none⟩) zs.length c intsElem .i64 .i64 P r hP0 hPr hrc]
    simp [go_sem, sliced, hPn']
  rw [← hY0]
  clear hY0 t4 b1X
  go_region_held3 (fun w' => w'.cell? ⟨w2.heap.size, 0, none⟩ = some (.int .i64 o) ∧ w'.cell? ⟨w2.heap.size, 1, none⟩ = some (.int .i64 ar)) (first | with_reducible exact tY.out | with_reducible exact pair_drew tY.out | with_reducible exact S5.out | with_reducible exact S6.out | with_reducible exact S7.out | with_reducible exact pair_drew S5.out | with_reducible exact pair_drew S6.out)
    (first
      | (go_at_call 18; go_loud (refine (sameInts_yes o6.ints ((HPP.out.below b4Y.out).below bY6.out) (by rw [D1.out, HR.out, Nat.add_sub_cancel_left])).mono ?_; rintro e w7 ⟨rfl, hb7⟩; (have S7 := Lib.hid (pair_stay hb7 S6.out)); (have bY7 : Hid (Below Y.heap.size Y w7) := bY6.out.trans (hb7.mono bY6.out.size))))
      | (go_at_call 19; go_loud (refine (impl_OrderBytes _ _ _).mono ?_; rintro e w6 ⟨v6, rfl, o6, hb6⟩; (have S6 := Lib.hid (pair_stay hb6 S5.out)); (have bY6 : Hid (Below Y.heap.size Y w6) := bY5.out.trans (hb6.mono bY5.out.size))))
      | (go_at_call 17; go_loud (refine (calls_eqv' (impl_OrderValid o ar _) HOV.out).mono ?_; rintro e w5 ⟨rfl, hb5⟩; (have S5 := Lib.hid (pair_stay hb5 tY.out)); (have bY5 : Hid (Below Y.heap.size Y w5) := ((Below.refl _ _).drew).trans hb5))))
  all_goals
    have hBY : Hid (Below w.heap.size w Y) := HB1.out.trans (b1Y.out.mono HB1.out.size)
    go_wp2_with fail
    go_ret
    exact ⟨rfl, hBY.out.trans (bY7.out.mono hBY.out.size)⟩
set_option maxRecDepth 100000 in
theorem lifted_FnDecodeOrder (os : Os) (started : os.Started) (H : Type) (enc : TypeId × Value → H) :
    ReturnsInHanded {} Try.checked os 3 .any (Rows.fnDecodeOrderSpec.pre6 enc Try.prog Try.f3 Rows.fnDecodeOrderRow.domain false) (Rows.fnDecodeOrderSpec.post enc Try.prog Try.f3 false true false false) := by
  refine returnsInHanded_of_change (C := Try.checked) own started (by kernel_rfl) Try.func3
    (ChangeSpec.witness6 (enc := enc) (C := Try.checked) false ⟨#[], #[.slice none 0 0], []⟩ 8 (by kernel_rfl) (by kernel_rfl) (by kernel_rfl) (by kernel_rfl)) ?_
  intro W base args ds gs before hval0 hW hcnd _
  have hval : ∀ (j : Nat) t v, Try.f3.params[j]? = some t → args[j]? = some v → Value.okWide Try.prog W .any base t v := hval0
  have hW' := hW
  obtain ⟨p, q, hA0, hV, rfl, hfz, hnd⟩ := hW
  have hA : DataW.TrodAll enc Try.prog W 0 (fun _ => true) true Try.f3.params.toList args.toList ds p := hA0
  rw [Try.params3] at hA hval
  obtain ⟨v0, vs0, d0, ds0, p0, q0, hargs, rfl, rfl, h0, r0⟩ := trodAll_cons hA
  obtain ⟨rfl, rfl, rfl⟩ := trodAll_nil r0
  obtain rfl : args = #[v0] := by cases args; simp_all
  obtain ⟨rfl, rfl⟩ := trodVars_none hV
  have lt0 : ∀ x ∈ p0, x.block < W.heap.size := by obtain ⟨m, hm⟩ := h0; exact DataW.trod_lt m _ _ _ hm
  have y0 := read_bytes (hval 0 22 v0 rfl rfl) h0
  clear hA0 hval0
  refine (walk_FnDecodeOrder v0 W y0).mono fun e W' ⟨he, bel⟩ => ?_
  subst he
  exact ⟨_, rfl, _, _, _, [], _, [], hW', trodAll_mk1 (shut_bool Try.underlying4 _), (trodAll_cons_mk (Below.trod laidOut (by kernel_rfl) (of_decide_eq_true (by kernel_rfl)) h0 bel lt0) trodAll_mk0), rfl, bel.frame _, fun h => by cases h⟩
theorem closed_FnDecodeOrder : joinedFacts Try.prog 3 Try.f3 Rows.fnDecodeOrderSpec Rows.fnDecodeOrderRow = true := by
  unfold joinedFacts
  rw [shared.1, shared.2.1, shared.2.2.1, shared.2.2.2]
  kernel_rfl
/-- The given statement of FnDecodeOrder. -/
theorem FnDecodeOrder_holds : Rows.FnDecodeOrderSaid :=
  OpenClaim.holds_of_wide 3 Try.f3 rfl rfl rfl rfl rfl rfl rfl ⟨rfl, rfl, rfl, rfl, rfl⟩ rfl rfl rfl rfl rfl (by kernel_rfl) Try.func3 closed_FnDecodeOrder
    (of_decide_eq_true (by kernel_rfl)) (by unfold Func.isWrapper; first | (rw [if_pos (by decide +kernel)]; kernel_rfl) | (rw [if_neg (by decide +kernel)]; exact ⟨rfl, rfl⟩))
    (fun os started H enc _ => lifted_FnDecodeOrder os started H enc)

end Go.Proofs.Ytkkgolgmhckgoaa
