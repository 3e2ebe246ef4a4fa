/- The law FnWriteMemory: for every input it answers true, and changes nothing that was there. No condition. -/
import Derived.Test.YtkkgolgmhckgoaaDrawMems
import Derived.Test.YtkkgolgmhckgoaaDrawByte
import Derived.Test.YtkkgolgmhckgoaaMemRead
import Derived.Test.YtkkgolgmhckgoaaMemFns
import Derived.Test.YtkkgolgmhckgoaaSame
import Derived.Test.YtkkgolgmhckgoaaCellsN
import Derived.Deep.RegionHeld3
import Derived.Deep.RegionWith
import Derived.Deep.DrawnRows
namespace Go.Proofs.Ytkkgolgmhckgoaa
open Go.ChangeShapes Go.WideShapes Go.ChangeAt Go.RowKit
set_option linter.unusedVariables false
attribute [local go_sem ↓] Go.wp_at_zero Go.wp_at_succ

theorem calls_int {P : Program} {f : FuncId} {args : Array Value} {w : World} {b b' : Int} {R : World → Prop} (h : Calls P f args w fun e w' => e = .returned (.int .i64 b) ∧ R w') (hb : b = b') : Calls P f args w fun e w' => e = .returned (.int .i64 b') ∧ R w' := hb ▸ h
theorem calls_made {P : Program} {f : FuncId} {args : Array Value} {w : World} {ram ram' : List Int} {rom rom' : List (List Int)} {bank bank' : Int} (h : Calls P f args w (MadeMem ram rom bank w)) (h1 : ram = ram') (h2 : rom = rom') (h3 : bank = bank') : Calls P f args w (MadeMem ram' rom' bank' w) := by
  subst h1 h2 h3; exact h
theorem MemV.drew1 {w : World} {v : Value} {ram : List Int} {rom : List (List Int)} {bank : Int} (h : MemV w v ram rom bank) : MemV w.drew v ram rom bank := h.below (Below.refl _ _).drew
theorem sameInts_yes {v u : Value} {xs : List Int} {w : World} (h : Ints w v xs) (g : Ints w u xs) : Calls Try.prog 18 #[v, u] w fun e w' => e = .returned (.bool true) ∧ Below w.heap.size w w' :=
  (laws_sameInts h g).mono fun _ _ ⟨he, q⟩ => ⟨by rw [he]; simp, q.below⟩
theorem sameRows_yes {v u : Value} {xs : List (List Int)} {w : World} (h : Mat w v xs) (g : Mat w u xs) : Calls Try.prog 34 #[v, u] w fun e w' => e = .returned (.bool true) ∧ Below w.heap.size w w' :=
  (sameRows_b h g).mono fun _ _ ⟨he, q⟩ => ⟨by rw [he]; simp, q⟩
theorem ints_all {w : World} {a : Option Addr} {n c : Nat} {zs : List Int} (h : Ints w (.slice a n c) zs) (hk : 0 < zs.length) : ∃ b off, a = some ⟨b, off, none⟩ ∧ ∀ i, i < zs.length → w.cell? ⟨b, off + i, none⟩ = some (.int .i64 (zs.getD i 0)) := by
  obtain ⟨a', c', e, h1, h2, h3⟩ := h
  injection e with e1 e2 e3
  subst e1 e2 e3
  rcases h3 with h0 | ⟨b, off, rfl, hc⟩
  · rw [h0] at hk; simp at hk
  · exact ⟨b, off, rfl, hc⟩
theorem six_row {W : World} {b : Nat} {x y z : Value} (h : Six W b x y z) : W.cell? ⟨b, 0, none⟩ = some x ∧ W.cell? ⟨b, 1, none⟩ = some y ∧ W.cell? ⟨b, 2, none⟩ = some z := ⟨h.1, h.2.1, h.2.2.1⟩
theorem not_poked {ram : List Int} {p x : Int} {k : Nat} (h : (pokeR ram p x).getD k 0 ≠ ram.getD k 0) (hp : 0 ≤ p) : p < 512 ∧ p % 256 = (k : Int) := by
  unfold pokeR at h
  split at h
  · refine ⟨by assumption, ?_⟩
    apply Classical.byContradiction
    intro hk
    apply h
    rw [List.getD_eq_getElem?_getD, List.getD_eq_getElem?_getD, List.getElem?_set_ne (by omega)]
  · exact absurd rfl h
set_option maxHeartbeats 8000000 in
set_option maxRecDepth 20000 in
theorem walk_FnWriteMemory (v0 : Value) (w : World) (y0 : IsBytes w v0) : Calls Try.prog 7 #[v0] w fun e w' => e = .returned (.bool true) ∧ Below w.heap.size w w' := by
  have hY := Lib.hid y0
  obtain ⟨a, len, cap, zs, rfl, _⟩ := y0
  by_cases hl : (1048576 : Int) < (len : Int)
  · go_enter Try.func7, Try.ntmps7
    go_wp2_with fail
    go_ret
    exact ⟨rfl, Below.refl _ _⟩
  go_enter Try.func7, Try.ntmps7
  go_wp2_with fail
  refine (draw_WriteMemory hY.out).mono ?_
  rintro e w1 ⟨v1, ram, rom, bank, p, x, rfl, hm, hr1, hr2, hr3, hb1⟩
  have HM := Lib.hid hm
  have hB1 := Lib.hid hb1
  obtain ⟨xa, xc, xb, xd, rfl, k1, k2, k3, k4⟩ := memV_shape hm
  clear hm hb1
  cases hv : memB ram rom bank
  · have HBAD : Hid (wrOk ram rom bank p x = false) := by show wrOk ram rom bank p x = false; simp [wrOk, hv]
    have HX0 := Lib.hid (rfl : byteB x = byteB x)
    obtain ⟨ea, eb, ec⟩ := wr_no HBAD.out
    have EA := Lib.hid ea
    have EB := Lib.hid eb
    have EF := Lib.hid ec
    clear ea eb ec
    have hBn : Hid (ram.length ≤ 256) := hr1
    go_upto_region 5 with fail
    obtain ⟨Y, hY0⟩ : ∃ Y, Y = w1.alloc (.cells #[.slice xa ram.length xc, .slice xb rom.length xd, .int .i64 bank] 37) := ⟨_, rfl⟩
    have tY : Hid (Six Y w1.heap.size (.slice xa ram.length xc) (.slice xb rom.length xd) (.int .i64 bank)) := by rw [hY0]; exact six_lit rfl
    have b1Y : Hid (Below w1.heap.size w1 Y) := by rw [hY0]; exact (Below.refl _ _).alloc (Nat.le_refl _) _
    have HIY : Hid (Ints Y (.slice xa ram.length xc) ram) := by rw [hY0]; exact (memV_parts HM.out).1.alloc _
    rw [← hY0]
    clear hY0
    obtain ⟨y10, y11, y12, y13, y14, y15⟩ := id tY.out
    have hYl : w1.heap.size < Y.heap.size := block_lt_of_cell y10
    go_wp2_with (at_builtin; go_loud (refine wp_appI rfl _ _ rfl Y.heap.size (.slice (some ⟨_, 0, none⟩) 0 0) (.slice xa ram.length xc) [] ram rfl rfl (ownV_lit0 (Nat.le_refl _) rfl) (HIY.out.alloc _) (by have := hBn.out; simp; omega) (by simp) ?_); intro vb w2 ow2 hg2 _; (have hb2 := Lib.hid (below_own0 ((Below.refl Y.heap.size Y).alloc (Nat.le_refl _) _) hg2 (by simp) (Nat.le_refl _))); (have IB : Hid (Ints w2 vb ram) := (OwnV.own (xs := ram) ow2).ints); clear ow2 hg2; (have t2 := six_below hb2.out tY.out); obtain ⟨x20, x21, x22, x23, x24, x25⟩ := id t2)
    have b12 : Hid (Below w1.heap.size w1 w2) := b1Y.out.trans (hb2.out.mono b1Y.out.size)
    clear y10 y11 y12 y13 y14 y15 hb2
    refine (calls_made (impl_WriteMemory p x (HM.out.below b12.out)) EA.out EB.out EF.out).mono ?_
    rintro e w3 ⟨v3, rfl, o3, hb3⟩
    have t3 := six_below hb3 t2
    have b13 : Hid (Below w1.heap.size w1 w3) := b12.out.trans (hb3.mono b12.out.size)
    have IB3 : Hid (Ints w3 vb ram) := IB.out.below hb3
    have HX := Lib.hid o3.mem
    obtain ⟨ya, yc, yb, yd, rfl, k1, k2, k3, k4⟩ := memV_shape o3.mem
    clear o3 hb3 t2 x20 x21 x22 x23 x24 x25 k1 k2 k3 k4 IB
    obtain ⟨x30, x31, x32, x33, x34, x35⟩ := id t3
    have hw3 : w1.heap.size < w3.heap.size := block_lt_of_cell x30
    go_upto_region 7 with fail
    obtain ⟨Z, hZ0⟩ : ∃ Z, Z = w3.alloc (.cells #[.slice ya 0 yc, .slice yb 0 yd, .int .i64 0] 37) := ⟨_, rfl⟩
    have tZ : Hid (Six Z w3.heap.size (.slice ya 0 yc) (.slice yb 0 yd) (.int .i64 0)) := by rw [hZ0]; exact six_lit rfl
    have b3Z : Hid (Below w3.heap.size w3 Z) := by rw [hZ0]; exact (Below.refl _ _).alloc (Nat.le_refl _) _
    have b1Z : Hid (Below w1.heap.size w1 Z) := b13.out.trans (b3Z.out.mono b13.out.size)
    have tM : Hid (Six Z w1.heap.size (.slice xa ram.length xc) (.slice xb rom.length xd) (.int .i64 bank)) := six_below b3Z.out t3
    have SZ : Hid (Z.cell? ⟨w1.heap.size, 0, none⟩ = some (.slice xa ram.length xc) ∧ Z.cell? ⟨w1.heap.size, 1, none⟩ = some (.slice xb rom.length xd) ∧ Z.cell? ⟨w1.heap.size, 2, none⟩ = some (.int .i64 bank) ∧ Z.cell? ⟨w3.heap.size, 0, none⟩ = some (.slice ya 0 yc) ∧ Z.cell? ⟨w3.heap.size, 1, none⟩ = some (.slice yb 0 yd) ∧ Z.cell? ⟨w3.heap.size, 2, none⟩ = some (.int .i64 0)) := by
      obtain ⟨s0, s1, s2⟩ := six_row tM.out
      obtain ⟨s3, s4, s5⟩ := six_row tZ.out
      exact ⟨s0, s1, s2, s3, s4, s5⟩
    have IBZ : Hid (Ints Z vb ram) := IB3.out.below b3Z.out
    have HXZ : Hid (MemV Z (.agg #[.slice ya 0 yc, .slice yb 0 yd, .int .i64 0]) [] [] 0) := HX.out.below b3Z.out
    rw [← hZ0]
    clear hZ0 HX IB3 t3 x30 x31 x32 x33 x34 x35 HIY tY b1Y
    have hwZ : w3.heap.size < Z.heap.size := block_lt_of_cell tZ.out.1
    have hwZ1 : w1.heap.size < Z.heap.size := block_lt_of_cell tM.out.1
    go_region_held3 (fun w' => w'.cell? ⟨w1.heap.size, 0, none⟩ = some (.slice xa ram.length xc) ∧ w'.cell? ⟨w1.heap.size, 1, none⟩ = some (.slice xb rom.length xd) ∧ w'.cell? ⟨w1.heap.size, 2, none⟩ = some (.int .i64 bank) ∧ w'.cell? ⟨w3.heap.size, 0, none⟩ = some (.slice ya 0 yc) ∧ w'.cell? ⟨w3.heap.size, 1, none⟩ = some (.slice yb 0 yd) ∧ w'.cell? ⟨w3.heap.size, 2, none⟩ = some (.int .i64 0)) (first | with_reducible exact SZ.out | with_reducible exact cells6_drew SZ.out | with_reducible exact S5.out | with_reducible exact S6.out | with_reducible exact S7.out | with_reducible exact cells6_drew S5.out | with_reducible exact cells6_drew S6.out | with_reducible exact cells6_drew S7.out)
      (first
        | (go_at_call 18; go_loud (refine (sameInts_yes ((memV_parts HM.out).1.below b16.out) (IBZ.out.below bZ6.out)).mono ?_; rintro e w7 ⟨rfl, hb7⟩; (have S7 := Lib.hid (cells6_below hb7 S6.out)); (have bZ7 : Hid (Below Z.heap.size Z w7) := bZ6.out.trans (hb7.mono bZ6.out.size)); (have b17 : Hid (Below w1.heap.size w1 w7) := b16.out.trans (hb7.mono b16.out.size))))
        | (go_at_call 26; go_loud (refine (laws_sameMemory (HXZ.out.below bZ5.out) o5.mem).mono ?_; rintro e w6 ⟨rfl, hb6⟩; (have S6 := Lib.hid (cells6_below hb6 S5.out)); (have bZ6 : Hid (Below Z.heap.size Z w6) := bZ5.out.trans (hb6.mono bZ5.out.size)); (have b16 : Hid (Below w1.heap.size w1 w6) := b15.out.trans (hb6.mono b15.out.size))))
        | (go_at_call 32; go_loud (refine (calls_made (spec_WriteMemory p x (HM.out.below b1Z.out.drew)) EA.out EB.out EF.out).mono ?_; rintro e w5 ⟨v5, rfl, o5, hb5⟩; (have S5 := Lib.hid (cells6_below hb5 (cells6_drew SZ.out))); (have bZ5 : Hid (Below Z.heap.size Z w5) := ((Below.refl _ _).drew).trans hb5); (have b15 : Hid (Below w1.heap.size w1 w5) := b1Z.out.drew.trans (hb5.mono b1Z.out.size)))))
    all_goals
      have hB7 : Hid (Below w.heap.size w w7) := hB1.out.trans (b17.out.mono hB1.out.size)
      obtain ⟨x70, x71, x72, x73, x74, x75⟩ := id S7.out
      go_wp2_with fail
      refine (calls_eqv (spec_MemoryValid (HM.out.below b17.out)) hv).mono ?_
      rintro e w8 ⟨rfl, hb8⟩
      have hB8 : Hid (Below w.heap.size w w8) := hB7.out.trans (hb8.mono hB7.out.size)
      obtain ⟨x80, x81, x82, x83, x84, x85⟩ := id (cells6_below hb8 S7.out)
      go_wp2_with (first | (go_at_call 33; refine (calls_eqv (laws_isByte _ _) HX0.out).mono ?_; rintro e w' ⟨rfl, rfl⟩) | (go_at_call 16; refine (laws_alive _).mono ?_; rintro e w' ⟨rfl, rfl⟩))
      go_ret
      exact ⟨rfl, hB8.out⟩
  by_cases hp0 : p < 0
  · have HBAD : Hid (wrOk ram rom bank p x = false) := by show wrOk ram rom bank p x = false; simp [wrOk, inR]; omega
    have HX0 := Lib.hid (rfl : byteB x = byteB x)
    obtain ⟨ea, eb, ec⟩ := wr_no HBAD.out
    have EA := Lib.hid ea
    have EB := Lib.hid eb
    have EF := Lib.hid ec
    clear ea eb ec
    have hBn : Hid (ram.length ≤ 256) := hr1
    go_upto_region 5 with fail
    obtain ⟨Y, hY0⟩ : ∃ Y, Y = w1.alloc (.cells #[.slice xa ram.length xc, .slice xb rom.length xd, .int .i64 bank] 37) := ⟨_, rfl⟩
    have tY : Hid (Six Y w1.heap.size (.slice xa ram.length xc) (.slice xb rom.length xd) (.int .i64 bank)) := by rw [hY0]; exact six_lit rfl
    have b1Y : Hid (Below w1.heap.size w1 Y) := by rw [hY0]; exact (Below.refl _ _).alloc (Nat.le_refl _) _
    have HIY : Hid (Ints Y (.slice xa ram.length xc) ram) := by rw [hY0]; exact (memV_parts HM.out).1.alloc _
    rw [← hY0]
    clear hY0
    obtain ⟨y10, y11, y12, y13, y14, y15⟩ := id tY.out
    have hYl : w1.heap.size < Y.heap.size := block_lt_of_cell y10
    go_wp2_with (at_builtin; go_loud (refine wp_appI rfl _ _ rfl Y.heap.size (.slice (some ⟨_, 0, none⟩) 0 0) (.slice xa ram.length xc) [] ram rfl rfl (ownV_lit0 (Nat.le_refl _) rfl) (HIY.out.alloc _) (by have := hBn.out; simp; omega) (by simp) ?_); intro vb w2 ow2 hg2 _; (have hb2 := Lib.hid (below_own0 ((Below.refl Y.heap.size Y).alloc (Nat.le_refl _) _) hg2 (by simp) (Nat.le_refl _))); (have IB : Hid (Ints w2 vb ram) := (OwnV.own (xs := ram) ow2).ints); clear ow2 hg2; (have t2 := six_below hb2.out tY.out); obtain ⟨x20, x21, x22, x23, x24, x25⟩ := id t2)
    have b12 : Hid (Below w1.heap.size w1 w2) := b1Y.out.trans (hb2.out.mono b1Y.out.size)
    clear y10 y11 y12 y13 y14 y15 hb2
    refine (calls_made (impl_WriteMemory p x (HM.out.below b12.out)) EA.out EB.out EF.out).mono ?_
    rintro e w3 ⟨v3, rfl, o3, hb3⟩
    have t3 := six_below hb3 t2
    have b13 : Hid (Below w1.heap.size w1 w3) := b12.out.trans (hb3.mono b12.out.size)
    have IB3 : Hid (Ints w3 vb ram) := IB.out.below hb3
    have HX := Lib.hid o3.mem
    obtain ⟨ya, yc, yb, yd, rfl, k1, k2, k3, k4⟩ := memV_shape o3.mem
    clear o3 hb3 t2 x20 x21 x22 x23 x24 x25 k1 k2 k3 k4 IB
    obtain ⟨x30, x31, x32, x33, x34, x35⟩ := id t3
    have hw3 : w1.heap.size < w3.heap.size := block_lt_of_cell x30
    go_upto_region 7 with fail
    obtain ⟨Z, hZ0⟩ : ∃ Z, Z = w3.alloc (.cells #[.slice ya 0 yc, .slice yb 0 yd, .int .i64 0] 37) := ⟨_, rfl⟩
    have tZ : Hid (Six Z w3.heap.size (.slice ya 0 yc) (.slice yb 0 yd) (.int .i64 0)) := by rw [hZ0]; exact six_lit rfl
    have b3Z : Hid (Below w3.heap.size w3 Z) := by rw [hZ0]; exact (Below.refl _ _).alloc (Nat.le_refl _) _
    have b1Z : Hid (Below w1.heap.size w1 Z) := b13.out.trans (b3Z.out.mono b13.out.size)
    have tM : Hid (Six Z w1.heap.size (.slice xa ram.length xc) (.slice xb rom.length xd) (.int .i64 bank)) := six_below b3Z.out t3
    have SZ : Hid (Z.cell? ⟨w1.heap.size, 0, none⟩ = some (.slice xa ram.length xc) ∧ Z.cell? ⟨w1.heap.size, 1, none⟩ = some (.slice xb rom.length xd) ∧ Z.cell? ⟨w1.heap.size, 2, none⟩ = some (.int .i64 bank) ∧ Z.cell? ⟨w3.heap.size, 0, none⟩ = some (.slice ya 0 yc) ∧ Z.cell? ⟨w3.heap.size, 1, none⟩ = some (.slice yb 0 yd) ∧ Z.cell? ⟨w3.heap.size, 2, none⟩ = some (.int .i64 0)) := by
      obtain ⟨s0, s1, s2⟩ := six_row tM.out
      obtain ⟨s3, s4, s5⟩ := six_row tZ.out
      exact ⟨s0, s1, s2, s3, s4, s5⟩
    have IBZ : Hid (Ints Z vb ram) := IB3.out.below b3Z.out
    have HXZ : Hid (MemV Z (.agg #[.slice ya 0 yc, .slice yb 0 yd, .int .i64 0]) [] [] 0) := HX.out.below b3Z.out
    rw [← hZ0]
    clear hZ0 HX IB3 t3 x30 x31 x32 x33 x34 x35 HIY tY b1Y
    have hwZ : w3.heap.size < Z.heap.size := block_lt_of_cell tZ.out.1
    have hwZ1 : w1.heap.size < Z.heap.size := block_lt_of_cell tM.out.1
    go_region_held3 (fun w' => w'.cell? ⟨w1.heap.size, 0, none⟩ = some (.slice xa ram.length xc) ∧ w'.cell? ⟨w1.heap.size, 1, none⟩ = some (.slice xb rom.length xd) ∧ w'.cell? ⟨w1.heap.size, 2, none⟩ = some (.int .i64 bank) ∧ w'.cell? ⟨w3.heap.size, 0, none⟩ = some (.slice ya 0 yc) ∧ w'.cell? ⟨w3.heap.size, 1, none⟩ = some (.slice yb 0 yd) ∧ w'.cell? ⟨w3.heap.size, 2, none⟩ = some (.int .i64 0)) (first | with_reducible exact SZ.out | with_reducible exact cells6_drew SZ.out | with_reducible exact S5.out | with_reducible exact S6.out | with_reducible exact S7.out | with_reducible exact cells6_drew S5.out | with_reducible exact cells6_drew S6.out | with_reducible exact cells6_drew S7.out)
      (first
        | (go_at_call 18; go_loud (refine (sameInts_yes ((memV_parts HM.out).1.below b16.out) (IBZ.out.below bZ6.out)).mono ?_; rintro e w7 ⟨rfl, hb7⟩; (have S7 := Lib.hid (cells6_below hb7 S6.out)); (have bZ7 : Hid (Below Z.heap.size Z w7) := bZ6.out.trans (hb7.mono bZ6.out.size)); (have b17 : Hid (Below w1.heap.size w1 w7) := b16.out.trans (hb7.mono b16.out.size))))
        | (go_at_call 26; go_loud (refine (laws_sameMemory (HXZ.out.below bZ5.out) o5.mem).mono ?_; rintro e w6 ⟨rfl, hb6⟩; (have S6 := Lib.hid (cells6_below hb6 S5.out)); (have bZ6 : Hid (Below Z.heap.size Z w6) := bZ5.out.trans (hb6.mono bZ5.out.size)); (have b16 : Hid (Below w1.heap.size w1 w6) := b15.out.trans (hb6.mono b15.out.size))))
        | (go_at_call 32; go_loud (refine (calls_made (spec_WriteMemory p x (HM.out.below b1Z.out.drew)) EA.out EB.out EF.out).mono ?_; rintro e w5 ⟨v5, rfl, o5, hb5⟩; (have S5 := Lib.hid (cells6_below hb5 (cells6_drew SZ.out))); (have bZ5 : Hid (Below Z.heap.size Z w5) := ((Below.refl _ _).drew).trans hb5); (have b15 : Hid (Below w1.heap.size w1 w5) := b1Z.out.drew.trans (hb5.mono b1Z.out.size)))))
    all_goals
      have hB7 : Hid (Below w.heap.size w w7) := hB1.out.trans (b17.out.mono hB1.out.size)
      obtain ⟨x70, x71, x72, x73, x74, x75⟩ := id S7.out
      go_wp2_with fail
      refine (calls_eqv (spec_MemoryValid (HM.out.below b17.out)) hv).mono ?_
      rintro e w8 ⟨rfl, hb8⟩
      have hB8 : Hid (Below w.heap.size w w8) := hB7.out.trans (hb8.mono hB7.out.size)
      obtain ⟨x80, x81, x82, x83, x84, x85⟩ := id (cells6_below hb8 S7.out)
      go_wp2_with (first | (go_at_call 33; refine (calls_eqv (laws_isByte _ _) HX0.out).mono ?_; rintro e w' ⟨rfl, rfl⟩) | (go_at_call 16; refine (laws_alive _).mono ?_; rintro e w' ⟨rfl, rfl⟩))
      go_ret
      exact ⟨rfl, hB8.out⟩
  by_cases hp1 : 1023 < p
  · have HBAD : Hid (wrOk ram rom bank p x = false) := by show wrOk ram rom bank p x = false; simp [wrOk, inR]; omega
    have HX0 := Lib.hid (rfl : byteB x = byteB x)
    obtain ⟨ea, eb, ec⟩ := wr_no HBAD.out
    have EA := Lib.hid ea
    have EB := Lib.hid eb
    have EF := Lib.hid ec
    clear ea eb ec
    have hBn : Hid (ram.length ≤ 256) := hr1
    go_upto_region 5 with fail
    obtain ⟨Y, hY0⟩ : ∃ Y, Y = w1.alloc (.cells #[.slice xa ram.length xc, .slice xb rom.length xd, .int .i64 bank] 37) := ⟨_, rfl⟩
    have tY : Hid (Six Y w1.heap.size (.slice xa ram.length xc) (.slice xb rom.length xd) (.int .i64 bank)) := by rw [hY0]; exact six_lit rfl
    have b1Y : Hid (Below w1.heap.size w1 Y) := by rw [hY0]; exact (Below.refl _ _).alloc (Nat.le_refl _) _
    have HIY : Hid (Ints Y (.slice xa ram.length xc) ram) := by rw [hY0]; exact (memV_parts HM.out).1.alloc _
    rw [← hY0]
    clear hY0
    obtain ⟨y10, y11, y12, y13, y14, y15⟩ := id tY.out
    have hYl : w1.heap.size < Y.heap.size := block_lt_of_cell y10
    go_wp2_with (at_builtin; go_loud (refine wp_appI rfl _ _ rfl Y.heap.size (.slice (some ⟨_, 0, none⟩) 0 0) (.slice xa ram.length xc) [] ram rfl rfl (ownV_lit0 (Nat.le_refl _) rfl) (HIY.out.alloc _) (by have := hBn.out; simp; omega) (by simp) ?_); intro vb w2 ow2 hg2 _; (have hb2 := Lib.hid (below_own0 ((Below.refl Y.heap.size Y).alloc (Nat.le_refl _) _) hg2 (by simp) (Nat.le_refl _))); (have IB : Hid (Ints w2 vb ram) := (OwnV.own (xs := ram) ow2).ints); clear ow2 hg2; (have t2 := six_below hb2.out tY.out); obtain ⟨x20, x21, x22, x23, x24, x25⟩ := id t2)
    have b12 : Hid (Below w1.heap.size w1 w2) := b1Y.out.trans (hb2.out.mono b1Y.out.size)
    clear y10 y11 y12 y13 y14 y15 hb2
    refine (calls_made (impl_WriteMemory p x (HM.out.below b12.out)) EA.out EB.out EF.out).mono ?_
    rintro e w3 ⟨v3, rfl, o3, hb3⟩
    have t3 := six_below hb3 t2
    have b13 : Hid (Below w1.heap.size w1 w3) := b12.out.trans (hb3.mono b12.out.size)
    have IB3 : Hid (Ints w3 vb ram) := IB.out.below hb3
    have HX := Lib.hid o3.mem
    obtain ⟨ya, yc, yb, yd, rfl, k1, k2, k3, k4⟩ := memV_shape o3.mem
    clear o3 hb3 t2 x20 x21 x22 x23 x24 x25 k1 k2 k3 k4 IB
    obtain ⟨x30, x31, x32, x33, x34, x35⟩ := id t3
    have hw3 : w1.heap.size < w3.heap.size := block_lt_of_cell x30
    go_upto_region 7 with fail
    obtain ⟨Z, hZ0⟩ : ∃ Z, Z = w3.alloc (.cells #[.slice ya 0 yc, .slice yb 0 yd, .int .i64 0] 37) := ⟨_, rfl⟩
    have tZ : Hid (Six Z w3.heap.size (.slice ya 0 yc) (.slice yb 0 yd) (.int .i64 0)) := by rw [hZ0]; exact six_lit rfl
    have b3Z : Hid (Below w3.heap.size w3 Z) := by rw [hZ0]; exact (Below.refl _ _).alloc (Nat.le_refl _) _
    have b1Z : Hid (Below w1.heap.size w1 Z) := b13.out.trans (b3Z.out.mono b13.out.size)
    have tM : Hid (Six Z w1.heap.size (.slice xa ram.length xc) (.slice xb rom.length xd) (.int .i64 bank)) := six_below b3Z.out t3
    have SZ : Hid (Z.cell? ⟨w1.heap.size, 0, none⟩ = some (.slice xa ram.length xc) ∧ Z.cell? ⟨w1.heap.size, 1, none⟩ = some (.slice xb rom.length xd) ∧ Z.cell? ⟨w1.heap.size, 2, none⟩ = some (.int .i64 bank) ∧ Z.cell? ⟨w3.heap.size, 0, none⟩ = some (.slice ya 0 yc) ∧ Z.cell? ⟨w3.heap.size, 1, none⟩ = some (.slice yb 0 yd) ∧ Z.cell? ⟨w3.heap.size, 2, none⟩ = some (.int .i64 0)) := by
      obtain ⟨s0, s1, s2⟩ := six_row tM.out
      obtain ⟨s3, s4, s5⟩ := six_row tZ.out
      exact ⟨s0, s1, s2, s3, s4, s5⟩
    have IBZ : Hid (Ints Z vb ram) := IB3.out.below b3Z.out
    have HXZ : Hid (MemV Z (.agg #[.slice ya 0 yc, .slice yb 0 yd, .int .i64 0]) [] [] 0) := HX.out.below b3Z.out
    rw [← hZ0]
    clear hZ0 HX IB3 t3 x30 x31 x32 x33 x34 x35 HIY tY b1Y
    have hwZ : w3.heap.size < Z.heap.size := block_lt_of_cell tZ.out.1
    have hwZ1 : w1.heap.size < Z.heap.size := block_lt_of_cell tM.out.1
    go_region_held3 (fun w' => w'.cell? ⟨w1.heap.size, 0, none⟩ = some (.slice xa ram.length xc) ∧ w'.cell? ⟨w1.heap.size, 1, none⟩ = some (.slice xb rom.length xd) ∧ w'.cell? ⟨w1.heap.size, 2, none⟩ = some (.int .i64 bank) ∧ w'.cell? ⟨w3.heap.size, 0, none⟩ = some (.slice ya 0 yc) ∧ w'.cell? ⟨w3.heap.size, 1, none⟩ = some (.slice yb 0 yd) ∧ w'.cell? ⟨w3.heap.size, 2, none⟩ = some (.int .i64 0)) (first | with_reducible exact SZ.out | with_reducible exact cells6_drew SZ.out | with_reducible exact S5.out | with_reducible exact S6.out | with_reducible exact S7.out | with_reducible exact cells6_drew S5.out | with_reducible exact cells6_drew S6.out | with_reducible exact cells6_drew S7.out)
      (first
        | (go_at_call 18; go_loud (refine (sameInts_yes ((memV_parts HM.out).1.below b16.out) (IBZ.out.below bZ6.out)).mono ?_; rintro e w7 ⟨rfl, hb7⟩; (have S7 := Lib.hid (cells6_below hb7 S6.out)); (have bZ7 : Hid (Below Z.heap.size Z w7) := bZ6.out.trans (hb7.mono bZ6.out.size)); (have b17 : Hid (Below w1.heap.size w1 w7) := b16.out.trans (hb7.mono b16.out.size))))
        | (go_at_call 26; go_loud (refine (laws_sameMemory (HXZ.out.below bZ5.out) o5.mem).mono ?_; rintro e w6 ⟨rfl, hb6⟩; (have S6 := Lib.hid (cells6_below hb6 S5.out)); (have bZ6 : Hid (Below Z.heap.size Z w6) := bZ5.out.trans (hb6.mono bZ5.out.size)); (have b16 : Hid (Below w1.heap.size w1 w6) := b15.out.trans (hb6.mono b15.out.size))))
        | (go_at_call 32; go_loud (refine (calls_made (spec_WriteMemory p x (HM.out.below b1Z.out.drew)) EA.out EB.out EF.out).mono ?_; rintro e w5 ⟨v5, rfl, o5, hb5⟩; (have S5 := Lib.hid (cells6_below hb5 (cells6_drew SZ.out))); (have bZ5 : Hid (Below Z.heap.size Z w5) := ((Below.refl _ _).drew).trans hb5); (have b15 : Hid (Below w1.heap.size w1 w5) := b1Z.out.drew.trans (hb5.mono b1Z.out.size)))))
    all_goals
      have hB7 : Hid (Below w.heap.size w w7) := hB1.out.trans (b17.out.mono hB1.out.size)
      obtain ⟨x70, x71, x72, x73, x74, x75⟩ := id S7.out
      go_wp2_with fail
      refine (calls_eqv (spec_MemoryValid (HM.out.below b17.out)) hv).mono ?_
      rintro e w8 ⟨rfl, hb8⟩
      have hB8 : Hid (Below w.heap.size w w8) := hB7.out.trans (hb8.mono hB7.out.size)
      obtain ⟨x80, x81, x82, x83, x84, x85⟩ := id (cells6_below hb8 S7.out)
      go_wp2_with (first | (go_at_call 33; refine (calls_eqv (laws_isByte _ _) HX0.out).mono ?_; rintro e w' ⟨rfl, rfl⟩) | (go_at_call 16; refine (laws_alive _).mono ?_; rintro e w' ⟨rfl, rfl⟩))
      go_ret
      exact ⟨rfl, hB8.out⟩
  cases hx : byteB x
  · have HBAD : Hid (wrOk ram rom bank p x = false) := by show wrOk ram rom bank p x = false; simp [wrOk, hx]
    have HX0 := Lib.hid hx
    clear hx
    obtain ⟨ea, eb, ec⟩ := wr_no HBAD.out
    have EA := Lib.hid ea
    have EB := Lib.hid eb
    have EF := Lib.hid ec
    clear ea eb ec
    have hBn : Hid (ram.length ≤ 256) := hr1
    go_upto_region 5 with fail
    obtain ⟨Y, hY0⟩ : ∃ Y, Y = w1.alloc (.cells #[.slice xa ram.length xc, .slice xb rom.length xd, .int .i64 bank] 37) := ⟨_, rfl⟩
    have tY : Hid (Six Y w1.heap.size (.slice xa ram.length xc) (.slice xb rom.length xd) (.int .i64 bank)) := by rw [hY0]; exact six_lit rfl
    have b1Y : Hid (Below w1.heap.size w1 Y) := by rw [hY0]; exact (Below.refl _ _).alloc (Nat.le_refl _) _
    have HIY : Hid (Ints Y (.slice xa ram.length xc) ram) := by rw [hY0]; exact (memV_parts HM.out).1.alloc _
    rw [← hY0]
    clear hY0
    obtain ⟨y10, y11, y12, y13, y14, y15⟩ := id tY.out
    have hYl : w1.heap.size < Y.heap.size := block_lt_of_cell y10
    go_wp2_with (at_builtin; go_loud (refine wp_appI rfl _ _ rfl Y.heap.size (.slice (some ⟨_, 0, none⟩) 0 0) (.slice xa ram.length xc) [] ram rfl rfl (ownV_lit0 (Nat.le_refl _) rfl) (HIY.out.alloc _) (by have := hBn.out; simp; omega) (by simp) ?_); intro vb w2 ow2 hg2 _; (have hb2 := Lib.hid (below_own0 ((Below.refl Y.heap.size Y).alloc (Nat.le_refl _) _) hg2 (by simp) (Nat.le_refl _))); (have IB : Hid (Ints w2 vb ram) := (OwnV.own (xs := ram) ow2).ints); clear ow2 hg2; (have t2 := six_below hb2.out tY.out); obtain ⟨x20, x21, x22, x23, x24, x25⟩ := id t2)
    have b12 : Hid (Below w1.heap.size w1 w2) := b1Y.out.trans (hb2.out.mono b1Y.out.size)
    clear y10 y11 y12 y13 y14 y15 hb2
    refine (calls_made (impl_WriteMemory p x (HM.out.below b12.out)) EA.out EB.out EF.out).mono ?_
    rintro e w3 ⟨v3, rfl, o3, hb3⟩
    have t3 := six_below hb3 t2
    have b13 : Hid (Below w1.heap.size w1 w3) := b12.out.trans (hb3.mono b12.out.size)
    have IB3 : Hid (Ints w3 vb ram) := IB.out.below hb3
    have HX := Lib.hid o3.mem
    obtain ⟨ya, yc, yb, yd, rfl, k1, k2, k3, k4⟩ := memV_shape o3.mem
    clear o3 hb3 t2 x20 x21 x22 x23 x24 x25 k1 k2 k3 k4 IB
    obtain ⟨x30, x31, x32, x33, x34, x35⟩ := id t3
    have hw3 : w1.heap.size < w3.heap.size := block_lt_of_cell x30
    go_upto_region 7 with fail
    obtain ⟨Z, hZ0⟩ : ∃ Z, Z = w3.alloc (.cells #[.slice ya 0 yc, .slice yb 0 yd, .int .i64 0] 37) := ⟨_, rfl⟩
    have tZ : Hid (Six Z w3.heap.size (.slice ya 0 yc) (.slice yb 0 yd) (.int .i64 0)) := by rw [hZ0]; exact six_lit rfl
    have b3Z : Hid (Below w3.heap.size w3 Z) := by rw [hZ0]; exact (Below.refl _ _).alloc (Nat.le_refl _) _
    have b1Z : Hid (Below w1.heap.size w1 Z) := b13.out.trans (b3Z.out.mono b13.out.size)
    have tM : Hid (Six Z w1.heap.size (.slice xa ram.length xc) (.slice xb rom.length xd) (.int .i64 bank)) := six_below b3Z.out t3
    have SZ : Hid (Z.cell? ⟨w1.heap.size, 0, none⟩ = some (.slice xa ram.length xc) ∧ Z.cell? ⟨w1.heap.size, 1, none⟩ = some (.slice xb rom.length xd) ∧ Z.cell? ⟨w1.heap.size, 2, none⟩ = some (.int .i64 bank) ∧ Z.cell? ⟨w3.heap.size, 0, none⟩ = some (.slice ya 0 yc) ∧ Z.cell? ⟨w3.heap.size, 1, none⟩ = some (.slice yb 0 yd) ∧ Z.cell? ⟨w3.heap.size, 2, none⟩ = some (.int .i64 0)) := by
      obtain ⟨s0, s1, s2⟩ := six_row tM.out
      obtain ⟨s3, s4, s5⟩ := six_row tZ.out
      exact ⟨s0, s1, s2, s3, s4, s5⟩
    have IBZ : Hid (Ints Z vb ram) := IB3.out.below b3Z.out
    have HXZ : Hid (MemV Z (.agg #[.slice ya 0 yc, .slice yb 0 yd, .int .i64 0]) [] [] 0) := HX.out.below b3Z.out
    rw [← hZ0]
    clear hZ0 HX IB3 t3 x30 x31 x32 x33 x34 x35 HIY tY b1Y
    have hwZ : w3.heap.size < Z.heap.size := block_lt_of_cell tZ.out.1
    have hwZ1 : w1.heap.size < Z.heap.size := block_lt_of_cell tM.out.1
    go_region_held3 (fun w' => w'.cell? ⟨w1.heap.size, 0, none⟩ = some (.slice xa ram.length xc) ∧ w'.cell? ⟨w1.heap.size, 1, none⟩ = some (.slice xb rom.length xd) ∧ w'.cell? ⟨w1.heap.size, 2, none⟩ = some (.int .i64 bank) ∧ w'.cell? ⟨w3.heap.size, 0, none⟩ = some (.slice ya 0 yc) ∧ w'.cell? ⟨w3.heap.size, 1, none⟩ = some (.slice yb 0 yd) ∧ w'.cell? ⟨w3.heap.size, 2, none⟩ = some (.int .i64 0)) (first | with_reducible exact SZ.out | with_reducible exact cells6_drew SZ.out | with_reducible exact S5.out | with_reducible exact S6.out | with_reducible exact S7.out | with_reducible exact cells6_drew S5.out | with_reducible exact cells6_drew S6.out | with_reducible exact cells6_drew S7.out)
      (first
        | (go_at_call 18; go_loud (refine (sameInts_yes ((memV_parts HM.out).1.below b16.out) (IBZ.out.below bZ6.out)).mono ?_; rintro e w7 ⟨rfl, hb7⟩; (have S7 := Lib.hid (cells6_below hb7 S6.out)); (have bZ7 : Hid (Below Z.heap.size Z w7) := bZ6.out.trans (hb7.mono bZ6.out.size)); (have b17 : Hid (Below w1.heap.size w1 w7) := b16.out.trans (hb7.mono b16.out.size))))
        | (go_at_call 26; go_loud (refine (laws_sameMemory (HXZ.out.below bZ5.out) o5.mem).mono ?_; rintro e w6 ⟨rfl, hb6⟩; (have S6 := Lib.hid (cells6_below hb6 S5.out)); (have bZ6 : Hid (Below Z.heap.size Z w6) := bZ5.out.trans (hb6.mono bZ5.out.size)); (have b16 : Hid (Below w1.heap.size w1 w6) := b15.out.trans (hb6.mono b15.out.size))))
        | (go_at_call 32; go_loud (refine (calls_made (spec_WriteMemory p x (HM.out.below b1Z.out.drew)) EA.out EB.out EF.out).mono ?_; rintro e w5 ⟨v5, rfl, o5, hb5⟩; (have S5 := Lib.hid (cells6_below hb5 (cells6_drew SZ.out))); (have bZ5 : Hid (Below Z.heap.size Z w5) := ((Below.refl _ _).drew).trans hb5); (have b15 : Hid (Below w1.heap.size w1 w5) := b1Z.out.drew.trans (hb5.mono b1Z.out.size)))))
    all_goals
      have hB7 : Hid (Below w.heap.size w w7) := hB1.out.trans (b17.out.mono hB1.out.size)
      obtain ⟨x70, x71, x72, x73, x74, x75⟩ := id S7.out
      go_wp2_with fail
      refine (calls_eqv (spec_MemoryValid (HM.out.below b17.out)) hv).mono ?_
      rintro e w8 ⟨rfl, hb8⟩
      have hB8 : Hid (Below w.heap.size w w8) := hB7.out.trans (hb8.mono hB7.out.size)
      obtain ⟨x80, x81, x82, x83, x84, x85⟩ := id (cells6_below hb8 S7.out)
      go_wp2_with (first | (go_at_call 33; refine (calls_eqv (laws_isByte _ _) HX0.out).mono ?_; rintro e w' ⟨rfl, rfl⟩) | (go_at_call 16; refine (laws_alive _).mono ?_; rintro e w' ⟨rfl, rfl⟩))
      go_ret
      exact ⟨rfl, hB8.out⟩
  have hok : wrOk ram rom bank p x = true := by
    have : inR p 0 1023 = true := inR_iff.2 (by omega)
    simp [wrOk, hv, hx, this]
  obtain ⟨ea, eb, ec⟩ := wr_yes hok
  obtain ⟨R, hR⟩ : ∃ R, R = pokeR ram p x := ⟨_, rfl⟩
  obtain ⟨BK, hBK⟩ : ∃ BK, BK = pokeB rom bank p x := ⟨_, rfl⟩
  have hs := shp_of hv
  have hRl : R.length = 256 := by rw [hR, pokeR_len]; exact hs.r
  have HVX : Hid (memB R rom BK = true) := by rw [hR, hBK]; exact poke_valid hv hx
  have HRR := Lib.hid hR
  have HBB := Lib.hid hBK
  have HRL := Lib.hid hRl
  have EA : Hid (wrR ram rom bank p x = R) := by rw [hR]; exact ea
  have EB := Lib.hid eb
  have EF : Hid (wrB ram rom bank p x = BK) := by rw [hBK]; exact ec
  have HS := Lib.hid hs
  have HXB := Lib.hid hx
  have HV := Lib.hid hv
  have hr256 := Lib.hid hs.r
  clear ea eb ec hR hBK hRl hs hok hx hv
  have hBn : Hid (ram.length ≤ 256) := hr1
  go_upto_region 5 with fail
  obtain ⟨Y, hY0⟩ : ∃ Y, Y = w1.alloc (.cells #[.slice xa ram.length xc, .slice xb rom.length xd, .int .i64 bank] 37) := ⟨_, rfl⟩
  have tY : Hid (Six Y w1.heap.size (.slice xa ram.length xc) (.slice xb rom.length xd) (.int .i64 bank)) := by rw [hY0]; exact six_lit rfl
  have b1Y : Hid (Below w1.heap.size w1 Y) := by rw [hY0]; exact (Below.refl _ _).alloc (Nat.le_refl _) _
  have HIY : Hid (Ints Y (.slice xa ram.length xc) ram) := by rw [hY0]; exact (memV_parts HM.out).1.alloc _
  rw [← hY0]
  clear hY0
  obtain ⟨y10, y11, y12, y13, y14, y15⟩ := id tY.out
  have hYl : w1.heap.size < Y.heap.size := block_lt_of_cell y10
  go_wp2_with (at_builtin; go_loud (refine wp_appI rfl _ _ rfl Y.heap.size (.slice (some ⟨_, 0, none⟩) 0 0) (.slice xa ram.length xc) [] ram rfl rfl (ownV_lit0 (Nat.le_refl _) rfl) (HIY.out.alloc _) (by have := hBn.out; simp; omega) (by simp) ?_); intro vb w2 ow2 hg2 _; (have hb2 := Lib.hid (below_own0 ((Below.refl Y.heap.size Y).alloc (Nat.le_refl _) _) hg2 (by simp) (Nat.le_refl _))); (have IB : Hid (Ints w2 vb ram) := (OwnV.own (xs := ram) ow2).ints); clear ow2 hg2; (have t2 := six_below hb2.out tY.out); obtain ⟨x20, x21, x22, x23, x24, x25⟩ := id t2)
  have b12 : Hid (Below w1.heap.size w1 w2) := b1Y.out.trans (hb2.out.mono b1Y.out.size)
  clear y10 y11 y12 y13 y14 y15 hb2
  refine (calls_made (impl_WriteMemory p x (HM.out.below b12.out)) EA.out EB.out EF.out).mono ?_
  rintro e w3 ⟨v3, rfl, o3, hb3⟩
  have t3 := six_below hb3 t2
  have b13 : Hid (Below w1.heap.size w1 w3) := b12.out.trans (hb3.mono b12.out.size)
  have IB3 : Hid (Ints w3 vb ram) := IB.out.below hb3
  have HX := Lib.hid o3.mem
  obtain ⟨ya, yc, yb, yd, rfl, k1, k2, k3, k4⟩ := memV_shape o3.mem
  clear o3 hb3 t2 x20 x21 x22 x23 x24 x25 k1 k2 k3 k4 IB
  obtain ⟨x30, x31, x32, x33, x34, x35⟩ := id t3
  have hw3 : w1.heap.size < w3.heap.size := block_lt_of_cell x30
  go_upto_region 7 with fail
  obtain ⟨Z, hZ0⟩ : ∃ Z, Z = w3.alloc (.cells #[.slice ya R.length yc, .slice yb rom.length yd, .int .i64 BK] 37) := ⟨_, rfl⟩
  have tZ : Hid (Six Z w3.heap.size (.slice ya R.length yc) (.slice yb rom.length yd) (.int .i64 BK)) := by rw [hZ0]; exact six_lit rfl
  have b3Z : Hid (Below w3.heap.size w3 Z) := by rw [hZ0]; exact (Below.refl _ _).alloc (Nat.le_refl _) _
  have b1Z : Hid (Below w1.heap.size w1 Z) := b13.out.trans (b3Z.out.mono b13.out.size)
  have tM : Hid (Six Z w1.heap.size (.slice xa ram.length xc) (.slice xb rom.length xd) (.int .i64 bank)) := six_below b3Z.out t3
  have SZ : Hid (Z.cell? ⟨w1.heap.size, 0, none⟩ = some (.slice xa ram.length xc) ∧ Z.cell? ⟨w1.heap.size, 1, none⟩ = some (.slice xb rom.length xd) ∧ Z.cell? ⟨w1.heap.size, 2, none⟩ = some (.int .i64 bank) ∧ Z.cell? ⟨w3.heap.size, 0, none⟩ = some (.slice ya R.length yc) ∧ Z.cell? ⟨w3.heap.size, 1, none⟩ = some (.slice yb rom.length yd) ∧ Z.cell? ⟨w3.heap.size, 2, none⟩ = some (.int .i64 BK)) := by
    obtain ⟨s0, s1, s2⟩ := six_row tM.out
    obtain ⟨s3, s4, s5⟩ := six_row tZ.out
    exact ⟨s0, s1, s2, s3, s4, s5⟩
  have IBZ : Hid (Ints Z vb ram) := IB3.out.below b3Z.out
  have HXZ : Hid (MemV Z (.agg #[.slice ya R.length yc, .slice yb rom.length yd, .int .i64 BK]) R rom BK) := HX.out.below b3Z.out
  rw [← hZ0]
  clear hZ0 HX IB3 t3 x30 x31 x32 x33 x34 x35 HIY tY b1Y
  have hwZ : w3.heap.size < Z.heap.size := block_lt_of_cell tZ.out.1
  have hwZ1 : w1.heap.size < Z.heap.size := block_lt_of_cell tM.out.1
  go_region_held3 (fun w' => w'.cell? ⟨w1.heap.size, 0, none⟩ = some (.slice xa ram.length xc) ∧ w'.cell? ⟨w1.heap.size, 1, none⟩ = some (.slice xb rom.length xd) ∧ w'.cell? ⟨w1.heap.size, 2, none⟩ = some (.int .i64 bank) ∧ w'.cell? ⟨w3.heap.size, 0, none⟩ = some (.slice ya R.length yc) ∧ w'.cell? ⟨w3.heap.size, 1, none⟩ = some (.slice yb rom.length yd) ∧ w'.cell? ⟨w3.heap.size, 2, none⟩ = some (.int .i64 BK)) (first | with_reducible exact SZ.out | with_reducible exact cells6_drew SZ.out | with_reducible exact S5.out | with_reducible exact S6.out | with_reducible exact S7.out | with_reducible exact cells6_drew S5.out | with_reducible exact cells6_drew S6.out | with_reducible exact cells6_drew S7.out)
    (first
      | (go_at_call 18; go_loud (refine (sameInts_yes ((memV_parts HM.out).1.below b16.out) (IBZ.out.below bZ6.out)).mono ?_; rintro e w7 ⟨rfl, hb7⟩; (have S7 := Lib.hid (cells6_below hb7 S6.out)); (have bZ7 : Hid (Below Z.heap.size Z w7) := bZ6.out.trans (hb7.mono bZ6.out.size)); (have b17 : Hid (Below w1.heap.size w1 w7) := b16.out.trans (hb7.mono b16.out.size))))
      | (go_at_call 26; go_loud (refine (laws_sameMemory (HXZ.out.below bZ5.out) o5.mem).mono ?_; rintro e w6 ⟨rfl, hb6⟩; (have S6 := Lib.hid (cells6_below hb6 S5.out)); (have bZ6 : Hid (Below Z.heap.size Z w6) := bZ5.out.trans (hb6.mono bZ5.out.size)); (have b16 : Hid (Below w1.heap.size w1 w6) := b15.out.trans (hb6.mono b15.out.size))))
      | (go_at_call 32; go_loud (refine (calls_made (spec_WriteMemory p x (HM.out.below b1Z.out.drew)) EA.out EB.out EF.out).mono ?_; rintro e w5 ⟨v5, rfl, o5, hb5⟩; (have S5 := Lib.hid (cells6_below hb5 (cells6_drew SZ.out))); (have bZ5 : Hid (Below Z.heap.size Z w5) := ((Below.refl _ _).drew).trans hb5); (have b15 : Hid (Below w1.heap.size w1 w5) := b1Z.out.drew.trans (hb5.mono b1Z.out.size)))))
  all_goals
    have hB7 : Hid (Below w.heap.size w w7) := hB1.out.trans (b17.out.mono hB1.out.size)
    obtain ⟨x70, x71, x72, x73, x74, x75⟩ := id S7.out
    go_wp2_with fail
    refine (calls_eqv (spec_MemoryValid (HM.out.below b17.out)) HV.out).mono ?_
    rintro e w8 ⟨rfl, hb8⟩
    have hB8 : Hid (Below w.heap.size w w8) := hB7.out.trans (hb8.mono hB7.out.size)
    have S8 := Lib.hid (cells6_below hb8 S7.out)
    have b18 : Hid (Below w1.heap.size w1 w8) := b17.out.trans (hb8.mono b17.out.size)
    have bZ8 : Hid (Below Z.heap.size Z w8) := bZ7.out.trans (hb8.mono bZ7.out.size)
    clear hb8 S7 S6 S5 SZ x70 x71 x72 x73 x74 x75 tM tZ
    obtain ⟨hiX, hmX⟩ := memV_parts (HXZ.out.below bZ8.out)
    obtain ⟨hiM, hmM⟩ := memV_parts (HM.out.below b18.out)
    rw [HRL.out] at hiX S8 HXZ
    rw [hr256.out] at hiM S8
    obtain ⟨ab, ao, rfl, hac⟩ := ints_all hiX (by rw [HRL.out]; omega)
    obtain ⟨mb, mo, rfl, hmc⟩ := ints_all hiM (by rw [hr256.out]; omega)
    have CA := Lib.hid hac
    have CM := Lib.hid hmc
    have hp0' : 0 ≤ p := by omega
    clear hac hmc hiX hmX hiM hmM
    obtain ⟨x80, x81, x82, x83, x84, x85⟩ := id S8.out
    go_wp2_with (go_at_call 33; refine (calls_eqv (laws_isByte _ _) HXB.out).mono ?_; rintro e w' ⟨rfl, rfl⟩)
    go_loopw [9] (fun i wr => ∃ k : Nat, k ≤ 256 ∧ i = .int .i64 k ∧ Quiet w8 wr) (fun i _ => 256 - (intOf i).toNat)
    case atStart => exact ⟨0, by omega, rfl, 0, rfl⟩
    case round =>
      obtain ⟨k, hk, rfl, m, rfl⟩ := hrel
      by_cases hlt : k < 256
      · have g1 := CA.out k (by rw [HRL.out]; exact hlt)
        have g2 := CM.out k (by rw [hr256.out]; exact hlt)
        have hki : (k : Int) < 256 := by omega
        have HNP : Hid (R.getD k 0 ≠ ram.getD k 0 → p < 512 ∧ p % 256 = (k : Int)) := fun e => not_poked (by rw [← HRR.out]; exact e) hp0'
        generalize R.getD k 0 = zr at *
        generalize ram.getD k 0 = zm at *
        by_cases hz : zr = zm
        · subst hz
          clear HNP
          go_wp2
          go_quiet (fail)
          go_wp2
          go_roundw
          case rel => exact ⟨k + 1, by omega, by go_num, _, rfl⟩
          case measure => simp [intOf]; omega
        · obtain ⟨h1, h2⟩ := HNP.out hz
          have h3 : p.tmod 256 = (k : Int) := by rw [Int.tmod_eq_emod_of_nonneg (by omega)]; exact h2
          have h4 : (zr == zm) = false := by simpa using hz
          have h5 : (zr != zm) = true := by simpa using hz
          have h6 : ¬ 511 < p := by omega
          clear HNP hz
          go_wp2
          go_quiet (fail)
          go_wp2
          go_roundw
          case rel => exact ⟨k + 1, by omega, by go_num, _, rfl⟩
          case measure => simp [intOf]; omega
      · have hge : ¬ (k : Int) < 256 := by omega
        go_upto_region 16 with fail
        obtain ⟨Q, hQ⟩ : ∃ Q, Q = w8.drewN m := ⟨_, rfl⟩
        have b8Q : Below w8.heap.size w8 Q := by rw [hQ]; exact ⟨rfl, rfl, rfl, Nat.le_refl _, fun _ _ => rfl⟩
        have SQ := Lib.hid (cells6_below b8Q S8.out)
        have b1Q : Hid (Below w1.heap.size w1 Q) := b18.out.trans (b8Q.mono b18.out.size)
        have hBQ : Hid (Below w.heap.size w Q) := hB8.out.trans (b8Q.mono hB8.out.size)
        have HXQ := Lib.hid (HXZ.out.below (bZ8.out.trans (b8Q.mono bZ8.out.size)))
        rw [← hQ]
        have HN := HS.out.n
        have HRV : Hid (p < 512 → readV R rom BK p = x) := fun h => by
          rw [readV_yes HVX.out (inR_iff.2 (by omega)), HRR.out]
          simp only [peekL, pokeR]
          rw [if_pos h, if_pos h, List.getD_eq_getElem?_getD, List.getElem?_set_self (by rw [hr256.out]; omega)]; rfl
        have HB1' : Hid (p < 768 → BK = bank) := fun h => by rw [HBB.out]; simp [pokeB, h]
        have HB2' : Hid (768 ≤ p → BK = x % (rom.length : Int)) := fun h => by rw [HBB.out]; simp only [pokeB]; rw [if_neg (by omega)]
        clear hQ b8Q x80 x81 x82 x83 x84 x85 S8 CA CM hge hlt hk
        obtain ⟨z10, z11, z12, z13, z14, z15⟩ := id SQ.out
        by_cases hpa : p < 512
        · have RV := Lib.hid (HRV.out hpa)
          obtain rfl := HB1'.out (by omega)
          have hpb : ¬ 511 < p := by omega
          have hpc : p < 768 := by omega
          have hb1 : decide ((511 : Int) < p) = false := decide_eq_false hpb
          have hb2 : decide (p < 768) = true := decide_eq_true hpc
          have hb3 : decide ((768 : Int) ≤ p) = false := decide_eq_false (by omega)
          have hbb : (BK == BK) = true := by simp
          clear HRV HB1' HB2' HN
          refine wp_region_held_drew (S := fun w' => w'.cell? ⟨w1.heap.size, 0, none⟩ = some (.slice (some ⟨mb, mo, none⟩) 256 xc) ∧ w'.cell? ⟨w1.heap.size, 1, none⟩ = some (.slice xb rom.length xd) ∧ w'.cell? ⟨w1.heap.size, 2, none⟩ = some (.int .i64 BK) ∧ w'.cell? ⟨w3.heap.size, 0, none⟩ = some (.slice (some ⟨ab, ao, none⟩) 256 yc) ∧ w'.cell? ⟨w3.heap.size, 1, none⟩ = some (.slice yb rom.length yd) ∧ w'.cell? ⟨w3.heap.size, 2, none⟩ = some (.int .i64 BK)) (by kernel_rfl) (cells6_drew SQ.out) ?_
          intro hS
          try dsimp only at hS
          refine wpAnyH_take (i := 0) (oi := ({ dst := some 101, op := Op.fieldAddr 37 (Operand.tmp 8) 1, type := 0, pos := "laws.go:273", after := #[], guard := none } : Oper)) (v := ?_) rfl (by kernel_rfl) (by kernel_rfl) (by kernel_rfl) (fun _ _ _ h => h) (Or.inl ⟨by rfl, ?_⟩) hS ?_
          rotate_left
          · intro wq hSw; (try dsimp only at hSw); go_simp; (try with_reducible rfl)
          (try simp only [Act.put, List.setIfInBounds_toArray, List.set_cons_zero, List.set_cons_succ])
          refine wpAnyH_take (i := 1) (oi := ({ dst := some 102, op := Op.load 35 (Operand.tmp 101), type := 35, pos := "laws.go:273", after := #[{ on := 0, ground := Ground.data }], guard := none } : Oper)) (v := ?_) rfl (by kernel_rfl) (by kernel_rfl) (by kernel_rfl) (fun _ _ _ h => h) (Or.inl ⟨by rfl, ?_⟩) hS ?_
          rotate_left
          · intro wq hSw; (try dsimp only at hSw); go_simp; (try with_reducible rfl)
          (try simp only [Act.put, List.setIfInBounds_toArray, List.set_cons_zero, List.set_cons_succ])
          refine wpAnyH_take (i := 2) (oi := ({ dst := some 103, op := Op.fieldAddr 37 (Operand.tmp 3) 1, type := 0, pos := "laws.go:273", after := #[], guard := none } : Oper)) (v := ?_) rfl (by kernel_rfl) (by kernel_rfl) (by kernel_rfl) (fun _ _ _ h => h) (Or.inl ⟨by rfl, ?_⟩) hS ?_
          rotate_left
          · intro wq hSw; (try dsimp only at hSw); go_simp; (try with_reducible rfl)
          (try simp only [Act.put, List.setIfInBounds_toArray, List.set_cons_zero, List.set_cons_succ])
          refine wpAnyH_take (i := 3) (oi := ({ dst := some 104, op := Op.load 35 (Operand.tmp 103), type := 35, pos := "laws.go:273", after := #[{ on := 2, ground := Ground.data }], guard := none } : Oper)) (v := ?_) rfl (by kernel_rfl) (by kernel_rfl) (by kernel_rfl) (fun _ _ _ h => h) (Or.inl ⟨by rfl, ?_⟩) hS ?_
          rotate_left
          · intro wq hSw; (try dsimp only at hSw); go_simp; (try with_reducible rfl)
          (try simp only [Act.put, List.setIfInBounds_toArray, List.set_cons_zero, List.set_cons_succ])
          refine wpAnyH_ready (rs := [4]) (by kernel_rfl) (by simp) ?_
          refine AllReadyH.cons (o := ({ dst := some 105, op := Op.call { callee := Callee.value (Operand.func 34), args := #[Operand.tmp 102, Operand.tmp 104], argTypes := #[35, 35] }, type := 4, pos := "laws.go:273", after := #[{ on := 1, ground := Ground.data }, { on := 3, ground := Ground.data }], guard := none } : Oper)) rfl (fun K hK => ?_) AllReadyH.nil
          go_simp
          (go_at_call 34; refine (sameRows_yes ((memV_parts HXQ.out).2.below (Below.refl _ _).drew) ((memV_parts (HM.out.below b1Q.out)).2.below (Below.refl _ _).drew)).mono ?_; rintro e w10 ⟨rfl, hb10⟩; (have S10 := Lib.hid (cells6_below hb10 (cells6_drew SQ.out))); (have bQ10 : Hid (Below Q.heap.size Q w10) := ((Below.refl _ _).drew).trans hb10))
          (try go_wp2_with fail)
          refine hK.out _ _ (S10.out) (fun hT => ?_)
          clear hK K hS
          have hS := hT
          clear hT
          try dsimp only at hS
          (try simp only [Act.put, List.setIfInBounds_toArray, List.set_cons_zero, List.set_cons_succ])
          refine wpAnyH_take (i := 5) (oi := ({ dst := some 106, op := Op.move (Operand.tmp 105), type := 4, pos := "laws.go:273", after := #[{ on := 4, ground := Ground.data }, { on := 4, ground := Ground.chain }], guard := none } : Oper)) (v := ?_) rfl (by kernel_rfl) (by kernel_rfl) (by kernel_rfl) (fun _ _ _ h => h) (Or.inl ⟨by rfl, ?_⟩) hS ?_
          rotate_left
          · intro wq hSw; (try dsimp only at hSw); go_simp; (try with_reducible rfl)
          (try simp only [Act.put, List.setIfInBounds_toArray, List.set_cons_zero, List.set_cons_succ])
          refine wpAnyH_take (i := 6) (oi := ({ dst := some 107, op := Op.load 37 (Operand.tmp 8), type := 37, pos := "laws.go:273", after := #[{ on := 5, ground := Ground.guard }], guard := some (5, true) } : Oper)) (v := ?_) rfl (by kernel_rfl) (by kernel_rfl) (by kernel_rfl) (fun _ _ _ h => h) (Or.inl ⟨by rfl, ?_⟩) hS ?_
          rotate_left
          · intro wq hSw; (try dsimp only at hSw); go_simp; (try with_reducible rfl)
          (try simp only [Act.put, List.setIfInBounds_toArray, List.set_cons_zero, List.set_cons_succ])
          refine wpAnyH_ready (rs := [7]) (by kernel_rfl) (by simp) ?_
          refine AllReadyH.cons (o := ({ dst := some 108, op := Op.call { callee := Callee.value (Operand.func 29), args := #[Operand.tmp 107], argTypes := #[37] }, type := 4, pos := "laws.go:273", after := #[{ on := 6, ground := Ground.data }, { on := 5, ground := Ground.chain }, { on := 5, ground := Ground.guard }], guard := some (5, true) } : Oper)) rfl (fun K hK => ?_) AllReadyH.nil
          go_simp
          (go_at_call 29; refine (calls_eqv (impl_MemoryValid (HXQ.out.below bQ10.out)) HVX.out).mono ?_; rintro e w11 ⟨rfl, hb11⟩; (have S11 := Lib.hid (cells6_below hb11 S10.out)); (have bQ11 : Hid (Below Q.heap.size Q w11) := bQ10.out.trans (hb11.mono bQ10.out.size)))
          (try go_wp2_with fail)
          refine hK.out _ _ (S11.out) (fun hT => ?_)
          clear hK K hS
          have hS := hT
          clear hT
          try dsimp only at hS
          (try simp only [Act.put, List.setIfInBounds_toArray, List.set_cons_zero, List.set_cons_succ])
          refine wpAnyH_take (i := 8) (oi := ({ dst := some 109, op := Op.pick (Operand.tmp 106) (Operand.tmp 108) (Operand.const (Value.bool false)), type := 4, pos := "laws.go:273", after := #[{ on := 5, ground := Ground.data }, { on := 7, ground := Ground.data }], guard := none } : Oper)) (v := ?_) rfl (by kernel_rfl) (by kernel_rfl) (by kernel_rfl) (fun _ _ _ h => h) (Or.inl ⟨by rfl, ?_⟩) hS ?_
          rotate_left
          · intro wq hSw; (try dsimp only at hSw); go_simp; (try with_reducible rfl)
          (try simp only [Act.put, List.setIfInBounds_toArray, List.set_cons_zero, List.set_cons_succ])
          refine wpAnyH_take (i := 9) (oi := ({ dst := some 110, op := Op.move (Operand.tmp 109), type := 4, pos := "laws.go:273", after := #[{ on := 8, ground := Ground.data }, { on := 7, ground := Ground.chain }], guard := none } : Oper)) (v := ?_) rfl (by kernel_rfl) (by kernel_rfl) (by kernel_rfl) (fun _ _ _ h => h) (Or.inl ⟨by rfl, ?_⟩) hS ?_
          rotate_left
          · intro wq hSw; (try dsimp only at hSw); go_simp; (try with_reducible rfl)
          (try simp only [Act.put, List.setIfInBounds_toArray, List.set_cons_zero, List.set_cons_succ])
          refine wpAnyH_take (i := 10) (oi := ({ dst := some 111, op := Op.move (Operand.tmp 4), type := 3, pos := "laws.go:273", after := #[{ on := 9, ground := Ground.guard }], guard := some (9, true) } : Oper)) (v := ?_) rfl (by kernel_rfl) (by kernel_rfl) (by kernel_rfl) (fun _ _ _ h => h) (Or.inl ⟨by rfl, ?_⟩) hS ?_
          rotate_left
          · intro wq hSw; (try dsimp only at hSw); go_simp; (try with_reducible rfl)
          (try simp only [Act.put, List.setIfInBounds_toArray, List.set_cons_zero, List.set_cons_succ])
          refine wpAnyH_take (i := 11) (oi := ({ dst := some 112, op := Op.binOp BinOp.gtr 3 (Operand.tmp 111) (Operand.const (Value.int IntKind.i64 511)) 3, type := 4, pos := "laws.go:273", after := #[{ on := 10, ground := Ground.data }, { on := 9, ground := Ground.guard }], guard := some (9, true) } : Oper)) (v := ?_) rfl (by kernel_rfl) (by kernel_rfl) (by kernel_rfl) (fun _ _ _ h => h) (Or.inl ⟨by rfl, ?_⟩) hS ?_
          rotate_left
          · intro wq hSw; (try dsimp only at hSw); go_simp; (try with_reducible rfl)
          (try simp only [Act.put, List.setIfInBounds_toArray, List.set_cons_zero, List.set_cons_succ])
          refine wpAnyH_take (i := 12) (oi := ({ dst := some 113, op := Op.move (Operand.tmp 112), type := 4, pos := "laws.go:273", after := #[{ on := 11, ground := Ground.data }, { on := 9, ground := Ground.chain }, { on := 9, ground := Ground.guard }], guard := some (9, true) } : Oper)) (v := ?_) rfl (by kernel_rfl) (by kernel_rfl) (by kernel_rfl) (fun _ _ _ h => h) (Or.inl ⟨by rfl, ?_⟩) hS ?_
          rotate_left
          · intro wq hSw; (try dsimp only at hSw); go_simp; (try with_reducible rfl)
          (try simp only [Act.put, List.setIfInBounds_toArray, List.set_cons_zero, List.set_cons_succ])
          refine wpAnyH_take (i := 13) (oi := ({ dst := some 114, op := Op.load 37 (Operand.tmp 8), type := 37, pos := "laws.go:273", after := #[{ on := 12, ground := Ground.guard }], guard := some (12, false) } : Oper)) (v := ?_) rfl (by kernel_rfl) (by kernel_rfl) (by kernel_rfl) (fun _ _ _ h => h) (Or.inl ⟨by rfl, ?_⟩) hS ?_
          rotate_left
          · intro wq hSw; (try dsimp only at hSw); go_simp; (try with_reducible rfl)
          (try simp only [Act.put, List.setIfInBounds_toArray, List.set_cons_zero, List.set_cons_succ])
          refine wpAnyH_take (i := 14) (oi := ({ dst := some 115, op := Op.move (Operand.tmp 4), type := 3, pos := "laws.go:273", after := #[{ on := 12, ground := Ground.guard }], guard := some (12, false) } : Oper)) (v := ?_) rfl (by kernel_rfl) (by kernel_rfl) (by kernel_rfl) (fun _ _ _ h => h) (Or.inl ⟨by rfl, ?_⟩) hS ?_
          rotate_left
          · intro wq hSw; (try dsimp only at hSw); go_simp; (try with_reducible rfl)
          (try simp only [Act.put, List.setIfInBounds_toArray, List.set_cons_zero, List.set_cons_succ])
          refine wpAnyH_take (i := 16) (oi := ({ dst := some 117, op := Op.move (Operand.tmp 5), type := 3, pos := "laws.go:273", after := #[{ on := 12, ground := Ground.guard }], guard := some (12, false) } : Oper)) (v := ?_) rfl (by kernel_rfl) (by kernel_rfl) (by kernel_rfl) (fun _ _ _ h => h) (Or.inl ⟨by rfl, ?_⟩) hS ?_
          rotate_left
          · intro wq hSw; (try dsimp only at hSw); go_simp; (try with_reducible rfl)
          (try simp only [Act.put, List.setIfInBounds_toArray, List.set_cons_zero, List.set_cons_succ])
          refine wpAnyH_ready (rs := [15]) (by kernel_rfl) (by simp) ?_
          refine AllReadyH.cons (o := ({ dst := some 116, op := Op.call { callee := Callee.value (Operand.func 28), args := #[Operand.tmp 114, Operand.tmp 115], argTypes := #[37, 3] }, type := 3, pos := "laws.go:273", after := #[{ on := 13, ground := Ground.data }, { on := 14, ground := Ground.data }, { on := 12, ground := Ground.chain }, { on := 12, ground := Ground.guard }], guard := some (12, false) } : Oper)) rfl (fun K hK => ?_) AllReadyH.nil
          go_simp
          (go_at_call 28; refine (calls_int (impl_ReadMemory p (HXQ.out.below bQ11.out)) RV.out).mono ?_; rintro e w12 ⟨rfl, hb12⟩; (have S12 := Lib.hid (cells6_below hb12 S11.out)); (have bQ12 : Hid (Below Q.heap.size Q w12) := bQ11.out.trans (hb12.mono bQ11.out.size)))
          (try go_wp2_with fail)
          refine hK.out _ _ (S12.out) (fun hT => ?_)
          clear hK K hS
          have hS := hT
          clear hT
          try dsimp only at hS
          (try simp only [Act.put, List.setIfInBounds_toArray, List.set_cons_zero, List.set_cons_succ])
          refine wpAnyH_take (i := 17) (oi := ({ dst := some 118, op := Op.binOp BinOp.eql 3 (Operand.tmp 116) (Operand.tmp 117) 3, type := 4, pos := "laws.go:273", after := #[{ on := 15, ground := Ground.data }, { on := 16, ground := Ground.data }, { on := 12, ground := Ground.guard }], guard := some (12, false) } : Oper)) (v := ?_) rfl (by kernel_rfl) (by kernel_rfl) (by kernel_rfl) (fun _ _ _ h => h) (Or.inl ⟨by rfl, ?_⟩) hS ?_
          rotate_left
          · intro wq hSw; (try dsimp only at hSw); go_simp; (try with_reducible rfl)
          (try simp only [Act.put, List.setIfInBounds_toArray, List.set_cons_zero, List.set_cons_succ])
          refine wpAnyH_take (i := 18) (oi := ({ dst := some 119, op := Op.pick (Operand.tmp 113) (Operand.const (Value.bool true)) (Operand.tmp 118), type := 4, pos := "laws.go:273", after := #[{ on := 12, ground := Ground.data }, { on := 17, ground := Ground.data }, { on := 9, ground := Ground.guard }], guard := some (9, true) } : Oper)) (v := ?_) rfl (by kernel_rfl) (by kernel_rfl) (by kernel_rfl) (fun _ _ _ h => h) (Or.inl ⟨by rfl, ?_⟩) hS ?_
          rotate_left
          · intro wq hSw; (try dsimp only at hSw); go_simp; (try with_reducible rfl)
          (try simp only [Act.put, List.setIfInBounds_toArray, List.set_cons_zero, List.set_cons_succ])
          refine wpAnyH_take (i := 19) (oi := ({ dst := some 120, op := Op.pick (Operand.tmp 110) (Operand.tmp 119) (Operand.const (Value.bool false)), type := 4, pos := "laws.go:273", after := #[{ on := 9, ground := Ground.data }, { on := 18, ground := Ground.data }], guard := none } : Oper)) (v := ?_) rfl (by kernel_rfl) (by kernel_rfl) (by kernel_rfl) (fun _ _ _ h => h) (Or.inl ⟨by rfl, ?_⟩) hS ?_
          rotate_left
          · intro wq hSw; (try dsimp only at hSw); go_simp; (try with_reducible rfl)
          (try simp only [Act.put, List.setIfInBounds_toArray, List.set_cons_zero, List.set_cons_succ])
          refine wpAnyH_take (i := 20) (oi := ({ dst := some 121, op := Op.move (Operand.tmp 120), type := 4, pos := "laws.go:273", after := #[{ on := 19, ground := Ground.data }, { on := 15, ground := Ground.chain }], guard := none } : Oper)) (v := ?_) rfl (by kernel_rfl) (by kernel_rfl) (by kernel_rfl) (fun _ _ _ h => h) (Or.inl ⟨by rfl, ?_⟩) hS ?_
          rotate_left
          · intro wq hSw; (try dsimp only at hSw); go_simp; (try with_reducible rfl)
          (try simp only [Act.put, List.setIfInBounds_toArray, List.set_cons_zero, List.set_cons_succ])
          refine wpAnyH_take (i := 21) (oi := ({ dst := some 122, op := Op.move (Operand.tmp 4), type := 3, pos := "laws.go:273", after := #[{ on := 20, ground := Ground.guard }], guard := some (20, true) } : Oper)) (v := ?_) rfl (by kernel_rfl) (by kernel_rfl) (by kernel_rfl) (fun _ _ _ h => h) (Or.inl ⟨by rfl, ?_⟩) hS ?_
          rotate_left
          · intro wq hSw; (try dsimp only at hSw); go_simp; (try with_reducible rfl)
          (try simp only [Act.put, List.setIfInBounds_toArray, List.set_cons_zero, List.set_cons_succ])
          refine wpAnyH_take (i := 22) (oi := ({ dst := some 123, op := Op.binOp BinOp.lss 3 (Operand.tmp 122) (Operand.const (Value.int IntKind.i64 768)) 3, type := 4, pos := "laws.go:273", after := #[{ on := 21, ground := Ground.data }, { on := 20, ground := Ground.guard }], guard := some (20, true) } : Oper)) (v := ?_) rfl (by kernel_rfl) (by kernel_rfl) (by kernel_rfl) (fun _ _ _ h => h) (Or.inl ⟨by rfl, ?_⟩) hS ?_
          rotate_left
          · intro wq hSw; (try dsimp only at hSw); go_simp; (try with_reducible rfl)
          (try simp only [Act.put, List.setIfInBounds_toArray, List.set_cons_zero, List.set_cons_succ])
          refine wpAnyH_take (i := 23) (oi := ({ dst := some 124, op := Op.move (Operand.tmp 123), type := 4, pos := "laws.go:273", after := #[{ on := 22, ground := Ground.data }, { on := 20, ground := Ground.chain }, { on := 20, ground := Ground.guard }], guard := some (20, true) } : Oper)) (v := ?_) rfl (by kernel_rfl) (by kernel_rfl) (by kernel_rfl) (fun _ _ _ h => h) (Or.inl ⟨by rfl, ?_⟩) hS ?_
          rotate_left
          · intro wq hSw; (try dsimp only at hSw); go_simp; (try with_reducible rfl)
          (try simp only [Act.put, List.setIfInBounds_toArray, List.set_cons_zero, List.set_cons_succ])
          refine wpAnyH_take (i := 24) (oi := ({ dst := some 125, op := Op.fieldAddr 37 (Operand.tmp 8) 2, type := 0, pos := "laws.go:273", after := #[{ on := 23, ground := Ground.guard }], guard := some (23, true) } : Oper)) (v := ?_) rfl (by kernel_rfl) (by kernel_rfl) (by kernel_rfl) (fun _ _ _ h => h) (Or.inl ⟨by rfl, ?_⟩) hS ?_
          rotate_left
          · intro wq hSw; (try dsimp only at hSw); go_simp; (try with_reducible rfl)
          (try simp only [Act.put, List.setIfInBounds_toArray, List.set_cons_zero, List.set_cons_succ])
          refine wpAnyH_take (i := 25) (oi := ({ dst := some 126, op := Op.load 3 (Operand.tmp 125), type := 3, pos := "laws.go:273", after := #[{ on := 24, ground := Ground.data }, { on := 23, ground := Ground.guard }], guard := some (23, true) } : Oper)) (v := ?_) rfl (by kernel_rfl) (by kernel_rfl) (by kernel_rfl) (fun _ _ _ h => h) (Or.inl ⟨by rfl, ?_⟩) hS ?_
          rotate_left
          · intro wq hSw; (try dsimp only at hSw); go_simp; (try with_reducible rfl)
          (try simp only [Act.put, List.setIfInBounds_toArray, List.set_cons_zero, List.set_cons_succ])
          refine wpAnyH_take (i := 26) (oi := ({ dst := some 127, op := Op.fieldAddr 37 (Operand.tmp 3) 2, type := 0, pos := "laws.go:273", after := #[{ on := 23, ground := Ground.guard }], guard := some (23, true) } : Oper)) (v := ?_) rfl (by kernel_rfl) (by kernel_rfl) (by kernel_rfl) (fun _ _ _ h => h) (Or.inl ⟨by rfl, ?_⟩) hS ?_
          rotate_left
          · intro wq hSw; (try dsimp only at hSw); go_simp; (try with_reducible rfl)
          (try simp only [Act.put, List.setIfInBounds_toArray, List.set_cons_zero, List.set_cons_succ])
          refine wpAnyH_take (i := 27) (oi := ({ dst := some 128, op := Op.load 3 (Operand.tmp 127), type := 3, pos := "laws.go:273", after := #[{ on := 26, ground := Ground.data }, { on := 23, ground := Ground.guard }], guard := some (23, true) } : Oper)) (v := ?_) rfl (by kernel_rfl) (by kernel_rfl) (by kernel_rfl) (fun _ _ _ h => h) (Or.inl ⟨by rfl, ?_⟩) hS ?_
          rotate_left
          · intro wq hSw; (try dsimp only at hSw); go_simp; (try with_reducible rfl)
          (try simp only [Act.put, List.setIfInBounds_toArray, List.set_cons_zero, List.set_cons_succ])
          refine wpAnyH_take (i := 28) (oi := ({ dst := some 129, op := Op.binOp BinOp.eql 3 (Operand.tmp 126) (Operand.tmp 128) 3, type := 4, pos := "laws.go:273", after := #[{ on := 25, ground := Ground.data }, { on := 27, ground := Ground.data }, { on := 23, ground := Ground.guard }], guard := some (23, true) } : Oper)) (v := ?_) rfl (by kernel_rfl) (by kernel_rfl) (by kernel_rfl) (fun _ _ _ h => h) (Or.inl ⟨by rfl, ?_⟩) hS ?_
          rotate_left
          · intro wq hSw; (try dsimp only at hSw); go_simp; (try with_reducible rfl)
          (try simp only [Act.put, List.setIfInBounds_toArray, List.set_cons_zero, List.set_cons_succ])
          refine wpAnyH_take (i := 29) (oi := ({ dst := some 130, op := Op.pick (Operand.tmp 124) (Operand.tmp 129) (Operand.const (Value.bool false)), type := 4, pos := "laws.go:273", after := #[{ on := 23, ground := Ground.data }, { on := 28, ground := Ground.data }, { on := 20, ground := Ground.guard }], guard := some (20, true) } : Oper)) (v := ?_) rfl (by kernel_rfl) (by kernel_rfl) (by kernel_rfl) (fun _ _ _ h => h) (Or.inl ⟨by rfl, ?_⟩) hS ?_
          rotate_left
          · intro wq hSw; (try dsimp only at hSw); go_simp; (try with_reducible rfl)
          (try simp only [Act.put, List.setIfInBounds_toArray, List.set_cons_zero, List.set_cons_succ])
          refine wpAnyH_take (i := 30) (oi := ({ dst := some 131, op := Op.move (Operand.tmp 130), type := 4, pos := "laws.go:273", after := #[{ on := 29, ground := Ground.data }, { on := 23, ground := Ground.chain }, { on := 20, ground := Ground.guard }], guard := some (20, true) } : Oper)) (v := ?_) rfl (by kernel_rfl) (by kernel_rfl) (by kernel_rfl) (fun _ _ _ h => h) (Or.inl ⟨by rfl, ?_⟩) hS ?_
          rotate_left
          · intro wq hSw; (try dsimp only at hSw); go_simp; (try with_reducible rfl)
          (try simp only [Act.put, List.setIfInBounds_toArray, List.set_cons_zero, List.set_cons_succ])
          refine wpAnyH_take (i := 31) (oi := ({ dst := some 132, op := Op.move (Operand.tmp 4), type := 3, pos := "laws.go:273", after := #[{ on := 30, ground := Ground.guard }], guard := some (30, false) } : Oper)) (v := undef) rfl (by kernel_rfl) (by kernel_rfl) (by kernel_rfl) (fun _ _ _ h => h) (Or.inr ⟨by rfl, rfl⟩) hS ?_
          (try simp only [Act.put, List.setIfInBounds_toArray, List.set_cons_zero, List.set_cons_succ])
          refine wpAnyH_take (i := 32) (oi := ({ dst := some 133, op := Op.binOp BinOp.geq 3 (Operand.tmp 132) (Operand.const (Value.int IntKind.i64 768)) 3, type := 4, pos := "laws.go:273", after := #[{ on := 31, ground := Ground.data }, { on := 30, ground := Ground.guard }], guard := some (30, false) } : Oper)) (v := undef) rfl (by kernel_rfl) (by kernel_rfl) (by kernel_rfl) (fun _ _ _ h => h) (Or.inr ⟨by rfl, rfl⟩) hS ?_
          (try simp only [Act.put, List.setIfInBounds_toArray, List.set_cons_zero, List.set_cons_succ])
          refine wpAnyH_take (i := 33) (oi := ({ dst := some 134, op := Op.move (Operand.tmp 133), type := 4, pos := "laws.go:273", after := #[{ on := 32, ground := Ground.data }, { on := 30, ground := Ground.chain }, { on := 30, ground := Ground.guard }], guard := some (30, false) } : Oper)) (v := undef) rfl (by kernel_rfl) (by kernel_rfl) (by kernel_rfl) (fun _ _ _ h => h) (Or.inr ⟨by rfl, rfl⟩) hS ?_
          (try simp only [Act.put, List.setIfInBounds_toArray, List.set_cons_zero, List.set_cons_succ])
          refine wpAnyH_take (i := 34) (oi := ({ dst := some 135, op := Op.fieldAddr 37 (Operand.tmp 8) 2, type := 0, pos := "laws.go:273", after := #[{ on := 33, ground := Ground.guard }], guard := some (33, true) } : Oper)) (v := undef) rfl (by kernel_rfl) (by kernel_rfl) (by kernel_rfl) (fun _ _ _ h => h) (Or.inr ⟨by rfl, rfl⟩) hS ?_
          (try simp only [Act.put, List.setIfInBounds_toArray, List.set_cons_zero, List.set_cons_succ])
          refine wpAnyH_take (i := 35) (oi := ({ dst := some 136, op := Op.load 3 (Operand.tmp 135), type := 3, pos := "laws.go:273", after := #[{ on := 34, ground := Ground.data }, { on := 33, ground := Ground.guard }], guard := some (33, true) } : Oper)) (v := undef) rfl (by kernel_rfl) (by kernel_rfl) (by kernel_rfl) (fun _ _ _ h => h) (Or.inr ⟨by rfl, rfl⟩) hS ?_
          (try simp only [Act.put, List.setIfInBounds_toArray, List.set_cons_zero, List.set_cons_succ])
          refine wpAnyH_take (i := 36) (oi := ({ dst := some 137, op := Op.move (Operand.tmp 5), type := 3, pos := "laws.go:273", after := #[{ on := 33, ground := Ground.guard }], guard := some (33, true) } : Oper)) (v := undef) rfl (by kernel_rfl) (by kernel_rfl) (by kernel_rfl) (fun _ _ _ h => h) (Or.inr ⟨by rfl, rfl⟩) hS ?_
          (try simp only [Act.put, List.setIfInBounds_toArray, List.set_cons_zero, List.set_cons_succ])
          refine wpAnyH_take (i := 37) (oi := ({ dst := some 138, op := Op.fieldAddr 37 (Operand.tmp 3) 1, type := 0, pos := "laws.go:273", after := #[{ on := 33, ground := Ground.guard }], guard := some (33, true) } : Oper)) (v := undef) rfl (by kernel_rfl) (by kernel_rfl) (by kernel_rfl) (fun _ _ _ h => h) (Or.inr ⟨by rfl, rfl⟩) hS ?_
          (try simp only [Act.put, List.setIfInBounds_toArray, List.set_cons_zero, List.set_cons_succ])
          refine wpAnyH_take (i := 38) (oi := ({ dst := some 139, op := Op.load 35 (Operand.tmp 138), type := 35, pos := "laws.go:273", after := #[{ on := 37, ground := Ground.data }, { on := 33, ground := Ground.guard }], guard := some (33, true) } : Oper)) (v := undef) rfl (by kernel_rfl) (by kernel_rfl) (by kernel_rfl) (fun _ _ _ h => h) (Or.inr ⟨by rfl, rfl⟩) hS ?_
          (try simp only [Act.put, List.setIfInBounds_toArray, List.set_cons_zero, List.set_cons_succ])
          refine wpAnyH_take (i := 39) (oi := ({ dst := some 140, op := Op.call { callee := Callee.builtin Builtin.len, args := #[Operand.tmp 139], argTypes := #[35] }, type := 3, pos := "laws.go:273", after := #[{ on := 38, ground := Ground.data }, { on := 33, ground := Ground.guard }], guard := some (33, true) } : Oper)) (v := undef) rfl (by kernel_rfl) (by kernel_rfl) (by kernel_rfl) (fun _ _ _ h => h) (Or.inr ⟨by rfl, rfl⟩) hS ?_
          (try simp only [Act.put, List.setIfInBounds_toArray, List.set_cons_zero, List.set_cons_succ])
          refine wpAnyH_take (i := 40) (oi := ({ dst := some 141, op := Op.binOp BinOp.rem 3 (Operand.tmp 137) (Operand.tmp 140) 3, type := 3, pos := "laws.go:273", after := #[{ on := 36, ground := Ground.data }, { on := 39, ground := Ground.data }, { on := 33, ground := Ground.guard }], guard := some (33, true) } : Oper)) (v := undef) rfl (by kernel_rfl) (by kernel_rfl) (by kernel_rfl) (fun _ _ _ h => h) (Or.inr ⟨by rfl, rfl⟩) hS ?_
          (try simp only [Act.put, List.setIfInBounds_toArray, List.set_cons_zero, List.set_cons_succ])
          refine wpAnyH_take (i := 41) (oi := ({ dst := some 142, op := Op.binOp BinOp.eql 3 (Operand.tmp 136) (Operand.tmp 141) 3, type := 4, pos := "laws.go:273", after := #[{ on := 35, ground := Ground.data }, { on := 40, ground := Ground.data }, { on := 33, ground := Ground.guard }], guard := some (33, true) } : Oper)) (v := undef) rfl (by kernel_rfl) (by kernel_rfl) (by kernel_rfl) (fun _ _ _ h => h) (Or.inr ⟨by rfl, rfl⟩) hS ?_
          (try simp only [Act.put, List.setIfInBounds_toArray, List.set_cons_zero, List.set_cons_succ])
          refine wpAnyH_take (i := 42) (oi := ({ dst := some 143, op := Op.pick (Operand.tmp 134) (Operand.tmp 142) (Operand.const (Value.bool false)), type := 4, pos := "laws.go:273", after := #[{ on := 33, ground := Ground.data }, { on := 41, ground := Ground.data }, { on := 30, ground := Ground.guard }], guard := some (30, false) } : Oper)) (v := undef) rfl (by kernel_rfl) (by kernel_rfl) (by kernel_rfl) (fun _ _ _ h => h) (Or.inr ⟨by rfl, rfl⟩) hS ?_
          (try simp only [Act.put, List.setIfInBounds_toArray, List.set_cons_zero, List.set_cons_succ])
          refine wpAnyH_take (i := 43) (oi := ({ dst := some 144, op := Op.pick (Operand.tmp 131) (Operand.const (Value.bool true)) (Operand.tmp 143), type := 4, pos := "laws.go:273", after := #[{ on := 30, ground := Ground.data }, { on := 42, ground := Ground.data }, { on := 20, ground := Ground.guard }], guard := some (20, true) } : Oper)) (v := ?_) rfl (by kernel_rfl) (by kernel_rfl) (by kernel_rfl) (fun _ _ _ h => h) (Or.inl ⟨by rfl, ?_⟩) hS ?_
          rotate_left
          · intro wq hSw; (try dsimp only at hSw); go_simp; (try with_reducible rfl)
          (try simp only [Act.put, List.setIfInBounds_toArray, List.set_cons_zero, List.set_cons_succ])
          refine wpAnyH_take (i := 44) (oi := ({ dst := some 145, op := Op.pick (Operand.tmp 121) (Operand.tmp 144) (Operand.const (Value.bool false)), type := 4, pos := "laws.go:273", after := #[{ on := 20, ground := Ground.data }, { on := 43, ground := Ground.data }], guard := none } : Oper)) (v := ?_) rfl (by kernel_rfl) (by kernel_rfl) (by kernel_rfl) (fun _ _ _ h => h) (Or.inl ⟨by rfl, ?_⟩) hS ?_
          rotate_left
          · intro wq hSw; (try dsimp only at hSw); go_simp; (try with_reducible rfl)
          (try simp only [Act.put, List.setIfInBounds_toArray, List.set_cons_zero, List.set_cons_succ])
          refine wpAnyH_take (i := 45) (oi := ({ dst := some 2, op := Op.assign (Operand.tmp 145), type := 4, pos := "laws.go:273", after := #[{ on := 44, ground := Ground.data }, { on := 33, ground := Ground.chain }, { on := 0, ground := Ground.phase }, { on := 1, ground := Ground.phase }, { on := 2, ground := Ground.phase }, { on := 3, ground := Ground.phase }, { on := 4, ground := Ground.phase }, { on := 5, ground := Ground.phase }, { on := 6, ground := Ground.phase }, { on := 7, ground := Ground.phase }, { on := 8, ground := Ground.phase }, { on := 9, ground := Ground.phase }, { on := 10, ground := Ground.phase }, { on := 11, ground := Ground.phase }, { on := 12, ground := Ground.phase }, { on := 13, ground := Ground.phase }, { on := 14, ground := Ground.phase }, { on := 15, ground := Ground.phase }, { on := 16, ground := Ground.phase }, { on := 17, ground := Ground.phase }, { on := 18, ground := Ground.phase }, { on := 19, ground := Ground.phase }, { on := 20, ground := Ground.phase }, { on := 21, ground := Ground.phase }, { on := 22, ground := Ground.phase }, { on := 23, ground := Ground.phase }, { on := 24, ground := Ground.phase }, { on := 25, ground := Ground.phase }, { on := 26, ground := Ground.phase }, { on := 27, ground := Ground.phase }, { on := 28, ground := Ground.phase }, { on := 29, ground := Ground.phase }, { on := 30, ground := Ground.phase }, { on := 31, ground := Ground.phase }, { on := 32, ground := Ground.phase }, { on := 33, ground := Ground.phase }, { on := 34, ground := Ground.phase }, { on := 35, ground := Ground.phase }, { on := 36, ground := Ground.phase }, { on := 37, ground := Ground.phase }, { on := 38, ground := Ground.phase }, { on := 39, ground := Ground.phase }, { on := 40, ground := Ground.phase }, { on := 41, ground := Ground.phase }, { on := 42, ground := Ground.phase }, { on := 43, ground := Ground.phase }, { on := 44, ground := Ground.phase }], guard := none } : Oper)) (v := ?_) rfl (by kernel_rfl) (by kernel_rfl) (by kernel_rfl) (fun _ _ _ h => h) (Or.inl ⟨by rfl, ?_⟩) hS ?_
          rotate_left
          · intro wq hSw; (try dsimp only at hSw); go_simp; (try with_reducible rfl)
          (try simp only [Act.put, List.setIfInBounds_toArray, List.set_cons_zero, List.set_cons_succ])
          refine wpAnyH_done (by kernel_rfl) ?_ _
          go_wp2_with fail
          go_ret
          exact ⟨rfl, hBQ.out.trans (bQ12.out.mono hBQ.out.size)⟩
        by_cases hpc : p < 768
        · obtain rfl := HB1'.out hpc
          have hpb : 511 < p := by omega
          have hb1 : decide ((511 : Int) < p) = true := decide_eq_true hpb
          have hb2 : decide (p < 768) = true := decide_eq_true hpc
          have hb3 : decide ((768 : Int) ≤ p) = false := decide_eq_false (by omega)
          have RV := Lib.hid (rfl : p = p)
          have hbb : (BK == BK) = true := by simp
          clear HRV HB1' HB2' HN
          refine wp_region_held_drew (S := fun w' => w'.cell? ⟨w1.heap.size, 0, none⟩ = some (.slice (some ⟨mb, mo, none⟩) 256 xc) ∧ w'.cell? ⟨w1.heap.size, 1, none⟩ = some (.slice xb rom.length xd) ∧ w'.cell? ⟨w1.heap.size, 2, none⟩ = some (.int .i64 BK) ∧ w'.cell? ⟨w3.heap.size, 0, none⟩ = some (.slice (some ⟨ab, ao, none⟩) 256 yc) ∧ w'.cell? ⟨w3.heap.size, 1, none⟩ = some (.slice yb rom.length yd) ∧ w'.cell? ⟨w3.heap.size, 2, none⟩ = some (.int .i64 BK)) (by kernel_rfl) (cells6_drew SQ.out) ?_
          intro hS
          try dsimp only at hS
          refine wpAnyH_take (i := 0) (oi := ({ dst := some 101, op := Op.fieldAddr 37 (Operand.tmp 8) 1, type := 0, pos := "laws.go:273", after := #[], guard := none } : Oper)) (v := ?_) rfl (by kernel_rfl) (by kernel_rfl) (by kernel_rfl) (fun _ _ _ h => h) (Or.inl ⟨by rfl, ?_⟩) hS ?_
          rotate_left
          · intro wq hSw; (try dsimp only at hSw); go_simp; (try with_reducible rfl)
          (try simp only [Act.put, List.setIfInBounds_toArray, List.set_cons_zero, List.set_cons_succ])
          refine wpAnyH_take (i := 1) (oi := ({ dst := some 102, op := Op.load 35 (Operand.tmp 101), type := 35, pos := "laws.go:273", after := #[{ on := 0, ground := Ground.data }], guard := none } : Oper)) (v := ?_) rfl (by kernel_rfl) (by kernel_rfl) (by kernel_rfl) (fun _ _ _ h => h) (Or.inl ⟨by rfl, ?_⟩) hS ?_
          rotate_left
          · intro wq hSw; (try dsimp only at hSw); go_simp; (try with_reducible rfl)
          (try simp only [Act.put, List.setIfInBounds_toArray, List.set_cons_zero, List.set_cons_succ])
          refine wpAnyH_take (i := 2) (oi := ({ dst := some 103, op := Op.fieldAddr 37 (Operand.tmp 3) 1, type := 0, pos := "laws.go:273", after := #[], guard := none } : Oper)) (v := ?_) rfl (by kernel_rfl) (by kernel_rfl) (by kernel_rfl) (fun _ _ _ h => h) (Or.inl ⟨by rfl, ?_⟩) hS ?_
          rotate_left
          · intro wq hSw; (try dsimp only at hSw); go_simp; (try with_reducible rfl)
          (try simp only [Act.put, List.setIfInBounds_toArray, List.set_cons_zero, List.set_cons_succ])
          refine wpAnyH_take (i := 3) (oi := ({ dst := some 104, op := Op.load 35 (Operand.tmp 103), type := 35, pos := "laws.go:273", after := #[{ on := 2, ground := Ground.data }], guard := none } : Oper)) (v := ?_) rfl (by kernel_rfl) (by kernel_rfl) (by kernel_rfl) (fun _ _ _ h => h) (Or.inl ⟨by rfl, ?_⟩) hS ?_
          rotate_left
          · intro wq hSw; (try dsimp only at hSw); go_simp; (try with_reducible rfl)
          (try simp only [Act.put, List.setIfInBounds_toArray, List.set_cons_zero, List.set_cons_succ])
          refine wpAnyH_ready (rs := [4]) (by kernel_rfl) (by simp) ?_
          refine AllReadyH.cons (o := ({ dst := some 105, op := Op.call { callee := Callee.value (Operand.func 34), args := #[Operand.tmp 102, Operand.tmp 104], argTypes := #[35, 35] }, type := 4, pos := "laws.go:273", after := #[{ on := 1, ground := Ground.data }, { on := 3, ground := Ground.data }], guard := none } : Oper)) rfl (fun K hK => ?_) AllReadyH.nil
          go_simp
          (go_at_call 34; refine (sameRows_yes ((memV_parts HXQ.out).2.below (Below.refl _ _).drew) ((memV_parts (HM.out.below b1Q.out)).2.below (Below.refl _ _).drew)).mono ?_; rintro e w10 ⟨rfl, hb10⟩; (have S10 := Lib.hid (cells6_below hb10 (cells6_drew SQ.out))); (have bQ10 : Hid (Below Q.heap.size Q w10) := ((Below.refl _ _).drew).trans hb10))
          (try go_wp2_with fail)
          refine hK.out _ _ (S10.out) (fun hT => ?_)
          clear hK K hS
          have hS := hT
          clear hT
          try dsimp only at hS
          (try simp only [Act.put, List.setIfInBounds_toArray, List.set_cons_zero, List.set_cons_succ])
          refine wpAnyH_take (i := 5) (oi := ({ dst := some 106, op := Op.move (Operand.tmp 105), type := 4, pos := "laws.go:273", after := #[{ on := 4, ground := Ground.data }, { on := 4, ground := Ground.chain }], guard := none } : Oper)) (v := ?_) rfl (by kernel_rfl) (by kernel_rfl) (by kernel_rfl) (fun _ _ _ h => h) (Or.inl ⟨by rfl, ?_⟩) hS ?_
          rotate_left
          · intro wq hSw; (try dsimp only at hSw); go_simp; (try with_reducible rfl)
          (try simp only [Act.put, List.setIfInBounds_toArray, List.set_cons_zero, List.set_cons_succ])
          refine wpAnyH_take (i := 6) (oi := ({ dst := some 107, op := Op.load 37 (Operand.tmp 8), type := 37, pos := "laws.go:273", after := #[{ on := 5, ground := Ground.guard }], guard := some (5, true) } : Oper)) (v := ?_) rfl (by kernel_rfl) (by kernel_rfl) (by kernel_rfl) (fun _ _ _ h => h) (Or.inl ⟨by rfl, ?_⟩) hS ?_
          rotate_left
          · intro wq hSw; (try dsimp only at hSw); go_simp; (try with_reducible rfl)
          (try simp only [Act.put, List.setIfInBounds_toArray, List.set_cons_zero, List.set_cons_succ])
          refine wpAnyH_ready (rs := [7]) (by kernel_rfl) (by simp) ?_
          refine AllReadyH.cons (o := ({ dst := some 108, op := Op.call { callee := Callee.value (Operand.func 29), args := #[Operand.tmp 107], argTypes := #[37] }, type := 4, pos := "laws.go:273", after := #[{ on := 6, ground := Ground.data }, { on := 5, ground := Ground.chain }, { on := 5, ground := Ground.guard }], guard := some (5, true) } : Oper)) rfl (fun K hK => ?_) AllReadyH.nil
          go_simp
          (go_at_call 29; refine (calls_eqv (impl_MemoryValid (HXQ.out.below bQ10.out)) HVX.out).mono ?_; rintro e w11 ⟨rfl, hb11⟩; (have S11 := Lib.hid (cells6_below hb11 S10.out)); (have bQ11 : Hid (Below Q.heap.size Q w11) := bQ10.out.trans (hb11.mono bQ10.out.size)))
          (try go_wp2_with fail)
          refine hK.out _ _ (S11.out) (fun hT => ?_)
          clear hK K hS
          have hS := hT
          clear hT
          try dsimp only at hS
          (try simp only [Act.put, List.setIfInBounds_toArray, List.set_cons_zero, List.set_cons_succ])
          refine wpAnyH_take (i := 8) (oi := ({ dst := some 109, op := Op.pick (Operand.tmp 106) (Operand.tmp 108) (Operand.const (Value.bool false)), type := 4, pos := "laws.go:273", after := #[{ on := 5, ground := Ground.data }, { on := 7, ground := Ground.data }], guard := none } : Oper)) (v := ?_) rfl (by kernel_rfl) (by kernel_rfl) (by kernel_rfl) (fun _ _ _ h => h) (Or.inl ⟨by rfl, ?_⟩) hS ?_
          rotate_left
          · intro wq hSw; (try dsimp only at hSw); go_simp; (try with_reducible rfl)
          (try simp only [Act.put, List.setIfInBounds_toArray, List.set_cons_zero, List.set_cons_succ])
          refine wpAnyH_take (i := 9) (oi := ({ dst := some 110, op := Op.move (Operand.tmp 109), type := 4, pos := "laws.go:273", after := #[{ on := 8, ground := Ground.data }, { on := 7, ground := Ground.chain }], guard := none } : Oper)) (v := ?_) rfl (by kernel_rfl) (by kernel_rfl) (by kernel_rfl) (fun _ _ _ h => h) (Or.inl ⟨by rfl, ?_⟩) hS ?_
          rotate_left
          · intro wq hSw; (try dsimp only at hSw); go_simp; (try with_reducible rfl)
          (try simp only [Act.put, List.setIfInBounds_toArray, List.set_cons_zero, List.set_cons_succ])
          refine wpAnyH_take (i := 10) (oi := ({ dst := some 111, op := Op.move (Operand.tmp 4), type := 3, pos := "laws.go:273", after := #[{ on := 9, ground := Ground.guard }], guard := some (9, true) } : Oper)) (v := ?_) rfl (by kernel_rfl) (by kernel_rfl) (by kernel_rfl) (fun _ _ _ h => h) (Or.inl ⟨by rfl, ?_⟩) hS ?_
          rotate_left
          · intro wq hSw; (try dsimp only at hSw); go_simp; (try with_reducible rfl)
          (try simp only [Act.put, List.setIfInBounds_toArray, List.set_cons_zero, List.set_cons_succ])
          refine wpAnyH_take (i := 11) (oi := ({ dst := some 112, op := Op.binOp BinOp.gtr 3 (Operand.tmp 111) (Operand.const (Value.int IntKind.i64 511)) 3, type := 4, pos := "laws.go:273", after := #[{ on := 10, ground := Ground.data }, { on := 9, ground := Ground.guard }], guard := some (9, true) } : Oper)) (v := ?_) rfl (by kernel_rfl) (by kernel_rfl) (by kernel_rfl) (fun _ _ _ h => h) (Or.inl ⟨by rfl, ?_⟩) hS ?_
          rotate_left
          · intro wq hSw; (try dsimp only at hSw); go_simp; (try with_reducible rfl)
          (try simp only [Act.put, List.setIfInBounds_toArray, List.set_cons_zero, List.set_cons_succ])
          refine wpAnyH_take (i := 12) (oi := ({ dst := some 113, op := Op.move (Operand.tmp 112), type := 4, pos := "laws.go:273", after := #[{ on := 11, ground := Ground.data }, { on := 9, ground := Ground.chain }, { on := 9, ground := Ground.guard }], guard := some (9, true) } : Oper)) (v := ?_) rfl (by kernel_rfl) (by kernel_rfl) (by kernel_rfl) (fun _ _ _ h => h) (Or.inl ⟨by rfl, ?_⟩) hS ?_
          rotate_left
          · intro wq hSw; (try dsimp only at hSw); go_simp; (try with_reducible rfl)
          (try simp only [Act.put, List.setIfInBounds_toArray, List.set_cons_zero, List.set_cons_succ])
          refine wpAnyH_take (i := 13) (oi := ({ dst := some 114, op := Op.load 37 (Operand.tmp 8), type := 37, pos := "laws.go:273", after := #[{ on := 12, ground := Ground.guard }], guard := some (12, false) } : Oper)) (v := undef) rfl (by kernel_rfl) (by kernel_rfl) (by kernel_rfl) (fun _ _ _ h => h) (Or.inr ⟨by rfl, rfl⟩) hS ?_
          (try simp only [Act.put, List.setIfInBounds_toArray, List.set_cons_zero, List.set_cons_succ])
          refine wpAnyH_take (i := 14) (oi := ({ dst := some 115, op := Op.move (Operand.tmp 4), type := 3, pos := "laws.go:273", after := #[{ on := 12, ground := Ground.guard }], guard := some (12, false) } : Oper)) (v := undef) rfl (by kernel_rfl) (by kernel_rfl) (by kernel_rfl) (fun _ _ _ h => h) (Or.inr ⟨by rfl, rfl⟩) hS ?_
          (try simp only [Act.put, List.setIfInBounds_toArray, List.set_cons_zero, List.set_cons_succ])
          refine wpAnyH_take (i := 15) (oi := ({ dst := some 116, op := Op.call { callee := Callee.value (Operand.func 28), args := #[Operand.tmp 114, Operand.tmp 115], argTypes := #[37, 3] }, type := 3, pos := "laws.go:273", after := #[{ on := 13, ground := Ground.data }, { on := 14, ground := Ground.data }, { on := 12, ground := Ground.chain }, { on := 12, ground := Ground.guard }], guard := some (12, false) } : Oper)) (v := undef) rfl (by kernel_rfl) (by kernel_rfl) (by kernel_rfl) (fun _ _ _ h => h) (Or.inr ⟨by rfl, rfl⟩) hS ?_
          (try simp only [Act.put, List.setIfInBounds_toArray, List.set_cons_zero, List.set_cons_succ])
          refine wpAnyH_take (i := 16) (oi := ({ dst := some 117, op := Op.move (Operand.tmp 5), type := 3, pos := "laws.go:273", after := #[{ on := 12, ground := Ground.guard }], guard := some (12, false) } : Oper)) (v := undef) rfl (by kernel_rfl) (by kernel_rfl) (by kernel_rfl) (fun _ _ _ h => h) (Or.inr ⟨by rfl, rfl⟩) hS ?_
          (try simp only [Act.put, List.setIfInBounds_toArray, List.set_cons_zero, List.set_cons_succ])
          refine wpAnyH_take (i := 17) (oi := ({ dst := some 118, op := Op.binOp BinOp.eql 3 (Operand.tmp 116) (Operand.tmp 117) 3, type := 4, pos := "laws.go:273", after := #[{ on := 15, ground := Ground.data }, { on := 16, ground := Ground.data }, { on := 12, ground := Ground.guard }], guard := some (12, false) } : Oper)) (v := undef) rfl (by kernel_rfl) (by kernel_rfl) (by kernel_rfl) (fun _ _ _ h => h) (Or.inr ⟨by rfl, rfl⟩) hS ?_
          (try simp only [Act.put, List.setIfInBounds_toArray, List.set_cons_zero, List.set_cons_succ])
          refine wpAnyH_take (i := 18) (oi := ({ dst := some 119, op := Op.pick (Operand.tmp 113) (Operand.const (Value.bool true)) (Operand.tmp 118), type := 4, pos := "laws.go:273", after := #[{ on := 12, ground := Ground.data }, { on := 17, ground := Ground.data }, { on := 9, ground := Ground.guard }], guard := some (9, true) } : Oper)) (v := ?_) rfl (by kernel_rfl) (by kernel_rfl) (by kernel_rfl) (fun _ _ _ h => h) (Or.inl ⟨by rfl, ?_⟩) hS ?_
          rotate_left
          · intro wq hSw; (try dsimp only at hSw); go_simp; (try with_reducible rfl)
          (try simp only [Act.put, List.setIfInBounds_toArray, List.set_cons_zero, List.set_cons_succ])
          refine wpAnyH_take (i := 19) (oi := ({ dst := some 120, op := Op.pick (Operand.tmp 110) (Operand.tmp 119) (Operand.const (Value.bool false)), type := 4, pos := "laws.go:273", after := #[{ on := 9, ground := Ground.data }, { on := 18, ground := Ground.data }], guard := none } : Oper)) (v := ?_) rfl (by kernel_rfl) (by kernel_rfl) (by kernel_rfl) (fun _ _ _ h => h) (Or.inl ⟨by rfl, ?_⟩) hS ?_
          rotate_left
          · intro wq hSw; (try dsimp only at hSw); go_simp; (try with_reducible rfl)
          (try simp only [Act.put, List.setIfInBounds_toArray, List.set_cons_zero, List.set_cons_succ])
          refine wpAnyH_take (i := 20) (oi := ({ dst := some 121, op := Op.move (Operand.tmp 120), type := 4, pos := "laws.go:273", after := #[{ on := 19, ground := Ground.data }, { on := 15, ground := Ground.chain }], guard := none } : Oper)) (v := ?_) rfl (by kernel_rfl) (by kernel_rfl) (by kernel_rfl) (fun _ _ _ h => h) (Or.inl ⟨by rfl, ?_⟩) hS ?_
          rotate_left
          · intro wq hSw; (try dsimp only at hSw); go_simp; (try with_reducible rfl)
          (try simp only [Act.put, List.setIfInBounds_toArray, List.set_cons_zero, List.set_cons_succ])
          refine wpAnyH_take (i := 21) (oi := ({ dst := some 122, op := Op.move (Operand.tmp 4), type := 3, pos := "laws.go:273", after := #[{ on := 20, ground := Ground.guard }], guard := some (20, true) } : Oper)) (v := ?_) rfl (by kernel_rfl) (by kernel_rfl) (by kernel_rfl) (fun _ _ _ h => h) (Or.inl ⟨by rfl, ?_⟩) hS ?_
          rotate_left
          · intro wq hSw; (try dsimp only at hSw); go_simp; (try with_reducible rfl)
          (try simp only [Act.put, List.setIfInBounds_toArray, List.set_cons_zero, List.set_cons_succ])
          refine wpAnyH_take (i := 22) (oi := ({ dst := some 123, op := Op.binOp BinOp.lss 3 (Operand.tmp 122) (Operand.const (Value.int IntKind.i64 768)) 3, type := 4, pos := "laws.go:273", after := #[{ on := 21, ground := Ground.data }, { on := 20, ground := Ground.guard }], guard := some (20, true) } : Oper)) (v := ?_) rfl (by kernel_rfl) (by kernel_rfl) (by kernel_rfl) (fun _ _ _ h => h) (Or.inl ⟨by rfl, ?_⟩) hS ?_
          rotate_left
          · intro wq hSw; (try dsimp only at hSw); go_simp; (try with_reducible rfl)
          (try simp only [Act.put, List.setIfInBounds_toArray, List.set_cons_zero, List.set_cons_succ])
          refine wpAnyH_take (i := 23) (oi := ({ dst := some 124, op := Op.move (Operand.tmp 123), type := 4, pos := "laws.go:273", after := #[{ on := 22, ground := Ground.data }, { on := 20, ground := Ground.chain }, { on := 20, ground := Ground.guard }], guard := some (20, true) } : Oper)) (v := ?_) rfl (by kernel_rfl) (by kernel_rfl) (by kernel_rfl) (fun _ _ _ h => h) (Or.inl ⟨by rfl, ?_⟩) hS ?_
          rotate_left
          · intro wq hSw; (try dsimp only at hSw); go_simp; (try with_reducible rfl)
          (try simp only [Act.put, List.setIfInBounds_toArray, List.set_cons_zero, List.set_cons_succ])
          refine wpAnyH_take (i := 24) (oi := ({ dst := some 125, op := Op.fieldAddr 37 (Operand.tmp 8) 2, type := 0, pos := "laws.go:273", after := #[{ on := 23, ground := Ground.guard }], guard := some (23, true) } : Oper)) (v := ?_) rfl (by kernel_rfl) (by kernel_rfl) (by kernel_rfl) (fun _ _ _ h => h) (Or.inl ⟨by rfl, ?_⟩) hS ?_
          rotate_left
          · intro wq hSw; (try dsimp only at hSw); go_simp; (try with_reducible rfl)
          (try simp only [Act.put, List.setIfInBounds_toArray, List.set_cons_zero, List.set_cons_succ])
          refine wpAnyH_take (i := 25) (oi := ({ dst := some 126, op := Op.load 3 (Operand.tmp 125), type := 3, pos := "laws.go:273", after := #[{ on := 24, ground := Ground.data }, { on := 23, ground := Ground.guard }], guard := some (23, true) } : Oper)) (v := ?_) rfl (by kernel_rfl) (by kernel_rfl) (by kernel_rfl) (fun _ _ _ h => h) (Or.inl ⟨by rfl, ?_⟩) hS ?_
          rotate_left
          · intro wq hSw; (try dsimp only at hSw); go_simp; (try with_reducible rfl)
          (try simp only [Act.put, List.setIfInBounds_toArray, List.set_cons_zero, List.set_cons_succ])
          refine wpAnyH_take (i := 26) (oi := ({ dst := some 127, op := Op.fieldAddr 37 (Operand.tmp 3) 2, type := 0, pos := "laws.go:273", after := #[{ on := 23, ground := Ground.guard }], guard := some (23, true) } : Oper)) (v := ?_) rfl (by kernel_rfl) (by kernel_rfl) (by kernel_rfl) (fun _ _ _ h => h) (Or.inl ⟨by rfl, ?_⟩) hS ?_
          rotate_left
          · intro wq hSw; (try dsimp only at hSw); go_simp; (try with_reducible rfl)
          (try simp only [Act.put, List.setIfInBounds_toArray, List.set_cons_zero, List.set_cons_succ])
          refine wpAnyH_take (i := 27) (oi := ({ dst := some 128, op := Op.load 3 (Operand.tmp 127), type := 3, pos := "laws.go:273", after := #[{ on := 26, ground := Ground.data }, { on := 23, ground := Ground.guard }], guard := some (23, true) } : Oper)) (v := ?_) rfl (by kernel_rfl) (by kernel_rfl) (by kernel_rfl) (fun _ _ _ h => h) (Or.inl ⟨by rfl, ?_⟩) hS ?_
          rotate_left
          · intro wq hSw; (try dsimp only at hSw); go_simp; (try with_reducible rfl)
          (try simp only [Act.put, List.setIfInBounds_toArray, List.set_cons_zero, List.set_cons_succ])
          refine wpAnyH_take (i := 28) (oi := ({ dst := some 129, op := Op.binOp BinOp.eql 3 (Operand.tmp 126) (Operand.tmp 128) 3, type := 4, pos := "laws.go:273", after := #[{ on := 25, ground := Ground.data }, { on := 27, ground := Ground.data }, { on := 23, ground := Ground.guard }], guard := some (23, true) } : Oper)) (v := ?_) rfl (by kernel_rfl) (by kernel_rfl) (by kernel_rfl) (fun _ _ _ h => h) (Or.inl ⟨by rfl, ?_⟩) hS ?_
          rotate_left
          · intro wq hSw; (try dsimp only at hSw); go_simp; (try with_reducible rfl)
          (try simp only [Act.put, List.setIfInBounds_toArray, List.set_cons_zero, List.set_cons_succ])
          refine wpAnyH_take (i := 29) (oi := ({ dst := some 130, op := Op.pick (Operand.tmp 124) (Operand.tmp 129) (Operand.const (Value.bool false)), type := 4, pos := "laws.go:273", after := #[{ on := 23, ground := Ground.data }, { on := 28, ground := Ground.data }, { on := 20, ground := Ground.guard }], guard := some (20, true) } : Oper)) (v := ?_) rfl (by kernel_rfl) (by kernel_rfl) (by kernel_rfl) (fun _ _ _ h => h) (Or.inl ⟨by rfl, ?_⟩) hS ?_
          rotate_left
          · intro wq hSw; (try dsimp only at hSw); go_simp; (try with_reducible rfl)
          (try simp only [Act.put, List.setIfInBounds_toArray, List.set_cons_zero, List.set_cons_succ])
          refine wpAnyH_take (i := 30) (oi := ({ dst := some 131, op := Op.move (Operand.tmp 130), type := 4, pos := "laws.go:273", after := #[{ on := 29, ground := Ground.data }, { on := 23, ground := Ground.chain }, { on := 20, ground := Ground.guard }], guard := some (20, true) } : Oper)) (v := ?_) rfl (by kernel_rfl) (by kernel_rfl) (by kernel_rfl) (fun _ _ _ h => h) (Or.inl ⟨by rfl, ?_⟩) hS ?_
          rotate_left
          · intro wq hSw; (try dsimp only at hSw); go_simp; (try with_reducible rfl)
          (try simp only [Act.put, List.setIfInBounds_toArray, List.set_cons_zero, List.set_cons_succ])
          refine wpAnyH_take (i := 31) (oi := ({ dst := some 132, op := Op.move (Operand.tmp 4), type := 3, pos := "laws.go:273", after := #[{ on := 30, ground := Ground.guard }], guard := some (30, false) } : Oper)) (v := undef) rfl (by kernel_rfl) (by kernel_rfl) (by kernel_rfl) (fun _ _ _ h => h) (Or.inr ⟨by rfl, rfl⟩) hS ?_
          (try simp only [Act.put, List.setIfInBounds_toArray, List.set_cons_zero, List.set_cons_succ])
          refine wpAnyH_take (i := 32) (oi := ({ dst := some 133, op := Op.binOp BinOp.geq 3 (Operand.tmp 132) (Operand.const (Value.int IntKind.i64 768)) 3, type := 4, pos := "laws.go:273", after := #[{ on := 31, ground := Ground.data }, { on := 30, ground := Ground.guard }], guard := some (30, false) } : Oper)) (v := undef) rfl (by kernel_rfl) (by kernel_rfl) (by kernel_rfl) (fun _ _ _ h => h) (Or.inr ⟨by rfl, rfl⟩) hS ?_
          (try simp only [Act.put, List.setIfInBounds_toArray, List.set_cons_zero, List.set_cons_succ])
          refine wpAnyH_take (i := 33) (oi := ({ dst := some 134, op := Op.move (Operand.tmp 133), type := 4, pos := "laws.go:273", after := #[{ on := 32, ground := Ground.data }, { on := 30, ground := Ground.chain }, { on := 30, ground := Ground.guard }], guard := some (30, false) } : Oper)) (v := undef) rfl (by kernel_rfl) (by kernel_rfl) (by kernel_rfl) (fun _ _ _ h => h) (Or.inr ⟨by rfl, rfl⟩) hS ?_
          (try simp only [Act.put, List.setIfInBounds_toArray, List.set_cons_zero, List.set_cons_succ])
          refine wpAnyH_take (i := 34) (oi := ({ dst := some 135, op := Op.fieldAddr 37 (Operand.tmp 8) 2, type := 0, pos := "laws.go:273", after := #[{ on := 33, ground := Ground.guard }], guard := some (33, true) } : Oper)) (v := undef) rfl (by kernel_rfl) (by kernel_rfl) (by kernel_rfl) (fun _ _ _ h => h) (Or.inr ⟨by rfl, rfl⟩) hS ?_
          (try simp only [Act.put, List.setIfInBounds_toArray, List.set_cons_zero, List.set_cons_succ])
          refine wpAnyH_take (i := 35) (oi := ({ dst := some 136, op := Op.load 3 (Operand.tmp 135), type := 3, pos := "laws.go:273", after := #[{ on := 34, ground := Ground.data }, { on := 33, ground := Ground.guard }], guard := some (33, true) } : Oper)) (v := undef) rfl (by kernel_rfl) (by kernel_rfl) (by kernel_rfl) (fun _ _ _ h => h) (Or.inr ⟨by rfl, rfl⟩) hS ?_
          (try simp only [Act.put, List.setIfInBounds_toArray, List.set_cons_zero, List.set_cons_succ])
          refine wpAnyH_take (i := 36) (oi := ({ dst := some 137, op := Op.move (Operand.tmp 5), type := 3, pos := "laws.go:273", after := #[{ on := 33, ground := Ground.guard }], guard := some (33, true) } : Oper)) (v := undef) rfl (by kernel_rfl) (by kernel_rfl) (by kernel_rfl) (fun _ _ _ h => h) (Or.inr ⟨by rfl, rfl⟩) hS ?_
          (try simp only [Act.put, List.setIfInBounds_toArray, List.set_cons_zero, List.set_cons_succ])
          refine wpAnyH_take (i := 37) (oi := ({ dst := some 138, op := Op.fieldAddr 37 (Operand.tmp 3) 1, type := 0, pos := "laws.go:273", after := #[{ on := 33, ground := Ground.guard }], guard := some (33, true) } : Oper)) (v := undef) rfl (by kernel_rfl) (by kernel_rfl) (by kernel_rfl) (fun _ _ _ h => h) (Or.inr ⟨by rfl, rfl⟩) hS ?_
          (try simp only [Act.put, List.setIfInBounds_toArray, List.set_cons_zero, List.set_cons_succ])
          refine wpAnyH_take (i := 38) (oi := ({ dst := some 139, op := Op.load 35 (Operand.tmp 138), type := 35, pos := "laws.go:273", after := #[{ on := 37, ground := Ground.data }, { on := 33, ground := Ground.guard }], guard := some (33, true) } : Oper)) (v := undef) rfl (by kernel_rfl) (by kernel_rfl) (by kernel_rfl) (fun _ _ _ h => h) (Or.inr ⟨by rfl, rfl⟩) hS ?_
          (try simp only [Act.put, List.setIfInBounds_toArray, List.set_cons_zero, List.set_cons_succ])
          refine wpAnyH_take (i := 39) (oi := ({ dst := some 140, op := Op.call { callee := Callee.builtin Builtin.len, args := #[Operand.tmp 139], argTypes := #[35] }, type := 3, pos := "laws.go:273", after := #[{ on := 38, ground := Ground.data }, { on := 33, ground := Ground.guard }], guard := some (33, true) } : Oper)) (v := undef) rfl (by kernel_rfl) (by kernel_rfl) (by kernel_rfl) (fun _ _ _ h => h) (Or.inr ⟨by rfl, rfl⟩) hS ?_
          (try simp only [Act.put, List.setIfInBounds_toArray, List.set_cons_zero, List.set_cons_succ])
          refine wpAnyH_take (i := 40) (oi := ({ dst := some 141, op := Op.binOp BinOp.rem 3 (Operand.tmp 137) (Operand.tmp 140) 3, type := 3, pos := "laws.go:273", after := #[{ on := 36, ground := Ground.data }, { on := 39, ground := Ground.data }, { on := 33, ground := Ground.guard }], guard := some (33, true) } : Oper)) (v := undef) rfl (by kernel_rfl) (by kernel_rfl) (by kernel_rfl) (fun _ _ _ h => h) (Or.inr ⟨by rfl, rfl⟩) hS ?_
          (try simp only [Act.put, List.setIfInBounds_toArray, List.set_cons_zero, List.set_cons_succ])
          refine wpAnyH_take (i := 41) (oi := ({ dst := some 142, op := Op.binOp BinOp.eql 3 (Operand.tmp 136) (Operand.tmp 141) 3, type := 4, pos := "laws.go:273", after := #[{ on := 35, ground := Ground.data }, { on := 40, ground := Ground.data }, { on := 33, ground := Ground.guard }], guard := some (33, true) } : Oper)) (v := undef) rfl (by kernel_rfl) (by kernel_rfl) (by kernel_rfl) (fun _ _ _ h => h) (Or.inr ⟨by rfl, rfl⟩) hS ?_
          (try simp only [Act.put, List.setIfInBounds_toArray, List.set_cons_zero, List.set_cons_succ])
          refine wpAnyH_take (i := 42) (oi := ({ dst := some 143, op := Op.pick (Operand.tmp 134) (Operand.tmp 142) (Operand.const (Value.bool false)), type := 4, pos := "laws.go:273", after := #[{ on := 33, ground := Ground.data }, { on := 41, ground := Ground.data }, { on := 30, ground := Ground.guard }], guard := some (30, false) } : Oper)) (v := undef) rfl (by kernel_rfl) (by kernel_rfl) (by kernel_rfl) (fun _ _ _ h => h) (Or.inr ⟨by rfl, rfl⟩) hS ?_
          (try simp only [Act.put, List.setIfInBounds_toArray, List.set_cons_zero, List.set_cons_succ])
          refine wpAnyH_take (i := 43) (oi := ({ dst := some 144, op := Op.pick (Operand.tmp 131) (Operand.const (Value.bool true)) (Operand.tmp 143), type := 4, pos := "laws.go:273", after := #[{ on := 30, ground := Ground.data }, { on := 42, ground := Ground.data }, { on := 20, ground := Ground.guard }], guard := some (20, true) } : Oper)) (v := ?_) rfl (by kernel_rfl) (by kernel_rfl) (by kernel_rfl) (fun _ _ _ h => h) (Or.inl ⟨by rfl, ?_⟩) hS ?_
          rotate_left
          · intro wq hSw; (try dsimp only at hSw); go_simp; (try with_reducible rfl)
          (try simp only [Act.put, List.setIfInBounds_toArray, List.set_cons_zero, List.set_cons_succ])
          refine wpAnyH_take (i := 44) (oi := ({ dst := some 145, op := Op.pick (Operand.tmp 121) (Operand.tmp 144) (Operand.const (Value.bool false)), type := 4, pos := "laws.go:273", after := #[{ on := 20, ground := Ground.data }, { on := 43, ground := Ground.data }], guard := none } : Oper)) (v := ?_) rfl (by kernel_rfl) (by kernel_rfl) (by kernel_rfl) (fun _ _ _ h => h) (Or.inl ⟨by rfl, ?_⟩) hS ?_
          rotate_left
          · intro wq hSw; (try dsimp only at hSw); go_simp; (try with_reducible rfl)
          (try simp only [Act.put, List.setIfInBounds_toArray, List.set_cons_zero, List.set_cons_succ])
          refine wpAnyH_take (i := 45) (oi := ({ dst := some 2, op := Op.assign (Operand.tmp 145), type := 4, pos := "laws.go:273", after := #[{ on := 44, ground := Ground.data }, { on := 33, ground := Ground.chain }, { on := 0, ground := Ground.phase }, { on := 1, ground := Ground.phase }, { on := 2, ground := Ground.phase }, { on := 3, ground := Ground.phase }, { on := 4, ground := Ground.phase }, { on := 5, ground := Ground.phase }, { on := 6, ground := Ground.phase }, { on := 7, ground := Ground.phase }, { on := 8, ground := Ground.phase }, { on := 9, ground := Ground.phase }, { on := 10, ground := Ground.phase }, { on := 11, ground := Ground.phase }, { on := 12, ground := Ground.phase }, { on := 13, ground := Ground.phase }, { on := 14, ground := Ground.phase }, { on := 15, ground := Ground.phase }, { on := 16, ground := Ground.phase }, { on := 17, ground := Ground.phase }, { on := 18, ground := Ground.phase }, { on := 19, ground := Ground.phase }, { on := 20, ground := Ground.phase }, { on := 21, ground := Ground.phase }, { on := 22, ground := Ground.phase }, { on := 23, ground := Ground.phase }, { on := 24, ground := Ground.phase }, { on := 25, ground := Ground.phase }, { on := 26, ground := Ground.phase }, { on := 27, ground := Ground.phase }, { on := 28, ground := Ground.phase }, { on := 29, ground := Ground.phase }, { on := 30, ground := Ground.phase }, { on := 31, ground := Ground.phase }, { on := 32, ground := Ground.phase }, { on := 33, ground := Ground.phase }, { on := 34, ground := Ground.phase }, { on := 35, ground := Ground.phase }, { on := 36, ground := Ground.phase }, { on := 37, ground := Ground.phase }, { on := 38, ground := Ground.phase }, { on := 39, ground := Ground.phase }, { on := 40, ground := Ground.phase }, { on := 41, ground := Ground.phase }, { on := 42, ground := Ground.phase }, { on := 43, ground := Ground.phase }, { on := 44, ground := Ground.phase }], guard := none } : Oper)) (v := ?_) rfl (by kernel_rfl) (by kernel_rfl) (by kernel_rfl) (fun _ _ _ h => h) (Or.inl ⟨by rfl, ?_⟩) hS ?_
          rotate_left
          · intro wq hSw; (try dsimp only at hSw); go_simp; (try with_reducible rfl)
          (try simp only [Act.put, List.setIfInBounds_toArray, List.set_cons_zero, List.set_cons_succ])
          refine wpAnyH_done (by kernel_rfl) ?_ _
          go_wp2_with fail
          go_ret
          exact ⟨rfl, hBQ.out.trans (bQ11.out.mono hBQ.out.size)⟩
        · have hpb : 511 < p := by omega
          have hpd : 768 ≤ p := by omega
          have hb1 : decide ((511 : Int) < p) = true := decide_eq_true hpb
          have hb2 : decide (p < 768) = false := decide_eq_false hpc
          have hb3 : decide ((768 : Int) ≤ p) = true := decide_eq_true hpd
          have RV := Lib.hid (rfl : p = p)
          have eK := HB2'.out hpd
          have hx' : 0 ≤ x ∧ x ≤ 255 := byteB_iff.1 HXB.out
          have eJ : x.tmod (rom.length : Int) = BK := by rw [Int.tmod_eq_emod_of_nonneg (by omega)]; exact eK.symm
          have hB1 := Int.emod_nonneg x (show (rom.length : Int) ≠ 0 by omega)
          have hB2 := Int.emod_lt_of_pos x (show (0 : Int) < rom.length by omega)
          rw [← eK] at hB1 hB2
          have hBd : 0 ≤ BK ∧ BK < 256 := by have := HS.out.n4; omega
          clear hB1 hB2
          have hx0 := hx'.1
          have hx1 := hx'.2
          have hB0 := hBd.1
          have hBl := hBd.2
          have hnz : ¬ ((rom.length : Int) = 0) := by omega
          have hnzN : ¬ (rom.length = 0) := by omega
          have hnzB : ((rom.length : Int) == 0) = false := by rw [beq_eq_false_iff_ne]; omega
          have hri : (0 : Int) < (rom.length : Int) := by omega
          have u5 : IntKind.i64.wrap (x.tmod (rom.length : Int)) = BK := by rw [eJ, IntKind.wrap_i64]; omega
          have eJ' : x % (rom.length : Int) = BK := eK.symm
          have hbb : (BK == BK) = true := by simp
          clear HRV HB1' HB2' HN hx' hBd eK
          refine wp_region_held_drew (S := fun w' => w'.cell? ⟨w1.heap.size, 0, none⟩ = some (.slice (some ⟨mb, mo, none⟩) 256 xc) ∧ w'.cell? ⟨w1.heap.size, 1, none⟩ = some (.slice xb rom.length xd) ∧ w'.cell? ⟨w1.heap.size, 2, none⟩ = some (.int .i64 bank) ∧ w'.cell? ⟨w3.heap.size, 0, none⟩ = some (.slice (some ⟨ab, ao, none⟩) 256 yc) ∧ w'.cell? ⟨w3.heap.size, 1, none⟩ = some (.slice yb rom.length yd) ∧ w'.cell? ⟨w3.heap.size, 2, none⟩ = some (.int .i64 BK)) (by kernel_rfl) (cells6_drew SQ.out) ?_
          intro hS
          try dsimp only at hS
          refine wpAnyH_take (i := 0) (oi := ({ dst := some 101, op := Op.fieldAddr 37 (Operand.tmp 8) 1, type := 0, pos := "laws.go:273", after := #[], guard := none } : Oper)) (v := ?_) rfl (by kernel_rfl) (by kernel_rfl) (by kernel_rfl) (fun _ _ _ h => h) (Or.inl ⟨by rfl, ?_⟩) hS ?_
          rotate_left
          · intro wq hSw; (try dsimp only at hSw); go_simp; (try with_reducible rfl)
          (try simp only [Act.put, List.setIfInBounds_toArray, List.set_cons_zero, List.set_cons_succ])
          refine wpAnyH_take (i := 1) (oi := ({ dst := some 102, op := Op.load 35 (Operand.tmp 101), type := 35, pos := "laws.go:273", after := #[{ on := 0, ground := Ground.data }], guard := none } : Oper)) (v := ?_) rfl (by kernel_rfl) (by kernel_rfl) (by kernel_rfl) (fun _ _ _ h => h) (Or.inl ⟨by rfl, ?_⟩) hS ?_
          rotate_left
          · intro wq hSw; (try dsimp only at hSw); go_simp; (try with_reducible rfl)
          (try simp only [Act.put, List.setIfInBounds_toArray, List.set_cons_zero, List.set_cons_succ])
          refine wpAnyH_take (i := 2) (oi := ({ dst := some 103, op := Op.fieldAddr 37 (Operand.tmp 3) 1, type := 0, pos := "laws.go:273", after := #[], guard := none } : Oper)) (v := ?_) rfl (by kernel_rfl) (by kernel_rfl) (by kernel_rfl) (fun _ _ _ h => h) (Or.inl ⟨by rfl, ?_⟩) hS ?_
          rotate_left
          · intro wq hSw; (try dsimp only at hSw); go_simp; (try with_reducible rfl)
          (try simp only [Act.put, List.setIfInBounds_toArray, List.set_cons_zero, List.set_cons_succ])
          refine wpAnyH_take (i := 3) (oi := ({ dst := some 104, op := Op.load 35 (Operand.tmp 103), type := 35, pos := "laws.go:273", after := #[{ on := 2, ground := Ground.data }], guard := none } : Oper)) (v := ?_) rfl (by kernel_rfl) (by kernel_rfl) (by kernel_rfl) (fun _ _ _ h => h) (Or.inl ⟨by rfl, ?_⟩) hS ?_
          rotate_left
          · intro wq hSw; (try dsimp only at hSw); go_simp; (try with_reducible rfl)
          (try simp only [Act.put, List.setIfInBounds_toArray, List.set_cons_zero, List.set_cons_succ])
          refine wpAnyH_ready (rs := [4]) (by kernel_rfl) (by simp) ?_
          refine AllReadyH.cons (o := ({ dst := some 105, op := Op.call { callee := Callee.value (Operand.func 34), args := #[Operand.tmp 102, Operand.tmp 104], argTypes := #[35, 35] }, type := 4, pos := "laws.go:273", after := #[{ on := 1, ground := Ground.data }, { on := 3, ground := Ground.data }], guard := none } : Oper)) rfl (fun K hK => ?_) AllReadyH.nil
          go_simp
          (go_at_call 34; refine (sameRows_yes ((memV_parts HXQ.out).2.below (Below.refl _ _).drew) ((memV_parts (HM.out.below b1Q.out)).2.below (Below.refl _ _).drew)).mono ?_; rintro e w10 ⟨rfl, hb10⟩; (have S10 := Lib.hid (cells6_below hb10 (cells6_drew SQ.out))); (have bQ10 : Hid (Below Q.heap.size Q w10) := ((Below.refl _ _).drew).trans hb10))
          (try go_wp2_with fail)
          refine hK.out _ _ (S10.out) (fun hT => ?_)
          clear hK K hS
          have hS := hT
          clear hT
          try dsimp only at hS
          (try simp only [Act.put, List.setIfInBounds_toArray, List.set_cons_zero, List.set_cons_succ])
          refine wpAnyH_take (i := 5) (oi := ({ dst := some 106, op := Op.move (Operand.tmp 105), type := 4, pos := "laws.go:273", after := #[{ on := 4, ground := Ground.data }, { on := 4, ground := Ground.chain }], guard := none } : Oper)) (v := ?_) rfl (by kernel_rfl) (by kernel_rfl) (by kernel_rfl) (fun _ _ _ h => h) (Or.inl ⟨by rfl, ?_⟩) hS ?_
          rotate_left
          · intro wq hSw; (try dsimp only at hSw); go_simp; (try with_reducible rfl)
          (try simp only [Act.put, List.setIfInBounds_toArray, List.set_cons_zero, List.set_cons_succ])
          refine wpAnyH_take (i := 6) (oi := ({ dst := some 107, op := Op.load 37 (Operand.tmp 8), type := 37, pos := "laws.go:273", after := #[{ on := 5, ground := Ground.guard }], guard := some (5, true) } : Oper)) (v := ?_) rfl (by kernel_rfl) (by kernel_rfl) (by kernel_rfl) (fun _ _ _ h => h) (Or.inl ⟨by rfl, ?_⟩) hS ?_
          rotate_left
          · intro wq hSw; (try dsimp only at hSw); go_simp; (try with_reducible rfl)
          (try simp only [Act.put, List.setIfInBounds_toArray, List.set_cons_zero, List.set_cons_succ])
          refine wpAnyH_ready (rs := [7]) (by kernel_rfl) (by simp) ?_
          refine AllReadyH.cons (o := ({ dst := some 108, op := Op.call { callee := Callee.value (Operand.func 29), args := #[Operand.tmp 107], argTypes := #[37] }, type := 4, pos := "laws.go:273", after := #[{ on := 6, ground := Ground.data }, { on := 5, ground := Ground.chain }, { on := 5, ground := Ground.guard }], guard := some (5, true) } : Oper)) rfl (fun K hK => ?_) AllReadyH.nil
          go_simp
          (go_at_call 29; refine (calls_eqv (impl_MemoryValid (HXQ.out.below bQ10.out)) HVX.out).mono ?_; rintro e w11 ⟨rfl, hb11⟩; (have S11 := Lib.hid (cells6_below hb11 S10.out)); (have bQ11 : Hid (Below Q.heap.size Q w11) := bQ10.out.trans (hb11.mono bQ10.out.size)))
          (try go_wp2_with fail)
          refine hK.out _ _ (S11.out) (fun hT => ?_)
          clear hK K hS
          have hS := hT
          clear hT
          try dsimp only at hS
          (try simp only [Act.put, List.setIfInBounds_toArray, List.set_cons_zero, List.set_cons_succ])
          refine wpAnyH_take (i := 8) (oi := ({ dst := some 109, op := Op.pick (Operand.tmp 106) (Operand.tmp 108) (Operand.const (Value.bool false)), type := 4, pos := "laws.go:273", after := #[{ on := 5, ground := Ground.data }, { on := 7, ground := Ground.data }], guard := none } : Oper)) (v := ?_) rfl (by kernel_rfl) (by kernel_rfl) (by kernel_rfl) (fun _ _ _ h => h) (Or.inl ⟨by rfl, ?_⟩) hS ?_
          rotate_left
          · intro wq hSw; (try dsimp only at hSw); go_simp; (try with_reducible rfl)
          (try simp only [Act.put, List.setIfInBounds_toArray, List.set_cons_zero, List.set_cons_succ])
          refine wpAnyH_take (i := 9) (oi := ({ dst := some 110, op := Op.move (Operand.tmp 109), type := 4, pos := "laws.go:273", after := #[{ on := 8, ground := Ground.data }, { on := 7, ground := Ground.chain }], guard := none } : Oper)) (v := ?_) rfl (by kernel_rfl) (by kernel_rfl) (by kernel_rfl) (fun _ _ _ h => h) (Or.inl ⟨by rfl, ?_⟩) hS ?_
          rotate_left
          · intro wq hSw; (try dsimp only at hSw); go_simp; (try with_reducible rfl)
          (try simp only [Act.put, List.setIfInBounds_toArray, List.set_cons_zero, List.set_cons_succ])
          refine wpAnyH_take (i := 10) (oi := ({ dst := some 111, op := Op.move (Operand.tmp 4), type := 3, pos := "laws.go:273", after := #[{ on := 9, ground := Ground.guard }], guard := some (9, true) } : Oper)) (v := ?_) rfl (by kernel_rfl) (by kernel_rfl) (by kernel_rfl) (fun _ _ _ h => h) (Or.inl ⟨by rfl, ?_⟩) hS ?_
          rotate_left
          · intro wq hSw; (try dsimp only at hSw); go_simp; (try with_reducible rfl)
          (try simp only [Act.put, List.setIfInBounds_toArray, List.set_cons_zero, List.set_cons_succ])
          refine wpAnyH_take (i := 11) (oi := ({ dst := some 112, op := Op.binOp BinOp.gtr 3 (Operand.tmp 111) (Operand.const (Value.int IntKind.i64 511)) 3, type := 4, pos := "laws.go:273", after := #[{ on := 10, ground := Ground.data }, { on := 9, ground := Ground.guard }], guard := some (9, true) } : Oper)) (v := ?_) rfl (by kernel_rfl) (by kernel_rfl) (by kernel_rfl) (fun _ _ _ h => h) (Or.inl ⟨by rfl, ?_⟩) hS ?_
          rotate_left
          · intro wq hSw; (try dsimp only at hSw); go_simp; (try with_reducible rfl)
          (try simp only [Act.put, List.setIfInBounds_toArray, List.set_cons_zero, List.set_cons_succ])
          refine wpAnyH_take (i := 12) (oi := ({ dst := some 113, op := Op.move (Operand.tmp 112), type := 4, pos := "laws.go:273", after := #[{ on := 11, ground := Ground.data }, { on := 9, ground := Ground.chain }, { on := 9, ground := Ground.guard }], guard := some (9, true) } : Oper)) (v := ?_) rfl (by kernel_rfl) (by kernel_rfl) (by kernel_rfl) (fun _ _ _ h => h) (Or.inl ⟨by rfl, ?_⟩) hS ?_
          rotate_left
          · intro wq hSw; (try dsimp only at hSw); go_simp; (try with_reducible rfl)
          (try simp only [Act.put, List.setIfInBounds_toArray, List.set_cons_zero, List.set_cons_succ])
          refine wpAnyH_take (i := 13) (oi := ({ dst := some 114, op := Op.load 37 (Operand.tmp 8), type := 37, pos := "laws.go:273", after := #[{ on := 12, ground := Ground.guard }], guard := some (12, false) } : Oper)) (v := undef) rfl (by kernel_rfl) (by kernel_rfl) (by kernel_rfl) (fun _ _ _ h => h) (Or.inr ⟨by rfl, rfl⟩) hS ?_
          (try simp only [Act.put, List.setIfInBounds_toArray, List.set_cons_zero, List.set_cons_succ])
          refine wpAnyH_take (i := 14) (oi := ({ dst := some 115, op := Op.move (Operand.tmp 4), type := 3, pos := "laws.go:273", after := #[{ on := 12, ground := Ground.guard }], guard := some (12, false) } : Oper)) (v := undef) rfl (by kernel_rfl) (by kernel_rfl) (by kernel_rfl) (fun _ _ _ h => h) (Or.inr ⟨by rfl, rfl⟩) hS ?_
          (try simp only [Act.put, List.setIfInBounds_toArray, List.set_cons_zero, List.set_cons_succ])
          refine wpAnyH_take (i := 15) (oi := ({ dst := some 116, op := Op.call { callee := Callee.value (Operand.func 28), args := #[Operand.tmp 114, Operand.tmp 115], argTypes := #[37, 3] }, type := 3, pos := "laws.go:273", after := #[{ on := 13, ground := Ground.data }, { on := 14, ground := Ground.data }, { on := 12, ground := Ground.chain }, { on := 12, ground := Ground.guard }], guard := some (12, false) } : Oper)) (v := undef) rfl (by kernel_rfl) (by kernel_rfl) (by kernel_rfl) (fun _ _ _ h => h) (Or.inr ⟨by rfl, rfl⟩) hS ?_
          (try simp only [Act.put, List.setIfInBounds_toArray, List.set_cons_zero, List.set_cons_succ])
          refine wpAnyH_take (i := 16) (oi := ({ dst := some 117, op := Op.move (Operand.tmp 5), type := 3, pos := "laws.go:273", after := #[{ on := 12, ground := Ground.guard }], guard := some (12, false) } : Oper)) (v := undef) rfl (by kernel_rfl) (by kernel_rfl) (by kernel_rfl) (fun _ _ _ h => h) (Or.inr ⟨by rfl, rfl⟩) hS ?_
          (try simp only [Act.put, List.setIfInBounds_toArray, List.set_cons_zero, List.set_cons_succ])
          refine wpAnyH_take (i := 17) (oi := ({ dst := some 118, op := Op.binOp BinOp.eql 3 (Operand.tmp 116) (Operand.tmp 117) 3, type := 4, pos := "laws.go:273", after := #[{ on := 15, ground := Ground.data }, { on := 16, ground := Ground.data }, { on := 12, ground := Ground.guard }], guard := some (12, false) } : Oper)) (v := undef) rfl (by kernel_rfl) (by kernel_rfl) (by kernel_rfl) (fun _ _ _ h => h) (Or.inr ⟨by rfl, rfl⟩) hS ?_
          (try simp only [Act.put, List.setIfInBounds_toArray, List.set_cons_zero, List.set_cons_succ])
          refine wpAnyH_take (i := 18) (oi := ({ dst := some 119, op := Op.pick (Operand.tmp 113) (Operand.const (Value.bool true)) (Operand.tmp 118), type := 4, pos := "laws.go:273", after := #[{ on := 12, ground := Ground.data }, { on := 17, ground := Ground.data }, { on := 9, ground := Ground.guard }], guard := some (9, true) } : Oper)) (v := ?_) rfl (by kernel_rfl) (by kernel_rfl) (by kernel_rfl) (fun _ _ _ h => h) (Or.inl ⟨by rfl, ?_⟩) hS ?_
          rotate_left
          · intro wq hSw; (try dsimp only at hSw); go_simp; (try with_reducible rfl)
          (try simp only [Act.put, List.setIfInBounds_toArray, List.set_cons_zero, List.set_cons_succ])
          refine wpAnyH_take (i := 19) (oi := ({ dst := some 120, op := Op.pick (Operand.tmp 110) (Operand.tmp 119) (Operand.const (Value.bool false)), type := 4, pos := "laws.go:273", after := #[{ on := 9, ground := Ground.data }, { on := 18, ground := Ground.data }], guard := none } : Oper)) (v := ?_) rfl (by kernel_rfl) (by kernel_rfl) (by kernel_rfl) (fun _ _ _ h => h) (Or.inl ⟨by rfl, ?_⟩) hS ?_
          rotate_left
          · intro wq hSw; (try dsimp only at hSw); go_simp; (try with_reducible rfl)
          (try simp only [Act.put, List.setIfInBounds_toArray, List.set_cons_zero, List.set_cons_succ])
          refine wpAnyH_take (i := 20) (oi := ({ dst := some 121, op := Op.move (Operand.tmp 120), type := 4, pos := "laws.go:273", after := #[{ on := 19, ground := Ground.data }, { on := 15, ground := Ground.chain }], guard := none } : Oper)) (v := ?_) rfl (by kernel_rfl) (by kernel_rfl) (by kernel_rfl) (fun _ _ _ h => h) (Or.inl ⟨by rfl, ?_⟩) hS ?_
          rotate_left
          · intro wq hSw; (try dsimp only at hSw); go_simp; (try with_reducible rfl)
          (try simp only [Act.put, List.setIfInBounds_toArray, List.set_cons_zero, List.set_cons_succ])
          refine wpAnyH_take (i := 21) (oi := ({ dst := some 122, op := Op.move (Operand.tmp 4), type := 3, pos := "laws.go:273", after := #[{ on := 20, ground := Ground.guard }], guard := some (20, true) } : Oper)) (v := ?_) rfl (by kernel_rfl) (by kernel_rfl) (by kernel_rfl) (fun _ _ _ h => h) (Or.inl ⟨by rfl, ?_⟩) hS ?_
          rotate_left
          · intro wq hSw; (try dsimp only at hSw); go_simp; (try with_reducible rfl)
          (try simp only [Act.put, List.setIfInBounds_toArray, List.set_cons_zero, List.set_cons_succ])
          refine wpAnyH_take (i := 22) (oi := ({ dst := some 123, op := Op.binOp BinOp.lss 3 (Operand.tmp 122) (Operand.const (Value.int IntKind.i64 768)) 3, type := 4, pos := "laws.go:273", after := #[{ on := 21, ground := Ground.data }, { on := 20, ground := Ground.guard }], guard := some (20, true) } : Oper)) (v := ?_) rfl (by kernel_rfl) (by kernel_rfl) (by kernel_rfl) (fun _ _ _ h => h) (Or.inl ⟨by rfl, ?_⟩) hS ?_
          rotate_left
          · intro wq hSw; (try dsimp only at hSw); go_simp; (try with_reducible rfl)
          (try simp only [Act.put, List.setIfInBounds_toArray, List.set_cons_zero, List.set_cons_succ])
          refine wpAnyH_take (i := 23) (oi := ({ dst := some 124, op := Op.move (Operand.tmp 123), type := 4, pos := "laws.go:273", after := #[{ on := 22, ground := Ground.data }, { on := 20, ground := Ground.chain }, { on := 20, ground := Ground.guard }], guard := some (20, true) } : Oper)) (v := ?_) rfl (by kernel_rfl) (by kernel_rfl) (by kernel_rfl) (fun _ _ _ h => h) (Or.inl ⟨by rfl, ?_⟩) hS ?_
          rotate_left
          · intro wq hSw; (try dsimp only at hSw); go_simp; (try with_reducible rfl)
          (try simp only [Act.put, List.setIfInBounds_toArray, List.set_cons_zero, List.set_cons_succ])
          refine wpAnyH_take (i := 24) (oi := ({ dst := some 125, op := Op.fieldAddr 37 (Operand.tmp 8) 2, type := 0, pos := "laws.go:273", after := #[{ on := 23, ground := Ground.guard }], guard := some (23, true) } : Oper)) (v := undef) rfl (by kernel_rfl) (by kernel_rfl) (by kernel_rfl) (fun _ _ _ h => h) (Or.inr ⟨by rfl, rfl⟩) hS ?_
          (try simp only [Act.put, List.setIfInBounds_toArray, List.set_cons_zero, List.set_cons_succ])
          refine wpAnyH_take (i := 25) (oi := ({ dst := some 126, op := Op.load 3 (Operand.tmp 125), type := 3, pos := "laws.go:273", after := #[{ on := 24, ground := Ground.data }, { on := 23, ground := Ground.guard }], guard := some (23, true) } : Oper)) (v := undef) rfl (by kernel_rfl) (by kernel_rfl) (by kernel_rfl) (fun _ _ _ h => h) (Or.inr ⟨by rfl, rfl⟩) hS ?_
          (try simp only [Act.put, List.setIfInBounds_toArray, List.set_cons_zero, List.set_cons_succ])
          refine wpAnyH_take (i := 26) (oi := ({ dst := some 127, op := Op.fieldAddr 37 (Operand.tmp 3) 2, type := 0, pos := "laws.go:273", after := #[{ on := 23, ground := Ground.guard }], guard := some (23, true) } : Oper)) (v := undef) rfl (by kernel_rfl) (by kernel_rfl) (by kernel_rfl) (fun _ _ _ h => h) (Or.inr ⟨by rfl, rfl⟩) hS ?_
          (try simp only [Act.put, List.setIfInBounds_toArray, List.set_cons_zero, List.set_cons_succ])
          refine wpAnyH_take (i := 27) (oi := ({ dst := some 128, op := Op.load 3 (Operand.tmp 127), type := 3, pos := "laws.go:273", after := #[{ on := 26, ground := Ground.data }, { on := 23, ground := Ground.guard }], guard := some (23, true) } : Oper)) (v := undef) rfl (by kernel_rfl) (by kernel_rfl) (by kernel_rfl) (fun _ _ _ h => h) (Or.inr ⟨by rfl, rfl⟩) hS ?_
          (try simp only [Act.put, List.setIfInBounds_toArray, List.set_cons_zero, List.set_cons_succ])
          refine wpAnyH_take (i := 28) (oi := ({ dst := some 129, op := Op.binOp BinOp.eql 3 (Operand.tmp 126) (Operand.tmp 128) 3, type := 4, pos := "laws.go:273", after := #[{ on := 25, ground := Ground.data }, { on := 27, ground := Ground.data }, { on := 23, ground := Ground.guard }], guard := some (23, true) } : Oper)) (v := undef) rfl (by kernel_rfl) (by kernel_rfl) (by kernel_rfl) (fun _ _ _ h => h) (Or.inr ⟨by rfl, rfl⟩) hS ?_
          (try simp only [Act.put, List.setIfInBounds_toArray, List.set_cons_zero, List.set_cons_succ])
          refine wpAnyH_take (i := 29) (oi := ({ dst := some 130, op := Op.pick (Operand.tmp 124) (Operand.tmp 129) (Operand.const (Value.bool false)), type := 4, pos := "laws.go:273", after := #[{ on := 23, ground := Ground.data }, { on := 28, ground := Ground.data }, { on := 20, ground := Ground.guard }], guard := some (20, true) } : Oper)) (v := ?_) rfl (by kernel_rfl) (by kernel_rfl) (by kernel_rfl) (fun _ _ _ h => h) (Or.inl ⟨by rfl, ?_⟩) hS ?_
          rotate_left
          · intro wq hSw; (try dsimp only at hSw); go_simp; (try with_reducible rfl)
          (try simp only [Act.put, List.setIfInBounds_toArray, List.set_cons_zero, List.set_cons_succ])
          refine wpAnyH_take (i := 30) (oi := ({ dst := some 131, op := Op.move (Operand.tmp 130), type := 4, pos := "laws.go:273", after := #[{ on := 29, ground := Ground.data }, { on := 23, ground := Ground.chain }, { on := 20, ground := Ground.guard }], guard := some (20, true) } : Oper)) (v := ?_) rfl (by kernel_rfl) (by kernel_rfl) (by kernel_rfl) (fun _ _ _ h => h) (Or.inl ⟨by rfl, ?_⟩) hS ?_
          rotate_left
          · intro wq hSw; (try dsimp only at hSw); go_simp; (try with_reducible rfl)
          (try simp only [Act.put, List.setIfInBounds_toArray, List.set_cons_zero, List.set_cons_succ])
          refine wpAnyH_take (i := 31) (oi := ({ dst := some 132, op := Op.move (Operand.tmp 4), type := 3, pos := "laws.go:273", after := #[{ on := 30, ground := Ground.guard }], guard := some (30, false) } : Oper)) (v := ?_) rfl (by kernel_rfl) (by kernel_rfl) (by kernel_rfl) (fun _ _ _ h => h) (Or.inl ⟨by rfl, ?_⟩) hS ?_
          rotate_left
          · intro wq hSw; (try dsimp only at hSw); go_simp; (try with_reducible rfl)
          (try simp only [Act.put, List.setIfInBounds_toArray, List.set_cons_zero, List.set_cons_succ])
          refine wpAnyH_take (i := 32) (oi := ({ dst := some 133, op := Op.binOp BinOp.geq 3 (Operand.tmp 132) (Operand.const (Value.int IntKind.i64 768)) 3, type := 4, pos := "laws.go:273", after := #[{ on := 31, ground := Ground.data }, { on := 30, ground := Ground.guard }], guard := some (30, false) } : Oper)) (v := ?_) rfl (by kernel_rfl) (by kernel_rfl) (by kernel_rfl) (fun _ _ _ h => h) (Or.inl ⟨by rfl, ?_⟩) hS ?_
          rotate_left
          · intro wq hSw; (try dsimp only at hSw); go_simp; (try with_reducible rfl)
          (try simp only [Act.put, List.setIfInBounds_toArray, List.set_cons_zero, List.set_cons_succ])
          refine wpAnyH_take (i := 33) (oi := ({ dst := some 134, op := Op.move (Operand.tmp 133), type := 4, pos := "laws.go:273", after := #[{ on := 32, ground := Ground.data }, { on := 30, ground := Ground.chain }, { on := 30, ground := Ground.guard }], guard := some (30, false) } : Oper)) (v := ?_) rfl (by kernel_rfl) (by kernel_rfl) (by kernel_rfl) (fun _ _ _ h => h) (Or.inl ⟨by rfl, ?_⟩) hS ?_
          rotate_left
          · intro wq hSw; (try dsimp only at hSw); go_simp; (try with_reducible rfl)
          (try simp only [Act.put, List.setIfInBounds_toArray, List.set_cons_zero, List.set_cons_succ])
          refine wpAnyH_take (i := 34) (oi := ({ dst := some 135, op := Op.fieldAddr 37 (Operand.tmp 8) 2, type := 0, pos := "laws.go:273", after := #[{ on := 33, ground := Ground.guard }], guard := some (33, true) } : Oper)) (v := ?_) rfl (by kernel_rfl) (by kernel_rfl) (by kernel_rfl) (fun _ _ _ h => h) (Or.inl ⟨by rfl, ?_⟩) hS ?_
          rotate_left
          · intro wq hSw; (try dsimp only at hSw); go_simp; (try with_reducible rfl)
          (try simp only [Act.put, List.setIfInBounds_toArray, List.set_cons_zero, List.set_cons_succ])
          refine wpAnyH_take (i := 35) (oi := ({ dst := some 136, op := Op.load 3 (Operand.tmp 135), type := 3, pos := "laws.go:273", after := #[{ on := 34, ground := Ground.data }, { on := 33, ground := Ground.guard }], guard := some (33, true) } : Oper)) (v := ?_) rfl (by kernel_rfl) (by kernel_rfl) (by kernel_rfl) (fun _ _ _ h => h) (Or.inl ⟨by rfl, ?_⟩) hS ?_
          rotate_left
          · intro wq hSw; (try dsimp only at hSw); go_simp; (try with_reducible rfl)
          (try simp only [Act.put, List.setIfInBounds_toArray, List.set_cons_zero, List.set_cons_succ])
          refine wpAnyH_take (i := 36) (oi := ({ dst := some 137, op := Op.move (Operand.tmp 5), type := 3, pos := "laws.go:273", after := #[{ on := 33, ground := Ground.guard }], guard := some (33, true) } : Oper)) (v := ?_) rfl (by kernel_rfl) (by kernel_rfl) (by kernel_rfl) (fun _ _ _ h => h) (Or.inl ⟨by rfl, ?_⟩) hS ?_
          rotate_left
          · intro wq hSw; (try dsimp only at hSw); go_simp; (try with_reducible rfl)
          (try simp only [Act.put, List.setIfInBounds_toArray, List.set_cons_zero, List.set_cons_succ])
          refine wpAnyH_take (i := 37) (oi := ({ dst := some 138, op := Op.fieldAddr 37 (Operand.tmp 3) 1, type := 0, pos := "laws.go:273", after := #[{ on := 33, ground := Ground.guard }], guard := some (33, true) } : Oper)) (v := ?_) rfl (by kernel_rfl) (by kernel_rfl) (by kernel_rfl) (fun _ _ _ h => h) (Or.inl ⟨by rfl, ?_⟩) hS ?_
          rotate_left
          · intro wq hSw; (try dsimp only at hSw); go_simp; (try with_reducible rfl)
          (try simp only [Act.put, List.setIfInBounds_toArray, List.set_cons_zero, List.set_cons_succ])
          refine wpAnyH_take (i := 38) (oi := ({ dst := some 139, op := Op.load 35 (Operand.tmp 138), type := 35, pos := "laws.go:273", after := #[{ on := 37, ground := Ground.data }, { on := 33, ground := Ground.guard }], guard := some (33, true) } : Oper)) (v := ?_) rfl (by kernel_rfl) (by kernel_rfl) (by kernel_rfl) (fun _ _ _ h => h) (Or.inl ⟨by rfl, ?_⟩) hS ?_
          rotate_left
          · intro wq hSw; (try dsimp only at hSw); go_simp; (try with_reducible rfl)
          (try simp only [Act.put, List.setIfInBounds_toArray, List.set_cons_zero, List.set_cons_succ])
          refine wpAnyH_take (i := 39) (oi := ({ dst := some 140, op := Op.call { callee := Callee.builtin Builtin.len, args := #[Operand.tmp 139], argTypes := #[35] }, type := 3, pos := "laws.go:273", after := #[{ on := 38, ground := Ground.data }, { on := 33, ground := Ground.guard }], guard := some (33, true) } : Oper)) (v := ?_) rfl (by kernel_rfl) (by kernel_rfl) (by kernel_rfl) (fun _ _ _ h => h) (Or.inl ⟨by rfl, ?_⟩) hS ?_
          rotate_left
          · intro wq hSw; (try dsimp only at hSw); go_simp; (try with_reducible rfl)
          (try simp only [Act.put, List.setIfInBounds_toArray, List.set_cons_zero, List.set_cons_succ])
          refine wpAnyH_take (i := 40) (oi := ({ dst := some 141, op := Op.binOp BinOp.rem 3 (Operand.tmp 137) (Operand.tmp 140) 3, type := 3, pos := "laws.go:273", after := #[{ on := 36, ground := Ground.data }, { on := 39, ground := Ground.data }, { on := 33, ground := Ground.guard }], guard := some (33, true) } : Oper)) (v := ?_) rfl (by kernel_rfl) (by kernel_rfl) (by kernel_rfl) (fun _ _ _ h => h) (Or.inl ⟨by rfl, ?_⟩) hS ?_
          rotate_left
          · intro wq hSw; (try dsimp only at hSw); go_simp; (try with_reducible rfl)
          (try simp only [Act.put, List.setIfInBounds_toArray, List.set_cons_zero, List.set_cons_succ])
          refine wpAnyH_take (i := 41) (oi := ({ dst := some 142, op := Op.binOp BinOp.eql 3 (Operand.tmp 136) (Operand.tmp 141) 3, type := 4, pos := "laws.go:273", after := #[{ on := 35, ground := Ground.data }, { on := 40, ground := Ground.data }, { on := 33, ground := Ground.guard }], guard := some (33, true) } : Oper)) (v := ?_) rfl (by kernel_rfl) (by kernel_rfl) (by kernel_rfl) (fun _ _ _ h => h) (Or.inl ⟨by rfl, ?_⟩) hS ?_
          rotate_left
          · intro wq hSw; (try dsimp only at hSw); go_simp; (try with_reducible rfl)
          (try simp only [Act.put, List.setIfInBounds_toArray, List.set_cons_zero, List.set_cons_succ])
          refine wpAnyH_take (i := 42) (oi := ({ dst := some 143, op := Op.pick (Operand.tmp 134) (Operand.tmp 142) (Operand.const (Value.bool false)), type := 4, pos := "laws.go:273", after := #[{ on := 33, ground := Ground.data }, { on := 41, ground := Ground.data }, { on := 30, ground := Ground.guard }], guard := some (30, false) } : Oper)) (v := ?_) rfl (by kernel_rfl) (by kernel_rfl) (by kernel_rfl) (fun _ _ _ h => h) (Or.inl ⟨by rfl, ?_⟩) hS ?_
          rotate_left
          · intro wq hSw; (try dsimp only at hSw); go_simp; (try with_reducible rfl)
          (try simp only [Act.put, List.setIfInBounds_toArray, List.set_cons_zero, List.set_cons_succ])
          refine wpAnyH_take (i := 43) (oi := ({ dst := some 144, op := Op.pick (Operand.tmp 131) (Operand.const (Value.bool true)) (Operand.tmp 143), type := 4, pos := "laws.go:273", after := #[{ on := 30, ground := Ground.data }, { on := 42, ground := Ground.data }, { on := 20, ground := Ground.guard }], guard := some (20, true) } : Oper)) (v := ?_) rfl (by kernel_rfl) (by kernel_rfl) (by kernel_rfl) (fun _ _ _ h => h) (Or.inl ⟨by rfl, ?_⟩) hS ?_
          rotate_left
          · intro wq hSw; (try dsimp only at hSw); go_simp; (try with_reducible rfl)
          (try simp only [Act.put, List.setIfInBounds_toArray, List.set_cons_zero, List.set_cons_succ])
          refine wpAnyH_take (i := 44) (oi := ({ dst := some 145, op := Op.pick (Operand.tmp 121) (Operand.tmp 144) (Operand.const (Value.bool false)), type := 4, pos := "laws.go:273", after := #[{ on := 20, ground := Ground.data }, { on := 43, ground := Ground.data }], guard := none } : Oper)) (v := ?_) rfl (by kernel_rfl) (by kernel_rfl) (by kernel_rfl) (fun _ _ _ h => h) (Or.inl ⟨by rfl, ?_⟩) hS ?_
          rotate_left
          · intro wq hSw; (try dsimp only at hSw); go_simp; (try with_reducible rfl)
          (try simp only [Act.put, List.setIfInBounds_toArray, List.set_cons_zero, List.set_cons_succ])
          refine wpAnyH_take (i := 45) (oi := ({ dst := some 2, op := Op.assign (Operand.tmp 145), type := 4, pos := "laws.go:273", after := #[{ on := 44, ground := Ground.data }, { on := 33, ground := Ground.chain }, { on := 0, ground := Ground.phase }, { on := 1, ground := Ground.phase }, { on := 2, ground := Ground.phase }, { on := 3, ground := Ground.phase }, { on := 4, ground := Ground.phase }, { on := 5, ground := Ground.phase }, { on := 6, ground := Ground.phase }, { on := 7, ground := Ground.phase }, { on := 8, ground := Ground.phase }, { on := 9, ground := Ground.phase }, { on := 10, ground := Ground.phase }, { on := 11, ground := Ground.phase }, { on := 12, ground := Ground.phase }, { on := 13, ground := Ground.phase }, { on := 14, ground := Ground.phase }, { on := 15, ground := Ground.phase }, { on := 16, ground := Ground.phase }, { on := 17, ground := Ground.phase }, { on := 18, ground := Ground.phase }, { on := 19, ground := Ground.phase }, { on := 20, ground := Ground.phase }, { on := 21, ground := Ground.phase }, { on := 22, ground := Ground.phase }, { on := 23, ground := Ground.phase }, { on := 24, ground := Ground.phase }, { on := 25, ground := Ground.phase }, { on := 26, ground := Ground.phase }, { on := 27, ground := Ground.phase }, { on := 28, ground := Ground.phase }, { on := 29, ground := Ground.phase }, { on := 30, ground := Ground.phase }, { on := 31, ground := Ground.phase }, { on := 32, ground := Ground.phase }, { on := 33, ground := Ground.phase }, { on := 34, ground := Ground.phase }, { on := 35, ground := Ground.phase }, { on := 36, ground := Ground.phase }, { on := 37, ground := Ground.phase }, { on := 38, ground := Ground.phase }, { on := 39, ground := Ground.phase }, { on := 40, ground := Ground.phase }, { on := 41, ground := Ground.phase }, { on := 42, ground := Ground.phase }, { on := 43, ground := Ground.phase }, { on := 44, ground := Ground.phase }], guard := none } : Oper)) (v := ?_) rfl (by kernel_rfl) (by kernel_rfl) (by kernel_rfl) (fun _ _ _ h => h) (Or.inl ⟨by rfl, ?_⟩) hS ?_
          rotate_left
          · intro wq hSw; (try dsimp only at hSw); go_simp; (try with_reducible rfl)
          (try simp only [Act.put, List.setIfInBounds_toArray, List.set_cons_zero, List.set_cons_succ])
          refine wpAnyH_done (by kernel_rfl) ?_ _
          go_wp2_with fail
          go_ret
          exact ⟨rfl, hBQ.out.trans (bQ11.out.mono hBQ.out.size)⟩
set_option maxRecDepth 100000 in
theorem lifted_FnWriteMemory (os : Os) (started : os.Started) (H : Type) (enc : TypeId × Value → H) :
    ReturnsInHanded {} Try.checked os 7 .any (Rows.fnWriteMemorySpec.pre6 enc Try.prog Try.f7 Rows.fnWriteMemoryRow.domain false) (Rows.fnWriteMemorySpec.post enc Try.prog Try.f7 false true false false) := by
  refine returnsInHanded_of_change (C := Try.checked) own started (by kernel_rfl) Try.func7
    (ChangeSpec.witness6 (enc := enc) (C := Try.checked) false ⟨#[], #[.slice none 0 0], []⟩ 8 (by kernel_rfl) (by kernel_rfl) (by kernel_rfl) (by kernel_rfl)) ?_
  intro W base args ds gs before hval0 hW hcnd _
  have hval : ∀ (j : Nat) t v, Try.f7.params[j]? = some t → args[j]? = some v → Value.okWide Try.prog W .any base t v := hval0
  have hW' := hW
  obtain ⟨p, q, hA0, hV, rfl, hfz, hnd⟩ := hW
  have hA : DataW.TrodAll enc Try.prog W 0 (fun _ => true) true Try.f7.params.toList args.toList ds p := hA0
  rw [Try.params7] at hA hval
  obtain ⟨v0, vs0, d0, ds0, p0, q0, hargs, rfl, rfl, h0, r0⟩ := trodAll_cons hA
  obtain ⟨rfl, rfl, rfl⟩ := trodAll_nil r0
  obtain rfl : args = #[v0] := by cases args; simp_all
  obtain ⟨rfl, rfl⟩ := trodVars_none hV
  have lt0 : ∀ x ∈ p0, x.block < W.heap.size := by obtain ⟨m, hm⟩ := h0; exact DataW.trod_lt m _ _ _ hm
  have y0 := read_bytes (hval 0 22 v0 rfl rfl) h0
  clear hA0 hval0
  refine (walk_FnWriteMemory v0 W y0).mono fun e W' ⟨he, bel⟩ => ?_
  subst he
  exact ⟨_, rfl, _, _, _, [], _, [], hW', trodAll_mk1 (shut_bool Try.underlying4 _), (trodAll_cons_mk (Below.trod laidOut (by kernel_rfl) (of_decide_eq_true (by kernel_rfl)) h0 bel lt0) trodAll_mk0), rfl, bel.frame _, fun h => by cases h⟩
theorem closed_FnWriteMemory : joinedFacts Try.prog 7 Try.f7 Rows.fnWriteMemorySpec Rows.fnWriteMemoryRow = true := by
  unfold joinedFacts
  rw [shared.1, shared.2.1, shared.2.2.1, shared.2.2.2]
  kernel_rfl
/-- The given statement of FnWriteMemory. -/
theorem FnWriteMemory_holds : Rows.FnWriteMemorySaid :=
  OpenClaim.holds_of_wide 7 Try.f7 rfl rfl rfl rfl rfl rfl rfl ⟨rfl, rfl, rfl, rfl, rfl⟩ rfl rfl rfl rfl rfl (by kernel_rfl) Try.func7 closed_FnWriteMemory
    (of_decide_eq_true (by kernel_rfl)) (by unfold Func.isWrapper; first | (rw [if_pos (by decide +kernel)]; kernel_rfl) | (rw [if_neg (by decide +kernel)]; exact ⟨rfl, rfl⟩))
    (fun os started H enc _ => lifted_FnWriteMemory os started H enc)

end Go.Proofs.Ytkkgolgmhckgoaa
