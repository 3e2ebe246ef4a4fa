/- The law FnCopyMemory: for every input it answers true, and changes nothing that was there. No condition. -/
import Derived.Test.YtkkgolgmhckgoaaDrawCopy
import Derived.Test.YtkkgolgmhckgoaaCopyFns
import Derived.Test.YtkkgolgmhckgoaaDrawByte
import Derived.Test.YtkkgolgmhckgoaaMemRead
import Derived.Test.YtkkgolgmhckgoaaMemFns
import Derived.Test.YtkkgolgmhckgoaaSame
import Derived.Test.YtkkgolgmhckgoaaCellsN
import Derived.Deep.RegionHeld3
import Derived.Deep.RegionWith
import Derived.Deep.DrawnRows
namespace Go.Proofs.Ytkkgolgmhckgoaa
open Go.ChangeShapes Go.WideShapes Go.ChangeAt Go.RowKit
set_option linter.unusedVariables false
attribute [local go_sem ↓] Go.wp_at_zero Go.wp_at_succ

theorem calls_int {P : Program} {f : FuncId} {args : Array Value} {w : World} {b b' : Int} {R : World → Prop} (h : Calls P f args w fun e w' => e = .returned (.int .i64 b) ∧ R w') (hb : b = b') : Calls P f args w fun e w' => e = .returned (.int .i64 b') ∧ R w' := hb ▸ h
theorem calls_made {P : Program} {f : FuncId} {args : Array Value} {w : World} {ram ram' : List Int} {rom rom' : List (List Int)} {bank bank' : Int} (h : Calls P f args w (MadeMem ram rom bank w)) (h1 : ram = ram') (h2 : rom = rom') (h3 : bank = bank') : Calls P f args w (MadeMem ram' rom' bank' w) := by
  subst h1 h2 h3; exact h
theorem six_row {W : World} {b : Nat} {x y z : Value} (h : Six W b x y z) : W.cell? ⟨b, 0, none⟩ = some x ∧ W.cell? ⟨b, 1, none⟩ = some y ∧ W.cell? ⟨b, 2, none⟩ = some z := ⟨h.1, h.2.1, h.2.2.1⟩
theorem ints_all {w : World} {a : Option Addr} {n c : Nat} {zs : List Int} (h : Ints w (.slice a n c) zs) (hk : 0 < zs.length) : ∃ b off, a = some ⟨b, off, none⟩ ∧ ∀ i, i < zs.length → w.cell? ⟨b, off + i, none⟩ = some (.int .i64 (zs.getD i 0)) := by
  obtain ⟨a', c', e, h1, h2, h3⟩ := h
  injection e with e1 e2 e3
  subst e1 e2 e3
  rcases h3 with h0 | ⟨b, off, rfl, hc⟩
  · rw [h0] at hk; simp at hk
  · exact ⟨b, off, rfl, hc⟩
set_option maxHeartbeats 8000000 in
set_option maxRecDepth 20000 in
theorem walk_FnCopyMemory (v0 : Value) (w : World) (y0 : IsBytes w v0) : Calls Try.prog 6 #[v0] w fun e w' => e = .returned (.bool true) ∧ Below w.heap.size w w' := by
  have hY := Lib.hid y0
  obtain ⟨a, len, cap, zs, rfl, _⟩ := y0
  by_cases hl : (1048576 : Int) < (len : Int)
  · go_enter Try.func6, Try.ntmps6
    go_wp2_with fail
    go_ret
    exact ⟨rfl, Below.refl _ _⟩
  go_enter Try.func6, Try.ntmps6
  go_wp2_with fail
  refine (draw_CopyMemory hY.out).mono ?_
  rintro e w1 ⟨v1, ram, rom, bank, p, q, n, rfl, hm, hr1, hr2, hr3, hb1⟩
  have HM := Lib.hid hm
  have hB1 := Lib.hid hb1
  obtain ⟨xa, xc, xb, xd, rfl, k1, k2, k3, k4⟩ := memV_shape hm
  clear hm hb1
  cases hok : cpOk ram rom bank p q n
  · obtain ⟨ea, eb, ec⟩ := cp_no hok
    have EA := Lib.hid ea
    have EB := Lib.hid eb
    have EF := Lib.hid ec
    clear ea eb ec hok
    go_wp2_with fail
    refine (calls_made (impl_CopyMemory p q n (HM.out.alloc _)) EA.out EB.out EF.out).mono ?_
    rintro e w2 ⟨v2, rfl, o2, hb2⟩
    have t2 := six_below hb2 (six_lit rfl)
    have b12 : Hid (Below w1.heap.size w1 w2) := ((Below.refl _ _).alloc (Nat.le_refl _) _).trans (hb2.mono (by simp))
    have HX := Lib.hid o2.mem
    obtain ⟨ya, yc, yb, yd, rfl, k1, k2, k3, k4⟩ := memV_shape o2.mem
    clear o2 hb2 k1 k2 k3 k4
    obtain ⟨x30, x31, x32, x33, x34, x35⟩ := id t2
    have hw2 : w1.heap.size < w2.heap.size := block_lt_of_cell x30
    go_upto_region 5 with fail
    obtain ⟨Z, hZ0⟩ : ∃ Z, Z = w2.alloc (.cells #[.slice ya 0 yc, .slice yb 0 yd, .int .i64 0] 37) := ⟨_, rfl⟩
    have tZ : Hid (Six Z w2.heap.size (.slice ya 0 yc) (.slice yb 0 yd) (.int .i64 0)) := by rw [hZ0]; exact six_lit rfl
    have b3Z : Hid (Below w2.heap.size w2 Z) := by rw [hZ0]; exact (Below.refl _ _).alloc (Nat.le_refl _) _
    have b1Z : Hid (Below w1.heap.size w1 Z) := b12.out.trans (b3Z.out.mono b12.out.size)
    have tM : Hid (Six Z w1.heap.size (.slice xa ram.length xc) (.slice xb rom.length xd) (.int .i64 bank)) := six_below b3Z.out t2
    have SZ : Hid (Z.cell? ⟨w1.heap.size, 0, none⟩ = some (.slice xa ram.length xc) ∧ Z.cell? ⟨w1.heap.size, 1, none⟩ = some (.slice xb rom.length xd) ∧ Z.cell? ⟨w1.heap.size, 2, none⟩ = some (.int .i64 bank) ∧ Z.cell? ⟨w2.heap.size, 0, none⟩ = some (.slice ya 0 yc) ∧ Z.cell? ⟨w2.heap.size, 1, none⟩ = some (.slice yb 0 yd) ∧ Z.cell? ⟨w2.heap.size, 2, none⟩ = some (.int .i64 0)) := by
      obtain ⟨s0, s1, s2⟩ := six_row tM.out
      obtain ⟨s3, s4, s5⟩ := six_row tZ.out
      exact ⟨s0, s1, s2, s3, s4, s5⟩
    have HXZ : Hid (MemV Z (.agg #[.slice ya 0 yc, .slice yb 0 yd, .int .i64 0]) [] [] 0) := HX.out.below b3Z.out
    rw [← hZ0]
    clear hZ0 HX t2 x30 x31 x32 x33 x34 x35
    have hwZ : w2.heap.size < Z.heap.size := block_lt_of_cell tZ.out.1
    have hwZ1 : w1.heap.size < Z.heap.size := block_lt_of_cell tM.out.1
    go_region_held3 (fun w' => w'.cell? ⟨w1.heap.size, 0, none⟩ = some (.slice xa ram.length xc) ∧ w'.cell? ⟨w1.heap.size, 1, none⟩ = some (.slice xb rom.length xd) ∧ w'.cell? ⟨w1.heap.size, 2, none⟩ = some (.int .i64 bank) ∧ w'.cell? ⟨w2.heap.size, 0, none⟩ = some (.slice ya 0 yc) ∧ w'.cell? ⟨w2.heap.size, 1, none⟩ = some (.slice yb 0 yd) ∧ w'.cell? ⟨w2.heap.size, 2, none⟩ = some (.int .i64 0)) (first | with_reducible exact SZ.out | with_reducible exact S5.out | with_reducible exact S6.out | with_reducible exact cells6_drew SZ.out | with_reducible exact cells6_drew S5.out | with_reducible exact cells6_drew S6.out)
      (first
        | (go_at_call 26; go_loud (refine (laws_sameMemory (HXZ.out.below bZ5.out) o5.mem).mono ?_; rintro e w6 ⟨rfl, hb6⟩; (have S6 := Lib.hid (cells6_below hb6 S5.out)); (have bZ6 : Hid (Below Z.heap.size Z w6) := bZ5.out.trans (hb6.mono bZ5.out.size)); (have b16 : Hid (Below w1.heap.size w1 w6) := b15.out.trans (hb6.mono b15.out.size))))
        | (go_at_call 27; go_loud (refine (calls_made (spec_CopyMemory p q n (HM.out.below b1Z.out.drew)) EA.out EB.out EF.out).mono ?_; rintro e w5 ⟨v5, rfl, o5, hb5⟩; (have S5 := Lib.hid (cells6_below hb5 (cells6_drew SZ.out))); (have bZ5 : Hid (Below Z.heap.size Z w5) := ((Below.refl _ _).drew).trans hb5); (have b15 : Hid (Below w1.heap.size w1 w5) := b1Z.out.drew.trans (hb5.mono b1Z.out.size)))))
    all_goals
      have hB6 : Hid (Below w.heap.size w w6) := hB1.out.trans (b16.out.mono hB1.out.size)
      obtain ⟨x60, x61, x62, x63, x64, x65⟩ := id S6.out
      go_wp2_with (first | (go_at_call 16; refine (laws_alive _).mono ?_; rintro e w' ⟨rfl, rfl⟩))
      go_ret
      exact ⟨rfl, hB6.out⟩
  have hok' := hok
  simp only [cpOk, Bool.and_eq_true] at hok'
  obtain ⟨⟨⟨hv, hp⟩, hq⟩, hn⟩ := hok'
  have hp' := inR_iff.1 hp
  have hq' := inR_iff.1 hq
  have hn' := inR_iff.1 hn
  obtain ⟨ea, eb, ec⟩ := cp_yes hok
  obtain ⟨R, hR⟩ : ∃ R, R = copyN ram rom bank p.toNat q.toNat n.toNat := ⟨_, rfl⟩
  have hs := shp_of hv
  have hRl : R.length = 256 := by rw [hR, copyN_len]; exact hs.r
  have HVX : Hid (memB R rom bank = true) := by rw [hR]; exact copyN_valid hv _ _ _
  have HRL := Lib.hid hRl
  have EA : Hid (cpR ram rom bank p q n = R) := by rw [hR]; exact ea
  have EB := Lib.hid eb
  have EF := Lib.hid ec
  have HS := Lib.hid hs
  have HV := Lib.hid hv
  have hr256 := Lib.hid hs.r
  -- the copy out of bank 0
  obtain ⟨K, hK⟩ : ∃ K : Nat, (K : Int) = q % 256 := ⟨(q % 256).toNat, by omega⟩
  have hKl : K < 256 := by omega
  have hqm : q.tmod 256 = (K : Int) := by rw [Int.tmod_eq_emod_of_nonneg (by omega)]; exact hK.symm
  have hqe : q % 256 = (K : Int) := hK.symm
  obtain ⟨K2, hK2⟩ : ∃ K2 : Int, K2 = 512 + (K : Int) := ⟨_, rfl⟩
  obtain ⟨K3, hK3⟩ : ∃ K3 : Int, K3 = 256 - (K : Int) := ⟨_, rfl⟩
  have u1 : 512 + (K : Int) = K2 := hK2.symm
  have u2 : 256 - (K : Int) = K3 := hK3.symm
  have hok2 : cpOk ram rom bank K2 K K3 = true := by simp only [cpOk, Bool.and_eq_true]; exact ⟨⟨⟨hv, inR_iff.2 (by omega)⟩, inR_iff.2 (by omega)⟩, inR_iff.2 (by omega)⟩
  obtain ⟨ea2, eb2, ec2⟩ := cp_yes hok2
  obtain ⟨R2, hR2⟩ : ∃ R2, R2 = copyN ram rom bank K2.toNat (K : Int).toNat K3.toNat := ⟨_, rfl⟩
  have hR2l : R2.length = 256 := by rw [hR2, copyN_len]; exact hs.r
  have HVX2 : Hid (memB R2 rom bank = true) := by rw [hR2]; exact copyN_valid hv _ _ _
  have HRL2 := Lib.hid hR2l
  have EA2 : Hid (cpR ram rom bank K2 K K3 = R2) := by rw [hR2]; exact ea2
  have EB2 := Lib.hid eb2
  have EF2 := Lib.hid ec2
  have HRD : Hid (∀ j : Nat, K ≤ j → j < 256 → readV R2 rom bank j = (rom.getD 0 []).getD j 0) := fun j h1 h2 => by
    rw [readV_yes HVX2.out (inR_iff.2 (by omega))]
    simp only [peekL]
    rw [if_pos (by omega), hR2, show K2.toNat = 512 + K by omega, show (K : Int).toNat = K by omega, show K3.toNat = 256 - K by omega, show ((j : Int).toNat % 256) = j by omega]
    exact copyN_rom ram rom bank K hs.r hKl (256 - K) (by omega) j h1 (by omega)
  have hok3 : cpOk ram rom bank p q 0 = true := by simp only [cpOk, Bool.and_eq_true]; exact ⟨⟨⟨hv, hp⟩, hq⟩, inR_iff.2 (by omega)⟩
  obtain ⟨ea3, eb3, ec3⟩ := cp_yes hok3
  have EA3 : Hid (cpR ram rom bank p q 0 = ram) := by rw [ea3]; rfl
  have EB3 := Lib.hid eb3
  have EF3 := Lib.hid ec3
  have hok4 : cpOk ram rom bank 0 0 256 = true := by simp only [cpOk, Bool.and_eq_true]; exact ⟨⟨⟨hv, inR_iff.2 (by omega)⟩, inR_iff.2 (by omega)⟩, inR_iff.2 (by omega)⟩
  obtain ⟨ea4, eb4, ec4⟩ := cp_yes hok4
  have EA4 : Hid (cpR ram rom bank 0 0 256 = ram) := by rw [ea4]; exact copyN_self ram rom bank 256 (by omega)
  have EB4 := Lib.hid eb4
  have EF4 := Lib.hid ec4
  clear ea eb ec ea2 eb2 ec2 ea3 eb3 ec3 ea4 eb4 ec4 hR hR2 hRl hR2l hs hok hok2 hok3 hok4 hv hp hq hn hK hK2 hK3
  have hq0 := hq'.1
  have hq1 := hq'.2
  go_wp2_with fail
  refine (calls_made (impl_CopyMemory p q n (HM.out.alloc _)) EA.out EB.out EF.out).mono ?_
  rintro e w2 ⟨v2, rfl, o2, hb2⟩
  have t2 := six_below hb2 (six_lit rfl)
  have b12 : Hid (Below w1.heap.size w1 w2) := ((Below.refl _ _).alloc (Nat.le_refl _) _).trans (hb2.mono (by simp))
  have HX := Lib.hid o2.mem
  obtain ⟨ya, yc, yb, yd, rfl, k1, k2, k3, k4⟩ := memV_shape o2.mem
  clear o2 hb2 k1 k2 k3 k4
  obtain ⟨x30, x31, x32, x33, x34, x35⟩ := id t2
  have hw2 : w1.heap.size < w2.heap.size := block_lt_of_cell x30
  go_upto_region 5 with fail
  obtain ⟨Z, hZ0⟩ : ∃ Z, Z = w2.alloc (.cells #[.slice ya R.length yc, .slice yb rom.length yd, .int .i64 bank] 37) := ⟨_, rfl⟩
  have tZ : Hid (Six Z w2.heap.size (.slice ya R.length yc) (.slice yb rom.length yd) (.int .i64 bank)) := by rw [hZ0]; exact six_lit rfl
  have b3Z : Hid (Below w2.heap.size w2 Z) := by rw [hZ0]; exact (Below.refl _ _).alloc (Nat.le_refl _) _
  have b1Z : Hid (Below w1.heap.size w1 Z) := b12.out.trans (b3Z.out.mono b12.out.size)
  have tM : Hid (Six Z w1.heap.size (.slice xa ram.length xc) (.slice xb rom.length xd) (.int .i64 bank)) := six_below b3Z.out t2
  have SZ : Hid (Z.cell? ⟨w1.heap.size, 0, none⟩ = some (.slice xa ram.length xc) ∧ Z.cell? ⟨w1.heap.size, 1, none⟩ = some (.slice xb rom.length xd) ∧ Z.cell? ⟨w1.heap.size, 2, none⟩ = some (.int .i64 bank) ∧ Z.cell? ⟨w2.heap.size, 0, none⟩ = some (.slice ya R.length yc) ∧ Z.cell? ⟨w2.heap.size, 1, none⟩ = some (.slice yb rom.length yd) ∧ Z.cell? ⟨w2.heap.size, 2, none⟩ = some (.int .i64 bank)) := by
    obtain ⟨s0, s1, s2⟩ := six_row tM.out
    obtain ⟨s3, s4, s5⟩ := six_row tZ.out
    exact ⟨s0, s1, s2, s3, s4, s5⟩
  have HXZ : Hid (MemV Z (.agg #[.slice ya R.length yc, .slice yb rom.length yd, .int .i64 bank]) R rom bank) := HX.out.below b3Z.out
  rw [← hZ0]
  clear hZ0 HX t2 x30 x31 x32 x33 x34 x35
  have hwZ : w2.heap.size < Z.heap.size := block_lt_of_cell tZ.out.1
  have hwZ1 : w1.heap.size < Z.heap.size := block_lt_of_cell tM.out.1
  go_region_held3 (fun w' => w'.cell? ⟨w1.heap.size, 0, none⟩ = some (.slice xa ram.length xc) ∧ w'.cell? ⟨w1.heap.size, 1, none⟩ = some (.slice xb rom.length xd) ∧ w'.cell? ⟨w1.heap.size, 2, none⟩ = some (.int .i64 bank) ∧ w'.cell? ⟨w2.heap.size, 0, none⟩ = some (.slice ya R.length yc) ∧ w'.cell? ⟨w2.heap.size, 1, none⟩ = some (.slice yb rom.length yd) ∧ w'.cell? ⟨w2.heap.size, 2, none⟩ = some (.int .i64 bank)) (first | with_reducible exact SZ.out | with_reducible exact S5.out | with_reducible exact S6.out | with_reducible exact cells6_drew SZ.out | with_reducible exact cells6_drew S5.out | with_reducible exact cells6_drew S6.out)
    (first
      | (go_at_call 26; go_loud (refine (laws_sameMemory (HXZ.out.below bZ5.out) o5.mem).mono ?_; rintro e w6 ⟨rfl, hb6⟩; (have S6 := Lib.hid (cells6_below hb6 S5.out)); (have bZ6 : Hid (Below Z.heap.size Z w6) := bZ5.out.trans (hb6.mono bZ5.out.size)); (have b16 : Hid (Below w1.heap.size w1 w6) := b15.out.trans (hb6.mono b15.out.size))))
      | (go_at_call 27; go_loud (refine (calls_made (spec_CopyMemory p q n (HM.out.below b1Z.out.drew)) EA.out EB.out EF.out).mono ?_; rintro e w5 ⟨v5, rfl, o5, hb5⟩; (have S5 := Lib.hid (cells6_below hb5 (cells6_drew SZ.out))); (have bZ5 : Hid (Below Z.heap.size Z w5) := ((Below.refl _ _).drew).trans hb5); (have b15 : Hid (Below w1.heap.size w1 w5) := b1Z.out.drew.trans (hb5.mono b1Z.out.size)))))
  all_goals
    have hB6 : Hid (Below w.heap.size w w6) := hB1.out.trans (b16.out.mono hB1.out.size)
    obtain ⟨x60, x61, x62, x63, x64, x65⟩ := id S6.out
    have hl6 : w1.heap.size < w6.heap.size := block_lt_of_cell x60
    have hl6' : w2.heap.size < w6.heap.size := block_lt_of_cell x63
    have hz1 : ((R.length : Int) == 0) = false := by rw [HRL.out]; decide
    go_wp2_with fail
    clear hz1
    refine (calls_made (impl_CopyMemory K2 K K3 (HM.out.below b16.out)) EA2.out EB2.out EF2.out).mono ?_
    rintro e w3 ⟨v3, rfl, o3, hb3⟩
    have S3 := Lib.hid (cells6_below hb3 S6.out)
    have b13 : Hid (Below w1.heap.size w1 w3) := b16.out.trans (hb3.mono b16.out.size)
    have bZ3 : Hid (Below Z.heap.size Z w3) := bZ6.out.trans (hb3.mono bZ6.out.size)
    have HX3 := Lib.hid o3.mem
    obtain ⟨zq, zc, zb, zd, hv3, k1, k2, k3, k4⟩ := memV_shape o3.mem
    rw [HRL2.out] at hv3
    subst hv3
    clear o3 hb3 k1 k2 k3 k4 x60 x61 x62 x63 x64 x65 S5 S6 SZ tM tZ hl6 hl6'
    go_upto_region 11 with fail
    obtain ⟨Y, hY0⟩ : ∃ Y, Y = w3.alloc (.cells #[.slice zq 256 zc, .slice zb rom.length zd, .int .i64 bank] 37) := ⟨_, rfl⟩
    have tY : Hid (Six Y w3.heap.size (.slice zq 256 zc) (.slice zb rom.length zd) (.int .i64 bank)) := by rw [hY0]; exact six_lit rfl
    have b3Y : Hid (Below w3.heap.size w3 Y) := by rw [hY0]; exact (Below.refl _ _).alloc (Nat.le_refl _) _
    have b1Y : Hid (Below w1.heap.size w1 Y) := b13.out.trans (b3Y.out.mono b13.out.size)
    have bZY : Hid (Below Z.heap.size Z Y) := bZ3.out.trans (b3Y.out.mono bZ3.out.size)
    have SY := Lib.hid (cells6_below b3Y.out S3.out)
    have HXY : Hid (MemV Y (.agg #[.slice zq 256 zc, .slice zb rom.length zd, .int .i64 bank]) R2 rom bank) := HX3.out.below b3Y.out
    have hBY : Hid (Below w.heap.size w Y) := hB1.out.trans (b1Y.out.mono hB1.out.size)
    rw [← hY0]
    clear hY0 S3 HX3
    obtain ⟨za, zo, rfl, hza⟩ := ints_all (memV_parts HXY.out).1 (by rw [HRL2.out]; omega)
    clear hza
    obtain ⟨hiM, hmM⟩ := memV_parts (HM.out.below b1Y.out)
    have hn0 := HS.out.n
    have hrow0 := HS.out.row 0 hn0
    obtain ⟨qa, q5, q6, bb, bo, a0, c0, hbe, hbb, hb0, hi0⟩ := mat_at_ hmM (k := 0) hn0
    subst hbe
    rw [hrow0] at hb0 hi0
    obtain ⟨db, dof, rfl, hdc⟩ := ints_all hi0 (by rw [hrow0]; omega)
    rw [Nat.add_zero] at hb0
    have HB0 := Lib.hid hb0
    have HDC := Lib.hid hdc
    have hri : (0 : Int) < (rom.length : Int) := by omega
    have HR0 := Lib.hid hrow0
    clear hiM hmM qa q5 q6 hbb hb0 hi0 hdc hrow0
    go_wp2_with fail
    go_loopw [10] (fun i wr => ∃ j : Nat, K ≤ j ∧ j ≤ 256 ∧ i = .int .i64 j ∧ Hid (Below Y.heap.size Y wr)) (fun i _ => 256 - (intOf i).toNat)
    case atStart => exact ⟨K, by omega, by omega, rfl, Below.refl _ _⟩
    case round =>
      obtain ⟨j, hj1, hj2, rfl, bYr⟩ := hrel
      have SR := Lib.hid (cells6_below bYr.out SY.out)
      by_cases hlt : j < 256
      · have hji : (j : Int) < 256 := by omega
        have hj0 : (0 : Int) ≤ (j : Int) := by omega
        have rd := Lib.hid (HRD.out j hj1 hlt)
        have dc : Hid (Y.cell? ⟨db, dof + j, none⟩ = some (.int .i64 ((rom.getD 0 []).getD j 0))) := HDC.out j (by rw [HR0.out]; exact hlt)
        generalize (rom.getD 0 []).getD j 0 = zr at *
        obtain ⟨s0, s1, s2⟩ := six_row (six_below bYr.out tY.out)
        have S14 : Hid (wr.cell? ⟨w3.heap.size, 0, none⟩ = some (.slice (some ⟨za, zo, none⟩) 256 zc) ∧ wr.cell? ⟨w3.heap.size, 1, none⟩ = some (.slice zb rom.length zd) ∧ wr.cell? ⟨w3.heap.size, 2, none⟩ = some (.int .i64 bank) ∧ wr.cell? ⟨w1.heap.size, 1, none⟩ = some (.slice (some ⟨bb, bo, none⟩) rom.length xd) ∧ wr.cell? ⟨bb, bo, none⟩ = some (.slice (some ⟨db, dof, none⟩) 256 c0) ∧ wr.cell? ⟨db, dof + j, none⟩ = some (.int .i64 zr)) := ⟨s0, s1, s2, SR.out.2.1, cell_below bYr.out HB0.out, cell_below bYr.out dc.out⟩
        have hlY : w3.heap.size < wr.heap.size := block_lt_of_cell s0
        clear s0 s1 s2 dc
        go_wp2_with fail
        go_region_held3 (fun w' => w'.cell? ⟨w3.heap.size, 0, none⟩ = some (.slice (some ⟨za, zo, none⟩) 256 zc) ∧ w'.cell? ⟨w3.heap.size, 1, none⟩ = some (.slice zb rom.length zd) ∧ w'.cell? ⟨w3.heap.size, 2, none⟩ = some (.int .i64 bank) ∧ w'.cell? ⟨w1.heap.size, 1, none⟩ = some (.slice (some ⟨bb, bo, none⟩) rom.length xd) ∧ w'.cell? ⟨bb, bo, none⟩ = some (.slice (some ⟨db, dof, none⟩) 256 c0) ∧ w'.cell? ⟨db, dof + j, none⟩ = some (.int .i64 zr)) (first | with_reducible exact S14.out | with_reducible exact S15.out | with_reducible exact cells6_drew S14.out | with_reducible exact cells6_drew S15.out)
          (first
            | (go_at_call 28; go_loud (refine (calls_int (impl_ReadMemory (j : Int) ((HXY.out.below bYr.out).below (Below.refl _ _).drew)) rd.out).mono ?_; rintro e w9 ⟨rfl, hb9⟩; (have S15 := Lib.hid (cells6_below hb9 (cells6_drew S14.out))); (have bY9 : Hid (Below Y.heap.size Y w9) := bYr.out.drew.trans (hb9.mono bYr.out.size)))))
        all_goals
          go_wp2_with fail
          go_roundw
          case rel => exact ⟨j + 1, by omega, by omega, by go_num, bY9.out⟩
          case measure => simp [intOf]; omega
      · have hge : ¬ (j : Int) < 256 := by omega
        go_upto_region 16 with fail
        have hBr : Hid (Below w.heap.size w wr) := hBY.out.trans (bYr.out.mono hBY.out.size)
        have b1r : Hid (Below w1.heap.size w1 wr) := b1Y.out.trans (bYr.out.mono b1Y.out.size)
        have bZr : Hid (Below Z.heap.size Z wr) := bZY.out.trans (bYr.out.mono bZY.out.size)
        clear SY HDC HB0 HRD hge hj1 hj2
        obtain ⟨x60, x61, x62, x63, x64, x65⟩ := id SR.out
        have hl6 : w1.heap.size < wr.heap.size := block_lt_of_cell x60
        have hl6' : w2.heap.size < wr.heap.size := block_lt_of_cell x63
        clear x60 x61 x62 x63 x64 x65
        go_region_held3 (fun w' => w'.cell? ⟨w1.heap.size, 0, none⟩ = some (.slice xa ram.length xc) ∧ w'.cell? ⟨w1.heap.size, 1, none⟩ = some (.slice (some ⟨bb, bo, none⟩) rom.length xd) ∧ w'.cell? ⟨w1.heap.size, 2, none⟩ = some (.int .i64 bank) ∧ w'.cell? ⟨w2.heap.size, 0, none⟩ = some (.slice ya R.length yc) ∧ w'.cell? ⟨w2.heap.size, 1, none⟩ = some (.slice yb rom.length yd) ∧ w'.cell? ⟨w2.heap.size, 2, none⟩ = some (.int .i64 bank)) (first | with_reducible exact SR.out | with_reducible exact S20.out | with_reducible exact S21.out | with_reducible exact S22.out | with_reducible exact S23.out | with_reducible exact S24.out | with_reducible exact cells6_drew SR.out | with_reducible exact cells6_drew S20.out | with_reducible exact cells6_drew S21.out | with_reducible exact cells6_drew S22.out | with_reducible exact cells6_drew S23.out | with_reducible exact cells6_drew S24.out)
          (first
            | (go_at_call 29; go_loud (refine (calls_eqv (impl_MemoryValid ((HXZ.out.below bZr.out).below br23.out)) HVX.out).mono ?_; rintro e w24 ⟨rfl, hb24⟩; (have S24 := Lib.hid (cells6_below hb24 S23.out)); (have br24 : Hid (Below wr.heap.size wr w24) := br23.out.trans (hb24.mono br23.out.size))))
            | (go_at_call_of 25 (Value.int IntKind.i64 256); go_loud (refine (calls_made (impl_CopyMemory 0 0 256 ((HM.out.below b1r.out).below br21.out)) EA4.out EB4.out EF4.out).mono ?_; rintro e w22 ⟨v22, rfl, o22, hb22⟩; (have S22 := Lib.hid (cells6_below hb22 S21.out)); (have br22 : Hid (Below wr.heap.size wr w22) := br21.out.trans (hb22.mono br21.out.size))))
            | (go_at_call 25; go_loud (refine (calls_made (impl_CopyMemory p q 0 ((HM.out.below b1r.out).below (Below.refl _ _).drew)) EA3.out EB3.out EF3.out).mono ?_; rintro e w20 ⟨v20, rfl, o20, hb20⟩; (have S20 := Lib.hid (cells6_below hb20 (cells6_drew SR.out))); (have br20 : Hid (Below wr.heap.size wr w20) := ((Below.refl _ _).drew).trans hb20)))
            | (go_at_call 26; refine (laws_sameMemory o22.mem ((HM.out.below b1r.out).below br22.out)).mono ?_; rintro e w23 ⟨rfl, hb23⟩; (have S23 := Lib.hid (cells6_below hb23 S22.out)); (have br23 : Hid (Below wr.heap.size wr w23) := br22.out.trans (hb23.mono br22.out.size)))
            | (go_at_call 26; go_loud (refine (laws_sameMemory o20.mem ((HM.out.below b1r.out).below br20.out)).mono ?_; rintro e w21 ⟨rfl, hb21⟩; (have S21 := Lib.hid (cells6_below hb21 S20.out)); (have br21 : Hid (Below wr.heap.size wr w21) := br20.out.trans (hb21.mono br20.out.size)))))
        all_goals
          go_wp2_with fail
          go_ret
          exact ⟨rfl, hBr.out.trans (br24.out.mono hBr.out.size)⟩
set_option maxRecDepth 100000 in
theorem lifted_FnCopyMemory (os : Os) (started : os.Started) (H : Type) (enc : TypeId × Value → H) :
    ReturnsInHanded {} Try.checked os 6 .any (Rows.fnCopyMemorySpec.pre6 enc Try.prog Try.f6 Rows.fnCopyMemoryRow.domain false) (Rows.fnCopyMemorySpec.post enc Try.prog Try.f6 false true false false) := by
  refine returnsInHanded_of_change (C := Try.checked) own started (by kernel_rfl) Try.func6
    (ChangeSpec.witness6 (enc := enc) (C := Try.checked) false ⟨#[], #[.slice none 0 0], []⟩ 8 (by kernel_rfl) (by kernel_rfl) (by kernel_rfl) (by kernel_rfl)) ?_
  intro W base args ds gs before hval0 hW hcnd _
  have hval : ∀ (j : Nat) t v, Try.f6.params[j]? = some t → args[j]? = some v → Value.okWide Try.prog W .any base t v := hval0
  have hW' := hW
  obtain ⟨p, q, hA0, hV, rfl, hfz, hnd⟩ := hW
  have hA : DataW.TrodAll enc Try.prog W 0 (fun _ => true) true Try.f6.params.toList args.toList ds p := hA0
  rw [Try.params6] at hA hval
  obtain ⟨v0, vs0, d0, ds0, p0, q0, hargs, rfl, rfl, h0, r0⟩ := trodAll_cons hA
  obtain ⟨rfl, rfl, rfl⟩ := trodAll_nil r0
  obtain rfl : args = #[v0] := by cases args; simp_all
  obtain ⟨rfl, rfl⟩ := trodVars_none hV
  have lt0 : ∀ x ∈ p0, x.block < W.heap.size := by obtain ⟨m, hm⟩ := h0; exact DataW.trod_lt m _ _ _ hm
  have y0 := read_bytes (hval 0 22 v0 rfl rfl) h0
  clear hA0 hval0
  refine (walk_FnCopyMemory v0 W y0).mono fun e W' ⟨he, bel⟩ => ?_
  subst he
  exact ⟨_, rfl, _, _, _, [], _, [], hW', trodAll_mk1 (shut_bool Try.underlying4 _), (trodAll_cons_mk (Below.trod laidOut (by kernel_rfl) (of_decide_eq_true (by kernel_rfl)) h0 bel lt0) trodAll_mk0), rfl, bel.frame _, fun h => by cases h⟩
theorem closed_FnCopyMemory : joinedFacts Try.prog 6 Try.f6 Rows.fnCopyMemorySpec Rows.fnCopyMemoryRow = true := by
  unfold joinedFacts
  rw [shared.1, shared.2.1, shared.2.2.1, shared.2.2.2]
  kernel_rfl
/-- The given statement of FnCopyMemory. -/
theorem FnCopyMemory_holds : Rows.FnCopyMemorySaid :=
  OpenClaim.holds_of_wide 6 Try.f6 rfl rfl rfl rfl rfl rfl rfl ⟨rfl, rfl, rfl, rfl, rfl⟩ rfl rfl rfl rfl rfl (by kernel_rfl) Try.func6 closed_FnCopyMemory
    (of_decide_eq_true (by kernel_rfl)) (by unfold Func.isWrapper; first | (rw [if_pos (by decide +kernel)]; kernel_rfl) | (rw [if_neg (by decide +kernel)]; exact ⟨rfl, rfl⟩))
    (fun os started H enc _ => lifted_FnCopyMemory os started H enc)

end Go.Proofs.Ytkkgolgmhckgoaa
