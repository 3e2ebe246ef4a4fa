/- The law FnCopyFill: for every input it answers true, and changes nothing that was there. No condition. -/
import Derived.Test.YtkkgolgmhckgoaaDrawCopy
import Derived.Test.YtkkgolgmhckgoaaCopyFns
import Derived.Test.YtkkgolgmhckgoaaDrawByte
import Derived.Test.YtkkgolgmhckgoaaMemRead
import Derived.Test.YtkkgolgmhckgoaaMemFns
import Derived.Test.YtkkgolgmhckgoaaSame
import Derived.Test.YtkkgolgmhckgoaaCellsN
import Derived.Deep.RegionHeld3
import Derived.Deep.RegionWith
import Derived.Deep.DrawnRows
namespace Go.Proofs.Ytkkgolgmhckgoaa
open Go.ChangeShapes Go.WideShapes Go.ChangeAt Go.RowKit
set_option linter.unusedVariables false
attribute [local go_sem ↓] Go.wp_at_zero Go.wp_at_succ

theorem calls_int {P : Program} {f : FuncId} {args : Array Value} {w : World} {b b' : Int} {R : World → Prop} (h : Calls P f args w fun e w' => e = .returned (.int .i64 b) ∧ R w') (hb : b = b') : Calls P f args w fun e w' => e = .returned (.int .i64 b') ∧ R w' := hb ▸ h
theorem calls_made {P : Program} {f : FuncId} {args : Array Value} {w : World} {ram ram' : List Int} {rom rom' : List (List Int)} {bank bank' : Int} (h : Calls P f args w (MadeMem ram rom bank w)) (h1 : ram = ram') (h2 : rom = rom') (h3 : bank = bank') : Calls P f args w (MadeMem ram' rom' bank' w) := by
  subst h1 h2 h3; exact h
theorem six_row {W : World} {b : Nat} {x y z : Value} (h : Six W b x y z) : W.cell? ⟨b, 0, none⟩ = some x ∧ W.cell? ⟨b, 1, none⟩ = some y ∧ W.cell? ⟨b, 2, none⟩ = some z := ⟨h.1, h.2.1, h.2.2.1⟩
theorem ints_all {w : World} {a : Option Addr} {n c : Nat} {zs : List Int} (h : Ints w (.slice a n c) zs) (hk : 0 < zs.length) : ∃ b off, a = some ⟨b, off, none⟩ ∧ ∀ i, i < zs.length → w.cell? ⟨b, off + i, none⟩ = some (.int .i64 (zs.getD i 0)) := by
  obtain ⟨a', c', e, h1, h2, h3⟩ := h
  injection e with e1 e2 e3
  subst e1 e2 e3
  rcases h3 with h0 | ⟨b, off, rfl, hc⟩
  · rw [h0] at hk; simp at hk
  · exact ⟨b, off, rfl, hc⟩
set_option maxHeartbeats 8000000 in
set_option maxRecDepth 20000 in
theorem walk_FnCopyFill (v0 : Value) (w : World) (y0 : IsBytes w v0) : Calls Try.prog 5 #[v0] w fun e w' => e = .returned (.bool true) ∧ Below w.heap.size w w' := by
  have hY := Lib.hid y0
  obtain ⟨a, len, cap, zs, rfl, _⟩ := y0
  by_cases hl : (1048576 : Int) < (len : Int)
  · go_enter Try.func5, Try.ntmps5
    go_wp2_with fail
    go_ret
    exact ⟨rfl, Below.refl _ _⟩
  go_enter Try.func5, Try.ntmps5
  go_wp2_with fail
  refine (draw_CopyMemory hY.out).mono ?_
  rintro e w1 ⟨v1, ram, rom, bank, p, q, n, rfl, hm, hr1, hr2, hr3, hb1⟩
  have HM := Lib.hid hm
  have hB1 := Lib.hid hb1
  obtain ⟨xa, xc, xb, xd, rfl, k1, k2, k3, k4⟩ := memV_shape hm
  clear hm hb1
  cases hv : memB ram rom bank
  · go_wp2_with fail
    refine (calls_eqv (spec_MemoryValid (HM.out.alloc _)) hv).mono ?_
    rintro e w2 ⟨rfl, hb2⟩
    have hB2 : Hid (Below w.heap.size w w2) := hB1.out.trans (((Below.refl _ _).alloc (Nat.le_refl _) _).trans (hb2.mono (by simp)) |>.mono hB1.out.size)
    clear hb2
    go_wp2_with (first | (go_at_call 16; refine (laws_alive _).mono ?_; rintro e w' ⟨rfl, rfl⟩))
    go_ret
    exact ⟨rfl, hB2.out⟩
  have hs := shp_of hv
  have HS := Lib.hid hs
  have hr256 := Lib.hid hs.r
  have HV := Lib.hid hv
  clear hs hv
  go_wp2_with fail
  refine (calls_eqv (spec_MemoryValid (HM.out.alloc _)) HV.out).mono ?_
  rintro e w0 ⟨rfl, hb0⟩
  have t0 := six_below hb0 (six_lit rfl)
  have b10 : Hid (Below w1.heap.size w1 w0) := ((Below.refl _ _).alloc (Nat.le_refl _) _).trans (hb0.mono (by simp))
  clear hb0
  obtain ⟨x00, x01, x02, x03, x04, x05⟩ := id t0
  have hl0 : w1.heap.size < w0.heap.size := block_lt_of_cell x00
  go_upto_region 8 with fail
  generalize (if 0 < p then p else 0) = pp
  generalize (if 0 < n then n else 0) = pn
  generalize hkk : pp % 200 = kk
  generalize hnn : pn % 50 = nn
  obtain ⟨K, hK, rfl⟩ : ∃ K : Nat, K < 200 ∧ kk = (K : Int) := ⟨kk.toNat, by omega, by omega⟩
  obtain ⟨C, hC, rfl⟩ : ∃ C : Nat, C < 50 ∧ nn = (C : Int) := ⟨nn.toNat, by omega, by omega⟩
  clear hkk hnn
  obtain ⟨K1, hK1⟩ : ∃ K1 : Int, K1 = (K : Int) + 1 := ⟨_, rfl⟩
  have u1 : (K : Int) + 1 = K1 := hK1.symm
  have u2 : IntKind.i64.wrap ((K : Int) + 1) = K1 := by rw [IntKind.wrap_i64]; omega
  have u3 : IntKind.i64.wrap K1 = K1 := by rw [IntKind.wrap_i64]; omega
  have hok : cpOk ram rom bank K K1 C = true := by simp only [cpOk, Bool.and_eq_true]; exact ⟨⟨⟨HV.out, inR_iff.2 (by omega)⟩, inR_iff.2 (by omega)⟩, inR_iff.2 (by omega)⟩
  obtain ⟨ea, eb, ec⟩ := cp_yes hok
  obtain ⟨R, hR⟩ : ∃ R, R = copyN ram rom bank (K : Int).toNat K1.toNat (C : Int).toNat := ⟨_, rfl⟩
  have hRl : R.length = 256 := by rw [hR, copyN_len]; exact hr256.out
  have HRL := Lib.hid hRl
  have EA : Hid (cpR ram rom bank K K1 C = R) := by rw [hR]; exact ea
  have EB := Lib.hid eb
  have EF := Lib.hid ec
  have HFILL : Hid (∀ j : Nat, K ≤ j → j ≤ K + C → R.getD j 0 = ram.getD K 0) := fun j h1 h2 => by
    rw [hR, show (K : Int).toNat = K by omega, show K1.toNat = K + 1 by omega, show (C : Int).toNat = C by omega]
    exact copyN_fill ram rom bank K hr256.out C (by omega) j h1 h2
  clear ea eb ec hR hRl hok hK1
  go_wp2_with fail
  refine (calls_made (impl_CopyMemory K K1 C (HM.out.below b10.out)) EA.out EB.out EF.out).mono ?_
  rintro e w2 ⟨v2, rfl, o2, hb2⟩
  have t2 := six_below hb2 t0
  have b12 : Hid (Below w1.heap.size w1 w2) := b10.out.trans (hb2.mono b10.out.size)
  have HX := Lib.hid o2.mem
  obtain ⟨ya, yc, yb, yd, rfl, k1, k2, k3, k4⟩ := memV_shape o2.mem
  clear o2 hb2 k1 k2 k3 k4 x00 x01 x02 x03 x04 x05
  obtain ⟨x30, x31, x32, x33, x34, x35⟩ := id t2
  have hw2 : w1.heap.size < w2.heap.size := block_lt_of_cell x30
  go_upto_region 9 with fail
  obtain ⟨Z, hZ0⟩ : ∃ Z, Z = w2.alloc (.cells #[.slice ya R.length yc, .slice yb rom.length yd, .int .i64 bank] 37) := ⟨_, rfl⟩
  have tZ : Hid (Six Z w2.heap.size (.slice ya R.length yc) (.slice yb rom.length yd) (.int .i64 bank)) := by rw [hZ0]; exact six_lit rfl
  have b3Z : Hid (Below w2.heap.size w2 Z) := by rw [hZ0]; exact (Below.refl _ _).alloc (Nat.le_refl _) _
  have b1Z : Hid (Below w1.heap.size w1 Z) := b12.out.trans (b3Z.out.mono b12.out.size)
  have tM : Hid (Six Z w1.heap.size (.slice xa ram.length xc) (.slice xb rom.length xd) (.int .i64 bank)) := six_below b3Z.out t2
  have SZ : Hid (Z.cell? ⟨w1.heap.size, 0, none⟩ = some (.slice xa ram.length xc) ∧ Z.cell? ⟨w1.heap.size, 1, none⟩ = some (.slice xb rom.length xd) ∧ Z.cell? ⟨w1.heap.size, 2, none⟩ = some (.int .i64 bank) ∧ Z.cell? ⟨w2.heap.size, 0, none⟩ = some (.slice ya R.length yc) ∧ Z.cell? ⟨w2.heap.size, 1, none⟩ = some (.slice yb rom.length yd) ∧ Z.cell? ⟨w2.heap.size, 2, none⟩ = some (.int .i64 bank)) := by
    obtain ⟨s0, s1, s2⟩ := six_row tM.out
    obtain ⟨s3, s4, s5⟩ := six_row tZ.out
    exact ⟨s0, s1, s2, s3, s4, s5⟩
  have HXZ : Hid (MemV Z (.agg #[.slice ya R.length yc, .slice yb rom.length yd, .int .i64 bank]) R rom bank) := HX.out.below b3Z.out
  rw [← hZ0]
  clear hZ0 HX t2 x30 x31 x32 x33 x34 x35
  have hwZ : w2.heap.size < Z.heap.size := block_lt_of_cell tZ.out.1
  have hwZ1 : w1.heap.size < Z.heap.size := block_lt_of_cell tM.out.1
  go_region_held3 (fun w' => w'.cell? ⟨w1.heap.size, 0, none⟩ = some (.slice xa ram.length xc) ∧ w'.cell? ⟨w1.heap.size, 1, none⟩ = some (.slice xb rom.length xd) ∧ w'.cell? ⟨w1.heap.size, 2, none⟩ = some (.int .i64 bank) ∧ w'.cell? ⟨w2.heap.size, 0, none⟩ = some (.slice ya R.length yc) ∧ w'.cell? ⟨w2.heap.size, 1, none⟩ = some (.slice yb rom.length yd) ∧ w'.cell? ⟨w2.heap.size, 2, none⟩ = some (.int .i64 bank)) (first | with_reducible exact SZ.out | with_reducible exact S5.out | with_reducible exact S6.out | with_reducible exact cells6_drew SZ.out | with_reducible exact cells6_drew S5.out | with_reducible exact cells6_drew S6.out)
    (first
      | (go_at_call 26; go_loud (refine (laws_sameMemory (HXZ.out.below bZ5.out) o5.mem).mono ?_; rintro e w6 ⟨rfl, hb6⟩; (have S6 := Lib.hid (cells6_below hb6 S5.out)); (have bZ6 : Hid (Below Z.heap.size Z w6) := bZ5.out.trans (hb6.mono bZ5.out.size)); (have b16 : Hid (Below w1.heap.size w1 w6) := b15.out.trans (hb6.mono b15.out.size))))
      | (go_at_call 27; go_loud (refine (calls_made (spec_CopyMemory K K1 C (HM.out.below b1Z.out.drew)) EA.out EB.out EF.out).mono ?_; rintro e w5 ⟨v5, rfl, o5, hb5⟩; (have S5 := Lib.hid (cells6_below hb5 (cells6_drew SZ.out))); (have bZ5 : Hid (Below Z.heap.size Z w5) := ((Below.refl _ _).drew).trans hb5); (have b15 : Hid (Below w1.heap.size w1 w5) := b1Z.out.drew.trans (hb5.mono b1Z.out.size)))))
  all_goals
    have hB6 : Hid (Below w.heap.size w w6) := hB1.out.trans (b16.out.mono hB1.out.size)
    rw [HRL.out, hr256.out] at S6
    rw [HRL.out] at HXZ
    rw [hr256.out] at HM
    obtain ⟨ya, yo, rfl, hya⟩ := ints_all (memV_parts (HXZ.out.below bZ6.out)).1 (by rw [HRL.out]; omega)
    obtain ⟨xa, xo, rfl, hxa⟩ := ints_all (memV_parts (HM.out.below b16.out)).1 (by rw [hr256.out]; omega)
    have CY := Lib.hid hya
    have CX : Hid (w6.cell? ⟨xa, xo + K, none⟩ = some (.int .i64 (ram.getD K 0))) := hxa K (by rw [hr256.out]; omega)
    clear hya hxa u2 u3
    have hKC : (K : Int) + (C : Int) < 256 := by omega
    have hKi : (K : Int) < 256 := by omega
    have hK0 : (0 : Int) ≤ (K : Int) := by omega
    obtain ⟨x60, x61, x62, x63, x64, x65⟩ := id S6.out
    go_wp2_with fail
    go_loopw [10] (fun i wr => ∃ j : Nat, K ≤ j ∧ j ≤ K + C + 1 ∧ i = .int .i64 j ∧ Hid (Below w6.heap.size w6 wr)) (fun i _ => K + C + 1 - (intOf i).toNat)
    case atStart => exact ⟨K, by omega, by omega, rfl, Below.refl _ _⟩
    case round =>
      obtain ⟨j, hj1, hj2, rfl, b6r⟩ := hrel
      by_cases hlt : j ≤ K + C
      · have hji : (j : Int) ≤ (K : Int) + (C : Int) := by omega
        have hj256 : (j : Int) < 256 := by omega
        have g1 := CY.out j (by rw [HRL.out]; omega)
        have g2 := CX.out
        rw [HFILL.out j hj1 hlt] at g1
        generalize ram.getD K 0 = zr at *
        have S4 : Hid (wr.cell? ⟨w2.heap.size, 0, none⟩ = some (.slice (some ⟨ya, yo, none⟩) 256 yc) ∧ wr.cell? ⟨w1.heap.size, 0, none⟩ = some (.slice (some ⟨xa, xo, none⟩) 256 xc) ∧ wr.cell? ⟨ya, yo + j, none⟩ = some (.int .i64 zr) ∧ wr.cell? ⟨xa, xo + K, none⟩ = some (.int .i64 zr)) := ⟨cell_below b6r.out x63, cell_below b6r.out x60, cell_below b6r.out g1, cell_below b6r.out g2⟩
        clear g1 g2
        go_wp2_with fail
        go_region_held3 (fun w' => w'.cell? ⟨w2.heap.size, 0, none⟩ = some (.slice (some ⟨ya, yo, none⟩) 256 yc) ∧ w'.cell? ⟨w1.heap.size, 0, none⟩ = some (.slice (some ⟨xa, xo, none⟩) 256 xc) ∧ w'.cell? ⟨ya, yo + j, none⟩ = some (.int .i64 zr) ∧ w'.cell? ⟨xa, xo + K, none⟩ = some (.int .i64 zr)) (first | with_reducible exact S4.out | with_reducible exact cells4_drew S4.out) (first | fail)
        go_wp2
        go_roundw
        case rel => exact ⟨j + 1, by omega, by omega, by go_num, b6r.out.drew⟩
        case measure => simp [intOf]; omega
      · have hge : ¬ (j : Int) ≤ (K : Int) + (C : Int) := by omega
        go_wp2
        go_ret
        exact ⟨rfl, hB6.out.trans (b6r.out.mono hB6.out.size)⟩
set_option maxRecDepth 100000 in
theorem lifted_FnCopyFill (os : Os) (started : os.Started) (H : Type) (enc : TypeId × Value → H) :
    ReturnsInHanded {} Try.checked os 5 .any (Rows.fnCopyFillSpec.pre6 enc Try.prog Try.f5 Rows.fnCopyFillRow.domain false) (Rows.fnCopyFillSpec.post enc Try.prog Try.f5 false true false false) := by
  refine returnsInHanded_of_change (C := Try.checked) own started (by kernel_rfl) Try.func5
    (ChangeSpec.witness6 (enc := enc) (C := Try.checked) false ⟨#[], #[.slice none 0 0], []⟩ 8 (by kernel_rfl) (by kernel_rfl) (by kernel_rfl) (by kernel_rfl)) ?_
  intro W base args ds gs before hval0 hW hcnd _
  have hval : ∀ (j : Nat) t v, Try.f5.params[j]? = some t → args[j]? = some v → Value.okWide Try.prog W .any base t v := hval0
  have hW' := hW
  obtain ⟨p, q, hA0, hV, rfl, hfz, hnd⟩ := hW
  have hA : DataW.TrodAll enc Try.prog W 0 (fun _ => true) true Try.f5.params.toList args.toList ds p := hA0
  rw [Try.params5] at hA hval
  obtain ⟨v0, vs0, d0, ds0, p0, q0, hargs, rfl, rfl, h0, r0⟩ := trodAll_cons hA
  obtain ⟨rfl, rfl, rfl⟩ := trodAll_nil r0
  obtain rfl : args = #[v0] := by cases args; simp_all
  obtain ⟨rfl, rfl⟩ := trodVars_none hV
  have lt0 : ∀ x ∈ p0, x.block < W.heap.size := by obtain ⟨m, hm⟩ := h0; exact DataW.trod_lt m _ _ _ hm
  have y0 := read_bytes (hval 0 22 v0 rfl rfl) h0
  clear hA0 hval0
  refine (walk_FnCopyFill v0 W y0).mono fun e W' ⟨he, bel⟩ => ?_
  subst he
  exact ⟨_, rfl, _, _, _, [], _, [], hW', trodAll_mk1 (shut_bool Try.underlying4 _), (trodAll_cons_mk (Below.trod laidOut (by kernel_rfl) (of_decide_eq_true (by kernel_rfl)) h0 bel lt0) trodAll_mk0), rfl, bel.frame _, fun h => by cases h⟩
theorem closed_FnCopyFill : joinedFacts Try.prog 5 Try.f5 Rows.fnCopyFillSpec Rows.fnCopyFillRow = true := by
  unfold joinedFacts
  rw [shared.1, shared.2.1, shared.2.2.1, shared.2.2.2]
  kernel_rfl
/-- The given statement of FnCopyFill. -/
theorem FnCopyFill_holds : Rows.FnCopyFillSaid :=
  OpenClaim.holds_of_wide 5 Try.f5 rfl rfl rfl rfl rfl rfl rfl ⟨rfl, rfl, rfl, rfl, rfl⟩ rfl rfl rfl rfl rfl (by kernel_rfl) Try.func5 closed_FnCopyFill
    (of_decide_eq_true (by kernel_rfl)) (by unfold Func.isWrapper; first | (rw [if_pos (by decide +kernel)]; kernel_rfl) | (rw [if_neg (by decide +kernel)]; exact ⟨rfl, rfl⟩))
    (fun os started H enc _ => lifted_FnCopyFill os started H enc)

end Go.Proofs.Ytkkgolgmhckgoaa
