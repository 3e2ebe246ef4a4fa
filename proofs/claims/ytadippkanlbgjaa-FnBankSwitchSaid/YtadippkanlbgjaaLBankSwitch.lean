/- The law FnBankSwitch: for every input it answers true, and changes nothing that was there. No condition. -/
import Derived.Test.YtadippkanlbgjaaDrawMems
import Derived.Test.YtadippkanlbgjaaDrawByte
import Derived.Test.YtadippkanlbgjaaMemRead
import Derived.Test.YtadippkanlbgjaaMemFns
import Derived.Test.YtadippkanlbgjaaSame
import Derived.Test.YtadippkanlbgjaaCellsN
import Derived.Deep.RegionHeld3
import Derived.Deep.RegionWith
import Derived.Deep.DrawnRows
namespace Go.Proofs.Ytadippkanlbgjaa
open Go.ChangeShapes Go.WideShapes Go.ChangeAt Go.RowKit
set_option linter.unusedVariables false
attribute [local go_sem ↓] Go.wp_at_zero Go.wp_at_succ

theorem calls_int {P : Program} {f : FuncId} {args : Array Value} {w : World} {b b' : Int} {R : World → Prop} (h : Calls P f args w fun e w' => e = .returned (.int .i64 b) ∧ R w') (hb : b = b') : Calls P f args w fun e w' => e = .returned (.int .i64 b') ∧ R w' := hb ▸ h
theorem calls_made {P : Program} {f : FuncId} {args : Array Value} {w : World} {ram ram' : List Int} {rom rom' : List (List Int)} {bank bank' : Int} (h : Calls P f args w (MadeMem ram rom bank w)) (h1 : ram = ram') (h2 : rom = rom') (h3 : bank = bank') : Calls P f args w (MadeMem ram' rom' bank' w) := by
  subst h1 h2 h3; exact h
theorem MemV.drew1 {w : World} {v : Value} {ram : List Int} {rom : List (List Int)} {bank : Int} (h : MemV w v ram rom bank) : MemV w.drew v ram rom bank := h.below (Below.refl _ _).drew
set_option maxHeartbeats 4000000 in
set_option maxRecDepth 20000 in
theorem walk_FnBankSwitch (v0 : Value) (w : World) (y0 : IsBytes w v0) : Calls Try.prog 11 #[v0] w fun e w' => e = .returned (.bool true) ∧ Below w.heap.size w w' := by
  have hY := Lib.hid y0
  obtain ⟨a, len, cap, zs, rfl, _⟩ := y0
  by_cases hl : (1048576 : Int) < (len : Int)
  · go_enter Try.func11, Try.ntmps11
    go_wp2_with fail
    go_ret
    exact ⟨rfl, Below.refl _ _⟩
  go_enter Try.func11, Try.ntmps11
  go_wp2_with fail
  refine (draw_WriteMemory hY.out).mono ?_
  rintro e w1 ⟨v1, ram, rom, bank, p, x, rfl, hm, hr1, hr2, hr3, hb1⟩
  have HM := Lib.hid hm
  have hB1 := Lib.hid hb1
  obtain ⟨xa, xc, xb, xd, rfl, k1, k2, k3, k4⟩ := memV_shape hm
  clear hm hb1
  cases hv : memB ram rom bank
  · go_wp2_with fail
    refine (calls_eqv (spec_MemoryValid (HM.out.alloc _)) hv).mono ?_
    rintro e w2 ⟨rfl, hb2⟩
    have hB2 : Hid (Below w.heap.size w w2) := hB1.out.trans (((Below.refl _ _).alloc (Nat.le_refl _) _).trans (hb2.mono (by simp)) |>.mono hB1.out.size)
    clear hb2
    go_wp2_with (first | (go_at_call 21; refine (laws_alive _).mono ?_; rintro e w' ⟨rfl, rfl⟩))
    go_ret
    exact ⟨rfl, hB2.out⟩
  cases hx : byteB x
  · go_wp2_with fail
    refine (calls_eqv (spec_MemoryValid (HM.out.alloc _)) hv).mono ?_
    rintro e w2 ⟨rfl, hb2⟩
    have hB2 : Hid (Below w.heap.size w w2) := hB1.out.trans (((Below.refl _ _).alloc (Nat.le_refl _) _).trans (hb2.mono (by simp)) |>.mono hB1.out.size)
    clear hb2
    go_wp2_with fail
    refine (calls_eqv (laws_isByte _ _) hx).mono ?_
    rintro e w' ⟨rfl, rfl⟩
    go_wp2_with (first | (go_at_call 21; refine (laws_alive _).mono ?_; rintro e w' ⟨rfl, rfl⟩))
    go_ret
    exact ⟨rfl, hB2.out⟩
  have hs := shp_of hv
  have hok : wrOk ram rom bank 1000 x = true := by simp [wrOk, hv, hx, inR]
  obtain ⟨ea, eb, ec⟩ := wr_yes hok
  have ed : pokeR ram 1000 x = ram := by simp [pokeR]
  have ee : pokeB rom bank 1000 x = x % (rom.length : Int) := by simp [pokeB]
  have hx' : 0 ≤ x ∧ x ≤ 255 := by simpa [byteB, inR] using hx
  obtain ⟨X, rfl⟩ := Int.eq_ofNat_of_zero_le hx'.1
  have eJ : (X : Int).tmod (rom.length : Int) = ((X % rom.length : Nat) : Int) := by
    rw [Int.tmod_eq_emod_of_nonneg (by omega)]; exact (Int.natCast_emod X rom.length).symm
  have hn := hs.n
  have hJ : X % rom.length < rom.length := Nat.mod_lt _ hn
  have ef : wrB ram rom bank 1000 (X : Int) = ((X % rom.length : Nat) : Int) := by rw [ec, ee]; exact (Int.natCast_emod X rom.length).symm
  rw [ed] at ea
  generalize X % rom.length = J at *
  have EA := Lib.hid ea
  have EB := Lib.hid eb
  have EF := Lib.hid ef
  have HS := Lib.hid hs
  have HV := Lib.hid hv
  have EJ := Lib.hid eJ
  clear ea eb ec ed ee ef hs eJ k1 k2 k3 k4
  go_wp2_with fail
  refine (calls_eqv (spec_MemoryValid (HM.out.alloc _)) HV.out).mono ?_
  rintro e w2 ⟨rfl, hb2⟩
  have t2 := six_below hb2 (six_lit rfl)
  have b12 : Hid (Below w1.heap.size w1 w2) := ((Below.refl _ _).alloc (Nat.le_refl _) _).trans (hb2.mono (by simp))
  clear hb2
  obtain ⟨x20, x21, x22, x23, x24, x25⟩ := id t2
  go_wp2_with fail
  refine (calls_eqv (laws_isByte _ _) hx).mono ?_
  rintro e w' ⟨rfl, rfl⟩
  go_wp2_with fail
  refine (calls_made (impl_WriteMemory 1000 (X : Int) (HM.out.below b12.out)) EA.out EB.out EF.out).mono ?_
  rintro e w3 ⟨v3, rfl, o3, hb3⟩
  have t3 := six_below hb3 t2
  have b13 : Hid (Below w1.heap.size w1 w3) := b12.out.trans (hb3.mono b12.out.size)
  have HX := Lib.hid o3.mem
  obtain ⟨ya, yc, yb, yd, rfl, k1, k2, k3, k4⟩ := memV_shape o3.mem
  clear o3 hb3 t2 x20 x21 x22 x23 x24 x25 k1 k2 k3 k4
  obtain ⟨x30, x31, x32, x33, x34, x35⟩ := id t3
  have hw3 : w1.heap.size < w3.heap.size := block_lt_of_cell x30
  clear hv hx hx'
  go_upto_region 8 with fail
  generalize (if 0 < p then p else 0) = pp
  generalize hkk : pp % 256 = kk
  obtain ⟨K, hK, rfl⟩ : ∃ K : Nat, K < 256 ∧ kk = (K : Int) := ⟨kk.toNat, by omega, by omega⟩
  have hs := HS.out
  have hr := hs.r
  have hl0 := hs.row 0 hs.n
  have hlJ := hs.row J hJ
  have HMX := Lib.hid (memV_parts (HX.out))
  obtain ⟨hi, hmm⟩ := memV_parts (HM.out.below b13.out)
  obtain ⟨_, q5, q6, bb, bo, a0, c0, hbe, hbb, hb0, hi0⟩ := mat_at_ hmm (k := 0) hs.n
  subst hbe
  obtain ⟨_, _, _, bb', bo', aJ, cJ, hbe, hbb', hbJ, hiJ⟩ := mat_at_ hmm (k := J) hJ
  injection hbe with hbe
  injection hbe with hb1 hb2
  subst hb1 hb2
  obtain ⟨_, q8, q9, db, dof, rfl, hdb, hdc⟩ := ints_at_ hi0 (k := K) (by omega)
  obtain ⟨_, q10, q11, fb, fo, rfl, hfb, hfc⟩ := ints_at_ hiJ (k := K) (by omega)
  have hv2 : memB ram rom (J : Int) = true := memB_iff.2 ⟨(memB_iff.1 HV.out).1, (memB_iff.1 HV.out).2.1, inR_iff.2 (by omega)⟩
  obtain ⟨q512, hq512⟩ : ∃ x : Int, x = 512 + (K : Int) := ⟨_, rfl⟩
  obtain ⟨q768, hq768⟩ : ∃ x : Int, x = 768 + (K : Int) := ⟨_, rfl⟩
  have R3 : Hid (readV ram rom J q512 = (rom.getD 0 []).getD K 0) := by
    show _ = _; rw [readV_yes hv2 (inR_iff.2 (by omega))]; simp only [peekL]; rw [if_neg (by omega), if_pos (by omega)]; congr 1; omega
  have R4 : Hid (readV ram rom J q768 = (rom.getD J []).getD K 0) := by
    show _ = _; rw [readV_yes hv2 (inR_iff.2 (by omega))]; simp only [peekL]; rw [if_neg (by omega), if_neg (by omega), Int.toNat_natCast]; congr 1; omega
  have u2 : IntKind.i64.wrap (512 + (K : Int)) = q512 := by rw [IntKind.wrap_i64]; omega
  have u3 : IntKind.i64.wrap (768 + (K : Int)) = q768 := by rw [IntKind.wrap_i64]; omega
  have S3 : Hid (w3.cell? ⟨w1.heap.size, 0, none⟩ = some (.slice xa ram.length xc) ∧ w3.cell? ⟨w1.heap.size, 1, none⟩ = some (.slice (some ⟨bb, bo, none⟩) rom.length xd) ∧ w3.cell? ⟨w1.heap.size, 2, none⟩ = some (.int .i64 bank) ∧ w3.cell? ⟨bb, bo, none⟩ = some (.slice (some ⟨db, dof, none⟩) (rom.getD 0 []).length c0) ∧ w3.cell? ⟨bb, bo + J, none⟩ = some (.slice (some ⟨fb, fo, none⟩) (rom.getD J []).length cJ) ∧ w3.cell? ⟨db, dof + K, none⟩ = some (.int .i64 ((rom.getD 0 []).getD K 0)) ∧ w3.cell? ⟨fb, fo + K, none⟩ = some (.int .i64 ((rom.getD J []).getD K 0))) := ⟨x30, x31, x32, hb0, hbJ, hdc, hfc⟩
  obtain ⟨Y, hY0⟩ : ∃ Y, Y = w3.alloc (.cells #[.slice ya ram.length yc, .slice yb rom.length yd, .int .i64 (J : Int)] 42) := ⟨_, rfl⟩
  have b1Y : Hid (Below w1.heap.size w1 Y) := by rw [hY0]; exact b13.out.alloc b13.out.size _
  have HXY : Hid (MemV Y (.agg #[.slice ya ram.length yc, .slice yb rom.length yd, .int .i64 (J : Int)]) ram rom J) := by rw [hY0]; exact HX.out.alloc _
  have SY : Hid (Y.cell? ⟨w3.heap.size, 0, none⟩ = some (.slice ya ram.length yc) ∧ Y.cell? ⟨w3.heap.size, 1, none⟩ = some (.slice yb rom.length yd) ∧ Y.cell? ⟨w3.heap.size, 2, none⟩ = some (.int .i64 (J : Int)) ∧ Y.cell? ⟨w1.heap.size, 0, none⟩ = some (.slice xa ram.length xc) ∧ Y.cell? ⟨w1.heap.size, 1, none⟩ = some (.slice (some ⟨bb, bo, none⟩) rom.length xd) ∧ Y.cell? ⟨w1.heap.size, 2, none⟩ = some (.int .i64 bank) ∧ Y.cell? ⟨bb, bo, none⟩ = some (.slice (some ⟨db, dof, none⟩) (rom.getD 0 []).length c0) ∧ Y.cell? ⟨bb, bo + J, none⟩ = some (.slice (some ⟨fb, fo, none⟩) (rom.getD J []).length cJ) ∧ Y.cell? ⟨db, dof + K, none⟩ = some (.int .i64 ((rom.getD 0 []).getD K 0)) ∧ Y.cell? ⟨fb, fo + K, none⟩ = some (.int .i64 ((rom.getD J []).getD K 0))) := by
    rw [hY0]
    obtain ⟨s0, s1, s2, s3, s4, s5, s6⟩ := cells7_alloc (.cells #[.slice ya ram.length yc, .slice yb rom.length yd, .int .i64 (J : Int)] 42) S3.out
    exact ⟨by simp [go_sem], by simp [go_sem], by simp [go_sem], s0, s1, s2, s3, s4, s5, s6⟩
  have hKi0 : (0 : Int) ≤ (K : Int) := by omega
  have hJi : (J : Int) < (rom.length : Int) := by omega
  have hJs : (J : Int) < 4 := by have := hs.n4; omega
  have hJi0 : (0 : Int) ≤ (J : Int) := by omega
  have hK0 : (K : Int) < ((rom.getD 0 []).length : Int) := by omega
  have hKJ : (K : Int) < ((rom.getD J []).length : Int) := by omega
  have eJ := EJ.out
  rw [← hY0]
  clear hq512 hq768 HS hr hl0 hlJ hs hi hmm hi0 hiJ q5 q6 q8 q9 q10 q11 x30 x31 x32 x33 x34 x35 hb0 hbJ hdc hfc hkk t3 hr1 hr2 hr3 hK hJ hv2 S3 HX HMX hY0 hn
  generalize (rom.getD 0 []).getD K 0 = z2 at *
  generalize (rom.getD J []).getD K 0 = z3 at *
  generalize (rom.getD 0 []).length = l0 at *
  generalize (rom.getD J []).length = lJ at *
  generalize rom.length = nr at *
  have eJ' : (X : Int) % (nr : Int) = (J : Int) := by rw [← eJ, Int.tmod_eq_emod_of_nonneg (by omega)]
  have hri' : 0 < nr := by omega
  have hnz : ¬ ((nr : Int) = 0) := by omega
  have hnzN : ¬ (nr = 0) := by omega
  have hnzB : ((nr : Int) == 0) = false := by simp; omega
  have u4 : IntKind.i64.wrap (J : Int) = (J : Int) := by rw [IntKind.wrap_i64]; omega
  have u5 : IntKind.i64.wrap ((X : Int).tmod (nr : Int)) = (J : Int) := by rw [eJ]; exact u4
  go_region_held3 (fun w' => w'.cell? ⟨w3.heap.size, 0, none⟩ = some (.slice ya ram.length yc) ∧ w'.cell? ⟨w3.heap.size, 1, none⟩ = some (.slice yb nr yd) ∧ w'.cell? ⟨w3.heap.size, 2, none⟩ = some (.int .i64 (J : Int)) ∧ w'.cell? ⟨w1.heap.size, 0, none⟩ = some (.slice xa ram.length xc) ∧ w'.cell? ⟨w1.heap.size, 1, none⟩ = some (.slice (some ⟨bb, bo, none⟩) nr xd) ∧ w'.cell? ⟨w1.heap.size, 2, none⟩ = some (.int .i64 bank) ∧ w'.cell? ⟨bb, bo, none⟩ = some (.slice (some ⟨db, dof, none⟩) l0 c0) ∧ w'.cell? ⟨bb, bo + J, none⟩ = some (.slice (some ⟨fb, fo, none⟩) lJ cJ) ∧ w'.cell? ⟨db, dof + K, none⟩ = some (.int .i64 z2) ∧ w'.cell? ⟨fb, fo + K, none⟩ = some (.int .i64 z3)) (first | with_reducible exact S8.out | with_reducible exact S7.out | with_reducible exact S6.out | with_reducible exact S5.out | with_reducible exact cells10_drew SY.out)
    (first
      | (go_at_call 34; go_loud (refine (laws_sameMemory (HX6.out.below b67.out) o7.mem).mono ?_; rintro e w8 ⟨rfl, hb8⟩; (have S8 := Lib.hid (cells10_below hb8 S7.out)); (have b18 : Hid (Below w1.heap.size w1 w8) := b17.out.trans (hb8.mono b17.out.size))))
      | (go_at_call 48; go_loud (refine (calls_made (spec_WriteMemory 1000 (X : Int) (HM.out.below b16.out)) EA.out EB.out EF.out).mono ?_; rintro e w7 ⟨v7, rfl, o7, hb7⟩; (have S7 := Lib.hid (cells10_below hb7 S6.out)); (have b67 : Hid (Below w6.heap.size w6 w7) := hb7); (have b17 : Hid (Below w1.heap.size w1 w7) := b16.out.trans (hb7.mono b16.out.size))))
      | (go_at_call_of 37 (Value.int IntKind.i64 q512); go_loud (refine (calls_int (impl_ReadMemory _ HX5.out) R3.out).mono ?_; rintro e w6 ⟨rfl, hb6⟩; (have S6 := Lib.hid (cells10_below hb6 S5.out)); (have HX6 := Lib.hid (HX5.out.below hb6)); (have b16 : Hid (Below w1.heap.size w1 w6) := b15.out.trans (hb6.mono b15.out.size))))
      | (go_at_call_of 37 (Value.int IntKind.i64 q768); go_loud (refine (calls_int (impl_ReadMemory _ (HXY.out.drew1)) R4.out).mono ?_; rintro e w5 ⟨rfl, hb5⟩; (have S5 := Lib.hid (cells10_below hb5 (cells10_drew SY.out))); (have HX5 := Lib.hid ((HXY.out.drew1).below hb5)); (have b15 : Hid (Below w1.heap.size w1 w5) := b1Y.out.drew.trans (hb5.mono b1Y.out.drew.size)))))
  all_goals
    have hB8 : Hid (Below w.heap.size w w8) := hB1.out.trans (b18.out.mono hB1.out.size)
    clear SY S5 S6 S7 S8
    go_wp2_with fail
    go_ret
    exact ⟨rfl, hB8.out⟩
set_option maxRecDepth 100000 in
theorem lifted_FnBankSwitch (os : Os) (started : os.Started) (H : Type) (enc : TypeId × Value → H) :
    ReturnsInHanded {} Try.checked os 11 .any (Rows.fnBankSwitchSpec.pre6 enc Try.prog Try.f11 Rows.fnBankSwitchRow.domain false) (Rows.fnBankSwitchSpec.post enc Try.prog Try.f11 false true false false) := by
  refine returnsInHanded_of_change (C := Try.checked) own started (by kernel_rfl) Try.func11
    (ChangeSpec.witness6 (enc := enc) (C := Try.checked) false ⟨#[], #[.slice none 0 0], []⟩ 8 (by kernel_rfl) (by kernel_rfl) (by kernel_rfl) (by kernel_rfl)) ?_
  intro W base args ds gs before hval0 hW hcnd _
  have hval : ∀ (j : Nat) t v, Try.f11.params[j]? = some t → args[j]? = some v → Value.okWide Try.prog W .any base t v := hval0
  have hW' := hW
  obtain ⟨p, q, hA0, hV, rfl, hfz, hnd⟩ := hW
  have hA : DataW.TrodAll enc Try.prog W 0 (fun _ => true) true Try.f11.params.toList args.toList ds p := hA0
  rw [Try.params11] at hA hval
  obtain ⟨v0, vs0, d0, ds0, p0, q0, hargs, rfl, rfl, h0, r0⟩ := trodAll_cons hA
  obtain ⟨rfl, rfl, rfl⟩ := trodAll_nil r0
  obtain rfl : args = #[v0] := by cases args; simp_all
  obtain ⟨rfl, rfl⟩ := trodVars_none hV
  have lt0 : ∀ x ∈ p0, x.block < W.heap.size := by obtain ⟨m, hm⟩ := h0; exact DataW.trod_lt m _ _ _ hm
  have y0 := read_bytes (hval 0 22 v0 rfl rfl) h0
  clear hA0 hval0
  refine (walk_FnBankSwitch v0 W y0).mono fun e W' ⟨he, bel⟩ => ?_
  subst he
  exact ⟨_, rfl, _, _, _, [], _, [], hW', trodAll_mk1 (shut_bool Try.underlying4 _), (trodAll_cons_mk (Below.trod laidOut (by kernel_rfl) (of_decide_eq_true (by kernel_rfl)) h0 bel lt0) trodAll_mk0), rfl, bel.frame _, fun h => by cases h⟩
theorem closed_FnBankSwitch : joinedFacts Try.prog 11 Try.f11 Rows.fnBankSwitchSpec Rows.fnBankSwitchRow = true := by
  unfold joinedFacts
  rw [shared.1, shared.2.1, shared.2.2.1, shared.2.2.2]
  kernel_rfl
/-- The given statement of FnBankSwitch. -/
theorem FnBankSwitch_holds : Rows.FnBankSwitchSaid :=
  OpenClaim.holds_of_wide 11 Try.f11 rfl rfl rfl rfl rfl rfl rfl ⟨rfl, rfl, rfl, rfl, rfl⟩ rfl rfl rfl rfl rfl (by kernel_rfl) Try.func11 closed_FnBankSwitch
    (of_decide_eq_true (by kernel_rfl)) (by unfold Func.isWrapper; first | (rw [if_pos (by decide +kernel)]; kernel_rfl) | (rw [if_neg (by decide +kernel)]; exact ⟨rfl, rfl⟩))
    (fun os started H enc _ => lifted_FnBankSwitch os started H enc)

end Go.Proofs.Ytadippkanlbgjaa
