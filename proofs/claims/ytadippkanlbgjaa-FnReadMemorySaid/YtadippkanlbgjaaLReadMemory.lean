/- The law FnReadMemory: for every input it answers true, and changes nothing that was there. No condition. -/
import Derived.Test.YtadippkanlbgjaaDrawMems
import Derived.Test.YtadippkanlbgjaaDrawByte
import Derived.Test.YtadippkanlbgjaaMemRead
import Derived.Test.YtadippkanlbgjaaMemFns
import Derived.Test.YtadippkanlbgjaaSame
import Derived.Test.YtadippkanlbgjaaCellsN
import Derived.Deep.RegionHeld3
import Derived.Deep.RegionWith
import Derived.Deep.DrawnRows
namespace Go.Proofs.Ytadippkanlbgjaa
open Go.ChangeShapes Go.WideShapes Go.ChangeAt Go.RowKit
set_option linter.unusedVariables false
attribute [local go_sem ↓] Go.wp_at_zero Go.wp_at_succ

theorem calls_int {P : Program} {f : FuncId} {args : Array Value} {w : World} {b b' : Int} {R : World → Prop} (h : Calls P f args w fun e w' => e = .returned (.int .i64 b) ∧ R w') (hb : b = b') : Calls P f args w fun e w' => e = .returned (.int .i64 b') ∧ R w' := hb ▸ h
set_option maxHeartbeats 4000000 in
set_option maxRecDepth 20000 in
theorem walk_FnReadMemory (v0 : Value) (w : World) (y0 : IsBytes w v0) : Calls Try.prog 7 #[v0] w fun e w' => e = .returned (.bool true) ∧ Below w.heap.size w w' := by
  have hY := Lib.hid y0
  obtain ⟨a, len, cap, zs, rfl, _⟩ := y0
  by_cases hl : (1048576 : Int) < (len : Int)
  · go_enter Try.func7, Try.ntmps7
    go_wp2_with fail
    go_ret
    exact ⟨rfl, Below.refl _ _⟩
  go_enter Try.func7, Try.ntmps7
  go_wp2_with fail
  refine (draw_ReadMemory hY.out).mono ?_
  rintro e w1 ⟨v1, ram, rom, bank, p, rfl, hm, hr1, hr2, hr3, hb1⟩
  have HM := Lib.hid hm
  have hB1 := Lib.hid hb1
  obtain ⟨xa, xc, xb, xd, rfl, k1, k2, k3, k4⟩ := memV_shape hm
  clear hm hb1
  obtain ⟨n, hn⟩ : ∃ n, n = readV ram rom bank p := ⟨_, rfl⟩
  have HN := Lib.hid hn
  clear hn
  go_wp2_with fail
  refine (calls_int (impl_ReadMemory p (HM.out.alloc _)) HN.out.symm).mono ?_
  rintro e w2 ⟨rfl, hb2⟩
  have t2 := six_below hb2 (six_lit rfl)
  have b12 : Hid (Below w1.heap.size w1 w2) := ((Below.refl _ _).alloc (Nat.le_refl _) _).trans (hb2.mono (by simp))
  clear hb2
  obtain ⟨x20, x21, x22, x23, x24, x25⟩ := id t2
  go_wp2_with fail
  refine (calls_int (spec_ReadMemory p (HM.out.below b12.out)) HN.out.symm).mono ?_
  rintro e w3 ⟨rfl, hb3⟩
  have t3 := six_below hb3 t2
  have b13 : Hid (Below w1.heap.size w1 w3) := b12.out.trans (hb3.mono b12.out.size)
  clear hb3 x20 x21 x22 x23 x24 x25
  obtain ⟨x30, x31, x32, x33, x34, x35⟩ := id t3
  cases hv : memB ram rom bank
  · have HBAD : (memB ram rom bank && inR p 0 1023) = false := by rw [hv]; rfl
    have h0 : n = 0 := HN.out.trans (readV_no HBAD)
    subst h0
    go_wp2_with fail
    refine (calls_eqv (spec_MemoryValid (HM.out.below b13.out)) hv).mono ?_
    rintro e w4 ⟨rfl, hb4⟩
    have t4 := six_below hb4 t3
    have b14 : Hid (Below w1.heap.size w1 w4) := b13.out.trans (hb4.mono b13.out.size)
    clear hb4
    obtain ⟨x40, x41, x42, x43, x44, x45⟩ := id t4
    go_wp2_with (first | (go_at_call 21; refine (laws_alive _).mono ?_; rintro e w' ⟨rfl, rfl⟩))
    go_ret
    exact ⟨rfl, hB1.out.trans (b14.out.mono hB1.out.size)⟩
  by_cases hp0 : p < 0
  · have HBAD : (memB ram rom bank && inR p 0 1023) = false := by rw [hv]; simp [inR]; omega
    have h0 : n = 0 := HN.out.trans (readV_no HBAD)
    subst h0
    go_wp2_with fail
    refine (calls_eqv (spec_MemoryValid (HM.out.below b13.out)) hv).mono ?_
    rintro e w4 ⟨rfl, hb4⟩
    have t4 := six_below hb4 t3
    have b14 : Hid (Below w1.heap.size w1 w4) := b13.out.trans (hb4.mono b13.out.size)
    clear hb4
    obtain ⟨x40, x41, x42, x43, x44, x45⟩ := id t4
    go_wp2_with (first | (go_at_call 21; refine (laws_alive _).mono ?_; rintro e w' ⟨rfl, rfl⟩))
    go_ret
    exact ⟨rfl, hB1.out.trans (b14.out.mono hB1.out.size)⟩
  by_cases hp1 : 1023 < p
  · have HBAD : (memB ram rom bank && inR p 0 1023) = false := by rw [hv]; simp [inR]; omega
    have h0 : n = 0 := HN.out.trans (readV_no HBAD)
    subst h0
    go_wp2_with fail
    refine (calls_eqv (spec_MemoryValid (HM.out.below b13.out)) hv).mono ?_
    rintro e w4 ⟨rfl, hb4⟩
    have t4 := six_below hb4 t3
    have b14 : Hid (Below w1.heap.size w1 w4) := b13.out.trans (hb4.mono b13.out.size)
    clear hb4
    obtain ⟨x40, x41, x42, x43, x44, x45⟩ := id t4
    go_wp2_with (first | (go_at_call 21; refine (laws_alive _).mono ?_; rintro e w' ⟨rfl, rfl⟩))
    go_ret
    exact ⟨rfl, hB1.out.trans (b14.out.mono hB1.out.size)⟩
  have hs := shp_of hv
  have hby : byteB n = true := by
    rw [HN.out, readV_yes hv (inR_iff.2 (by omega))]; exact peekL_byte hv p
  obtain ⟨P, rfl⟩ := Int.eq_ofNat_of_zero_le (show 0 ≤ p by omega)
  go_wp2_with fail
  refine (calls_eqv (spec_MemoryValid (HM.out.below b13.out)) hv).mono ?_
  rintro e w4 ⟨rfl, hb4⟩
  have t4 := six_below hb4 t3
  have b14 : Hid (Below w1.heap.size w1 w4) := b13.out.trans (hb4.mono b13.out.size)
  clear hb4 x30 x31 x32 x33 x34 x35
  obtain ⟨x40, x41, x42, x43, x44, x45⟩ := id t4
  have e1 : (P : Int).tmod 256 = ((P % 256 : Nat) : Int) := by
    rw [Int.tmod_eq_emod_of_nonneg (by omega)]; exact (Int.natCast_emod P 256).symm
  have hK : P % 256 < 256 := Nat.mod_lt _ (by omega)
  generalize P % 256 = K at *
  have HS := Lib.hid hs
  clear hs
  go_upto_region 10 with fail
  have hs := HS.out
  obtain ⟨J, hJ⟩ := Int.eq_ofNat_of_zero_le hs.b0
  subst hJ
  have hJr : J < rom.length := by have := hs.b1; omega
  have hr := hs.r
  have R1 : Hid (readV ram rom J (K : Int) = ram.getD K 0) := by
    show _ = _; rw [readV_yes hv (inR_iff.2 (by omega))]; simp only [peekL]; rw [if_pos (by omega)]; congr 1; omega
  obtain ⟨q256, hq256⟩ : ∃ x : Int, x = (K : Int) + 256 := ⟨_, rfl⟩
  have R2 : Hid (readV ram rom J q256 = ram.getD K 0) := by
    show _ = _; rw [readV_yes hv (inR_iff.2 (by omega))]; simp only [peekL]; rw [if_pos (by omega)]; congr 1; omega
  obtain ⟨q512, hq512⟩ : ∃ x : Int, x = (K : Int) + 512 := ⟨_, rfl⟩
  have R3 : Hid (readV ram rom J q512 = (rom.getD 0 []).getD K 0) := by
    show _ = _; rw [readV_yes hv (inR_iff.2 (by omega))]; simp only [peekL]; rw [if_neg (by omega), if_pos (by omega)]; congr 1; omega
  obtain ⟨q768, hq768⟩ : ∃ x : Int, x = (K : Int) + 768 := ⟨_, rfl⟩
  have R4 : Hid (readV ram rom J q768 = (rom.getD J []).getD K 0) := by
    show _ = _; rw [readV_yes hv (inR_iff.2 (by omega))]; simp only [peekL]; rw [if_neg (by omega), if_neg (by omega), Int.toNat_natCast]; congr 1; omega
  have hl0 := hs.row 0 hs.n
  have hlJ := hs.row J hJr
  obtain ⟨_, _, hi, hmm⟩ : ∃ a b, Ints w4 (.slice xa ram.length xc) ram ∧ Mat w4 (.slice xb rom.length xd) rom := by
    obtain ⟨a, b, e, h1, h2⟩ := HM.out.below b14.out
    injection e with e
    simp at e
    obtain ⟨rfl, rfl⟩ := e
    exact ⟨0, 0, h1, h2⟩
  obtain ⟨_, q2, q3, ab, ao, rfl, hab, hac⟩ := ints_at_ hi (k := K) (by omega)
  obtain ⟨_, q5, q6, bb, bo, a0, c0, hbe, hbb, hb0, hi0⟩ := mat_at_ hmm (k := 0) hs.n
  subst hbe
  obtain ⟨_, _, _, bb', bo', aJ, cJ, hbe, hbb', hbJ, hiJ⟩ := mat_at_ hmm (k := J) hJr
  injection hbe with hbe
  injection hbe with hb1 hb2
  subst hb1 hb2
  obtain ⟨_, q8, q9, db, dof, rfl, hdb, hdc⟩ := ints_at_ hi0 (k := K) (by omega)
  obtain ⟨_, q10, q11, fb, fo, rfl, hfb, hfc⟩ := ints_at_ hiJ (k := K) (by omega)
  have S4 : Hid (w4.cell? ⟨w1.heap.size, 0, none⟩ = some (.slice (some ⟨ab, ao, none⟩) ram.length xc) ∧ w4.cell? ⟨w1.heap.size, 1, none⟩ = some (.slice (some ⟨bb, bo, none⟩) rom.length xd) ∧ w4.cell? ⟨w1.heap.size, 2, none⟩ = some (.int .i64 (J : Int)) ∧ w4.cell? ⟨ab, ao + K, none⟩ = some (.int .i64 (ram.getD K 0)) ∧ w4.cell? ⟨bb, bo, none⟩ = some (.slice (some ⟨db, dof, none⟩) (rom.getD 0 []).length c0) ∧ w4.cell? ⟨bb, bo + J, none⟩ = some (.slice (some ⟨fb, fo, none⟩) (rom.getD J []).length cJ) ∧ w4.cell? ⟨db, dof + K, none⟩ = some (.int .i64 ((rom.getD 0 []).getD K 0)) ∧ w4.cell? ⟨fb, fo + K, none⟩ = some (.int .i64 ((rom.getD J []).getD K 0))) := ⟨x40, x41, x42, hac, hb0, hbJ, hdc, hfc⟩
  have hKi0 : (0 : Int) ≤ (K : Int) := by omega
  have hJi : (J : Int) < (rom.length : Int) := by omega
  have hJi0 : (0 : Int) ≤ (J : Int) := by omega
  have hri : (0 : Int) < (rom.length : Int) := by omega
  have u1 : IntKind.i64.wrap ((K : Int) + 256) = q256 := by rw [IntKind.wrap_i64]; omega
  have u2 : IntKind.i64.wrap ((K : Int) + 512) = q512 := by rw [IntKind.wrap_i64]; omega
  have u3 : IntKind.i64.wrap ((K : Int) + 768) = q768 := by rw [IntKind.wrap_i64]; omega
  have hKr : (K : Int) < (ram.length : Int) := by omega
  have hK0 : (K : Int) < ((rom.getD 0 []).length : Int) := by omega
  have hKJ : (K : Int) < ((rom.getD J []).length : Int) := by omega
  clear hq256 hq512 hq768 HS hr hl0 hlJ hs hi hmm hi0 hiJ q2 q3 q5 q6 q8 q9 q10 q11 hv hp0 hp1 x40 x41 x42 x43 x44 x45 hac hb0 hbJ hdc hfc e1 t2 t3 t4 k1 k2 k3 k4 hr1 hr2 hr3 hK hJr HN
  generalize ram.getD K 0 = z1 at *
  generalize (rom.getD 0 []).getD K 0 = z2 at *
  generalize (rom.getD J []).getD K 0 = z3 at *
  generalize (rom.getD 0 []).length = l0 at *
  generalize (rom.getD J []).length = lJ at *
  generalize rom.length = nr at *
  have hri' : 0 < nr := by omega
  go_region_held3 (fun w' => w'.cell? ⟨w1.heap.size, 0, none⟩ = some (.slice (some ⟨ab, ao, none⟩) ram.length xc) ∧ w'.cell? ⟨w1.heap.size, 1, none⟩ = some (.slice (some ⟨bb, bo, none⟩) nr xd) ∧ w'.cell? ⟨w1.heap.size, 2, none⟩ = some (.int .i64 (J : Int)) ∧ w'.cell? ⟨ab, ao + K, none⟩ = some (.int .i64 z1) ∧ w'.cell? ⟨bb, bo, none⟩ = some (.slice (some ⟨db, dof, none⟩) l0 c0) ∧ w'.cell? ⟨bb, bo + J, none⟩ = some (.slice (some ⟨fb, fo, none⟩) lJ cJ) ∧ w'.cell? ⟨db, dof + K, none⟩ = some (.int .i64 z2) ∧ w'.cell? ⟨fb, fo + K, none⟩ = some (.int .i64 z3)) (first | with_reducible exact S8.out | with_reducible exact S7.out | with_reducible exact S6.out | with_reducible exact S5.out | with_reducible exact cells8_drew S4.out)
    (first
      | (go_at_call 39; refine (calls_eqv (laws_isByte _ _) hby).mono ?_; rintro e w' ⟨rfl, rfl⟩)
      | (go_at_call_of 37 (Value.int IntKind.i64 q768); go_loud (refine (calls_int (impl_ReadMemory _ (HM.out.below b17.out)) R4.out).mono ?_; rintro e w8 ⟨rfl, hb8⟩; (have S8 := Lib.hid (cells8_below hb8 S7.out)); (have b18 : Hid (Below w1.heap.size w1 w8) := b17.out.trans (hb8.mono b17.out.size))))
      | (go_at_call_of 37 (Value.int IntKind.i64 q512); go_loud (refine (calls_int (impl_ReadMemory _ (HM.out.below b16.out)) R3.out).mono ?_; rintro e w7 ⟨rfl, hb7⟩; (have S7 := Lib.hid (cells8_below hb7 S6.out)); (have b17 : Hid (Below w1.heap.size w1 w7) := b16.out.trans (hb7.mono b16.out.size))))
      | (go_at_call_of 37 (Value.int IntKind.i64 q256); go_loud (refine (calls_int (impl_ReadMemory _ (HM.out.below b15.out)) R2.out).mono ?_; rintro e w6 ⟨rfl, hb6⟩; (have S6 := Lib.hid (cells8_below hb6 S5.out)); (have b16 : Hid (Below w1.heap.size w1 w6) := b15.out.trans (hb6.mono b15.out.size))))
      | (go_at_call_of 37 (Value.int IntKind.i64 (K : Int)); go_loud (refine (calls_int (impl_ReadMemory (K : Int) (HM.out.below b14.out.drew)) R1.out).mono ?_; rintro e w5 ⟨rfl, hb5⟩; (have S5 := Lib.hid (cells8_below hb5 (cells8_drew S4.out))); (have b15 : Hid (Below w1.heap.size w1 w5) := b14.out.drew.trans (hb5.mono b14.out.size)))))
  all_goals
    have hB8 : Hid (Below w.heap.size w w8) := hB1.out.trans (b18.out.mono hB1.out.size)
    clear S4 S5 S6 S7 S8
    go_wp2_with fail
    go_ret
    exact ⟨rfl, hB8.out⟩
set_option maxRecDepth 100000 in
theorem lifted_FnReadMemory (os : Os) (started : os.Started) (H : Type) (enc : TypeId × Value → H) :
    ReturnsInHanded {} Try.checked os 7 .any (Rows.fnReadMemorySpec.pre6 enc Try.prog Try.f7 Rows.fnReadMemoryRow.domain false) (Rows.fnReadMemorySpec.post enc Try.prog Try.f7 false true false false) := by
  refine returnsInHanded_of_change (C := Try.checked) own started (by kernel_rfl) Try.func7
    (ChangeSpec.witness6 (enc := enc) (C := Try.checked) false ⟨#[], #[.slice none 0 0], []⟩ 8 (by kernel_rfl) (by kernel_rfl) (by kernel_rfl) (by kernel_rfl)) ?_
  intro W base args ds gs before hval0 hW hcnd _
  have hval : ∀ (j : Nat) t v, Try.f7.params[j]? = some t → args[j]? = some v → Value.okWide Try.prog W .any base t v := hval0
  have hW' := hW
  obtain ⟨p, q, hA0, hV, rfl, hfz, hnd⟩ := hW
  have hA : DataW.TrodAll enc Try.prog W 0 (fun _ => true) true Try.f7.params.toList args.toList ds p := hA0
  rw [Try.params7] at hA hval
  obtain ⟨v0, vs0, d0, ds0, p0, q0, hargs, rfl, rfl, h0, r0⟩ := trodAll_cons hA
  obtain ⟨rfl, rfl, rfl⟩ := trodAll_nil r0
  obtain rfl : args = #[v0] := by cases args; simp_all
  obtain ⟨rfl, rfl⟩ := trodVars_none hV
  have lt0 : ∀ x ∈ p0, x.block < W.heap.size := by obtain ⟨m, hm⟩ := h0; exact DataW.trod_lt m _ _ _ hm
  have y0 := read_bytes (hval 0 22 v0 rfl rfl) h0
  clear hA0 hval0
  refine (walk_FnReadMemory v0 W y0).mono fun e W' ⟨he, bel⟩ => ?_
  subst he
  exact ⟨_, rfl, _, _, _, [], _, [], hW', trodAll_mk1 (shut_bool Try.underlying4 _), (trodAll_cons_mk (Below.trod laidOut (by kernel_rfl) (of_decide_eq_true (by kernel_rfl)) h0 bel lt0) trodAll_mk0), rfl, bel.frame _, fun h => by cases h⟩
theorem closed_FnReadMemory : joinedFacts Try.prog 7 Try.f7 Rows.fnReadMemorySpec Rows.fnReadMemoryRow = true := by
  unfold joinedFacts
  rw [shared.1, shared.2.1, shared.2.2.1, shared.2.2.2]
  kernel_rfl
/-- The given statement of FnReadMemory. -/
theorem FnReadMemory_holds : Rows.FnReadMemorySaid :=
  OpenClaim.holds_of_wide 7 Try.f7 rfl rfl rfl rfl rfl rfl rfl ⟨rfl, rfl, rfl, rfl, rfl⟩ rfl rfl rfl rfl rfl (by kernel_rfl) Try.func7 closed_FnReadMemory
    (of_decide_eq_true (by kernel_rfl)) (by unfold Func.isWrapper; first | (rw [if_pos (by decide +kernel)]; kernel_rfl) | (rw [if_neg (by decide +kernel)]; exact ⟨rfl, rfl⟩))
    (fun os started H enc _ => lifted_FnReadMemory os started H enc)

end Go.Proofs.Ytadippkanlbgjaa
