/- The law FnNewMachine: for every input it answers true, and changes nothing that was there. No condition. -/
import Derived.Test.YtkkedigllieodaaDrawNew
import Derived.Test.YtkkedigllieodaaDrawByte
import Derived.Test.YtkkedigllieodaaSame
import Derived.Deep.RegionWith
namespace Go.Proofs.Ytkkedigllieodaa
open Go.ChangeShapes Go.WideShapes Go.ChangeAt Go.RowKit
set_option linter.unusedVariables false

theorem draw_NewMachine {v : Value} {w : World} (h : IsBytes w v) : Calls Try.prog 81 #[v] w (DrawnRom w) := by
  go_enter Try.func81, Try.ntmps81
  go_wp2_with fail
  refine (draw_NewMemory h).mono ?_
  rintro e w1 ⟨v1, zss, rfl, h1⟩
  go_wp2_with fail
  go_ret
  exact ⟨v1, zss, rfl, h1⟩
theorem nw_valid {rom : List (List Int)} : memB (nwR rom) (nwM rom) 0 = nwOk rom := by
  cases ht : nwOk rom
  · have e1 : nwR rom = [] := by simp [nwR, ht]
    have e2 : nwM rom = [] := by simp [nwM, ht]
    rw [e1, e2]; rfl
  · have e1 : nwR rom = zeros := by simp [nwR, ht]
    have e2 : nwM rom = rom := by simp [nwM, ht]
    rw [e1, e2]; exact ht
theorem machB_new (rom : List (List Int)) : machB (newM rom) = nwOk rom := by
  cases ht : nwOk rom
  · rw [newM_no ht]; rfl
  · rw [newM_yes ht]
    have h : memB zeros rom 0 = true := ht
    simp [machB, machF, h, byteB, inR]
set_option maxHeartbeats 4000000 in
set_option maxRecDepth 20000 in
theorem walk_FnNewMachine (v0 : Value) (w : World) (y0 : IsBytes w v0) : Calls Try.prog 18 #[v0] w fun e w' => e = .returned (.bool true) ∧ Below w.heap.size w w' := by
  have hY := Lib.hid y0
  obtain ⟨a, len, cap, zs, rfl, _⟩ := y0
  by_cases hl : (1048576 : Int) < (len : Int)
  · go_enter Try.func18, Try.ntmps18
    go_wp2_with fail
    go_ret
    exact ⟨rfl, Below.refl _ _⟩
  go_enter Try.func18, Try.ntmps18
  go_wp2_with fail
  refine (draw_NewMachine hY.out).mono ?_
  rintro e w1 ⟨v1, zss, rfl, hm, _, hl, hs, hb1⟩
  have HM := Lib.hid hm
  have hB1 := Lib.hid hb1
  clear hm hb1
  have hs1 := hB1.out.size
  go_wp2_with fail
  refine (impl_NewMachine HM.out (by omega) (by omega)).mono ?_
  rintro e w2 ⟨v2, rfl, o2, hb2⟩
  have hB2 : Hid (Below w.heap.size w w2) := below_via hb2 hB1.out hs1
  have hs2 : w1.heap.size ≤ w2.heap.size := hb2.size
  have O2 := Lib.hid o2
  have HB2 := Lib.hid hb2
  have hok : nwOk zss = true ∨ nwOk zss = false := by cases nwOk zss <;> simp
  obtain ⟨mm, hmm⟩ : ∃ mm, mm = newM zss := ⟨_, rfl⟩
  rw [← hmm] at o2
  have HMM := Lib.hid hmm
  obtain ⟨xa, xc, xb, xd, xe, xf, rfl, _, _, _, _, _, _⟩ := machV_shape o2.mach
  have OM := Lib.hid o2.mach
  clear o2 hb2 hmm O2
  obtain ⟨r, m0, b, a', p, k, back, s, cy⟩ := mm
  dsimp only at *
  have hTX := Lib.hid (mc_lit (W := w2) (x := .slice xa r.length xc) (y := .slice xb m0.length xd) (z := .slice xe back.length xf) (m := ⟨r, m0, b, a', p, k, back, s, cy⟩) (e := 63) rfl)
  go_wp2_with fail
  go_region_with (first
    | (go_at_call 71; refine (spec_NewMachine (HM.out.below ((HB2.out.alloc hs2 _).drew)) (by omega) (by omega)).mono ?_; rintro e w3 ⟨v3, rfl, o3, hb3⟩; rw [← HMM.out] at o3; have tX3 := mc_below hb3 (mc_drew hTX.out); obtain ⟨⟨x30, x31, x32⟩, ⟨x33, x34, x35⟩, x36, x37, x38⟩ := id tX3; have hB3 : Hid (Below w.heap.size w w3) := ((hB2.out.alloc hB2.out.size _).drew).trans (hb3.mono (hB2.out.alloc hB2.out.size _).size); have b13 : Hid (Below w1.heap.size w1 w3) := ((HB2.out.alloc hs2 _).drew).trans (hb3.mono (HB2.out.alloc hs2 _).size); have b23 : Hid (Below w2.heap.size w2 w3) := (((Below.refl _ _).alloc (Nat.le_refl _) _).drew).trans (hb3.mono (by simp)))
    | (go_at_call 82; refine (laws_sameMachine (OM.out.below b23.out) o3.mach).mono ?_; rintro e w4 ⟨rfl, hb4⟩))
  all_goals
    have hB4 : Hid (Below w.heap.size w w4) := hB3.out.trans (hb4.mono hB3.out.size)
    have b14 : Hid (Below w1.heap.size w1 w4) := b13.out.trans (hb4.mono b13.out.size)
    have b24 : Hid (Below w2.heap.size w2 w4) := b23.out.trans (hb4.mono b23.out.size)
    have tX4 := mc_below hb4 tX3
    obtain ⟨⟨x40, x41, x42⟩, ⟨x43, x44, x45⟩, x46, x47, x48⟩ := id tX4
    have hMB := machB_new zss
    rw [← HMM.out] at hMB
    go_wp2_with fail
    refine (impl_NewMemory (HM.out.below b14.out) (by omega) (by omega)).mono ?_
    rintro e w5 ⟨v5, rfl, o5, hb5⟩
    have tX5 := mc_below hb5 tX4
    obtain ⟨⟨x50, x51, x52⟩, ⟨x53, x54, x55⟩, x56, x57, x58⟩ := id tX5
    rcases hok with hok | hok
    · go_wp2_with fail
      refine (calls_at (impl_MemoryValid o5.mem) (nw_valid.trans hok)).mono ?_
      rintro e w6 ⟨rfl, hb6⟩
      have tX6 := mc_below hb6 tX5
      obtain ⟨⟨x60, x61, x62⟩, ⟨x63, x64, x65⟩, x66, x67, x68⟩ := id tX6
      have hB6 : Hid (Below w.heap.size w w6) := (hB4.out.trans (hb5.mono hB4.out.size)).trans (hb6.mono (Nat.le_trans hB4.out.size hb5.size))
      have b26 : Hid (Below w2.heap.size w2 w6) := (b24.out.trans (hb5.mono b24.out.size)).trans (hb6.mono (Nat.le_trans b24.out.size hb5.size))
      go_wp2_with fail
      refine (calls_at (impl_MachineValid (OM.out.below b26.out)) (hMB.trans hok)).mono ?_
      rintro e w7 ⟨rfl, hb7⟩
      have tX7 := mc_below hb7 tX6
      have hmm := HMM.out
      rw [newM_yes hok] at hmm
      simp only [Mach.mk.injEq] at hmm
      obtain ⟨rfl, rfl, rfl, rfl, rfl, rfl, rfl, rfl, rfl⟩ := hmm
      obtain ⟨⟨x70, x71, x72⟩, ⟨x73, x74, x75⟩, x76, x77, x78⟩ := id tX7
      go_wp2_with fail
      go_ret
      exact ⟨rfl, hB6.out.trans (hb7.mono hB6.out.size)⟩
    · go_wp2_with fail
      refine (calls_at (impl_MemoryValid o5.mem) (nw_valid.trans hok)).mono ?_
      rintro e w6 ⟨rfl, hb6⟩
      have tX6 := mc_below hb6 tX5
      obtain ⟨⟨x60, x61, x62⟩, ⟨x63, x64, x65⟩, x66, x67, x68⟩ := id tX6
      have hB6 : Hid (Below w.heap.size w w6) := (hB4.out.trans (hb5.mono hB4.out.size)).trans (hb6.mono (Nat.le_trans hB4.out.size hb5.size))
      have b26 : Hid (Below w2.heap.size w2 w6) := (b24.out.trans (hb5.mono b24.out.size)).trans (hb6.mono (Nat.le_trans b24.out.size hb5.size))
      go_wp2_with fail
      refine (calls_at (impl_MachineValid (OM.out.below b26.out)) (hMB.trans hok)).mono ?_
      rintro e w7 ⟨rfl, hb7⟩
      go_wp2_with (first | (go_at_call 33; refine (laws_alive _).mono ?_; rintro e w' ⟨rfl, rfl⟩))
      go_ret
      exact ⟨rfl, hB6.out.trans (hb7.mono hB6.out.size)⟩
set_option maxRecDepth 100000 in
theorem lifted_FnNewMachine (os : Os) (started : os.Started) (H : Type) (enc : TypeId × Value → H) :
    ReturnsInHanded {} Try.checked os 18 .any (Rows.fnNewMachineSpec.pre6 enc Try.prog Try.f18 Rows.fnNewMachineRow.domain false) (Rows.fnNewMachineSpec.post enc Try.prog Try.f18 false true false false) := by
  refine returnsInHanded_of_change (C := Try.checked) own started (by kernel_rfl) Try.func18
    (ChangeSpec.witness6 (enc := enc) (C := Try.checked) false ⟨#[], #[.slice none 0 0], []⟩ 8 (by kernel_rfl) (by kernel_rfl) (by kernel_rfl) (by kernel_rfl)) ?_
  intro W base args ds gs before hval0 hW hcnd _
  have hval : ∀ (j : Nat) t v, Try.f18.params[j]? = some t → args[j]? = some v → Value.okWide Try.prog W .any base t v := hval0
  have hW' := hW
  obtain ⟨p, q, hA0, hV, rfl, hfz, hnd⟩ := hW
  have hA : DataW.TrodAll enc Try.prog W 0 (fun _ => true) true Try.f18.params.toList args.toList ds p := hA0
  rw [Try.params18] at hA hval
  obtain ⟨v0, vs0, d0, ds0, p0, q0, hargs, rfl, rfl, h0, r0⟩ := trodAll_cons hA
  obtain ⟨rfl, rfl, rfl⟩ := trodAll_nil r0
  obtain rfl : args = #[v0] := by cases args; simp_all
  obtain ⟨rfl, rfl⟩ := trodVars_none hV
  have lt0 : ∀ x ∈ p0, x.block < W.heap.size := by obtain ⟨m, hm⟩ := h0; exact DataW.trod_lt m _ _ _ hm
  have y0 := read_bytes (hval 0 22 v0 rfl rfl) h0
  clear hA0 hval0
  refine (walk_FnNewMachine v0 W y0).mono fun e W' ⟨he, bel⟩ => ?_
  subst he
  exact ⟨_, rfl, _, _, _, [], _, [], hW', trodAll_mk1 (shut_bool Try.underlying4 _), (trodAll_cons_mk (Below.trod laidOut (by kernel_rfl) (of_decide_eq_true (by kernel_rfl)) h0 bel lt0) trodAll_mk0), rfl, bel.frame _, fun h => by cases h⟩
theorem closed_FnNewMachine : joinedFacts Try.prog 18 Try.f18 Rows.fnNewMachineSpec Rows.fnNewMachineRow = true := by
  unfold joinedFacts
  rw [shared.1, shared.2.1, shared.2.2.1, shared.2.2.2]
  kernel_rfl
/-- The given statement of FnNewMachine. -/
theorem FnNewMachine_holds : Rows.FnNewMachineSaid :=
  OpenClaim.holds_of_wide 18 Try.f18 rfl rfl rfl rfl rfl rfl rfl ⟨rfl, rfl, rfl, rfl, rfl⟩ rfl rfl rfl rfl rfl (by kernel_rfl) Try.func18 closed_FnNewMachine
    (of_decide_eq_true (by kernel_rfl)) (by unfold Func.isWrapper; first | (rw [if_pos (by decide +kernel)]; kernel_rfl) | (rw [if_neg (by decide +kernel)]; exact ⟨rfl, rfl⟩))
    (fun os started H enc _ => lifted_FnNewMachine os started H enc)

end Go.Proofs.Ytkkedigllieodaa
