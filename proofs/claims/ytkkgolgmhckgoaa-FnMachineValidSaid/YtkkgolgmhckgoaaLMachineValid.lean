/- The law FnMachineValid: for every input it answers true, and changes nothing that was there. No condition. -/
import Derived.Test.YtkkgolgmhckgoaaDrawMachs
import Derived.Test.YtkkgolgmhckgoaaDrawByte
import Derived.Test.YtkkgolgmhckgoaaMachVal
import Derived.Test.YtkkgolgmhckgoaaMemRead
import Derived.Test.YtkkgolgmhckgoaaSame
import Derived.Test.YtkkgolgmhckgoaaCellsN
import Derived.Deep.RegionHeld3
import Derived.Deep.RegionWith
import Derived.Deep.DrawnRows
namespace Go.Proofs.Ytkkgolgmhckgoaa
open Go.ChangeShapes Go.WideShapes Go.ChangeAt Go.RowKit
set_option linter.unusedVariables false
attribute [local go_sem ↓] Go.wp_at_zero Go.wp_at_succ
theorem nineBelow {W W' : World} {b : Nat} {x0 x1 x2 x3 x4 x5 x6 x7 x8 : Value} (h : Nine W b x0 x1 x2 x3 x4 x5 x6 x7 x8) (hb : Below W.heap.size W W') : Nine W' b x0 x1 x2 x3 x4 x5 x6 x7 x8 := h.keep (rb := b + 1) (Keep.ofBelow hb) (by omega)

theorem machB_long {m : Mach} (ys : List Int) (h : 8 < ys.length) : machB { m with back := ys } = false := by
  cases hk : machB { m with back := ys }
  · rfl
  · have := (machB_good hk).len
    simp at this
    omega
theorem machB_a {m : Mach} {a : Int} (h : byteB a = false) : machB { m with a := a } = false := by
  cases hk : machB { m with a := a }
  · rfl
  · have := (machB_good hk).a
    rw [show ({ m with a := a } : Mach).a = a from rfl, h] at this
    cases this
theorem MachV.back' {w : World} {x y z z' : Value} {m : Mach} {ys : List Int} (h : MachV w (.agg #[x, y, .int .i64 m.bank, .int .i64 m.a, .int .i64 m.pc, .bool m.carry, z, .bool m.stop, .int .i64 m.cyc]) m) (g : Ints w z' ys) :
    MachV w (.agg #[x, y, .int .i64 m.bank, .int .i64 m.a, .int .i64 m.pc, .bool m.carry, z', .bool m.stop, .int .i64 m.cyc]) { m with back := ys } := by
  obtain ⟨x', y', z1, e, h1, h2, h3⟩ := h
  simp only [Value.agg.injEq, Array.mk.injEq, List.cons.injEq, and_true, true_and] at e
  obtain ⟨rfl, rfl, rfl⟩ := e
  exact ⟨_, _, _, rfl, h1, h2, g⟩
theorem MachV.a' {w : World} {x y z : Value} {m : Mach} (k : Int) (h : MachV w (.agg #[x, y, .int .i64 m.bank, .int .i64 m.a, .int .i64 m.pc, .bool m.carry, z, .bool m.stop, .int .i64 m.cyc]) m) :
    MachV w (.agg #[x, y, .int .i64 m.bank, .int .i64 k, .int .i64 m.pc, .bool m.carry, z, .bool m.stop, .int .i64 m.cyc]) { m with a := k } := by
  obtain ⟨x', y', z1, e, h1, h2, h3⟩ := h
  simp only [Value.agg.injEq, Array.mk.injEq, List.cons.injEq, and_true, true_and] at e
  obtain ⟨rfl, rfl, rfl⟩ := e
  exact ⟨_, _, _, rfl, h1, h2, h3⟩
set_option maxHeartbeats 4000000 in
set_option maxRecDepth 20000 in
theorem walk_FnMachineValid (v0 : Value) (w : World) (y0 : IsBytes w v0) : Calls Try.prog 4 #[v0] w fun e w' => e = .returned (.bool true) ∧ Below w.heap.size w w' := by
  have hY := Lib.hid y0
  obtain ⟨a, len, cap, zs, rfl, _⟩ := y0
  by_cases hl : (1048576 : Int) < (len : Int)
  · go_enter Try.func4, Try.ntmps4
    go_wp2_with fail
    go_ret
    exact ⟨rfl, Below.refl _ _⟩
  go_enter Try.func4, Try.ntmps4
  go_wp2_with fail
  refine (draw_MachineValid hY.out).mono ?_
  rintro e w1 ⟨v1, m, rfl, hm, hr1, hb1⟩
  have HM := Lib.hid hm
  have hB1 := Lib.hid hb1
  obtain ⟨a1, c1, b1, d1, f1, g1, rfl, _, _, _, _, _, _⟩ := machV_shape hm
  clear hm hb1
  have hmk : ∀ W : World, (Instr.makeSlice 23 (.int .i64 9) (.int .i64 9)).run Try.prog W = .ok (.slice (some ⟨W.heap.size, 0, none⟩) 9 9) (W.alloc (.cells (madeCells #[.int .i64 0] 9) 3)) := fun W => run_make_row' (P := Try.prog) 23 3 (.int .i64 0) 8 Try.underlying23 infoInt rfl .i64 .i64 9 (by omega) (by omega) W
  cases hv : machB m
  all_goals
    have HV := Lib.hid hv
    clear hv
    go_wp2_with fail
    refine (calls_eqv (impl_MachineValid (HM.out.alloc _)) HV.out).mono ?_
    rintro e w2 ⟨rfl, hb2⟩
    have n2 := nineBelow (nine_lit (W := w1) (b := w1.heap.size) (e := 39) (x0 := .slice a1 m.ram.length c1) (x1 := .slice b1 m.rom.length d1) (x2 := .int .i64 m.bank) (x3 := .int .i64 m.a) (x4 := .int .i64 m.pc) (x5 := .bool m.carry) (x6 := .slice f1 m.back.length g1) (x7 := .bool m.stop) (x8 := .int .i64 m.cyc) rfl) hb2
    have b12 : Hid (Below w1.heap.size w1 w2) := ((Below.refl _ _).alloc (Nat.le_refl _) _).trans (hb2.mono (by simp))
    clear hb2
    obtain ⟨x0, x1, x2, x3, x4, x5, x6, x7, x8, xf⟩ := id n2
    clear xf
    go_wp2_with fail
    refine (calls_eqv (spec_MachineValid (HM.out.below b12.out)) HV.out).mono ?_
    rintro e w3 ⟨rfl, hb3⟩
    have n3 := nineBelow n2 hb3
    have b13 : Hid (Below w1.heap.size w1 w3) := b12.out.trans (hb3.mono b12.out.size)
    clear hb3 x0 x1 x2 x3 x4 x5 x6 x7 x8 n2
    obtain ⟨x0, x1, x2, x3, x4, x5, x6, x7, x8, xf⟩ := id n3
    clear xf
    have hl3 : w1.heap.size < w3.heap.size := block_lt_of_cell x0
    have hl3' : w1.heap.size < w3.heap.size + 1 := by omega
    have hl3'' : w1.heap.size < w3.heap.size + 1 + 1 := by omega
    go_upto_region 11 with fail
    obtain ⟨Z, hZ⟩ : ∃ Z, Z = ((w3.alloc (.cells #[.slice a1 m.ram.length c1, .slice b1 m.rom.length d1, .int .i64 m.bank, .int .i64 m.a, .int .i64 m.pc, .bool m.carry, .slice (some ⟨w3.heap.size + 1, 0, none⟩) 9 9, .bool m.stop, .int .i64 m.cyc] 39)).alloc (.cells (madeCells #[.int .i64 0] 9) 3)).alloc (.cells #[.slice a1 m.ram.length c1, .slice b1 m.rom.length d1, .int .i64 m.bank, .int .i64 256, .int .i64 m.pc, .bool m.carry, .slice f1 m.back.length g1, .bool m.stop, .int .i64 m.cyc] 39) := ⟨_, rfl⟩
    have hb3Z : Hid (Below w3.heap.size w3 Z) := by rw [hZ]; exact (((Below.refl _ _).alloc (Nat.le_refl _) _).alloc (by simp only [World.size_alloc]; omega) _).alloc (by simp only [World.size_alloc]; omega) _
    have hN5 : Nine Z w3.heap.size (.slice a1 m.ram.length c1) (.slice b1 m.rom.length d1) (.int .i64 m.bank) (.int .i64 m.a) (.int .i64 m.pc) (.bool m.carry) (.slice (some ⟨w3.heap.size + 1, 0, none⟩) 9 9) (.bool m.stop) (.int .i64 m.cyc) := by rw [hZ]; exact ((nine_lit rfl).alloc _).alloc _
    have hN6 : Nine Z (w3.heap.size + 2) (.slice a1 m.ram.length c1) (.slice b1 m.rom.length d1) (.int .i64 m.bank) (.int .i64 256) (.int .i64 m.pc) (.bool m.carry) (.slice f1 m.back.length g1) (.bool m.stop) (.int .i64 m.cyc) := by rw [hZ]; exact nine_lit (by simp)
    have hIZ : Ints Z (.slice (some ⟨w3.heap.size + 1, 0, none⟩) 9 9) (List.replicate 9 0) := by
      rw [hZ]
      have h := (OwnV.own (nine_zeros (W := w3.alloc (.cells #[.slice a1 m.ram.length c1, .slice b1 m.rom.length d1, .int .i64 m.bank, .int .i64 m.a, .int .i64 m.pc, .bool m.carry, .slice (some ⟨w3.heap.size + 1, 0, none⟩) 9 9, .bool m.stop, .int .i64 m.cyc] 39)) (Nat.zero_le _))).ints
      rw [World.size_alloc] at h
      exact h.alloc _
    have HMZ := HM.out.below (b13.out.trans (hb3Z.out.mono b13.out.size))
    have M5 := Lib.hid (MachV.back' HMZ hIZ)
    have M6 := Lib.hid (MachV.a' 256 HMZ)
    have E5 := Lib.hid (machB_long (m := m) (List.replicate 9 0) (by decide))
    have E6 := Lib.hid (machB_a (m := m) (a := 256) (by decide))
    have hBZ : Hid (Below w.heap.size w Z) := by
      have h := b13.out.trans (hb3Z.out.mono b13.out.size)
      exact hB1.out.trans (h.mono hB1.out.size)
    rw [← hZ]
    clear hZ hIZ HMZ x0 x1 x2 x3 x4 x5 x6 x7 x8 n3
    have N6 := Lib.hid hN6
    obtain ⟨x0, x1, x2, x3, x4, x5, x6, x7, x8, xf⟩ := id hN5
    clear xf hN5
    go_wp2_with fail
    refine (calls_eqv (impl_MachineValid M5.out) E5.out).mono ?_
    rintro e w5 ⟨rfl, hb5⟩
    have n5 := nineBelow hN6 hb5
    have M65 := Lib.hid (M6.out.below hb5)
    have hB5 : Hid (Below w.heap.size w w5) := hBZ.out.trans (hb5.mono hBZ.out.size)
    clear hb5 hN6 x0 x1 x2 x3 x4 x5 x6 x7 x8
    obtain ⟨x0, x1, x2, x3, x4, x5, x6, x7, x8, xf⟩ := id n5
    clear xf n5
    go_wp2_with fail
    refine (calls_eqv (impl_MachineValid M65.out) E6.out).mono ?_
    rintro e w6 ⟨rfl, hb6⟩
    have hB6 : Hid (Below w.heap.size w w6) := hB5.out.trans (hb6.mono hB5.out.size)
    clear hb6
    go_wp2_with (first | (go_at_call 16; refine (laws_alive _).mono ?_; rintro e w' ⟨rfl, rfl⟩))
    go_ret
    exact ⟨rfl, hB6.out⟩
set_option maxRecDepth 100000 in
theorem lifted_FnMachineValid (os : Os) (started : os.Started) (H : Type) (enc : TypeId × Value → H) :
    ReturnsInHanded {} Try.checked os 4 .any (Rows.fnMachineValidSpec.pre6 enc Try.prog Try.f4 Rows.fnMachineValidRow.domain false) (Rows.fnMachineValidSpec.post enc Try.prog Try.f4 false true false false) := by
  refine returnsInHanded_of_change (C := Try.checked) own started (by kernel_rfl) Try.func4
    (ChangeSpec.witness6 (enc := enc) (C := Try.checked) false ⟨#[], #[.slice none 0 0], []⟩ 8 (by kernel_rfl) (by kernel_rfl) (by kernel_rfl) (by kernel_rfl)) ?_
  intro W base args ds gs before hval0 hW hcnd _
  have hval : ∀ (j : Nat) t v, Try.f4.params[j]? = some t → args[j]? = some v → Value.okWide Try.prog W .any base t v := hval0
  have hW' := hW
  obtain ⟨p, q, hA0, hV, rfl, hfz, hnd⟩ := hW
  have hA : DataW.TrodAll enc Try.prog W 0 (fun _ => true) true Try.f4.params.toList args.toList ds p := hA0
  rw [Try.params4] at hA hval
  obtain ⟨v0, vs0, d0, ds0, p0, q0, hargs, rfl, rfl, h0, r0⟩ := trodAll_cons hA
  obtain ⟨rfl, rfl, rfl⟩ := trodAll_nil r0
  obtain rfl : args = #[v0] := by cases args; simp_all
  obtain ⟨rfl, rfl⟩ := trodVars_none hV
  have lt0 : ∀ x ∈ p0, x.block < W.heap.size := by obtain ⟨m, hm⟩ := h0; exact DataW.trod_lt m _ _ _ hm
  have y0 := read_bytes (hval 0 22 v0 rfl rfl) h0
  clear hA0 hval0
  refine (walk_FnMachineValid v0 W y0).mono fun e W' ⟨he, bel⟩ => ?_
  subst he
  exact ⟨_, rfl, _, _, _, [], _, [], hW', trodAll_mk1 (shut_bool Try.underlying4 _), (trodAll_cons_mk (Below.trod laidOut (by kernel_rfl) (of_decide_eq_true (by kernel_rfl)) h0 bel lt0) trodAll_mk0), rfl, bel.frame _, fun h => by cases h⟩
theorem closed_FnMachineValid : joinedFacts Try.prog 4 Try.f4 Rows.fnMachineValidSpec Rows.fnMachineValidRow = true := by
  unfold joinedFacts
  rw [shared.1, shared.2.1, shared.2.2.1, shared.2.2.2]
  kernel_rfl
/-- The given statement of FnMachineValid. -/
theorem FnMachineValid_holds : Rows.FnMachineValidSaid :=
  OpenClaim.holds_of_wide 4 Try.f4 rfl rfl rfl rfl rfl rfl rfl ⟨rfl, rfl, rfl, rfl, rfl⟩ rfl rfl rfl rfl rfl (by kernel_rfl) Try.func4 closed_FnMachineValid
    (of_decide_eq_true (by kernel_rfl)) (by unfold Func.isWrapper; first | (rw [if_pos (by decide +kernel)]; kernel_rfl) | (rw [if_neg (by decide +kernel)]; exact ⟨rfl, rfl⟩))
    (fun os started H enc _ => lifted_FnMachineValid os started H enc)

end Go.Proofs.Ytkkgolgmhckgoaa
