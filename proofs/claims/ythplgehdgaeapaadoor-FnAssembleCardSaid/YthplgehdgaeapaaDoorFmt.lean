/- The walks of the two functions that write an instruction's text. No condition. -/
import Derived.Test.YthplgehdgaeapaaDoorStr
import Derived.Deep.RegionWith
import Derived.Deep.RegionHeld3
import Derived.Deep.Cut
import Derived.Deep.CutRange
import Derived.Deep.DeepCutAuto
namespace Go.Proofs.YthplgehdgaeapaaDoor
open Go.RowKit
set_option linter.unusedVariables false

theorem grow_below {w : World} {k : Nat} {os : Array Obj} : Below w.heap.size w (Go.Sort.grow (w.drewN k) os) := by
  refine ⟨rfl, rfl, rfl, by show _ ≤ (w.heap ++ os).size; simp, fun i hi => ?_⟩
  show (w.heap ++ os)[i]? = _
  rw [Array.getElem?_append_left hi]
theorem itoa_small {arg : Int} {w : World} (h0 : 0 ≤ arg) (h1 : arg ≤ 1023) (h : TabW w) : Calls Tryd.prog 46 #[.int .i64 arg] w fun e w' => e = .returned (.string ⟨(Lib.decDigits arg.toNat).toArray⟩) ∧ Below w.heap.size w w' := by
  refine (Go.Proofs.Tryd.strconv_Itoa arg (by omega) (by omega) w h).mono ?_
  rintro e w' ⟨rfl, k, os, rfl⟩
  have e1 : Lib.itoa arg = Lib.decDigits arg.toNat := by unfold Lib.itoa; rw [if_neg (by omega)]
  rw [e1]
  exact ⟨rfl, grow_below⟩
set_option maxHeartbeats 2000000 in
set_option maxRecDepth 20000 in
theorem impl_FormatOrder (op arg : Int) {w : World} (hT : TabW w) : Calls Tryd.prog 22 #[.agg #[.int .i64 op, .int .i64 arg]] w fun e w' => e = .returned (.string (fmtS op arg)) ∧ Below w.heap.size w w' := by
  cases hv : ovB op arg
  · rw [fmtS_no hv]
    have HV := fun w => hv ▸ impl_OrderValid op arg w
    go_enter Tryd.func22, Tryd.ntmps22
    go_wp2_with (go_at_call 38; refine (HV _).mono ?_; rintro e w' ⟨rfl, hb⟩; obtain ⟨hc, hf⟩ := bcell hb; have hl := below_lts hb; (try simp only [World.size_drew] at hl); (try simp only [World.size_alloc] at hl); (try have hm := fun n (hn : n < _) => hl n (Nat.lt_add_right _ hn)); have hy : w.heap.size ≤ w'.heap.size := Nat.le_trans (by go_size) hb.size)
    go_ret
    refine ⟨rfl, ?_⟩
    repeat (first | with_reducible exact Below.refl _ _ | with_reducible refine below_via (by assumption) ?_ (by go_size) | with_reducible refine below_within (by assumption) ?_ (by go_size) (by omega) | with_reducible refine Below.alloc ?_ (by go_size) _ | with_reducible refine Below.setCell ?_ (by go_size) _ | with_reducible refine Below.drew ?_)
  · have HV := fun w => hv ▸ impl_OrderValid op arg w
    have ix := tbl_at (ovB_op hv)
    go_enter Tryd.func22, Tryd.ntmps22
    go_upto_region 3 with (go_at_call 38; refine (HV _).mono ?_; rintro e w' ⟨rfl, hb⟩; obtain ⟨hc, hf⟩ := bcell hb; have hl := below_lts hb; (try simp only [World.size_drew] at hl); (try simp only [World.size_alloc] at hl); (try have hm := fun n (hn : n < _) => hl n (Nat.lt_add_right _ hn)); have hy : w.heap.size ≤ w'.heap.size := Nat.le_trans (by go_size) hb.size)
    have hB : w.heap.size < w'.heap.size := hl _ (Nat.lt_succ_self _)
    have c0 : w'.cell? ⟨w.heap.size, 0, none⟩ = some (.int .i64 op) := by rw [hc _ _ (by simp)]; simp
    have c1 : w'.cell? ⟨w.heap.size, 1, none⟩ = some (.int .i64 arg) := by rw [hc _ _ (by simp)]; simp
    have hbw : Below w.heap.size w w' := below_via hb (by repeat (first | with_reducible exact Below.refl _ _ | with_reducible refine below_via (by assumption) ?_ (by go_size) | with_reducible refine below_within (by assumption) ?_ (by go_size) (by omega) | with_reducible refine Below.alloc ?_ (by go_size) _ | with_reducible refine Below.setCell ?_ (by go_size) _ | with_reducible refine Below.drew ?_)) (by simp)
    clear hb hc hf hl hm
    go_cut [3] (fun s3 wx => ∃ B, s3 = .pointer (some ⟨B, 0, none⟩) ∧ wx.cell? ⟨B, 0, none⟩ = some (.string (nameS op)) ∧ wx.cell? ⟨B, 1, none⟩ = some (.int .i64 (olen op)) ∧ Below w'.heap.size w' wx ∧ B < wx.heap.size)
    case first =>
      go_region_with (go_at_call 45; refine (impl_orderTable _).mono ?_; rintro e w1 ⟨rfl, rfl⟩)
      all_goals
        go_wp2_with fail
        go_meet
        refine ⟨_, rfl, by simp, by simp, by repeat (first | with_reducible exact Below.refl _ _ | with_reducible refine below_via (by assumption) ?_ (by go_size) | with_reducible refine below_within (by assumption) ?_ (by go_size) (by omega) | with_reducible refine Below.alloc ?_ (by go_size) _ | with_reducible refine Below.setCell ?_ (by go_size) _ | with_reducible refine Below.drew ?_), by first | (simp; done) | (simp; omega)⟩
    case rest =>
      obtain ⟨B, rfl, b0, b1, hbx, hBx⟩ := hcut
      have a1 := (hbx.cell (p := ⟨w.heap.size, 1, none⟩) hB).trans c1
      have hbw2 : Below w.heap.size w wc := hbw.trans (hbx.mono (Nat.le_of_lt hB))
      have hwc : w.heap.size < wc.heap.size := Nat.lt_of_lt_of_le hB hbx.size
      clear hbx c0 c1
      by_cases h1 : olen op = 1
      · rw [h1] at b1
        go_wp2_with fail
        go_ret
        exact ⟨by rw [fmtS_one hv h1]; rfl, hbw2⟩
      · have h2 : (olen op == 1) = false := by simp [h1]
        have ha := ovB_arg hv
        have z1 := nameS_size (ovB_op hv)
        have z2 := dig_len ha.1 ha.2
        have l1 : ¬ (9223372036854775807 < (nameS op).size + 1) := by omega
        have l2 : ¬ (9223372036854775807 < (nameS op).size + 1 + (Lib.decDigits arg.toNat).length) := by omega
        clear z1 z2
        have CI := itoa_small ha.1 ha.2 (hT.below hbw2).drew
        go_upto_region 6 with fail
        go_region_with (go_at_call 46; refine CI.mono ?_; rintro e w1 ⟨rfl, hb1⟩; (have k0 := (hb1.cell (p := ⟨B, 0, none⟩) hBx).trans b0); (have hz1 := hb1.size))
        all_goals
          go_wp2_with fail
          go_ret
          refine ⟨by rw [fmtS_more hv h1]; rfl, ?_⟩
          exact (hbw2.trans ((Below.refl _ _).drew.trans hb1 |>.mono hbw2.size))

def nameCells : Array Value := #[.string ⟨#[119, 97, 105, 116]⟩, .string ⟨#[115, 101, 116]⟩, .string ⟨#[108, 111, 97, 100]⟩, .string ⟨#[115, 116, 111, 114, 101]⟩, .string ⟨#[97, 100, 100]⟩, .string ⟨#[115, 117, 98]⟩, .string ⟨#[97, 110, 100]⟩, .string ⟨#[120, 111, 114]⟩, .string ⟨#[108, 101, 102, 116]⟩, .string ⟨#[114, 105, 103, 104, 116]⟩, .string ⟨#[106, 117, 109, 112]⟩, .string ⟨#[122, 101, 114, 111]⟩, .string ⟨#[99, 97, 114, 114, 121]⟩, .string ⟨#[99, 97, 108, 108]⟩, .string ⟨#[114, 101, 116, 117, 114, 110]⟩, .string ⟨#[115, 116, 111, 112]⟩]
theorem spec_l4Names (w : World) : Calls Tryd.prog 42 #[] w fun e w' => e = .returned (.slice (some ⟨w.heap.size, 0, none⟩) 16 16) ∧ w.alloc (.cells nameCells 9) = w' := by
  go_enter Tryd.func42, Tryd.ntmps42
  go_wp2
  go_ret
  exact ⟨rfl, rfl⟩
theorem nameCells_at {op : Int} (h : inR op 0 15 = true) (w : World) : (w.alloc (.cells nameCells 9)).cell? ⟨w.heap.size, op.toNat, none⟩ = some (.string (nameS op)) := by
  rw [World.cell?_alloc_new]
  rcases op_cases h with rfl | rfl | rfl | rfl | rfl | rfl | rfl | rfl | rfl | rfl | rfl | rfl | rfl | rfl | rfl | rfl <;> rfl
set_option maxHeartbeats 2000000 in
set_option maxRecDepth 20000 in
theorem spec_FormatOrder (op arg : Int) (w : World) : Calls Tryd.prog 20 #[.agg #[.int .i64 op, .int .i64 arg]] w fun e w' => e = .returned (.string (fmtS op arg)) ∧ Below w.heap.size w w' := by
  cases hv : ovB op arg
  · rw [fmtS_no hv]
    have HV := fun w => hv ▸ spec_OrderValid op arg w
    go_enter Tryd.func20, Tryd.ntmps20
    go_wp2_with (go_at_call 36; refine (HV _).mono ?_; rintro e w' ⟨rfl, hb⟩; obtain ⟨hc, hf⟩ := bcell hb; have hl := below_lts hb; (try simp only [World.size_drew] at hl); (try simp only [World.size_alloc] at hl); (try have hm := fun n (hn : n < _) => hl n (Nat.lt_add_right _ hn)); have hy : w.heap.size ≤ w'.heap.size := Nat.le_trans (by go_size) hb.size)
    go_ret
    refine ⟨rfl, ?_⟩
    repeat (first | with_reducible exact Below.refl _ _ | with_reducible refine below_via (by assumption) ?_ (by go_size) | with_reducible refine below_within (by assumption) ?_ (by go_size) (by omega) | with_reducible refine Below.alloc ?_ (by go_size) _ | with_reducible refine Below.setCell ?_ (by go_size) _ | with_reducible refine Below.drew ?_)
  · have HV := fun w => hv ▸ spec_OrderValid op arg w
    have hop := inR_iff.1 (ovB_op hv)
    go_enter Tryd.func20, Tryd.ntmps20
    go_upto_region 3 with (go_at_call 36; refine (HV _).mono ?_; rintro e w' ⟨rfl, hb⟩; obtain ⟨hc, hf⟩ := bcell hb; have hl := below_lts hb; (try simp only [World.size_drew] at hl); (try simp only [World.size_alloc] at hl); (try have hm := fun n (hn : n < _) => hl n (Nat.lt_add_right _ hn)); have hy : w.heap.size ≤ w'.heap.size := Nat.le_trans (by go_size) hb.size)
    have hB : w.heap.size < w'.heap.size := hl _ (Nat.lt_succ_self _)
    have c0 : w'.cell? ⟨w.heap.size, 0, none⟩ = some (.int .i64 op) := by rw [hc _ _ (by simp)]; simp
    have c1 : w'.cell? ⟨w.heap.size, 1, none⟩ = some (.int .i64 arg) := by rw [hc _ _ (by simp)]; simp
    have hbw : Below w.heap.size w w' := below_via hb (by repeat (first | with_reducible exact Below.refl _ _ | with_reducible refine below_via (by assumption) ?_ (by go_size) | with_reducible refine below_within (by assumption) ?_ (by go_size) (by omega) | with_reducible refine Below.alloc ?_ (by go_size) _ | with_reducible refine Below.setCell ?_ (by go_size) _ | with_reducible refine Below.drew ?_)) (by simp)
    have h16 : op < 16 := by omega
    have h0 : 0 ≤ op := hop.1
    have nc := nameCells_at (ovB_op hv)
    clear hb hc hf hl hm
    go_region_with (go_at_call 42; refine (spec_l4Names _).mono ?_; rintro e w1 ⟨rfl, rfl⟩)
    all_goals
      obtain ⟨X, hX⟩ : ∃ X, X = (w'.alloc (.cells nameCells 9)).drew := ⟨_, rfl⟩
      have hbX : Below w'.heap.size w' X := by rw [hX]; repeat (first | with_reducible exact Below.refl _ _ | with_reducible refine below_via (by assumption) ?_ (by go_size) | with_reducible refine below_within (by assumption) ?_ (by go_size) (by omega) | with_reducible refine Below.alloc ?_ (by go_size) _ | with_reducible refine Below.setCell ?_ (by go_size) _ | with_reducible refine Below.drew ?_)
      rw [← hX]
      have x0 := (hbX.cell (p := ⟨w.heap.size, 0, none⟩) hB).trans c0
      have x1 := (hbX.cell (p := ⟨w.heap.size, 1, none⟩) hB).trans c1
      have hBX : w.heap.size < X.heap.size := Nat.lt_of_lt_of_le hB hbX.size
      have hbwX : Below w.heap.size w X := hbw.trans (hbX.mono (Nat.le_of_lt hB))
      clear c0 c1 hbw hbX hX hB nc
      by_cases h1 : olen op = 1
      · have HL := fun w => h1 ▸ spec_OrderLength op w
        go_wp2_with (go_at_call 43; refine (HL _).mono ?_; rintro e w2 ⟨rfl, hb2⟩)
        go_ret
        exact ⟨by rw [fmtS_one hv h1]; rfl, hbwX.trans (hb2.mono (Nat.le_of_lt hBX))⟩
      · have ha := ovB_arg hv
        have z1 := nameS_size (ovB_op hv)
        have z2 := dig_len ha.1 ha.2
        have l1 : ¬ (9223372036854775807 < (nameS op).size + 1) := by omega
        have l2 : ¬ (9223372036854775807 < (nameS op).size + 1 + (Lib.decDigits arg.toNat).length) := by omega
        clear z1 z2
        have h2 : 1 < olen op := by
          have h3 := olen_vals op
          have h4 : olen op ≠ 0 := fun h => by rw [ovB_0 h] at hv; cases hv
          omega
        go_wp2_with (first
          | (go_at_call 43; refine (spec_OrderLength op _).mono ?_; rintro e w2 ⟨rfl, hb2⟩; (have y1 := (hb2.cell (p := ⟨w.heap.size, 1, none⟩) hBX).trans x1); (have hb2' := hbwX.trans (hb2.mono (Nat.le_of_lt hBX))))
          | (go_at_call 44; refine (spec_l4Digits arg _ ha.1 (by omega)).mono ?_; rintro e w3 ⟨rfl, hb3⟩))
        go_ret
        exact ⟨by rw [fmtS_more hv h1]; rfl, hb2'.trans (hb3.mono hb2'.size)⟩
end Go.Proofs.YthplgehdgaeapaaDoor
