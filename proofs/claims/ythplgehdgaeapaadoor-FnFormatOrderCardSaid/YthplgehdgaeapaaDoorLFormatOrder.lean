/- The law FnFormatOrder: for every input it answers true, and changes nothing that was there. The listed package-level variables are tied by the card. No condition. -/
import Derived.Test.YthplgehdgaeapaaDoorReadStr
import Derived.Test.YthplgehdgaeapaaDoorParseS
import Derived.Test.YthplgehdgaeapaaDoorDrawOrd
import Derived.Deep.RegionHeld3
import Derived.Deep.RegionWith
import Derived.Deep.DrawnRows
import Derived.Test.YthplgehdgaeapaaDoorTie
import Derived.Test.YthplgehdgaeapaaDoorCards
import Derived.Stop.Joined
namespace Go.Proofs.YthplgehdgaeapaaDoor
open Go.ChangeShapes Go.WideShapes Go.ChangeAt Go.RowKit
set_option linter.unusedVariables false

theorem tabW_alloc {w : World} (h : TabW w) (o : Obj) : TabW (w.alloc o) := h.below ((Below.refl _ _).alloc (Nat.le_refl _) o)
theorem laidW_alloc {w : World} (h : LaidW w) (o : Obj) : LaidW (w.alloc o) := h.below ((Below.refl _ _).alloc (Nat.le_refl _) o)
theorem pair_stay {W w' : World} {B : Nat} {x y : Value} (hb : Below W.heap.size W w') (h : W.cell? ⟨B, 0, none⟩ = some x ∧ W.cell? ⟨B, 1, none⟩ = some y) : w'.cell? ⟨B, 0, none⟩ = some x ∧ w'.cell? ⟨B, 1, none⟩ = some y :=
  ⟨(hb.cell (p := ⟨B, 0, none⟩) (block_lt_of_cell h.1)).trans h.1, (hb.cell (p := ⟨B, 1, none⟩) (block_lt_of_cell h.2)).trans h.2⟩
theorem three_stay {W w' : World} {B C D : Nat} {x y z u s t : Value} (hb : Below W.heap.size W w') (h : (W.cell? ⟨B, 0, none⟩ = some x ∧ W.cell? ⟨B, 1, none⟩ = some y) ∧ (W.cell? ⟨C, 0, none⟩ = some z ∧ W.cell? ⟨C, 1, none⟩ = some u) ∧ (W.cell? ⟨D, 0, none⟩ = some s ∧ W.cell? ⟨D, 1, none⟩ = some t)) :
    (w'.cell? ⟨B, 0, none⟩ = some x ∧ w'.cell? ⟨B, 1, none⟩ = some y) ∧ (w'.cell? ⟨C, 0, none⟩ = some z ∧ w'.cell? ⟨C, 1, none⟩ = some u) ∧ (w'.cell? ⟨D, 0, none⟩ = some s ∧ w'.cell? ⟨D, 1, none⟩ = some t) := ⟨pair_stay hb h.1, pair_stay hb h.2.1, pair_stay hb h.2.2⟩
set_option maxHeartbeats 4000000 in
set_option maxRecDepth 20000 in
theorem walk_FnFormatOrder (v0 v1 : Value) (w : World) (y0 : IsBytes w v0) (y1 : IsBytes w v1) (hL : LaidW w) : Calls Tryd.prog 9 #[v0, v1] w fun e w' => e = .returned (.bool true) ∧ Below w.heap.size w w' := by
  have hY0 := Lib.hid y0
  have hY1 := Lib.hid y1
  obtain ⟨a0, len0, cap0, zs0, rfl, _⟩ := y0
  obtain ⟨a1, len1, cap1, zs1, rfl, _⟩ := y1
  by_cases hl : (1048576 : Int) < (len0 : Int)
  · go_enter Tryd.func9, Tryd.ntmps9
    go_wp2_with fail
    go_ret
    exact ⟨rfl, Below.refl _ _⟩
  by_cases hl1 : (1048576 : Int) < (len1 : Int)
  · go_enter Tryd.func9, Tryd.ntmps9
    go_wp2_with fail
    go_ret
    exact ⟨rfl, Below.refl _ _⟩
  go_enter Tryd.func9, Tryd.ntmps9
  go_wp2_with fail
  refine (draw_FormatOrder hY0.out).mono ?_
  rintro e w1 ⟨v, rfl, ⟨o1, a1, rfl⟩, hb1⟩
  obtain ⟨hc1, hf1⟩ := bcell hb1
  have hs1 : w.heap.size + 0 ≤ w1.heap.size := Nat.le_trans (by go_size) hb1.size
  have hB1 : Hid (Below w.heap.size w w1) := below_via hb1 (by repeat (first | with_reducible exact Below.refl _ _ | with_reducible refine below_via (by assumption) ?_ (by go_size) | with_reducible refine below_within (by assumption) ?_ (by go_size) (by omega) | with_reducible refine Below.alloc ?_ (by go_size) _ | with_reducible refine Below.setCell ?_ (by go_size) _ | with_reducible refine Below.drew ?_)) (by go_size)
  go_wp2_with fail
  refine (draw_FormatOrder ((hY1.out.below hB1.out).alloc _)).mono ?_
  rintro e w2 ⟨v, rfl, ⟨o2, a2, rfl⟩, hb2⟩
  obtain ⟨hc2, hf2⟩ := bcell hb2
  have hs2 : w1.heap.size + 1 ≤ w2.heap.size := Nat.le_trans (by go_size) hb2.size
  have z2_0 : w1.heap.size < w2.heap.size := Nat.lt_of_lt_of_le (by go_size) hb2.size
  have hB2 : Hid (Below w.heap.size w w2) := below_via hb2 (by repeat (first | with_reducible exact Below.refl _ _ | with_reducible refine below_via (by assumption) ?_ (by go_size) | with_reducible refine below_within (by assumption) ?_ (by go_size) (by omega) | with_reducible refine Below.alloc ?_ (by go_size) _ | with_reducible refine Below.setCell ?_ (by go_size) _ | with_reducible refine Below.drew ?_)) (by go_size)
  go_wp2_with fail
  refine (impl_FormatOrder o1 a1 (tabW_alloc (hL.1.below hB2.out) _)).mono ?_
  rintro e w3 ⟨rfl, hb3⟩
  obtain ⟨hc3, hf3⟩ := bcell hb3
  have hs3 : w2.heap.size + 1 ≤ w3.heap.size := Nat.le_trans (by go_size) hb3.size
  have z3_0 : w1.heap.size < w3.heap.size := Nat.lt_of_lt_of_le (by go_size) hb3.size
  have z3_1 : w2.heap.size < w3.heap.size := Nat.lt_of_lt_of_le (by go_size) hb3.size
  have hB3 : Hid (Below w.heap.size w w3) := below_via hb3 (by repeat (first | with_reducible exact Below.refl _ _ | with_reducible refine below_via (by assumption) ?_ (by go_size) | with_reducible refine below_within (by assumption) ?_ (by go_size) (by omega) | with_reducible refine Below.alloc ?_ (by go_size) _ | with_reducible refine Below.setCell ?_ (by go_size) _ | with_reducible refine Below.drew ?_)) (by go_size)
  go_wp2_with fail
  refine (spec_FormatOrder o1 a1 _).mono ?_
  rintro e w4 ⟨rfl, hb4⟩
  obtain ⟨hc4, hf4⟩ := bcell hb4
  have hs4 : w3.heap.size + 0 ≤ w4.heap.size := Nat.le_trans (by go_size) hb4.size
  have z4_0 : w1.heap.size < w4.heap.size := Nat.lt_of_lt_of_le (by go_size) hb4.size
  have z4_1 : w2.heap.size < w4.heap.size := Nat.lt_of_lt_of_le (by go_size) hb4.size
  have hB4 : Hid (Below w.heap.size w w4) := below_via hb4 (by repeat (first | with_reducible exact Below.refl _ _ | with_reducible refine below_via (by assumption) ?_ (by go_size) | with_reducible refine below_within (by assumption) ?_ (by go_size) (by omega) | with_reducible refine Below.alloc ?_ (by go_size) _ | with_reducible refine Below.setCell ?_ (by go_size) _ | with_reducible refine Below.drew ?_)) (by go_size)
  go_wp2_with fail
  cases hv : ovB o1 a1
  · have he : (fmtS o1 a1).toList.isEmpty = true := by rw [fmtS_no hv, ByteArray.toList_eq]; rfl
    have HV := fun w => hv ▸ spec_OrderValid o1 a1 w
    go_wp2_with (first
      | (go_at_call 36; refine (HV _).mono ?_; rintro e w5 ⟨rfl, hb5⟩)
      | (go_at_call 32; refine (laws_alive _).mono ?_; rintro e w' ⟨rfl, rfl⟩))
    go_ret
    exact ⟨rfl, hB4.out.trans (hb5.mono hB4.out.size)⟩
  · have HV := fun w => hv ▸ spec_OrderValid o1 a1 w
    refine (HV _).mono ?_
    rintro e w5 ⟨rfl, hb5⟩
    have hB5 : Hid (Below w.heap.size w w5) := hB4.out.trans (hb5.mono hB4.out.size)
    have t4 : (w4.cell? ⟨w1.heap.size, 0, none⟩ = some (.int .i64 o1) ∧ w4.cell? ⟨w1.heap.size, 1, none⟩ = some (.int .i64 a1)) ∧ (w4.cell? ⟨w2.heap.size, 0, none⟩ = some (.int .i64 o2) ∧ w4.cell? ⟨w2.heap.size, 1, none⟩ = some (.int .i64 a2)) := by
      have b2 := pair_stay hb2 (show (w1.alloc (.cells #[.int .i64 o1, .int .i64 a1] 35)).cell? ⟨w1.heap.size, 0, none⟩ = some (.int .i64 o1) ∧ (w1.alloc (.cells #[.int .i64 o1, .int .i64 a1] 35)).cell? ⟨w1.heap.size, 1, none⟩ = some (.int .i64 a1) by constructor <;> simp)
      have b3 := pair_stay hb3 (pair_stay ((Below.refl w2.heap.size w2).alloc (Nat.le_refl _) (.cells #[.int .i64 o2, .int .i64 a2] 35)) b2)
      have c3 := pair_stay hb3 (show (w2.alloc (.cells #[.int .i64 o2, .int .i64 a2] 35)).cell? ⟨w2.heap.size, 0, none⟩ = some (.int .i64 o2) ∧ (w2.alloc (.cells #[.int .i64 o2, .int .i64 a2] 35)).cell? ⟨w2.heap.size, 1, none⟩ = some (.int .i64 a2) by constructor <;> simp)
      exact ⟨pair_stay hb4 b3, pair_stay hb4 c3⟩
    have t5 := Lib.hid (show _ ∧ _ from ⟨pair_stay hb5 t4.1, pair_stay hb5 t4.2⟩)
    have hz5 : w1.heap.size < w5.heap.size ∧ w2.heap.size < w5.heap.size := ⟨Nat.lt_of_lt_of_le z4_0 hb5.size, Nat.lt_of_lt_of_le z4_1 hb5.size⟩
    have hsz := fmt_len hv
    have LW5 := Lib.hid (hL.below hB5.out)
    clear hb1 hb2 hb3 hb4 hb5 hc1 hc2 hc3 hc4 hf1 hf2 hf3 hf4 hs1 hs2 hs3 hs4 z2_0 z3_0 z3_1 z4_0 z4_1 hB1 hB2 hB3 hB4 t4 HV hL
    go_wp2_with fail
    refine (impl_ParseOrder (fmtS o1 a1) (by omega) LW5.out).mono ?_
    rintro e w6 ⟨op', arg', ok', hP', rfl, hb6⟩
    obtain ⟨rfl, rfl, rfl⟩ := (parse_yes hv rfl).unique hP'
    have t6 := Lib.hid (show _ ∧ _ from ⟨pair_stay hb6 t5.out.1, pair_stay hb6 t5.out.2⟩)
    have hB6 : Hid (Below w.heap.size w w6) := hB5.out.trans (hb6.mono hB5.out.size)
    have hz6 : w1.heap.size < w6.heap.size ∧ w2.heap.size < w6.heap.size := ⟨Nat.lt_of_lt_of_le hz5.1 hb6.size, Nat.lt_of_lt_of_le hz5.2 hb6.size⟩
    have LW6 := Lib.hid (LW5.out.below hb6)
    clear hb6 hP' t5 hB5 LW5 hz5
    go_upto_region 11 with fail
    obtain ⟨Y, hY⟩ : ∃ Y, Y = w6.alloc (.cells #[.int .i64 o1, .int .i64 a1] 35) := ⟨_, rfl⟩
    have hbY : Hid (Below w6.heap.size w6 Y) := by rw [hY]; exact (Below.refl _ _).alloc (Nat.le_refl _) _
    have TY : Hid ((Y.cell? ⟨w1.heap.size, 0, none⟩ = some (.int .i64 o1) ∧ Y.cell? ⟨w1.heap.size, 1, none⟩ = some (.int .i64 a1)) ∧ (Y.cell? ⟨w2.heap.size, 0, none⟩ = some (.int .i64 o2) ∧ Y.cell? ⟨w2.heap.size, 1, none⟩ = some (.int .i64 a2)) ∧ (Y.cell? ⟨w6.heap.size, 0, none⟩ = some (.int .i64 o1) ∧ Y.cell? ⟨w6.heap.size, 1, none⟩ = some (.int .i64 a1))) := by
      refine ⟨pair_stay hbY.out t6.out.1, pair_stay hbY.out t6.out.2, ?_⟩
      rw [hY]
      constructor <;> simp
    rw [← hY]
    have LWY := Lib.hid (LW6.out.below hbY.out)
    have hBY : Hid (Below w.heap.size w Y) := hB6.out.trans (hbY.out.mono hB6.out.size)
    clear hY t6 LW6 hB6 hbY hz6
    have key : ¬ (o1 = o2 ∧ a1 = a2) → ((fmtS o2 a2).toList == (fmtS o1 a1).toList) = false := by
      intro hab
      apply str_ne
      intro e
      cases h2 : ovB o2 a2
      · rw [fmtS_no h2] at e
        exact fmt_ne hv e.symm
      · have := fmt_inj hv h2 e.symm
        exact hab this
    by_cases ho : o1 = o2
    · by_cases ha : a1 = a2
      · subst ho
        subst ha
        clear key
        refine wp_region_held_drew (S := fun w' => (w'.cell? ⟨w1.heap.size, 0, none⟩ = some (.int .i64 o1) ∧ w'.cell? ⟨w1.heap.size, 1, none⟩ = some (.int .i64 a1)) ∧ (w'.cell? ⟨w2.heap.size, 0, none⟩ = some (.int .i64 o1) ∧ w'.cell? ⟨w2.heap.size, 1, none⟩ = some (.int .i64 a1)) ∧ (w'.cell? ⟨w6.heap.size, 0, none⟩ = some (.int .i64 o1) ∧ w'.cell? ⟨w6.heap.size, 1, none⟩ = some (.int .i64 a1))) (by kernel_rfl) (three_stay (Below.refl _ _).drew TY.out) ?_
        intro hS
        try dsimp only at hS
        refine wpAnyH_take (i := 0) (oi := ({ dst := some 41, op := Op.move (Operand.tmp 9), type := 4, pos := "laws.go:380", after := #[], guard := none } : Oper)) (v := ?_) rfl (by kernel_rfl) (by kernel_rfl) (by kernel_rfl) (fun _ _ _ h => h) (Or.inl ⟨by rfl, ?_⟩) hS ?_
        rotate_left
        · intro wq hSw; (try dsimp only at hSw); obtain ⟨⟨s0, s1⟩, ⟨s2, s3⟩, s4, s5⟩ := hSw; go_simp; (try with_reducible rfl)
        (try simp only [Act.put, List.setIfInBounds_toArray, List.set_cons_zero, List.set_cons_succ])
        refine wpAnyH_take (i := 1) (oi := ({ dst := some 42, op := Op.move (Operand.tmp 41), type := 4, pos := "laws.go:380", after := #[{ on := 0, ground := Ground.data }], guard := none } : Oper)) (v := ?_) rfl (by kernel_rfl) (by kernel_rfl) (by kernel_rfl) (fun _ _ _ h => h) (Or.inl ⟨by rfl, ?_⟩) hS ?_
        rotate_left
        · intro wq hSw; (try dsimp only at hSw); obtain ⟨⟨s0, s1⟩, ⟨s2, s3⟩, s4, s5⟩ := hSw; go_simp; (try with_reducible rfl)
        (try simp only [Act.put, List.setIfInBounds_toArray, List.set_cons_zero, List.set_cons_succ])
        refine wpAnyH_take (i := 2) (oi := ({ dst := some 43, op := Op.load 35 (Operand.tmp 8), type := 35, pos := "laws.go:380", after := #[{ on := 1, ground := Ground.guard }], guard := some (1, true) } : Oper)) (v := ?_) rfl (by kernel_rfl) (by kernel_rfl) (by kernel_rfl) (fun _ _ _ h => h) (Or.inl ⟨by rfl, ?_⟩) hS ?_
        rotate_left
        · intro wq hSw; (try dsimp only at hSw); obtain ⟨⟨s0, s1⟩, ⟨s2, s3⟩, s4, s5⟩ := hSw; go_simp; (try with_reducible rfl)
        (try simp only [Act.put, List.setIfInBounds_toArray, List.set_cons_zero, List.set_cons_succ])
        refine wpAnyH_take (i := 3) (oi := ({ dst := some 44, op := Op.load 35 (Operand.tmp 5), type := 35, pos := "laws.go:380", after := #[{ on := 1, ground := Ground.guard }], guard := some (1, true) } : Oper)) (v := ?_) rfl (by kernel_rfl) (by kernel_rfl) (by kernel_rfl) (fun _ _ _ h => h) (Or.inl ⟨by rfl, ?_⟩) hS ?_
        rotate_left
        · intro wq hSw; (try dsimp only at hSw); obtain ⟨⟨s0, s1⟩, ⟨s2, s3⟩, s4, s5⟩ := hSw; go_simp; (try with_reducible rfl)
        (try simp only [Act.put, List.setIfInBounds_toArray, List.set_cons_zero, List.set_cons_succ])
        refine wpAnyH_take (i := 4) (oi := ({ dst := some 45, op := Op.binOp BinOp.eql 35 (Operand.tmp 43) (Operand.tmp 44) 35, type := 4, pos := "laws.go:380", after := #[{ on := 2, ground := Ground.data }, { on := 3, ground := Ground.data }, { on := 1, ground := Ground.guard }], guard := some (1, true) } : Oper)) (v := ?_) rfl (by kernel_rfl) (by kernel_rfl) (by kernel_rfl) (fun _ _ _ h => h) (Or.inl ⟨by rfl, ?_⟩) hS ?_
        rotate_left
        · intro wq hSw; (try dsimp only at hSw); obtain ⟨⟨s0, s1⟩, ⟨s2, s3⟩, s4, s5⟩ := hSw; go_simp; (try with_reducible rfl)
        (try simp only [Act.put, List.setIfInBounds_toArray, List.set_cons_zero, List.set_cons_succ])
        refine wpAnyH_take (i := 5) (oi := ({ dst := some 46, op := Op.pick (Operand.tmp 42) (Operand.tmp 45) (Operand.const (Value.bool false)), type := 4, pos := "laws.go:380", after := #[{ on := 1, ground := Ground.data }, { on := 4, ground := Ground.data }], guard := none } : Oper)) (v := ?_) rfl (by kernel_rfl) (by kernel_rfl) (by kernel_rfl) (fun _ _ _ h => h) (Or.inl ⟨by rfl, ?_⟩) hS ?_
        rotate_left
        · intro wq hSw; (try dsimp only at hSw); obtain ⟨⟨s0, s1⟩, ⟨s2, s3⟩, s4, s5⟩ := hSw; go_simp; (try with_reducible rfl)
        (try simp only [Act.put, List.setIfInBounds_toArray, List.set_cons_zero, List.set_cons_succ])
        refine wpAnyH_take (i := 6) (oi := ({ dst := some 47, op := Op.move (Operand.tmp 46), type := 4, pos := "laws.go:380", after := #[{ on := 5, ground := Ground.data }, { on := 1, ground := Ground.chain }], guard := none } : Oper)) (v := ?_) rfl (by kernel_rfl) (by kernel_rfl) (by kernel_rfl) (fun _ _ _ h => h) (Or.inl ⟨by rfl, ?_⟩) hS ?_
        rotate_left
        · intro wq hSw; (try dsimp only at hSw); obtain ⟨⟨s0, s1⟩, ⟨s2, s3⟩, s4, s5⟩ := hSw; go_simp; (try with_reducible rfl)
        (try simp only [Act.put, List.setIfInBounds_toArray, List.set_cons_zero, List.set_cons_succ])
        refine wpAnyH_take (i := 7) (oi := ({ dst := some 48, op := Op.load 35 (Operand.tmp 6), type := 35, pos := "laws.go:380", after := #[{ on := 6, ground := Ground.guard }], guard := some (6, true) } : Oper)) (v := ?_) rfl (by kernel_rfl) (by kernel_rfl) (by kernel_rfl) (fun _ _ _ h => h) (Or.inl ⟨by rfl, ?_⟩) hS ?_
        rotate_left
        · intro wq hSw; (try dsimp only at hSw); obtain ⟨⟨s0, s1⟩, ⟨s2, s3⟩, s4, s5⟩ := hSw; go_simp; (try with_reducible rfl)
        (try simp only [Act.put, List.setIfInBounds_toArray, List.set_cons_zero, List.set_cons_succ])
        refine wpAnyH_take (i := 9) (oi := ({ dst := some 50, op := Op.move (Operand.tmp 7), type := 9, pos := "laws.go:380", after := #[{ on := 6, ground := Ground.guard }], guard := some (6, true) } : Oper)) (v := ?_) rfl (by kernel_rfl) (by kernel_rfl) (by kernel_rfl) (fun _ _ _ h => h) (Or.inl ⟨by rfl, ?_⟩) hS ?_
        rotate_left
        · intro wq hSw; (try dsimp only at hSw); obtain ⟨⟨s0, s1⟩, ⟨s2, s3⟩, s4, s5⟩ := hSw; go_simp; (try with_reducible rfl)
        (try simp only [Act.put, List.setIfInBounds_toArray, List.set_cons_zero, List.set_cons_succ])
        refine wpAnyH_take (i := 11) (oi := ({ dst := some 52, op := Op.load 35 (Operand.tmp 5), type := 35, pos := "laws.go:380", after := #[{ on := 6, ground := Ground.guard }], guard := some (6, true) } : Oper)) (v := ?_) rfl (by kernel_rfl) (by kernel_rfl) (by kernel_rfl) (fun _ _ _ h => h) (Or.inl ⟨by rfl, ?_⟩) hS ?_
        rotate_left
        · intro wq hSw; (try dsimp only at hSw); obtain ⟨⟨s0, s1⟩, ⟨s2, s3⟩, s4, s5⟩ := hSw; go_simp; (try with_reducible rfl)
        (try simp only [Act.put, List.setIfInBounds_toArray, List.set_cons_zero, List.set_cons_succ])
        refine wpAnyH_take (i := 12) (oi := ({ dst := some 53, op := Op.load 35 (Operand.tmp 6), type := 35, pos := "laws.go:380", after := #[{ on := 6, ground := Ground.guard }], guard := some (6, true) } : Oper)) (v := ?_) rfl (by kernel_rfl) (by kernel_rfl) (by kernel_rfl) (fun _ _ _ h => h) (Or.inl ⟨by rfl, ?_⟩) hS ?_
        rotate_left
        · intro wq hSw; (try dsimp only at hSw); obtain ⟨⟨s0, s1⟩, ⟨s2, s3⟩, s4, s5⟩ := hSw; go_simp; (try with_reducible rfl)
        (try simp only [Act.put, List.setIfInBounds_toArray, List.set_cons_zero, List.set_cons_succ])
        refine wpAnyH_take (i := 13) (oi := ({ dst := some 54, op := Op.binOp BinOp.eql 35 (Operand.tmp 52) (Operand.tmp 53) 35, type := 4, pos := "laws.go:380", after := #[{ on := 11, ground := Ground.data }, { on := 12, ground := Ground.data }, { on := 6, ground := Ground.guard }], guard := some (6, true) } : Oper)) (v := ?_) rfl (by kernel_rfl) (by kernel_rfl) (by kernel_rfl) (fun _ _ _ h => h) (Or.inl ⟨by rfl, ?_⟩) hS ?_
        rotate_left
        · intro wq hSw; (try dsimp only at hSw); obtain ⟨⟨s0, s1⟩, ⟨s2, s3⟩, s4, s5⟩ := hSw; go_simp; (try with_reducible rfl)
        (try simp only [Act.put, List.setIfInBounds_toArray, List.set_cons_zero, List.set_cons_succ])
        refine wpAnyH_ready (rs := [8]) (by kernel_rfl) (by simp) ?_
        refine AllReadyH.cons (o := ({ dst := some 49, op := Op.call { callee := Callee.value (Operand.func 22), args := #[Operand.tmp 48], argTypes := #[35] }, type := 9, pos := "laws.go:380", after := #[{ on := 7, ground := Ground.data }, { on := 6, ground := Ground.chain }, { on := 6, ground := Ground.guard }], guard := some (6, true) } : Oper)) rfl (fun K hK => ?_) AllReadyH.nil
        go_simp
        (go_at_call 22; refine (impl_FormatOrder o1 a1 (LWY.out.drew).1).mono ?_; rintro e w7 ⟨rfl, hb7⟩; (have hbY7 : Hid (Below Y.heap.size Y w7) := (Below.refl _ _).drew.trans hb7); (have T7 := Lib.hid (three_stay hbY7.out TY.out)))
        (try go_wp2_with fail)
        refine hK.out _ _ (T7.out) (fun hT => ?_)
        clear hK K hS
        have hS := hT
        clear hT
        try dsimp only at hS
        (try simp only [Act.put, List.setIfInBounds_toArray, List.set_cons_zero, List.set_cons_succ])
        refine wpAnyH_take (i := 10) (oi := ({ dst := some 51, op := Op.binOp BinOp.eql 9 (Operand.tmp 49) (Operand.tmp 50) 9, type := 4, pos := "laws.go:380", after := #[{ on := 8, ground := Ground.data }, { on := 9, ground := Ground.data }, { on := 6, ground := Ground.guard }], guard := some (6, true) } : Oper)) (v := ?_) rfl (by kernel_rfl) (by kernel_rfl) (by kernel_rfl) (fun _ _ _ h => h) (Or.inl ⟨by rfl, ?_⟩) hS ?_
        rotate_left
        · intro wq hSw; (try dsimp only at hSw); obtain ⟨⟨s0, s1⟩, ⟨s2, s3⟩, s4, s5⟩ := hSw; go_simp; (try with_reducible rfl)
        (try simp only [Act.put, List.setIfInBounds_toArray, List.set_cons_zero, List.set_cons_succ])
        refine wpAnyH_take (i := 14) (oi := ({ dst := some 55, op := Op.binOp BinOp.eql 4 (Operand.tmp 51) (Operand.tmp 54) 4, type := 4, pos := "laws.go:380", after := #[{ on := 10, ground := Ground.data }, { on := 13, ground := Ground.data }, { on := 6, ground := Ground.guard }], guard := some (6, true) } : Oper)) (v := ?_) rfl (by kernel_rfl) (by kernel_rfl) (by kernel_rfl) (fun _ _ _ h => h) (Or.inl ⟨by rfl, ?_⟩) hS ?_
        rotate_left
        · intro wq hSw; (try dsimp only at hSw); obtain ⟨⟨s0, s1⟩, ⟨s2, s3⟩, s4, s5⟩ := hSw; go_simp; (try with_reducible rfl)
        (try simp only [Act.put, List.setIfInBounds_toArray, List.set_cons_zero, List.set_cons_succ])
        refine wpAnyH_take (i := 15) (oi := ({ dst := some 56, op := Op.pick (Operand.tmp 47) (Operand.tmp 55) (Operand.const (Value.bool false)), type := 4, pos := "laws.go:380", after := #[{ on := 6, ground := Ground.data }, { on := 14, ground := Ground.data }], guard := none } : Oper)) (v := ?_) rfl (by kernel_rfl) (by kernel_rfl) (by kernel_rfl) (fun _ _ _ h => h) (Or.inl ⟨by rfl, ?_⟩) hS ?_
        rotate_left
        · intro wq hSw; (try dsimp only at hSw); obtain ⟨⟨s0, s1⟩, ⟨s2, s3⟩, s4, s5⟩ := hSw; go_simp; (try with_reducible rfl)
        (try simp only [Act.put, List.setIfInBounds_toArray, List.set_cons_zero, List.set_cons_succ])
        refine wpAnyH_take (i := 16) (oi := ({ dst := some 4, op := Op.assign (Operand.tmp 56), type := 4, pos := "laws.go:380", after := #[{ on := 15, ground := Ground.data }, { on := 8, ground := Ground.chain }, { on := 0, ground := Ground.phase }, { on := 1, ground := Ground.phase }, { on := 2, ground := Ground.phase }, { on := 3, ground := Ground.phase }, { on := 4, ground := Ground.phase }, { on := 5, ground := Ground.phase }, { on := 6, ground := Ground.phase }, { on := 7, ground := Ground.phase }, { on := 8, ground := Ground.phase }, { on := 9, ground := Ground.phase }, { on := 10, ground := Ground.phase }, { on := 11, ground := Ground.phase }, { on := 12, ground := Ground.phase }, { on := 13, ground := Ground.phase }, { on := 14, ground := Ground.phase }, { on := 15, ground := Ground.phase }], guard := none } : Oper)) (v := ?_) rfl (by kernel_rfl) (by kernel_rfl) (by kernel_rfl) (fun _ _ _ h => h) (Or.inl ⟨by rfl, ?_⟩) hS ?_
        rotate_left
        · intro wq hSw; (try dsimp only at hSw); obtain ⟨⟨s0, s1⟩, ⟨s2, s3⟩, s4, s5⟩ := hSw; go_simp; (try with_reducible rfl)
        (try simp only [Act.put, List.setIfInBounds_toArray, List.set_cons_zero, List.set_cons_succ])
        refine wpAnyH_done (by kernel_rfl) ?_ _
        go_wp2_with fail
        go_ret
        exact ⟨rfl, hBY.out.trans (hbY7.out.mono hBY.out.size)⟩
      · have hk := key (fun h => ha h.2)
        subst ho
        clear key
        refine wp_region_held_drew (S := fun w' => (w'.cell? ⟨w1.heap.size, 0, none⟩ = some (.int .i64 o1) ∧ w'.cell? ⟨w1.heap.size, 1, none⟩ = some (.int .i64 a1)) ∧ (w'.cell? ⟨w2.heap.size, 0, none⟩ = some (.int .i64 o1) ∧ w'.cell? ⟨w2.heap.size, 1, none⟩ = some (.int .i64 a2)) ∧ (w'.cell? ⟨w6.heap.size, 0, none⟩ = some (.int .i64 o1) ∧ w'.cell? ⟨w6.heap.size, 1, none⟩ = some (.int .i64 a1))) (by kernel_rfl) (three_stay (Below.refl _ _).drew TY.out) ?_
        intro hS
        try dsimp only at hS
        refine wpAnyH_take (i := 0) (oi := ({ dst := some 41, op := Op.move (Operand.tmp 9), type := 4, pos := "laws.go:380", after := #[], guard := none } : Oper)) (v := ?_) rfl (by kernel_rfl) (by kernel_rfl) (by kernel_rfl) (fun _ _ _ h => h) (Or.inl ⟨by rfl, ?_⟩) hS ?_
        rotate_left
        · intro wq hSw; (try dsimp only at hSw); obtain ⟨⟨s0, s1⟩, ⟨s2, s3⟩, s4, s5⟩ := hSw; go_simp; (try with_reducible rfl)
        (try simp only [Act.put, List.setIfInBounds_toArray, List.set_cons_zero, List.set_cons_succ])
        refine wpAnyH_take (i := 1) (oi := ({ dst := some 42, op := Op.move (Operand.tmp 41), type := 4, pos := "laws.go:380", after := #[{ on := 0, ground := Ground.data }], guard := none } : Oper)) (v := ?_) rfl (by kernel_rfl) (by kernel_rfl) (by kernel_rfl) (fun _ _ _ h => h) (Or.inl ⟨by rfl, ?_⟩) hS ?_
        rotate_left
        · intro wq hSw; (try dsimp only at hSw); obtain ⟨⟨s0, s1⟩, ⟨s2, s3⟩, s4, s5⟩ := hSw; go_simp; (try with_reducible rfl)
        (try simp only [Act.put, List.setIfInBounds_toArray, List.set_cons_zero, List.set_cons_succ])
        refine wpAnyH_take (i := 2) (oi := ({ dst := some 43, op := Op.load 35 (Operand.tmp 8), type := 35, pos := "laws.go:380", after := #[{ on := 1, ground := Ground.guard }], guard := some (1, true) } : Oper)) (v := ?_) rfl (by kernel_rfl) (by kernel_rfl) (by kernel_rfl) (fun _ _ _ h => h) (Or.inl ⟨by rfl, ?_⟩) hS ?_
        rotate_left
        · intro wq hSw; (try dsimp only at hSw); obtain ⟨⟨s0, s1⟩, ⟨s2, s3⟩, s4, s5⟩ := hSw; go_simp; (try with_reducible rfl)
        (try simp only [Act.put, List.setIfInBounds_toArray, List.set_cons_zero, List.set_cons_succ])
        refine wpAnyH_take (i := 3) (oi := ({ dst := some 44, op := Op.load 35 (Operand.tmp 5), type := 35, pos := "laws.go:380", after := #[{ on := 1, ground := Ground.guard }], guard := some (1, true) } : Oper)) (v := ?_) rfl (by kernel_rfl) (by kernel_rfl) (by kernel_rfl) (fun _ _ _ h => h) (Or.inl ⟨by rfl, ?_⟩) hS ?_
        rotate_left
        · intro wq hSw; (try dsimp only at hSw); obtain ⟨⟨s0, s1⟩, ⟨s2, s3⟩, s4, s5⟩ := hSw; go_simp; (try with_reducible rfl)
        (try simp only [Act.put, List.setIfInBounds_toArray, List.set_cons_zero, List.set_cons_succ])
        refine wpAnyH_take (i := 4) (oi := ({ dst := some 45, op := Op.binOp BinOp.eql 35 (Operand.tmp 43) (Operand.tmp 44) 35, type := 4, pos := "laws.go:380", after := #[{ on := 2, ground := Ground.data }, { on := 3, ground := Ground.data }, { on := 1, ground := Ground.guard }], guard := some (1, true) } : Oper)) (v := ?_) rfl (by kernel_rfl) (by kernel_rfl) (by kernel_rfl) (fun _ _ _ h => h) (Or.inl ⟨by rfl, ?_⟩) hS ?_
        rotate_left
        · intro wq hSw; (try dsimp only at hSw); obtain ⟨⟨s0, s1⟩, ⟨s2, s3⟩, s4, s5⟩ := hSw; go_simp; (try with_reducible rfl)
        (try simp only [Act.put, List.setIfInBounds_toArray, List.set_cons_zero, List.set_cons_succ])
        refine wpAnyH_take (i := 5) (oi := ({ dst := some 46, op := Op.pick (Operand.tmp 42) (Operand.tmp 45) (Operand.const (Value.bool false)), type := 4, pos := "laws.go:380", after := #[{ on := 1, ground := Ground.data }, { on := 4, ground := Ground.data }], guard := none } : Oper)) (v := ?_) rfl (by kernel_rfl) (by kernel_rfl) (by kernel_rfl) (fun _ _ _ h => h) (Or.inl ⟨by rfl, ?_⟩) hS ?_
        rotate_left
        · intro wq hSw; (try dsimp only at hSw); obtain ⟨⟨s0, s1⟩, ⟨s2, s3⟩, s4, s5⟩ := hSw; go_simp; (try with_reducible rfl)
        (try simp only [Act.put, List.setIfInBounds_toArray, List.set_cons_zero, List.set_cons_succ])
        refine wpAnyH_take (i := 6) (oi := ({ dst := some 47, op := Op.move (Operand.tmp 46), type := 4, pos := "laws.go:380", after := #[{ on := 5, ground := Ground.data }, { on := 1, ground := Ground.chain }], guard := none } : Oper)) (v := ?_) rfl (by kernel_rfl) (by kernel_rfl) (by kernel_rfl) (fun _ _ _ h => h) (Or.inl ⟨by rfl, ?_⟩) hS ?_
        rotate_left
        · intro wq hSw; (try dsimp only at hSw); obtain ⟨⟨s0, s1⟩, ⟨s2, s3⟩, s4, s5⟩ := hSw; go_simp; (try with_reducible rfl)
        (try simp only [Act.put, List.setIfInBounds_toArray, List.set_cons_zero, List.set_cons_succ])
        refine wpAnyH_take (i := 7) (oi := ({ dst := some 48, op := Op.load 35 (Operand.tmp 6), type := 35, pos := "laws.go:380", after := #[{ on := 6, ground := Ground.guard }], guard := some (6, true) } : Oper)) (v := ?_) rfl (by kernel_rfl) (by kernel_rfl) (by kernel_rfl) (fun _ _ _ h => h) (Or.inl ⟨by rfl, ?_⟩) hS ?_
        rotate_left
        · intro wq hSw; (try dsimp only at hSw); obtain ⟨⟨s0, s1⟩, ⟨s2, s3⟩, s4, s5⟩ := hSw; go_simp; (try with_reducible rfl)
        (try simp only [Act.put, List.setIfInBounds_toArray, List.set_cons_zero, List.set_cons_succ])
        refine wpAnyH_take (i := 9) (oi := ({ dst := some 50, op := Op.move (Operand.tmp 7), type := 9, pos := "laws.go:380", after := #[{ on := 6, ground := Ground.guard }], guard := some (6, true) } : Oper)) (v := ?_) rfl (by kernel_rfl) (by kernel_rfl) (by kernel_rfl) (fun _ _ _ h => h) (Or.inl ⟨by rfl, ?_⟩) hS ?_
        rotate_left
        · intro wq hSw; (try dsimp only at hSw); obtain ⟨⟨s0, s1⟩, ⟨s2, s3⟩, s4, s5⟩ := hSw; go_simp; (try with_reducible rfl)
        (try simp only [Act.put, List.setIfInBounds_toArray, List.set_cons_zero, List.set_cons_succ])
        refine wpAnyH_take (i := 11) (oi := ({ dst := some 52, op := Op.load 35 (Operand.tmp 5), type := 35, pos := "laws.go:380", after := #[{ on := 6, ground := Ground.guard }], guard := some (6, true) } : Oper)) (v := ?_) rfl (by kernel_rfl) (by kernel_rfl) (by kernel_rfl) (fun _ _ _ h => h) (Or.inl ⟨by rfl, ?_⟩) hS ?_
        rotate_left
        · intro wq hSw; (try dsimp only at hSw); obtain ⟨⟨s0, s1⟩, ⟨s2, s3⟩, s4, s5⟩ := hSw; go_simp; (try with_reducible rfl)
        (try simp only [Act.put, List.setIfInBounds_toArray, List.set_cons_zero, List.set_cons_succ])
        refine wpAnyH_take (i := 12) (oi := ({ dst := some 53, op := Op.load 35 (Operand.tmp 6), type := 35, pos := "laws.go:380", after := #[{ on := 6, ground := Ground.guard }], guard := some (6, true) } : Oper)) (v := ?_) rfl (by kernel_rfl) (by kernel_rfl) (by kernel_rfl) (fun _ _ _ h => h) (Or.inl ⟨by rfl, ?_⟩) hS ?_
        rotate_left
        · intro wq hSw; (try dsimp only at hSw); obtain ⟨⟨s0, s1⟩, ⟨s2, s3⟩, s4, s5⟩ := hSw; go_simp; (try with_reducible rfl)
        (try simp only [Act.put, List.setIfInBounds_toArray, List.set_cons_zero, List.set_cons_succ])
        refine wpAnyH_take (i := 13) (oi := ({ dst := some 54, op := Op.binOp BinOp.eql 35 (Operand.tmp 52) (Operand.tmp 53) 35, type := 4, pos := "laws.go:380", after := #[{ on := 11, ground := Ground.data }, { on := 12, ground := Ground.data }, { on := 6, ground := Ground.guard }], guard := some (6, true) } : Oper)) (v := ?_) rfl (by kernel_rfl) (by kernel_rfl) (by kernel_rfl) (fun _ _ _ h => h) (Or.inl ⟨by rfl, ?_⟩) hS ?_
        rotate_left
        · intro wq hSw; (try dsimp only at hSw); obtain ⟨⟨s0, s1⟩, ⟨s2, s3⟩, s4, s5⟩ := hSw; go_simp; (try with_reducible rfl)
        (try simp only [Act.put, List.setIfInBounds_toArray, List.set_cons_zero, List.set_cons_succ])
        refine wpAnyH_ready (rs := [8]) (by kernel_rfl) (by simp) ?_
        refine AllReadyH.cons (o := ({ dst := some 49, op := Op.call { callee := Callee.value (Operand.func 22), args := #[Operand.tmp 48], argTypes := #[35] }, type := 9, pos := "laws.go:380", after := #[{ on := 7, ground := Ground.data }, { on := 6, ground := Ground.chain }, { on := 6, ground := Ground.guard }], guard := some (6, true) } : Oper)) rfl (fun K hK => ?_) AllReadyH.nil
        go_simp
        (go_at_call 22; refine (impl_FormatOrder o1 a2 (LWY.out.drew).1).mono ?_; rintro e w7 ⟨rfl, hb7⟩; (have hbY7 : Hid (Below Y.heap.size Y w7) := (Below.refl _ _).drew.trans hb7); (have T7 := Lib.hid (three_stay hbY7.out TY.out)))
        (try go_wp2_with fail)
        refine hK.out _ _ (T7.out) (fun hT => ?_)
        clear hK K hS
        have hS := hT
        clear hT
        try dsimp only at hS
        (try simp only [Act.put, List.setIfInBounds_toArray, List.set_cons_zero, List.set_cons_succ])
        refine wpAnyH_take (i := 10) (oi := ({ dst := some 51, op := Op.binOp BinOp.eql 9 (Operand.tmp 49) (Operand.tmp 50) 9, type := 4, pos := "laws.go:380", after := #[{ on := 8, ground := Ground.data }, { on := 9, ground := Ground.data }, { on := 6, ground := Ground.guard }], guard := some (6, true) } : Oper)) (v := ?_) rfl (by kernel_rfl) (by kernel_rfl) (by kernel_rfl) (fun _ _ _ h => h) (Or.inl ⟨by rfl, ?_⟩) hS ?_
        rotate_left
        · intro wq hSw; (try dsimp only at hSw); obtain ⟨⟨s0, s1⟩, ⟨s2, s3⟩, s4, s5⟩ := hSw; go_simp; (try with_reducible rfl)
        (try simp only [Act.put, List.setIfInBounds_toArray, List.set_cons_zero, List.set_cons_succ])
        refine wpAnyH_take (i := 14) (oi := ({ dst := some 55, op := Op.binOp BinOp.eql 4 (Operand.tmp 51) (Operand.tmp 54) 4, type := 4, pos := "laws.go:380", after := #[{ on := 10, ground := Ground.data }, { on := 13, ground := Ground.data }, { on := 6, ground := Ground.guard }], guard := some (6, true) } : Oper)) (v := ?_) rfl (by kernel_rfl) (by kernel_rfl) (by kernel_rfl) (fun _ _ _ h => h) (Or.inl ⟨by rfl, ?_⟩) hS ?_
        rotate_left
        · intro wq hSw; (try dsimp only at hSw); obtain ⟨⟨s0, s1⟩, ⟨s2, s3⟩, s4, s5⟩ := hSw; go_simp; (try with_reducible rfl)
        (try simp only [Act.put, List.setIfInBounds_toArray, List.set_cons_zero, List.set_cons_succ])
        refine wpAnyH_take (i := 15) (oi := ({ dst := some 56, op := Op.pick (Operand.tmp 47) (Operand.tmp 55) (Operand.const (Value.bool false)), type := 4, pos := "laws.go:380", after := #[{ on := 6, ground := Ground.data }, { on := 14, ground := Ground.data }], guard := none } : Oper)) (v := ?_) rfl (by kernel_rfl) (by kernel_rfl) (by kernel_rfl) (fun _ _ _ h => h) (Or.inl ⟨by rfl, ?_⟩) hS ?_
        rotate_left
        · intro wq hSw; (try dsimp only at hSw); obtain ⟨⟨s0, s1⟩, ⟨s2, s3⟩, s4, s5⟩ := hSw; go_simp; (try with_reducible rfl)
        (try simp only [Act.put, List.setIfInBounds_toArray, List.set_cons_zero, List.set_cons_succ])
        refine wpAnyH_take (i := 16) (oi := ({ dst := some 4, op := Op.assign (Operand.tmp 56), type := 4, pos := "laws.go:380", after := #[{ on := 15, ground := Ground.data }, { on := 8, ground := Ground.chain }, { on := 0, ground := Ground.phase }, { on := 1, ground := Ground.phase }, { on := 2, ground := Ground.phase }, { on := 3, ground := Ground.phase }, { on := 4, ground := Ground.phase }, { on := 5, ground := Ground.phase }, { on := 6, ground := Ground.phase }, { on := 7, ground := Ground.phase }, { on := 8, ground := Ground.phase }, { on := 9, ground := Ground.phase }, { on := 10, ground := Ground.phase }, { on := 11, ground := Ground.phase }, { on := 12, ground := Ground.phase }, { on := 13, ground := Ground.phase }, { on := 14, ground := Ground.phase }, { on := 15, ground := Ground.phase }], guard := none } : Oper)) (v := ?_) rfl (by kernel_rfl) (by kernel_rfl) (by kernel_rfl) (fun _ _ _ h => h) (Or.inl ⟨by rfl, ?_⟩) hS ?_
        rotate_left
        · intro wq hSw; (try dsimp only at hSw); obtain ⟨⟨s0, s1⟩, ⟨s2, s3⟩, s4, s5⟩ := hSw; go_simp; (try with_reducible rfl)
        (try simp only [Act.put, List.setIfInBounds_toArray, List.set_cons_zero, List.set_cons_succ])
        refine wpAnyH_done (by kernel_rfl) ?_ _
        go_wp2_with fail
        go_ret
        exact ⟨rfl, hBY.out.trans (hbY7.out.mono hBY.out.size)⟩
    · have hk := key (fun h => ho h.1)
      clear key
      refine wp_region_held_drew (S := fun w' => (w'.cell? ⟨w1.heap.size, 0, none⟩ = some (.int .i64 o1) ∧ w'.cell? ⟨w1.heap.size, 1, none⟩ = some (.int .i64 a1)) ∧ (w'.cell? ⟨w2.heap.size, 0, none⟩ = some (.int .i64 o2) ∧ w'.cell? ⟨w2.heap.size, 1, none⟩ = some (.int .i64 a2)) ∧ (w'.cell? ⟨w6.heap.size, 0, none⟩ = some (.int .i64 o1) ∧ w'.cell? ⟨w6.heap.size, 1, none⟩ = some (.int .i64 a1))) (by kernel_rfl) (three_stay (Below.refl _ _).drew TY.out) ?_
      intro hS
      try dsimp only at hS
      refine wpAnyH_take (i := 0) (oi := ({ dst := some 41, op := Op.move (Operand.tmp 9), type := 4, pos := "laws.go:380", after := #[], guard := none } : Oper)) (v := ?_) rfl (by kernel_rfl) (by kernel_rfl) (by kernel_rfl) (fun _ _ _ h => h) (Or.inl ⟨by rfl, ?_⟩) hS ?_
      rotate_left
      · intro wq hSw; (try dsimp only at hSw); obtain ⟨⟨s0, s1⟩, ⟨s2, s3⟩, s4, s5⟩ := hSw; go_simp; (try with_reducible rfl)
      (try simp only [Act.put, List.setIfInBounds_toArray, List.set_cons_zero, List.set_cons_succ])
      refine wpAnyH_take (i := 1) (oi := ({ dst := some 42, op := Op.move (Operand.tmp 41), type := 4, pos := "laws.go:380", after := #[{ on := 0, ground := Ground.data }], guard := none } : Oper)) (v := ?_) rfl (by kernel_rfl) (by kernel_rfl) (by kernel_rfl) (fun _ _ _ h => h) (Or.inl ⟨by rfl, ?_⟩) hS ?_
      rotate_left
      · intro wq hSw; (try dsimp only at hSw); obtain ⟨⟨s0, s1⟩, ⟨s2, s3⟩, s4, s5⟩ := hSw; go_simp; (try with_reducible rfl)
      (try simp only [Act.put, List.setIfInBounds_toArray, List.set_cons_zero, List.set_cons_succ])
      refine wpAnyH_take (i := 2) (oi := ({ dst := some 43, op := Op.load 35 (Operand.tmp 8), type := 35, pos := "laws.go:380", after := #[{ on := 1, ground := Ground.guard }], guard := some (1, true) } : Oper)) (v := ?_) rfl (by kernel_rfl) (by kernel_rfl) (by kernel_rfl) (fun _ _ _ h => h) (Or.inl ⟨by rfl, ?_⟩) hS ?_
      rotate_left
      · intro wq hSw; (try dsimp only at hSw); obtain ⟨⟨s0, s1⟩, ⟨s2, s3⟩, s4, s5⟩ := hSw; go_simp; (try with_reducible rfl)
      (try simp only [Act.put, List.setIfInBounds_toArray, List.set_cons_zero, List.set_cons_succ])
      refine wpAnyH_take (i := 3) (oi := ({ dst := some 44, op := Op.load 35 (Operand.tmp 5), type := 35, pos := "laws.go:380", after := #[{ on := 1, ground := Ground.guard }], guard := some (1, true) } : Oper)) (v := ?_) rfl (by kernel_rfl) (by kernel_rfl) (by kernel_rfl) (fun _ _ _ h => h) (Or.inl ⟨by rfl, ?_⟩) hS ?_
      rotate_left
      · intro wq hSw; (try dsimp only at hSw); obtain ⟨⟨s0, s1⟩, ⟨s2, s3⟩, s4, s5⟩ := hSw; go_simp; (try with_reducible rfl)
      (try simp only [Act.put, List.setIfInBounds_toArray, List.set_cons_zero, List.set_cons_succ])
      refine wpAnyH_take (i := 4) (oi := ({ dst := some 45, op := Op.binOp BinOp.eql 35 (Operand.tmp 43) (Operand.tmp 44) 35, type := 4, pos := "laws.go:380", after := #[{ on := 2, ground := Ground.data }, { on := 3, ground := Ground.data }, { on := 1, ground := Ground.guard }], guard := some (1, true) } : Oper)) (v := ?_) rfl (by kernel_rfl) (by kernel_rfl) (by kernel_rfl) (fun _ _ _ h => h) (Or.inl ⟨by rfl, ?_⟩) hS ?_
      rotate_left
      · intro wq hSw; (try dsimp only at hSw); obtain ⟨⟨s0, s1⟩, ⟨s2, s3⟩, s4, s5⟩ := hSw; go_simp; (try with_reducible rfl)
      (try simp only [Act.put, List.setIfInBounds_toArray, List.set_cons_zero, List.set_cons_succ])
      refine wpAnyH_take (i := 5) (oi := ({ dst := some 46, op := Op.pick (Operand.tmp 42) (Operand.tmp 45) (Operand.const (Value.bool false)), type := 4, pos := "laws.go:380", after := #[{ on := 1, ground := Ground.data }, { on := 4, ground := Ground.data }], guard := none } : Oper)) (v := ?_) rfl (by kernel_rfl) (by kernel_rfl) (by kernel_rfl) (fun _ _ _ h => h) (Or.inl ⟨by rfl, ?_⟩) hS ?_
      rotate_left
      · intro wq hSw; (try dsimp only at hSw); obtain ⟨⟨s0, s1⟩, ⟨s2, s3⟩, s4, s5⟩ := hSw; go_simp; (try with_reducible rfl)
      (try simp only [Act.put, List.setIfInBounds_toArray, List.set_cons_zero, List.set_cons_succ])
      refine wpAnyH_take (i := 6) (oi := ({ dst := some 47, op := Op.move (Operand.tmp 46), type := 4, pos := "laws.go:380", after := #[{ on := 5, ground := Ground.data }, { on := 1, ground := Ground.chain }], guard := none } : Oper)) (v := ?_) rfl (by kernel_rfl) (by kernel_rfl) (by kernel_rfl) (fun _ _ _ h => h) (Or.inl ⟨by rfl, ?_⟩) hS ?_
      rotate_left
      · intro wq hSw; (try dsimp only at hSw); obtain ⟨⟨s0, s1⟩, ⟨s2, s3⟩, s4, s5⟩ := hSw; go_simp; (try with_reducible rfl)
      (try simp only [Act.put, List.setIfInBounds_toArray, List.set_cons_zero, List.set_cons_succ])
      refine wpAnyH_take (i := 7) (oi := ({ dst := some 48, op := Op.load 35 (Operand.tmp 6), type := 35, pos := "laws.go:380", after := #[{ on := 6, ground := Ground.guard }], guard := some (6, true) } : Oper)) (v := ?_) rfl (by kernel_rfl) (by kernel_rfl) (by kernel_rfl) (fun _ _ _ h => h) (Or.inl ⟨by rfl, ?_⟩) hS ?_
      rotate_left
      · intro wq hSw; (try dsimp only at hSw); obtain ⟨⟨s0, s1⟩, ⟨s2, s3⟩, s4, s5⟩ := hSw; go_simp; (try with_reducible rfl)
      (try simp only [Act.put, List.setIfInBounds_toArray, List.set_cons_zero, List.set_cons_succ])
      refine wpAnyH_take (i := 9) (oi := ({ dst := some 50, op := Op.move (Operand.tmp 7), type := 9, pos := "laws.go:380", after := #[{ on := 6, ground := Ground.guard }], guard := some (6, true) } : Oper)) (v := ?_) rfl (by kernel_rfl) (by kernel_rfl) (by kernel_rfl) (fun _ _ _ h => h) (Or.inl ⟨by rfl, ?_⟩) hS ?_
      rotate_left
      · intro wq hSw; (try dsimp only at hSw); obtain ⟨⟨s0, s1⟩, ⟨s2, s3⟩, s4, s5⟩ := hSw; go_simp; (try with_reducible rfl)
      (try simp only [Act.put, List.setIfInBounds_toArray, List.set_cons_zero, List.set_cons_succ])
      refine wpAnyH_take (i := 11) (oi := ({ dst := some 52, op := Op.load 35 (Operand.tmp 5), type := 35, pos := "laws.go:380", after := #[{ on := 6, ground := Ground.guard }], guard := some (6, true) } : Oper)) (v := ?_) rfl (by kernel_rfl) (by kernel_rfl) (by kernel_rfl) (fun _ _ _ h => h) (Or.inl ⟨by rfl, ?_⟩) hS ?_
      rotate_left
      · intro wq hSw; (try dsimp only at hSw); obtain ⟨⟨s0, s1⟩, ⟨s2, s3⟩, s4, s5⟩ := hSw; go_simp; (try with_reducible rfl)
      (try simp only [Act.put, List.setIfInBounds_toArray, List.set_cons_zero, List.set_cons_succ])
      refine wpAnyH_take (i := 12) (oi := ({ dst := some 53, op := Op.load 35 (Operand.tmp 6), type := 35, pos := "laws.go:380", after := #[{ on := 6, ground := Ground.guard }], guard := some (6, true) } : Oper)) (v := ?_) rfl (by kernel_rfl) (by kernel_rfl) (by kernel_rfl) (fun _ _ _ h => h) (Or.inl ⟨by rfl, ?_⟩) hS ?_
      rotate_left
      · intro wq hSw; (try dsimp only at hSw); obtain ⟨⟨s0, s1⟩, ⟨s2, s3⟩, s4, s5⟩ := hSw; go_simp; (try with_reducible rfl)
      (try simp only [Act.put, List.setIfInBounds_toArray, List.set_cons_zero, List.set_cons_succ])
      refine wpAnyH_take (i := 13) (oi := ({ dst := some 54, op := Op.binOp BinOp.eql 35 (Operand.tmp 52) (Operand.tmp 53) 35, type := 4, pos := "laws.go:380", after := #[{ on := 11, ground := Ground.data }, { on := 12, ground := Ground.data }, { on := 6, ground := Ground.guard }], guard := some (6, true) } : Oper)) (v := ?_) rfl (by kernel_rfl) (by kernel_rfl) (by kernel_rfl) (fun _ _ _ h => h) (Or.inl ⟨by rfl, ?_⟩) hS ?_
      rotate_left
      · intro wq hSw; (try dsimp only at hSw); obtain ⟨⟨s0, s1⟩, ⟨s2, s3⟩, s4, s5⟩ := hSw; go_simp; (try with_reducible rfl)
      (try simp only [Act.put, List.setIfInBounds_toArray, List.set_cons_zero, List.set_cons_succ])
      refine wpAnyH_ready (rs := [8]) (by kernel_rfl) (by simp) ?_
      refine AllReadyH.cons (o := ({ dst := some 49, op := Op.call { callee := Callee.value (Operand.func 22), args := #[Operand.tmp 48], argTypes := #[35] }, type := 9, pos := "laws.go:380", after := #[{ on := 7, ground := Ground.data }, { on := 6, ground := Ground.chain }, { on := 6, ground := Ground.guard }], guard := some (6, true) } : Oper)) rfl (fun K hK => ?_) AllReadyH.nil
      go_simp
      (go_at_call 22; refine (impl_FormatOrder o2 a2 (LWY.out.drew).1).mono ?_; rintro e w7 ⟨rfl, hb7⟩; (have hbY7 : Hid (Below Y.heap.size Y w7) := (Below.refl _ _).drew.trans hb7); (have T7 := Lib.hid (three_stay hbY7.out TY.out)))
      (try go_wp2_with fail)
      refine hK.out _ _ (T7.out) (fun hT => ?_)
      clear hK K hS
      have hS := hT
      clear hT
      try dsimp only at hS
      (try simp only [Act.put, List.setIfInBounds_toArray, List.set_cons_zero, List.set_cons_succ])
      refine wpAnyH_take (i := 10) (oi := ({ dst := some 51, op := Op.binOp BinOp.eql 9 (Operand.tmp 49) (Operand.tmp 50) 9, type := 4, pos := "laws.go:380", after := #[{ on := 8, ground := Ground.data }, { on := 9, ground := Ground.data }, { on := 6, ground := Ground.guard }], guard := some (6, true) } : Oper)) (v := ?_) rfl (by kernel_rfl) (by kernel_rfl) (by kernel_rfl) (fun _ _ _ h => h) (Or.inl ⟨by rfl, ?_⟩) hS ?_
      rotate_left
      · intro wq hSw; (try dsimp only at hSw); obtain ⟨⟨s0, s1⟩, ⟨s2, s3⟩, s4, s5⟩ := hSw; go_simp; (try with_reducible rfl)
      (try simp only [Act.put, List.setIfInBounds_toArray, List.set_cons_zero, List.set_cons_succ])
      refine wpAnyH_take (i := 14) (oi := ({ dst := some 55, op := Op.binOp BinOp.eql 4 (Operand.tmp 51) (Operand.tmp 54) 4, type := 4, pos := "laws.go:380", after := #[{ on := 10, ground := Ground.data }, { on := 13, ground := Ground.data }, { on := 6, ground := Ground.guard }], guard := some (6, true) } : Oper)) (v := ?_) rfl (by kernel_rfl) (by kernel_rfl) (by kernel_rfl) (fun _ _ _ h => h) (Or.inl ⟨by rfl, ?_⟩) hS ?_
      rotate_left
      · intro wq hSw; (try dsimp only at hSw); obtain ⟨⟨s0, s1⟩, ⟨s2, s3⟩, s4, s5⟩ := hSw; go_simp; (try with_reducible rfl)
      (try simp only [Act.put, List.setIfInBounds_toArray, List.set_cons_zero, List.set_cons_succ])
      refine wpAnyH_take (i := 15) (oi := ({ dst := some 56, op := Op.pick (Operand.tmp 47) (Operand.tmp 55) (Operand.const (Value.bool false)), type := 4, pos := "laws.go:380", after := #[{ on := 6, ground := Ground.data }, { on := 14, ground := Ground.data }], guard := none } : Oper)) (v := ?_) rfl (by kernel_rfl) (by kernel_rfl) (by kernel_rfl) (fun _ _ _ h => h) (Or.inl ⟨by rfl, ?_⟩) hS ?_
      rotate_left
      · intro wq hSw; (try dsimp only at hSw); obtain ⟨⟨s0, s1⟩, ⟨s2, s3⟩, s4, s5⟩ := hSw; go_simp; (try with_reducible rfl)
      (try simp only [Act.put, List.setIfInBounds_toArray, List.set_cons_zero, List.set_cons_succ])
      refine wpAnyH_take (i := 16) (oi := ({ dst := some 4, op := Op.assign (Operand.tmp 56), type := 4, pos := "laws.go:380", after := #[{ on := 15, ground := Ground.data }, { on := 8, ground := Ground.chain }, { on := 0, ground := Ground.phase }, { on := 1, ground := Ground.phase }, { on := 2, ground := Ground.phase }, { on := 3, ground := Ground.phase }, { on := 4, ground := Ground.phase }, { on := 5, ground := Ground.phase }, { on := 6, ground := Ground.phase }, { on := 7, ground := Ground.phase }, { on := 8, ground := Ground.phase }, { on := 9, ground := Ground.phase }, { on := 10, ground := Ground.phase }, { on := 11, ground := Ground.phase }, { on := 12, ground := Ground.phase }, { on := 13, ground := Ground.phase }, { on := 14, ground := Ground.phase }, { on := 15, ground := Ground.phase }], guard := none } : Oper)) (v := ?_) rfl (by kernel_rfl) (by kernel_rfl) (by kernel_rfl) (fun _ _ _ h => h) (Or.inl ⟨by rfl, ?_⟩) hS ?_
      rotate_left
      · intro wq hSw; (try dsimp only at hSw); obtain ⟨⟨s0, s1⟩, ⟨s2, s3⟩, s4, s5⟩ := hSw; go_simp; (try with_reducible rfl)
      (try simp only [Act.put, List.setIfInBounds_toArray, List.set_cons_zero, List.set_cons_succ])
      refine wpAnyH_done (by kernel_rfl) ?_ _
      go_wp2_with fail
      go_ret
      exact ⟨rfl, hBY.out.trans (hbY7.out.mono hBY.out.size)⟩
set_option maxRecDepth 100000 in
theorem lifted_FnFormatOrder (os : Os) (started : os.Started) (H : Type) (enc : TypeId × Value → H) :
    ReturnsInHanded {} Tryd.checked os 9 .any (fun w args => (Rows.fnFormatOrderSpec.pre enc Tryd.prog Tryd.f9 Rows.fnFormatOrderRow.domain false w args ∧ laidMetH Tryd.prog laid5 w) ∧ sizedMet enc Tryd.prog Tryd.f9 (OpenSpec.ofChange Rows.fnFormatOrderSpec) false w args) (Rows.fnFormatOrderSpec.post enc Tryd.prog Tryd.f9 false true false false) := by
  refine returnsInHanded_of_change_and (C := Tryd.checked) (X := (fun w _ => laidMetH Tryd.prog laid5 w)) (fun _ _ _ hh h => h.of_heap hh) own started (by kernel_rfl) Tryd.func9
    (ChangeSpec.witness_shaped (enc := enc) (C := Tryd.checked) (os := os) (X := (fun w _ => laidMetH Tryd.prog laid5 w)) false (World.doorLaid Tryd.prog 400 os) #[.slice none 0 0, .slice none 0 0] 8 rfl (door_shaped os _) (by kernel_rfl) (by kernel_rfl) (by kernel_rfl) (door_met5 os _)) ?_
  intro W base args ds gs before hval0 hW _ _ hL _
  have hval : ∀ (j : Nat) t v, Tryd.f9.params[j]? = some t → args[j]? = some v → Value.okWide Tryd.prog W .any base t v := hval0
  have hW' := hW
  obtain ⟨p, q, hA0, hV, rfl, hfz, hnd⟩ := hW
  have hA : DataW.TrodAll enc Tryd.prog W 0 (fun _ => true) true Tryd.f9.params.toList args.toList ds p := hA0
  rw [Tryd.params9] at hA hval
  obtain ⟨v0, vs0, d0, ds0, p0, q0, hargs, rfl, rfl, h0, r0⟩ := trodAll_cons hA
  obtain ⟨v1, vs1, d1, ds1, p1, q1, rfl, rfl, rfl, h1, r1⟩ := trodAll_cons r0
  obtain ⟨rfl, rfl, rfl⟩ := trodAll_nil r1
  obtain rfl : args = #[v0, v1] := by cases args; simp_all
  obtain ⟨rfl, rfl⟩ := trodVars_none hV
  have lt0 : ∀ x ∈ p0, x.block < W.heap.size := by obtain ⟨m, hm⟩ := h0; exact DataW.trod_lt m _ _ _ hm
  have y0 := read_bytes (hval 0 46 v0 rfl rfl) h0
  have lt1 : ∀ x ∈ p1, x.block < W.heap.size := by obtain ⟨m, hm⟩ := h1; exact DataW.trod_lt m _ _ _ hm
  have y1 := read_bytes (hval 1 46 v1 rfl rfl) h1
  clear hA0 hval0
  refine (walk_FnFormatOrder v0 v1 W y0 y1 (laid_of_laid5 hL)).mono fun e W' ⟨he, bel⟩ => ?_
  subst he
  exact ⟨_, rfl, _, _, _, [], _, [], hW', trodAll_mk1 (shut_bool Tryd.underlying4 _), (trodAll_cons_mk (Below.trod laidOut (by kernel_rfl) (of_decide_eq_true (by kernel_rfl)) h0 bel lt0) (trodAll_cons_mk (Below.trod laidOut (by kernel_rfl) (of_decide_eq_true (by kernel_rfl)) h1 bel lt1) trodAll_mk0)), rfl, bel.frame _, fun h => by cases h⟩
theorem closed_FnFormatOrder : joinedFacts Tryd.prog 9 Tryd.f9 Rows.fnFormatOrderSpec Rows.fnFormatOrderRow = true := by
  unfold joinedFacts
  rw [shared.1, shared.2.1, shared.2.2.1, shared.2.2.2]
  kernel_rfl
theorem FnFormatOrder_row : Rows.FnFormatOrderSaid :=
  OpenClaim.holds_of_wide 9 Tryd.f9 rfl rfl rfl rfl rfl rfl rfl ⟨rfl, rfl, rfl, rfl, rfl⟩ rfl rfl rfl rfl rfl (by kernel_rfl) Tryd.func9 closed_FnFormatOrder
    (of_decide_eq_true (by kernel_rfl)) (by unfold Func.isWrapper; first | (rw [if_pos (by decide +kernel)]; kernel_rfl) | (rw [if_neg (by decide +kernel)]; exact ⟨rfl, rfl⟩))
    (fun os started H enc _ => lifted_FnFormatOrder os started H enc)
/-- The given statement, a tied card, of FnFormatOrder. -/
theorem FnFormatOrder_holds : Rows.FnFormatOrderCardSaid :=
  Claim7.holds_tied_plain_at .later [] [.data, .data, .data, .sentinel, .sentinel] true Rows.fnFormatOrderCard.stood.harness true
    FnFormatOrder_row (fun _ h => by cases h) (by kernel_rfl) (fun _ h => by cases h) fnFormatOrder_row_tie rfl ⟨rfl, rfl⟩ (by kernel_rfl) rfl
    (fun f fn hf hfn => by
      obtain rfl : f = 9 := Option.some.inj ((show Tryd.prog.funcNamed Rows.fnFormatOrderRow.func = some 9 by kernel_rfl).symm.trans hf) |>.symm
      obtain rfl : fn = Tryd.f9 := (Option.some.inj (Tryd.func9.symm.trans hfn)).symm
      exact ⟨by kernel_rfl, fun j t ht => by
        rw [Tryd.params9] at ht
        have hm : t ∈ [46, 46] := by simpa using Array.mem_of_getElem? ht
        have hall : ([46, 46].all fun u => !Tryd.prog.wantsStandIn u) = true := by kernel_rfl
        exact (show Tryd.prog.wantsStandIn t = false by simpa using List.all_eq_true.1 hall t hm)⟩)
    (by kernel_rfl)

end Go.Proofs.YthplgehdgaeapaaDoor
