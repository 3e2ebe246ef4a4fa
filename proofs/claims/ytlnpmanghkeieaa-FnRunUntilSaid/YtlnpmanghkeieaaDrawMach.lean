/- The drawn machines. No condition. -/
import Derived.Test.YtlnpmanghkeieaaDrawMachQ
import Derived.Test.YtlnpmanghkeieaaMerge
import Derived.Test.YtlnpmanghkeieaaDrawMem
import Derived.Deep.RegionHeld3
import Derived.Deep.RegionWith
import Derived.Deep.DrawnRows
namespace Go.Proofs.Ytlnpmanghkeieaa
open Go.RowKit
set_option linter.unusedVariables false
set_option linter.unusedSimpArgs false
attribute [local go_sem ↓] Go.wp_at_zero Go.wp_at_succ

theorem PI.start {rb B L : Nat} {W0 w1 : World} {v : Value} {ram : List Int} {rom : List (List Int)} {bank : Int} (hm : MemA L w1 v ram rom bank) (hR : Reader w1 rb B) (hK : Keep rb W0 w1) (hr : rb < L) : PI rb B W0 L w1 w1 :=
  ⟨Agree.refl _ _ _, hR, hK, Nat.le_refl _, hr, hK.size⟩
/-- Behind region 1. -/
def BegunD (rb B : Nat) (W0 wx : World) (n5 : Nat) : Prop := ∃ (L : Nat) (w1 : World) (x y : Value) (ram : List Int) (rom : List (List Int)) (bank a pc cyc : Int) (carry : Bool),
  MemA L w1 (.agg #[x, y, .int .i64 bank]) ram rom bank ∧ ram.length ≤ 256 ∧ PI rb B W0 L w1 wx ∧ Nine wx n5 x y (.int .i64 bank) (.int .i64 a) (.int .i64 pc) (.bool carry) (.slice none 0 0) (.bool false) (.int .i64 cyc) ∧ (n5 < L ∨ w1.heap.size ≤ n5) ∧ rb < n5 ∧ W0.heap.size ≤ n5 ∧ W0.heap.size ≤ L ∧ L ≤ w1.heap.size ∧ cyc ≤ 1000
theorem nine_zeros {W : World} {base : Nat} (h : base ≤ W.heap.size) : OwnV (W.alloc (.cells (madeCells #[.int .i64 0] 9) 3)) base 3 (.slice (some ⟨W.heap.size, 0, none⟩) 9 9) ((List.replicate 9 (0 : Int)).map (.int .i64)) := by
  have := OwnV.lit (w := W) (base := base) (n := 9) (madeCells #[.int .i64 0] 9) 3 h (by simp [madeCells]) (by decide)
  have e : (madeCells #[.int .i64 0] 9).toList = (List.replicate 9 (0 : Int)).map (.int .i64) := by kernel_rfl
  rwa [e] at this
set_option maxHeartbeats 40000000 in
set_option maxRecDepth 20000 in
theorem l20Machine {rb B : Nat} {w : World} (n : Int) (hR : Reader w rb B) (hB : B ≤ 1000) : Calls Try.prog 11 #[.pointer (some ⟨rb, 0, none⟩), .int .i64 n] w (PicksMach rb B w) := by
  have hlt := hR.lt
  go_enter Try.func11, Try.ntmps11
  go_upto_region 1 with fail
  obtain ⟨W0, hW0⟩ : ∃ W0, W0 = w.alloc (.cells #[.slice none 0 0, .slice none 0 0, .int .i64 0, .int .i64 0, .int .i64 0, .bool false, .slice none 0 0, .bool false, .int .i64 0] 28) := ⟨_, rfl⟩
  have S0 : Hid (Nine W0 w.heap.size (.slice none 0 0) (.slice none 0 0) (.int .i64 0) (.int .i64 0) (.int .i64 0) (.bool false) (.slice none 0 0) (.bool false) (.int .i64 0)) := by rw [hW0]; exact nine_lit rfl
  have KW0 : Hid (Keep rb w W0) := by rw [hW0]; exact (Keep.refl _ _).alloc _
  have RX : Hid (Reader W0 rb B) := by rw [hW0]; exact hR.alloc _
  have hW0s : W0.heap.size = w.heap.size + 1 := by rw [hW0]; simp
  have hrW : rb < W0.heap.size := by omega
  have hwW : w.heap.size < W0.heap.size := by omega
  have nr0 : W0.heap.size ≠ rb := by omega
  have nr0b : W0.heap.size + 1 ≠ rb := by omega
  rw [← hW0]
  clear hW0 hW0s
  go_cut [5] (fun s5 wx => ∃ n5 : Nat, s5 = .pointer (some ⟨n5, 0, none⟩) ∧ BegunD rb (B + 1106) W0 wx n5)
  case first =>
    have hMF : Hid (MF rb W0 (B + 0) W0.drew) := ⟨(Keep.refl _ _).drew, RX.out.drewM⟩
    refine wp_region_any (by kernel_rfl) ?_
    (try (change wpAny _ _ _ _ _ _ _ (World.drew _)))
    refine name_act (fun A0 hA0 => ?_)
    refine wpAny_pre 1 #[true, true, true, true, true, true, true, true, true, true, true, true, true, true, true, true, true, true, true, true, true, true, true, false] (fun act9 W => ∃ L : Nat, ∃ w1 : World, ∃ xa : Option Addr, ∃ xc : Nat, ∃ xb : Option Addr, ∃ xd : Nat, ∃ ram : List Int, ∃ rom : List (List Int), ∃ bank : Int, ∃ a4 : Int, ∃ x6 : Int, ∃ q7 : Int, ∃ x9 : Int, ∃ q10 : Int, ∃ b11 : Nat, ∃ k13 : Nat, ∃ p15 : Int, ∃ x17 : Int, ∃ c18 : Bool, ∃ y20 : Int, ∃ b22 : Nat, act9 = (((((((((((((((((((((((A0.put (some 7) (.pointer (some ⟨rb, 0, none⟩))).put (some 8) (.int .i64 n)).put (some 9) (.agg #[.slice xa ram.length xc, .slice xb rom.length xd, .int .i64 bank])).put (some 10) (.pointer (some ⟨rb, 0, none⟩))).put (some 11) (.int .i64 a4)).put (some 12) (.pointer (some ⟨rb, 0, none⟩))).put (some 13) (.int .i64 x6)).put (some 14) (.int .i64 q7)).put (some 15) (.pointer (some ⟨rb, 0, none⟩))).put (some 16) (.int .i64 x9)).put (some 17) (.int .i64 q10)).put (some 18) (.slice (some ⟨b11, 0, none⟩) 3 3)).put (some 19) (.pointer (some ⟨rb, 0, none⟩))).put (some 20) (.int .i64 (k13 : Int))).put (some 21) (.pointer (some ⟨b11, k13, none⟩))).put (some 22) (.int .i64 p15)).put (some 23) (.pointer (some ⟨rb, 0, none⟩))).put (some 24) (.int .i64 x17)).put (some 25) (.bool c18)).put (some 26) (.pointer (some ⟨rb, 0, none⟩))).put (some 27) (.int .i64 y20)).put (some 28) (.agg #[.slice xa ram.length xc, .slice xb rom.length xd, .int .i64 bank, .int .i64 a4, .int .i64 p15, .bool c18, .slice none 0 0, .bool false, .int .i64 y20])).put (some 5) (.pointer (some ⟨b22, 0, none⟩))) ∧ Hid (PI rb (B + 1106) W0 L w1 W) ∧ Hid (MemA L w1 (.agg #[.slice xa ram.length xc, .slice xb rom.length xd, .int .i64 bank]) ram rom bank) ∧ Hid (ram.length ≤ 256) ∧ Hid (W0.heap.size ≤ L) ∧ Hid (L ≤ w1.heap.size) ∧ Hid (LitI rb 3 W b11) ∧ Hid (k13 < 3) ∧ Hid (y20 ≤ 1000) ∧ Hid (Zero9 rb W b22) ∧ Hid (rb < b22) ∧ Hid (W0.heap.size ≤ b22) ∧ Hid (b22 < L ∨ w1.heap.size ≤ b22)) ?_ (fun HD0 => ?_)
    · rintro act9 W ⟨L, w1, xa, xc, xb, xd, ram, rom, bank, a4, x6, q7, x9, q10, b11, k13, p15, x17, c18, y20, b22, rfl, hF, hMM, hr1, hL0, hL1, h11, hk13, hy20, h22, hr22, hw22, hl22⟩
      subst hA0
      have hlW := hF.out.rd.lt
      (try simp only [Act.put, List.setIfInBounds_toArray, List.set_cons_zero, List.set_cons_succ])
      refine wpAny_ready (rs := [23]) (by kernel_rfl) (by simp) ?_
      refine AllReady.cons (o := ({ dst := none, op := Op.store 28 (Operand.tmp 5) (Operand.tmp 28), type := 0, pos := "l20_draw.go:285", after := #[{ on := 22, ground := Ground.data }, { on := 21, ground := Ground.data }, { on := 20, ground := Ground.chain }, { on := 0, ground := Ground.phase }, { on := 1, ground := Ground.phase }, { on := 2, ground := Ground.phase }, { on := 3, ground := Ground.phase }, { on := 4, ground := Ground.phase }, { on := 5, ground := Ground.phase }, { on := 6, ground := Ground.phase }, { on := 7, ground := Ground.phase }, { on := 8, ground := Ground.phase }, { on := 9, ground := Ground.phase }, { on := 10, ground := Ground.phase }, { on := 11, ground := Ground.phase }, { on := 12, ground := Ground.phase }, { on := 13, ground := Ground.phase }, { on := 14, ground := Ground.phase }, { on := 15, ground := Ground.phase }, { on := 16, ground := Ground.phase }, { on := 17, ground := Ground.phase }, { on := 18, ground := Ground.phase }, { on := 19, ground := Ground.phase }, { on := 20, ground := Ground.phase }, { on := 21, ground := Ground.phase }, { on := 22, ground := Ground.phase }], guard := none } : Oper)) rfl (fun K hK => ?_) ?_
      · obtain ⟨t0, t1, t2, t3, t4, t5, t6, t7, t8, tf⟩ := id h22.out.1
        have tf0 := tf 0
        have tf1 := tf 1
        have tf2 := tf 2
        have tf3 := tf 3
        have tf4 := tf 4
        have tf5 := tf 5
        have tf6 := tf 6
        have tf7 := tf 7
        have tf8 := tf 8
        go_simp
        refine hK _ _ ?_
        clear hK K
        (try simp only [Act.put, List.setIfInBounds_toArray, List.set_cons_zero, List.set_cons_succ])
        refine wpAny_done (by kernel_rfl) ?_ _
        go_wp2_with fail
        go_meet
        exact ⟨b22, rfl, L, w1, _, _, ram, rom, bank, a4, p15, y20, c18, hMM.out, hr1.out, hF.out.set9 hl22.out hr22.out hw22.out, nine_set9 h22.out.1, hl22.out, hr22.out, hw22.out, hL0.out, hL1.out, hy20.out⟩
      exact AllReady.nil
    refine wpAny_pre 2 #[true, true, true, true, true, true, true, true, true, true, true, true, true, true, true, true, true, true, true, true, true, true, false, false] (fun act9 W => ∃ L : Nat, ∃ w1 : World, ∃ xa : Option Addr, ∃ xc : Nat, ∃ xb : Option Addr, ∃ xd : Nat, ∃ ram : List Int, ∃ rom : List (List Int), ∃ bank : Int, ∃ a4 : Int, ∃ x6 : Int, ∃ q7 : Int, ∃ x9 : Int, ∃ q10 : Int, ∃ b11 : Nat, ∃ k13 : Nat, ∃ p15 : Int, ∃ x17 : Int, ∃ c18 : Bool, ∃ y20 : Int, act9 = ((((((((((((((((((((((A0.put (some 7) (.pointer (some ⟨rb, 0, none⟩))).put (some 8) (.int .i64 n)).put (some 9) (.agg #[.slice xa ram.length xc, .slice xb rom.length xd, .int .i64 bank])).put (some 10) (.pointer (some ⟨rb, 0, none⟩))).put (some 11) (.int .i64 a4)).put (some 12) (.pointer (some ⟨rb, 0, none⟩))).put (some 13) (.int .i64 x6)).put (some 14) (.int .i64 q7)).put (some 15) (.pointer (some ⟨rb, 0, none⟩))).put (some 16) (.int .i64 x9)).put (some 17) (.int .i64 q10)).put (some 18) (.slice (some ⟨b11, 0, none⟩) 3 3)).put (some 19) (.pointer (some ⟨rb, 0, none⟩))).put (some 20) (.int .i64 (k13 : Int))).put (some 21) (.pointer (some ⟨b11, k13, none⟩))).put (some 22) (.int .i64 p15)).put (some 23) (.pointer (some ⟨rb, 0, none⟩))).put (some 24) (.int .i64 x17)).put (some 25) (.bool c18)).put (some 26) (.pointer (some ⟨rb, 0, none⟩))).put (some 27) (.int .i64 y20)).put (some 28) (.agg #[.slice xa ram.length xc, .slice xb rom.length xd, .int .i64 bank, .int .i64 a4, .int .i64 p15, .bool c18, .slice none 0 0, .bool false, .int .i64 y20])) ∧ Hid (PI rb (B + 1106) W0 L w1 W) ∧ Hid (MemA L w1 (.agg #[.slice xa ram.length xc, .slice xb rom.length xd, .int .i64 bank]) ram rom bank) ∧ Hid (ram.length ≤ 256) ∧ Hid (W0.heap.size ≤ L) ∧ Hid (L ≤ w1.heap.size) ∧ Hid (LitI rb 3 W b11) ∧ Hid (k13 < 3) ∧ Hid (y20 ≤ 1000)) ?_ (fun HD1 => ?_)
    · rintro act9 W ⟨L, w1, xa, xc, xb, xd, ram, rom, bank, a4, x6, q7, x9, q10, b11, k13, p15, x17, c18, y20, rfl, hF, hMM, hr1, hL0, hL1, h11, hk13, hy20⟩
      subst hA0
      have hlW := hF.out.rd.lt
      (try simp only [Act.put, List.setIfInBounds_toArray, List.set_cons_zero, List.set_cons_succ])
      refine wpAny_ready (rs := [22]) (by kernel_rfl) (by simp) ?_
      refine AllReady.cons (o := ({ dst := some 5, op := Op.alloc 28, type := 0, pos := "l20_draw.go:285", after := #[], guard := none } : Oper)) rfl (fun K hK => ?_) ?_
      · go_simp
        refine hK _ _ ?_
        clear hK K
        (try simp only [Act.put, List.setIfInBounds_toArray, List.set_cons_zero, List.set_cons_succ])
        refine wpAny_to (by kernel_rfl) (by kernel_rfl) (HD0.out _ _ ?_)
        apply Exists.intro
        apply Exists.intro
        apply Exists.intro
        apply Exists.intro
        apply Exists.intro
        apply Exists.intro
        apply Exists.intro
        apply Exists.intro
        apply Exists.intro
        apply Exists.intro
        apply Exists.intro
        apply Exists.intro
        apply Exists.intro
        apply Exists.intro
        apply Exists.intro
        apply Exists.intro
        apply Exists.intro
        apply Exists.intro
        apply Exists.intro
        apply Exists.intro
        apply Exists.intro
        refine ⟨?_, ?_, ?_, ?_, ?_, ?_, ?_, ?_, ?_, ?_, ?_, ?_, ?_⟩
        · (try simp only [Act.put, List.setIfInBounds_toArray, List.set_cons_zero, List.set_cons_succ]); (try rfl)
        · exact hF.out.alloc _
        · exact hMM.out
        · exact hr1.out
        · exact hL0.out
        · exact hL1.out
        · exact h11.out.alloc _
        · exact hk13.out
        · exact hy20.out
        · exact Zero9.new hlW
        · exact hlW
        · exact (by first | exact hF.out.keep.size | exact hF.out.kp.size)
        · exact .inr hF.out.sz
      exact AllReady.nil
    refine wpAny_pre 3 #[true, true, true, true, true, true, true, true, true, true, true, true, true, true, true, true, true, true, true, true, false, false, true, false] (fun act9 W => ∃ L : Nat, ∃ w1 : World, ∃ xa : Option Addr, ∃ xc : Nat, ∃ xb : Option Addr, ∃ xd : Nat, ∃ ram : List Int, ∃ rom : List (List Int), ∃ bank : Int, ∃ a4 : Int, ∃ x6 : Int, ∃ q7 : Int, ∃ x9 : Int, ∃ q10 : Int, ∃ b11 : Nat, ∃ k13 : Nat, ∃ p15 : Int, ∃ x17 : Int, ∃ c18 : Bool, ∃ b22 : Nat, act9 = (((((((((((((((((((((A0.put (some 7) (.pointer (some ⟨rb, 0, none⟩))).put (some 8) (.int .i64 n)).put (some 9) (.agg #[.slice xa ram.length xc, .slice xb rom.length xd, .int .i64 bank])).put (some 10) (.pointer (some ⟨rb, 0, none⟩))).put (some 11) (.int .i64 a4)).put (some 12) (.pointer (some ⟨rb, 0, none⟩))).put (some 13) (.int .i64 x6)).put (some 14) (.int .i64 q7)).put (some 15) (.pointer (some ⟨rb, 0, none⟩))).put (some 16) (.int .i64 x9)).put (some 17) (.int .i64 q10)).put (some 18) (.slice (some ⟨b11, 0, none⟩) 3 3)).put (some 19) (.pointer (some ⟨rb, 0, none⟩))).put (some 20) (.int .i64 (k13 : Int))).put (some 21) (.pointer (some ⟨b11, k13, none⟩))).put (some 22) (.int .i64 p15)).put (some 23) (.pointer (some ⟨rb, 0, none⟩))).put (some 24) (.int .i64 x17)).put (some 25) (.bool c18)).put (some 26) (.pointer (some ⟨rb, 0, none⟩))).put (some 5) (.pointer (some ⟨b22, 0, none⟩))) ∧ Hid (PI rb (B + 1105) W0 L w1 W) ∧ Hid (MemA L w1 (.agg #[.slice xa ram.length xc, .slice xb rom.length xd, .int .i64 bank]) ram rom bank) ∧ Hid (ram.length ≤ 256) ∧ Hid (W0.heap.size ≤ L) ∧ Hid (L ≤ w1.heap.size) ∧ Hid (LitI rb 3 W b11) ∧ Hid (k13 < 3) ∧ Hid (Zero9 rb W b22) ∧ Hid (rb < b22) ∧ Hid (W0.heap.size ≤ b22) ∧ Hid (b22 < L ∨ w1.heap.size ≤ b22)) ?_ (fun HD2 => ?_)
    · rintro act9 W ⟨L, w1, xa, xc, xb, xd, ram, rom, bank, a4, x6, q7, x9, q10, b11, k13, p15, x17, c18, b22, rfl, hF, hMM, hr1, hL0, hL1, h11, hk13, h22, hr22, hw22, hl22⟩
      subst hA0
      have hlW := hF.out.rd.lt
      (try simp only [Act.put, List.setIfInBounds_toArray, List.set_cons_zero, List.set_cons_succ])
      refine wpAny_ready (rs := [20]) (by kernel_rfl) (by simp) ?_
      refine AllReady.cons (o := ({ dst := some 27, op := Op.call { callee := Callee.value (Operand.func 12), args := #[Operand.tmp 26, Operand.const (Value.int IntKind.i64 100)], argTypes := #[36, 3] }, type := 3, pos := "l20_draw.go:285", after := #[{ on := 19, ground := Ground.data }, { on := 17, ground := Ground.chain }], guard := none } : Oper)) rfl (fun K hK => ?_) ?_
      · go_simp
        refine (pick (B := (B + 1105)) _ hF.out.rd (by omega)).mono ?_
        rintro e W' ⟨v20, rfl, ⟨y20, rfl, yy20, z20⟩, hR', hK'⟩
        have hy20 := Lib.hid (show y20 ≤ 1000 by omega)
        first | (refine hK _ _ ?_; clear hK K) | (go_wp2_with fail; (try (refine hK _ _ ?_)); (try clear hK K))
        (try simp only [Act.put, List.setIfInBounds_toArray, List.set_cons_zero, List.set_cons_succ])
        refine wpAny_take (i := 21) (oi := ({ dst := some 28, op := Op.build 28 #[(0, Operand.tmp 9), (1, Operand.tmp 11), (2, Operand.tmp 22), (3, Operand.tmp 25), (6, Operand.tmp 27)], type := 28, pos := "l20_draw.go:285", after := #[{ on := 2, ground := Ground.data }, { on := 4, ground := Ground.data }, { on := 15, ground := Ground.data }, { on := 18, ground := Ground.data }, { on := 20, ground := Ground.data }], guard := none } : Oper)) (v := ?_) rfl (by kernel_rfl) (by kernel_rfl) (by kernel_rfl) (fun _ _ _ h => h) (Or.inl ⟨by rfl, ?_⟩) ?_
        rotate_left
        · intro wq; go_simp; (try with_reducible rfl)
        (try simp only [Act.put, List.setIfInBounds_toArray, List.set_cons_zero, List.set_cons_succ])
        refine wpAny_to (by kernel_rfl) (by kernel_rfl) (HD0.out _ _ ?_)
        apply Exists.intro
        apply Exists.intro
        apply Exists.intro
        apply Exists.intro
        apply Exists.intro
        apply Exists.intro
        apply Exists.intro
        apply Exists.intro
        apply Exists.intro
        apply Exists.intro
        apply Exists.intro
        apply Exists.intro
        apply Exists.intro
        apply Exists.intro
        apply Exists.intro
        apply Exists.intro
        apply Exists.intro
        apply Exists.intro
        apply Exists.intro
        apply Exists.intro
        apply Exists.intro
        refine ⟨?_, ?_, ?_, ?_, ?_, ?_, ?_, ?_, ?_, ?_, ?_, ?_, ?_⟩
        · (try simp only [Act.put, List.setIfInBounds_toArray, List.set_cons_zero, List.set_cons_succ]); (try rfl)
        · exact hF.out.keep hK' hR'
        · exact hMM.out
        · exact hr1.out
        · exact hL0.out
        · exact hL1.out
        · exact h11.out.keep hK'
        · exact hk13.out
        · exact hy20.out
        · exact h22.out.keep hK'
        · exact hr22.out
        · exact hw22.out
        · exact hl22.out
      exact AllReady.nil
    refine wpAny_pre 3 #[true, true, true, true, true, true, true, true, true, true, true, true, true, true, true, false, true, true, true, true, true, false, true, false] (fun act9 W => ∃ L : Nat, ∃ w1 : World, ∃ xa : Option Addr, ∃ xc : Nat, ∃ xb : Option Addr, ∃ xd : Nat, ∃ ram : List Int, ∃ rom : List (List Int), ∃ bank : Int, ∃ a4 : Int, ∃ x6 : Int, ∃ q7 : Int, ∃ x9 : Int, ∃ q10 : Int, ∃ b11 : Nat, ∃ k13 : Nat, ∃ x17 : Int, ∃ c18 : Bool, ∃ y20 : Int, ∃ b22 : Nat, act9 = (((((((((((((((((((((A0.put (some 7) (.pointer (some ⟨rb, 0, none⟩))).put (some 8) (.int .i64 n)).put (some 9) (.agg #[.slice xa ram.length xc, .slice xb rom.length xd, .int .i64 bank])).put (some 10) (.pointer (some ⟨rb, 0, none⟩))).put (some 11) (.int .i64 a4)).put (some 12) (.pointer (some ⟨rb, 0, none⟩))).put (some 13) (.int .i64 x6)).put (some 14) (.int .i64 q7)).put (some 15) (.pointer (some ⟨rb, 0, none⟩))).put (some 16) (.int .i64 x9)).put (some 17) (.int .i64 q10)).put (some 18) (.slice (some ⟨b11, 0, none⟩) 3 3)).put (some 19) (.pointer (some ⟨rb, 0, none⟩))).put (some 20) (.int .i64 (k13 : Int))).put (some 21) (.pointer (some ⟨b11, k13, none⟩))).put (some 23) (.pointer (some ⟨rb, 0, none⟩))).put (some 24) (.int .i64 x17)).put (some 25) (.bool c18)).put (some 26) (.pointer (some ⟨rb, 0, none⟩))).put (some 27) (.int .i64 y20)).put (some 5) (.pointer (some ⟨b22, 0, none⟩))) ∧ Hid (PI rb (B + 1106) W0 L w1 W) ∧ Hid (MemA L w1 (.agg #[.slice xa ram.length xc, .slice xb rom.length xd, .int .i64 bank]) ram rom bank) ∧ Hid (ram.length ≤ 256) ∧ Hid (W0.heap.size ≤ L) ∧ Hid (L ≤ w1.heap.size) ∧ Hid (LitI rb 3 W b11) ∧ Hid (k13 < 3) ∧ Hid (y20 ≤ 1000) ∧ Hid (Zero9 rb W b22) ∧ Hid (rb < b22) ∧ Hid (W0.heap.size ≤ b22) ∧ Hid (b22 < L ∨ w1.heap.size ≤ b22)) ?_ (fun HD3 => ?_)
    · rintro act9 W ⟨L, w1, xa, xc, xb, xd, ram, rom, bank, a4, x6, q7, x9, q10, b11, k13, x17, c18, y20, b22, rfl, hF, hMM, hr1, hL0, hL1, h11, hk13, hy20, h22, hr22, hw22, hl22⟩
      subst hA0
      have hlW := hF.out.rd.lt
      (try simp only [Act.put, List.setIfInBounds_toArray, List.set_cons_zero, List.set_cons_succ])
      refine wpAny_ready (rs := [15]) (by kernel_rfl) (by simp) ?_
      refine AllReady.cons (o := ({ dst := some 22, op := Op.load 3 (Operand.tmp 21), type := 3, pos := "l20_draw.go:285", after := #[{ on := 14, ground := Ground.data }], guard := none } : Oper)) rfl (fun K hK => ?_) ?_
      · obtain ⟨p15, hc15⟩ := h11.out.2.2 k13 hk13.out
        go_simp
        refine hK _ _ ?_
        clear hK K
        (try simp only [Act.put, List.setIfInBounds_toArray, List.set_cons_zero, List.set_cons_succ])
        refine wpAny_take (i := 21) (oi := ({ dst := some 28, op := Op.build 28 #[(0, Operand.tmp 9), (1, Operand.tmp 11), (2, Operand.tmp 22), (3, Operand.tmp 25), (6, Operand.tmp 27)], type := 28, pos := "l20_draw.go:285", after := #[{ on := 2, ground := Ground.data }, { on := 4, ground := Ground.data }, { on := 15, ground := Ground.data }, { on := 18, ground := Ground.data }, { on := 20, ground := Ground.data }], guard := none } : Oper)) (v := ?_) rfl (by kernel_rfl) (by kernel_rfl) (by kernel_rfl) (fun _ _ _ h => h) (Or.inl ⟨by rfl, ?_⟩) ?_
        rotate_left
        · intro wq; go_simp; (try with_reducible rfl)
        (try simp only [Act.put, List.setIfInBounds_toArray, List.set_cons_zero, List.set_cons_succ])
        refine wpAny_to (by kernel_rfl) (by kernel_rfl) (HD0.out _ _ ?_)
        apply Exists.intro
        apply Exists.intro
        apply Exists.intro
        apply Exists.intro
        apply Exists.intro
        apply Exists.intro
        apply Exists.intro
        apply Exists.intro
        apply Exists.intro
        apply Exists.intro
        apply Exists.intro
        apply Exists.intro
        apply Exists.intro
        apply Exists.intro
        apply Exists.intro
        apply Exists.intro
        apply Exists.intro
        apply Exists.intro
        apply Exists.intro
        apply Exists.intro
        apply Exists.intro
        refine ⟨?_, ?_, ?_, ?_, ?_, ?_, ?_, ?_, ?_, ?_, ?_, ?_, ?_⟩
        · (try simp only [Act.put, List.setIfInBounds_toArray, List.set_cons_zero, List.set_cons_succ]); (try rfl)
        · exact hF.out
        · exact hMM.out
        · exact hr1.out
        · exact hL0.out
        · exact hL1.out
        · exact h11.out
        · exact hk13.out
        · exact hy20.out
        · exact h22.out
        · exact hr22.out
        · exact hw22.out
        · exact hl22.out
      exact AllReady.nil
    refine wpAny_pre 4 #[true, true, true, true, true, true, true, true, true, true, true, true, true, true, true, true, true, true, true, true, false, false, false, false] (fun act9 W => ∃ L : Nat, ∃ w1 : World, ∃ xa : Option Addr, ∃ xc : Nat, ∃ xb : Option Addr, ∃ xd : Nat, ∃ ram : List Int, ∃ rom : List (List Int), ∃ bank : Int, ∃ a4 : Int, ∃ x6 : Int, ∃ q7 : Int, ∃ x9 : Int, ∃ q10 : Int, ∃ b11 : Nat, ∃ k13 : Nat, ∃ p15 : Int, ∃ x17 : Int, ∃ c18 : Bool, act9 = ((((((((((((((((((((A0.put (some 7) (.pointer (some ⟨rb, 0, none⟩))).put (some 8) (.int .i64 n)).put (some 9) (.agg #[.slice xa ram.length xc, .slice xb rom.length xd, .int .i64 bank])).put (some 10) (.pointer (some ⟨rb, 0, none⟩))).put (some 11) (.int .i64 a4)).put (some 12) (.pointer (some ⟨rb, 0, none⟩))).put (some 13) (.int .i64 x6)).put (some 14) (.int .i64 q7)).put (some 15) (.pointer (some ⟨rb, 0, none⟩))).put (some 16) (.int .i64 x9)).put (some 17) (.int .i64 q10)).put (some 18) (.slice (some ⟨b11, 0, none⟩) 3 3)).put (some 19) (.pointer (some ⟨rb, 0, none⟩))).put (some 20) (.int .i64 (k13 : Int))).put (some 21) (.pointer (some ⟨b11, k13, none⟩))).put (some 22) (.int .i64 p15)).put (some 23) (.pointer (some ⟨rb, 0, none⟩))).put (some 24) (.int .i64 x17)).put (some 25) (.bool c18)).put (some 26) (.pointer (some ⟨rb, 0, none⟩))) ∧ Hid (PI rb (B + 1105) W0 L w1 W) ∧ Hid (MemA L w1 (.agg #[.slice xa ram.length xc, .slice xb rom.length xd, .int .i64 bank]) ram rom bank) ∧ Hid (ram.length ≤ 256) ∧ Hid (W0.heap.size ≤ L) ∧ Hid (L ≤ w1.heap.size) ∧ Hid (LitI rb 3 W b11) ∧ Hid (k13 < 3)) ?_ (fun HD4 => ?_)
    · rintro act9 W ⟨L, w1, xa, xc, xb, xd, ram, rom, bank, a4, x6, q7, x9, q10, b11, k13, p15, x17, c18, rfl, hF, hMM, hr1, hL0, hL1, h11, hk13⟩
      subst hA0
      have hlW := hF.out.rd.lt
      (try simp only [Act.put, List.setIfInBounds_toArray, List.set_cons_zero, List.set_cons_succ])
      refine wpAny_ready (rs := [20, 22]) (by kernel_rfl) (by simp) ?_
      refine AllReady.cons (o := ({ dst := some 27, op := Op.call { callee := Callee.value (Operand.func 12), args := #[Operand.tmp 26, Operand.const (Value.int IntKind.i64 100)], argTypes := #[36, 3] }, type := 3, pos := "l20_draw.go:285", after := #[{ on := 19, ground := Ground.data }, { on := 17, ground := Ground.chain }], guard := none } : Oper)) rfl (fun K hK => ?_) ?_
      · go_simp
        refine (pick (B := (B + 1105)) _ hF.out.rd (by omega)).mono ?_
        rintro e W' ⟨v20, rfl, ⟨y20, rfl, yy20, z20⟩, hR', hK'⟩
        have hy20 := Lib.hid (show y20 ≤ 1000 by omega)
        first | (refine hK _ _ ?_; clear hK K) | (go_wp2_with fail; (try (refine hK _ _ ?_)); (try clear hK K))
        (try simp only [Act.put, List.setIfInBounds_toArray, List.set_cons_zero, List.set_cons_succ])
        refine wpAny_take (i := 21) (oi := ({ dst := some 28, op := Op.build 28 #[(0, Operand.tmp 9), (1, Operand.tmp 11), (2, Operand.tmp 22), (3, Operand.tmp 25), (6, Operand.tmp 27)], type := 28, pos := "l20_draw.go:285", after := #[{ on := 2, ground := Ground.data }, { on := 4, ground := Ground.data }, { on := 15, ground := Ground.data }, { on := 18, ground := Ground.data }, { on := 20, ground := Ground.data }], guard := none } : Oper)) (v := ?_) rfl (by kernel_rfl) (by kernel_rfl) (by kernel_rfl) (fun _ _ _ h => h) (Or.inl ⟨by rfl, ?_⟩) ?_
        rotate_left
        · intro wq; go_simp; (try with_reducible rfl)
        (try simp only [Act.put, List.setIfInBounds_toArray, List.set_cons_zero, List.set_cons_succ])
        refine wpAny_to (by kernel_rfl) (by kernel_rfl) (HD1.out _ _ ?_)
        apply Exists.intro
        apply Exists.intro
        apply Exists.intro
        apply Exists.intro
        apply Exists.intro
        apply Exists.intro
        apply Exists.intro
        apply Exists.intro
        apply Exists.intro
        apply Exists.intro
        apply Exists.intro
        apply Exists.intro
        apply Exists.intro
        apply Exists.intro
        apply Exists.intro
        apply Exists.intro
        apply Exists.intro
        apply Exists.intro
        apply Exists.intro
        apply Exists.intro
        refine ⟨?_, ?_, ?_, ?_, ?_, ?_, ?_, ?_, ?_⟩
        · (try simp only [Act.put, List.setIfInBounds_toArray, List.set_cons_zero, List.set_cons_succ]); (try rfl)
        · exact hF.out.keep hK' hR'
        · exact hMM.out
        · exact hr1.out
        · exact hL0.out
        · exact hL1.out
        · exact h11.out.keep hK'
        · exact hk13.out
        · exact hy20.out
      refine AllReady.cons (o := ({ dst := some 5, op := Op.alloc 28, type := 0, pos := "l20_draw.go:285", after := #[], guard := none } : Oper)) rfl (fun K hK => ?_) ?_
      · go_simp
        refine hK _ _ ?_
        clear hK K
        (try simp only [Act.put, List.setIfInBounds_toArray, List.set_cons_zero, List.set_cons_succ])
        refine wpAny_to (by kernel_rfl) (by kernel_rfl) (HD2.out _ _ ?_)
        apply Exists.intro
        apply Exists.intro
        apply Exists.intro
        apply Exists.intro
        apply Exists.intro
        apply Exists.intro
        apply Exists.intro
        apply Exists.intro
        apply Exists.intro
        apply Exists.intro
        apply Exists.intro
        apply Exists.intro
        apply Exists.intro
        apply Exists.intro
        apply Exists.intro
        apply Exists.intro
        apply Exists.intro
        apply Exists.intro
        apply Exists.intro
        apply Exists.intro
        refine ⟨?_, ?_, ?_, ?_, ?_, ?_, ?_, ?_, ?_, ?_, ?_, ?_⟩
        · (try simp only [Act.put, List.setIfInBounds_toArray, List.set_cons_zero, List.set_cons_succ]); (try rfl)
        · exact hF.out.alloc _
        · exact hMM.out
        · exact hr1.out
        · exact hL0.out
        · exact hL1.out
        · exact h11.out.alloc _
        · exact hk13.out
        · exact Zero9.new hlW
        · exact hlW
        · exact (by first | exact hF.out.keep.size | exact hF.out.kp.size)
        · exact .inr hF.out.sz
      exact AllReady.nil
    refine wpAny_pre 4 #[true, true, true, true, true, true, true, true, true, true, true, true, true, true, true, false, true, true, true, true, true, false, false, false] (fun act9 W => ∃ L : Nat, ∃ w1 : World, ∃ xa : Option Addr, ∃ xc : Nat, ∃ xb : Option Addr, ∃ xd : Nat, ∃ ram : List Int, ∃ rom : List (List Int), ∃ bank : Int, ∃ a4 : Int, ∃ x6 : Int, ∃ q7 : Int, ∃ x9 : Int, ∃ q10 : Int, ∃ b11 : Nat, ∃ k13 : Nat, ∃ x17 : Int, ∃ c18 : Bool, ∃ y20 : Int, act9 = ((((((((((((((((((((A0.put (some 7) (.pointer (some ⟨rb, 0, none⟩))).put (some 8) (.int .i64 n)).put (some 9) (.agg #[.slice xa ram.length xc, .slice xb rom.length xd, .int .i64 bank])).put (some 10) (.pointer (some ⟨rb, 0, none⟩))).put (some 11) (.int .i64 a4)).put (some 12) (.pointer (some ⟨rb, 0, none⟩))).put (some 13) (.int .i64 x6)).put (some 14) (.int .i64 q7)).put (some 15) (.pointer (some ⟨rb, 0, none⟩))).put (some 16) (.int .i64 x9)).put (some 17) (.int .i64 q10)).put (some 18) (.slice (some ⟨b11, 0, none⟩) 3 3)).put (some 19) (.pointer (some ⟨rb, 0, none⟩))).put (some 20) (.int .i64 (k13 : Int))).put (some 21) (.pointer (some ⟨b11, k13, none⟩))).put (some 23) (.pointer (some ⟨rb, 0, none⟩))).put (some 24) (.int .i64 x17)).put (some 25) (.bool c18)).put (some 26) (.pointer (some ⟨rb, 0, none⟩))).put (some 27) (.int .i64 y20)) ∧ Hid (PI rb (B + 1106) W0 L w1 W) ∧ Hid (MemA L w1 (.agg #[.slice xa ram.length xc, .slice xb rom.length xd, .int .i64 bank]) ram rom bank) ∧ Hid (ram.length ≤ 256) ∧ Hid (W0.heap.size ≤ L) ∧ Hid (L ≤ w1.heap.size) ∧ Hid (LitI rb 3 W b11) ∧ Hid (k13 < 3) ∧ Hid (y20 ≤ 1000)) ?_ (fun HD5 => ?_)
    · rintro act9 W ⟨L, w1, xa, xc, xb, xd, ram, rom, bank, a4, x6, q7, x9, q10, b11, k13, x17, c18, y20, rfl, hF, hMM, hr1, hL0, hL1, h11, hk13, hy20⟩
      subst hA0
      have hlW := hF.out.rd.lt
      (try simp only [Act.put, List.setIfInBounds_toArray, List.set_cons_zero, List.set_cons_succ])
      refine wpAny_ready (rs := [15, 22]) (by kernel_rfl) (by simp) ?_
      refine AllReady.cons (o := ({ dst := some 22, op := Op.load 3 (Operand.tmp 21), type := 3, pos := "l20_draw.go:285", after := #[{ on := 14, ground := Ground.data }], guard := none } : Oper)) rfl (fun K hK => ?_) ?_
      · obtain ⟨p15, hc15⟩ := h11.out.2.2 k13 hk13.out
        go_simp
        refine hK _ _ ?_
        clear hK K
        (try simp only [Act.put, List.setIfInBounds_toArray, List.set_cons_zero, List.set_cons_succ])
        refine wpAny_take (i := 21) (oi := ({ dst := some 28, op := Op.build 28 #[(0, Operand.tmp 9), (1, Operand.tmp 11), (2, Operand.tmp 22), (3, Operand.tmp 25), (6, Operand.tmp 27)], type := 28, pos := "l20_draw.go:285", after := #[{ on := 2, ground := Ground.data }, { on := 4, ground := Ground.data }, { on := 15, ground := Ground.data }, { on := 18, ground := Ground.data }, { on := 20, ground := Ground.data }], guard := none } : Oper)) (v := ?_) rfl (by kernel_rfl) (by kernel_rfl) (by kernel_rfl) (fun _ _ _ h => h) (Or.inl ⟨by rfl, ?_⟩) ?_
        rotate_left
        · intro wq; go_simp; (try with_reducible rfl)
        (try simp only [Act.put, List.setIfInBounds_toArray, List.set_cons_zero, List.set_cons_succ])
        refine wpAny_to (by kernel_rfl) (by kernel_rfl) (HD1.out _ _ ?_)
        apply Exists.intro
        apply Exists.intro
        apply Exists.intro
        apply Exists.intro
        apply Exists.intro
        apply Exists.intro
        apply Exists.intro
        apply Exists.intro
        apply Exists.intro
        apply Exists.intro
        apply Exists.intro
        apply Exists.intro
        apply Exists.intro
        apply Exists.intro
        apply Exists.intro
        apply Exists.intro
        apply Exists.intro
        apply Exists.intro
        apply Exists.intro
        apply Exists.intro
        refine ⟨?_, ?_, ?_, ?_, ?_, ?_, ?_, ?_, ?_⟩
        · (try simp only [Act.put, List.setIfInBounds_toArray, List.set_cons_zero, List.set_cons_succ]); (try rfl)
        · exact hF.out
        · exact hMM.out
        · exact hr1.out
        · exact hL0.out
        · exact hL1.out
        · exact h11.out
        · exact hk13.out
        · exact hy20.out
      refine AllReady.cons (o := ({ dst := some 5, op := Op.alloc 28, type := 0, pos := "l20_draw.go:285", after := #[], guard := none } : Oper)) rfl (fun K hK => ?_) ?_
      · go_simp
        refine hK _ _ ?_
        clear hK K
        (try simp only [Act.put, List.setIfInBounds_toArray, List.set_cons_zero, List.set_cons_succ])
        refine wpAny_to (by kernel_rfl) (by kernel_rfl) (HD3.out _ _ ?_)
        apply Exists.intro
        apply Exists.intro
        apply Exists.intro
        apply Exists.intro
        apply Exists.intro
        apply Exists.intro
        apply Exists.intro
        apply Exists.intro
        apply Exists.intro
        apply Exists.intro
        apply Exists.intro
        apply Exists.intro
        apply Exists.intro
        apply Exists.intro
        apply Exists.intro
        apply Exists.intro
        apply Exists.intro
        apply Exists.intro
        apply Exists.intro
        apply Exists.intro
        refine ⟨?_, ?_, ?_, ?_, ?_, ?_, ?_, ?_, ?_, ?_, ?_, ?_, ?_⟩
        · (try simp only [Act.put, List.setIfInBounds_toArray, List.set_cons_zero, List.set_cons_succ]); (try rfl)
        · exact hF.out.alloc _
        · exact hMM.out
        · exact hr1.out
        · exact hL0.out
        · exact hL1.out
        · exact h11.out.alloc _
        · exact hk13.out
        · exact hy20.out
        · exact Zero9.new hlW
        · exact hlW
        · exact (by first | exact hF.out.keep.size | exact hF.out.kp.size)
        · exact .inr hF.out.sz
      exact AllReady.nil
    refine wpAny_pre 4 #[true, true, true, true, true, true, true, true, true, true, true, true, true, true, true, false, true, true, true, true, false, false, true, false] (fun act9 W => ∃ L : Nat, ∃ w1 : World, ∃ xa : Option Addr, ∃ xc : Nat, ∃ xb : Option Addr, ∃ xd : Nat, ∃ ram : List Int, ∃ rom : List (List Int), ∃ bank : Int, ∃ a4 : Int, ∃ x6 : Int, ∃ q7 : Int, ∃ x9 : Int, ∃ q10 : Int, ∃ b11 : Nat, ∃ k13 : Nat, ∃ x17 : Int, ∃ c18 : Bool, ∃ b22 : Nat, act9 = ((((((((((((((((((((A0.put (some 7) (.pointer (some ⟨rb, 0, none⟩))).put (some 8) (.int .i64 n)).put (some 9) (.agg #[.slice xa ram.length xc, .slice xb rom.length xd, .int .i64 bank])).put (some 10) (.pointer (some ⟨rb, 0, none⟩))).put (some 11) (.int .i64 a4)).put (some 12) (.pointer (some ⟨rb, 0, none⟩))).put (some 13) (.int .i64 x6)).put (some 14) (.int .i64 q7)).put (some 15) (.pointer (some ⟨rb, 0, none⟩))).put (some 16) (.int .i64 x9)).put (some 17) (.int .i64 q10)).put (some 18) (.slice (some ⟨b11, 0, none⟩) 3 3)).put (some 19) (.pointer (some ⟨rb, 0, none⟩))).put (some 20) (.int .i64 (k13 : Int))).put (some 21) (.pointer (some ⟨b11, k13, none⟩))).put (some 23) (.pointer (some ⟨rb, 0, none⟩))).put (some 24) (.int .i64 x17)).put (some 25) (.bool c18)).put (some 26) (.pointer (some ⟨rb, 0, none⟩))).put (some 5) (.pointer (some ⟨b22, 0, none⟩))) ∧ Hid (PI rb (B + 1105) W0 L w1 W) ∧ Hid (MemA L w1 (.agg #[.slice xa ram.length xc, .slice xb rom.length xd, .int .i64 bank]) ram rom bank) ∧ Hid (ram.length ≤ 256) ∧ Hid (W0.heap.size ≤ L) ∧ Hid (L ≤ w1.heap.size) ∧ Hid (LitI rb 3 W b11) ∧ Hid (k13 < 3) ∧ Hid (Zero9 rb W b22) ∧ Hid (rb < b22) ∧ Hid (W0.heap.size ≤ b22) ∧ Hid (b22 < L ∨ w1.heap.size ≤ b22)) ?_ (fun HD6 => ?_)
    · rintro act9 W ⟨L, w1, xa, xc, xb, xd, ram, rom, bank, a4, x6, q7, x9, q10, b11, k13, x17, c18, b22, rfl, hF, hMM, hr1, hL0, hL1, h11, hk13, h22, hr22, hw22, hl22⟩
      subst hA0
      have hlW := hF.out.rd.lt
      (try simp only [Act.put, List.setIfInBounds_toArray, List.set_cons_zero, List.set_cons_succ])
      refine wpAny_ready (rs := [15, 20]) (by kernel_rfl) (by simp) ?_
      refine AllReady.cons (o := ({ dst := some 22, op := Op.load 3 (Operand.tmp 21), type := 3, pos := "l20_draw.go:285", after := #[{ on := 14, ground := Ground.data }], guard := none } : Oper)) rfl (fun K hK => ?_) ?_
      · obtain ⟨p15, hc15⟩ := h11.out.2.2 k13 hk13.out
        go_simp
        refine hK _ _ ?_
        clear hK K
        (try simp only [Act.put, List.setIfInBounds_toArray, List.set_cons_zero, List.set_cons_succ])
        refine wpAny_to (by kernel_rfl) (by kernel_rfl) (HD2.out _ _ ?_)
        apply Exists.intro
        apply Exists.intro
        apply Exists.intro
        apply Exists.intro
        apply Exists.intro
        apply Exists.intro
        apply Exists.intro
        apply Exists.intro
        apply Exists.intro
        apply Exists.intro
        apply Exists.intro
        apply Exists.intro
        apply Exists.intro
        apply Exists.intro
        apply Exists.intro
        apply Exists.intro
        apply Exists.intro
        apply Exists.intro
        apply Exists.intro
        apply Exists.intro
        refine ⟨?_, ?_, ?_, ?_, ?_, ?_, ?_, ?_, ?_, ?_, ?_, ?_⟩
        · (try simp only [Act.put, List.setIfInBounds_toArray, List.set_cons_zero, List.set_cons_succ]); (try rfl)
        · exact hF.out
        · exact hMM.out
        · exact hr1.out
        · exact hL0.out
        · exact hL1.out
        · exact h11.out
        · exact hk13.out
        · exact h22.out
        · exact hr22.out
        · exact hw22.out
        · exact hl22.out
      refine AllReady.cons (o := ({ dst := some 27, op := Op.call { callee := Callee.value (Operand.func 12), args := #[Operand.tmp 26, Operand.const (Value.int IntKind.i64 100)], argTypes := #[36, 3] }, type := 3, pos := "l20_draw.go:285", after := #[{ on := 19, ground := Ground.data }, { on := 17, ground := Ground.chain }], guard := none } : Oper)) rfl (fun K hK => ?_) ?_
      · go_simp
        refine (pick (B := (B + 1105)) _ hF.out.rd (by omega)).mono ?_
        rintro e W' ⟨v20, rfl, ⟨y20, rfl, yy20, z20⟩, hR', hK'⟩
        have hy20 := Lib.hid (show y20 ≤ 1000 by omega)
        first | (refine hK _ _ ?_; clear hK K) | (go_wp2_with fail; (try (refine hK _ _ ?_)); (try clear hK K))
        (try simp only [Act.put, List.setIfInBounds_toArray, List.set_cons_zero, List.set_cons_succ])
        refine wpAny_to (by kernel_rfl) (by kernel_rfl) (HD3.out _ _ ?_)
        apply Exists.intro
        apply Exists.intro
        apply Exists.intro
        apply Exists.intro
        apply Exists.intro
        apply Exists.intro
        apply Exists.intro
        apply Exists.intro
        apply Exists.intro
        apply Exists.intro
        apply Exists.intro
        apply Exists.intro
        apply Exists.intro
        apply Exists.intro
        apply Exists.intro
        apply Exists.intro
        apply Exists.intro
        apply Exists.intro
        apply Exists.intro
        apply Exists.intro
        refine ⟨?_, ?_, ?_, ?_, ?_, ?_, ?_, ?_, ?_, ?_, ?_, ?_, ?_⟩
        · (try simp only [Act.put, List.setIfInBounds_toArray, List.set_cons_zero, List.set_cons_succ]); (try rfl)
        · exact hF.out.keep hK' hR'
        · exact hMM.out
        · exact hr1.out
        · exact hL0.out
        · exact hL1.out
        · exact h11.out.keep hK'
        · exact hk13.out
        · exact hy20.out
        · exact h22.out.keep hK'
        · exact hr22.out
        · exact hw22.out
        · exact hl22.out
      exact AllReady.nil
    refine wpAny_pre 5 #[true, true, true, true, true, true, true, true, true, true, true, true, true, true, true, true, true, false, false, true, false, false, true, false] (fun act9 W => ∃ L : Nat, ∃ w1 : World, ∃ xa : Option Addr, ∃ xc : Nat, ∃ xb : Option Addr, ∃ xd : Nat, ∃ ram : List Int, ∃ rom : List (List Int), ∃ bank : Int, ∃ a4 : Int, ∃ x6 : Int, ∃ q7 : Int, ∃ x9 : Int, ∃ q10 : Int, ∃ b11 : Nat, ∃ k13 : Nat, ∃ p15 : Int, ∃ b22 : Nat, act9 = (((((((((((((((((((A0.put (some 7) (.pointer (some ⟨rb, 0, none⟩))).put (some 8) (.int .i64 n)).put (some 9) (.agg #[.slice xa ram.length xc, .slice xb rom.length xd, .int .i64 bank])).put (some 10) (.pointer (some ⟨rb, 0, none⟩))).put (some 11) (.int .i64 a4)).put (some 12) (.pointer (some ⟨rb, 0, none⟩))).put (some 13) (.int .i64 x6)).put (some 14) (.int .i64 q7)).put (some 15) (.pointer (some ⟨rb, 0, none⟩))).put (some 16) (.int .i64 x9)).put (some 17) (.int .i64 q10)).put (some 18) (.slice (some ⟨b11, 0, none⟩) 3 3)).put (some 19) (.pointer (some ⟨rb, 0, none⟩))).put (some 20) (.int .i64 (k13 : Int))).put (some 21) (.pointer (some ⟨b11, k13, none⟩))).put (some 22) (.int .i64 p15)).put (some 23) (.pointer (some ⟨rb, 0, none⟩))).put (some 26) (.pointer (some ⟨rb, 0, none⟩))).put (some 5) (.pointer (some ⟨b22, 0, none⟩))) ∧ Hid (PI rb (B + 1104) W0 L w1 W) ∧ Hid (MemA L w1 (.agg #[.slice xa ram.length xc, .slice xb rom.length xd, .int .i64 bank]) ram rom bank) ∧ Hid (ram.length ≤ 256) ∧ Hid (W0.heap.size ≤ L) ∧ Hid (L ≤ w1.heap.size) ∧ Hid (LitI rb 3 W b11) ∧ Hid (k13 < 3) ∧ Hid (Zero9 rb W b22) ∧ Hid (rb < b22) ∧ Hid (W0.heap.size ≤ b22) ∧ Hid (b22 < L ∨ w1.heap.size ≤ b22)) ?_ (fun HD7 => ?_)
    · rintro act9 W ⟨L, w1, xa, xc, xb, xd, ram, rom, bank, a4, x6, q7, x9, q10, b11, k13, p15, b22, rfl, hF, hMM, hr1, hL0, hL1, h11, hk13, h22, hr22, hw22, hl22⟩
      subst hA0
      have hlW := hF.out.rd.lt
      (try simp only [Act.put, List.setIfInBounds_toArray, List.set_cons_zero, List.set_cons_succ])
      refine wpAny_ready (rs := [17]) (by kernel_rfl) (by simp) ?_
      refine AllReady.cons (o := ({ dst := some 24, op := Op.call { callee := Callee.value (Operand.func 12), args := #[Operand.tmp 23, Operand.const (Value.int IntKind.i64 2)], argTypes := #[36, 3] }, type := 3, pos := "l20_draw.go:285", after := #[{ on := 16, ground := Ground.data }, { on := 13, ground := Ground.chain }], guard := none } : Oper)) rfl (fun K hK => ?_) ?_
      · go_simp
        refine (pick (B := (B + 1104)) _ hF.out.rd (by omega)).mono ?_
        rintro e W' ⟨v17, rfl, ⟨x17, rfl, y17, z17⟩, hR', hK'⟩
        first | (refine hK _ _ ?_; clear hK K) | (go_wp2_with fail; (try (refine hK _ _ ?_)); (try clear hK K))
        (try simp only [Act.put, List.setIfInBounds_toArray, List.set_cons_zero, List.set_cons_succ])
        refine wpAny_take (i := 18) (oi := ({ dst := some 25, op := Op.binOp BinOp.eql 3 (Operand.tmp 24) (Operand.const (Value.int IntKind.i64 0)) 3, type := 4, pos := "l20_draw.go:285", after := #[{ on := 17, ground := Ground.data }], guard := none } : Oper)) (v := ?_) rfl (by kernel_rfl) (by kernel_rfl) (by kernel_rfl) (fun _ _ _ h => h) (Or.inl ⟨by rfl, ?_⟩) ?_
        rotate_left
        · intro wq; go_simp; (try with_reducible rfl)
        (try simp only [Act.put, List.setIfInBounds_toArray, List.set_cons_zero, List.set_cons_succ])
        refine wpAny_to (by kernel_rfl) (by kernel_rfl) (HD2.out _ _ ?_)
        apply Exists.intro
        apply Exists.intro
        apply Exists.intro
        apply Exists.intro
        apply Exists.intro
        apply Exists.intro
        apply Exists.intro
        apply Exists.intro
        apply Exists.intro
        apply Exists.intro
        apply Exists.intro
        apply Exists.intro
        apply Exists.intro
        apply Exists.intro
        apply Exists.intro
        apply Exists.intro
        apply Exists.intro
        apply Exists.intro
        apply Exists.intro
        apply Exists.intro
        refine ⟨?_, ?_, ?_, ?_, ?_, ?_, ?_, ?_, ?_, ?_, ?_, ?_⟩
        · (try simp only [Act.put, List.setIfInBounds_toArray, List.set_cons_zero, List.set_cons_succ]); (try rfl)
        · exact hF.out.keep hK' hR'
        · exact hMM.out
        · exact hr1.out
        · exact hL0.out
        · exact hL1.out
        · exact h11.out.keep hK'
        · exact hk13.out
        · exact h22.out.keep hK'
        · exact hr22.out
        · exact hw22.out
        · exact hl22.out
      exact AllReady.nil
    refine wpAny_pre 5 #[true, true, true, true, true, true, true, true, true, true, true, true, true, true, true, false, true, true, true, true, false, false, false, false] (fun act9 W => ∃ L : Nat, ∃ w1 : World, ∃ xa : Option Addr, ∃ xc : Nat, ∃ xb : Option Addr, ∃ xd : Nat, ∃ ram : List Int, ∃ rom : List (List Int), ∃ bank : Int, ∃ a4 : Int, ∃ x6 : Int, ∃ q7 : Int, ∃ x9 : Int, ∃ q10 : Int, ∃ b11 : Nat, ∃ k13 : Nat, ∃ x17 : Int, ∃ c18 : Bool, act9 = (((((((((((((((((((A0.put (some 7) (.pointer (some ⟨rb, 0, none⟩))).put (some 8) (.int .i64 n)).put (some 9) (.agg #[.slice xa ram.length xc, .slice xb rom.length xd, .int .i64 bank])).put (some 10) (.pointer (some ⟨rb, 0, none⟩))).put (some 11) (.int .i64 a4)).put (some 12) (.pointer (some ⟨rb, 0, none⟩))).put (some 13) (.int .i64 x6)).put (some 14) (.int .i64 q7)).put (some 15) (.pointer (some ⟨rb, 0, none⟩))).put (some 16) (.int .i64 x9)).put (some 17) (.int .i64 q10)).put (some 18) (.slice (some ⟨b11, 0, none⟩) 3 3)).put (some 19) (.pointer (some ⟨rb, 0, none⟩))).put (some 20) (.int .i64 (k13 : Int))).put (some 21) (.pointer (some ⟨b11, k13, none⟩))).put (some 23) (.pointer (some ⟨rb, 0, none⟩))).put (some 24) (.int .i64 x17)).put (some 25) (.bool c18)).put (some 26) (.pointer (some ⟨rb, 0, none⟩))) ∧ Hid (PI rb (B + 1105) W0 L w1 W) ∧ Hid (MemA L w1 (.agg #[.slice xa ram.length xc, .slice xb rom.length xd, .int .i64 bank]) ram rom bank) ∧ Hid (ram.length ≤ 256) ∧ Hid (W0.heap.size ≤ L) ∧ Hid (L ≤ w1.heap.size) ∧ Hid (LitI rb 3 W b11) ∧ Hid (k13 < 3)) ?_ (fun HD8 => ?_)
    · rintro act9 W ⟨L, w1, xa, xc, xb, xd, ram, rom, bank, a4, x6, q7, x9, q10, b11, k13, x17, c18, rfl, hF, hMM, hr1, hL0, hL1, h11, hk13⟩
      subst hA0
      have hlW := hF.out.rd.lt
      (try simp only [Act.put, List.setIfInBounds_toArray, List.set_cons_zero, List.set_cons_succ])
      refine wpAny_ready (rs := [15, 20, 22]) (by kernel_rfl) (by simp) ?_
      refine AllReady.cons (o := ({ dst := some 22, op := Op.load 3 (Operand.tmp 21), type := 3, pos := "l20_draw.go:285", after := #[{ on := 14, ground := Ground.data }], guard := none } : Oper)) rfl (fun K hK => ?_) ?_
      · obtain ⟨p15, hc15⟩ := h11.out.2.2 k13 hk13.out
        go_simp
        refine hK _ _ ?_
        clear hK K
        (try simp only [Act.put, List.setIfInBounds_toArray, List.set_cons_zero, List.set_cons_succ])
        refine wpAny_to (by kernel_rfl) (by kernel_rfl) (HD4.out _ _ ?_)
        apply Exists.intro
        apply Exists.intro
        apply Exists.intro
        apply Exists.intro
        apply Exists.intro
        apply Exists.intro
        apply Exists.intro
        apply Exists.intro
        apply Exists.intro
        apply Exists.intro
        apply Exists.intro
        apply Exists.intro
        apply Exists.intro
        apply Exists.intro
        apply Exists.intro
        apply Exists.intro
        apply Exists.intro
        apply Exists.intro
        apply Exists.intro
        refine ⟨?_, ?_, ?_, ?_, ?_, ?_, ?_, ?_⟩
        · (try simp only [Act.put, List.setIfInBounds_toArray, List.set_cons_zero, List.set_cons_succ]); (try rfl)
        · exact hF.out
        · exact hMM.out
        · exact hr1.out
        · exact hL0.out
        · exact hL1.out
        · exact h11.out
        · exact hk13.out
      refine AllReady.cons (o := ({ dst := some 27, op := Op.call { callee := Callee.value (Operand.func 12), args := #[Operand.tmp 26, Operand.const (Value.int IntKind.i64 100)], argTypes := #[36, 3] }, type := 3, pos := "l20_draw.go:285", after := #[{ on := 19, ground := Ground.data }, { on := 17, ground := Ground.chain }], guard := none } : Oper)) rfl (fun K hK => ?_) ?_
      · go_simp
        refine (pick (B := (B + 1105)) _ hF.out.rd (by omega)).mono ?_
        rintro e W' ⟨v20, rfl, ⟨y20, rfl, yy20, z20⟩, hR', hK'⟩
        have hy20 := Lib.hid (show y20 ≤ 1000 by omega)
        first | (refine hK _ _ ?_; clear hK K) | (go_wp2_with fail; (try (refine hK _ _ ?_)); (try clear hK K))
        (try simp only [Act.put, List.setIfInBounds_toArray, List.set_cons_zero, List.set_cons_succ])
        refine wpAny_to (by kernel_rfl) (by kernel_rfl) (HD5.out _ _ ?_)
        apply Exists.intro
        apply Exists.intro
        apply Exists.intro
        apply Exists.intro
        apply Exists.intro
        apply Exists.intro
        apply Exists.intro
        apply Exists.intro
        apply Exists.intro
        apply Exists.intro
        apply Exists.intro
        apply Exists.intro
        apply Exists.intro
        apply Exists.intro
        apply Exists.intro
        apply Exists.intro
        apply Exists.intro
        apply Exists.intro
        apply Exists.intro
        refine ⟨?_, ?_, ?_, ?_, ?_, ?_, ?_, ?_, ?_⟩
        · (try simp only [Act.put, List.setIfInBounds_toArray, List.set_cons_zero, List.set_cons_succ]); (try rfl)
        · exact hF.out.keep hK' hR'
        · exact hMM.out
        · exact hr1.out
        · exact hL0.out
        · exact hL1.out
        · exact h11.out.keep hK'
        · exact hk13.out
        · exact hy20.out
      refine AllReady.cons (o := ({ dst := some 5, op := Op.alloc 28, type := 0, pos := "l20_draw.go:285", after := #[], guard := none } : Oper)) rfl (fun K hK => ?_) ?_
      · go_simp
        refine hK _ _ ?_
        clear hK K
        (try simp only [Act.put, List.setIfInBounds_toArray, List.set_cons_zero, List.set_cons_succ])
        refine wpAny_to (by kernel_rfl) (by kernel_rfl) (HD6.out _ _ ?_)
        apply Exists.intro
        apply Exists.intro
        apply Exists.intro
        apply Exists.intro
        apply Exists.intro
        apply Exists.intro
        apply Exists.intro
        apply Exists.intro
        apply Exists.intro
        apply Exists.intro
        apply Exists.intro
        apply Exists.intro
        apply Exists.intro
        apply Exists.intro
        apply Exists.intro
        apply Exists.intro
        apply Exists.intro
        apply Exists.intro
        apply Exists.intro
        refine ⟨?_, ?_, ?_, ?_, ?_, ?_, ?_, ?_, ?_, ?_, ?_, ?_⟩
        · (try simp only [Act.put, List.setIfInBounds_toArray, List.set_cons_zero, List.set_cons_succ]); (try rfl)
        · exact hF.out.alloc _
        · exact hMM.out
        · exact hr1.out
        · exact hL0.out
        · exact hL1.out
        · exact h11.out.alloc _
        · exact hk13.out
        · exact Zero9.new hlW
        · exact hlW
        · exact (by first | exact hF.out.keep.size | exact hF.out.kp.size)
        · exact .inr hF.out.sz
      exact AllReady.nil
    refine wpAny_pre 5 #[true, true, true, true, true, true, true, true, true, true, true, false, true, true, false, false, true, true, true, true, true, false, true, false] (fun act9 W => ∃ L : Nat, ∃ w1 : World, ∃ xa : Option Addr, ∃ xc : Nat, ∃ xb : Option Addr, ∃ xd : Nat, ∃ ram : List Int, ∃ rom : List (List Int), ∃ bank : Int, ∃ a4 : Int, ∃ x6 : Int, ∃ q7 : Int, ∃ x9 : Int, ∃ q10 : Int, ∃ k13 : Nat, ∃ x17 : Int, ∃ c18 : Bool, ∃ y20 : Int, ∃ b22 : Nat, act9 = (((((((((((((((((((A0.put (some 7) (.pointer (some ⟨rb, 0, none⟩))).put (some 8) (.int .i64 n)).put (some 9) (.agg #[.slice xa ram.length xc, .slice xb rom.length xd, .int .i64 bank])).put (some 10) (.pointer (some ⟨rb, 0, none⟩))).put (some 11) (.int .i64 a4)).put (some 12) (.pointer (some ⟨rb, 0, none⟩))).put (some 13) (.int .i64 x6)).put (some 14) (.int .i64 q7)).put (some 15) (.pointer (some ⟨rb, 0, none⟩))).put (some 16) (.int .i64 x9)).put (some 17) (.int .i64 q10)).put (some 19) (.pointer (some ⟨rb, 0, none⟩))).put (some 20) (.int .i64 (k13 : Int))).put (some 23) (.pointer (some ⟨rb, 0, none⟩))).put (some 24) (.int .i64 x17)).put (some 25) (.bool c18)).put (some 26) (.pointer (some ⟨rb, 0, none⟩))).put (some 27) (.int .i64 y20)).put (some 5) (.pointer (some ⟨b22, 0, none⟩))) ∧ Hid (PI rb (B + 1106) W0 L w1 W) ∧ Hid (MemA L w1 (.agg #[.slice xa ram.length xc, .slice xb rom.length xd, .int .i64 bank]) ram rom bank) ∧ Hid (ram.length ≤ 256) ∧ Hid (W0.heap.size ≤ L) ∧ Hid (L ≤ w1.heap.size) ∧ Hid (k13 < 3) ∧ Hid (y20 ≤ 1000) ∧ Hid (Zero9 rb W b22) ∧ Hid (rb < b22) ∧ Hid (W0.heap.size ≤ b22) ∧ Hid (b22 < L ∨ w1.heap.size ≤ b22)) ?_ (fun HD9 => ?_)
    · rintro act9 W ⟨L, w1, xa, xc, xb, xd, ram, rom, bank, a4, x6, q7, x9, q10, k13, x17, c18, y20, b22, rfl, hF, hMM, hr1, hL0, hL1, hk13, hy20, h22, hr22, hw22, hl22⟩
      subst hA0
      have hlW := hF.out.rd.lt
      (try simp only [Act.put, List.setIfInBounds_toArray, List.set_cons_zero, List.set_cons_succ])
      refine wpAny_ready (rs := [11]) (by kernel_rfl) (by simp) ?_
      refine AllReady.cons (o := ({ dst := some 18, op := Op.buildSlice 23 3 #[(0, Operand.const (Value.int IntKind.i64 512)), (1, Operand.tmp 14), (2, Operand.tmp 17)], type := 23, pos := "l20_draw.go:285", after := #[{ on := 7, ground := Ground.data }, { on := 10, ground := Ground.data }], guard := none } : Oper)) rfl (fun K hK => ?_) ?_
      · go_simp
        refine hK _ _ ?_
        clear hK K
        (try simp only [Act.put, List.setIfInBounds_toArray, List.set_cons_zero, List.set_cons_succ])
        have hk13i : (k13 : Int) < 3 := by have := hk13.out; omega
        refine wpAny_take (i := 14) (oi := ({ dst := some 21, op := Op.indexAddr 23 (Operand.tmp 18) (Operand.tmp 20), type := 0, pos := "l20_draw.go:285", after := #[{ on := 11, ground := Ground.data }, { on := 13, ground := Ground.data }], guard := none } : Oper)) (v := ?_) rfl (by kernel_rfl) (by kernel_rfl) (by kernel_rfl) (fun _ _ _ h => h) (Or.inl ⟨by rfl, ?_⟩) ?_
        rotate_left
        · intro wq; go_simp; (try with_reducible rfl)
        (try simp only [Act.put, List.setIfInBounds_toArray, List.set_cons_zero, List.set_cons_succ])
        refine wpAny_to (by kernel_rfl) (by kernel_rfl) (HD3.out _ _ ?_)
        apply Exists.intro
        apply Exists.intro
        apply Exists.intro
        apply Exists.intro
        apply Exists.intro
        apply Exists.intro
        apply Exists.intro
        apply Exists.intro
        apply Exists.intro
        apply Exists.intro
        apply Exists.intro
        apply Exists.intro
        apply Exists.intro
        apply Exists.intro
        apply Exists.intro
        apply Exists.intro
        apply Exists.intro
        apply Exists.intro
        apply Exists.intro
        apply Exists.intro
        refine ⟨?_, ?_, ?_, ?_, ?_, ?_, ?_, ?_, ?_, ?_, ?_, ?_, ?_⟩
        · (try simp only [Act.put, List.setIfInBounds_toArray, List.set_cons_zero, List.set_cons_succ]); (try rfl)
        · exact hF.out.alloc _
        · exact hMM.out
        · exact hr1.out
        · exact hL0.out
        · exact hL1.out
        · exact LitI.new rfl rfl hlW
        · exact hk13.out
        · exact hy20.out
        · exact h22.out.alloc _
        · exact hr22.out
        · exact hw22.out
        · exact hl22.out
      exact AllReady.nil
    refine wpAny_pre 6 #[true, true, true, true, true, true, true, true, true, true, true, true, true, true, true, true, true, false, false, true, false, false, false, false] (fun act9 W => ∃ L : Nat, ∃ w1 : World, ∃ xa : Option Addr, ∃ xc : Nat, ∃ xb : Option Addr, ∃ xd : Nat, ∃ ram : List Int, ∃ rom : List (List Int), ∃ bank : Int, ∃ a4 : Int, ∃ x6 : Int, ∃ q7 : Int, ∃ x9 : Int, ∃ q10 : Int, ∃ b11 : Nat, ∃ k13 : Nat, ∃ p15 : Int, act9 = ((((((((((((((((((A0.put (some 7) (.pointer (some ⟨rb, 0, none⟩))).put (some 8) (.int .i64 n)).put (some 9) (.agg #[.slice xa ram.length xc, .slice xb rom.length xd, .int .i64 bank])).put (some 10) (.pointer (some ⟨rb, 0, none⟩))).put (some 11) (.int .i64 a4)).put (some 12) (.pointer (some ⟨rb, 0, none⟩))).put (some 13) (.int .i64 x6)).put (some 14) (.int .i64 q7)).put (some 15) (.pointer (some ⟨rb, 0, none⟩))).put (some 16) (.int .i64 x9)).put (some 17) (.int .i64 q10)).put (some 18) (.slice (some ⟨b11, 0, none⟩) 3 3)).put (some 19) (.pointer (some ⟨rb, 0, none⟩))).put (some 20) (.int .i64 (k13 : Int))).put (some 21) (.pointer (some ⟨b11, k13, none⟩))).put (some 22) (.int .i64 p15)).put (some 23) (.pointer (some ⟨rb, 0, none⟩))).put (some 26) (.pointer (some ⟨rb, 0, none⟩))) ∧ Hid (PI rb (B + 1104) W0 L w1 W) ∧ Hid (MemA L w1 (.agg #[.slice xa ram.length xc, .slice xb rom.length xd, .int .i64 bank]) ram rom bank) ∧ Hid (ram.length ≤ 256) ∧ Hid (W0.heap.size ≤ L) ∧ Hid (L ≤ w1.heap.size) ∧ Hid (LitI rb 3 W b11) ∧ Hid (k13 < 3)) ?_ (fun HD10 => ?_)
    · rintro act9 W ⟨L, w1, xa, xc, xb, xd, ram, rom, bank, a4, x6, q7, x9, q10, b11, k13, p15, rfl, hF, hMM, hr1, hL0, hL1, h11, hk13⟩
      subst hA0
      have hlW := hF.out.rd.lt
      (try simp only [Act.put, List.setIfInBounds_toArray, List.set_cons_zero, List.set_cons_succ])
      refine wpAny_ready (rs := [17, 22]) (by kernel_rfl) (by simp) ?_
      refine AllReady.cons (o := ({ dst := some 24, op := Op.call { callee := Callee.value (Operand.func 12), args := #[Operand.tmp 23, Operand.const (Value.int IntKind.i64 2)], argTypes := #[36, 3] }, type := 3, pos := "l20_draw.go:285", after := #[{ on := 16, ground := Ground.data }, { on := 13, ground := Ground.chain }], guard := none } : Oper)) rfl (fun K hK => ?_) ?_
      · go_simp
        refine (pick (B := (B + 1104)) _ hF.out.rd (by omega)).mono ?_
        rintro e W' ⟨v17, rfl, ⟨x17, rfl, y17, z17⟩, hR', hK'⟩
        first | (refine hK _ _ ?_; clear hK K) | (go_wp2_with fail; (try (refine hK _ _ ?_)); (try clear hK K))
        (try simp only [Act.put, List.setIfInBounds_toArray, List.set_cons_zero, List.set_cons_succ])
        refine wpAny_take (i := 18) (oi := ({ dst := some 25, op := Op.binOp BinOp.eql 3 (Operand.tmp 24) (Operand.const (Value.int IntKind.i64 0)) 3, type := 4, pos := "l20_draw.go:285", after := #[{ on := 17, ground := Ground.data }], guard := none } : Oper)) (v := ?_) rfl (by kernel_rfl) (by kernel_rfl) (by kernel_rfl) (fun _ _ _ h => h) (Or.inl ⟨by rfl, ?_⟩) ?_
        rotate_left
        · intro wq; go_simp; (try with_reducible rfl)
        (try simp only [Act.put, List.setIfInBounds_toArray, List.set_cons_zero, List.set_cons_succ])
        refine wpAny_to (by kernel_rfl) (by kernel_rfl) (HD4.out _ _ ?_)
        apply Exists.intro
        apply Exists.intro
        apply Exists.intro
        apply Exists.intro
        apply Exists.intro
        apply Exists.intro
        apply Exists.intro
        apply Exists.intro
        apply Exists.intro
        apply Exists.intro
        apply Exists.intro
        apply Exists.intro
        apply Exists.intro
        apply Exists.intro
        apply Exists.intro
        apply Exists.intro
        apply Exists.intro
        apply Exists.intro
        apply Exists.intro
        refine ⟨?_, ?_, ?_, ?_, ?_, ?_, ?_, ?_⟩
        · (try simp only [Act.put, List.setIfInBounds_toArray, List.set_cons_zero, List.set_cons_succ]); (try rfl)
        · exact hF.out.keep hK' hR'
        · exact hMM.out
        · exact hr1.out
        · exact hL0.out
        · exact hL1.out
        · exact h11.out.keep hK'
        · exact hk13.out
      refine AllReady.cons (o := ({ dst := some 5, op := Op.alloc 28, type := 0, pos := "l20_draw.go:285", after := #[], guard := none } : Oper)) rfl (fun K hK => ?_) ?_
      · go_simp
        refine hK _ _ ?_
        clear hK K
        (try simp only [Act.put, List.setIfInBounds_toArray, List.set_cons_zero, List.set_cons_succ])
        refine wpAny_to (by kernel_rfl) (by kernel_rfl) (HD7.out _ _ ?_)
        apply Exists.intro
        apply Exists.intro
        apply Exists.intro
        apply Exists.intro
        apply Exists.intro
        apply Exists.intro
        apply Exists.intro
        apply Exists.intro
        apply Exists.intro
        apply Exists.intro
        apply Exists.intro
        apply Exists.intro
        apply Exists.intro
        apply Exists.intro
        apply Exists.intro
        apply Exists.intro
        apply Exists.intro
        apply Exists.intro
        refine ⟨?_, ?_, ?_, ?_, ?_, ?_, ?_, ?_, ?_, ?_, ?_, ?_⟩
        · (try simp only [Act.put, List.setIfInBounds_toArray, List.set_cons_zero, List.set_cons_succ]); (try rfl)
        · exact hF.out.alloc _
        · exact hMM.out
        · exact hr1.out
        · exact hL0.out
        · exact hL1.out
        · exact h11.out.alloc _
        · exact hk13.out
        · exact Zero9.new hlW
        · exact hlW
        · exact (by first | exact hF.out.keep.size | exact hF.out.kp.size)
        · exact .inr hF.out.sz
      exact AllReady.nil
    refine wpAny_pre 6 #[true, true, true, true, true, true, true, true, true, true, true, true, true, true, true, false, true, false, false, true, false, false, true, false] (fun act9 W => ∃ L : Nat, ∃ w1 : World, ∃ xa : Option Addr, ∃ xc : Nat, ∃ xb : Option Addr, ∃ xd : Nat, ∃ ram : List Int, ∃ rom : List (List Int), ∃ bank : Int, ∃ a4 : Int, ∃ x6 : Int, ∃ q7 : Int, ∃ x9 : Int, ∃ q10 : Int, ∃ b11 : Nat, ∃ k13 : Nat, ∃ b22 : Nat, act9 = ((((((((((((((((((A0.put (some 7) (.pointer (some ⟨rb, 0, none⟩))).put (some 8) (.int .i64 n)).put (some 9) (.agg #[.slice xa ram.length xc, .slice xb rom.length xd, .int .i64 bank])).put (some 10) (.pointer (some ⟨rb, 0, none⟩))).put (some 11) (.int .i64 a4)).put (some 12) (.pointer (some ⟨rb, 0, none⟩))).put (some 13) (.int .i64 x6)).put (some 14) (.int .i64 q7)).put (some 15) (.pointer (some ⟨rb, 0, none⟩))).put (some 16) (.int .i64 x9)).put (some 17) (.int .i64 q10)).put (some 18) (.slice (some ⟨b11, 0, none⟩) 3 3)).put (some 19) (.pointer (some ⟨rb, 0, none⟩))).put (some 20) (.int .i64 (k13 : Int))).put (some 21) (.pointer (some ⟨b11, k13, none⟩))).put (some 23) (.pointer (some ⟨rb, 0, none⟩))).put (some 26) (.pointer (some ⟨rb, 0, none⟩))).put (some 5) (.pointer (some ⟨b22, 0, none⟩))) ∧ Hid (PI rb (B + 1104) W0 L w1 W) ∧ Hid (MemA L w1 (.agg #[.slice xa ram.length xc, .slice xb rom.length xd, .int .i64 bank]) ram rom bank) ∧ Hid (ram.length ≤ 256) ∧ Hid (W0.heap.size ≤ L) ∧ Hid (L ≤ w1.heap.size) ∧ Hid (LitI rb 3 W b11) ∧ Hid (k13 < 3) ∧ Hid (Zero9 rb W b22) ∧ Hid (rb < b22) ∧ Hid (W0.heap.size ≤ b22) ∧ Hid (b22 < L ∨ w1.heap.size ≤ b22)) ?_ (fun HD11 => ?_)
    · rintro act9 W ⟨L, w1, xa, xc, xb, xd, ram, rom, bank, a4, x6, q7, x9, q10, b11, k13, b22, rfl, hF, hMM, hr1, hL0, hL1, h11, hk13, h22, hr22, hw22, hl22⟩
      subst hA0
      have hlW := hF.out.rd.lt
      (try simp only [Act.put, List.setIfInBounds_toArray, List.set_cons_zero, List.set_cons_succ])
      refine wpAny_ready (rs := [15, 17]) (by kernel_rfl) (by simp) ?_
      refine AllReady.cons (o := ({ dst := some 22, op := Op.load 3 (Operand.tmp 21), type := 3, pos := "l20_draw.go:285", after := #[{ on := 14, ground := Ground.data }], guard := none } : Oper)) rfl (fun K hK => ?_) ?_
      · obtain ⟨p15, hc15⟩ := h11.out.2.2 k13 hk13.out
        go_simp
        refine hK _ _ ?_
        clear hK K
        (try simp only [Act.put, List.setIfInBounds_toArray, List.set_cons_zero, List.set_cons_succ])
        refine wpAny_to (by kernel_rfl) (by kernel_rfl) (HD7.out _ _ ?_)
        apply Exists.intro
        apply Exists.intro
        apply Exists.intro
        apply Exists.intro
        apply Exists.intro
        apply Exists.intro
        apply Exists.intro
        apply Exists.intro
        apply Exists.intro
        apply Exists.intro
        apply Exists.intro
        apply Exists.intro
        apply Exists.intro
        apply Exists.intro
        apply Exists.intro
        apply Exists.intro
        apply Exists.intro
        apply Exists.intro
        refine ⟨?_, ?_, ?_, ?_, ?_, ?_, ?_, ?_, ?_, ?_, ?_, ?_⟩
        · (try simp only [Act.put, List.setIfInBounds_toArray, List.set_cons_zero, List.set_cons_succ]); (try rfl)
        · exact hF.out
        · exact hMM.out
        · exact hr1.out
        · exact hL0.out
        · exact hL1.out
        · exact h11.out
        · exact hk13.out
        · exact h22.out
        · exact hr22.out
        · exact hw22.out
        · exact hl22.out
      refine AllReady.cons (o := ({ dst := some 24, op := Op.call { callee := Callee.value (Operand.func 12), args := #[Operand.tmp 23, Operand.const (Value.int IntKind.i64 2)], argTypes := #[36, 3] }, type := 3, pos := "l20_draw.go:285", after := #[{ on := 16, ground := Ground.data }, { on := 13, ground := Ground.chain }], guard := none } : Oper)) rfl (fun K hK => ?_) ?_
      · go_simp
        refine (pick (B := (B + 1104)) _ hF.out.rd (by omega)).mono ?_
        rintro e W' ⟨v17, rfl, ⟨x17, rfl, y17, z17⟩, hR', hK'⟩
        first | (refine hK _ _ ?_; clear hK K) | (go_wp2_with fail; (try (refine hK _ _ ?_)); (try clear hK K))
        (try simp only [Act.put, List.setIfInBounds_toArray, List.set_cons_zero, List.set_cons_succ])
        refine wpAny_take (i := 18) (oi := ({ dst := some 25, op := Op.binOp BinOp.eql 3 (Operand.tmp 24) (Operand.const (Value.int IntKind.i64 0)) 3, type := 4, pos := "l20_draw.go:285", after := #[{ on := 17, ground := Ground.data }], guard := none } : Oper)) (v := ?_) rfl (by kernel_rfl) (by kernel_rfl) (by kernel_rfl) (fun _ _ _ h => h) (Or.inl ⟨by rfl, ?_⟩) ?_
        rotate_left
        · intro wq; go_simp; (try with_reducible rfl)
        (try simp only [Act.put, List.setIfInBounds_toArray, List.set_cons_zero, List.set_cons_succ])
        refine wpAny_to (by kernel_rfl) (by kernel_rfl) (HD6.out _ _ ?_)
        apply Exists.intro
        apply Exists.intro
        apply Exists.intro
        apply Exists.intro
        apply Exists.intro
        apply Exists.intro
        apply Exists.intro
        apply Exists.intro
        apply Exists.intro
        apply Exists.intro
        apply Exists.intro
        apply Exists.intro
        apply Exists.intro
        apply Exists.intro
        apply Exists.intro
        apply Exists.intro
        apply Exists.intro
        apply Exists.intro
        apply Exists.intro
        refine ⟨?_, ?_, ?_, ?_, ?_, ?_, ?_, ?_, ?_, ?_, ?_, ?_⟩
        · (try simp only [Act.put, List.setIfInBounds_toArray, List.set_cons_zero, List.set_cons_succ]); (try rfl)
        · exact hF.out.keep hK' hR'
        · exact hMM.out
        · exact hr1.out
        · exact hL0.out
        · exact hL1.out
        · exact h11.out.keep hK'
        · exact hk13.out
        · exact h22.out.keep hK'
        · exact hr22.out
        · exact hw22.out
        · exact hl22.out
      exact AllReady.nil
    refine wpAny_pre 6 #[true, true, true, true, true, true, true, true, true, true, true, false, true, true, false, false, true, true, true, true, true, false, false, false] (fun act9 W => ∃ L : Nat, ∃ w1 : World, ∃ xa : Option Addr, ∃ xc : Nat, ∃ xb : Option Addr, ∃ xd : Nat, ∃ ram : List Int, ∃ rom : List (List Int), ∃ bank : Int, ∃ a4 : Int, ∃ x6 : Int, ∃ q7 : Int, ∃ x9 : Int, ∃ q10 : Int, ∃ k13 : Nat, ∃ x17 : Int, ∃ c18 : Bool, ∃ y20 : Int, act9 = ((((((((((((((((((A0.put (some 7) (.pointer (some ⟨rb, 0, none⟩))).put (some 8) (.int .i64 n)).put (some 9) (.agg #[.slice xa ram.length xc, .slice xb rom.length xd, .int .i64 bank])).put (some 10) (.pointer (some ⟨rb, 0, none⟩))).put (some 11) (.int .i64 a4)).put (some 12) (.pointer (some ⟨rb, 0, none⟩))).put (some 13) (.int .i64 x6)).put (some 14) (.int .i64 q7)).put (some 15) (.pointer (some ⟨rb, 0, none⟩))).put (some 16) (.int .i64 x9)).put (some 17) (.int .i64 q10)).put (some 19) (.pointer (some ⟨rb, 0, none⟩))).put (some 20) (.int .i64 (k13 : Int))).put (some 23) (.pointer (some ⟨rb, 0, none⟩))).put (some 24) (.int .i64 x17)).put (some 25) (.bool c18)).put (some 26) (.pointer (some ⟨rb, 0, none⟩))).put (some 27) (.int .i64 y20)) ∧ Hid (PI rb (B + 1106) W0 L w1 W) ∧ Hid (MemA L w1 (.agg #[.slice xa ram.length xc, .slice xb rom.length xd, .int .i64 bank]) ram rom bank) ∧ Hid (ram.length ≤ 256) ∧ Hid (W0.heap.size ≤ L) ∧ Hid (L ≤ w1.heap.size) ∧ Hid (k13 < 3) ∧ Hid (y20 ≤ 1000)) ?_ (fun HD12 => ?_)
    · rintro act9 W ⟨L, w1, xa, xc, xb, xd, ram, rom, bank, a4, x6, q7, x9, q10, k13, x17, c18, y20, rfl, hF, hMM, hr1, hL0, hL1, hk13, hy20⟩
      subst hA0
      have hlW := hF.out.rd.lt
      (try simp only [Act.put, List.setIfInBounds_toArray, List.set_cons_zero, List.set_cons_succ])
      refine wpAny_ready (rs := [11, 22]) (by kernel_rfl) (by simp) ?_
      refine AllReady.cons (o := ({ dst := some 18, op := Op.buildSlice 23 3 #[(0, Operand.const (Value.int IntKind.i64 512)), (1, Operand.tmp 14), (2, Operand.tmp 17)], type := 23, pos := "l20_draw.go:285", after := #[{ on := 7, ground := Ground.data }, { on := 10, ground := Ground.data }], guard := none } : Oper)) rfl (fun K hK => ?_) ?_
      · go_simp
        refine hK _ _ ?_
        clear hK K
        (try simp only [Act.put, List.setIfInBounds_toArray, List.set_cons_zero, List.set_cons_succ])
        have hk13i : (k13 : Int) < 3 := by have := hk13.out; omega
        refine wpAny_take (i := 14) (oi := ({ dst := some 21, op := Op.indexAddr 23 (Operand.tmp 18) (Operand.tmp 20), type := 0, pos := "l20_draw.go:285", after := #[{ on := 11, ground := Ground.data }, { on := 13, ground := Ground.data }], guard := none } : Oper)) (v := ?_) rfl (by kernel_rfl) (by kernel_rfl) (by kernel_rfl) (fun _ _ _ h => h) (Or.inl ⟨by rfl, ?_⟩) ?_
        rotate_left
        · intro wq; go_simp; (try with_reducible rfl)
        (try simp only [Act.put, List.setIfInBounds_toArray, List.set_cons_zero, List.set_cons_succ])
        refine wpAny_to (by kernel_rfl) (by kernel_rfl) (HD5.out _ _ ?_)
        apply Exists.intro
        apply Exists.intro
        apply Exists.intro
        apply Exists.intro
        apply Exists.intro
        apply Exists.intro
        apply Exists.intro
        apply Exists.intro
        apply Exists.intro
        apply Exists.intro
        apply Exists.intro
        apply Exists.intro
        apply Exists.intro
        apply Exists.intro
        apply Exists.intro
        apply Exists.intro
        apply Exists.intro
        apply Exists.intro
        apply Exists.intro
        refine ⟨?_, ?_, ?_, ?_, ?_, ?_, ?_, ?_, ?_⟩
        · (try simp only [Act.put, List.setIfInBounds_toArray, List.set_cons_zero, List.set_cons_succ]); (try rfl)
        · exact hF.out.alloc _
        · exact hMM.out
        · exact hr1.out
        · exact hL0.out
        · exact hL1.out
        · exact LitI.new rfl rfl hlW
        · exact hk13.out
        · exact hy20.out
      refine AllReady.cons (o := ({ dst := some 5, op := Op.alloc 28, type := 0, pos := "l20_draw.go:285", after := #[], guard := none } : Oper)) rfl (fun K hK => ?_) ?_
      · go_simp
        refine hK _ _ ?_
        clear hK K
        (try simp only [Act.put, List.setIfInBounds_toArray, List.set_cons_zero, List.set_cons_succ])
        refine wpAny_to (by kernel_rfl) (by kernel_rfl) (HD9.out _ _ ?_)
        apply Exists.intro
        apply Exists.intro
        apply Exists.intro
        apply Exists.intro
        apply Exists.intro
        apply Exists.intro
        apply Exists.intro
        apply Exists.intro
        apply Exists.intro
        apply Exists.intro
        apply Exists.intro
        apply Exists.intro
        apply Exists.intro
        apply Exists.intro
        apply Exists.intro
        apply Exists.intro
        apply Exists.intro
        apply Exists.intro
        apply Exists.intro
        refine ⟨?_, ?_, ?_, ?_, ?_, ?_, ?_, ?_, ?_, ?_, ?_, ?_⟩
        · (try simp only [Act.put, List.setIfInBounds_toArray, List.set_cons_zero, List.set_cons_succ]); (try rfl)
        · exact hF.out.alloc _
        · exact hMM.out
        · exact hr1.out
        · exact hL0.out
        · exact hL1.out
        · exact hk13.out
        · exact hy20.out
        · exact Zero9.new hlW
        · exact hlW
        · exact (by first | exact hF.out.keep.size | exact hF.out.kp.size)
        · exact .inr hF.out.sz
      exact AllReady.nil
    refine wpAny_pre 6 #[true, true, true, true, true, true, true, true, true, true, true, false, true, true, false, false, true, true, true, true, false, false, true, false] (fun act9 W => ∃ L : Nat, ∃ w1 : World, ∃ xa : Option Addr, ∃ xc : Nat, ∃ xb : Option Addr, ∃ xd : Nat, ∃ ram : List Int, ∃ rom : List (List Int), ∃ bank : Int, ∃ a4 : Int, ∃ x6 : Int, ∃ q7 : Int, ∃ x9 : Int, ∃ q10 : Int, ∃ k13 : Nat, ∃ x17 : Int, ∃ c18 : Bool, ∃ b22 : Nat, act9 = ((((((((((((((((((A0.put (some 7) (.pointer (some ⟨rb, 0, none⟩))).put (some 8) (.int .i64 n)).put (some 9) (.agg #[.slice xa ram.length xc, .slice xb rom.length xd, .int .i64 bank])).put (some 10) (.pointer (some ⟨rb, 0, none⟩))).put (some 11) (.int .i64 a4)).put (some 12) (.pointer (some ⟨rb, 0, none⟩))).put (some 13) (.int .i64 x6)).put (some 14) (.int .i64 q7)).put (some 15) (.pointer (some ⟨rb, 0, none⟩))).put (some 16) (.int .i64 x9)).put (some 17) (.int .i64 q10)).put (some 19) (.pointer (some ⟨rb, 0, none⟩))).put (some 20) (.int .i64 (k13 : Int))).put (some 23) (.pointer (some ⟨rb, 0, none⟩))).put (some 24) (.int .i64 x17)).put (some 25) (.bool c18)).put (some 26) (.pointer (some ⟨rb, 0, none⟩))).put (some 5) (.pointer (some ⟨b22, 0, none⟩))) ∧ Hid (PI rb (B + 1105) W0 L w1 W) ∧ Hid (MemA L w1 (.agg #[.slice xa ram.length xc, .slice xb rom.length xd, .int .i64 bank]) ram rom bank) ∧ Hid (ram.length ≤ 256) ∧ Hid (W0.heap.size ≤ L) ∧ Hid (L ≤ w1.heap.size) ∧ Hid (k13 < 3) ∧ Hid (Zero9 rb W b22) ∧ Hid (rb < b22) ∧ Hid (W0.heap.size ≤ b22) ∧ Hid (b22 < L ∨ w1.heap.size ≤ b22)) ?_ (fun HD13 => ?_)
    · rintro act9 W ⟨L, w1, xa, xc, xb, xd, ram, rom, bank, a4, x6, q7, x9, q10, k13, x17, c18, b22, rfl, hF, hMM, hr1, hL0, hL1, hk13, h22, hr22, hw22, hl22⟩
      subst hA0
      have hlW := hF.out.rd.lt
      (try simp only [Act.put, List.setIfInBounds_toArray, List.set_cons_zero, List.set_cons_succ])
      refine wpAny_ready (rs := [11, 20]) (by kernel_rfl) (by simp) ?_
      refine AllReady.cons (o := ({ dst := some 18, op := Op.buildSlice 23 3 #[(0, Operand.const (Value.int IntKind.i64 512)), (1, Operand.tmp 14), (2, Operand.tmp 17)], type := 23, pos := "l20_draw.go:285", after := #[{ on := 7, ground := Ground.data }, { on := 10, ground := Ground.data }], guard := none } : Oper)) rfl (fun K hK => ?_) ?_
      · go_simp
        refine hK _ _ ?_
        clear hK K
        (try simp only [Act.put, List.setIfInBounds_toArray, List.set_cons_zero, List.set_cons_succ])
        have hk13i : (k13 : Int) < 3 := by have := hk13.out; omega
        refine wpAny_take (i := 14) (oi := ({ dst := some 21, op := Op.indexAddr 23 (Operand.tmp 18) (Operand.tmp 20), type := 0, pos := "l20_draw.go:285", after := #[{ on := 11, ground := Ground.data }, { on := 13, ground := Ground.data }], guard := none } : Oper)) (v := ?_) rfl (by kernel_rfl) (by kernel_rfl) (by kernel_rfl) (fun _ _ _ h => h) (Or.inl ⟨by rfl, ?_⟩) ?_
        rotate_left
        · intro wq; go_simp; (try with_reducible rfl)
        (try simp only [Act.put, List.setIfInBounds_toArray, List.set_cons_zero, List.set_cons_succ])
        refine wpAny_to (by kernel_rfl) (by kernel_rfl) (HD6.out _ _ ?_)
        apply Exists.intro
        apply Exists.intro
        apply Exists.intro
        apply Exists.intro
        apply Exists.intro
        apply Exists.intro
        apply Exists.intro
        apply Exists.intro
        apply Exists.intro
        apply Exists.intro
        apply Exists.intro
        apply Exists.intro
        apply Exists.intro
        apply Exists.intro
        apply Exists.intro
        apply Exists.intro
        apply Exists.intro
        apply Exists.intro
        apply Exists.intro
        refine ⟨?_, ?_, ?_, ?_, ?_, ?_, ?_, ?_, ?_, ?_, ?_, ?_⟩
        · (try simp only [Act.put, List.setIfInBounds_toArray, List.set_cons_zero, List.set_cons_succ]); (try rfl)
        · exact hF.out.alloc _
        · exact hMM.out
        · exact hr1.out
        · exact hL0.out
        · exact hL1.out
        · exact LitI.new rfl rfl hlW
        · exact hk13.out
        · exact h22.out.alloc _
        · exact hr22.out
        · exact hw22.out
        · exact hl22.out
      refine AllReady.cons (o := ({ dst := some 27, op := Op.call { callee := Callee.value (Operand.func 12), args := #[Operand.tmp 26, Operand.const (Value.int IntKind.i64 100)], argTypes := #[36, 3] }, type := 3, pos := "l20_draw.go:285", after := #[{ on := 19, ground := Ground.data }, { on := 17, ground := Ground.chain }], guard := none } : Oper)) rfl (fun K hK => ?_) ?_
      · go_simp
        refine (pick (B := (B + 1105)) _ hF.out.rd (by omega)).mono ?_
        rintro e W' ⟨v20, rfl, ⟨y20, rfl, yy20, z20⟩, hR', hK'⟩
        have hy20 := Lib.hid (show y20 ≤ 1000 by omega)
        first | (refine hK _ _ ?_; clear hK K) | (go_wp2_with fail; (try (refine hK _ _ ?_)); (try clear hK K))
        (try simp only [Act.put, List.setIfInBounds_toArray, List.set_cons_zero, List.set_cons_succ])
        refine wpAny_to (by kernel_rfl) (by kernel_rfl) (HD9.out _ _ ?_)
        apply Exists.intro
        apply Exists.intro
        apply Exists.intro
        apply Exists.intro
        apply Exists.intro
        apply Exists.intro
        apply Exists.intro
        apply Exists.intro
        apply Exists.intro
        apply Exists.intro
        apply Exists.intro
        apply Exists.intro
        apply Exists.intro
        apply Exists.intro
        apply Exists.intro
        apply Exists.intro
        apply Exists.intro
        apply Exists.intro
        apply Exists.intro
        refine ⟨?_, ?_, ?_, ?_, ?_, ?_, ?_, ?_, ?_, ?_, ?_, ?_⟩
        · (try simp only [Act.put, List.setIfInBounds_toArray, List.set_cons_zero, List.set_cons_succ]); (try rfl)
        · exact hF.out.keep hK' hR'
        · exact hMM.out
        · exact hr1.out
        · exact hL0.out
        · exact hL1.out
        · exact hk13.out
        · exact hy20.out
        · exact h22.out.keep hK'
        · exact hr22.out
        · exact hw22.out
        · exact hl22.out
      exact AllReady.nil
    refine wpAny_pre 7 #[true, true, true, true, true, true, true, true, true, true, true, true, true, true, true, false, true, false, false, true, false, false, false, false] (fun act9 W => ∃ L : Nat, ∃ w1 : World, ∃ xa : Option Addr, ∃ xc : Nat, ∃ xb : Option Addr, ∃ xd : Nat, ∃ ram : List Int, ∃ rom : List (List Int), ∃ bank : Int, ∃ a4 : Int, ∃ x6 : Int, ∃ q7 : Int, ∃ x9 : Int, ∃ q10 : Int, ∃ b11 : Nat, ∃ k13 : Nat, act9 = (((((((((((((((((A0.put (some 7) (.pointer (some ⟨rb, 0, none⟩))).put (some 8) (.int .i64 n)).put (some 9) (.agg #[.slice xa ram.length xc, .slice xb rom.length xd, .int .i64 bank])).put (some 10) (.pointer (some ⟨rb, 0, none⟩))).put (some 11) (.int .i64 a4)).put (some 12) (.pointer (some ⟨rb, 0, none⟩))).put (some 13) (.int .i64 x6)).put (some 14) (.int .i64 q7)).put (some 15) (.pointer (some ⟨rb, 0, none⟩))).put (some 16) (.int .i64 x9)).put (some 17) (.int .i64 q10)).put (some 18) (.slice (some ⟨b11, 0, none⟩) 3 3)).put (some 19) (.pointer (some ⟨rb, 0, none⟩))).put (some 20) (.int .i64 (k13 : Int))).put (some 21) (.pointer (some ⟨b11, k13, none⟩))).put (some 23) (.pointer (some ⟨rb, 0, none⟩))).put (some 26) (.pointer (some ⟨rb, 0, none⟩))) ∧ Hid (PI rb (B + 1104) W0 L w1 W) ∧ Hid (MemA L w1 (.agg #[.slice xa ram.length xc, .slice xb rom.length xd, .int .i64 bank]) ram rom bank) ∧ Hid (ram.length ≤ 256) ∧ Hid (W0.heap.size ≤ L) ∧ Hid (L ≤ w1.heap.size) ∧ Hid (LitI rb 3 W b11) ∧ Hid (k13 < 3)) ?_ (fun HD14 => ?_)
    · rintro act9 W ⟨L, w1, xa, xc, xb, xd, ram, rom, bank, a4, x6, q7, x9, q10, b11, k13, rfl, hF, hMM, hr1, hL0, hL1, h11, hk13⟩
      subst hA0
      have hlW := hF.out.rd.lt
      (try simp only [Act.put, List.setIfInBounds_toArray, List.set_cons_zero, List.set_cons_succ])
      refine wpAny_ready (rs := [15, 17, 22]) (by kernel_rfl) (by simp) ?_
      refine AllReady.cons (o := ({ dst := some 22, op := Op.load 3 (Operand.tmp 21), type := 3, pos := "l20_draw.go:285", after := #[{ on := 14, ground := Ground.data }], guard := none } : Oper)) rfl (fun K hK => ?_) ?_
      · obtain ⟨p15, hc15⟩ := h11.out.2.2 k13 hk13.out
        go_simp
        refine hK _ _ ?_
        clear hK K
        (try simp only [Act.put, List.setIfInBounds_toArray, List.set_cons_zero, List.set_cons_succ])
        refine wpAny_to (by kernel_rfl) (by kernel_rfl) (HD10.out _ _ ?_)
        apply Exists.intro
        apply Exists.intro
        apply Exists.intro
        apply Exists.intro
        apply Exists.intro
        apply Exists.intro
        apply Exists.intro
        apply Exists.intro
        apply Exists.intro
        apply Exists.intro
        apply Exists.intro
        apply Exists.intro
        apply Exists.intro
        apply Exists.intro
        apply Exists.intro
        apply Exists.intro
        apply Exists.intro
        refine ⟨?_, ?_, ?_, ?_, ?_, ?_, ?_, ?_⟩
        · (try simp only [Act.put, List.setIfInBounds_toArray, List.set_cons_zero, List.set_cons_succ]); (try rfl)
        · exact hF.out
        · exact hMM.out
        · exact hr1.out
        · exact hL0.out
        · exact hL1.out
        · exact h11.out
        · exact hk13.out
      refine AllReady.cons (o := ({ dst := some 24, op := Op.call { callee := Callee.value (Operand.func 12), args := #[Operand.tmp 23, Operand.const (Value.int IntKind.i64 2)], argTypes := #[36, 3] }, type := 3, pos := "l20_draw.go:285", after := #[{ on := 16, ground := Ground.data }, { on := 13, ground := Ground.chain }], guard := none } : Oper)) rfl (fun K hK => ?_) ?_
      · go_simp
        refine (pick (B := (B + 1104)) _ hF.out.rd (by omega)).mono ?_
        rintro e W' ⟨v17, rfl, ⟨x17, rfl, y17, z17⟩, hR', hK'⟩
        first | (refine hK _ _ ?_; clear hK K) | (go_wp2_with fail; (try (refine hK _ _ ?_)); (try clear hK K))
        (try simp only [Act.put, List.setIfInBounds_toArray, List.set_cons_zero, List.set_cons_succ])
        refine wpAny_take (i := 18) (oi := ({ dst := some 25, op := Op.binOp BinOp.eql 3 (Operand.tmp 24) (Operand.const (Value.int IntKind.i64 0)) 3, type := 4, pos := "l20_draw.go:285", after := #[{ on := 17, ground := Ground.data }], guard := none } : Oper)) (v := ?_) rfl (by kernel_rfl) (by kernel_rfl) (by kernel_rfl) (fun _ _ _ h => h) (Or.inl ⟨by rfl, ?_⟩) ?_
        rotate_left
        · intro wq; go_simp; (try with_reducible rfl)
        (try simp only [Act.put, List.setIfInBounds_toArray, List.set_cons_zero, List.set_cons_succ])
        refine wpAny_to (by kernel_rfl) (by kernel_rfl) (HD8.out _ _ ?_)
        apply Exists.intro
        apply Exists.intro
        apply Exists.intro
        apply Exists.intro
        apply Exists.intro
        apply Exists.intro
        apply Exists.intro
        apply Exists.intro
        apply Exists.intro
        apply Exists.intro
        apply Exists.intro
        apply Exists.intro
        apply Exists.intro
        apply Exists.intro
        apply Exists.intro
        apply Exists.intro
        apply Exists.intro
        apply Exists.intro
        refine ⟨?_, ?_, ?_, ?_, ?_, ?_, ?_, ?_⟩
        · (try simp only [Act.put, List.setIfInBounds_toArray, List.set_cons_zero, List.set_cons_succ]); (try rfl)
        · exact hF.out.keep hK' hR'
        · exact hMM.out
        · exact hr1.out
        · exact hL0.out
        · exact hL1.out
        · exact h11.out.keep hK'
        · exact hk13.out
      refine AllReady.cons (o := ({ dst := some 5, op := Op.alloc 28, type := 0, pos := "l20_draw.go:285", after := #[], guard := none } : Oper)) rfl (fun K hK => ?_) ?_
      · go_simp
        refine hK _ _ ?_
        clear hK K
        (try simp only [Act.put, List.setIfInBounds_toArray, List.set_cons_zero, List.set_cons_succ])
        refine wpAny_to (by kernel_rfl) (by kernel_rfl) (HD11.out _ _ ?_)
        apply Exists.intro
        apply Exists.intro
        apply Exists.intro
        apply Exists.intro
        apply Exists.intro
        apply Exists.intro
        apply Exists.intro
        apply Exists.intro
        apply Exists.intro
        apply Exists.intro
        apply Exists.intro
        apply Exists.intro
        apply Exists.intro
        apply Exists.intro
        apply Exists.intro
        apply Exists.intro
        apply Exists.intro
        refine ⟨?_, ?_, ?_, ?_, ?_, ?_, ?_, ?_, ?_, ?_, ?_, ?_⟩
        · (try simp only [Act.put, List.setIfInBounds_toArray, List.set_cons_zero, List.set_cons_succ]); (try rfl)
        · exact hF.out.alloc _
        · exact hMM.out
        · exact hr1.out
        · exact hL0.out
        · exact hL1.out
        · exact h11.out.alloc _
        · exact hk13.out
        · exact Zero9.new hlW
        · exact hlW
        · exact (by first | exact hF.out.keep.size | exact hF.out.kp.size)
        · exact .inr hF.out.sz
      exact AllReady.nil
    refine wpAny_pre 7 #[true, true, true, true, true, true, true, true, true, true, true, false, true, true, false, false, true, true, true, true, false, false, false, false] (fun act9 W => ∃ L : Nat, ∃ w1 : World, ∃ xa : Option Addr, ∃ xc : Nat, ∃ xb : Option Addr, ∃ xd : Nat, ∃ ram : List Int, ∃ rom : List (List Int), ∃ bank : Int, ∃ a4 : Int, ∃ x6 : Int, ∃ q7 : Int, ∃ x9 : Int, ∃ q10 : Int, ∃ k13 : Nat, ∃ x17 : Int, ∃ c18 : Bool, act9 = (((((((((((((((((A0.put (some 7) (.pointer (some ⟨rb, 0, none⟩))).put (some 8) (.int .i64 n)).put (some 9) (.agg #[.slice xa ram.length xc, .slice xb rom.length xd, .int .i64 bank])).put (some 10) (.pointer (some ⟨rb, 0, none⟩))).put (some 11) (.int .i64 a4)).put (some 12) (.pointer (some ⟨rb, 0, none⟩))).put (some 13) (.int .i64 x6)).put (some 14) (.int .i64 q7)).put (some 15) (.pointer (some ⟨rb, 0, none⟩))).put (some 16) (.int .i64 x9)).put (some 17) (.int .i64 q10)).put (some 19) (.pointer (some ⟨rb, 0, none⟩))).put (some 20) (.int .i64 (k13 : Int))).put (some 23) (.pointer (some ⟨rb, 0, none⟩))).put (some 24) (.int .i64 x17)).put (some 25) (.bool c18)).put (some 26) (.pointer (some ⟨rb, 0, none⟩))) ∧ Hid (PI rb (B + 1105) W0 L w1 W) ∧ Hid (MemA L w1 (.agg #[.slice xa ram.length xc, .slice xb rom.length xd, .int .i64 bank]) ram rom bank) ∧ Hid (ram.length ≤ 256) ∧ Hid (W0.heap.size ≤ L) ∧ Hid (L ≤ w1.heap.size) ∧ Hid (k13 < 3)) ?_ (fun HD15 => ?_)
    · rintro act9 W ⟨L, w1, xa, xc, xb, xd, ram, rom, bank, a4, x6, q7, x9, q10, k13, x17, c18, rfl, hF, hMM, hr1, hL0, hL1, hk13⟩
      subst hA0
      have hlW := hF.out.rd.lt
      (try simp only [Act.put, List.setIfInBounds_toArray, List.set_cons_zero, List.set_cons_succ])
      refine wpAny_ready (rs := [11, 20, 22]) (by kernel_rfl) (by simp) ?_
      refine AllReady.cons (o := ({ dst := some 18, op := Op.buildSlice 23 3 #[(0, Operand.const (Value.int IntKind.i64 512)), (1, Operand.tmp 14), (2, Operand.tmp 17)], type := 23, pos := "l20_draw.go:285", after := #[{ on := 7, ground := Ground.data }, { on := 10, ground := Ground.data }], guard := none } : Oper)) rfl (fun K hK => ?_) ?_
      · go_simp
        refine hK _ _ ?_
        clear hK K
        (try simp only [Act.put, List.setIfInBounds_toArray, List.set_cons_zero, List.set_cons_succ])
        have hk13i : (k13 : Int) < 3 := by have := hk13.out; omega
        refine wpAny_take (i := 14) (oi := ({ dst := some 21, op := Op.indexAddr 23 (Operand.tmp 18) (Operand.tmp 20), type := 0, pos := "l20_draw.go:285", after := #[{ on := 11, ground := Ground.data }, { on := 13, ground := Ground.data }], guard := none } : Oper)) (v := ?_) rfl (by kernel_rfl) (by kernel_rfl) (by kernel_rfl) (fun _ _ _ h => h) (Or.inl ⟨by rfl, ?_⟩) ?_
        rotate_left
        · intro wq; go_simp; (try with_reducible rfl)
        (try simp only [Act.put, List.setIfInBounds_toArray, List.set_cons_zero, List.set_cons_succ])
        refine wpAny_to (by kernel_rfl) (by kernel_rfl) (HD8.out _ _ ?_)
        apply Exists.intro
        apply Exists.intro
        apply Exists.intro
        apply Exists.intro
        apply Exists.intro
        apply Exists.intro
        apply Exists.intro
        apply Exists.intro
        apply Exists.intro
        apply Exists.intro
        apply Exists.intro
        apply Exists.intro
        apply Exists.intro
        apply Exists.intro
        apply Exists.intro
        apply Exists.intro
        apply Exists.intro
        apply Exists.intro
        refine ⟨?_, ?_, ?_, ?_, ?_, ?_, ?_, ?_⟩
        · (try simp only [Act.put, List.setIfInBounds_toArray, List.set_cons_zero, List.set_cons_succ]); (try rfl)
        · exact hF.out.alloc _
        · exact hMM.out
        · exact hr1.out
        · exact hL0.out
        · exact hL1.out
        · exact LitI.new rfl rfl hlW
        · exact hk13.out
      refine AllReady.cons (o := ({ dst := some 27, op := Op.call { callee := Callee.value (Operand.func 12), args := #[Operand.tmp 26, Operand.const (Value.int IntKind.i64 100)], argTypes := #[36, 3] }, type := 3, pos := "l20_draw.go:285", after := #[{ on := 19, ground := Ground.data }, { on := 17, ground := Ground.chain }], guard := none } : Oper)) rfl (fun K hK => ?_) ?_
      · go_simp
        refine (pick (B := (B + 1105)) _ hF.out.rd (by omega)).mono ?_
        rintro e W' ⟨v20, rfl, ⟨y20, rfl, yy20, z20⟩, hR', hK'⟩
        have hy20 := Lib.hid (show y20 ≤ 1000 by omega)
        first | (refine hK _ _ ?_; clear hK K) | (go_wp2_with fail; (try (refine hK _ _ ?_)); (try clear hK K))
        (try simp only [Act.put, List.setIfInBounds_toArray, List.set_cons_zero, List.set_cons_succ])
        refine wpAny_to (by kernel_rfl) (by kernel_rfl) (HD12.out _ _ ?_)
        apply Exists.intro
        apply Exists.intro
        apply Exists.intro
        apply Exists.intro
        apply Exists.intro
        apply Exists.intro
        apply Exists.intro
        apply Exists.intro
        apply Exists.intro
        apply Exists.intro
        apply Exists.intro
        apply Exists.intro
        apply Exists.intro
        apply Exists.intro
        apply Exists.intro
        apply Exists.intro
        apply Exists.intro
        apply Exists.intro
        refine ⟨?_, ?_, ?_, ?_, ?_, ?_, ?_, ?_⟩
        · (try simp only [Act.put, List.setIfInBounds_toArray, List.set_cons_zero, List.set_cons_succ]); (try rfl)
        · exact hF.out.keep hK' hR'
        · exact hMM.out
        · exact hr1.out
        · exact hL0.out
        · exact hL1.out
        · exact hk13.out
        · exact hy20.out
      refine AllReady.cons (o := ({ dst := some 5, op := Op.alloc 28, type := 0, pos := "l20_draw.go:285", after := #[], guard := none } : Oper)) rfl (fun K hK => ?_) ?_
      · go_simp
        refine hK _ _ ?_
        clear hK K
        (try simp only [Act.put, List.setIfInBounds_toArray, List.set_cons_zero, List.set_cons_succ])
        refine wpAny_to (by kernel_rfl) (by kernel_rfl) (HD13.out _ _ ?_)
        apply Exists.intro
        apply Exists.intro
        apply Exists.intro
        apply Exists.intro
        apply Exists.intro
        apply Exists.intro
        apply Exists.intro
        apply Exists.intro
        apply Exists.intro
        apply Exists.intro
        apply Exists.intro
        apply Exists.intro
        apply Exists.intro
        apply Exists.intro
        apply Exists.intro
        apply Exists.intro
        apply Exists.intro
        apply Exists.intro
        refine ⟨?_, ?_, ?_, ?_, ?_, ?_, ?_, ?_, ?_, ?_, ?_⟩
        · (try simp only [Act.put, List.setIfInBounds_toArray, List.set_cons_zero, List.set_cons_succ]); (try rfl)
        · exact hF.out.alloc _
        · exact hMM.out
        · exact hr1.out
        · exact hL0.out
        · exact hL1.out
        · exact hk13.out
        · exact Zero9.new hlW
        · exact hlW
        · exact (by first | exact hF.out.keep.size | exact hF.out.kp.size)
        · exact .inr hF.out.sz
      exact AllReady.nil
    refine wpAny_pre 8 #[true, true, true, true, true, true, true, true, true, true, true, true, true, false, false, false, true, false, false, true, false, false, true, false] (fun act9 W => ∃ L : Nat, ∃ w1 : World, ∃ xa : Option Addr, ∃ xc : Nat, ∃ xb : Option Addr, ∃ xd : Nat, ∃ ram : List Int, ∃ rom : List (List Int), ∃ bank : Int, ∃ a4 : Int, ∃ x6 : Int, ∃ q7 : Int, ∃ x9 : Int, ∃ q10 : Int, ∃ b11 : Nat, ∃ b22 : Nat, act9 = ((((((((((((((((A0.put (some 7) (.pointer (some ⟨rb, 0, none⟩))).put (some 8) (.int .i64 n)).put (some 9) (.agg #[.slice xa ram.length xc, .slice xb rom.length xd, .int .i64 bank])).put (some 10) (.pointer (some ⟨rb, 0, none⟩))).put (some 11) (.int .i64 a4)).put (some 12) (.pointer (some ⟨rb, 0, none⟩))).put (some 13) (.int .i64 x6)).put (some 14) (.int .i64 q7)).put (some 15) (.pointer (some ⟨rb, 0, none⟩))).put (some 16) (.int .i64 x9)).put (some 17) (.int .i64 q10)).put (some 18) (.slice (some ⟨b11, 0, none⟩) 3 3)).put (some 19) (.pointer (some ⟨rb, 0, none⟩))).put (some 23) (.pointer (some ⟨rb, 0, none⟩))).put (some 26) (.pointer (some ⟨rb, 0, none⟩))).put (some 5) (.pointer (some ⟨b22, 0, none⟩))) ∧ Hid (PI rb (B + 1103) W0 L w1 W) ∧ Hid (MemA L w1 (.agg #[.slice xa ram.length xc, .slice xb rom.length xd, .int .i64 bank]) ram rom bank) ∧ Hid (ram.length ≤ 256) ∧ Hid (W0.heap.size ≤ L) ∧ Hid (L ≤ w1.heap.size) ∧ Hid (LitI rb 3 W b11) ∧ Hid (Zero9 rb W b22) ∧ Hid (rb < b22) ∧ Hid (W0.heap.size ≤ b22) ∧ Hid (b22 < L ∨ w1.heap.size ≤ b22)) ?_ (fun HD16 => ?_)
    · rintro act9 W ⟨L, w1, xa, xc, xb, xd, ram, rom, bank, a4, x6, q7, x9, q10, b11, b22, rfl, hF, hMM, hr1, hL0, hL1, h11, h22, hr22, hw22, hl22⟩
      subst hA0
      have hlW := hF.out.rd.lt
      (try simp only [Act.put, List.setIfInBounds_toArray, List.set_cons_zero, List.set_cons_succ])
      refine wpAny_ready (rs := [13]) (by kernel_rfl) (by simp) ?_
      refine AllReady.cons (o := ({ dst := some 20, op := Op.call { callee := Callee.value (Operand.func 12), args := #[Operand.tmp 19, Operand.const (Value.int IntKind.i64 3)], argTypes := #[36, 3] }, type := 3, pos := "l20_draw.go:285", after := #[{ on := 12, ground := Ground.data }, { on := 9, ground := Ground.chain }], guard := none } : Oper)) rfl (fun K hK => ?_) ?_
      · go_simp
        refine (pick (B := (B + 1103)) _ hF.out.rd (by omega)).mono ?_
        rintro e W' ⟨v13, rfl, ⟨x13, rfl, y13, z13⟩, hR', hK'⟩
        obtain ⟨k13, rfl⟩ := Int.eq_ofNat_of_zero_le y13
        have hk13 := Lib.hid (show k13 < 3 by omega)
        first | (refine hK _ _ ?_; clear hK K) | (go_wp2_with fail; (try (refine hK _ _ ?_)); (try clear hK K))
        (try simp only [Act.put, List.setIfInBounds_toArray, List.set_cons_zero, List.set_cons_succ])
        have hk13i : (k13 : Int) < 3 := by have := hk13.out; omega
        refine wpAny_take (i := 14) (oi := ({ dst := some 21, op := Op.indexAddr 23 (Operand.tmp 18) (Operand.tmp 20), type := 0, pos := "l20_draw.go:285", after := #[{ on := 11, ground := Ground.data }, { on := 13, ground := Ground.data }], guard := none } : Oper)) (v := ?_) rfl (by kernel_rfl) (by kernel_rfl) (by kernel_rfl) (fun _ _ _ h => h) (Or.inl ⟨by rfl, ?_⟩) ?_
        rotate_left
        · intro wq; go_simp; (try with_reducible rfl)
        (try simp only [Act.put, List.setIfInBounds_toArray, List.set_cons_zero, List.set_cons_succ])
        refine wpAny_to (by kernel_rfl) (by kernel_rfl) (HD11.out _ _ ?_)
        apply Exists.intro
        apply Exists.intro
        apply Exists.intro
        apply Exists.intro
        apply Exists.intro
        apply Exists.intro
        apply Exists.intro
        apply Exists.intro
        apply Exists.intro
        apply Exists.intro
        apply Exists.intro
        apply Exists.intro
        apply Exists.intro
        apply Exists.intro
        apply Exists.intro
        apply Exists.intro
        apply Exists.intro
        refine ⟨?_, ?_, ?_, ?_, ?_, ?_, ?_, ?_, ?_, ?_, ?_, ?_⟩
        · (try simp only [Act.put, List.setIfInBounds_toArray, List.set_cons_zero, List.set_cons_succ]); (try rfl)
        · exact hF.out.keep hK' hR'
        · exact hMM.out
        · exact hr1.out
        · exact hL0.out
        · exact hL1.out
        · exact h11.out.keep hK'
        · exact hk13.out
        · exact h22.out.keep hK'
        · exact hr22.out
        · exact hw22.out
        · exact hl22.out
      exact AllReady.nil
    refine wpAny_pre 8 #[true, true, true, true, true, true, true, true, true, true, true, false, true, true, false, false, true, false, false, true, false, false, true, false] (fun act9 W => ∃ L : Nat, ∃ w1 : World, ∃ xa : Option Addr, ∃ xc : Nat, ∃ xb : Option Addr, ∃ xd : Nat, ∃ ram : List Int, ∃ rom : List (List Int), ∃ bank : Int, ∃ a4 : Int, ∃ x6 : Int, ∃ q7 : Int, ∃ x9 : Int, ∃ q10 : Int, ∃ k13 : Nat, ∃ b22 : Nat, act9 = ((((((((((((((((A0.put (some 7) (.pointer (some ⟨rb, 0, none⟩))).put (some 8) (.int .i64 n)).put (some 9) (.agg #[.slice xa ram.length xc, .slice xb rom.length xd, .int .i64 bank])).put (some 10) (.pointer (some ⟨rb, 0, none⟩))).put (some 11) (.int .i64 a4)).put (some 12) (.pointer (some ⟨rb, 0, none⟩))).put (some 13) (.int .i64 x6)).put (some 14) (.int .i64 q7)).put (some 15) (.pointer (some ⟨rb, 0, none⟩))).put (some 16) (.int .i64 x9)).put (some 17) (.int .i64 q10)).put (some 19) (.pointer (some ⟨rb, 0, none⟩))).put (some 20) (.int .i64 (k13 : Int))).put (some 23) (.pointer (some ⟨rb, 0, none⟩))).put (some 26) (.pointer (some ⟨rb, 0, none⟩))).put (some 5) (.pointer (some ⟨b22, 0, none⟩))) ∧ Hid (PI rb (B + 1104) W0 L w1 W) ∧ Hid (MemA L w1 (.agg #[.slice xa ram.length xc, .slice xb rom.length xd, .int .i64 bank]) ram rom bank) ∧ Hid (ram.length ≤ 256) ∧ Hid (W0.heap.size ≤ L) ∧ Hid (L ≤ w1.heap.size) ∧ Hid (k13 < 3) ∧ Hid (Zero9 rb W b22) ∧ Hid (rb < b22) ∧ Hid (W0.heap.size ≤ b22) ∧ Hid (b22 < L ∨ w1.heap.size ≤ b22)) ?_ (fun HD17 => ?_)
    · rintro act9 W ⟨L, w1, xa, xc, xb, xd, ram, rom, bank, a4, x6, q7, x9, q10, k13, b22, rfl, hF, hMM, hr1, hL0, hL1, hk13, h22, hr22, hw22, hl22⟩
      subst hA0
      have hlW := hF.out.rd.lt
      (try simp only [Act.put, List.setIfInBounds_toArray, List.set_cons_zero, List.set_cons_succ])
      refine wpAny_ready (rs := [11, 17]) (by kernel_rfl) (by simp) ?_
      refine AllReady.cons (o := ({ dst := some 18, op := Op.buildSlice 23 3 #[(0, Operand.const (Value.int IntKind.i64 512)), (1, Operand.tmp 14), (2, Operand.tmp 17)], type := 23, pos := "l20_draw.go:285", after := #[{ on := 7, ground := Ground.data }, { on := 10, ground := Ground.data }], guard := none } : Oper)) rfl (fun K hK => ?_) ?_
      · go_simp
        refine hK _ _ ?_
        clear hK K
        (try simp only [Act.put, List.setIfInBounds_toArray, List.set_cons_zero, List.set_cons_succ])
        have hk13i : (k13 : Int) < 3 := by have := hk13.out; omega
        refine wpAny_take (i := 14) (oi := ({ dst := some 21, op := Op.indexAddr 23 (Operand.tmp 18) (Operand.tmp 20), type := 0, pos := "l20_draw.go:285", after := #[{ on := 11, ground := Ground.data }, { on := 13, ground := Ground.data }], guard := none } : Oper)) (v := ?_) rfl (by kernel_rfl) (by kernel_rfl) (by kernel_rfl) (fun _ _ _ h => h) (Or.inl ⟨by rfl, ?_⟩) ?_
        rotate_left
        · intro wq; go_simp; (try with_reducible rfl)
        (try simp only [Act.put, List.setIfInBounds_toArray, List.set_cons_zero, List.set_cons_succ])
        refine wpAny_to (by kernel_rfl) (by kernel_rfl) (HD11.out _ _ ?_)
        apply Exists.intro
        apply Exists.intro
        apply Exists.intro
        apply Exists.intro
        apply Exists.intro
        apply Exists.intro
        apply Exists.intro
        apply Exists.intro
        apply Exists.intro
        apply Exists.intro
        apply Exists.intro
        apply Exists.intro
        apply Exists.intro
        apply Exists.intro
        apply Exists.intro
        apply Exists.intro
        apply Exists.intro
        refine ⟨?_, ?_, ?_, ?_, ?_, ?_, ?_, ?_, ?_, ?_, ?_, ?_⟩
        · (try simp only [Act.put, List.setIfInBounds_toArray, List.set_cons_zero, List.set_cons_succ]); (try rfl)
        · exact hF.out.alloc _
        · exact hMM.out
        · exact hr1.out
        · exact hL0.out
        · exact hL1.out
        · exact LitI.new rfl rfl hlW
        · exact hk13.out
        · exact h22.out.alloc _
        · exact hr22.out
        · exact hw22.out
        · exact hl22.out
      refine AllReady.cons (o := ({ dst := some 24, op := Op.call { callee := Callee.value (Operand.func 12), args := #[Operand.tmp 23, Operand.const (Value.int IntKind.i64 2)], argTypes := #[36, 3] }, type := 3, pos := "l20_draw.go:285", after := #[{ on := 16, ground := Ground.data }, { on := 13, ground := Ground.chain }], guard := none } : Oper)) rfl (fun K hK => ?_) ?_
      · go_simp
        refine (pick (B := (B + 1104)) _ hF.out.rd (by omega)).mono ?_
        rintro e W' ⟨v17, rfl, ⟨x17, rfl, y17, z17⟩, hR', hK'⟩
        first | (refine hK _ _ ?_; clear hK K) | (go_wp2_with fail; (try (refine hK _ _ ?_)); (try clear hK K))
        (try simp only [Act.put, List.setIfInBounds_toArray, List.set_cons_zero, List.set_cons_succ])
        refine wpAny_take (i := 18) (oi := ({ dst := some 25, op := Op.binOp BinOp.eql 3 (Operand.tmp 24) (Operand.const (Value.int IntKind.i64 0)) 3, type := 4, pos := "l20_draw.go:285", after := #[{ on := 17, ground := Ground.data }], guard := none } : Oper)) (v := ?_) rfl (by kernel_rfl) (by kernel_rfl) (by kernel_rfl) (fun _ _ _ h => h) (Or.inl ⟨by rfl, ?_⟩) ?_
        rotate_left
        · intro wq; go_simp; (try with_reducible rfl)
        (try simp only [Act.put, List.setIfInBounds_toArray, List.set_cons_zero, List.set_cons_succ])
        refine wpAny_to (by kernel_rfl) (by kernel_rfl) (HD13.out _ _ ?_)
        apply Exists.intro
        apply Exists.intro
        apply Exists.intro
        apply Exists.intro
        apply Exists.intro
        apply Exists.intro
        apply Exists.intro
        apply Exists.intro
        apply Exists.intro
        apply Exists.intro
        apply Exists.intro
        apply Exists.intro
        apply Exists.intro
        apply Exists.intro
        apply Exists.intro
        apply Exists.intro
        apply Exists.intro
        apply Exists.intro
        refine ⟨?_, ?_, ?_, ?_, ?_, ?_, ?_, ?_, ?_, ?_, ?_⟩
        · (try simp only [Act.put, List.setIfInBounds_toArray, List.set_cons_zero, List.set_cons_succ]); (try rfl)
        · exact hF.out.keep hK' hR'
        · exact hMM.out
        · exact hr1.out
        · exact hL0.out
        · exact hL1.out
        · exact hk13.out
        · exact h22.out.keep hK'
        · exact hr22.out
        · exact hw22.out
        · exact hl22.out
      exact AllReady.nil
    refine wpAny_pre 9 #[true, true, true, true, true, true, true, true, true, true, true, true, true, false, false, false, true, false, false, true, false, false, false, false] (fun act9 W => ∃ L : Nat, ∃ w1 : World, ∃ xa : Option Addr, ∃ xc : Nat, ∃ xb : Option Addr, ∃ xd : Nat, ∃ ram : List Int, ∃ rom : List (List Int), ∃ bank : Int, ∃ a4 : Int, ∃ x6 : Int, ∃ q7 : Int, ∃ x9 : Int, ∃ q10 : Int, ∃ b11 : Nat, act9 = (((((((((((((((A0.put (some 7) (.pointer (some ⟨rb, 0, none⟩))).put (some 8) (.int .i64 n)).put (some 9) (.agg #[.slice xa ram.length xc, .slice xb rom.length xd, .int .i64 bank])).put (some 10) (.pointer (some ⟨rb, 0, none⟩))).put (some 11) (.int .i64 a4)).put (some 12) (.pointer (some ⟨rb, 0, none⟩))).put (some 13) (.int .i64 x6)).put (some 14) (.int .i64 q7)).put (some 15) (.pointer (some ⟨rb, 0, none⟩))).put (some 16) (.int .i64 x9)).put (some 17) (.int .i64 q10)).put (some 18) (.slice (some ⟨b11, 0, none⟩) 3 3)).put (some 19) (.pointer (some ⟨rb, 0, none⟩))).put (some 23) (.pointer (some ⟨rb, 0, none⟩))).put (some 26) (.pointer (some ⟨rb, 0, none⟩))) ∧ Hid (PI rb (B + 1103) W0 L w1 W) ∧ Hid (MemA L w1 (.agg #[.slice xa ram.length xc, .slice xb rom.length xd, .int .i64 bank]) ram rom bank) ∧ Hid (ram.length ≤ 256) ∧ Hid (W0.heap.size ≤ L) ∧ Hid (L ≤ w1.heap.size) ∧ Hid (LitI rb 3 W b11)) ?_ (fun HD18 => ?_)
    · rintro act9 W ⟨L, w1, xa, xc, xb, xd, ram, rom, bank, a4, x6, q7, x9, q10, b11, rfl, hF, hMM, hr1, hL0, hL1, h11⟩
      subst hA0
      have hlW := hF.out.rd.lt
      (try simp only [Act.put, List.setIfInBounds_toArray, List.set_cons_zero, List.set_cons_succ])
      refine wpAny_ready (rs := [13, 22]) (by kernel_rfl) (by simp) ?_
      refine AllReady.cons (o := ({ dst := some 20, op := Op.call { callee := Callee.value (Operand.func 12), args := #[Operand.tmp 19, Operand.const (Value.int IntKind.i64 3)], argTypes := #[36, 3] }, type := 3, pos := "l20_draw.go:285", after := #[{ on := 12, ground := Ground.data }, { on := 9, ground := Ground.chain }], guard := none } : Oper)) rfl (fun K hK => ?_) ?_
      · go_simp
        refine (pick (B := (B + 1103)) _ hF.out.rd (by omega)).mono ?_
        rintro e W' ⟨v13, rfl, ⟨x13, rfl, y13, z13⟩, hR', hK'⟩
        obtain ⟨k13, rfl⟩ := Int.eq_ofNat_of_zero_le y13
        have hk13 := Lib.hid (show k13 < 3 by omega)
        first | (refine hK _ _ ?_; clear hK K) | (go_wp2_with fail; (try (refine hK _ _ ?_)); (try clear hK K))
        (try simp only [Act.put, List.setIfInBounds_toArray, List.set_cons_zero, List.set_cons_succ])
        have hk13i : (k13 : Int) < 3 := by have := hk13.out; omega
        refine wpAny_take (i := 14) (oi := ({ dst := some 21, op := Op.indexAddr 23 (Operand.tmp 18) (Operand.tmp 20), type := 0, pos := "l20_draw.go:285", after := #[{ on := 11, ground := Ground.data }, { on := 13, ground := Ground.data }], guard := none } : Oper)) (v := ?_) rfl (by kernel_rfl) (by kernel_rfl) (by kernel_rfl) (fun _ _ _ h => h) (Or.inl ⟨by rfl, ?_⟩) ?_
        rotate_left
        · intro wq; go_simp; (try with_reducible rfl)
        (try simp only [Act.put, List.setIfInBounds_toArray, List.set_cons_zero, List.set_cons_succ])
        refine wpAny_to (by kernel_rfl) (by kernel_rfl) (HD14.out _ _ ?_)
        apply Exists.intro
        apply Exists.intro
        apply Exists.intro
        apply Exists.intro
        apply Exists.intro
        apply Exists.intro
        apply Exists.intro
        apply Exists.intro
        apply Exists.intro
        apply Exists.intro
        apply Exists.intro
        apply Exists.intro
        apply Exists.intro
        apply Exists.intro
        apply Exists.intro
        apply Exists.intro
        refine ⟨?_, ?_, ?_, ?_, ?_, ?_, ?_, ?_⟩
        · (try simp only [Act.put, List.setIfInBounds_toArray, List.set_cons_zero, List.set_cons_succ]); (try rfl)
        · exact hF.out.keep hK' hR'
        · exact hMM.out
        · exact hr1.out
        · exact hL0.out
        · exact hL1.out
        · exact h11.out.keep hK'
        · exact hk13.out
      refine AllReady.cons (o := ({ dst := some 5, op := Op.alloc 28, type := 0, pos := "l20_draw.go:285", after := #[], guard := none } : Oper)) rfl (fun K hK => ?_) ?_
      · go_simp
        refine hK _ _ ?_
        clear hK K
        (try simp only [Act.put, List.setIfInBounds_toArray, List.set_cons_zero, List.set_cons_succ])
        refine wpAny_to (by kernel_rfl) (by kernel_rfl) (HD16.out _ _ ?_)
        apply Exists.intro
        apply Exists.intro
        apply Exists.intro
        apply Exists.intro
        apply Exists.intro
        apply Exists.intro
        apply Exists.intro
        apply Exists.intro
        apply Exists.intro
        apply Exists.intro
        apply Exists.intro
        apply Exists.intro
        apply Exists.intro
        apply Exists.intro
        apply Exists.intro
        apply Exists.intro
        refine ⟨?_, ?_, ?_, ?_, ?_, ?_, ?_, ?_, ?_, ?_, ?_⟩
        · (try simp only [Act.put, List.setIfInBounds_toArray, List.set_cons_zero, List.set_cons_succ]); (try rfl)
        · exact hF.out.alloc _
        · exact hMM.out
        · exact hr1.out
        · exact hL0.out
        · exact hL1.out
        · exact h11.out.alloc _
        · exact Zero9.new hlW
        · exact hlW
        · exact (by first | exact hF.out.keep.size | exact hF.out.kp.size)
        · exact .inr hF.out.sz
      exact AllReady.nil
    refine wpAny_pre 9 #[true, true, true, true, true, true, true, true, true, true, true, false, true, true, false, false, true, false, false, true, false, false, false, false] (fun act9 W => ∃ L : Nat, ∃ w1 : World, ∃ xa : Option Addr, ∃ xc : Nat, ∃ xb : Option Addr, ∃ xd : Nat, ∃ ram : List Int, ∃ rom : List (List Int), ∃ bank : Int, ∃ a4 : Int, ∃ x6 : Int, ∃ q7 : Int, ∃ x9 : Int, ∃ q10 : Int, ∃ k13 : Nat, act9 = (((((((((((((((A0.put (some 7) (.pointer (some ⟨rb, 0, none⟩))).put (some 8) (.int .i64 n)).put (some 9) (.agg #[.slice xa ram.length xc, .slice xb rom.length xd, .int .i64 bank])).put (some 10) (.pointer (some ⟨rb, 0, none⟩))).put (some 11) (.int .i64 a4)).put (some 12) (.pointer (some ⟨rb, 0, none⟩))).put (some 13) (.int .i64 x6)).put (some 14) (.int .i64 q7)).put (some 15) (.pointer (some ⟨rb, 0, none⟩))).put (some 16) (.int .i64 x9)).put (some 17) (.int .i64 q10)).put (some 19) (.pointer (some ⟨rb, 0, none⟩))).put (some 20) (.int .i64 (k13 : Int))).put (some 23) (.pointer (some ⟨rb, 0, none⟩))).put (some 26) (.pointer (some ⟨rb, 0, none⟩))) ∧ Hid (PI rb (B + 1104) W0 L w1 W) ∧ Hid (MemA L w1 (.agg #[.slice xa ram.length xc, .slice xb rom.length xd, .int .i64 bank]) ram rom bank) ∧ Hid (ram.length ≤ 256) ∧ Hid (W0.heap.size ≤ L) ∧ Hid (L ≤ w1.heap.size) ∧ Hid (k13 < 3)) ?_ (fun HD19 => ?_)
    · rintro act9 W ⟨L, w1, xa, xc, xb, xd, ram, rom, bank, a4, x6, q7, x9, q10, k13, rfl, hF, hMM, hr1, hL0, hL1, hk13⟩
      subst hA0
      have hlW := hF.out.rd.lt
      (try simp only [Act.put, List.setIfInBounds_toArray, List.set_cons_zero, List.set_cons_succ])
      refine wpAny_ready (rs := [11, 17, 22]) (by kernel_rfl) (by simp) ?_
      refine AllReady.cons (o := ({ dst := some 18, op := Op.buildSlice 23 3 #[(0, Operand.const (Value.int IntKind.i64 512)), (1, Operand.tmp 14), (2, Operand.tmp 17)], type := 23, pos := "l20_draw.go:285", after := #[{ on := 7, ground := Ground.data }, { on := 10, ground := Ground.data }], guard := none } : Oper)) rfl (fun K hK => ?_) ?_
      · go_simp
        refine hK _ _ ?_
        clear hK K
        (try simp only [Act.put, List.setIfInBounds_toArray, List.set_cons_zero, List.set_cons_succ])
        have hk13i : (k13 : Int) < 3 := by have := hk13.out; omega
        refine wpAny_take (i := 14) (oi := ({ dst := some 21, op := Op.indexAddr 23 (Operand.tmp 18) (Operand.tmp 20), type := 0, pos := "l20_draw.go:285", after := #[{ on := 11, ground := Ground.data }, { on := 13, ground := Ground.data }], guard := none } : Oper)) (v := ?_) rfl (by kernel_rfl) (by kernel_rfl) (by kernel_rfl) (fun _ _ _ h => h) (Or.inl ⟨by rfl, ?_⟩) ?_
        rotate_left
        · intro wq; go_simp; (try with_reducible rfl)
        (try simp only [Act.put, List.setIfInBounds_toArray, List.set_cons_zero, List.set_cons_succ])
        refine wpAny_to (by kernel_rfl) (by kernel_rfl) (HD14.out _ _ ?_)
        apply Exists.intro
        apply Exists.intro
        apply Exists.intro
        apply Exists.intro
        apply Exists.intro
        apply Exists.intro
        apply Exists.intro
        apply Exists.intro
        apply Exists.intro
        apply Exists.intro
        apply Exists.intro
        apply Exists.intro
        apply Exists.intro
        apply Exists.intro
        apply Exists.intro
        apply Exists.intro
        refine ⟨?_, ?_, ?_, ?_, ?_, ?_, ?_, ?_⟩
        · (try simp only [Act.put, List.setIfInBounds_toArray, List.set_cons_zero, List.set_cons_succ]); (try rfl)
        · exact hF.out.alloc _
        · exact hMM.out
        · exact hr1.out
        · exact hL0.out
        · exact hL1.out
        · exact LitI.new rfl rfl hlW
        · exact hk13.out
      refine AllReady.cons (o := ({ dst := some 24, op := Op.call { callee := Callee.value (Operand.func 12), args := #[Operand.tmp 23, Operand.const (Value.int IntKind.i64 2)], argTypes := #[36, 3] }, type := 3, pos := "l20_draw.go:285", after := #[{ on := 16, ground := Ground.data }, { on := 13, ground := Ground.chain }], guard := none } : Oper)) rfl (fun K hK => ?_) ?_
      · go_simp
        refine (pick (B := (B + 1104)) _ hF.out.rd (by omega)).mono ?_
        rintro e W' ⟨v17, rfl, ⟨x17, rfl, y17, z17⟩, hR', hK'⟩
        first | (refine hK _ _ ?_; clear hK K) | (go_wp2_with fail; (try (refine hK _ _ ?_)); (try clear hK K))
        (try simp only [Act.put, List.setIfInBounds_toArray, List.set_cons_zero, List.set_cons_succ])
        refine wpAny_take (i := 18) (oi := ({ dst := some 25, op := Op.binOp BinOp.eql 3 (Operand.tmp 24) (Operand.const (Value.int IntKind.i64 0)) 3, type := 4, pos := "l20_draw.go:285", after := #[{ on := 17, ground := Ground.data }], guard := none } : Oper)) (v := ?_) rfl (by kernel_rfl) (by kernel_rfl) (by kernel_rfl) (fun _ _ _ h => h) (Or.inl ⟨by rfl, ?_⟩) ?_
        rotate_left
        · intro wq; go_simp; (try with_reducible rfl)
        (try simp only [Act.put, List.setIfInBounds_toArray, List.set_cons_zero, List.set_cons_succ])
        refine wpAny_to (by kernel_rfl) (by kernel_rfl) (HD15.out _ _ ?_)
        apply Exists.intro
        apply Exists.intro
        apply Exists.intro
        apply Exists.intro
        apply Exists.intro
        apply Exists.intro
        apply Exists.intro
        apply Exists.intro
        apply Exists.intro
        apply Exists.intro
        apply Exists.intro
        apply Exists.intro
        apply Exists.intro
        apply Exists.intro
        apply Exists.intro
        apply Exists.intro
        apply Exists.intro
        refine ⟨?_, ?_, ?_, ?_, ?_, ?_, ?_⟩
        · (try simp only [Act.put, List.setIfInBounds_toArray, List.set_cons_zero, List.set_cons_succ]); (try rfl)
        · exact hF.out.keep hK' hR'
        · exact hMM.out
        · exact hr1.out
        · exact hL0.out
        · exact hL1.out
        · exact hk13.out
      refine AllReady.cons (o := ({ dst := some 5, op := Op.alloc 28, type := 0, pos := "l20_draw.go:285", after := #[], guard := none } : Oper)) rfl (fun K hK => ?_) ?_
      · go_simp
        refine hK _ _ ?_
        clear hK K
        (try simp only [Act.put, List.setIfInBounds_toArray, List.set_cons_zero, List.set_cons_succ])
        refine wpAny_to (by kernel_rfl) (by kernel_rfl) (HD17.out _ _ ?_)
        apply Exists.intro
        apply Exists.intro
        apply Exists.intro
        apply Exists.intro
        apply Exists.intro
        apply Exists.intro
        apply Exists.intro
        apply Exists.intro
        apply Exists.intro
        apply Exists.intro
        apply Exists.intro
        apply Exists.intro
        apply Exists.intro
        apply Exists.intro
        apply Exists.intro
        apply Exists.intro
        refine ⟨?_, ?_, ?_, ?_, ?_, ?_, ?_, ?_, ?_, ?_, ?_⟩
        · (try simp only [Act.put, List.setIfInBounds_toArray, List.set_cons_zero, List.set_cons_succ]); (try rfl)
        · exact hF.out.alloc _
        · exact hMM.out
        · exact hr1.out
        · exact hL0.out
        · exact hL1.out
        · exact hk13.out
        · exact Zero9.new hlW
        · exact hlW
        · exact (by first | exact hF.out.keep.size | exact hF.out.kp.size)
        · exact .inr hF.out.sz
      exact AllReady.nil
    refine wpAny_pre 9 #[true, true, true, true, true, true, true, true, true, true, true, false, true, false, false, false, true, false, false, true, false, false, true, false] (fun act9 W => ∃ L : Nat, ∃ w1 : World, ∃ xa : Option Addr, ∃ xc : Nat, ∃ xb : Option Addr, ∃ xd : Nat, ∃ ram : List Int, ∃ rom : List (List Int), ∃ bank : Int, ∃ a4 : Int, ∃ x6 : Int, ∃ q7 : Int, ∃ x9 : Int, ∃ q10 : Int, ∃ b22 : Nat, act9 = (((((((((((((((A0.put (some 7) (.pointer (some ⟨rb, 0, none⟩))).put (some 8) (.int .i64 n)).put (some 9) (.agg #[.slice xa ram.length xc, .slice xb rom.length xd, .int .i64 bank])).put (some 10) (.pointer (some ⟨rb, 0, none⟩))).put (some 11) (.int .i64 a4)).put (some 12) (.pointer (some ⟨rb, 0, none⟩))).put (some 13) (.int .i64 x6)).put (some 14) (.int .i64 q7)).put (some 15) (.pointer (some ⟨rb, 0, none⟩))).put (some 16) (.int .i64 x9)).put (some 17) (.int .i64 q10)).put (some 19) (.pointer (some ⟨rb, 0, none⟩))).put (some 23) (.pointer (some ⟨rb, 0, none⟩))).put (some 26) (.pointer (some ⟨rb, 0, none⟩))).put (some 5) (.pointer (some ⟨b22, 0, none⟩))) ∧ Hid (PI rb (B + 1103) W0 L w1 W) ∧ Hid (MemA L w1 (.agg #[.slice xa ram.length xc, .slice xb rom.length xd, .int .i64 bank]) ram rom bank) ∧ Hid (ram.length ≤ 256) ∧ Hid (W0.heap.size ≤ L) ∧ Hid (L ≤ w1.heap.size) ∧ Hid (Zero9 rb W b22) ∧ Hid (rb < b22) ∧ Hid (W0.heap.size ≤ b22) ∧ Hid (b22 < L ∨ w1.heap.size ≤ b22)) ?_ (fun HD20 => ?_)
    · rintro act9 W ⟨L, w1, xa, xc, xb, xd, ram, rom, bank, a4, x6, q7, x9, q10, b22, rfl, hF, hMM, hr1, hL0, hL1, h22, hr22, hw22, hl22⟩
      subst hA0
      have hlW := hF.out.rd.lt
      (try simp only [Act.put, List.setIfInBounds_toArray, List.set_cons_zero, List.set_cons_succ])
      refine wpAny_ready (rs := [11, 13]) (by kernel_rfl) (by simp) ?_
      refine AllReady.cons (o := ({ dst := some 18, op := Op.buildSlice 23 3 #[(0, Operand.const (Value.int IntKind.i64 512)), (1, Operand.tmp 14), (2, Operand.tmp 17)], type := 23, pos := "l20_draw.go:285", after := #[{ on := 7, ground := Ground.data }, { on := 10, ground := Ground.data }], guard := none } : Oper)) rfl (fun K hK => ?_) ?_
      · go_simp
        refine hK _ _ ?_
        clear hK K
        (try simp only [Act.put, List.setIfInBounds_toArray, List.set_cons_zero, List.set_cons_succ])
        refine wpAny_to (by kernel_rfl) (by kernel_rfl) (HD16.out _ _ ?_)
        apply Exists.intro
        apply Exists.intro
        apply Exists.intro
        apply Exists.intro
        apply Exists.intro
        apply Exists.intro
        apply Exists.intro
        apply Exists.intro
        apply Exists.intro
        apply Exists.intro
        apply Exists.intro
        apply Exists.intro
        apply Exists.intro
        apply Exists.intro
        apply Exists.intro
        apply Exists.intro
        refine ⟨?_, ?_, ?_, ?_, ?_, ?_, ?_, ?_, ?_, ?_, ?_⟩
        · (try simp only [Act.put, List.setIfInBounds_toArray, List.set_cons_zero, List.set_cons_succ]); (try rfl)
        · exact hF.out.alloc _
        · exact hMM.out
        · exact hr1.out
        · exact hL0.out
        · exact hL1.out
        · exact LitI.new rfl rfl hlW
        · exact h22.out.alloc _
        · exact hr22.out
        · exact hw22.out
        · exact hl22.out
      refine AllReady.cons (o := ({ dst := some 20, op := Op.call { callee := Callee.value (Operand.func 12), args := #[Operand.tmp 19, Operand.const (Value.int IntKind.i64 3)], argTypes := #[36, 3] }, type := 3, pos := "l20_draw.go:285", after := #[{ on := 12, ground := Ground.data }, { on := 9, ground := Ground.chain }], guard := none } : Oper)) rfl (fun K hK => ?_) ?_
      · go_simp
        refine (pick (B := (B + 1103)) _ hF.out.rd (by omega)).mono ?_
        rintro e W' ⟨v13, rfl, ⟨x13, rfl, y13, z13⟩, hR', hK'⟩
        obtain ⟨k13, rfl⟩ := Int.eq_ofNat_of_zero_le y13
        have hk13 := Lib.hid (show k13 < 3 by omega)
        first | (refine hK _ _ ?_; clear hK K) | (go_wp2_with fail; (try (refine hK _ _ ?_)); (try clear hK K))
        (try simp only [Act.put, List.setIfInBounds_toArray, List.set_cons_zero, List.set_cons_succ])
        refine wpAny_to (by kernel_rfl) (by kernel_rfl) (HD17.out _ _ ?_)
        apply Exists.intro
        apply Exists.intro
        apply Exists.intro
        apply Exists.intro
        apply Exists.intro
        apply Exists.intro
        apply Exists.intro
        apply Exists.intro
        apply Exists.intro
        apply Exists.intro
        apply Exists.intro
        apply Exists.intro
        apply Exists.intro
        apply Exists.intro
        apply Exists.intro
        apply Exists.intro
        refine ⟨?_, ?_, ?_, ?_, ?_, ?_, ?_, ?_, ?_, ?_, ?_⟩
        · (try simp only [Act.put, List.setIfInBounds_toArray, List.set_cons_zero, List.set_cons_succ]); (try rfl)
        · exact hF.out.keep hK' hR'
        · exact hMM.out
        · exact hr1.out
        · exact hL0.out
        · exact hL1.out
        · exact hk13.out
        · exact h22.out.keep hK'
        · exact hr22.out
        · exact hw22.out
        · exact hl22.out
      exact AllReady.nil
    refine wpAny_pre 10 #[true, true, true, true, true, true, true, true, true, true, true, false, true, false, false, false, true, false, false, true, false, false, false, false] (fun act9 W => ∃ L : Nat, ∃ w1 : World, ∃ xa : Option Addr, ∃ xc : Nat, ∃ xb : Option Addr, ∃ xd : Nat, ∃ ram : List Int, ∃ rom : List (List Int), ∃ bank : Int, ∃ a4 : Int, ∃ x6 : Int, ∃ q7 : Int, ∃ x9 : Int, ∃ q10 : Int, act9 = ((((((((((((((A0.put (some 7) (.pointer (some ⟨rb, 0, none⟩))).put (some 8) (.int .i64 n)).put (some 9) (.agg #[.slice xa ram.length xc, .slice xb rom.length xd, .int .i64 bank])).put (some 10) (.pointer (some ⟨rb, 0, none⟩))).put (some 11) (.int .i64 a4)).put (some 12) (.pointer (some ⟨rb, 0, none⟩))).put (some 13) (.int .i64 x6)).put (some 14) (.int .i64 q7)).put (some 15) (.pointer (some ⟨rb, 0, none⟩))).put (some 16) (.int .i64 x9)).put (some 17) (.int .i64 q10)).put (some 19) (.pointer (some ⟨rb, 0, none⟩))).put (some 23) (.pointer (some ⟨rb, 0, none⟩))).put (some 26) (.pointer (some ⟨rb, 0, none⟩))) ∧ Hid (PI rb (B + 1103) W0 L w1 W) ∧ Hid (MemA L w1 (.agg #[.slice xa ram.length xc, .slice xb rom.length xd, .int .i64 bank]) ram rom bank) ∧ Hid (ram.length ≤ 256) ∧ Hid (W0.heap.size ≤ L) ∧ Hid (L ≤ w1.heap.size)) ?_ (fun HD21 => ?_)
    · rintro act9 W ⟨L, w1, xa, xc, xb, xd, ram, rom, bank, a4, x6, q7, x9, q10, rfl, hF, hMM, hr1, hL0, hL1⟩
      subst hA0
      have hlW := hF.out.rd.lt
      (try simp only [Act.put, List.setIfInBounds_toArray, List.set_cons_zero, List.set_cons_succ])
      refine wpAny_ready (rs := [11, 13, 22]) (by kernel_rfl) (by simp) ?_
      refine AllReady.cons (o := ({ dst := some 18, op := Op.buildSlice 23 3 #[(0, Operand.const (Value.int IntKind.i64 512)), (1, Operand.tmp 14), (2, Operand.tmp 17)], type := 23, pos := "l20_draw.go:285", after := #[{ on := 7, ground := Ground.data }, { on := 10, ground := Ground.data }], guard := none } : Oper)) rfl (fun K hK => ?_) ?_
      · go_simp
        refine hK _ _ ?_
        clear hK K
        (try simp only [Act.put, List.setIfInBounds_toArray, List.set_cons_zero, List.set_cons_succ])
        refine wpAny_to (by kernel_rfl) (by kernel_rfl) (HD18.out _ _ ?_)
        apply Exists.intro
        apply Exists.intro
        apply Exists.intro
        apply Exists.intro
        apply Exists.intro
        apply Exists.intro
        apply Exists.intro
        apply Exists.intro
        apply Exists.intro
        apply Exists.intro
        apply Exists.intro
        apply Exists.intro
        apply Exists.intro
        apply Exists.intro
        apply Exists.intro
        refine ⟨?_, ?_, ?_, ?_, ?_, ?_, ?_⟩
        · (try simp only [Act.put, List.setIfInBounds_toArray, List.set_cons_zero, List.set_cons_succ]); (try rfl)
        · exact hF.out.alloc _
        · exact hMM.out
        · exact hr1.out
        · exact hL0.out
        · exact hL1.out
        · exact LitI.new rfl rfl hlW
      refine AllReady.cons (o := ({ dst := some 20, op := Op.call { callee := Callee.value (Operand.func 12), args := #[Operand.tmp 19, Operand.const (Value.int IntKind.i64 3)], argTypes := #[36, 3] }, type := 3, pos := "l20_draw.go:285", after := #[{ on := 12, ground := Ground.data }, { on := 9, ground := Ground.chain }], guard := none } : Oper)) rfl (fun K hK => ?_) ?_
      · go_simp
        refine (pick (B := (B + 1103)) _ hF.out.rd (by omega)).mono ?_
        rintro e W' ⟨v13, rfl, ⟨x13, rfl, y13, z13⟩, hR', hK'⟩
        obtain ⟨k13, rfl⟩ := Int.eq_ofNat_of_zero_le y13
        have hk13 := Lib.hid (show k13 < 3 by omega)
        first | (refine hK _ _ ?_; clear hK K) | (go_wp2_with fail; (try (refine hK _ _ ?_)); (try clear hK K))
        (try simp only [Act.put, List.setIfInBounds_toArray, List.set_cons_zero, List.set_cons_succ])
        refine wpAny_to (by kernel_rfl) (by kernel_rfl) (HD19.out _ _ ?_)
        apply Exists.intro
        apply Exists.intro
        apply Exists.intro
        apply Exists.intro
        apply Exists.intro
        apply Exists.intro
        apply Exists.intro
        apply Exists.intro
        apply Exists.intro
        apply Exists.intro
        apply Exists.intro
        apply Exists.intro
        apply Exists.intro
        apply Exists.intro
        apply Exists.intro
        refine ⟨?_, ?_, ?_, ?_, ?_, ?_, ?_⟩
        · (try simp only [Act.put, List.setIfInBounds_toArray, List.set_cons_zero, List.set_cons_succ]); (try rfl)
        · exact hF.out.keep hK' hR'
        · exact hMM.out
        · exact hr1.out
        · exact hL0.out
        · exact hL1.out
        · exact hk13.out
      refine AllReady.cons (o := ({ dst := some 5, op := Op.alloc 28, type := 0, pos := "l20_draw.go:285", after := #[], guard := none } : Oper)) rfl (fun K hK => ?_) ?_
      · go_simp
        refine hK _ _ ?_
        clear hK K
        (try simp only [Act.put, List.setIfInBounds_toArray, List.set_cons_zero, List.set_cons_succ])
        refine wpAny_to (by kernel_rfl) (by kernel_rfl) (HD20.out _ _ ?_)
        apply Exists.intro
        apply Exists.intro
        apply Exists.intro
        apply Exists.intro
        apply Exists.intro
        apply Exists.intro
        apply Exists.intro
        apply Exists.intro
        apply Exists.intro
        apply Exists.intro
        apply Exists.intro
        apply Exists.intro
        apply Exists.intro
        apply Exists.intro
        apply Exists.intro
        refine ⟨?_, ?_, ?_, ?_, ?_, ?_, ?_, ?_, ?_, ?_⟩
        · (try simp only [Act.put, List.setIfInBounds_toArray, List.set_cons_zero, List.set_cons_succ]); (try rfl)
        · exact hF.out.alloc _
        · exact hMM.out
        · exact hr1.out
        · exact hL0.out
        · exact hL1.out
        · exact Zero9.new hlW
        · exact hlW
        · exact (by first | exact hF.out.keep.size | exact hF.out.kp.size)
        · exact .inr hF.out.sz
      exact AllReady.nil
    refine wpAny_pre 11 #[true, true, true, true, true, true, true, true, true, false, false, false, true, false, false, false, true, false, false, true, false, false, true, false] (fun act9 W => ∃ L : Nat, ∃ w1 : World, ∃ xa : Option Addr, ∃ xc : Nat, ∃ xb : Option Addr, ∃ xd : Nat, ∃ ram : List Int, ∃ rom : List (List Int), ∃ bank : Int, ∃ a4 : Int, ∃ x6 : Int, ∃ q7 : Int, ∃ b22 : Nat, act9 = (((((((((((((A0.put (some 7) (.pointer (some ⟨rb, 0, none⟩))).put (some 8) (.int .i64 n)).put (some 9) (.agg #[.slice xa ram.length xc, .slice xb rom.length xd, .int .i64 bank])).put (some 10) (.pointer (some ⟨rb, 0, none⟩))).put (some 11) (.int .i64 a4)).put (some 12) (.pointer (some ⟨rb, 0, none⟩))).put (some 13) (.int .i64 x6)).put (some 14) (.int .i64 q7)).put (some 15) (.pointer (some ⟨rb, 0, none⟩))).put (some 19) (.pointer (some ⟨rb, 0, none⟩))).put (some 23) (.pointer (some ⟨rb, 0, none⟩))).put (some 26) (.pointer (some ⟨rb, 0, none⟩))).put (some 5) (.pointer (some ⟨b22, 0, none⟩))) ∧ Hid (PI rb (B + 1102) W0 L w1 W) ∧ Hid (MemA L w1 (.agg #[.slice xa ram.length xc, .slice xb rom.length xd, .int .i64 bank]) ram rom bank) ∧ Hid (ram.length ≤ 256) ∧ Hid (W0.heap.size ≤ L) ∧ Hid (L ≤ w1.heap.size) ∧ Hid (Zero9 rb W b22) ∧ Hid (rb < b22) ∧ Hid (W0.heap.size ≤ b22) ∧ Hid (b22 < L ∨ w1.heap.size ≤ b22)) ?_ (fun HD22 => ?_)
    · rintro act9 W ⟨L, w1, xa, xc, xb, xd, ram, rom, bank, a4, x6, q7, b22, rfl, hF, hMM, hr1, hL0, hL1, h22, hr22, hw22, hl22⟩
      subst hA0
      have hlW := hF.out.rd.lt
      (try simp only [Act.put, List.setIfInBounds_toArray, List.set_cons_zero, List.set_cons_succ])
      refine wpAny_ready (rs := [9]) (by kernel_rfl) (by simp) ?_
      refine AllReady.cons (o := ({ dst := some 16, op := Op.call { callee := Callee.value (Operand.func 12), args := #[Operand.tmp 15, Operand.const (Value.int IntKind.i64 256)], argTypes := #[36, 3] }, type := 3, pos := "l20_draw.go:285", after := #[{ on := 8, ground := Ground.data }, { on := 6, ground := Ground.chain }], guard := none } : Oper)) rfl (fun K hK => ?_) ?_
      · go_simp
        refine (pick (B := (B + 1102)) _ hF.out.rd (by omega)).mono ?_
        rintro e W' ⟨v9, rfl, ⟨x9, rfl, y9, z9⟩, hR', hK'⟩
        first | (refine hK _ _ ?_; clear hK K) | (go_wp2_with fail; (try (refine hK _ _ ?_)); (try clear hK K))
        (try simp only [Act.put, List.setIfInBounds_toArray, List.set_cons_zero, List.set_cons_succ])
        refine wpAny_take (i := 10) (oi := ({ dst := some 17, op := Op.binOp BinOp.mul 3 (Operand.tmp 16) (Operand.const (Value.int IntKind.i64 4)) 3, type := 3, pos := "l20_draw.go:285", after := #[{ on := 9, ground := Ground.data }], guard := none } : Oper)) (v := ?_) rfl (by kernel_rfl) (by kernel_rfl) (by kernel_rfl) (fun _ _ _ h => h) (Or.inl ⟨by rfl, ?_⟩) ?_
        rotate_left
        · intro wq; go_simp; (try with_reducible rfl)
        (try simp only [Act.put, List.setIfInBounds_toArray, List.set_cons_zero, List.set_cons_succ])
        refine wpAny_to (by kernel_rfl) (by kernel_rfl) (HD20.out _ _ ?_)
        apply Exists.intro
        apply Exists.intro
        apply Exists.intro
        apply Exists.intro
        apply Exists.intro
        apply Exists.intro
        apply Exists.intro
        apply Exists.intro
        apply Exists.intro
        apply Exists.intro
        apply Exists.intro
        apply Exists.intro
        apply Exists.intro
        apply Exists.intro
        apply Exists.intro
        refine ⟨?_, ?_, ?_, ?_, ?_, ?_, ?_, ?_, ?_, ?_⟩
        · (try simp only [Act.put, List.setIfInBounds_toArray, List.set_cons_zero, List.set_cons_succ]); (try rfl)
        · exact hF.out.keep hK' hR'
        · exact hMM.out
        · exact hr1.out
        · exact hL0.out
        · exact hL1.out
        · exact h22.out.keep hK'
        · exact hr22.out
        · exact hw22.out
        · exact hl22.out
      exact AllReady.nil
    refine wpAny_pre 12 #[true, true, true, true, true, true, true, true, true, false, false, false, true, false, false, false, true, false, false, true, false, false, false, false] (fun act9 W => ∃ L : Nat, ∃ w1 : World, ∃ xa : Option Addr, ∃ xc : Nat, ∃ xb : Option Addr, ∃ xd : Nat, ∃ ram : List Int, ∃ rom : List (List Int), ∃ bank : Int, ∃ a4 : Int, ∃ x6 : Int, ∃ q7 : Int, act9 = ((((((((((((A0.put (some 7) (.pointer (some ⟨rb, 0, none⟩))).put (some 8) (.int .i64 n)).put (some 9) (.agg #[.slice xa ram.length xc, .slice xb rom.length xd, .int .i64 bank])).put (some 10) (.pointer (some ⟨rb, 0, none⟩))).put (some 11) (.int .i64 a4)).put (some 12) (.pointer (some ⟨rb, 0, none⟩))).put (some 13) (.int .i64 x6)).put (some 14) (.int .i64 q7)).put (some 15) (.pointer (some ⟨rb, 0, none⟩))).put (some 19) (.pointer (some ⟨rb, 0, none⟩))).put (some 23) (.pointer (some ⟨rb, 0, none⟩))).put (some 26) (.pointer (some ⟨rb, 0, none⟩))) ∧ Hid (PI rb (B + 1102) W0 L w1 W) ∧ Hid (MemA L w1 (.agg #[.slice xa ram.length xc, .slice xb rom.length xd, .int .i64 bank]) ram rom bank) ∧ Hid (ram.length ≤ 256) ∧ Hid (W0.heap.size ≤ L) ∧ Hid (L ≤ w1.heap.size)) ?_ (fun HD23 => ?_)
    · rintro act9 W ⟨L, w1, xa, xc, xb, xd, ram, rom, bank, a4, x6, q7, rfl, hF, hMM, hr1, hL0, hL1⟩
      subst hA0
      have hlW := hF.out.rd.lt
      (try simp only [Act.put, List.setIfInBounds_toArray, List.set_cons_zero, List.set_cons_succ])
      refine wpAny_ready (rs := [9, 22]) (by kernel_rfl) (by simp) ?_
      refine AllReady.cons (o := ({ dst := some 16, op := Op.call { callee := Callee.value (Operand.func 12), args := #[Operand.tmp 15, Operand.const (Value.int IntKind.i64 256)], argTypes := #[36, 3] }, type := 3, pos := "l20_draw.go:285", after := #[{ on := 8, ground := Ground.data }, { on := 6, ground := Ground.chain }], guard := none } : Oper)) rfl (fun K hK => ?_) ?_
      · go_simp
        refine (pick (B := (B + 1102)) _ hF.out.rd (by omega)).mono ?_
        rintro e W' ⟨v9, rfl, ⟨x9, rfl, y9, z9⟩, hR', hK'⟩
        first | (refine hK _ _ ?_; clear hK K) | (go_wp2_with fail; (try (refine hK _ _ ?_)); (try clear hK K))
        (try simp only [Act.put, List.setIfInBounds_toArray, List.set_cons_zero, List.set_cons_succ])
        refine wpAny_take (i := 10) (oi := ({ dst := some 17, op := Op.binOp BinOp.mul 3 (Operand.tmp 16) (Operand.const (Value.int IntKind.i64 4)) 3, type := 3, pos := "l20_draw.go:285", after := #[{ on := 9, ground := Ground.data }], guard := none } : Oper)) (v := ?_) rfl (by kernel_rfl) (by kernel_rfl) (by kernel_rfl) (fun _ _ _ h => h) (Or.inl ⟨by rfl, ?_⟩) ?_
        rotate_left
        · intro wq; go_simp; (try with_reducible rfl)
        (try simp only [Act.put, List.setIfInBounds_toArray, List.set_cons_zero, List.set_cons_succ])
        refine wpAny_to (by kernel_rfl) (by kernel_rfl) (HD21.out _ _ ?_)
        apply Exists.intro
        apply Exists.intro
        apply Exists.intro
        apply Exists.intro
        apply Exists.intro
        apply Exists.intro
        apply Exists.intro
        apply Exists.intro
        apply Exists.intro
        apply Exists.intro
        apply Exists.intro
        apply Exists.intro
        apply Exists.intro
        apply Exists.intro
        refine ⟨?_, ?_, ?_, ?_, ?_, ?_⟩
        · (try simp only [Act.put, List.setIfInBounds_toArray, List.set_cons_zero, List.set_cons_succ]); (try rfl)
        · exact hF.out.keep hK' hR'
        · exact hMM.out
        · exact hr1.out
        · exact hL0.out
        · exact hL1.out
      refine AllReady.cons (o := ({ dst := some 5, op := Op.alloc 28, type := 0, pos := "l20_draw.go:285", after := #[], guard := none } : Oper)) rfl (fun K hK => ?_) ?_
      · go_simp
        refine hK _ _ ?_
        clear hK K
        (try simp only [Act.put, List.setIfInBounds_toArray, List.set_cons_zero, List.set_cons_succ])
        refine wpAny_to (by kernel_rfl) (by kernel_rfl) (HD22.out _ _ ?_)
        apply Exists.intro
        apply Exists.intro
        apply Exists.intro
        apply Exists.intro
        apply Exists.intro
        apply Exists.intro
        apply Exists.intro
        apply Exists.intro
        apply Exists.intro
        apply Exists.intro
        apply Exists.intro
        apply Exists.intro
        apply Exists.intro
        refine ⟨?_, ?_, ?_, ?_, ?_, ?_, ?_, ?_, ?_, ?_⟩
        · (try simp only [Act.put, List.setIfInBounds_toArray, List.set_cons_zero, List.set_cons_succ]); (try rfl)
        · exact hF.out.alloc _
        · exact hMM.out
        · exact hr1.out
        · exact hL0.out
        · exact hL1.out
        · exact Zero9.new hlW
        · exact hlW
        · exact (by first | exact hF.out.keep.size | exact hF.out.kp.size)
        · exact .inr hF.out.sz
      exact AllReady.nil
    refine wpAny_pre 13 #[true, true, true, true, true, true, false, false, true, false, false, false, true, false, false, false, true, false, false, true, false, false, true, false] (fun act9 W => ∃ L : Nat, ∃ w1 : World, ∃ xa : Option Addr, ∃ xc : Nat, ∃ xb : Option Addr, ∃ xd : Nat, ∃ ram : List Int, ∃ rom : List (List Int), ∃ bank : Int, ∃ a4 : Int, ∃ b22 : Nat, act9 = (((((((((((A0.put (some 7) (.pointer (some ⟨rb, 0, none⟩))).put (some 8) (.int .i64 n)).put (some 9) (.agg #[.slice xa ram.length xc, .slice xb rom.length xd, .int .i64 bank])).put (some 10) (.pointer (some ⟨rb, 0, none⟩))).put (some 11) (.int .i64 a4)).put (some 12) (.pointer (some ⟨rb, 0, none⟩))).put (some 15) (.pointer (some ⟨rb, 0, none⟩))).put (some 19) (.pointer (some ⟨rb, 0, none⟩))).put (some 23) (.pointer (some ⟨rb, 0, none⟩))).put (some 26) (.pointer (some ⟨rb, 0, none⟩))).put (some 5) (.pointer (some ⟨b22, 0, none⟩))) ∧ Hid (PI rb (B + 1101) W0 L w1 W) ∧ Hid (MemA L w1 (.agg #[.slice xa ram.length xc, .slice xb rom.length xd, .int .i64 bank]) ram rom bank) ∧ Hid (ram.length ≤ 256) ∧ Hid (W0.heap.size ≤ L) ∧ Hid (L ≤ w1.heap.size) ∧ Hid (Zero9 rb W b22) ∧ Hid (rb < b22) ∧ Hid (W0.heap.size ≤ b22) ∧ Hid (b22 < L ∨ w1.heap.size ≤ b22)) ?_ (fun HD24 => ?_)
    · rintro act9 W ⟨L, w1, xa, xc, xb, xd, ram, rom, bank, a4, b22, rfl, hF, hMM, hr1, hL0, hL1, h22, hr22, hw22, hl22⟩
      subst hA0
      have hlW := hF.out.rd.lt
      (try simp only [Act.put, List.setIfInBounds_toArray, List.set_cons_zero, List.set_cons_succ])
      refine wpAny_ready (rs := [6]) (by kernel_rfl) (by simp) ?_
      refine AllReady.cons (o := ({ dst := some 13, op := Op.call { callee := Callee.value (Operand.func 12), args := #[Operand.tmp 12, Operand.const (Value.int IntKind.i64 30)], argTypes := #[36, 3] }, type := 3, pos := "l20_draw.go:285", after := #[{ on := 5, ground := Ground.data }, { on := 4, ground := Ground.chain }], guard := none } : Oper)) rfl (fun K hK => ?_) ?_
      · go_simp
        refine (pick (B := (B + 1101)) _ hF.out.rd (by omega)).mono ?_
        rintro e W' ⟨v6, rfl, ⟨x6, rfl, y6, z6⟩, hR', hK'⟩
        first | (refine hK _ _ ?_; clear hK K) | (go_wp2_with fail; (try (refine hK _ _ ?_)); (try clear hK K))
        (try simp only [Act.put, List.setIfInBounds_toArray, List.set_cons_zero, List.set_cons_succ])
        refine wpAny_take (i := 7) (oi := ({ dst := some 14, op := Op.binOp BinOp.add 3 (Operand.const (Value.int IntKind.i64 512)) (Operand.tmp 13) 3, type := 3, pos := "l20_draw.go:285", after := #[{ on := 6, ground := Ground.data }], guard := none } : Oper)) (v := ?_) rfl (by kernel_rfl) (by kernel_rfl) (by kernel_rfl) (fun _ _ _ h => h) (Or.inl ⟨by rfl, ?_⟩) ?_
        rotate_left
        · intro wq; go_simp; (try with_reducible rfl)
        (try simp only [Act.put, List.setIfInBounds_toArray, List.set_cons_zero, List.set_cons_succ])
        refine wpAny_to (by kernel_rfl) (by kernel_rfl) (HD22.out _ _ ?_)
        apply Exists.intro
        apply Exists.intro
        apply Exists.intro
        apply Exists.intro
        apply Exists.intro
        apply Exists.intro
        apply Exists.intro
        apply Exists.intro
        apply Exists.intro
        apply Exists.intro
        apply Exists.intro
        apply Exists.intro
        apply Exists.intro
        refine ⟨?_, ?_, ?_, ?_, ?_, ?_, ?_, ?_, ?_, ?_⟩
        · (try simp only [Act.put, List.setIfInBounds_toArray, List.set_cons_zero, List.set_cons_succ]); (try rfl)
        · exact hF.out.keep hK' hR'
        · exact hMM.out
        · exact hr1.out
        · exact hL0.out
        · exact hL1.out
        · exact h22.out.keep hK'
        · exact hr22.out
        · exact hw22.out
        · exact hl22.out
      exact AllReady.nil
    refine wpAny_pre 14 #[true, true, true, true, true, true, false, false, true, false, false, false, true, false, false, false, true, false, false, true, false, false, false, false] (fun act9 W => ∃ L : Nat, ∃ w1 : World, ∃ xa : Option Addr, ∃ xc : Nat, ∃ xb : Option Addr, ∃ xd : Nat, ∃ ram : List Int, ∃ rom : List (List Int), ∃ bank : Int, ∃ a4 : Int, act9 = ((((((((((A0.put (some 7) (.pointer (some ⟨rb, 0, none⟩))).put (some 8) (.int .i64 n)).put (some 9) (.agg #[.slice xa ram.length xc, .slice xb rom.length xd, .int .i64 bank])).put (some 10) (.pointer (some ⟨rb, 0, none⟩))).put (some 11) (.int .i64 a4)).put (some 12) (.pointer (some ⟨rb, 0, none⟩))).put (some 15) (.pointer (some ⟨rb, 0, none⟩))).put (some 19) (.pointer (some ⟨rb, 0, none⟩))).put (some 23) (.pointer (some ⟨rb, 0, none⟩))).put (some 26) (.pointer (some ⟨rb, 0, none⟩))) ∧ Hid (PI rb (B + 1101) W0 L w1 W) ∧ Hid (MemA L w1 (.agg #[.slice xa ram.length xc, .slice xb rom.length xd, .int .i64 bank]) ram rom bank) ∧ Hid (ram.length ≤ 256) ∧ Hid (W0.heap.size ≤ L) ∧ Hid (L ≤ w1.heap.size)) ?_ (fun HD25 => ?_)
    · rintro act9 W ⟨L, w1, xa, xc, xb, xd, ram, rom, bank, a4, rfl, hF, hMM, hr1, hL0, hL1⟩
      subst hA0
      have hlW := hF.out.rd.lt
      (try simp only [Act.put, List.setIfInBounds_toArray, List.set_cons_zero, List.set_cons_succ])
      refine wpAny_ready (rs := [6, 22]) (by kernel_rfl) (by simp) ?_
      refine AllReady.cons (o := ({ dst := some 13, op := Op.call { callee := Callee.value (Operand.func 12), args := #[Operand.tmp 12, Operand.const (Value.int IntKind.i64 30)], argTypes := #[36, 3] }, type := 3, pos := "l20_draw.go:285", after := #[{ on := 5, ground := Ground.data }, { on := 4, ground := Ground.chain }], guard := none } : Oper)) rfl (fun K hK => ?_) ?_
      · go_simp
        refine (pick (B := (B + 1101)) _ hF.out.rd (by omega)).mono ?_
        rintro e W' ⟨v6, rfl, ⟨x6, rfl, y6, z6⟩, hR', hK'⟩
        first | (refine hK _ _ ?_; clear hK K) | (go_wp2_with fail; (try (refine hK _ _ ?_)); (try clear hK K))
        (try simp only [Act.put, List.setIfInBounds_toArray, List.set_cons_zero, List.set_cons_succ])
        refine wpAny_take (i := 7) (oi := ({ dst := some 14, op := Op.binOp BinOp.add 3 (Operand.const (Value.int IntKind.i64 512)) (Operand.tmp 13) 3, type := 3, pos := "l20_draw.go:285", after := #[{ on := 6, ground := Ground.data }], guard := none } : Oper)) (v := ?_) rfl (by kernel_rfl) (by kernel_rfl) (by kernel_rfl) (fun _ _ _ h => h) (Or.inl ⟨by rfl, ?_⟩) ?_
        rotate_left
        · intro wq; go_simp; (try with_reducible rfl)
        (try simp only [Act.put, List.setIfInBounds_toArray, List.set_cons_zero, List.set_cons_succ])
        refine wpAny_to (by kernel_rfl) (by kernel_rfl) (HD23.out _ _ ?_)
        apply Exists.intro
        apply Exists.intro
        apply Exists.intro
        apply Exists.intro
        apply Exists.intro
        apply Exists.intro
        apply Exists.intro
        apply Exists.intro
        apply Exists.intro
        apply Exists.intro
        apply Exists.intro
        apply Exists.intro
        refine ⟨?_, ?_, ?_, ?_, ?_, ?_⟩
        · (try simp only [Act.put, List.setIfInBounds_toArray, List.set_cons_zero, List.set_cons_succ]); (try rfl)
        · exact hF.out.keep hK' hR'
        · exact hMM.out
        · exact hr1.out
        · exact hL0.out
        · exact hL1.out
      refine AllReady.cons (o := ({ dst := some 5, op := Op.alloc 28, type := 0, pos := "l20_draw.go:285", after := #[], guard := none } : Oper)) rfl (fun K hK => ?_) ?_
      · go_simp
        refine hK _ _ ?_
        clear hK K
        (try simp only [Act.put, List.setIfInBounds_toArray, List.set_cons_zero, List.set_cons_succ])
        refine wpAny_to (by kernel_rfl) (by kernel_rfl) (HD24.out _ _ ?_)
        apply Exists.intro
        apply Exists.intro
        apply Exists.intro
        apply Exists.intro
        apply Exists.intro
        apply Exists.intro
        apply Exists.intro
        apply Exists.intro
        apply Exists.intro
        apply Exists.intro
        apply Exists.intro
        refine ⟨?_, ?_, ?_, ?_, ?_, ?_, ?_, ?_, ?_, ?_⟩
        · (try simp only [Act.put, List.setIfInBounds_toArray, List.set_cons_zero, List.set_cons_succ]); (try rfl)
        · exact hF.out.alloc _
        · exact hMM.out
        · exact hr1.out
        · exact hL0.out
        · exact hL1.out
        · exact Zero9.new hlW
        · exact hlW
        · exact (by first | exact hF.out.keep.size | exact hF.out.kp.size)
        · exact .inr hF.out.sz
      exact AllReady.nil
    refine wpAny_pre 14 #[true, true, true, true, false, true, false, false, true, false, false, false, true, false, false, false, true, false, false, true, false, false, true, false] (fun act9 W => ∃ L : Nat, ∃ w1 : World, ∃ xa : Option Addr, ∃ xc : Nat, ∃ xb : Option Addr, ∃ xd : Nat, ∃ ram : List Int, ∃ rom : List (List Int), ∃ bank : Int, ∃ b22 : Nat, act9 = ((((((((((A0.put (some 7) (.pointer (some ⟨rb, 0, none⟩))).put (some 8) (.int .i64 n)).put (some 9) (.agg #[.slice xa ram.length xc, .slice xb rom.length xd, .int .i64 bank])).put (some 10) (.pointer (some ⟨rb, 0, none⟩))).put (some 12) (.pointer (some ⟨rb, 0, none⟩))).put (some 15) (.pointer (some ⟨rb, 0, none⟩))).put (some 19) (.pointer (some ⟨rb, 0, none⟩))).put (some 23) (.pointer (some ⟨rb, 0, none⟩))).put (some 26) (.pointer (some ⟨rb, 0, none⟩))).put (some 5) (.pointer (some ⟨b22, 0, none⟩))) ∧ Hid (PI rb (B + 1100) W0 L w1 W) ∧ Hid (MemA L w1 (.agg #[.slice xa ram.length xc, .slice xb rom.length xd, .int .i64 bank]) ram rom bank) ∧ Hid (ram.length ≤ 256) ∧ Hid (W0.heap.size ≤ L) ∧ Hid (L ≤ w1.heap.size) ∧ Hid (Zero9 rb W b22) ∧ Hid (rb < b22) ∧ Hid (W0.heap.size ≤ b22) ∧ Hid (b22 < L ∨ w1.heap.size ≤ b22)) ?_ (fun HD26 => ?_)
    · rintro act9 W ⟨L, w1, xa, xc, xb, xd, ram, rom, bank, b22, rfl, hF, hMM, hr1, hL0, hL1, h22, hr22, hw22, hl22⟩
      subst hA0
      have hlW := hF.out.rd.lt
      (try simp only [Act.put, List.setIfInBounds_toArray, List.set_cons_zero, List.set_cons_succ])
      refine wpAny_ready (rs := [4]) (by kernel_rfl) (by simp) ?_
      refine AllReady.cons (o := ({ dst := some 11, op := Op.call { callee := Callee.value (Operand.func 12), args := #[Operand.tmp 10, Operand.const (Value.int IntKind.i64 256)], argTypes := #[36, 3] }, type := 3, pos := "l20_draw.go:285", after := #[{ on := 3, ground := Ground.data }, { on := 2, ground := Ground.chain }], guard := none } : Oper)) rfl (fun K hK => ?_) ?_
      · go_simp
        refine (pick (B := (B + 1100)) _ hF.out.rd (by omega)).mono ?_
        rintro e W' ⟨v4, rfl, ⟨a4, rfl, y4, z4⟩, hR', hK'⟩
        first | (refine hK _ _ ?_; clear hK K) | (go_wp2_with fail; (try (refine hK _ _ ?_)); (try clear hK K))
        (try simp only [Act.put, List.setIfInBounds_toArray, List.set_cons_zero, List.set_cons_succ])
        refine wpAny_to (by kernel_rfl) (by kernel_rfl) (HD24.out _ _ ?_)
        apply Exists.intro
        apply Exists.intro
        apply Exists.intro
        apply Exists.intro
        apply Exists.intro
        apply Exists.intro
        apply Exists.intro
        apply Exists.intro
        apply Exists.intro
        apply Exists.intro
        apply Exists.intro
        refine ⟨?_, ?_, ?_, ?_, ?_, ?_, ?_, ?_, ?_, ?_⟩
        · (try simp only [Act.put, List.setIfInBounds_toArray, List.set_cons_zero, List.set_cons_succ]); (try rfl)
        · exact hF.out.keep hK' hR'
        · exact hMM.out
        · exact hr1.out
        · exact hL0.out
        · exact hL1.out
        · exact h22.out.keep hK'
        · exact hr22.out
        · exact hw22.out
        · exact hl22.out
      exact AllReady.nil
    refine wpAny_pre 15 #[true, true, true, true, false, true, false, false, true, false, false, false, true, false, false, false, true, false, false, true, false, false, false, false] (fun act9 W => ∃ L : Nat, ∃ w1 : World, ∃ xa : Option Addr, ∃ xc : Nat, ∃ xb : Option Addr, ∃ xd : Nat, ∃ ram : List Int, ∃ rom : List (List Int), ∃ bank : Int, act9 = (((((((((A0.put (some 7) (.pointer (some ⟨rb, 0, none⟩))).put (some 8) (.int .i64 n)).put (some 9) (.agg #[.slice xa ram.length xc, .slice xb rom.length xd, .int .i64 bank])).put (some 10) (.pointer (some ⟨rb, 0, none⟩))).put (some 12) (.pointer (some ⟨rb, 0, none⟩))).put (some 15) (.pointer (some ⟨rb, 0, none⟩))).put (some 19) (.pointer (some ⟨rb, 0, none⟩))).put (some 23) (.pointer (some ⟨rb, 0, none⟩))).put (some 26) (.pointer (some ⟨rb, 0, none⟩))) ∧ Hid (PI rb (B + 1100) W0 L w1 W) ∧ Hid (MemA L w1 (.agg #[.slice xa ram.length xc, .slice xb rom.length xd, .int .i64 bank]) ram rom bank) ∧ Hid (ram.length ≤ 256) ∧ Hid (W0.heap.size ≤ L) ∧ Hid (L ≤ w1.heap.size)) ?_ (fun HD27 => ?_)
    · rintro act9 W ⟨L, w1, xa, xc, xb, xd, ram, rom, bank, rfl, hF, hMM, hr1, hL0, hL1⟩
      subst hA0
      have hlW := hF.out.rd.lt
      (try simp only [Act.put, List.setIfInBounds_toArray, List.set_cons_zero, List.set_cons_succ])
      refine wpAny_ready (rs := [4, 22]) (by kernel_rfl) (by simp) ?_
      refine AllReady.cons (o := ({ dst := some 11, op := Op.call { callee := Callee.value (Operand.func 12), args := #[Operand.tmp 10, Operand.const (Value.int IntKind.i64 256)], argTypes := #[36, 3] }, type := 3, pos := "l20_draw.go:285", after := #[{ on := 3, ground := Ground.data }, { on := 2, ground := Ground.chain }], guard := none } : Oper)) rfl (fun K hK => ?_) ?_
      · go_simp
        refine (pick (B := (B + 1100)) _ hF.out.rd (by omega)).mono ?_
        rintro e W' ⟨v4, rfl, ⟨a4, rfl, y4, z4⟩, hR', hK'⟩
        first | (refine hK _ _ ?_; clear hK K) | (go_wp2_with fail; (try (refine hK _ _ ?_)); (try clear hK K))
        (try simp only [Act.put, List.setIfInBounds_toArray, List.set_cons_zero, List.set_cons_succ])
        refine wpAny_to (by kernel_rfl) (by kernel_rfl) (HD25.out _ _ ?_)
        apply Exists.intro
        apply Exists.intro
        apply Exists.intro
        apply Exists.intro
        apply Exists.intro
        apply Exists.intro
        apply Exists.intro
        apply Exists.intro
        apply Exists.intro
        apply Exists.intro
        refine ⟨?_, ?_, ?_, ?_, ?_, ?_⟩
        · (try simp only [Act.put, List.setIfInBounds_toArray, List.set_cons_zero, List.set_cons_succ]); (try rfl)
        · exact hF.out.keep hK' hR'
        · exact hMM.out
        · exact hr1.out
        · exact hL0.out
        · exact hL1.out
      refine AllReady.cons (o := ({ dst := some 5, op := Op.alloc 28, type := 0, pos := "l20_draw.go:285", after := #[], guard := none } : Oper)) rfl (fun K hK => ?_) ?_
      · go_simp
        refine hK _ _ ?_
        clear hK K
        (try simp only [Act.put, List.setIfInBounds_toArray, List.set_cons_zero, List.set_cons_succ])
        refine wpAny_to (by kernel_rfl) (by kernel_rfl) (HD26.out _ _ ?_)
        apply Exists.intro
        apply Exists.intro
        apply Exists.intro
        apply Exists.intro
        apply Exists.intro
        apply Exists.intro
        apply Exists.intro
        apply Exists.intro
        apply Exists.intro
        apply Exists.intro
        refine ⟨?_, ?_, ?_, ?_, ?_, ?_, ?_, ?_, ?_, ?_⟩
        · (try simp only [Act.put, List.setIfInBounds_toArray, List.set_cons_zero, List.set_cons_succ]); (try rfl)
        · exact hF.out.alloc _
        · exact hMM.out
        · exact hr1.out
        · exact hL0.out
        · exact hL1.out
        · exact Zero9.new hlW
        · exact hlW
        · exact (by first | exact hF.out.keep.size | exact hF.out.kp.size)
        · exact .inr hF.out.sz
      exact AllReady.nil
    refine wpAny_pre 15 #[true, true, false, true, false, true, false, false, true, false, false, false, true, false, false, false, true, false, false, true, false, false, true, false] (fun act9 W => ∃ b22 : Nat, act9 = (((((((((A0.put (some 7) (.pointer (some ⟨rb, 0, none⟩))).put (some 8) (.int .i64 n)).put (some 10) (.pointer (some ⟨rb, 0, none⟩))).put (some 12) (.pointer (some ⟨rb, 0, none⟩))).put (some 15) (.pointer (some ⟨rb, 0, none⟩))).put (some 19) (.pointer (some ⟨rb, 0, none⟩))).put (some 23) (.pointer (some ⟨rb, 0, none⟩))).put (some 26) (.pointer (some ⟨rb, 0, none⟩))).put (some 5) (.pointer (some ⟨b22, 0, none⟩))) ∧ Hid (MF rb W0 (B + 0) W) ∧ Hid (Zero9 rb W b22) ∧ Hid (rb < b22) ∧ Hid (W0.heap.size ≤ b22)) ?_ (fun HD28 => ?_)
    · rintro act9 W ⟨b22, rfl, hF, h22, hr22, hw22⟩
      subst hA0
      have hlW := hF.out.rd.lt
      (try simp only [Act.put, List.setIfInBounds_toArray, List.set_cons_zero, List.set_cons_succ])
      refine wpAny_ready (rs := [2]) (by kernel_rfl) (by simp) ?_
      refine AllReady.cons (o := ({ dst := some 9, op := Op.call { callee := Callee.value (Operand.func 25), args := #[Operand.tmp 7, Operand.tmp 8], argTypes := #[36, 3] }, type := 26, pos := "l20_draw.go:285", after := #[{ on := 0, ground := Ground.data }, { on := 1, ground := Ground.data }], guard := none } : Oper)) rfl (fun K hK => ?_) ?_
      · go_simp
        refine (l20Memory (B := (B + 0)) n hF.out.rd (by omega)).mono ?_
        rintro e W' ⟨v1, ram, rom, bank, rfl, hm, hr1', hr2, hr3, hR', hK'⟩
        obtain ⟨xa, xc, xb, xd, rfl, _⟩ := memV_shape hm.mem
        have hMM := Lib.hid hm
        have hr1 := Lib.hid hr1'
        clear hm hr1' hr2 hr3
        first | (refine hK _ _ ?_; clear hK K) | (go_wp2_with fail; (try (refine hK _ _ ?_)); (try clear hK K))
        (try simp only [Act.put, List.setIfInBounds_toArray, List.set_cons_zero, List.set_cons_succ])
        refine wpAny_to (by kernel_rfl) (by kernel_rfl) (HD26.out _ _ ?_)
        apply Exists.intro
        apply Exists.intro
        apply Exists.intro
        apply Exists.intro
        apply Exists.intro
        apply Exists.intro
        apply Exists.intro
        apply Exists.intro
        apply Exists.intro
        apply Exists.intro
        refine ⟨?_, ?_, ?_, ?_, ?_, ?_, ?_, ?_, ?_, ?_⟩
        · (try simp only [Act.put, List.setIfInBounds_toArray, List.set_cons_zero, List.set_cons_succ]); (try rfl)
        · exact ⟨Agree.refl _ _ _, hR', hF.out.keep.trans hK', Nat.le_refl _, hlW, (hF.out.keep.trans hK').size⟩
        · exact hMM.out
        · exact hr1.out
        · exact hF.out.keep.size
        · exact hK'.size
        · exact h22.out.keep hK'
        · exact hr22.out
        · exact hw22.out
        · exact .inl h22.out.1.lt
      exact AllReady.nil
    refine wpAny_pre 16 #[true, true, false, true, false, true, false, false, true, false, false, false, true, false, false, false, true, false, false, true, false, false, false, false] (fun act9 W => act9 = ((((((((A0.put (some 7) (.pointer (some ⟨rb, 0, none⟩))).put (some 8) (.int .i64 n)).put (some 10) (.pointer (some ⟨rb, 0, none⟩))).put (some 12) (.pointer (some ⟨rb, 0, none⟩))).put (some 15) (.pointer (some ⟨rb, 0, none⟩))).put (some 19) (.pointer (some ⟨rb, 0, none⟩))).put (some 23) (.pointer (some ⟨rb, 0, none⟩))).put (some 26) (.pointer (some ⟨rb, 0, none⟩))) ∧ Hid (MF rb W0 (B + 0) W)) ?_ (fun HD29 => ?_)
    · rintro act9 W ⟨rfl, hF⟩
      subst hA0
      have hlW := hF.out.rd.lt
      (try simp only [Act.put, List.setIfInBounds_toArray, List.set_cons_zero, List.set_cons_succ])
      refine wpAny_ready (rs := [2, 22]) (by kernel_rfl) (by simp) ?_
      refine AllReady.cons (o := ({ dst := some 9, op := Op.call { callee := Callee.value (Operand.func 25), args := #[Operand.tmp 7, Operand.tmp 8], argTypes := #[36, 3] }, type := 26, pos := "l20_draw.go:285", after := #[{ on := 0, ground := Ground.data }, { on := 1, ground := Ground.data }], guard := none } : Oper)) rfl (fun K hK => ?_) ?_
      · go_simp
        refine (l20Memory (B := (B + 0)) n hF.out.rd (by omega)).mono ?_
        rintro e W' ⟨v1, ram, rom, bank, rfl, hm, hr1', hr2, hr3, hR', hK'⟩
        obtain ⟨xa, xc, xb, xd, rfl, _⟩ := memV_shape hm.mem
        have hMM := Lib.hid hm
        have hr1 := Lib.hid hr1'
        clear hm hr1' hr2 hr3
        first | (refine hK _ _ ?_; clear hK K) | (go_wp2_with fail; (try (refine hK _ _ ?_)); (try clear hK K))
        (try simp only [Act.put, List.setIfInBounds_toArray, List.set_cons_zero, List.set_cons_succ])
        refine wpAny_to (by kernel_rfl) (by kernel_rfl) (HD27.out _ _ ?_)
        apply Exists.intro
        apply Exists.intro
        apply Exists.intro
        apply Exists.intro
        apply Exists.intro
        apply Exists.intro
        apply Exists.intro
        apply Exists.intro
        apply Exists.intro
        refine ⟨?_, ?_, ?_, ?_, ?_, ?_⟩
        · (try simp only [Act.put, List.setIfInBounds_toArray, List.set_cons_zero, List.set_cons_succ]); (try rfl)
        · exact ⟨Agree.refl _ _ _, hR', hF.out.keep.trans hK', Nat.le_refl _, hlW, (hF.out.keep.trans hK').size⟩
        · exact hMM.out
        · exact hr1.out
        · exact hF.out.keep.size
        · exact hK'.size
      refine AllReady.cons (o := ({ dst := some 5, op := Op.alloc 28, type := 0, pos := "l20_draw.go:285", after := #[], guard := none } : Oper)) rfl (fun K hK => ?_) ?_
      · go_simp
        refine hK _ _ ?_
        clear hK K
        (try simp only [Act.put, List.setIfInBounds_toArray, List.set_cons_zero, List.set_cons_succ])
        refine wpAny_to (by kernel_rfl) (by kernel_rfl) (HD28.out _ _ ?_)
        apply Exists.intro
        refine ⟨?_, ?_, ?_, ?_, ?_⟩
        · (try simp only [Act.put, List.setIfInBounds_toArray, List.set_cons_zero, List.set_cons_succ]); (try rfl)
        · exact hF.out.alloc _
        · exact Zero9.new hlW
        · exact hlW
        · exact (by first | exact hF.out.keep.size | exact hF.out.kp.size)
      exact AllReady.nil
    subst hA0
    refine wpAny_take (i := 0) (oi := ({ dst := some 7, op := Op.move (Operand.tmp 0), type := 36, pos := "l20_draw.go:285", after := #[], guard := none } : Oper)) (v := ?_) rfl (by kernel_rfl) (by kernel_rfl) (by kernel_rfl) (fun _ _ _ h => h) (Or.inl ⟨by rfl, ?_⟩) ?_
    rotate_left
    · intro wq; go_simp; (try with_reducible rfl)
    (try simp only [Act.put, List.setIfInBounds_toArray, List.set_cons_zero, List.set_cons_succ])
    refine wpAny_take (i := 1) (oi := ({ dst := some 8, op := Op.move (Operand.tmp 1), type := 3, pos := "l20_draw.go:285", after := #[], guard := none } : Oper)) (v := ?_) rfl (by kernel_rfl) (by kernel_rfl) (by kernel_rfl) (fun _ _ _ h => h) (Or.inl ⟨by rfl, ?_⟩) ?_
    rotate_left
    · intro wq; go_simp; (try with_reducible rfl)
    (try simp only [Act.put, List.setIfInBounds_toArray, List.set_cons_zero, List.set_cons_succ])
    refine wpAny_take (i := 3) (oi := ({ dst := some 10, op := Op.move (Operand.tmp 0), type := 36, pos := "l20_draw.go:285", after := #[], guard := none } : Oper)) (v := ?_) rfl (by kernel_rfl) (by kernel_rfl) (by kernel_rfl) (fun _ _ _ h => h) (Or.inl ⟨by rfl, ?_⟩) ?_
    rotate_left
    · intro wq; go_simp; (try with_reducible rfl)
    (try simp only [Act.put, List.setIfInBounds_toArray, List.set_cons_zero, List.set_cons_succ])
    refine wpAny_take (i := 5) (oi := ({ dst := some 12, op := Op.move (Operand.tmp 0), type := 36, pos := "l20_draw.go:285", after := #[], guard := none } : Oper)) (v := ?_) rfl (by kernel_rfl) (by kernel_rfl) (by kernel_rfl) (fun _ _ _ h => h) (Or.inl ⟨by rfl, ?_⟩) ?_
    rotate_left
    · intro wq; go_simp; (try with_reducible rfl)
    (try simp only [Act.put, List.setIfInBounds_toArray, List.set_cons_zero, List.set_cons_succ])
    refine wpAny_take (i := 8) (oi := ({ dst := some 15, op := Op.move (Operand.tmp 0), type := 36, pos := "l20_draw.go:285", after := #[], guard := none } : Oper)) (v := ?_) rfl (by kernel_rfl) (by kernel_rfl) (by kernel_rfl) (fun _ _ _ h => h) (Or.inl ⟨by rfl, ?_⟩) ?_
    rotate_left
    · intro wq; go_simp; (try with_reducible rfl)
    (try simp only [Act.put, List.setIfInBounds_toArray, List.set_cons_zero, List.set_cons_succ])
    refine wpAny_take (i := 12) (oi := ({ dst := some 19, op := Op.move (Operand.tmp 0), type := 36, pos := "l20_draw.go:285", after := #[], guard := none } : Oper)) (v := ?_) rfl (by kernel_rfl) (by kernel_rfl) (by kernel_rfl) (fun _ _ _ h => h) (Or.inl ⟨by rfl, ?_⟩) ?_
    rotate_left
    · intro wq; go_simp; (try with_reducible rfl)
    (try simp only [Act.put, List.setIfInBounds_toArray, List.set_cons_zero, List.set_cons_succ])
    refine wpAny_take (i := 16) (oi := ({ dst := some 23, op := Op.move (Operand.tmp 0), type := 36, pos := "l20_draw.go:285", after := #[], guard := none } : Oper)) (v := ?_) rfl (by kernel_rfl) (by kernel_rfl) (by kernel_rfl) (fun _ _ _ h => h) (Or.inl ⟨by rfl, ?_⟩) ?_
    rotate_left
    · intro wq; go_simp; (try with_reducible rfl)
    (try simp only [Act.put, List.setIfInBounds_toArray, List.set_cons_zero, List.set_cons_succ])
    refine wpAny_take (i := 19) (oi := ({ dst := some 26, op := Op.move (Operand.tmp 0), type := 36, pos := "l20_draw.go:285", after := #[], guard := none } : Oper)) (v := ?_) rfl (by kernel_rfl) (by kernel_rfl) (by kernel_rfl) (fun _ _ _ h => h) (Or.inl ⟨by rfl, ?_⟩) ?_
    rotate_left
    · intro wq; go_simp; (try with_reducible rfl)
    (try simp only [Act.put, List.setIfInBounds_toArray, List.set_cons_zero, List.set_cons_succ])
    refine wpAny_to (by kernel_rfl) (by kernel_rfl) (HD29.out _ _ ?_)
    refine ⟨?_, hMF⟩
    (try simp only [Act.put, List.setIfInBounds_toArray, List.set_cons_zero, List.set_cons_succ]); (try rfl)
  case rest =>
    obtain ⟨n5, rfl, L, w1, x, y, ram, rom, bank, a, pc, cyc, carry, hm, hr1, hP, hN, hl5, hr5, hw5, hL0, hL1, hcy⟩ := hcut
    obtain ⟨xa, xc, xb, xd, hxy, _⟩ := memV_shape hm.mem
    injection hxy with hxy
    simp only [Array.mk.injEq, List.cons.injEq, and_true] at hxy
    obtain ⟨rfl, rfl⟩ := hxy
    have lN := hN.lt
    have hsz := hP.sz
    have D0 : Hid (RunD rb (B + 1106) W0 L w1 wc.heap.size n5 (.slice xa ram.length xc) (.slice xb rom.length xd) bank a pc carry [] false cyc (.slice none 0 0) wc) := ⟨hP, hN, OwnV.nil _ _ _, hsz, lN, by omega, by omega, Nat.le_refl _, hl5, hr5, hw5, hcy⟩
    have HM := Lib.hid hm
    have RL : w.heap.size < L := by omega
    have KW := Lib.hid KW0.out
    obtain ⟨base, hbase⟩ : ∃ base, base = wc.heap.size := ⟨_, rfl⟩
    rw [← hbase] at D0
    have lB : n5 < base := by omega
    have hwb : w.heap.size < n5 := by omega
    have hnb : w.heap.size ≠ n5 := by omega
    have hnb' : n5 ≠ w.heap.size := by omega
    clear hP hN hm hbase lN hsz RX
    go_wp2_with fail
    refine (pick 9 D0.out.pi.rd (by omega)).mono ?_
    rintro e w2 ⟨v2, rfl, ⟨x2, rfl, y2, z2⟩, hR2, hK2⟩
    obtain ⟨K0, rfl⟩ := Int.eq_ofNat_of_zero_le y2
    have hK0 : K0 ≤ 8 := by omega
    have D2 := Lib.hid (D0.out.keep hK2 hR2)
    clear hR2 hK2 y2 z2
    go_wp2_with fail
    go_loopw [6] (fun s6 wr => ∃ (k : Nat) (z : Value) (xs : List Int), s6 = .int .i64 k ∧ k ≤ 8 ∧ xs.length ≤ 8 - k ∧ Hid (RunD rb (B + 1107 + 2 * (8 - k)) W0 L w1 base n5 (.slice xa ram.length xc) (.slice xb rom.length xd) bank a pc carry xs false cyc z wr)) (fun s6 _ => (intOf s6).toNat)
    case atStart => exact ⟨K0, _, [], rfl, hK0, by simp, D2.out.mono (by omega)⟩
    case round =>
      obtain ⟨k, z, xs, rfl, hk, hxs, DR⟩ := hrel
      by_cases hk0 : 0 < k
      · have hki : (0 : Int) < (k : Int) := by omega
        go_wp2_with fail
        refine (pick 2 DR.out.pi.rd (by omega)).mono ?_
        rintro e w3 ⟨v3, rfl, ⟨x3, rfl, y3, z3⟩, hR3, hK3⟩
        have D3 := Lib.hid (DR.out.keep hK3 hR3)
        clear hR3 hK3
        by_cases h3 : x3 = 0
        · subst h3
          have N3 := D3.out.nine
          have p6 := N3.c6
          have q6 := N3.fz 6
          have lX := N3.lt
          clear N3
          go_wp2_with fail
          have DD := Lib.hid D3.out.drew
          obtain ⟨za, zn, zc, rfl⟩ := ownV_shape3 D3.out.own
          go_region_law (first
            | (go_simp; go_at_call 12; go_loud (refine (pick (B := B + 1107 + 2 * (8 - k) + 1) _ ?_ (by omega)).mono ?_; (first | with_reducible exact D3.out.pi.rd | with_reducible exact DD.out.pi.rd | with_reducible exact D3.out.drew.drew.pi.rd); rintro e w6 ⟨v6, rfl, ⟨x6, rfl, y6, z6⟩, hR6, hK6⟩; (have D6 : Hid (RunD rb (B + 1107 + 2 * (8 - k) + 1 + 1) W0 L w1 base n5 (.slice xa ram.length xc) (.slice xb rom.length xd) bank a pc carry xs false cyc (.slice za zn zc) w6) := (by first | exact RunD.keep D3.out hK6 hR6 | exact RunD.keep DD.out hK6 hR6)); (have p66 := D6.out.nine.c6); (have q66 := D6.out.nine.fz 6); (have l66 := D6.out.nine.lt); (have b66 := D6.out.b5); (have u6 : IntKind.i64.wrap (512 + x6) = 512 + x6 := by (rw [IntKind.wrap_i64]; omega)); clear hR6 hK6))
            | (refine step_appI rfl _ _ rfl base (.slice za zn zc) (.slice (some ⟨_, 0, none⟩) 1 1) xs [512 + x6] rfl rfl ?_ ?_ (by simp only [List.length_singleton]; omega) ?_ ?_; exact (by repeat (first | with_reducible exact D6.out.own | with_reducible refine OwnV.alloc ?_ _ | with_reducible refine OwnV.drew ?_)); exact (by first | exact ints_lit1' (by simp) | exact ints_drew (ints_lit1' (by simp))); exact (by simp; omega); intro z7 w7 ow7 hg7 _; obtain ⟨zb, zm, zd, rfl⟩ := ownV_shape3 ow7; (first | (obtain ⟨ys7, hys7, D7'⟩ := RunD.pushE (RunD.alloc D6.out _) hg7 ow7) | (obtain ⟨ys7, hys7, D7'⟩ := RunD.pushE (RunD.drew (RunD.alloc D6.out _)) hg7 ow7)); (have D7 := Lib.hid D7'); clear D7'; (have n7 : w7.frozen? ⟨n5, 6, none⟩ = false := (by first | exact (RunD.thru (RunD.alloc D6.out _) hg7).fz 6 | exact (RunD.thru (RunD.drew (RunD.alloc D6.out _)) hg7).fz 6)); (have c7 : w7.cell? ⟨n5, 6, none⟩ = some (.slice za zn zc) := (by first | exact (RunD.thru (RunD.alloc D6.out _) hg7).c6 | exact (RunD.thru (RunD.drew (RunD.alloc D6.out _)) hg7).c6))))
          all_goals
            go_wp2_with fail
            go_roundw
            case rel => exact ⟨k - 1, _, _, by go_num, by omega, by omega, D7.out.mono (by omega)⟩
            case measure => simp [intOf]; omega
        · have q3 : (x3 == 0) = false := by simpa using h3
          clear h3 y3 z3
          obtain ⟨W4, hW4⟩ : ∃ W4, W4 = w3 := ⟨_, rfl⟩
          have D4 : Hid (RunD rb (B + 1130) W0 L w1 base n5 (.slice xa ram.length xc) (.slice xb rom.length xd) bank a pc carry xs false cyc z w3) := D3.out.mono (by omega)
          go_wp2_with fail
          refine (odd 12 D4.out.pi.rd (by omega)).mono ?_
          rintro e w5 ⟨v, rfl, ⟨sb, rfl⟩, hR5, hK5⟩
          have D5 := Lib.hid (D4.out.keep hK5 hR5)
          clear hR5 hK5 D4 DR D0 D2
          have p7 := D5.out.nine.c7
          have q7 := D5.out.nine.fz 7
          have D6 := Lib.hid (D5.out.setStop sb)
          clear D5
          go_wp2_with fail
          generalize (w5.setCell ⟨n5, 7, none⟩ (.bool sb)) = w6 at *
          clear p7 q7
          refine (odd n D6.out.pi.rd (by omega)).mono ?_
          rintro e w7 ⟨v, rfl, ⟨ob, rfl⟩, hR7, hK7⟩
          have D7 := Lib.hid (D6.out.keep hK7 hR7)
          clear hR7 hK7 D6
          cases ob
          · go_upto_region 16 with fail
            have DE : Hid (∃ (a pc : Int) (xs : List Int) (stop : Bool) (cyc : Int) (z : Value), Hid (RunD rb (B + 1140) W0 L w1 base n5 (.slice xa ram.length xc) (.slice xb rom.length xd) bank a pc carry xs stop cyc z w7)) := ⟨_, _, _, _, _, _, D7.out.mono (by omega)⟩
            clear D7
            obtain ⟨aF, pF, xF, sF, cF, zF, DF⟩ := DE.out
            obtain ⟨zfa, zfn, zfc, rfl⟩ := ownV_shape3 DF.out.own
            obtain ⟨r0, r1, r2, r3, r4, r5, r6, r7, r8, rf⟩ := id (DF.out.box S0.out (by omega))
            obtain ⟨t0, t1, t2, t3, t4, t5, t6, t7, t8, tf⟩ := id DF.out.nine
            have rf0 := rf 0
            have rf1 := rf 1
            have rf2 := rf 2
            have rf3 := rf 3
            have rf4 := rf 4
            have rf5 := rf 5
            have rf6 := rf 6
            have rf7 := rf 7
            have rf8 := rf 8
            clear rf tf DE
            go_wp2_with fail
            obtain ⟨f1, f2, f3⟩ := DF.out.done (w := w) HM.out RL (Nat.le_refl _) hlt KW.out (.slice xa ram.length xc) (.slice xb rom.length xd) (.int .i64 bank) (.int .i64 aF) (.int .i64 pF) (.bool carry) (.slice zfa zfn zfc) (.bool sF) (.int .i64 cF)
            exact bodyPost_ret (v := .agg #[.slice xa ram.length xc, .slice xb rom.length xd, .int .i64 bank, .int .i64 aF, .int .i64 pF, .bool carry, .slice zfa zfn zfc, .bool sF, .int .i64 cF]) (by simp [results, Try.results11, go_sem, r0, r1, r2, r3, r4, r5, r6, r7, r8]) rfl ⟨_, _, rfl, f1, ⟨hr1, DF.out.cb⟩, f2.mono (by omega), f3⟩
          · go_wp2_with fail
            refine (pick 4 D7.out.pi.rd (by omega)).mono ?_
            rintro e w8 ⟨v, rfl, ⟨x8, rfl, y8, z8⟩, hR8, hK8⟩
            have D8 := Lib.hid (D7.out.keep hK8 hR8)
            clear hR8 hK8 D7
            have g3 := D8.out.nine.c3
            have g4 := D8.out.nine.c4
            have g6 := D8.out.nine.c6
            have g8 := D8.out.nine.c8
            have e3 := D8.out.nine.fz 3
            have e4 := D8.out.nine.fz 4
            have e6 := D8.out.nine.fz 6
            have e8 := D8.out.nine.fz 8
            have l8 := D8.out.nine.lt
            have r8 := D8.out.pi.rd.lt
            by_cases j0 : x8 = 0
            · have q0 : (x8 == 0) = true := by simpa using j0
              clear j0
              go_wp2_with fail
              refine (pick 2 (D8.out.pi.rd.alloc _) (by omega)).mono ?_
              rintro e w9 ⟨v, rfl, ⟨x9, rfl, y9, z9⟩, hR9, hK9⟩
              obtain ⟨k9, rfl⟩ := Int.eq_ofNat_of_zero_le y9
              have hk9 : k9 < 2 := by omega
              have hk9' : (k9 : Int) < 2 := by omega
              obtain ⟨m9, hm9⟩ := lit_pick hK9 r8 rfl (k := k9) hk9
              have D9 := Lib.hid ((D8.out.alloc _).keep hK9 hR9)
              clear hR9 hK9 D8 g3 g4 g6 g8 e3 e4 e6 e8
              have g3 := D9.out.nine.c3
              have e3 := D9.out.nine.fz 3
              have DE : Hid (∃ (a pc : Int) (xs : List Int) (stop : Bool) (cyc : Int) (z : Value), Hid (RunD rb (B + 1140) W0 L w1 base n5 (.slice xa ram.length xc) (.slice xb rom.length xd) bank a pc carry xs stop cyc z (w9.setCell ⟨n5, 3, none⟩ (.int .i64 m9)))) := ⟨_, _, _, _, _, _, (D9.out.setA m9).mono (by omega)⟩
              go_upto_region 16 with fail
              generalize (w9.setCell ⟨n5, 3, none⟩ (.int .i64 m9)) = w10 at *
              clear D9 g3 e3
              obtain ⟨aF, pF, xF, sF, cF, zF, DF⟩ := DE.out
              obtain ⟨zfa, zfn, zfc, rfl⟩ := ownV_shape3 DF.out.own
              obtain ⟨r0, r1, r2, r3, r4, r5, r6, r7, r8, rf⟩ := id (DF.out.box S0.out (by omega))
              obtain ⟨t0, t1, t2, t3, t4, t5, t6, t7, t8, tf⟩ := id DF.out.nine
              have rf0 := rf 0
              have rf1 := rf 1
              have rf2 := rf 2
              have rf3 := rf 3
              have rf4 := rf 4
              have rf5 := rf 5
              have rf6 := rf 6
              have rf7 := rf 7
              have rf8 := rf 8
              clear rf tf DE
              go_wp2_with fail
              obtain ⟨f1, f2, f3⟩ := DF.out.done (w := w) HM.out RL (Nat.le_refl _) hlt KW.out (.slice xa ram.length xc) (.slice xb rom.length xd) (.int .i64 bank) (.int .i64 aF) (.int .i64 pF) (.bool carry) (.slice zfa zfn zfc) (.bool sF) (.int .i64 cF)
              exact bodyPost_ret (v := .agg #[.slice xa ram.length xc, .slice xb rom.length xd, .int .i64 bank, .int .i64 aF, .int .i64 pF, .bool carry, .slice zfa zfn zfc, .bool sF, .int .i64 cF]) (by simp [results, Try.results11, go_sem, r0, r1, r2, r3, r4, r5, r6, r7, r8]) rfl ⟨_, _, rfl, f1, ⟨hr1, DF.out.cb⟩, f2.mono (by omega), f3⟩
            have q0 : (x8 == 0) = false := by simpa using j0
            by_cases j1 : x8 = 1
            · have q1 : (x8 == 1) = true := by simpa using j1
              clear j0 j1
              go_wp2_with fail
              refine (pick 2 (D8.out.pi.rd.alloc _) (by omega)).mono ?_
              rintro e w9 ⟨v, rfl, ⟨x9, rfl, y9, z9⟩, hR9, hK9⟩
              obtain ⟨k9, rfl⟩ := Int.eq_ofNat_of_zero_le y9
              have hk9 : k9 < 2 := by omega
              have hk9' : (k9 : Int) < 2 := by omega
              obtain ⟨m9, hm9⟩ := lit_pick hK9 r8 rfl (k := k9) hk9
              have D9 := Lib.hid ((D8.out.alloc _).keep hK9 hR9)
              clear hR9 hK9 D8 g3 g4 g6 g8 e3 e4 e6 e8
              have g4 := D9.out.nine.c4
              have e4 := D9.out.nine.fz 4
              have DE : Hid (∃ (a pc : Int) (xs : List Int) (stop : Bool) (cyc : Int) (z : Value), Hid (RunD rb (B + 1140) W0 L w1 base n5 (.slice xa ram.length xc) (.slice xb rom.length xd) bank a pc carry xs stop cyc z (w9.setCell ⟨n5, 4, none⟩ (.int .i64 m9)))) := ⟨_, _, _, _, _, _, (D9.out.setPc m9).mono (by omega)⟩
              go_upto_region 16 with fail
              generalize (w9.setCell ⟨n5, 4, none⟩ (.int .i64 m9)) = w10 at *
              clear D9 g4 e4
              obtain ⟨aF, pF, xF, sF, cF, zF, DF⟩ := DE.out
              obtain ⟨zfa, zfn, zfc, rfl⟩ := ownV_shape3 DF.out.own
              obtain ⟨r0, r1, r2, r3, r4, r5, r6, r7, r8, rf⟩ := id (DF.out.box S0.out (by omega))
              obtain ⟨t0, t1, t2, t3, t4, t5, t6, t7, t8, tf⟩ := id DF.out.nine
              have rf0 := rf 0
              have rf1 := rf 1
              have rf2 := rf 2
              have rf3 := rf 3
              have rf4 := rf 4
              have rf5 := rf 5
              have rf6 := rf 6
              have rf7 := rf 7
              have rf8 := rf 8
              clear rf tf DE
              go_wp2_with fail
              obtain ⟨f1, f2, f3⟩ := DF.out.done (w := w) HM.out RL (Nat.le_refl _) hlt KW.out (.slice xa ram.length xc) (.slice xb rom.length xd) (.int .i64 bank) (.int .i64 aF) (.int .i64 pF) (.bool carry) (.slice zfa zfn zfc) (.bool sF) (.int .i64 cF)
              exact bodyPost_ret (v := .agg #[.slice xa ram.length xc, .slice xb rom.length xd, .int .i64 bank, .int .i64 aF, .int .i64 pF, .bool carry, .slice zfa zfn zfc, .bool sF, .int .i64 cF]) (by simp [results, Try.results11, go_sem, r0, r1, r2, r3, r4, r5, r6, r7, r8]) rfl ⟨_, _, rfl, f1, ⟨hr1, DF.out.cb⟩, f2.mono (by omega), f3⟩
            have q1 : (x8 == 1) = false := by simpa using j1
            by_cases j2 : x8 = 2
            · have q2 : (x8 == 2) = true := by simpa using j2
              clear j0 j1 j2
              have hmk : ∀ W : World, (Instr.makeSlice 23 (.int .i64 9) (.int .i64 9)).run Try.prog W = .ok (.slice (some ⟨W.heap.size, 0, none⟩) 9 9) (W.alloc (.cells (madeCells #[.int .i64 0] 9) 3)) := fun W => run_make_row' (P := Try.prog) 23 3 (.int .i64 0) 8 Try.underlying23 infoInt rfl .i64 .i64 9 (by omega) (by omega) W
              have DE : Hid (∃ (a pc : Int) (xs : List Int) (stop : Bool) (cyc : Int) (z : Value), Hid (RunD rb (B + 1140) W0 L w1 base n5 (.slice xa ram.length xc) (.slice xb rom.length xd) bank a pc carry xs stop cyc z ((w8.alloc (.cells (madeCells #[.int .i64 0] 9) 3)).setCell ⟨n5, 6, none⟩ (.slice (some ⟨w8.heap.size, 0, none⟩) 9 9)))) := ⟨_, _, List.replicate 9 0, _, _, _, ((D8.out.alloc _).setBack (nine_zeros D8.out.b5)).mono (by omega)⟩
              have hcomm : ((w8.alloc (.cells (madeCells #[.int .i64 0] 9) 3)).setCell ⟨n5, 6, none⟩ (.slice (some ⟨w8.heap.size, 0, none⟩) 9 9)) = ((w8.setCell ⟨n5, 6, none⟩ (.slice (some ⟨w8.heap.size, 0, none⟩) 9 9)).alloc (.cells (madeCells #[.int .i64 0] 9) 3)) := by simp [go_sem, l8]
              rw [hcomm] at DE
              clear hcomm
              go_upto_region 16 with fail
              generalize ((w8.setCell ⟨n5, 6, none⟩ (.slice (some ⟨w8.heap.size, 0, none⟩) 9 9)).alloc (.cells (madeCells #[.int .i64 0] 9) 3)) = w10 at *
              clear D8 g3 g4 g6 g8 e3 e4 e6 e8 hmk
              obtain ⟨aF, pF, xF, sF, cF, zF, DF⟩ := DE.out
              obtain ⟨zfa, zfn, zfc, rfl⟩ := ownV_shape3 DF.out.own
              obtain ⟨r0, r1, r2, r3, r4, r5, r6, r7, r8, rf⟩ := id (DF.out.box S0.out (by omega))
              obtain ⟨t0, t1, t2, t3, t4, t5, t6, t7, t8, tf⟩ := id DF.out.nine
              have rf0 := rf 0
              have rf1 := rf 1
              have rf2 := rf 2
              have rf3 := rf 3
              have rf4 := rf 4
              have rf5 := rf 5
              have rf6 := rf 6
              have rf7 := rf 7
              have rf8 := rf 8
              clear rf tf DE
              go_wp2_with fail
              obtain ⟨f1, f2, f3⟩ := DF.out.done (w := w) HM.out RL (Nat.le_refl _) hlt KW.out (.slice xa ram.length xc) (.slice xb rom.length xd) (.int .i64 bank) (.int .i64 aF) (.int .i64 pF) (.bool carry) (.slice zfa zfn zfc) (.bool sF) (.int .i64 cF)
              exact bodyPost_ret (v := .agg #[.slice xa ram.length xc, .slice xb rom.length xd, .int .i64 bank, .int .i64 aF, .int .i64 pF, .bool carry, .slice zfa zfn zfc, .bool sF, .int .i64 cF]) (by simp [results, Try.results11, go_sem, r0, r1, r2, r3, r4, r5, r6, r7, r8]) rfl ⟨_, _, rfl, f1, ⟨hr1, DF.out.cb⟩, f2.mono (by omega), f3⟩
            have q2 : (x8 == 2) = false := by simpa using j2
            clear j0 j1 j2
            have DE : Hid (∃ (a pc : Int) (xs : List Int) (stop : Bool) (cyc : Int) (z : Value), Hid (RunD rb (B + 1140) W0 L w1 base n5 (.slice xa ram.length xc) (.slice xb rom.length xd) bank a pc carry xs stop cyc z (w8.setCell ⟨n5, 8, none⟩ (.int .i64 (-1))))) := ⟨_, _, _, _, _, _, (D8.out.setCyc (-1) (by omega)).mono (by omega)⟩
            go_upto_region 16 with fail
            generalize (w8.setCell ⟨n5, 8, none⟩ (.int .i64 (-1))) = w10 at *
            clear D8 g3 g4 g6 g8 e3 e4 e6 e8
            obtain ⟨aF, pF, xF, sF, cF, zF, DF⟩ := DE.out
            obtain ⟨zfa, zfn, zfc, rfl⟩ := ownV_shape3 DF.out.own
            obtain ⟨r0, r1, r2, r3, r4, r5, r6, r7, r8, rf⟩ := id (DF.out.box S0.out (by omega))
            obtain ⟨t0, t1, t2, t3, t4, t5, t6, t7, t8, tf⟩ := id DF.out.nine
            have rf0 := rf 0
            have rf1 := rf 1
            have rf2 := rf 2
            have rf3 := rf 3
            have rf4 := rf 4
            have rf5 := rf 5
            have rf6 := rf 6
            have rf7 := rf 7
            have rf8 := rf 8
            clear rf tf DE
            go_wp2_with fail
            obtain ⟨f1, f2, f3⟩ := DF.out.done (w := w) HM.out RL (Nat.le_refl _) hlt KW.out (.slice xa ram.length xc) (.slice xb rom.length xd) (.int .i64 bank) (.int .i64 aF) (.int .i64 pF) (.bool carry) (.slice zfa zfn zfc) (.bool sF) (.int .i64 cF)
            exact bodyPost_ret (v := .agg #[.slice xa ram.length xc, .slice xb rom.length xd, .int .i64 bank, .int .i64 aF, .int .i64 pF, .bool carry, .slice zfa zfn zfc, .bool sF, .int .i64 cF]) (by simp [results, Try.results11, go_sem, r0, r1, r2, r3, r4, r5, r6, r7, r8]) rfl ⟨_, _, rfl, f1, ⟨hr1, DF.out.cb⟩, f2.mono (by omega), f3⟩
      · have hki : ¬ (0 : Int) < (k : Int) := by omega
        have D4 : Hid (RunD rb (B + 1130) W0 L w1 base n5 (.slice xa ram.length xc) (.slice xb rom.length xd) bank a pc carry xs false cyc z wr) := DR.out.mono (by omega)
        go_wp2_with fail
        refine (odd 12 D4.out.pi.rd (by omega)).mono ?_
        rintro e w5 ⟨v, rfl, ⟨sb, rfl⟩, hR5, hK5⟩
        have D5 := Lib.hid (D4.out.keep hK5 hR5)
        clear hR5 hK5 D4 DR D0 D2
        have p7 := D5.out.nine.c7
        have q7 := D5.out.nine.fz 7
        have D6 := Lib.hid (D5.out.setStop sb)
        clear D5
        go_wp2_with fail
        generalize (w5.setCell ⟨n5, 7, none⟩ (.bool sb)) = w6 at *
        clear p7 q7
        refine (odd n D6.out.pi.rd (by omega)).mono ?_
        rintro e w7 ⟨v, rfl, ⟨ob, rfl⟩, hR7, hK7⟩
        have D7 := Lib.hid (D6.out.keep hK7 hR7)
        clear hR7 hK7 D6
        cases ob
        · go_upto_region 16 with fail
          have DE : Hid (∃ (a pc : Int) (xs : List Int) (stop : Bool) (cyc : Int) (z : Value), Hid (RunD rb (B + 1140) W0 L w1 base n5 (.slice xa ram.length xc) (.slice xb rom.length xd) bank a pc carry xs stop cyc z w7)) := ⟨_, _, _, _, _, _, D7.out.mono (by omega)⟩
          clear D7
          obtain ⟨aF, pF, xF, sF, cF, zF, DF⟩ := DE.out
          obtain ⟨zfa, zfn, zfc, rfl⟩ := ownV_shape3 DF.out.own
          obtain ⟨r0, r1, r2, r3, r4, r5, r6, r7, r8, rf⟩ := id (DF.out.box S0.out (by omega))
          obtain ⟨t0, t1, t2, t3, t4, t5, t6, t7, t8, tf⟩ := id DF.out.nine
          have rf0 := rf 0
          have rf1 := rf 1
          have rf2 := rf 2
          have rf3 := rf 3
          have rf4 := rf 4
          have rf5 := rf 5
          have rf6 := rf 6
          have rf7 := rf 7
          have rf8 := rf 8
          clear rf tf DE
          go_wp2_with fail
          obtain ⟨f1, f2, f3⟩ := DF.out.done (w := w) HM.out RL (Nat.le_refl _) hlt KW.out (.slice xa ram.length xc) (.slice xb rom.length xd) (.int .i64 bank) (.int .i64 aF) (.int .i64 pF) (.bool carry) (.slice zfa zfn zfc) (.bool sF) (.int .i64 cF)
          exact bodyPost_ret (v := .agg #[.slice xa ram.length xc, .slice xb rom.length xd, .int .i64 bank, .int .i64 aF, .int .i64 pF, .bool carry, .slice zfa zfn zfc, .bool sF, .int .i64 cF]) (by simp [results, Try.results11, go_sem, r0, r1, r2, r3, r4, r5, r6, r7, r8]) rfl ⟨_, _, rfl, f1, ⟨hr1, DF.out.cb⟩, f2.mono (by omega), f3⟩
        · go_wp2_with fail
          refine (pick 4 D7.out.pi.rd (by omega)).mono ?_
          rintro e w8 ⟨v, rfl, ⟨x8, rfl, y8, z8⟩, hR8, hK8⟩
          have D8 := Lib.hid (D7.out.keep hK8 hR8)
          clear hR8 hK8 D7
          have g3 := D8.out.nine.c3
          have g4 := D8.out.nine.c4
          have g6 := D8.out.nine.c6
          have g8 := D8.out.nine.c8
          have e3 := D8.out.nine.fz 3
          have e4 := D8.out.nine.fz 4
          have e6 := D8.out.nine.fz 6
          have e8 := D8.out.nine.fz 8
          have l8 := D8.out.nine.lt
          have r8 := D8.out.pi.rd.lt
          by_cases j0 : x8 = 0
          · have q0 : (x8 == 0) = true := by simpa using j0
            clear j0
            go_wp2_with fail
            refine (pick 2 (D8.out.pi.rd.alloc _) (by omega)).mono ?_
            rintro e w9 ⟨v, rfl, ⟨x9, rfl, y9, z9⟩, hR9, hK9⟩
            obtain ⟨k9, rfl⟩ := Int.eq_ofNat_of_zero_le y9
            have hk9 : k9 < 2 := by omega
            have hk9' : (k9 : Int) < 2 := by omega
            obtain ⟨m9, hm9⟩ := lit_pick hK9 r8 rfl (k := k9) hk9
            have D9 := Lib.hid ((D8.out.alloc _).keep hK9 hR9)
            clear hR9 hK9 D8 g3 g4 g6 g8 e3 e4 e6 e8
            have g3 := D9.out.nine.c3
            have e3 := D9.out.nine.fz 3
            have DE : Hid (∃ (a pc : Int) (xs : List Int) (stop : Bool) (cyc : Int) (z : Value), Hid (RunD rb (B + 1140) W0 L w1 base n5 (.slice xa ram.length xc) (.slice xb rom.length xd) bank a pc carry xs stop cyc z (w9.setCell ⟨n5, 3, none⟩ (.int .i64 m9)))) := ⟨_, _, _, _, _, _, (D9.out.setA m9).mono (by omega)⟩
            go_upto_region 16 with fail
            generalize (w9.setCell ⟨n5, 3, none⟩ (.int .i64 m9)) = w10 at *
            clear D9 g3 e3
            obtain ⟨aF, pF, xF, sF, cF, zF, DF⟩ := DE.out
            obtain ⟨zfa, zfn, zfc, rfl⟩ := ownV_shape3 DF.out.own
            obtain ⟨r0, r1, r2, r3, r4, r5, r6, r7, r8, rf⟩ := id (DF.out.box S0.out (by omega))
            obtain ⟨t0, t1, t2, t3, t4, t5, t6, t7, t8, tf⟩ := id DF.out.nine
            have rf0 := rf 0
            have rf1 := rf 1
            have rf2 := rf 2
            have rf3 := rf 3
            have rf4 := rf 4
            have rf5 := rf 5
            have rf6 := rf 6
            have rf7 := rf 7
            have rf8 := rf 8
            clear rf tf DE
            go_wp2_with fail
            obtain ⟨f1, f2, f3⟩ := DF.out.done (w := w) HM.out RL (Nat.le_refl _) hlt KW.out (.slice xa ram.length xc) (.slice xb rom.length xd) (.int .i64 bank) (.int .i64 aF) (.int .i64 pF) (.bool carry) (.slice zfa zfn zfc) (.bool sF) (.int .i64 cF)
            exact bodyPost_ret (v := .agg #[.slice xa ram.length xc, .slice xb rom.length xd, .int .i64 bank, .int .i64 aF, .int .i64 pF, .bool carry, .slice zfa zfn zfc, .bool sF, .int .i64 cF]) (by simp [results, Try.results11, go_sem, r0, r1, r2, r3, r4, r5, r6, r7, r8]) rfl ⟨_, _, rfl, f1, ⟨hr1, DF.out.cb⟩, f2.mono (by omega), f3⟩
          have q0 : (x8 == 0) = false := by simpa using j0
          by_cases j1 : x8 = 1
          · have q1 : (x8 == 1) = true := by simpa using j1
            clear j0 j1
            go_wp2_with fail
            refine (pick 2 (D8.out.pi.rd.alloc _) (by omega)).mono ?_
            rintro e w9 ⟨v, rfl, ⟨x9, rfl, y9, z9⟩, hR9, hK9⟩
            obtain ⟨k9, rfl⟩ := Int.eq_ofNat_of_zero_le y9
            have hk9 : k9 < 2 := by omega
            have hk9' : (k9 : Int) < 2 := by omega
            obtain ⟨m9, hm9⟩ := lit_pick hK9 r8 rfl (k := k9) hk9
            have D9 := Lib.hid ((D8.out.alloc _).keep hK9 hR9)
            clear hR9 hK9 D8 g3 g4 g6 g8 e3 e4 e6 e8
            have g4 := D9.out.nine.c4
            have e4 := D9.out.nine.fz 4
            have DE : Hid (∃ (a pc : Int) (xs : List Int) (stop : Bool) (cyc : Int) (z : Value), Hid (RunD rb (B + 1140) W0 L w1 base n5 (.slice xa ram.length xc) (.slice xb rom.length xd) bank a pc carry xs stop cyc z (w9.setCell ⟨n5, 4, none⟩ (.int .i64 m9)))) := ⟨_, _, _, _, _, _, (D9.out.setPc m9).mono (by omega)⟩
            go_upto_region 16 with fail
            generalize (w9.setCell ⟨n5, 4, none⟩ (.int .i64 m9)) = w10 at *
            clear D9 g4 e4
            obtain ⟨aF, pF, xF, sF, cF, zF, DF⟩ := DE.out
            obtain ⟨zfa, zfn, zfc, rfl⟩ := ownV_shape3 DF.out.own
            obtain ⟨r0, r1, r2, r3, r4, r5, r6, r7, r8, rf⟩ := id (DF.out.box S0.out (by omega))
            obtain ⟨t0, t1, t2, t3, t4, t5, t6, t7, t8, tf⟩ := id DF.out.nine
            have rf0 := rf 0
            have rf1 := rf 1
            have rf2 := rf 2
            have rf3 := rf 3
            have rf4 := rf 4
            have rf5 := rf 5
            have rf6 := rf 6
            have rf7 := rf 7
            have rf8 := rf 8
            clear rf tf DE
            go_wp2_with fail
            obtain ⟨f1, f2, f3⟩ := DF.out.done (w := w) HM.out RL (Nat.le_refl _) hlt KW.out (.slice xa ram.length xc) (.slice xb rom.length xd) (.int .i64 bank) (.int .i64 aF) (.int .i64 pF) (.bool carry) (.slice zfa zfn zfc) (.bool sF) (.int .i64 cF)
            exact bodyPost_ret (v := .agg #[.slice xa ram.length xc, .slice xb rom.length xd, .int .i64 bank, .int .i64 aF, .int .i64 pF, .bool carry, .slice zfa zfn zfc, .bool sF, .int .i64 cF]) (by simp [results, Try.results11, go_sem, r0, r1, r2, r3, r4, r5, r6, r7, r8]) rfl ⟨_, _, rfl, f1, ⟨hr1, DF.out.cb⟩, f2.mono (by omega), f3⟩
          have q1 : (x8 == 1) = false := by simpa using j1
          by_cases j2 : x8 = 2
          · have q2 : (x8 == 2) = true := by simpa using j2
            clear j0 j1 j2
            have hmk : ∀ W : World, (Instr.makeSlice 23 (.int .i64 9) (.int .i64 9)).run Try.prog W = .ok (.slice (some ⟨W.heap.size, 0, none⟩) 9 9) (W.alloc (.cells (madeCells #[.int .i64 0] 9) 3)) := fun W => run_make_row' (P := Try.prog) 23 3 (.int .i64 0) 8 Try.underlying23 infoInt rfl .i64 .i64 9 (by omega) (by omega) W
            have DE : Hid (∃ (a pc : Int) (xs : List Int) (stop : Bool) (cyc : Int) (z : Value), Hid (RunD rb (B + 1140) W0 L w1 base n5 (.slice xa ram.length xc) (.slice xb rom.length xd) bank a pc carry xs stop cyc z ((w8.alloc (.cells (madeCells #[.int .i64 0] 9) 3)).setCell ⟨n5, 6, none⟩ (.slice (some ⟨w8.heap.size, 0, none⟩) 9 9)))) := ⟨_, _, List.replicate 9 0, _, _, _, ((D8.out.alloc _).setBack (nine_zeros D8.out.b5)).mono (by omega)⟩
            have hcomm : ((w8.alloc (.cells (madeCells #[.int .i64 0] 9) 3)).setCell ⟨n5, 6, none⟩ (.slice (some ⟨w8.heap.size, 0, none⟩) 9 9)) = ((w8.setCell ⟨n5, 6, none⟩ (.slice (some ⟨w8.heap.size, 0, none⟩) 9 9)).alloc (.cells (madeCells #[.int .i64 0] 9) 3)) := by simp [go_sem, l8]
            rw [hcomm] at DE
            clear hcomm
            go_upto_region 16 with fail
            generalize ((w8.setCell ⟨n5, 6, none⟩ (.slice (some ⟨w8.heap.size, 0, none⟩) 9 9)).alloc (.cells (madeCells #[.int .i64 0] 9) 3)) = w10 at *
            clear D8 g3 g4 g6 g8 e3 e4 e6 e8 hmk
            obtain ⟨aF, pF, xF, sF, cF, zF, DF⟩ := DE.out
            obtain ⟨zfa, zfn, zfc, rfl⟩ := ownV_shape3 DF.out.own
            obtain ⟨r0, r1, r2, r3, r4, r5, r6, r7, r8, rf⟩ := id (DF.out.box S0.out (by omega))
            obtain ⟨t0, t1, t2, t3, t4, t5, t6, t7, t8, tf⟩ := id DF.out.nine
            have rf0 := rf 0
            have rf1 := rf 1
            have rf2 := rf 2
            have rf3 := rf 3
            have rf4 := rf 4
            have rf5 := rf 5
            have rf6 := rf 6
            have rf7 := rf 7
            have rf8 := rf 8
            clear rf tf DE
            go_wp2_with fail
            obtain ⟨f1, f2, f3⟩ := DF.out.done (w := w) HM.out RL (Nat.le_refl _) hlt KW.out (.slice xa ram.length xc) (.slice xb rom.length xd) (.int .i64 bank) (.int .i64 aF) (.int .i64 pF) (.bool carry) (.slice zfa zfn zfc) (.bool sF) (.int .i64 cF)
            exact bodyPost_ret (v := .agg #[.slice xa ram.length xc, .slice xb rom.length xd, .int .i64 bank, .int .i64 aF, .int .i64 pF, .bool carry, .slice zfa zfn zfc, .bool sF, .int .i64 cF]) (by simp [results, Try.results11, go_sem, r0, r1, r2, r3, r4, r5, r6, r7, r8]) rfl ⟨_, _, rfl, f1, ⟨hr1, DF.out.cb⟩, f2.mono (by omega), f3⟩
          have q2 : (x8 == 2) = false := by simpa using j2
          clear j0 j1 j2
          have DE : Hid (∃ (a pc : Int) (xs : List Int) (stop : Bool) (cyc : Int) (z : Value), Hid (RunD rb (B + 1140) W0 L w1 base n5 (.slice xa ram.length xc) (.slice xb rom.length xd) bank a pc carry xs stop cyc z (w8.setCell ⟨n5, 8, none⟩ (.int .i64 (-1))))) := ⟨_, _, _, _, _, _, (D8.out.setCyc (-1) (by omega)).mono (by omega)⟩
          go_upto_region 16 with fail
          generalize (w8.setCell ⟨n5, 8, none⟩ (.int .i64 (-1))) = w10 at *
          clear D8 g3 g4 g6 g8 e3 e4 e6 e8
          obtain ⟨aF, pF, xF, sF, cF, zF, DF⟩ := DE.out
          obtain ⟨zfa, zfn, zfc, rfl⟩ := ownV_shape3 DF.out.own
          obtain ⟨r0, r1, r2, r3, r4, r5, r6, r7, r8, rf⟩ := id (DF.out.box S0.out (by omega))
          obtain ⟨t0, t1, t2, t3, t4, t5, t6, t7, t8, tf⟩ := id DF.out.nine
          have rf0 := rf 0
          have rf1 := rf 1
          have rf2 := rf 2
          have rf3 := rf 3
          have rf4 := rf 4
          have rf5 := rf 5
          have rf6 := rf 6
          have rf7 := rf 7
          have rf8 := rf 8
          clear rf tf DE
          go_wp2_with fail
          obtain ⟨f1, f2, f3⟩ := DF.out.done (w := w) HM.out RL (Nat.le_refl _) hlt KW.out (.slice xa ram.length xc) (.slice xb rom.length xd) (.int .i64 bank) (.int .i64 aF) (.int .i64 pF) (.bool carry) (.slice zfa zfn zfc) (.bool sF) (.int .i64 cF)
          exact bodyPost_ret (v := .agg #[.slice xa ram.length xc, .slice xb rom.length xd, .int .i64 bank, .int .i64 aF, .int .i64 pF, .bool carry, .slice zfa zfn zfc, .bool sF, .int .i64 cF]) (by simp [results, Try.results11, go_sem, r0, r1, r2, r3, r4, r5, r6, r7, r8]) rfl ⟨_, _, rfl, f1, ⟨hr1, DF.out.cb⟩, f2.mono (by omega), f3⟩
end Go.Proofs.Ytlnpmanghkeieaa
