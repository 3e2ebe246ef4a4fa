/- The draw of a memory and three numbers. No condition. -/
import Derived.Test.YtkkgolgmhckgoaaDrawMems
import Derived.Test.YtkkgolgmhckgoaaMerge
import Derived.Deep.RegionHeld3
import Derived.Deep.RegionWith
import Derived.Deep.DrawnRows
namespace Go.Proofs.Ytkkgolgmhckgoaa
open Go.RowKit
set_option linter.unusedVariables false
set_option linter.unusedSimpArgs false
attribute [local go_sem ↓] Go.wp_at_zero Go.wp_at_succ

theorem eight_pick {k : Nat} (hk : k < 8) : ∃ q : Nat, q < 5 ∧ ([.int .i64 0, .int .i64 0, .int .i64 0, .int .i64 0, .int .i64 1, .int .i64 2, .int .i64 3, .int .i64 4] : List Value)[k] = .int .i64 (q : Int) := by
  rcases (show k = 0 ∨ k = 1 ∨ k = 2 ∨ k = 3 ∨ k = 4 ∨ k = 5 ∨ k = 6 ∨ k = 7 by omega) with rfl | rfl | rfl | rfl | rfl | rfl | rfl | rfl
  · exact ⟨0, by omega, rfl⟩
  · exact ⟨0, by omega, rfl⟩
  · exact ⟨0, by omega, rfl⟩
  · exact ⟨0, by omega, rfl⟩
  · exact ⟨1, by omega, rfl⟩
  · exact ⟨2, by omega, rfl⟩
  · exact ⟨3, by omega, rfl⟩
  · exact ⟨4, by omega, rfl⟩
set_option maxHeartbeats 40000000 in
set_option maxRecDepth 20000 in
theorem draw_CopyMemory {v : Value} {w : World} (h : IsBytes w v) : Calls Try.prog 23 #[v] w (DrawnMem3 w) := by
  have H := Lib.hid (h.below ((Below.refl _ _).alloc (Nat.le_refl _) (.cells #[.slice none 0 0, .slice none 0 0, .int .i64 0] 37)))
  clear h
  go_enter Try.func23, Try.ntmps23
  go_wp2_with fail
  refine (l20Open H.out).mono ?_
  rintro e w0 ⟨rb, rfl, hrb, hR0, hB0⟩
  go_wp2_with fail
  refine (l20Memory _ hR0 (by omega)).mono ?_
  rintro e w1 ⟨v, ram, rom, bank, rfl, hm, hr1, hr2, hr3, hR1, hK1⟩
  obtain ⟨P, Q⟩ := box_thru hB0 hrb hK1
  have p0 := P 0
  have p1 := P 1
  have p2 := P 2
  have q0 := Q 0
  have q1 := Q 1
  have q2 := Q 2
  simp [go_sem] at p0 p1 p2 q0 q1 q2
  have hw : w.heap.size < (w.alloc (.cells #[.slice none 0 0, .slice none 0 0, .int .i64 0] 37)).heap.size := by simp
  have hw0 : w.heap.size < w0.heap.size := Nat.lt_of_lt_of_le hw hB0.size
  have hw1 : w.heap.size < w1.heap.size := Nat.lt_of_lt_of_le hw0 hK1.size
  have hb1 : Below w.heap.size w w1 := hK1.below (((Below.refl _ _).alloc (Nat.le_refl _) _).trans (hB0.mono (by omega))) (by omega)
  have hrw : w.heap.size ≤ rb := by omega
  have hRn : w.heap.size ≠ rb := by omega
  have hrL : rb < w0.heap.size := hR0.lt
  obtain ⟨a, c, b, d, rfl, _⟩ := memV_shape hm.mem
  have hr1' := hR1.lt
  have hrn : rb < w1.heap.size := hr1'
  obtain ⟨X, hX⟩ : ∃ X, X = w1.alloc (.cells #[.slice a ram.length c, .slice b rom.length d, .int .i64 bank] 37) := ⟨_, rfl⟩
  have MX : Hid (MidW w w0.heap.size rb w1.heap.size 1100 (.agg #[.slice a ram.length c, .slice b rom.length d, .int .i64 bank]) (.slice a ram.length c) (.slice b rom.length d) (.int .i64 bank) (.slice none 0 0) (.slice none 0 0) (.int .i64 0) ram rom bank X) := by
    rw [hX]
    exact ⟨hm.alloc _, hb1.alloc (by omega) _, six_lit rfl, (hR1.mono (by omega)).alloc _, six_alloc _ ⟨p0, p1, p2, q0, q1, q2⟩, ⟨by intro n; simp, by intro n; simp, by intro n; simp⟩, by omega, hrL, hrn⟩
  clear hB0 hrb hR0 hR1 hK1 P Q hm p0 p1 p2 q0 q1 q2 hb1
  go_upto_region 3 with fail
  rw [← hX]
  clear hX
  go_wp2_with fail
  refine (l20Place _ MX.out.rd (by omega)).mono ?_
  rintro e wp ⟨v, rfl, ⟨xp, rfl⟩, hRp, hKp⟩
  have MP : Hid (MidW w w0.heap.size rb w1.heap.size 1108 (.agg #[.slice a ram.length c, .slice b rom.length d, .int .i64 bank]) (.slice a ram.length c) (.slice b rom.length d) (.int .i64 bank) (.slice none 0 0) (.slice none 0 0) (.int .i64 0) ram rom bank wp) := MX.out.keep hKp hRp
  clear MX hRp hKp
  go_wp2_with fail
  refine (l20Place _ MP.out.rd (by omega)).mono ?_
  rintro e wq ⟨v, rfl, ⟨xq, rfl⟩, hRp, hKp⟩
  have MQ : Hid (MidW w w0.heap.size rb w1.heap.size 1116 (.agg #[.slice a ram.length c, .slice b rom.length d, .int .i64 bank]) (.slice a ram.length c) (.slice b rom.length d) (.int .i64 bank) (.slice none 0 0) (.slice none 0 0) (.int .i64 0) ram rom bank wq) := MP.out.keep hKp hRp
  clear MP hRp hKp
  go_upto_region 5 with fail
  have hMF : Hid (MidW w w0.heap.size rb w1.heap.size (1116 + 0) (.agg #[.slice a ram.length c, .slice b rom.length d, .int .i64 bank]) (.slice a ram.length c) (.slice b rom.length d) (.int .i64 bank) (.slice none 0 0) (.slice none 0 0) (.int .i64 0) ram rom bank wq.drew) := MQ.out.drew
  clear MQ
  refine wp_region_any (by kernel_rfl) ?_
  (try (change wpAny _ _ _ _ _ _ _ (World.drew _)))
  refine name_act (fun A0 hA0 => ?_)
  refine wpAny_pre 2 #[true, true, true, true, true, true, true, true, true, true, true, true, false, true, true, true, false] (fun act9 W => ∃ q4 : Int, ∃ b5 : Nat, ∃ b6 : Nat, ∃ k8 : Nat, ∃ m10 : Nat, act9 = ((((((((((((((A0.put (some 18) (.agg #[.slice a ram.length c, .slice b rom.length d, .int .i64 bank])).put (some 19) (.int .i64 xp)).put (some 20) (.int .i64 xq)).put (some 21) (.pointer (some ⟨rb, 0, none⟩))).put (some 22) (.int .i64 q4)).put (some 23) (.slice (some ⟨b5, 0, none⟩) 5 5)).put (some 24) (.slice (some ⟨b6, 0, none⟩) 8 8)).put (some 25) (.pointer (some ⟨rb, 0, none⟩))).put (some 26) (.int .i64 (k8 : Int))).put (some 27) (.pointer (some ⟨b6, k8, none⟩))).put (some 28) (.int .i64 (m10 : Int))).put (some 29) (.pointer (some ⟨b5, m10, none⟩))).put (some 3) (.int .i64 xp)).put (some 4) (.int .i64 xq)) ∧ Hid (MidW w w0.heap.size rb w1.heap.size (1116 + 2) (.agg #[.slice a ram.length c, .slice b rom.length d, .int .i64 bank]) (.slice a ram.length c) (.slice b rom.length d) (.int .i64 bank) (.slice a ram.length c) (.slice b rom.length d) (.int .i64 bank) ram rom bank W) ∧ Hid (LitI rb 5 W b5) ∧ Hid (w.heap.size ≠ b5) ∧ Hid (LitR rb 8 5 W b6) ∧ Hid (w.heap.size ≠ b6) ∧ Hid (k8 < 8) ∧ Hid (m10 < 5)) ?_ (fun HD0 => ?_)
  · rintro act9 W ⟨q4, b5, b6, k8, m10, rfl, hF, h5, n5, h6, n6, hk8, hm10⟩
    subst hA0
    have hlW := hF.out.rd.lt
    obtain ⟨x0, x1, x2, xf0, xf1, xf2⟩ := id hF.out.six
    obtain ⟨e0, e1, e2, ef0, ef1, ef2⟩ := id hF.out.box
    have hX1 : w1.heap.size < W.heap.size := block_lt_of_cell x0
    have hXw : w.heap.size < W.heap.size := block_lt_of_cell e0
    (try simp only [Act.put, List.setIfInBounds_toArray, List.set_cons_zero, List.set_cons_succ])
    refine wpAny_ready (rs := [12]) (by kernel_rfl) (by simp) ?_
    refine AllReady.cons (o := ({ dst := some 30, op := Op.load 3 (Operand.tmp 29), type := 3, pos := "l20_draw.go:191", after := #[{ on := 11, ground := Ground.data }, { on := 15, ground := Ground.gcOnly Departure.lateStores }], guard := none } : Oper)) rfl (fun K hK => ?_) ?_
    · obtain ⟨r12, hc12⟩ := h5.out.2.2 m10 hm10.out
      go_simp
      refine hK _ _ ?_
      clear hK K
      (try simp only [Act.put, List.setIfInBounds_toArray, List.set_cons_zero, List.set_cons_succ])
      refine wpAny_take (i := 16) (oi := ({ dst := some 5, op := Op.assign (Operand.tmp 30), type := 3, pos := "l20_draw.go:191", after := #[{ on := 12, ground := Ground.data }, { on := 15, ground := Ground.chain }, { on := 0, ground := Ground.phase }, { on := 1, ground := Ground.phase }, { on := 2, ground := Ground.phase }, { on := 3, ground := Ground.phase }, { on := 4, ground := Ground.phase }, { on := 5, ground := Ground.phase }, { on := 6, ground := Ground.phase }, { on := 7, ground := Ground.phase }, { on := 8, ground := Ground.phase }, { on := 9, ground := Ground.phase }, { on := 10, ground := Ground.phase }, { on := 11, ground := Ground.phase }, { on := 12, ground := Ground.phase }, { on := 13, ground := Ground.phase }, { on := 14, ground := Ground.phase }, { on := 15, ground := Ground.phase }], guard := none } : Oper)) (v := ?_) rfl (by kernel_rfl) (by kernel_rfl) (by kernel_rfl) (fun _ _ _ h => h) (Or.inl ⟨by rfl, ?_⟩) ?_
      rotate_left
      · intro wq; go_simp; (try with_reducible rfl)
      (try simp only [Act.put, List.setIfInBounds_toArray, List.set_cons_zero, List.set_cons_succ])
      refine wpAny_done (by kernel_rfl) ?_ _
      go_wp2_with fail
      refine bodyPost_ret (v := .tuple #[.agg #[.slice a ram.length c, .slice b rom.length d, .int .i64 bank], .int .i64 xp, .int .i64 xq, .int .i64 r12]) (by simp [results, Try.results23, go_sem, e0, e1, e2]) rfl ⟨_, ram, rom, bank, xp, xq, r12, rfl, ?_, hr1, hr2, hr3, ?_⟩
      · first | exact hF.out.mem.mem | exact (hF.out.setBox _ _ _ _ _ _ _).mem.mem
      · first | exact hF.out.bel | exact (hF.out.setBox _ _ _ _ _ _ _).bel
    exact AllReady.nil
  refine wpAny_pre 4 #[true, true, true, true, true, true, true, true, true, true, true, true, true, false, false, false, false] (fun act9 W => ∃ q4 : Int, ∃ b5 : Nat, ∃ b6 : Nat, ∃ k8 : Nat, ∃ m10 : Nat, ∃ r12 : Int, act9 = (((((((((((((A0.put (some 18) (.agg #[.slice a ram.length c, .slice b rom.length d, .int .i64 bank])).put (some 19) (.int .i64 xp)).put (some 20) (.int .i64 xq)).put (some 21) (.pointer (some ⟨rb, 0, none⟩))).put (some 22) (.int .i64 q4)).put (some 23) (.slice (some ⟨b5, 0, none⟩) 5 5)).put (some 24) (.slice (some ⟨b6, 0, none⟩) 8 8)).put (some 25) (.pointer (some ⟨rb, 0, none⟩))).put (some 26) (.int .i64 (k8 : Int))).put (some 27) (.pointer (some ⟨b6, k8, none⟩))).put (some 28) (.int .i64 (m10 : Int))).put (some 29) (.pointer (some ⟨b5, m10, none⟩))).put (some 30) (.int .i64 r12)) ∧ Hid (MidW w w0.heap.size rb w1.heap.size (1116 + 2) (.agg #[.slice a ram.length c, .slice b rom.length d, .int .i64 bank]) (.slice a ram.length c) (.slice b rom.length d) (.int .i64 bank) (.slice none 0 0) (.slice none 0 0) (.int .i64 0) ram rom bank W) ∧ Hid (LitI rb 5 W b5) ∧ Hid (w.heap.size ≠ b5) ∧ Hid (LitR rb 8 5 W b6) ∧ Hid (w.heap.size ≠ b6) ∧ Hid (k8 < 8) ∧ Hid (m10 < 5)) ?_ (fun HD1 => ?_)
  · rintro act9 W ⟨q4, b5, b6, k8, m10, r12, rfl, hF, h5, n5, h6, n6, hk8, hm10⟩
    subst hA0
    have hlW := hF.out.rd.lt
    obtain ⟨x0, x1, x2, xf0, xf1, xf2⟩ := id hF.out.six
    obtain ⟨e0, e1, e2, ef0, ef1, ef2⟩ := id hF.out.box
    have hX1 : w1.heap.size < W.heap.size := block_lt_of_cell x0
    have hXw : w.heap.size < W.heap.size := block_lt_of_cell e0
    (try simp only [Act.put, List.setIfInBounds_toArray, List.set_cons_zero, List.set_cons_succ])
    refine wpAny_ready (rs := [13]) (by kernel_rfl) (by simp) ?_
    refine AllReady.cons (o := ({ dst := none, op := Op.store 37 (Operand.tmp 2) (Operand.tmp 18), type := 0, pos := "l20_draw.go:191", after := #[{ on := 0, ground := Ground.data }, { on := 8, ground := Ground.chain }, { on := 0, ground := Ground.phase }, { on := 1, ground := Ground.textOnly Departure.lateStores }, { on := 2, ground := Ground.textOnly Departure.lateStores }, { on := 3, ground := Ground.textOnly Departure.lateStores }, { on := 4, ground := Ground.textOnly Departure.lateStoresUnsure }, { on := 5, ground := Ground.textOnly Departure.lateStores }, { on := 6, ground := Ground.textOnly Departure.lateStores }, { on := 7, ground := Ground.textOnly Departure.lateStores }, { on := 8, ground := Ground.textOnly Departure.lateStoresUnsure }, { on := 9, ground := Ground.textOnly Departure.lateStores }, { on := 10, ground := Ground.textOnly Departure.lateStores }, { on := 11, ground := Ground.textOnly Departure.lateStores }, { on := 12, ground := Ground.textOnly Departure.lateStores }], guard := none } : Oper)) rfl (fun K hK => ?_) ?_
    · go_simp
      refine hK _ _ ?_
      clear hK K
      (try simp only [Act.put, List.setIfInBounds_toArray, List.set_cons_zero, List.set_cons_succ])
      refine wpAny_take (i := 14) (oi := ({ dst := some 3, op := Op.assign (Operand.tmp 19), type := 3, pos := "l20_draw.go:191", after := #[{ on := 1, ground := Ground.data }, { on := 13, ground := Ground.chain }, { on := 0, ground := Ground.phase }, { on := 1, ground := Ground.phase }, { on := 2, ground := Ground.textOnly Departure.lateStores }, { on := 3, ground := Ground.textOnly Departure.lateStores }, { on := 4, ground := Ground.textOnly Departure.lateStoresUnsure }, { on := 5, ground := Ground.textOnly Departure.lateStores }, { on := 6, ground := Ground.textOnly Departure.lateStores }, { on := 7, ground := Ground.textOnly Departure.lateStores }, { on := 8, ground := Ground.textOnly Departure.lateStoresUnsure }, { on := 9, ground := Ground.textOnly Departure.lateStores }, { on := 10, ground := Ground.textOnly Departure.lateStores }, { on := 11, ground := Ground.textOnly Departure.lateStores }, { on := 12, ground := Ground.textOnly Departure.lateStores }, { on := 13, ground := Ground.phase }], guard := none } : Oper)) (v := ?_) rfl (by kernel_rfl) (by kernel_rfl) (by kernel_rfl) (fun _ _ _ h => h) (Or.inl ⟨by rfl, ?_⟩) ?_
      rotate_left
      · intro wq; go_simp; (try with_reducible rfl)
      (try simp only [Act.put, List.setIfInBounds_toArray, List.set_cons_zero, List.set_cons_succ])
      refine wpAny_take (i := 15) (oi := ({ dst := some 4, op := Op.assign (Operand.tmp 20), type := 3, pos := "l20_draw.go:191", after := #[{ on := 2, ground := Ground.data }, { on := 14, ground := Ground.chain }, { on := 0, ground := Ground.phase }, { on := 1, ground := Ground.phase }, { on := 2, ground := Ground.phase }, { on := 3, ground := Ground.textOnly Departure.lateStores }, { on := 4, ground := Ground.textOnly Departure.lateStoresUnsure }, { on := 5, ground := Ground.textOnly Departure.lateStores }, { on := 6, ground := Ground.textOnly Departure.lateStores }, { on := 7, ground := Ground.textOnly Departure.lateStores }, { on := 8, ground := Ground.textOnly Departure.lateStoresUnsure }, { on := 9, ground := Ground.textOnly Departure.lateStores }, { on := 10, ground := Ground.textOnly Departure.lateStores }, { on := 11, ground := Ground.textOnly Departure.lateStores }, { on := 12, ground := Ground.textOnly Departure.lateStores }, { on := 13, ground := Ground.phase }, { on := 14, ground := Ground.phase }], guard := none } : Oper)) (v := ?_) rfl (by kernel_rfl) (by kernel_rfl) (by kernel_rfl) (fun _ _ _ h => h) (Or.inl ⟨by rfl, ?_⟩) ?_
      rotate_left
      · intro wq; go_simp; (try with_reducible rfl)
      (try simp only [Act.put, List.setIfInBounds_toArray, List.set_cons_zero, List.set_cons_succ])
      refine wpAny_take (i := 16) (oi := ({ dst := some 5, op := Op.assign (Operand.tmp 30), type := 3, pos := "l20_draw.go:191", after := #[{ on := 12, ground := Ground.data }, { on := 15, ground := Ground.chain }, { on := 0, ground := Ground.phase }, { on := 1, ground := Ground.phase }, { on := 2, ground := Ground.phase }, { on := 3, ground := Ground.phase }, { on := 4, ground := Ground.phase }, { on := 5, ground := Ground.phase }, { on := 6, ground := Ground.phase }, { on := 7, ground := Ground.phase }, { on := 8, ground := Ground.phase }, { on := 9, ground := Ground.phase }, { on := 10, ground := Ground.phase }, { on := 11, ground := Ground.phase }, { on := 12, ground := Ground.phase }, { on := 13, ground := Ground.phase }, { on := 14, ground := Ground.phase }, { on := 15, ground := Ground.phase }], guard := none } : Oper)) (v := ?_) rfl (by kernel_rfl) (by kernel_rfl) (by kernel_rfl) (fun _ _ _ h => h) (Or.inl ⟨by rfl, ?_⟩) ?_
      rotate_left
      · intro wq; go_simp; (try with_reducible rfl)
      (try simp only [Act.put, List.setIfInBounds_toArray, List.set_cons_zero, List.set_cons_succ])
      refine wpAny_done (by kernel_rfl) ?_ _
      go_wp2_with fail
      refine bodyPost_ret (v := .tuple #[.agg #[.slice a ram.length c, .slice b rom.length d, .int .i64 bank], .int .i64 xp, .int .i64 xq, .int .i64 r12]) (by simp [results, Try.results23, go_sem, e0, e1, e2]) rfl ⟨_, ram, rom, bank, xp, xq, r12, rfl, ?_, hr1, hr2, hr3, ?_⟩
      · first | exact hF.out.mem.mem | exact (hF.out.setBox _ _ _ _ _ _ _).mem.mem
      · first | exact hF.out.bel | exact (hF.out.setBox _ _ _ _ _ _ _).bel
    exact AllReady.nil
  refine wpAny_pre 4 #[true, true, true, true, true, true, true, true, true, true, false, false, false, true, true, true, false] (fun act9 W => ∃ q4 : Int, ∃ b5 : Nat, ∃ b6 : Nat, ∃ k8 : Nat, act9 = ((((((((((((A0.put (some 18) (.agg #[.slice a ram.length c, .slice b rom.length d, .int .i64 bank])).put (some 19) (.int .i64 xp)).put (some 20) (.int .i64 xq)).put (some 21) (.pointer (some ⟨rb, 0, none⟩))).put (some 22) (.int .i64 q4)).put (some 23) (.slice (some ⟨b5, 0, none⟩) 5 5)).put (some 24) (.slice (some ⟨b6, 0, none⟩) 8 8)).put (some 25) (.pointer (some ⟨rb, 0, none⟩))).put (some 26) (.int .i64 (k8 : Int))).put (some 27) (.pointer (some ⟨b6, k8, none⟩))).put (some 3) (.int .i64 xp)).put (some 4) (.int .i64 xq)) ∧ Hid (MidW w w0.heap.size rb w1.heap.size (1116 + 2) (.agg #[.slice a ram.length c, .slice b rom.length d, .int .i64 bank]) (.slice a ram.length c) (.slice b rom.length d) (.int .i64 bank) (.slice a ram.length c) (.slice b rom.length d) (.int .i64 bank) ram rom bank W) ∧ Hid (LitI rb 5 W b5) ∧ Hid (w.heap.size ≠ b5) ∧ Hid (LitR rb 8 5 W b6) ∧ Hid (w.heap.size ≠ b6) ∧ Hid (k8 < 8)) ?_ (fun HD2 => ?_)
  · rintro act9 W ⟨q4, b5, b6, k8, rfl, hF, h5, n5, h6, n6, hk8⟩
    subst hA0
    have hlW := hF.out.rd.lt
    obtain ⟨x0, x1, x2, xf0, xf1, xf2⟩ := id hF.out.six
    obtain ⟨e0, e1, e2, ef0, ef1, ef2⟩ := id hF.out.box
    have hX1 : w1.heap.size < W.heap.size := block_lt_of_cell x0
    have hXw : w.heap.size < W.heap.size := block_lt_of_cell e0
    (try simp only [Act.put, List.setIfInBounds_toArray, List.set_cons_zero, List.set_cons_succ])
    refine wpAny_ready (rs := [10]) (by kernel_rfl) (by simp) ?_
    refine AllReady.cons (o := ({ dst := some 28, op := Op.load 3 (Operand.tmp 27), type := 3, pos := "l20_draw.go:191", after := #[{ on := 9, ground := Ground.data }, { on := 15, ground := Ground.gcOnly Departure.lateStores }], guard := none } : Oper)) rfl (fun K hK => ?_) ?_
    · obtain ⟨m10, hm0, hc10⟩ := h6.out.2.2 k8 hk8.out
      have hm10 := Lib.hid hm0
      clear hm0
      go_simp
      refine hK _ _ ?_
      clear hK K
      (try simp only [Act.put, List.setIfInBounds_toArray, List.set_cons_zero, List.set_cons_succ])
      have hm10i : (m10 : Int) < 5 := by have := hm10.out; omega
      refine wpAny_take (i := 11) (oi := ({ dst := some 29, op := Op.indexAddr 23 (Operand.tmp 23) (Operand.tmp 28), type := 0, pos := "l20_draw.go:191", after := #[{ on := 5, ground := Ground.data }, { on := 10, ground := Ground.data }, { on := 15, ground := Ground.gcOnly Departure.lateStores }], guard := none } : Oper)) (v := ?_) rfl (by kernel_rfl) (by kernel_rfl) (by kernel_rfl) (fun _ _ _ h => h) (Or.inl ⟨by rfl, ?_⟩) ?_
      rotate_left
      · intro wq; go_simp; (try with_reducible rfl)
      (try simp only [Act.put, List.setIfInBounds_toArray, List.set_cons_zero, List.set_cons_succ])
      refine wpAny_to (by kernel_rfl) (by kernel_rfl) (HD0.out _ _ ?_)
      apply Exists.intro
      apply Exists.intro
      apply Exists.intro
      apply Exists.intro
      apply Exists.intro
      refine ⟨?_, ?_, ?_, ?_, ?_, ?_, ?_, ?_⟩
      · (try simp only [Act.put, List.setIfInBounds_toArray, List.set_cons_zero, List.set_cons_succ]); (try rfl)
      · exact hF.out
      · exact h5.out
      · exact n5.out
      · exact h6.out
      · exact n6.out
      · exact hk8.out
      · exact hm10.out
    exact AllReady.nil
  refine wpAny_pre 4 #[true, true, true, true, true, false, true, true, true, true, true, false, false, true, true, true, false] (fun act9 W => ∃ q4 : Int, ∃ b6 : Nat, ∃ k8 : Nat, ∃ m10 : Nat, act9 = ((((((((((((A0.put (some 18) (.agg #[.slice a ram.length c, .slice b rom.length d, .int .i64 bank])).put (some 19) (.int .i64 xp)).put (some 20) (.int .i64 xq)).put (some 21) (.pointer (some ⟨rb, 0, none⟩))).put (some 22) (.int .i64 q4)).put (some 24) (.slice (some ⟨b6, 0, none⟩) 8 8)).put (some 25) (.pointer (some ⟨rb, 0, none⟩))).put (some 26) (.int .i64 (k8 : Int))).put (some 27) (.pointer (some ⟨b6, k8, none⟩))).put (some 28) (.int .i64 (m10 : Int))).put (some 3) (.int .i64 xp)).put (some 4) (.int .i64 xq)) ∧ Hid (MidW w w0.heap.size rb w1.heap.size (1116 + 2) (.agg #[.slice a ram.length c, .slice b rom.length d, .int .i64 bank]) (.slice a ram.length c) (.slice b rom.length d) (.int .i64 bank) (.slice a ram.length c) (.slice b rom.length d) (.int .i64 bank) ram rom bank W) ∧ Hid (LitR rb 8 5 W b6) ∧ Hid (w.heap.size ≠ b6) ∧ Hid (k8 < 8) ∧ Hid (m10 < 5)) ?_ (fun HD3 => ?_)
  · rintro act9 W ⟨q4, b6, k8, m10, rfl, hF, h6, n6, hk8, hm10⟩
    subst hA0
    have hlW := hF.out.rd.lt
    obtain ⟨x0, x1, x2, xf0, xf1, xf2⟩ := id hF.out.six
    obtain ⟨e0, e1, e2, ef0, ef1, ef2⟩ := id hF.out.box
    have hX1 : w1.heap.size < W.heap.size := block_lt_of_cell x0
    have hXw : w.heap.size < W.heap.size := block_lt_of_cell e0
    (try simp only [Act.put, List.setIfInBounds_toArray, List.set_cons_zero, List.set_cons_succ])
    refine wpAny_ready (rs := [5]) (by kernel_rfl) (by simp) ?_
    refine AllReady.cons (o := ({ dst := some 23, op := Op.buildSlice 23 5 #[(0, Operand.tmp 22), (1, Operand.const (Value.int IntKind.i64 256)), (2, Operand.const (Value.int IntKind.i64 257)), (3, Operand.const (Value.int IntKind.i64 (-1))), (4, Operand.const (Value.int IntKind.i64 0))], type := 23, pos := "l20_draw.go:191", after := #[{ on := 4, ground := Ground.data }, { on := 15, ground := Ground.gcOnly Departure.lateStores }], guard := none } : Oper)) rfl (fun K hK => ?_) ?_
    · go_simp
      refine hK _ _ ?_
      clear hK K
      (try simp only [Act.put, List.setIfInBounds_toArray, List.set_cons_zero, List.set_cons_succ])
      have hm10i : (m10 : Int) < 5 := by have := hm10.out; omega
      refine wpAny_take (i := 11) (oi := ({ dst := some 29, op := Op.indexAddr 23 (Operand.tmp 23) (Operand.tmp 28), type := 0, pos := "l20_draw.go:191", after := #[{ on := 5, ground := Ground.data }, { on := 10, ground := Ground.data }, { on := 15, ground := Ground.gcOnly Departure.lateStores }], guard := none } : Oper)) (v := ?_) rfl (by kernel_rfl) (by kernel_rfl) (by kernel_rfl) (fun _ _ _ h => h) (Or.inl ⟨by rfl, ?_⟩) ?_
      rotate_left
      · intro wq; go_simp; (try with_reducible rfl)
      (try simp only [Act.put, List.setIfInBounds_toArray, List.set_cons_zero, List.set_cons_succ])
      refine wpAny_to (by kernel_rfl) (by kernel_rfl) (HD0.out _ _ ?_)
      apply Exists.intro
      apply Exists.intro
      apply Exists.intro
      apply Exists.intro
      apply Exists.intro
      refine ⟨?_, ?_, ?_, ?_, ?_, ?_, ?_, ?_⟩
      · (try simp only [Act.put, List.setIfInBounds_toArray, List.set_cons_zero, List.set_cons_succ]); (try rfl)
      · exact hF.out.alloc _
      · exact LitI.new rfl rfl hlW
      · exact Nat.ne_of_lt hXw
      · exact h6.out.alloc _
      · exact n6.out
      · exact hk8.out
      · exact hm10.out
    exact AllReady.nil
  refine wpAny_pre 5 #[true, true, true, true, true, true, true, true, true, true, true, true, false, false, false, false, false] (fun act9 W => ∃ q4 : Int, ∃ b5 : Nat, ∃ b6 : Nat, ∃ k8 : Nat, ∃ m10 : Nat, act9 = ((((((((((((A0.put (some 18) (.agg #[.slice a ram.length c, .slice b rom.length d, .int .i64 bank])).put (some 19) (.int .i64 xp)).put (some 20) (.int .i64 xq)).put (some 21) (.pointer (some ⟨rb, 0, none⟩))).put (some 22) (.int .i64 q4)).put (some 23) (.slice (some ⟨b5, 0, none⟩) 5 5)).put (some 24) (.slice (some ⟨b6, 0, none⟩) 8 8)).put (some 25) (.pointer (some ⟨rb, 0, none⟩))).put (some 26) (.int .i64 (k8 : Int))).put (some 27) (.pointer (some ⟨b6, k8, none⟩))).put (some 28) (.int .i64 (m10 : Int))).put (some 29) (.pointer (some ⟨b5, m10, none⟩))) ∧ Hid (MidW w w0.heap.size rb w1.heap.size (1116 + 2) (.agg #[.slice a ram.length c, .slice b rom.length d, .int .i64 bank]) (.slice a ram.length c) (.slice b rom.length d) (.int .i64 bank) (.slice none 0 0) (.slice none 0 0) (.int .i64 0) ram rom bank W) ∧ Hid (LitI rb 5 W b5) ∧ Hid (w.heap.size ≠ b5) ∧ Hid (LitR rb 8 5 W b6) ∧ Hid (w.heap.size ≠ b6) ∧ Hid (k8 < 8) ∧ Hid (m10 < 5)) ?_ (fun HD4 => ?_)
  · rintro act9 W ⟨q4, b5, b6, k8, m10, rfl, hF, h5, n5, h6, n6, hk8, hm10⟩
    subst hA0
    have hlW := hF.out.rd.lt
    obtain ⟨x0, x1, x2, xf0, xf1, xf2⟩ := id hF.out.six
    obtain ⟨e0, e1, e2, ef0, ef1, ef2⟩ := id hF.out.box
    have hX1 : w1.heap.size < W.heap.size := block_lt_of_cell x0
    have hXw : w.heap.size < W.heap.size := block_lt_of_cell e0
    (try simp only [Act.put, List.setIfInBounds_toArray, List.set_cons_zero, List.set_cons_succ])
    refine wpAny_ready (rs := [12, 13]) (by kernel_rfl) (by simp) ?_
    refine AllReady.cons (o := ({ dst := some 30, op := Op.load 3 (Operand.tmp 29), type := 3, pos := "l20_draw.go:191", after := #[{ on := 11, ground := Ground.data }, { on := 15, ground := Ground.gcOnly Departure.lateStores }], guard := none } : Oper)) rfl (fun K hK => ?_) ?_
    · obtain ⟨r12, hc12⟩ := h5.out.2.2 m10 hm10.out
      go_simp
      refine hK _ _ ?_
      clear hK K
      (try simp only [Act.put, List.setIfInBounds_toArray, List.set_cons_zero, List.set_cons_succ])
      refine wpAny_to (by kernel_rfl) (by kernel_rfl) (HD1.out _ _ ?_)
      apply Exists.intro
      apply Exists.intro
      apply Exists.intro
      apply Exists.intro
      apply Exists.intro
      apply Exists.intro
      refine ⟨?_, ?_, ?_, ?_, ?_, ?_, ?_, ?_⟩
      · (try simp only [Act.put, List.setIfInBounds_toArray, List.set_cons_zero, List.set_cons_succ]); (try rfl)
      · exact hF.out
      · exact h5.out
      · exact n5.out
      · exact h6.out
      · exact n6.out
      · exact hk8.out
      · exact hm10.out
    refine AllReady.cons (o := ({ dst := none, op := Op.store 37 (Operand.tmp 2) (Operand.tmp 18), type := 0, pos := "l20_draw.go:191", after := #[{ on := 0, ground := Ground.data }, { on := 8, ground := Ground.chain }, { on := 0, ground := Ground.phase }, { on := 1, ground := Ground.textOnly Departure.lateStores }, { on := 2, ground := Ground.textOnly Departure.lateStores }, { on := 3, ground := Ground.textOnly Departure.lateStores }, { on := 4, ground := Ground.textOnly Departure.lateStoresUnsure }, { on := 5, ground := Ground.textOnly Departure.lateStores }, { on := 6, ground := Ground.textOnly Departure.lateStores }, { on := 7, ground := Ground.textOnly Departure.lateStores }, { on := 8, ground := Ground.textOnly Departure.lateStoresUnsure }, { on := 9, ground := Ground.textOnly Departure.lateStores }, { on := 10, ground := Ground.textOnly Departure.lateStores }, { on := 11, ground := Ground.textOnly Departure.lateStores }, { on := 12, ground := Ground.textOnly Departure.lateStores }], guard := none } : Oper)) rfl (fun K hK => ?_) ?_
    · go_simp
      refine hK _ _ ?_
      clear hK K
      (try simp only [Act.put, List.setIfInBounds_toArray, List.set_cons_zero, List.set_cons_succ])
      refine wpAny_take (i := 14) (oi := ({ dst := some 3, op := Op.assign (Operand.tmp 19), type := 3, pos := "l20_draw.go:191", after := #[{ on := 1, ground := Ground.data }, { on := 13, ground := Ground.chain }, { on := 0, ground := Ground.phase }, { on := 1, ground := Ground.phase }, { on := 2, ground := Ground.textOnly Departure.lateStores }, { on := 3, ground := Ground.textOnly Departure.lateStores }, { on := 4, ground := Ground.textOnly Departure.lateStoresUnsure }, { on := 5, ground := Ground.textOnly Departure.lateStores }, { on := 6, ground := Ground.textOnly Departure.lateStores }, { on := 7, ground := Ground.textOnly Departure.lateStores }, { on := 8, ground := Ground.textOnly Departure.lateStoresUnsure }, { on := 9, ground := Ground.textOnly Departure.lateStores }, { on := 10, ground := Ground.textOnly Departure.lateStores }, { on := 11, ground := Ground.textOnly Departure.lateStores }, { on := 12, ground := Ground.textOnly Departure.lateStores }, { on := 13, ground := Ground.phase }], guard := none } : Oper)) (v := ?_) rfl (by kernel_rfl) (by kernel_rfl) (by kernel_rfl) (fun _ _ _ h => h) (Or.inl ⟨by rfl, ?_⟩) ?_
      rotate_left
      · intro wq; go_simp; (try with_reducible rfl)
      (try simp only [Act.put, List.setIfInBounds_toArray, List.set_cons_zero, List.set_cons_succ])
      refine wpAny_take (i := 15) (oi := ({ dst := some 4, op := Op.assign (Operand.tmp 20), type := 3, pos := "l20_draw.go:191", after := #[{ on := 2, ground := Ground.data }, { on := 14, ground := Ground.chain }, { on := 0, ground := Ground.phase }, { on := 1, ground := Ground.phase }, { on := 2, ground := Ground.phase }, { on := 3, ground := Ground.textOnly Departure.lateStores }, { on := 4, ground := Ground.textOnly Departure.lateStoresUnsure }, { on := 5, ground := Ground.textOnly Departure.lateStores }, { on := 6, ground := Ground.textOnly Departure.lateStores }, { on := 7, ground := Ground.textOnly Departure.lateStores }, { on := 8, ground := Ground.textOnly Departure.lateStoresUnsure }, { on := 9, ground := Ground.textOnly Departure.lateStores }, { on := 10, ground := Ground.textOnly Departure.lateStores }, { on := 11, ground := Ground.textOnly Departure.lateStores }, { on := 12, ground := Ground.textOnly Departure.lateStores }, { on := 13, ground := Ground.phase }, { on := 14, ground := Ground.phase }], guard := none } : Oper)) (v := ?_) rfl (by kernel_rfl) (by kernel_rfl) (by kernel_rfl) (fun _ _ _ h => h) (Or.inl ⟨by rfl, ?_⟩) ?_
      rotate_left
      · intro wq; go_simp; (try with_reducible rfl)
      (try simp only [Act.put, List.setIfInBounds_toArray, List.set_cons_zero, List.set_cons_succ])
      refine wpAny_to (by kernel_rfl) (by kernel_rfl) (HD0.out _ _ ?_)
      apply Exists.intro
      apply Exists.intro
      apply Exists.intro
      apply Exists.intro
      apply Exists.intro
      refine ⟨?_, ?_, ?_, ?_, ?_, ?_, ?_, ?_⟩
      · (try simp only [Act.put, List.setIfInBounds_toArray, List.set_cons_zero, List.set_cons_succ]); (try rfl)
      · exact hF.out.setBox _ _ _ _ _ _ _
      · exact ((h5.out.set (p := ⟨w.heap.size, 0, none⟩) n5.out _).set (p := ⟨w.heap.size, 1, none⟩) n5.out _).set (p := ⟨w.heap.size, 2, none⟩) n5.out _
      · exact n5.out
      · exact ((h6.out.set (p := ⟨w.heap.size, 0, none⟩) n6.out _).set (p := ⟨w.heap.size, 1, none⟩) n6.out _).set (p := ⟨w.heap.size, 2, none⟩) n6.out _
      · exact n6.out
      · exact hk8.out
      · exact hm10.out
    exact AllReady.nil
  refine wpAny_pre 5 #[true, true, true, true, true, false, true, true, true, true, false, false, false, true, true, true, false] (fun act9 W => ∃ q4 : Int, ∃ b6 : Nat, ∃ k8 : Nat, act9 = (((((((((((A0.put (some 18) (.agg #[.slice a ram.length c, .slice b rom.length d, .int .i64 bank])).put (some 19) (.int .i64 xp)).put (some 20) (.int .i64 xq)).put (some 21) (.pointer (some ⟨rb, 0, none⟩))).put (some 22) (.int .i64 q4)).put (some 24) (.slice (some ⟨b6, 0, none⟩) 8 8)).put (some 25) (.pointer (some ⟨rb, 0, none⟩))).put (some 26) (.int .i64 (k8 : Int))).put (some 27) (.pointer (some ⟨b6, k8, none⟩))).put (some 3) (.int .i64 xp)).put (some 4) (.int .i64 xq)) ∧ Hid (MidW w w0.heap.size rb w1.heap.size (1116 + 2) (.agg #[.slice a ram.length c, .slice b rom.length d, .int .i64 bank]) (.slice a ram.length c) (.slice b rom.length d) (.int .i64 bank) (.slice a ram.length c) (.slice b rom.length d) (.int .i64 bank) ram rom bank W) ∧ Hid (LitR rb 8 5 W b6) ∧ Hid (w.heap.size ≠ b6) ∧ Hid (k8 < 8)) ?_ (fun HD5 => ?_)
  · rintro act9 W ⟨q4, b6, k8, rfl, hF, h6, n6, hk8⟩
    subst hA0
    have hlW := hF.out.rd.lt
    obtain ⟨x0, x1, x2, xf0, xf1, xf2⟩ := id hF.out.six
    obtain ⟨e0, e1, e2, ef0, ef1, ef2⟩ := id hF.out.box
    have hX1 : w1.heap.size < W.heap.size := block_lt_of_cell x0
    have hXw : w.heap.size < W.heap.size := block_lt_of_cell e0
    (try simp only [Act.put, List.setIfInBounds_toArray, List.set_cons_zero, List.set_cons_succ])
    refine wpAny_ready (rs := [5, 10]) (by kernel_rfl) (by simp) ?_
    refine AllReady.cons (o := ({ dst := some 23, op := Op.buildSlice 23 5 #[(0, Operand.tmp 22), (1, Operand.const (Value.int IntKind.i64 256)), (2, Operand.const (Value.int IntKind.i64 257)), (3, Operand.const (Value.int IntKind.i64 (-1))), (4, Operand.const (Value.int IntKind.i64 0))], type := 23, pos := "l20_draw.go:191", after := #[{ on := 4, ground := Ground.data }, { on := 15, ground := Ground.gcOnly Departure.lateStores }], guard := none } : Oper)) rfl (fun K hK => ?_) ?_
    · go_simp
      refine hK _ _ ?_
      clear hK K
      (try simp only [Act.put, List.setIfInBounds_toArray, List.set_cons_zero, List.set_cons_succ])
      refine wpAny_to (by kernel_rfl) (by kernel_rfl) (HD2.out _ _ ?_)
      apply Exists.intro
      apply Exists.intro
      apply Exists.intro
      apply Exists.intro
      refine ⟨?_, ?_, ?_, ?_, ?_, ?_, ?_⟩
      · (try simp only [Act.put, List.setIfInBounds_toArray, List.set_cons_zero, List.set_cons_succ]); (try rfl)
      · exact hF.out.alloc _
      · exact LitI.new rfl rfl hlW
      · exact Nat.ne_of_lt hXw
      · exact h6.out.alloc _
      · exact n6.out
      · exact hk8.out
    refine AllReady.cons (o := ({ dst := some 28, op := Op.load 3 (Operand.tmp 27), type := 3, pos := "l20_draw.go:191", after := #[{ on := 9, ground := Ground.data }, { on := 15, ground := Ground.gcOnly Departure.lateStores }], guard := none } : Oper)) rfl (fun K hK => ?_) ?_
    · obtain ⟨m10, hm0, hc10⟩ := h6.out.2.2 k8 hk8.out
      have hm10 := Lib.hid hm0
      clear hm0
      go_simp
      refine hK _ _ ?_
      clear hK K
      (try simp only [Act.put, List.setIfInBounds_toArray, List.set_cons_zero, List.set_cons_succ])
      refine wpAny_to (by kernel_rfl) (by kernel_rfl) (HD3.out _ _ ?_)
      apply Exists.intro
      apply Exists.intro
      apply Exists.intro
      apply Exists.intro
      refine ⟨?_, ?_, ?_, ?_, ?_, ?_⟩
      · (try simp only [Act.put, List.setIfInBounds_toArray, List.set_cons_zero, List.set_cons_succ]); (try rfl)
      · exact hF.out
      · exact h6.out
      · exact n6.out
      · exact hk8.out
      · exact hm10.out
    exact AllReady.nil
  refine wpAny_pre 5 #[false, true, true, true, true, true, true, true, true, true, true, true, true, false, false, false, false] (fun act9 W => ∃ q4 : Int, ∃ b5 : Nat, ∃ b6 : Nat, ∃ k8 : Nat, ∃ m10 : Nat, ∃ r12 : Int, act9 = ((((((((((((A0.put (some 19) (.int .i64 xp)).put (some 20) (.int .i64 xq)).put (some 21) (.pointer (some ⟨rb, 0, none⟩))).put (some 22) (.int .i64 q4)).put (some 23) (.slice (some ⟨b5, 0, none⟩) 5 5)).put (some 24) (.slice (some ⟨b6, 0, none⟩) 8 8)).put (some 25) (.pointer (some ⟨rb, 0, none⟩))).put (some 26) (.int .i64 (k8 : Int))).put (some 27) (.pointer (some ⟨b6, k8, none⟩))).put (some 28) (.int .i64 (m10 : Int))).put (some 29) (.pointer (some ⟨b5, m10, none⟩))).put (some 30) (.int .i64 r12)) ∧ Hid (MidW w w0.heap.size rb w1.heap.size (1116 + 2) (.agg #[.slice a ram.length c, .slice b rom.length d, .int .i64 bank]) (.slice a ram.length c) (.slice b rom.length d) (.int .i64 bank) (.slice none 0 0) (.slice none 0 0) (.int .i64 0) ram rom bank W) ∧ Hid (LitI rb 5 W b5) ∧ Hid (w.heap.size ≠ b5) ∧ Hid (LitR rb 8 5 W b6) ∧ Hid (w.heap.size ≠ b6) ∧ Hid (k8 < 8) ∧ Hid (m10 < 5)) ?_ (fun HD6 => ?_)
  · rintro act9 W ⟨q4, b5, b6, k8, m10, r12, rfl, hF, h5, n5, h6, n6, hk8, hm10⟩
    subst hA0
    have hlW := hF.out.rd.lt
    obtain ⟨x0, x1, x2, xf0, xf1, xf2⟩ := id hF.out.six
    obtain ⟨e0, e1, e2, ef0, ef1, ef2⟩ := id hF.out.box
    have hX1 : w1.heap.size < W.heap.size := block_lt_of_cell x0
    have hXw : w.heap.size < W.heap.size := block_lt_of_cell e0
    (try simp only [Act.put, List.setIfInBounds_toArray, List.set_cons_zero, List.set_cons_succ])
    refine wpAny_ready (rs := [0]) (by kernel_rfl) (by simp) ?_
    refine AllReady.cons (o := ({ dst := some 18, op := Op.load 37 (Operand.tmp 7), type := 37, pos := "l20_draw.go:191", after := #[], guard := none } : Oper)) rfl (fun K hK => ?_) ?_
    · go_simp
      refine hK _ _ ?_
      clear hK K
      (try simp only [Act.put, List.setIfInBounds_toArray, List.set_cons_zero, List.set_cons_succ])
      refine wpAny_to (by kernel_rfl) (by kernel_rfl) (HD1.out _ _ ?_)
      apply Exists.intro
      apply Exists.intro
      apply Exists.intro
      apply Exists.intro
      apply Exists.intro
      apply Exists.intro
      refine ⟨?_, ?_, ?_, ?_, ?_, ?_, ?_, ?_⟩
      · (try simp only [Act.put, List.setIfInBounds_toArray, List.set_cons_zero, List.set_cons_succ]); (try rfl)
      · exact hF.out
      · exact h5.out
      · exact n5.out
      · exact h6.out
      · exact n6.out
      · exact hk8.out
      · exact hm10.out
    exact AllReady.nil
  refine wpAny_pre 6 #[true, true, true, true, true, true, false, true, true, false, false, false, false, true, true, true, false] (fun act9 W => ∃ q4 : Int, ∃ b5 : Nat, ∃ k8 : Nat, act9 = ((((((((((A0.put (some 18) (.agg #[.slice a ram.length c, .slice b rom.length d, .int .i64 bank])).put (some 19) (.int .i64 xp)).put (some 20) (.int .i64 xq)).put (some 21) (.pointer (some ⟨rb, 0, none⟩))).put (some 22) (.int .i64 q4)).put (some 23) (.slice (some ⟨b5, 0, none⟩) 5 5)).put (some 25) (.pointer (some ⟨rb, 0, none⟩))).put (some 26) (.int .i64 (k8 : Int))).put (some 3) (.int .i64 xp)).put (some 4) (.int .i64 xq)) ∧ Hid (MidW w w0.heap.size rb w1.heap.size (1116 + 2) (.agg #[.slice a ram.length c, .slice b rom.length d, .int .i64 bank]) (.slice a ram.length c) (.slice b rom.length d) (.int .i64 bank) (.slice a ram.length c) (.slice b rom.length d) (.int .i64 bank) ram rom bank W) ∧ Hid (LitI rb 5 W b5) ∧ Hid (w.heap.size ≠ b5) ∧ Hid (k8 < 8)) ?_ (fun HD7 => ?_)
  · rintro act9 W ⟨q4, b5, k8, rfl, hF, h5, n5, hk8⟩
    subst hA0
    have hlW := hF.out.rd.lt
    obtain ⟨x0, x1, x2, xf0, xf1, xf2⟩ := id hF.out.six
    obtain ⟨e0, e1, e2, ef0, ef1, ef2⟩ := id hF.out.box
    have hX1 : w1.heap.size < W.heap.size := block_lt_of_cell x0
    have hXw : w.heap.size < W.heap.size := block_lt_of_cell e0
    (try simp only [Act.put, List.setIfInBounds_toArray, List.set_cons_zero, List.set_cons_succ])
    refine wpAny_ready (rs := [6]) (by kernel_rfl) (by simp) ?_
    refine AllReady.cons (o := ({ dst := some 24, op := Op.buildSlice 23 8 #[(0, Operand.const (Value.int IntKind.i64 0)), (1, Operand.const (Value.int IntKind.i64 0)), (2, Operand.const (Value.int IntKind.i64 0)), (3, Operand.const (Value.int IntKind.i64 0)), (4, Operand.const (Value.int IntKind.i64 1)), (5, Operand.const (Value.int IntKind.i64 2)), (6, Operand.const (Value.int IntKind.i64 3)), (7, Operand.const (Value.int IntKind.i64 4))], type := 23, pos := "l20_draw.go:191", after := #[{ on := 15, ground := Ground.gcOnly Departure.lateStores }], guard := none } : Oper)) rfl (fun K hK => ?_) ?_
    · go_simp
      refine hK _ _ ?_
      clear hK K
      (try simp only [Act.put, List.setIfInBounds_toArray, List.set_cons_zero, List.set_cons_succ])
      have hk8i : (k8 : Int) < 8 := by have := hk8.out; omega
      refine wpAny_take (i := 9) (oi := ({ dst := some 27, op := Op.indexAddr 23 (Operand.tmp 24) (Operand.tmp 26), type := 0, pos := "l20_draw.go:191", after := #[{ on := 6, ground := Ground.data }, { on := 8, ground := Ground.data }, { on := 15, ground := Ground.gcOnly Departure.lateStores }], guard := none } : Oper)) (v := ?_) rfl (by kernel_rfl) (by kernel_rfl) (by kernel_rfl) (fun _ _ _ h => h) (Or.inl ⟨by rfl, ?_⟩) ?_
      rotate_left
      · intro wq; go_simp; (try with_reducible rfl)
      (try simp only [Act.put, List.setIfInBounds_toArray, List.set_cons_zero, List.set_cons_succ])
      refine wpAny_to (by kernel_rfl) (by kernel_rfl) (HD2.out _ _ ?_)
      apply Exists.intro
      apply Exists.intro
      apply Exists.intro
      apply Exists.intro
      refine ⟨?_, ?_, ?_, ?_, ?_, ?_, ?_⟩
      · (try simp only [Act.put, List.setIfInBounds_toArray, List.set_cons_zero, List.set_cons_succ]); (try rfl)
      · exact hF.out.alloc _
      · exact h5.out.alloc _
      · exact n5.out
      · exact LitR.new (by intro k hk; rcases (show k = 0 ∨ k = 1 ∨ k = 2 ∨ k = 3 ∨ k = 4 ∨ k = 5 ∨ k = 6 ∨ k = 7 by omega) with rfl | rfl | rfl | rfl | rfl | rfl | rfl | rfl <;> first | exact ⟨0, by decide, rfl⟩ | exact ⟨1, by decide, rfl⟩ | exact ⟨2, by decide, rfl⟩ | exact ⟨3, by decide, rfl⟩ | exact ⟨4, by decide, rfl⟩) hlW
      · exact Nat.ne_of_lt hXw
      · exact hk8.out
    exact AllReady.nil
  refine wpAny_pre 6 #[false, true, true, true, true, true, true, true, true, true, true, true, false, false, false, false, false] (fun act9 W => ∃ q4 : Int, ∃ b5 : Nat, ∃ b6 : Nat, ∃ k8 : Nat, ∃ m10 : Nat, act9 = (((((((((((A0.put (some 19) (.int .i64 xp)).put (some 20) (.int .i64 xq)).put (some 21) (.pointer (some ⟨rb, 0, none⟩))).put (some 22) (.int .i64 q4)).put (some 23) (.slice (some ⟨b5, 0, none⟩) 5 5)).put (some 24) (.slice (some ⟨b6, 0, none⟩) 8 8)).put (some 25) (.pointer (some ⟨rb, 0, none⟩))).put (some 26) (.int .i64 (k8 : Int))).put (some 27) (.pointer (some ⟨b6, k8, none⟩))).put (some 28) (.int .i64 (m10 : Int))).put (some 29) (.pointer (some ⟨b5, m10, none⟩))) ∧ Hid (MidW w w0.heap.size rb w1.heap.size (1116 + 2) (.agg #[.slice a ram.length c, .slice b rom.length d, .int .i64 bank]) (.slice a ram.length c) (.slice b rom.length d) (.int .i64 bank) (.slice none 0 0) (.slice none 0 0) (.int .i64 0) ram rom bank W) ∧ Hid (LitI rb 5 W b5) ∧ Hid (w.heap.size ≠ b5) ∧ Hid (LitR rb 8 5 W b6) ∧ Hid (w.heap.size ≠ b6) ∧ Hid (k8 < 8) ∧ Hid (m10 < 5)) ?_ (fun HD8 => ?_)
  · rintro act9 W ⟨q4, b5, b6, k8, m10, rfl, hF, h5, n5, h6, n6, hk8, hm10⟩
    subst hA0
    have hlW := hF.out.rd.lt
    obtain ⟨x0, x1, x2, xf0, xf1, xf2⟩ := id hF.out.six
    obtain ⟨e0, e1, e2, ef0, ef1, ef2⟩ := id hF.out.box
    have hX1 : w1.heap.size < W.heap.size := block_lt_of_cell x0
    have hXw : w.heap.size < W.heap.size := block_lt_of_cell e0
    (try simp only [Act.put, List.setIfInBounds_toArray, List.set_cons_zero, List.set_cons_succ])
    refine wpAny_ready (rs := [0, 12]) (by kernel_rfl) (by simp) ?_
    refine AllReady.cons (o := ({ dst := some 18, op := Op.load 37 (Operand.tmp 7), type := 37, pos := "l20_draw.go:191", after := #[], guard := none } : Oper)) rfl (fun K hK => ?_) ?_
    · go_simp
      refine hK _ _ ?_
      clear hK K
      (try simp only [Act.put, List.setIfInBounds_toArray, List.set_cons_zero, List.set_cons_succ])
      refine wpAny_to (by kernel_rfl) (by kernel_rfl) (HD4.out _ _ ?_)
      apply Exists.intro
      apply Exists.intro
      apply Exists.intro
      apply Exists.intro
      apply Exists.intro
      refine ⟨?_, ?_, ?_, ?_, ?_, ?_, ?_, ?_⟩
      · (try simp only [Act.put, List.setIfInBounds_toArray, List.set_cons_zero, List.set_cons_succ]); (try rfl)
      · exact hF.out
      · exact h5.out
      · exact n5.out
      · exact h6.out
      · exact n6.out
      · exact hk8.out
      · exact hm10.out
    refine AllReady.cons (o := ({ dst := some 30, op := Op.load 3 (Operand.tmp 29), type := 3, pos := "l20_draw.go:191", after := #[{ on := 11, ground := Ground.data }, { on := 15, ground := Ground.gcOnly Departure.lateStores }], guard := none } : Oper)) rfl (fun K hK => ?_) ?_
    · obtain ⟨r12, hc12⟩ := h5.out.2.2 m10 hm10.out
      go_simp
      refine hK _ _ ?_
      clear hK K
      (try simp only [Act.put, List.setIfInBounds_toArray, List.set_cons_zero, List.set_cons_succ])
      refine wpAny_to (by kernel_rfl) (by kernel_rfl) (HD6.out _ _ ?_)
      apply Exists.intro
      apply Exists.intro
      apply Exists.intro
      apply Exists.intro
      apply Exists.intro
      apply Exists.intro
      refine ⟨?_, ?_, ?_, ?_, ?_, ?_, ?_, ?_⟩
      · (try simp only [Act.put, List.setIfInBounds_toArray, List.set_cons_zero, List.set_cons_succ]); (try rfl)
      · exact hF.out
      · exact h5.out
      · exact n5.out
      · exact h6.out
      · exact n6.out
      · exact hk8.out
      · exact hm10.out
    exact AllReady.nil
  refine wpAny_pre 7 #[true, true, true, true, true, true, true, true, true, true, false, false, false, false, false, false, false] (fun act9 W => ∃ q4 : Int, ∃ b5 : Nat, ∃ b6 : Nat, ∃ k8 : Nat, act9 = ((((((((((A0.put (some 18) (.agg #[.slice a ram.length c, .slice b rom.length d, .int .i64 bank])).put (some 19) (.int .i64 xp)).put (some 20) (.int .i64 xq)).put (some 21) (.pointer (some ⟨rb, 0, none⟩))).put (some 22) (.int .i64 q4)).put (some 23) (.slice (some ⟨b5, 0, none⟩) 5 5)).put (some 24) (.slice (some ⟨b6, 0, none⟩) 8 8)).put (some 25) (.pointer (some ⟨rb, 0, none⟩))).put (some 26) (.int .i64 (k8 : Int))).put (some 27) (.pointer (some ⟨b6, k8, none⟩))) ∧ Hid (MidW w w0.heap.size rb w1.heap.size (1116 + 2) (.agg #[.slice a ram.length c, .slice b rom.length d, .int .i64 bank]) (.slice a ram.length c) (.slice b rom.length d) (.int .i64 bank) (.slice none 0 0) (.slice none 0 0) (.int .i64 0) ram rom bank W) ∧ Hid (LitI rb 5 W b5) ∧ Hid (w.heap.size ≠ b5) ∧ Hid (LitR rb 8 5 W b6) ∧ Hid (w.heap.size ≠ b6) ∧ Hid (k8 < 8)) ?_ (fun HD9 => ?_)
  · rintro act9 W ⟨q4, b5, b6, k8, rfl, hF, h5, n5, h6, n6, hk8⟩
    subst hA0
    have hlW := hF.out.rd.lt
    obtain ⟨x0, x1, x2, xf0, xf1, xf2⟩ := id hF.out.six
    obtain ⟨e0, e1, e2, ef0, ef1, ef2⟩ := id hF.out.box
    have hX1 : w1.heap.size < W.heap.size := block_lt_of_cell x0
    have hXw : w.heap.size < W.heap.size := block_lt_of_cell e0
    (try simp only [Act.put, List.setIfInBounds_toArray, List.set_cons_zero, List.set_cons_succ])
    refine wpAny_ready (rs := [10, 13]) (by kernel_rfl) (by simp) ?_
    refine AllReady.cons (o := ({ dst := some 28, op := Op.load 3 (Operand.tmp 27), type := 3, pos := "l20_draw.go:191", after := #[{ on := 9, ground := Ground.data }, { on := 15, ground := Ground.gcOnly Departure.lateStores }], guard := none } : Oper)) rfl (fun K hK => ?_) ?_
    · obtain ⟨m10, hm0, hc10⟩ := h6.out.2.2 k8 hk8.out
      have hm10 := Lib.hid hm0
      clear hm0
      go_simp
      refine hK _ _ ?_
      clear hK K
      (try simp only [Act.put, List.setIfInBounds_toArray, List.set_cons_zero, List.set_cons_succ])
      have hm10i : (m10 : Int) < 5 := by have := hm10.out; omega
      refine wpAny_take (i := 11) (oi := ({ dst := some 29, op := Op.indexAddr 23 (Operand.tmp 23) (Operand.tmp 28), type := 0, pos := "l20_draw.go:191", after := #[{ on := 5, ground := Ground.data }, { on := 10, ground := Ground.data }, { on := 15, ground := Ground.gcOnly Departure.lateStores }], guard := none } : Oper)) (v := ?_) rfl (by kernel_rfl) (by kernel_rfl) (by kernel_rfl) (fun _ _ _ h => h) (Or.inl ⟨by rfl, ?_⟩) ?_
      rotate_left
      · intro wq; go_simp; (try with_reducible rfl)
      (try simp only [Act.put, List.setIfInBounds_toArray, List.set_cons_zero, List.set_cons_succ])
      refine wpAny_to (by kernel_rfl) (by kernel_rfl) (HD4.out _ _ ?_)
      apply Exists.intro
      apply Exists.intro
      apply Exists.intro
      apply Exists.intro
      apply Exists.intro
      refine ⟨?_, ?_, ?_, ?_, ?_, ?_, ?_, ?_⟩
      · (try simp only [Act.put, List.setIfInBounds_toArray, List.set_cons_zero, List.set_cons_succ]); (try rfl)
      · exact hF.out
      · exact h5.out
      · exact n5.out
      · exact h6.out
      · exact n6.out
      · exact hk8.out
      · exact hm10.out
    refine AllReady.cons (o := ({ dst := none, op := Op.store 37 (Operand.tmp 2) (Operand.tmp 18), type := 0, pos := "l20_draw.go:191", after := #[{ on := 0, ground := Ground.data }, { on := 8, ground := Ground.chain }, { on := 0, ground := Ground.phase }, { on := 1, ground := Ground.textOnly Departure.lateStores }, { on := 2, ground := Ground.textOnly Departure.lateStores }, { on := 3, ground := Ground.textOnly Departure.lateStores }, { on := 4, ground := Ground.textOnly Departure.lateStoresUnsure }, { on := 5, ground := Ground.textOnly Departure.lateStores }, { on := 6, ground := Ground.textOnly Departure.lateStores }, { on := 7, ground := Ground.textOnly Departure.lateStores }, { on := 8, ground := Ground.textOnly Departure.lateStoresUnsure }, { on := 9, ground := Ground.textOnly Departure.lateStores }, { on := 10, ground := Ground.textOnly Departure.lateStores }, { on := 11, ground := Ground.textOnly Departure.lateStores }, { on := 12, ground := Ground.textOnly Departure.lateStores }], guard := none } : Oper)) rfl (fun K hK => ?_) ?_
    · go_simp
      refine hK _ _ ?_
      clear hK K
      (try simp only [Act.put, List.setIfInBounds_toArray, List.set_cons_zero, List.set_cons_succ])
      refine wpAny_take (i := 14) (oi := ({ dst := some 3, op := Op.assign (Operand.tmp 19), type := 3, pos := "l20_draw.go:191", after := #[{ on := 1, ground := Ground.data }, { on := 13, ground := Ground.chain }, { on := 0, ground := Ground.phase }, { on := 1, ground := Ground.phase }, { on := 2, ground := Ground.textOnly Departure.lateStores }, { on := 3, ground := Ground.textOnly Departure.lateStores }, { on := 4, ground := Ground.textOnly Departure.lateStoresUnsure }, { on := 5, ground := Ground.textOnly Departure.lateStores }, { on := 6, ground := Ground.textOnly Departure.lateStores }, { on := 7, ground := Ground.textOnly Departure.lateStores }, { on := 8, ground := Ground.textOnly Departure.lateStoresUnsure }, { on := 9, ground := Ground.textOnly Departure.lateStores }, { on := 10, ground := Ground.textOnly Departure.lateStores }, { on := 11, ground := Ground.textOnly Departure.lateStores }, { on := 12, ground := Ground.textOnly Departure.lateStores }, { on := 13, ground := Ground.phase }], guard := none } : Oper)) (v := ?_) rfl (by kernel_rfl) (by kernel_rfl) (by kernel_rfl) (fun _ _ _ h => h) (Or.inl ⟨by rfl, ?_⟩) ?_
      rotate_left
      · intro wq; go_simp; (try with_reducible rfl)
      (try simp only [Act.put, List.setIfInBounds_toArray, List.set_cons_zero, List.set_cons_succ])
      refine wpAny_take (i := 15) (oi := ({ dst := some 4, op := Op.assign (Operand.tmp 20), type := 3, pos := "l20_draw.go:191", after := #[{ on := 2, ground := Ground.data }, { on := 14, ground := Ground.chain }, { on := 0, ground := Ground.phase }, { on := 1, ground := Ground.phase }, { on := 2, ground := Ground.phase }, { on := 3, ground := Ground.textOnly Departure.lateStores }, { on := 4, ground := Ground.textOnly Departure.lateStoresUnsure }, { on := 5, ground := Ground.textOnly Departure.lateStores }, { on := 6, ground := Ground.textOnly Departure.lateStores }, { on := 7, ground := Ground.textOnly Departure.lateStores }, { on := 8, ground := Ground.textOnly Departure.lateStoresUnsure }, { on := 9, ground := Ground.textOnly Departure.lateStores }, { on := 10, ground := Ground.textOnly Departure.lateStores }, { on := 11, ground := Ground.textOnly Departure.lateStores }, { on := 12, ground := Ground.textOnly Departure.lateStores }, { on := 13, ground := Ground.phase }, { on := 14, ground := Ground.phase }], guard := none } : Oper)) (v := ?_) rfl (by kernel_rfl) (by kernel_rfl) (by kernel_rfl) (fun _ _ _ h => h) (Or.inl ⟨by rfl, ?_⟩) ?_
      rotate_left
      · intro wq; go_simp; (try with_reducible rfl)
      (try simp only [Act.put, List.setIfInBounds_toArray, List.set_cons_zero, List.set_cons_succ])
      refine wpAny_to (by kernel_rfl) (by kernel_rfl) (HD2.out _ _ ?_)
      apply Exists.intro
      apply Exists.intro
      apply Exists.intro
      apply Exists.intro
      refine ⟨?_, ?_, ?_, ?_, ?_, ?_, ?_⟩
      · (try simp only [Act.put, List.setIfInBounds_toArray, List.set_cons_zero, List.set_cons_succ]); (try rfl)
      · exact hF.out.setBox _ _ _ _ _ _ _
      · exact ((h5.out.set (p := ⟨w.heap.size, 0, none⟩) n5.out _).set (p := ⟨w.heap.size, 1, none⟩) n5.out _).set (p := ⟨w.heap.size, 2, none⟩) n5.out _
      · exact n5.out
      · exact ((h6.out.set (p := ⟨w.heap.size, 0, none⟩) n6.out _).set (p := ⟨w.heap.size, 1, none⟩) n6.out _).set (p := ⟨w.heap.size, 2, none⟩) n6.out _
      · exact n6.out
      · exact hk8.out
    exact AllReady.nil
  refine wpAny_pre 7 #[true, true, true, true, true, false, true, true, true, true, true, false, false, false, false, false, false] (fun act9 W => ∃ q4 : Int, ∃ b6 : Nat, ∃ k8 : Nat, ∃ m10 : Nat, act9 = ((((((((((A0.put (some 18) (.agg #[.slice a ram.length c, .slice b rom.length d, .int .i64 bank])).put (some 19) (.int .i64 xp)).put (some 20) (.int .i64 xq)).put (some 21) (.pointer (some ⟨rb, 0, none⟩))).put (some 22) (.int .i64 q4)).put (some 24) (.slice (some ⟨b6, 0, none⟩) 8 8)).put (some 25) (.pointer (some ⟨rb, 0, none⟩))).put (some 26) (.int .i64 (k8 : Int))).put (some 27) (.pointer (some ⟨b6, k8, none⟩))).put (some 28) (.int .i64 (m10 : Int))) ∧ Hid (MidW w w0.heap.size rb w1.heap.size (1116 + 2) (.agg #[.slice a ram.length c, .slice b rom.length d, .int .i64 bank]) (.slice a ram.length c) (.slice b rom.length d) (.int .i64 bank) (.slice none 0 0) (.slice none 0 0) (.int .i64 0) ram rom bank W) ∧ Hid (LitR rb 8 5 W b6) ∧ Hid (w.heap.size ≠ b6) ∧ Hid (k8 < 8) ∧ Hid (m10 < 5)) ?_ (fun HD10 => ?_)
  · rintro act9 W ⟨q4, b6, k8, m10, rfl, hF, h6, n6, hk8, hm10⟩
    subst hA0
    have hlW := hF.out.rd.lt
    obtain ⟨x0, x1, x2, xf0, xf1, xf2⟩ := id hF.out.six
    obtain ⟨e0, e1, e2, ef0, ef1, ef2⟩ := id hF.out.box
    have hX1 : w1.heap.size < W.heap.size := block_lt_of_cell x0
    have hXw : w.heap.size < W.heap.size := block_lt_of_cell e0
    (try simp only [Act.put, List.setIfInBounds_toArray, List.set_cons_zero, List.set_cons_succ])
    refine wpAny_ready (rs := [5, 13]) (by kernel_rfl) (by simp) ?_
    refine AllReady.cons (o := ({ dst := some 23, op := Op.buildSlice 23 5 #[(0, Operand.tmp 22), (1, Operand.const (Value.int IntKind.i64 256)), (2, Operand.const (Value.int IntKind.i64 257)), (3, Operand.const (Value.int IntKind.i64 (-1))), (4, Operand.const (Value.int IntKind.i64 0))], type := 23, pos := "l20_draw.go:191", after := #[{ on := 4, ground := Ground.data }, { on := 15, ground := Ground.gcOnly Departure.lateStores }], guard := none } : Oper)) rfl (fun K hK => ?_) ?_
    · go_simp
      refine hK _ _ ?_
      clear hK K
      (try simp only [Act.put, List.setIfInBounds_toArray, List.set_cons_zero, List.set_cons_succ])
      have hm10i : (m10 : Int) < 5 := by have := hm10.out; omega
      refine wpAny_take (i := 11) (oi := ({ dst := some 29, op := Op.indexAddr 23 (Operand.tmp 23) (Operand.tmp 28), type := 0, pos := "l20_draw.go:191", after := #[{ on := 5, ground := Ground.data }, { on := 10, ground := Ground.data }, { on := 15, ground := Ground.gcOnly Departure.lateStores }], guard := none } : Oper)) (v := ?_) rfl (by kernel_rfl) (by kernel_rfl) (by kernel_rfl) (fun _ _ _ h => h) (Or.inl ⟨by rfl, ?_⟩) ?_
      rotate_left
      · intro wq; go_simp; (try with_reducible rfl)
      (try simp only [Act.put, List.setIfInBounds_toArray, List.set_cons_zero, List.set_cons_succ])
      refine wpAny_to (by kernel_rfl) (by kernel_rfl) (HD4.out _ _ ?_)
      apply Exists.intro
      apply Exists.intro
      apply Exists.intro
      apply Exists.intro
      apply Exists.intro
      refine ⟨?_, ?_, ?_, ?_, ?_, ?_, ?_, ?_⟩
      · (try simp only [Act.put, List.setIfInBounds_toArray, List.set_cons_zero, List.set_cons_succ]); (try rfl)
      · exact hF.out.alloc _
      · exact LitI.new rfl rfl hlW
      · exact Nat.ne_of_lt hXw
      · exact h6.out.alloc _
      · exact n6.out
      · exact hk8.out
      · exact hm10.out
    refine AllReady.cons (o := ({ dst := none, op := Op.store 37 (Operand.tmp 2) (Operand.tmp 18), type := 0, pos := "l20_draw.go:191", after := #[{ on := 0, ground := Ground.data }, { on := 8, ground := Ground.chain }, { on := 0, ground := Ground.phase }, { on := 1, ground := Ground.textOnly Departure.lateStores }, { on := 2, ground := Ground.textOnly Departure.lateStores }, { on := 3, ground := Ground.textOnly Departure.lateStores }, { on := 4, ground := Ground.textOnly Departure.lateStoresUnsure }, { on := 5, ground := Ground.textOnly Departure.lateStores }, { on := 6, ground := Ground.textOnly Departure.lateStores }, { on := 7, ground := Ground.textOnly Departure.lateStores }, { on := 8, ground := Ground.textOnly Departure.lateStoresUnsure }, { on := 9, ground := Ground.textOnly Departure.lateStores }, { on := 10, ground := Ground.textOnly Departure.lateStores }, { on := 11, ground := Ground.textOnly Departure.lateStores }, { on := 12, ground := Ground.textOnly Departure.lateStores }], guard := none } : Oper)) rfl (fun K hK => ?_) ?_
    · go_simp
      refine hK _ _ ?_
      clear hK K
      (try simp only [Act.put, List.setIfInBounds_toArray, List.set_cons_zero, List.set_cons_succ])
      refine wpAny_take (i := 14) (oi := ({ dst := some 3, op := Op.assign (Operand.tmp 19), type := 3, pos := "l20_draw.go:191", after := #[{ on := 1, ground := Ground.data }, { on := 13, ground := Ground.chain }, { on := 0, ground := Ground.phase }, { on := 1, ground := Ground.phase }, { on := 2, ground := Ground.textOnly Departure.lateStores }, { on := 3, ground := Ground.textOnly Departure.lateStores }, { on := 4, ground := Ground.textOnly Departure.lateStoresUnsure }, { on := 5, ground := Ground.textOnly Departure.lateStores }, { on := 6, ground := Ground.textOnly Departure.lateStores }, { on := 7, ground := Ground.textOnly Departure.lateStores }, { on := 8, ground := Ground.textOnly Departure.lateStoresUnsure }, { on := 9, ground := Ground.textOnly Departure.lateStores }, { on := 10, ground := Ground.textOnly Departure.lateStores }, { on := 11, ground := Ground.textOnly Departure.lateStores }, { on := 12, ground := Ground.textOnly Departure.lateStores }, { on := 13, ground := Ground.phase }], guard := none } : Oper)) (v := ?_) rfl (by kernel_rfl) (by kernel_rfl) (by kernel_rfl) (fun _ _ _ h => h) (Or.inl ⟨by rfl, ?_⟩) ?_
      rotate_left
      · intro wq; go_simp; (try with_reducible rfl)
      (try simp only [Act.put, List.setIfInBounds_toArray, List.set_cons_zero, List.set_cons_succ])
      refine wpAny_take (i := 15) (oi := ({ dst := some 4, op := Op.assign (Operand.tmp 20), type := 3, pos := "l20_draw.go:191", after := #[{ on := 2, ground := Ground.data }, { on := 14, ground := Ground.chain }, { on := 0, ground := Ground.phase }, { on := 1, ground := Ground.phase }, { on := 2, ground := Ground.phase }, { on := 3, ground := Ground.textOnly Departure.lateStores }, { on := 4, ground := Ground.textOnly Departure.lateStoresUnsure }, { on := 5, ground := Ground.textOnly Departure.lateStores }, { on := 6, ground := Ground.textOnly Departure.lateStores }, { on := 7, ground := Ground.textOnly Departure.lateStores }, { on := 8, ground := Ground.textOnly Departure.lateStoresUnsure }, { on := 9, ground := Ground.textOnly Departure.lateStores }, { on := 10, ground := Ground.textOnly Departure.lateStores }, { on := 11, ground := Ground.textOnly Departure.lateStores }, { on := 12, ground := Ground.textOnly Departure.lateStores }, { on := 13, ground := Ground.phase }, { on := 14, ground := Ground.phase }], guard := none } : Oper)) (v := ?_) rfl (by kernel_rfl) (by kernel_rfl) (by kernel_rfl) (fun _ _ _ h => h) (Or.inl ⟨by rfl, ?_⟩) ?_
      rotate_left
      · intro wq; go_simp; (try with_reducible rfl)
      (try simp only [Act.put, List.setIfInBounds_toArray, List.set_cons_zero, List.set_cons_succ])
      refine wpAny_to (by kernel_rfl) (by kernel_rfl) (HD3.out _ _ ?_)
      apply Exists.intro
      apply Exists.intro
      apply Exists.intro
      apply Exists.intro
      refine ⟨?_, ?_, ?_, ?_, ?_, ?_⟩
      · (try simp only [Act.put, List.setIfInBounds_toArray, List.set_cons_zero, List.set_cons_succ]); (try rfl)
      · exact hF.out.setBox _ _ _ _ _ _ _
      · exact ((h6.out.set (p := ⟨w.heap.size, 0, none⟩) n6.out _).set (p := ⟨w.heap.size, 1, none⟩) n6.out _).set (p := ⟨w.heap.size, 2, none⟩) n6.out _
      · exact n6.out
      · exact hk8.out
      · exact hm10.out
    exact AllReady.nil
  refine wpAny_pre 7 #[true, true, true, true, true, false, false, true, true, false, false, false, false, true, true, true, false] (fun act9 W => ∃ q4 : Int, ∃ k8 : Nat, act9 = (((((((((A0.put (some 18) (.agg #[.slice a ram.length c, .slice b rom.length d, .int .i64 bank])).put (some 19) (.int .i64 xp)).put (some 20) (.int .i64 xq)).put (some 21) (.pointer (some ⟨rb, 0, none⟩))).put (some 22) (.int .i64 q4)).put (some 25) (.pointer (some ⟨rb, 0, none⟩))).put (some 26) (.int .i64 (k8 : Int))).put (some 3) (.int .i64 xp)).put (some 4) (.int .i64 xq)) ∧ Hid (MidW w w0.heap.size rb w1.heap.size (1116 + 2) (.agg #[.slice a ram.length c, .slice b rom.length d, .int .i64 bank]) (.slice a ram.length c) (.slice b rom.length d) (.int .i64 bank) (.slice a ram.length c) (.slice b rom.length d) (.int .i64 bank) ram rom bank W) ∧ Hid (k8 < 8)) ?_ (fun HD11 => ?_)
  · rintro act9 W ⟨q4, k8, rfl, hF, hk8⟩
    subst hA0
    have hlW := hF.out.rd.lt
    obtain ⟨x0, x1, x2, xf0, xf1, xf2⟩ := id hF.out.six
    obtain ⟨e0, e1, e2, ef0, ef1, ef2⟩ := id hF.out.box
    have hX1 : w1.heap.size < W.heap.size := block_lt_of_cell x0
    have hXw : w.heap.size < W.heap.size := block_lt_of_cell e0
    (try simp only [Act.put, List.setIfInBounds_toArray, List.set_cons_zero, List.set_cons_succ])
    refine wpAny_ready (rs := [5, 6]) (by kernel_rfl) (by simp) ?_
    refine AllReady.cons (o := ({ dst := some 23, op := Op.buildSlice 23 5 #[(0, Operand.tmp 22), (1, Operand.const (Value.int IntKind.i64 256)), (2, Operand.const (Value.int IntKind.i64 257)), (3, Operand.const (Value.int IntKind.i64 (-1))), (4, Operand.const (Value.int IntKind.i64 0))], type := 23, pos := "l20_draw.go:191", after := #[{ on := 4, ground := Ground.data }, { on := 15, ground := Ground.gcOnly Departure.lateStores }], guard := none } : Oper)) rfl (fun K hK => ?_) ?_
    · go_simp
      refine hK _ _ ?_
      clear hK K
      (try simp only [Act.put, List.setIfInBounds_toArray, List.set_cons_zero, List.set_cons_succ])
      refine wpAny_to (by kernel_rfl) (by kernel_rfl) (HD7.out _ _ ?_)
      apply Exists.intro
      apply Exists.intro
      apply Exists.intro
      refine ⟨?_, ?_, ?_, ?_, ?_⟩
      · (try simp only [Act.put, List.setIfInBounds_toArray, List.set_cons_zero, List.set_cons_succ]); (try rfl)
      · exact hF.out.alloc _
      · exact LitI.new rfl rfl hlW
      · exact Nat.ne_of_lt hXw
      · exact hk8.out
    refine AllReady.cons (o := ({ dst := some 24, op := Op.buildSlice 23 8 #[(0, Operand.const (Value.int IntKind.i64 0)), (1, Operand.const (Value.int IntKind.i64 0)), (2, Operand.const (Value.int IntKind.i64 0)), (3, Operand.const (Value.int IntKind.i64 0)), (4, Operand.const (Value.int IntKind.i64 1)), (5, Operand.const (Value.int IntKind.i64 2)), (6, Operand.const (Value.int IntKind.i64 3)), (7, Operand.const (Value.int IntKind.i64 4))], type := 23, pos := "l20_draw.go:191", after := #[{ on := 15, ground := Ground.gcOnly Departure.lateStores }], guard := none } : Oper)) rfl (fun K hK => ?_) ?_
    · go_simp
      refine hK _ _ ?_
      clear hK K
      (try simp only [Act.put, List.setIfInBounds_toArray, List.set_cons_zero, List.set_cons_succ])
      have hk8i : (k8 : Int) < 8 := by have := hk8.out; omega
      refine wpAny_take (i := 9) (oi := ({ dst := some 27, op := Op.indexAddr 23 (Operand.tmp 24) (Operand.tmp 26), type := 0, pos := "l20_draw.go:191", after := #[{ on := 6, ground := Ground.data }, { on := 8, ground := Ground.data }, { on := 15, ground := Ground.gcOnly Departure.lateStores }], guard := none } : Oper)) (v := ?_) rfl (by kernel_rfl) (by kernel_rfl) (by kernel_rfl) (fun _ _ _ h => h) (Or.inl ⟨by rfl, ?_⟩) ?_
      rotate_left
      · intro wq; go_simp; (try with_reducible rfl)
      (try simp only [Act.put, List.setIfInBounds_toArray, List.set_cons_zero, List.set_cons_succ])
      refine wpAny_to (by kernel_rfl) (by kernel_rfl) (HD5.out _ _ ?_)
      apply Exists.intro
      apply Exists.intro
      apply Exists.intro
      refine ⟨?_, ?_, ?_, ?_, ?_⟩
      · (try simp only [Act.put, List.setIfInBounds_toArray, List.set_cons_zero, List.set_cons_succ]); (try rfl)
      · exact hF.out.alloc _
      · exact LitR.new (by intro k hk; rcases (show k = 0 ∨ k = 1 ∨ k = 2 ∨ k = 3 ∨ k = 4 ∨ k = 5 ∨ k = 6 ∨ k = 7 by omega) with rfl | rfl | rfl | rfl | rfl | rfl | rfl | rfl <;> first | exact ⟨0, by decide, rfl⟩ | exact ⟨1, by decide, rfl⟩ | exact ⟨2, by decide, rfl⟩ | exact ⟨3, by decide, rfl⟩ | exact ⟨4, by decide, rfl⟩) hlW
      · exact Nat.ne_of_lt hXw
      · exact hk8.out
    exact AllReady.nil
  refine wpAny_pre 8 #[true, true, true, true, true, false, true, true, true, true, false, false, false, false, false, false, false] (fun act9 W => ∃ q4 : Int, ∃ b6 : Nat, ∃ k8 : Nat, act9 = (((((((((A0.put (some 18) (.agg #[.slice a ram.length c, .slice b rom.length d, .int .i64 bank])).put (some 19) (.int .i64 xp)).put (some 20) (.int .i64 xq)).put (some 21) (.pointer (some ⟨rb, 0, none⟩))).put (some 22) (.int .i64 q4)).put (some 24) (.slice (some ⟨b6, 0, none⟩) 8 8)).put (some 25) (.pointer (some ⟨rb, 0, none⟩))).put (some 26) (.int .i64 (k8 : Int))).put (some 27) (.pointer (some ⟨b6, k8, none⟩))) ∧ Hid (MidW w w0.heap.size rb w1.heap.size (1116 + 2) (.agg #[.slice a ram.length c, .slice b rom.length d, .int .i64 bank]) (.slice a ram.length c) (.slice b rom.length d) (.int .i64 bank) (.slice none 0 0) (.slice none 0 0) (.int .i64 0) ram rom bank W) ∧ Hid (LitR rb 8 5 W b6) ∧ Hid (w.heap.size ≠ b6) ∧ Hid (k8 < 8)) ?_ (fun HD12 => ?_)
  · rintro act9 W ⟨q4, b6, k8, rfl, hF, h6, n6, hk8⟩
    subst hA0
    have hlW := hF.out.rd.lt
    obtain ⟨x0, x1, x2, xf0, xf1, xf2⟩ := id hF.out.six
    obtain ⟨e0, e1, e2, ef0, ef1, ef2⟩ := id hF.out.box
    have hX1 : w1.heap.size < W.heap.size := block_lt_of_cell x0
    have hXw : w.heap.size < W.heap.size := block_lt_of_cell e0
    (try simp only [Act.put, List.setIfInBounds_toArray, List.set_cons_zero, List.set_cons_succ])
    refine wpAny_ready (rs := [5, 10, 13]) (by kernel_rfl) (by simp) ?_
    refine AllReady.cons (o := ({ dst := some 23, op := Op.buildSlice 23 5 #[(0, Operand.tmp 22), (1, Operand.const (Value.int IntKind.i64 256)), (2, Operand.const (Value.int IntKind.i64 257)), (3, Operand.const (Value.int IntKind.i64 (-1))), (4, Operand.const (Value.int IntKind.i64 0))], type := 23, pos := "l20_draw.go:191", after := #[{ on := 4, ground := Ground.data }, { on := 15, ground := Ground.gcOnly Departure.lateStores }], guard := none } : Oper)) rfl (fun K hK => ?_) ?_
    · go_simp
      refine hK _ _ ?_
      clear hK K
      (try simp only [Act.put, List.setIfInBounds_toArray, List.set_cons_zero, List.set_cons_succ])
      refine wpAny_to (by kernel_rfl) (by kernel_rfl) (HD9.out _ _ ?_)
      apply Exists.intro
      apply Exists.intro
      apply Exists.intro
      apply Exists.intro
      refine ⟨?_, ?_, ?_, ?_, ?_, ?_, ?_⟩
      · (try simp only [Act.put, List.setIfInBounds_toArray, List.set_cons_zero, List.set_cons_succ]); (try rfl)
      · exact hF.out.alloc _
      · exact LitI.new rfl rfl hlW
      · exact Nat.ne_of_lt hXw
      · exact h6.out.alloc _
      · exact n6.out
      · exact hk8.out
    refine AllReady.cons (o := ({ dst := some 28, op := Op.load 3 (Operand.tmp 27), type := 3, pos := "l20_draw.go:191", after := #[{ on := 9, ground := Ground.data }, { on := 15, ground := Ground.gcOnly Departure.lateStores }], guard := none } : Oper)) rfl (fun K hK => ?_) ?_
    · obtain ⟨m10, hm0, hc10⟩ := h6.out.2.2 k8 hk8.out
      have hm10 := Lib.hid hm0
      clear hm0
      go_simp
      refine hK _ _ ?_
      clear hK K
      (try simp only [Act.put, List.setIfInBounds_toArray, List.set_cons_zero, List.set_cons_succ])
      refine wpAny_to (by kernel_rfl) (by kernel_rfl) (HD10.out _ _ ?_)
      apply Exists.intro
      apply Exists.intro
      apply Exists.intro
      apply Exists.intro
      refine ⟨?_, ?_, ?_, ?_, ?_, ?_⟩
      · (try simp only [Act.put, List.setIfInBounds_toArray, List.set_cons_zero, List.set_cons_succ]); (try rfl)
      · exact hF.out
      · exact h6.out
      · exact n6.out
      · exact hk8.out
      · exact hm10.out
    refine AllReady.cons (o := ({ dst := none, op := Op.store 37 (Operand.tmp 2) (Operand.tmp 18), type := 0, pos := "l20_draw.go:191", after := #[{ on := 0, ground := Ground.data }, { on := 8, ground := Ground.chain }, { on := 0, ground := Ground.phase }, { on := 1, ground := Ground.textOnly Departure.lateStores }, { on := 2, ground := Ground.textOnly Departure.lateStores }, { on := 3, ground := Ground.textOnly Departure.lateStores }, { on := 4, ground := Ground.textOnly Departure.lateStoresUnsure }, { on := 5, ground := Ground.textOnly Departure.lateStores }, { on := 6, ground := Ground.textOnly Departure.lateStores }, { on := 7, ground := Ground.textOnly Departure.lateStores }, { on := 8, ground := Ground.textOnly Departure.lateStoresUnsure }, { on := 9, ground := Ground.textOnly Departure.lateStores }, { on := 10, ground := Ground.textOnly Departure.lateStores }, { on := 11, ground := Ground.textOnly Departure.lateStores }, { on := 12, ground := Ground.textOnly Departure.lateStores }], guard := none } : Oper)) rfl (fun K hK => ?_) ?_
    · go_simp
      refine hK _ _ ?_
      clear hK K
      (try simp only [Act.put, List.setIfInBounds_toArray, List.set_cons_zero, List.set_cons_succ])
      refine wpAny_take (i := 14) (oi := ({ dst := some 3, op := Op.assign (Operand.tmp 19), type := 3, pos := "l20_draw.go:191", after := #[{ on := 1, ground := Ground.data }, { on := 13, ground := Ground.chain }, { on := 0, ground := Ground.phase }, { on := 1, ground := Ground.phase }, { on := 2, ground := Ground.textOnly Departure.lateStores }, { on := 3, ground := Ground.textOnly Departure.lateStores }, { on := 4, ground := Ground.textOnly Departure.lateStoresUnsure }, { on := 5, ground := Ground.textOnly Departure.lateStores }, { on := 6, ground := Ground.textOnly Departure.lateStores }, { on := 7, ground := Ground.textOnly Departure.lateStores }, { on := 8, ground := Ground.textOnly Departure.lateStoresUnsure }, { on := 9, ground := Ground.textOnly Departure.lateStores }, { on := 10, ground := Ground.textOnly Departure.lateStores }, { on := 11, ground := Ground.textOnly Departure.lateStores }, { on := 12, ground := Ground.textOnly Departure.lateStores }, { on := 13, ground := Ground.phase }], guard := none } : Oper)) (v := ?_) rfl (by kernel_rfl) (by kernel_rfl) (by kernel_rfl) (fun _ _ _ h => h) (Or.inl ⟨by rfl, ?_⟩) ?_
      rotate_left
      · intro wq; go_simp; (try with_reducible rfl)
      (try simp only [Act.put, List.setIfInBounds_toArray, List.set_cons_zero, List.set_cons_succ])
      refine wpAny_take (i := 15) (oi := ({ dst := some 4, op := Op.assign (Operand.tmp 20), type := 3, pos := "l20_draw.go:191", after := #[{ on := 2, ground := Ground.data }, { on := 14, ground := Ground.chain }, { on := 0, ground := Ground.phase }, { on := 1, ground := Ground.phase }, { on := 2, ground := Ground.phase }, { on := 3, ground := Ground.textOnly Departure.lateStores }, { on := 4, ground := Ground.textOnly Departure.lateStoresUnsure }, { on := 5, ground := Ground.textOnly Departure.lateStores }, { on := 6, ground := Ground.textOnly Departure.lateStores }, { on := 7, ground := Ground.textOnly Departure.lateStores }, { on := 8, ground := Ground.textOnly Departure.lateStoresUnsure }, { on := 9, ground := Ground.textOnly Departure.lateStores }, { on := 10, ground := Ground.textOnly Departure.lateStores }, { on := 11, ground := Ground.textOnly Departure.lateStores }, { on := 12, ground := Ground.textOnly Departure.lateStores }, { on := 13, ground := Ground.phase }, { on := 14, ground := Ground.phase }], guard := none } : Oper)) (v := ?_) rfl (by kernel_rfl) (by kernel_rfl) (by kernel_rfl) (fun _ _ _ h => h) (Or.inl ⟨by rfl, ?_⟩) ?_
      rotate_left
      · intro wq; go_simp; (try with_reducible rfl)
      (try simp only [Act.put, List.setIfInBounds_toArray, List.set_cons_zero, List.set_cons_succ])
      refine wpAny_to (by kernel_rfl) (by kernel_rfl) (HD5.out _ _ ?_)
      apply Exists.intro
      apply Exists.intro
      apply Exists.intro
      refine ⟨?_, ?_, ?_, ?_, ?_⟩
      · (try simp only [Act.put, List.setIfInBounds_toArray, List.set_cons_zero, List.set_cons_succ]); (try rfl)
      · exact hF.out.setBox _ _ _ _ _ _ _
      · exact ((h6.out.set (p := ⟨w.heap.size, 0, none⟩) n6.out _).set (p := ⟨w.heap.size, 1, none⟩) n6.out _).set (p := ⟨w.heap.size, 2, none⟩) n6.out _
      · exact n6.out
      · exact hk8.out
    exact AllReady.nil
  refine wpAny_pre 8 #[false, true, true, true, true, true, true, true, true, true, false, false, false, false, false, false, false] (fun act9 W => ∃ q4 : Int, ∃ b5 : Nat, ∃ b6 : Nat, ∃ k8 : Nat, act9 = (((((((((A0.put (some 19) (.int .i64 xp)).put (some 20) (.int .i64 xq)).put (some 21) (.pointer (some ⟨rb, 0, none⟩))).put (some 22) (.int .i64 q4)).put (some 23) (.slice (some ⟨b5, 0, none⟩) 5 5)).put (some 24) (.slice (some ⟨b6, 0, none⟩) 8 8)).put (some 25) (.pointer (some ⟨rb, 0, none⟩))).put (some 26) (.int .i64 (k8 : Int))).put (some 27) (.pointer (some ⟨b6, k8, none⟩))) ∧ Hid (MidW w w0.heap.size rb w1.heap.size (1116 + 2) (.agg #[.slice a ram.length c, .slice b rom.length d, .int .i64 bank]) (.slice a ram.length c) (.slice b rom.length d) (.int .i64 bank) (.slice none 0 0) (.slice none 0 0) (.int .i64 0) ram rom bank W) ∧ Hid (LitI rb 5 W b5) ∧ Hid (w.heap.size ≠ b5) ∧ Hid (LitR rb 8 5 W b6) ∧ Hid (w.heap.size ≠ b6) ∧ Hid (k8 < 8)) ?_ (fun HD13 => ?_)
  · rintro act9 W ⟨q4, b5, b6, k8, rfl, hF, h5, n5, h6, n6, hk8⟩
    subst hA0
    have hlW := hF.out.rd.lt
    obtain ⟨x0, x1, x2, xf0, xf1, xf2⟩ := id hF.out.six
    obtain ⟨e0, e1, e2, ef0, ef1, ef2⟩ := id hF.out.box
    have hX1 : w1.heap.size < W.heap.size := block_lt_of_cell x0
    have hXw : w.heap.size < W.heap.size := block_lt_of_cell e0
    (try simp only [Act.put, List.setIfInBounds_toArray, List.set_cons_zero, List.set_cons_succ])
    refine wpAny_ready (rs := [0, 10]) (by kernel_rfl) (by simp) ?_
    refine AllReady.cons (o := ({ dst := some 18, op := Op.load 37 (Operand.tmp 7), type := 37, pos := "l20_draw.go:191", after := #[], guard := none } : Oper)) rfl (fun K hK => ?_) ?_
    · go_simp
      refine hK _ _ ?_
      clear hK K
      (try simp only [Act.put, List.setIfInBounds_toArray, List.set_cons_zero, List.set_cons_succ])
      refine wpAny_to (by kernel_rfl) (by kernel_rfl) (HD9.out _ _ ?_)
      apply Exists.intro
      apply Exists.intro
      apply Exists.intro
      apply Exists.intro
      refine ⟨?_, ?_, ?_, ?_, ?_, ?_, ?_⟩
      · (try simp only [Act.put, List.setIfInBounds_toArray, List.set_cons_zero, List.set_cons_succ]); (try rfl)
      · exact hF.out
      · exact h5.out
      · exact n5.out
      · exact h6.out
      · exact n6.out
      · exact hk8.out
    refine AllReady.cons (o := ({ dst := some 28, op := Op.load 3 (Operand.tmp 27), type := 3, pos := "l20_draw.go:191", after := #[{ on := 9, ground := Ground.data }, { on := 15, ground := Ground.gcOnly Departure.lateStores }], guard := none } : Oper)) rfl (fun K hK => ?_) ?_
    · obtain ⟨m10, hm0, hc10⟩ := h6.out.2.2 k8 hk8.out
      have hm10 := Lib.hid hm0
      clear hm0
      go_simp
      refine hK _ _ ?_
      clear hK K
      (try simp only [Act.put, List.setIfInBounds_toArray, List.set_cons_zero, List.set_cons_succ])
      have hm10i : (m10 : Int) < 5 := by have := hm10.out; omega
      refine wpAny_take (i := 11) (oi := ({ dst := some 29, op := Op.indexAddr 23 (Operand.tmp 23) (Operand.tmp 28), type := 0, pos := "l20_draw.go:191", after := #[{ on := 5, ground := Ground.data }, { on := 10, ground := Ground.data }, { on := 15, ground := Ground.gcOnly Departure.lateStores }], guard := none } : Oper)) (v := ?_) rfl (by kernel_rfl) (by kernel_rfl) (by kernel_rfl) (fun _ _ _ h => h) (Or.inl ⟨by rfl, ?_⟩) ?_
      rotate_left
      · intro wq; go_simp; (try with_reducible rfl)
      (try simp only [Act.put, List.setIfInBounds_toArray, List.set_cons_zero, List.set_cons_succ])
      refine wpAny_to (by kernel_rfl) (by kernel_rfl) (HD8.out _ _ ?_)
      apply Exists.intro
      apply Exists.intro
      apply Exists.intro
      apply Exists.intro
      apply Exists.intro
      refine ⟨?_, ?_, ?_, ?_, ?_, ?_, ?_, ?_⟩
      · (try simp only [Act.put, List.setIfInBounds_toArray, List.set_cons_zero, List.set_cons_succ]); (try rfl)
      · exact hF.out
      · exact h5.out
      · exact n5.out
      · exact h6.out
      · exact n6.out
      · exact hk8.out
      · exact hm10.out
    exact AllReady.nil
  refine wpAny_pre 8 #[false, true, true, true, true, false, true, true, true, true, true, false, false, false, false, false, false] (fun act9 W => ∃ q4 : Int, ∃ b6 : Nat, ∃ k8 : Nat, ∃ m10 : Nat, act9 = (((((((((A0.put (some 19) (.int .i64 xp)).put (some 20) (.int .i64 xq)).put (some 21) (.pointer (some ⟨rb, 0, none⟩))).put (some 22) (.int .i64 q4)).put (some 24) (.slice (some ⟨b6, 0, none⟩) 8 8)).put (some 25) (.pointer (some ⟨rb, 0, none⟩))).put (some 26) (.int .i64 (k8 : Int))).put (some 27) (.pointer (some ⟨b6, k8, none⟩))).put (some 28) (.int .i64 (m10 : Int))) ∧ Hid (MidW w w0.heap.size rb w1.heap.size (1116 + 2) (.agg #[.slice a ram.length c, .slice b rom.length d, .int .i64 bank]) (.slice a ram.length c) (.slice b rom.length d) (.int .i64 bank) (.slice none 0 0) (.slice none 0 0) (.int .i64 0) ram rom bank W) ∧ Hid (LitR rb 8 5 W b6) ∧ Hid (w.heap.size ≠ b6) ∧ Hid (k8 < 8) ∧ Hid (m10 < 5)) ?_ (fun HD14 => ?_)
  · rintro act9 W ⟨q4, b6, k8, m10, rfl, hF, h6, n6, hk8, hm10⟩
    subst hA0
    have hlW := hF.out.rd.lt
    obtain ⟨x0, x1, x2, xf0, xf1, xf2⟩ := id hF.out.six
    obtain ⟨e0, e1, e2, ef0, ef1, ef2⟩ := id hF.out.box
    have hX1 : w1.heap.size < W.heap.size := block_lt_of_cell x0
    have hXw : w.heap.size < W.heap.size := block_lt_of_cell e0
    (try simp only [Act.put, List.setIfInBounds_toArray, List.set_cons_zero, List.set_cons_succ])
    refine wpAny_ready (rs := [0, 5]) (by kernel_rfl) (by simp) ?_
    refine AllReady.cons (o := ({ dst := some 18, op := Op.load 37 (Operand.tmp 7), type := 37, pos := "l20_draw.go:191", after := #[], guard := none } : Oper)) rfl (fun K hK => ?_) ?_
    · go_simp
      refine hK _ _ ?_
      clear hK K
      (try simp only [Act.put, List.setIfInBounds_toArray, List.set_cons_zero, List.set_cons_succ])
      refine wpAny_to (by kernel_rfl) (by kernel_rfl) (HD10.out _ _ ?_)
      apply Exists.intro
      apply Exists.intro
      apply Exists.intro
      apply Exists.intro
      refine ⟨?_, ?_, ?_, ?_, ?_, ?_⟩
      · (try simp only [Act.put, List.setIfInBounds_toArray, List.set_cons_zero, List.set_cons_succ]); (try rfl)
      · exact hF.out
      · exact h6.out
      · exact n6.out
      · exact hk8.out
      · exact hm10.out
    refine AllReady.cons (o := ({ dst := some 23, op := Op.buildSlice 23 5 #[(0, Operand.tmp 22), (1, Operand.const (Value.int IntKind.i64 256)), (2, Operand.const (Value.int IntKind.i64 257)), (3, Operand.const (Value.int IntKind.i64 (-1))), (4, Operand.const (Value.int IntKind.i64 0))], type := 23, pos := "l20_draw.go:191", after := #[{ on := 4, ground := Ground.data }, { on := 15, ground := Ground.gcOnly Departure.lateStores }], guard := none } : Oper)) rfl (fun K hK => ?_) ?_
    · go_simp
      refine hK _ _ ?_
      clear hK K
      (try simp only [Act.put, List.setIfInBounds_toArray, List.set_cons_zero, List.set_cons_succ])
      have hm10i : (m10 : Int) < 5 := by have := hm10.out; omega
      refine wpAny_take (i := 11) (oi := ({ dst := some 29, op := Op.indexAddr 23 (Operand.tmp 23) (Operand.tmp 28), type := 0, pos := "l20_draw.go:191", after := #[{ on := 5, ground := Ground.data }, { on := 10, ground := Ground.data }, { on := 15, ground := Ground.gcOnly Departure.lateStores }], guard := none } : Oper)) (v := ?_) rfl (by kernel_rfl) (by kernel_rfl) (by kernel_rfl) (fun _ _ _ h => h) (Or.inl ⟨by rfl, ?_⟩) ?_
      rotate_left
      · intro wq; go_simp; (try with_reducible rfl)
      (try simp only [Act.put, List.setIfInBounds_toArray, List.set_cons_zero, List.set_cons_succ])
      refine wpAny_to (by kernel_rfl) (by kernel_rfl) (HD8.out _ _ ?_)
      apply Exists.intro
      apply Exists.intro
      apply Exists.intro
      apply Exists.intro
      apply Exists.intro
      refine ⟨?_, ?_, ?_, ?_, ?_, ?_, ?_, ?_⟩
      · (try simp only [Act.put, List.setIfInBounds_toArray, List.set_cons_zero, List.set_cons_succ]); (try rfl)
      · exact hF.out.alloc _
      · exact LitI.new rfl rfl hlW
      · exact Nat.ne_of_lt hXw
      · exact h6.out.alloc _
      · exact n6.out
      · exact hk8.out
      · exact hm10.out
    exact AllReady.nil
  refine wpAny_pre 9 #[true, true, true, true, true, true, true, true, false, false, false, false, false, false, false, false, false] (fun act9 W => ∃ q4 : Int, ∃ b5 : Nat, ∃ b6 : Nat, act9 = ((((((((A0.put (some 18) (.agg #[.slice a ram.length c, .slice b rom.length d, .int .i64 bank])).put (some 19) (.int .i64 xp)).put (some 20) (.int .i64 xq)).put (some 21) (.pointer (some ⟨rb, 0, none⟩))).put (some 22) (.int .i64 q4)).put (some 23) (.slice (some ⟨b5, 0, none⟩) 5 5)).put (some 24) (.slice (some ⟨b6, 0, none⟩) 8 8)).put (some 25) (.pointer (some ⟨rb, 0, none⟩))) ∧ Hid (MidW w w0.heap.size rb w1.heap.size (1116 + 1) (.agg #[.slice a ram.length c, .slice b rom.length d, .int .i64 bank]) (.slice a ram.length c) (.slice b rom.length d) (.int .i64 bank) (.slice none 0 0) (.slice none 0 0) (.int .i64 0) ram rom bank W) ∧ Hid (LitI rb 5 W b5) ∧ Hid (w.heap.size ≠ b5) ∧ Hid (LitR rb 8 5 W b6) ∧ Hid (w.heap.size ≠ b6)) ?_ (fun HD15 => ?_)
  · rintro act9 W ⟨q4, b5, b6, rfl, hF, h5, n5, h6, n6⟩
    subst hA0
    have hlW := hF.out.rd.lt
    obtain ⟨x0, x1, x2, xf0, xf1, xf2⟩ := id hF.out.six
    obtain ⟨e0, e1, e2, ef0, ef1, ef2⟩ := id hF.out.box
    have hX1 : w1.heap.size < W.heap.size := block_lt_of_cell x0
    have hXw : w.heap.size < W.heap.size := block_lt_of_cell e0
    (try simp only [Act.put, List.setIfInBounds_toArray, List.set_cons_zero, List.set_cons_succ])
    refine wpAny_ready (rs := [8]) (by kernel_rfl) (by simp) ?_
    refine AllReady.cons (o := ({ dst := some 26, op := Op.call { callee := Callee.value (Operand.func 54), args := #[Operand.tmp 25, Operand.const (Value.int IntKind.i64 8)], argTypes := #[68, 3] }, type := 3, pos := "l20_draw.go:191", after := #[{ on := 7, ground := Ground.data }, { on := 4, ground := Ground.chain }], guard := none } : Oper)) rfl (fun K hK => ?_) ?_
    · go_simp
      refine (pick (B := (1116 + 1)) _ hF.out.rd (by omega)).mono ?_
      rintro e W' ⟨v8, rfl, ⟨x8, rfl, y8, z8⟩, hR', hK'⟩
      obtain ⟨k8, rfl⟩ := Int.eq_ofNat_of_zero_le y8
      have hk8 := Lib.hid (show k8 < 8 by omega)
      first | (refine hK _ _ ?_; clear hK K) | (go_wp2_with fail; (try (refine hK _ _ ?_)); (try clear hK K))
      (try simp only [Act.put, List.setIfInBounds_toArray, List.set_cons_zero, List.set_cons_succ])
      have hk8i : (k8 : Int) < 8 := by have := hk8.out; omega
      refine wpAny_take (i := 9) (oi := ({ dst := some 27, op := Op.indexAddr 23 (Operand.tmp 24) (Operand.tmp 26), type := 0, pos := "l20_draw.go:191", after := #[{ on := 6, ground := Ground.data }, { on := 8, ground := Ground.data }, { on := 15, ground := Ground.gcOnly Departure.lateStores }], guard := none } : Oper)) (v := ?_) rfl (by kernel_rfl) (by kernel_rfl) (by kernel_rfl) (fun _ _ _ h => h) (Or.inl ⟨by rfl, ?_⟩) ?_
      rotate_left
      · intro wq; go_simp; (try with_reducible rfl)
      (try simp only [Act.put, List.setIfInBounds_toArray, List.set_cons_zero, List.set_cons_succ])
      refine wpAny_to (by kernel_rfl) (by kernel_rfl) (HD9.out _ _ ?_)
      apply Exists.intro
      apply Exists.intro
      apply Exists.intro
      apply Exists.intro
      refine ⟨?_, ?_, ?_, ?_, ?_, ?_, ?_⟩
      · (try simp only [Act.put, List.setIfInBounds_toArray, List.set_cons_zero, List.set_cons_succ]); (try rfl)
      · exact hF.out.keep hK' hR'
      · exact h5.out.keep hK'
      · exact n5.out
      · exact h6.out.keep hK'
      · exact n6.out
      · exact hk8.out
    exact AllReady.nil
  refine wpAny_pre 9 #[true, true, true, true, true, true, false, true, true, false, false, false, false, false, false, false, false] (fun act9 W => ∃ q4 : Int, ∃ b5 : Nat, ∃ k8 : Nat, act9 = ((((((((A0.put (some 18) (.agg #[.slice a ram.length c, .slice b rom.length d, .int .i64 bank])).put (some 19) (.int .i64 xp)).put (some 20) (.int .i64 xq)).put (some 21) (.pointer (some ⟨rb, 0, none⟩))).put (some 22) (.int .i64 q4)).put (some 23) (.slice (some ⟨b5, 0, none⟩) 5 5)).put (some 25) (.pointer (some ⟨rb, 0, none⟩))).put (some 26) (.int .i64 (k8 : Int))) ∧ Hid (MidW w w0.heap.size rb w1.heap.size (1116 + 2) (.agg #[.slice a ram.length c, .slice b rom.length d, .int .i64 bank]) (.slice a ram.length c) (.slice b rom.length d) (.int .i64 bank) (.slice none 0 0) (.slice none 0 0) (.int .i64 0) ram rom bank W) ∧ Hid (LitI rb 5 W b5) ∧ Hid (w.heap.size ≠ b5) ∧ Hid (k8 < 8)) ?_ (fun HD16 => ?_)
  · rintro act9 W ⟨q4, b5, k8, rfl, hF, h5, n5, hk8⟩
    subst hA0
    have hlW := hF.out.rd.lt
    obtain ⟨x0, x1, x2, xf0, xf1, xf2⟩ := id hF.out.six
    obtain ⟨e0, e1, e2, ef0, ef1, ef2⟩ := id hF.out.box
    have hX1 : w1.heap.size < W.heap.size := block_lt_of_cell x0
    have hXw : w.heap.size < W.heap.size := block_lt_of_cell e0
    (try simp only [Act.put, List.setIfInBounds_toArray, List.set_cons_zero, List.set_cons_succ])
    refine wpAny_ready (rs := [6, 13]) (by kernel_rfl) (by simp) ?_
    refine AllReady.cons (o := ({ dst := some 24, op := Op.buildSlice 23 8 #[(0, Operand.const (Value.int IntKind.i64 0)), (1, Operand.const (Value.int IntKind.i64 0)), (2, Operand.const (Value.int IntKind.i64 0)), (3, Operand.const (Value.int IntKind.i64 0)), (4, Operand.const (Value.int IntKind.i64 1)), (5, Operand.const (Value.int IntKind.i64 2)), (6, Operand.const (Value.int IntKind.i64 3)), (7, Operand.const (Value.int IntKind.i64 4))], type := 23, pos := "l20_draw.go:191", after := #[{ on := 15, ground := Ground.gcOnly Departure.lateStores }], guard := none } : Oper)) rfl (fun K hK => ?_) ?_
    · go_simp
      refine hK _ _ ?_
      clear hK K
      (try simp only [Act.put, List.setIfInBounds_toArray, List.set_cons_zero, List.set_cons_succ])
      have hk8i : (k8 : Int) < 8 := by have := hk8.out; omega
      refine wpAny_take (i := 9) (oi := ({ dst := some 27, op := Op.indexAddr 23 (Operand.tmp 24) (Operand.tmp 26), type := 0, pos := "l20_draw.go:191", after := #[{ on := 6, ground := Ground.data }, { on := 8, ground := Ground.data }, { on := 15, ground := Ground.gcOnly Departure.lateStores }], guard := none } : Oper)) (v := ?_) rfl (by kernel_rfl) (by kernel_rfl) (by kernel_rfl) (fun _ _ _ h => h) (Or.inl ⟨by rfl, ?_⟩) ?_
      rotate_left
      · intro wq; go_simp; (try with_reducible rfl)
      (try simp only [Act.put, List.setIfInBounds_toArray, List.set_cons_zero, List.set_cons_succ])
      refine wpAny_to (by kernel_rfl) (by kernel_rfl) (HD9.out _ _ ?_)
      apply Exists.intro
      apply Exists.intro
      apply Exists.intro
      apply Exists.intro
      refine ⟨?_, ?_, ?_, ?_, ?_, ?_, ?_⟩
      · (try simp only [Act.put, List.setIfInBounds_toArray, List.set_cons_zero, List.set_cons_succ]); (try rfl)
      · exact hF.out.alloc _
      · exact h5.out.alloc _
      · exact n5.out
      · exact LitR.new (by intro k hk; rcases (show k = 0 ∨ k = 1 ∨ k = 2 ∨ k = 3 ∨ k = 4 ∨ k = 5 ∨ k = 6 ∨ k = 7 by omega) with rfl | rfl | rfl | rfl | rfl | rfl | rfl | rfl <;> first | exact ⟨0, by decide, rfl⟩ | exact ⟨1, by decide, rfl⟩ | exact ⟨2, by decide, rfl⟩ | exact ⟨3, by decide, rfl⟩ | exact ⟨4, by decide, rfl⟩) hlW
      · exact Nat.ne_of_lt hXw
      · exact hk8.out
    refine AllReady.cons (o := ({ dst := none, op := Op.store 37 (Operand.tmp 2) (Operand.tmp 18), type := 0, pos := "l20_draw.go:191", after := #[{ on := 0, ground := Ground.data }, { on := 8, ground := Ground.chain }, { on := 0, ground := Ground.phase }, { on := 1, ground := Ground.textOnly Departure.lateStores }, { on := 2, ground := Ground.textOnly Departure.lateStores }, { on := 3, ground := Ground.textOnly Departure.lateStores }, { on := 4, ground := Ground.textOnly Departure.lateStoresUnsure }, { on := 5, ground := Ground.textOnly Departure.lateStores }, { on := 6, ground := Ground.textOnly Departure.lateStores }, { on := 7, ground := Ground.textOnly Departure.lateStores }, { on := 8, ground := Ground.textOnly Departure.lateStoresUnsure }, { on := 9, ground := Ground.textOnly Departure.lateStores }, { on := 10, ground := Ground.textOnly Departure.lateStores }, { on := 11, ground := Ground.textOnly Departure.lateStores }, { on := 12, ground := Ground.textOnly Departure.lateStores }], guard := none } : Oper)) rfl (fun K hK => ?_) ?_
    · go_simp
      refine hK _ _ ?_
      clear hK K
      (try simp only [Act.put, List.setIfInBounds_toArray, List.set_cons_zero, List.set_cons_succ])
      refine wpAny_take (i := 14) (oi := ({ dst := some 3, op := Op.assign (Operand.tmp 19), type := 3, pos := "l20_draw.go:191", after := #[{ on := 1, ground := Ground.data }, { on := 13, ground := Ground.chain }, { on := 0, ground := Ground.phase }, { on := 1, ground := Ground.phase }, { on := 2, ground := Ground.textOnly Departure.lateStores }, { on := 3, ground := Ground.textOnly Departure.lateStores }, { on := 4, ground := Ground.textOnly Departure.lateStoresUnsure }, { on := 5, ground := Ground.textOnly Departure.lateStores }, { on := 6, ground := Ground.textOnly Departure.lateStores }, { on := 7, ground := Ground.textOnly Departure.lateStores }, { on := 8, ground := Ground.textOnly Departure.lateStoresUnsure }, { on := 9, ground := Ground.textOnly Departure.lateStores }, { on := 10, ground := Ground.textOnly Departure.lateStores }, { on := 11, ground := Ground.textOnly Departure.lateStores }, { on := 12, ground := Ground.textOnly Departure.lateStores }, { on := 13, ground := Ground.phase }], guard := none } : Oper)) (v := ?_) rfl (by kernel_rfl) (by kernel_rfl) (by kernel_rfl) (fun _ _ _ h => h) (Or.inl ⟨by rfl, ?_⟩) ?_
      rotate_left
      · intro wq; go_simp; (try with_reducible rfl)
      (try simp only [Act.put, List.setIfInBounds_toArray, List.set_cons_zero, List.set_cons_succ])
      refine wpAny_take (i := 15) (oi := ({ dst := some 4, op := Op.assign (Operand.tmp 20), type := 3, pos := "l20_draw.go:191", after := #[{ on := 2, ground := Ground.data }, { on := 14, ground := Ground.chain }, { on := 0, ground := Ground.phase }, { on := 1, ground := Ground.phase }, { on := 2, ground := Ground.phase }, { on := 3, ground := Ground.textOnly Departure.lateStores }, { on := 4, ground := Ground.textOnly Departure.lateStoresUnsure }, { on := 5, ground := Ground.textOnly Departure.lateStores }, { on := 6, ground := Ground.textOnly Departure.lateStores }, { on := 7, ground := Ground.textOnly Departure.lateStores }, { on := 8, ground := Ground.textOnly Departure.lateStoresUnsure }, { on := 9, ground := Ground.textOnly Departure.lateStores }, { on := 10, ground := Ground.textOnly Departure.lateStores }, { on := 11, ground := Ground.textOnly Departure.lateStores }, { on := 12, ground := Ground.textOnly Departure.lateStores }, { on := 13, ground := Ground.phase }, { on := 14, ground := Ground.phase }], guard := none } : Oper)) (v := ?_) rfl (by kernel_rfl) (by kernel_rfl) (by kernel_rfl) (fun _ _ _ h => h) (Or.inl ⟨by rfl, ?_⟩) ?_
      rotate_left
      · intro wq; go_simp; (try with_reducible rfl)
      (try simp only [Act.put, List.setIfInBounds_toArray, List.set_cons_zero, List.set_cons_succ])
      refine wpAny_to (by kernel_rfl) (by kernel_rfl) (HD7.out _ _ ?_)
      apply Exists.intro
      apply Exists.intro
      apply Exists.intro
      refine ⟨?_, ?_, ?_, ?_, ?_⟩
      · (try simp only [Act.put, List.setIfInBounds_toArray, List.set_cons_zero, List.set_cons_succ]); (try rfl)
      · exact hF.out.setBox _ _ _ _ _ _ _
      · exact ((h5.out.set (p := ⟨w.heap.size, 0, none⟩) n5.out _).set (p := ⟨w.heap.size, 1, none⟩) n5.out _).set (p := ⟨w.heap.size, 2, none⟩) n5.out _
      · exact n5.out
      · exact hk8.out
    exact AllReady.nil
  refine wpAny_pre 9 #[false, true, true, true, true, false, true, true, true, true, false, false, false, false, false, false, false] (fun act9 W => ∃ q4 : Int, ∃ b6 : Nat, ∃ k8 : Nat, act9 = ((((((((A0.put (some 19) (.int .i64 xp)).put (some 20) (.int .i64 xq)).put (some 21) (.pointer (some ⟨rb, 0, none⟩))).put (some 22) (.int .i64 q4)).put (some 24) (.slice (some ⟨b6, 0, none⟩) 8 8)).put (some 25) (.pointer (some ⟨rb, 0, none⟩))).put (some 26) (.int .i64 (k8 : Int))).put (some 27) (.pointer (some ⟨b6, k8, none⟩))) ∧ Hid (MidW w w0.heap.size rb w1.heap.size (1116 + 2) (.agg #[.slice a ram.length c, .slice b rom.length d, .int .i64 bank]) (.slice a ram.length c) (.slice b rom.length d) (.int .i64 bank) (.slice none 0 0) (.slice none 0 0) (.int .i64 0) ram rom bank W) ∧ Hid (LitR rb 8 5 W b6) ∧ Hid (w.heap.size ≠ b6) ∧ Hid (k8 < 8)) ?_ (fun HD17 => ?_)
  · rintro act9 W ⟨q4, b6, k8, rfl, hF, h6, n6, hk8⟩
    subst hA0
    have hlW := hF.out.rd.lt
    obtain ⟨x0, x1, x2, xf0, xf1, xf2⟩ := id hF.out.six
    obtain ⟨e0, e1, e2, ef0, ef1, ef2⟩ := id hF.out.box
    have hX1 : w1.heap.size < W.heap.size := block_lt_of_cell x0
    have hXw : w.heap.size < W.heap.size := block_lt_of_cell e0
    (try simp only [Act.put, List.setIfInBounds_toArray, List.set_cons_zero, List.set_cons_succ])
    refine wpAny_ready (rs := [0, 5, 10]) (by kernel_rfl) (by simp) ?_
    refine AllReady.cons (o := ({ dst := some 18, op := Op.load 37 (Operand.tmp 7), type := 37, pos := "l20_draw.go:191", after := #[], guard := none } : Oper)) rfl (fun K hK => ?_) ?_
    · go_simp
      refine hK _ _ ?_
      clear hK K
      (try simp only [Act.put, List.setIfInBounds_toArray, List.set_cons_zero, List.set_cons_succ])
      refine wpAny_to (by kernel_rfl) (by kernel_rfl) (HD12.out _ _ ?_)
      apply Exists.intro
      apply Exists.intro
      apply Exists.intro
      refine ⟨?_, ?_, ?_, ?_, ?_⟩
      · (try simp only [Act.put, List.setIfInBounds_toArray, List.set_cons_zero, List.set_cons_succ]); (try rfl)
      · exact hF.out
      · exact h6.out
      · exact n6.out
      · exact hk8.out
    refine AllReady.cons (o := ({ dst := some 23, op := Op.buildSlice 23 5 #[(0, Operand.tmp 22), (1, Operand.const (Value.int IntKind.i64 256)), (2, Operand.const (Value.int IntKind.i64 257)), (3, Operand.const (Value.int IntKind.i64 (-1))), (4, Operand.const (Value.int IntKind.i64 0))], type := 23, pos := "l20_draw.go:191", after := #[{ on := 4, ground := Ground.data }, { on := 15, ground := Ground.gcOnly Departure.lateStores }], guard := none } : Oper)) rfl (fun K hK => ?_) ?_
    · go_simp
      refine hK _ _ ?_
      clear hK K
      (try simp only [Act.put, List.setIfInBounds_toArray, List.set_cons_zero, List.set_cons_succ])
      refine wpAny_to (by kernel_rfl) (by kernel_rfl) (HD13.out _ _ ?_)
      apply Exists.intro
      apply Exists.intro
      apply Exists.intro
      apply Exists.intro
      refine ⟨?_, ?_, ?_, ?_, ?_, ?_, ?_⟩
      · (try simp only [Act.put, List.setIfInBounds_toArray, List.set_cons_zero, List.set_cons_succ]); (try rfl)
      · exact hF.out.alloc _
      · exact LitI.new rfl rfl hlW
      · exact Nat.ne_of_lt hXw
      · exact h6.out.alloc _
      · exact n6.out
      · exact hk8.out
    refine AllReady.cons (o := ({ dst := some 28, op := Op.load 3 (Operand.tmp 27), type := 3, pos := "l20_draw.go:191", after := #[{ on := 9, ground := Ground.data }, { on := 15, ground := Ground.gcOnly Departure.lateStores }], guard := none } : Oper)) rfl (fun K hK => ?_) ?_
    · obtain ⟨m10, hm0, hc10⟩ := h6.out.2.2 k8 hk8.out
      have hm10 := Lib.hid hm0
      clear hm0
      go_simp
      refine hK _ _ ?_
      clear hK K
      (try simp only [Act.put, List.setIfInBounds_toArray, List.set_cons_zero, List.set_cons_succ])
      refine wpAny_to (by kernel_rfl) (by kernel_rfl) (HD14.out _ _ ?_)
      apply Exists.intro
      apply Exists.intro
      apply Exists.intro
      apply Exists.intro
      refine ⟨?_, ?_, ?_, ?_, ?_, ?_⟩
      · (try simp only [Act.put, List.setIfInBounds_toArray, List.set_cons_zero, List.set_cons_succ]); (try rfl)
      · exact hF.out
      · exact h6.out
      · exact n6.out
      · exact hk8.out
      · exact hm10.out
    exact AllReady.nil
  refine wpAny_pre 10 #[true, true, true, true, true, true, false, true, false, false, false, false, false, false, false, false, false] (fun act9 W => ∃ q4 : Int, ∃ b5 : Nat, act9 = (((((((A0.put (some 18) (.agg #[.slice a ram.length c, .slice b rom.length d, .int .i64 bank])).put (some 19) (.int .i64 xp)).put (some 20) (.int .i64 xq)).put (some 21) (.pointer (some ⟨rb, 0, none⟩))).put (some 22) (.int .i64 q4)).put (some 23) (.slice (some ⟨b5, 0, none⟩) 5 5)).put (some 25) (.pointer (some ⟨rb, 0, none⟩))) ∧ Hid (MidW w w0.heap.size rb w1.heap.size (1116 + 1) (.agg #[.slice a ram.length c, .slice b rom.length d, .int .i64 bank]) (.slice a ram.length c) (.slice b rom.length d) (.int .i64 bank) (.slice none 0 0) (.slice none 0 0) (.int .i64 0) ram rom bank W) ∧ Hid (LitI rb 5 W b5) ∧ Hid (w.heap.size ≠ b5)) ?_ (fun HD18 => ?_)
  · rintro act9 W ⟨q4, b5, rfl, hF, h5, n5⟩
    subst hA0
    have hlW := hF.out.rd.lt
    obtain ⟨x0, x1, x2, xf0, xf1, xf2⟩ := id hF.out.six
    obtain ⟨e0, e1, e2, ef0, ef1, ef2⟩ := id hF.out.box
    have hX1 : w1.heap.size < W.heap.size := block_lt_of_cell x0
    have hXw : w.heap.size < W.heap.size := block_lt_of_cell e0
    (try simp only [Act.put, List.setIfInBounds_toArray, List.set_cons_zero, List.set_cons_succ])
    refine wpAny_ready (rs := [6, 8]) (by kernel_rfl) (by simp) ?_
    refine AllReady.cons (o := ({ dst := some 24, op := Op.buildSlice 23 8 #[(0, Operand.const (Value.int IntKind.i64 0)), (1, Operand.const (Value.int IntKind.i64 0)), (2, Operand.const (Value.int IntKind.i64 0)), (3, Operand.const (Value.int IntKind.i64 0)), (4, Operand.const (Value.int IntKind.i64 1)), (5, Operand.const (Value.int IntKind.i64 2)), (6, Operand.const (Value.int IntKind.i64 3)), (7, Operand.const (Value.int IntKind.i64 4))], type := 23, pos := "l20_draw.go:191", after := #[{ on := 15, ground := Ground.gcOnly Departure.lateStores }], guard := none } : Oper)) rfl (fun K hK => ?_) ?_
    · go_simp
      refine hK _ _ ?_
      clear hK K
      (try simp only [Act.put, List.setIfInBounds_toArray, List.set_cons_zero, List.set_cons_succ])
      refine wpAny_to (by kernel_rfl) (by kernel_rfl) (HD15.out _ _ ?_)
      apply Exists.intro
      apply Exists.intro
      apply Exists.intro
      refine ⟨?_, ?_, ?_, ?_, ?_, ?_⟩
      · (try simp only [Act.put, List.setIfInBounds_toArray, List.set_cons_zero, List.set_cons_succ]); (try rfl)
      · exact hF.out.alloc _
      · exact h5.out.alloc _
      · exact n5.out
      · exact LitR.new (by intro k hk; rcases (show k = 0 ∨ k = 1 ∨ k = 2 ∨ k = 3 ∨ k = 4 ∨ k = 5 ∨ k = 6 ∨ k = 7 by omega) with rfl | rfl | rfl | rfl | rfl | rfl | rfl | rfl <;> first | exact ⟨0, by decide, rfl⟩ | exact ⟨1, by decide, rfl⟩ | exact ⟨2, by decide, rfl⟩ | exact ⟨3, by decide, rfl⟩ | exact ⟨4, by decide, rfl⟩) hlW
      · exact Nat.ne_of_lt hXw
    refine AllReady.cons (o := ({ dst := some 26, op := Op.call { callee := Callee.value (Operand.func 54), args := #[Operand.tmp 25, Operand.const (Value.int IntKind.i64 8)], argTypes := #[68, 3] }, type := 3, pos := "l20_draw.go:191", after := #[{ on := 7, ground := Ground.data }, { on := 4, ground := Ground.chain }], guard := none } : Oper)) rfl (fun K hK => ?_) ?_
    · go_simp
      refine (pick (B := (1116 + 1)) _ hF.out.rd (by omega)).mono ?_
      rintro e W' ⟨v8, rfl, ⟨x8, rfl, y8, z8⟩, hR', hK'⟩
      obtain ⟨k8, rfl⟩ := Int.eq_ofNat_of_zero_le y8
      have hk8 := Lib.hid (show k8 < 8 by omega)
      first | (refine hK _ _ ?_; clear hK K) | (go_wp2_with fail; (try (refine hK _ _ ?_)); (try clear hK K))
      (try simp only [Act.put, List.setIfInBounds_toArray, List.set_cons_zero, List.set_cons_succ])
      refine wpAny_to (by kernel_rfl) (by kernel_rfl) (HD16.out _ _ ?_)
      apply Exists.intro
      apply Exists.intro
      apply Exists.intro
      refine ⟨?_, ?_, ?_, ?_, ?_⟩
      · (try simp only [Act.put, List.setIfInBounds_toArray, List.set_cons_zero, List.set_cons_succ]); (try rfl)
      · exact hF.out.keep hK' hR'
      · exact h5.out.keep hK'
      · exact n5.out
      · exact hk8.out
    exact AllReady.nil
  refine wpAny_pre 10 #[true, true, true, true, true, false, true, true, false, false, false, false, false, false, false, false, false] (fun act9 W => ∃ q4 : Int, ∃ b6 : Nat, act9 = (((((((A0.put (some 18) (.agg #[.slice a ram.length c, .slice b rom.length d, .int .i64 bank])).put (some 19) (.int .i64 xp)).put (some 20) (.int .i64 xq)).put (some 21) (.pointer (some ⟨rb, 0, none⟩))).put (some 22) (.int .i64 q4)).put (some 24) (.slice (some ⟨b6, 0, none⟩) 8 8)).put (some 25) (.pointer (some ⟨rb, 0, none⟩))) ∧ Hid (MidW w w0.heap.size rb w1.heap.size (1116 + 1) (.agg #[.slice a ram.length c, .slice b rom.length d, .int .i64 bank]) (.slice a ram.length c) (.slice b rom.length d) (.int .i64 bank) (.slice none 0 0) (.slice none 0 0) (.int .i64 0) ram rom bank W) ∧ Hid (LitR rb 8 5 W b6) ∧ Hid (w.heap.size ≠ b6)) ?_ (fun HD19 => ?_)
  · rintro act9 W ⟨q4, b6, rfl, hF, h6, n6⟩
    subst hA0
    have hlW := hF.out.rd.lt
    obtain ⟨x0, x1, x2, xf0, xf1, xf2⟩ := id hF.out.six
    obtain ⟨e0, e1, e2, ef0, ef1, ef2⟩ := id hF.out.box
    have hX1 : w1.heap.size < W.heap.size := block_lt_of_cell x0
    have hXw : w.heap.size < W.heap.size := block_lt_of_cell e0
    (try simp only [Act.put, List.setIfInBounds_toArray, List.set_cons_zero, List.set_cons_succ])
    refine wpAny_ready (rs := [5, 8]) (by kernel_rfl) (by simp) ?_
    refine AllReady.cons (o := ({ dst := some 23, op := Op.buildSlice 23 5 #[(0, Operand.tmp 22), (1, Operand.const (Value.int IntKind.i64 256)), (2, Operand.const (Value.int IntKind.i64 257)), (3, Operand.const (Value.int IntKind.i64 (-1))), (4, Operand.const (Value.int IntKind.i64 0))], type := 23, pos := "l20_draw.go:191", after := #[{ on := 4, ground := Ground.data }, { on := 15, ground := Ground.gcOnly Departure.lateStores }], guard := none } : Oper)) rfl (fun K hK => ?_) ?_
    · go_simp
      refine hK _ _ ?_
      clear hK K
      (try simp only [Act.put, List.setIfInBounds_toArray, List.set_cons_zero, List.set_cons_succ])
      refine wpAny_to (by kernel_rfl) (by kernel_rfl) (HD15.out _ _ ?_)
      apply Exists.intro
      apply Exists.intro
      apply Exists.intro
      refine ⟨?_, ?_, ?_, ?_, ?_, ?_⟩
      · (try simp only [Act.put, List.setIfInBounds_toArray, List.set_cons_zero, List.set_cons_succ]); (try rfl)
      · exact hF.out.alloc _
      · exact LitI.new rfl rfl hlW
      · exact Nat.ne_of_lt hXw
      · exact h6.out.alloc _
      · exact n6.out
    refine AllReady.cons (o := ({ dst := some 26, op := Op.call { callee := Callee.value (Operand.func 54), args := #[Operand.tmp 25, Operand.const (Value.int IntKind.i64 8)], argTypes := #[68, 3] }, type := 3, pos := "l20_draw.go:191", after := #[{ on := 7, ground := Ground.data }, { on := 4, ground := Ground.chain }], guard := none } : Oper)) rfl (fun K hK => ?_) ?_
    · go_simp
      refine (pick (B := (1116 + 1)) _ hF.out.rd (by omega)).mono ?_
      rintro e W' ⟨v8, rfl, ⟨x8, rfl, y8, z8⟩, hR', hK'⟩
      obtain ⟨k8, rfl⟩ := Int.eq_ofNat_of_zero_le y8
      have hk8 := Lib.hid (show k8 < 8 by omega)
      first | (refine hK _ _ ?_; clear hK K) | (go_wp2_with fail; (try (refine hK _ _ ?_)); (try clear hK K))
      (try simp only [Act.put, List.setIfInBounds_toArray, List.set_cons_zero, List.set_cons_succ])
      have hk8i : (k8 : Int) < 8 := by have := hk8.out; omega
      refine wpAny_take (i := 9) (oi := ({ dst := some 27, op := Op.indexAddr 23 (Operand.tmp 24) (Operand.tmp 26), type := 0, pos := "l20_draw.go:191", after := #[{ on := 6, ground := Ground.data }, { on := 8, ground := Ground.data }, { on := 15, ground := Ground.gcOnly Departure.lateStores }], guard := none } : Oper)) (v := ?_) rfl (by kernel_rfl) (by kernel_rfl) (by kernel_rfl) (fun _ _ _ h => h) (Or.inl ⟨by rfl, ?_⟩) ?_
      rotate_left
      · intro wq; go_simp; (try with_reducible rfl)
      (try simp only [Act.put, List.setIfInBounds_toArray, List.set_cons_zero, List.set_cons_succ])
      refine wpAny_to (by kernel_rfl) (by kernel_rfl) (HD12.out _ _ ?_)
      apply Exists.intro
      apply Exists.intro
      apply Exists.intro
      refine ⟨?_, ?_, ?_, ?_, ?_⟩
      · (try simp only [Act.put, List.setIfInBounds_toArray, List.set_cons_zero, List.set_cons_succ]); (try rfl)
      · exact hF.out.keep hK' hR'
      · exact h6.out.keep hK'
      · exact n6.out
      · exact hk8.out
    exact AllReady.nil
  refine wpAny_pre 10 #[true, true, true, true, true, false, false, true, true, false, false, false, false, false, false, false, false] (fun act9 W => ∃ q4 : Int, ∃ k8 : Nat, act9 = (((((((A0.put (some 18) (.agg #[.slice a ram.length c, .slice b rom.length d, .int .i64 bank])).put (some 19) (.int .i64 xp)).put (some 20) (.int .i64 xq)).put (some 21) (.pointer (some ⟨rb, 0, none⟩))).put (some 22) (.int .i64 q4)).put (some 25) (.pointer (some ⟨rb, 0, none⟩))).put (some 26) (.int .i64 (k8 : Int))) ∧ Hid (MidW w w0.heap.size rb w1.heap.size (1116 + 2) (.agg #[.slice a ram.length c, .slice b rom.length d, .int .i64 bank]) (.slice a ram.length c) (.slice b rom.length d) (.int .i64 bank) (.slice none 0 0) (.slice none 0 0) (.int .i64 0) ram rom bank W) ∧ Hid (k8 < 8)) ?_ (fun HD20 => ?_)
  · rintro act9 W ⟨q4, k8, rfl, hF, hk8⟩
    subst hA0
    have hlW := hF.out.rd.lt
    obtain ⟨x0, x1, x2, xf0, xf1, xf2⟩ := id hF.out.six
    obtain ⟨e0, e1, e2, ef0, ef1, ef2⟩ := id hF.out.box
    have hX1 : w1.heap.size < W.heap.size := block_lt_of_cell x0
    have hXw : w.heap.size < W.heap.size := block_lt_of_cell e0
    (try simp only [Act.put, List.setIfInBounds_toArray, List.set_cons_zero, List.set_cons_succ])
    refine wpAny_ready (rs := [5, 6, 13]) (by kernel_rfl) (by simp) ?_
    refine AllReady.cons (o := ({ dst := some 23, op := Op.buildSlice 23 5 #[(0, Operand.tmp 22), (1, Operand.const (Value.int IntKind.i64 256)), (2, Operand.const (Value.int IntKind.i64 257)), (3, Operand.const (Value.int IntKind.i64 (-1))), (4, Operand.const (Value.int IntKind.i64 0))], type := 23, pos := "l20_draw.go:191", after := #[{ on := 4, ground := Ground.data }, { on := 15, ground := Ground.gcOnly Departure.lateStores }], guard := none } : Oper)) rfl (fun K hK => ?_) ?_
    · go_simp
      refine hK _ _ ?_
      clear hK K
      (try simp only [Act.put, List.setIfInBounds_toArray, List.set_cons_zero, List.set_cons_succ])
      refine wpAny_to (by kernel_rfl) (by kernel_rfl) (HD16.out _ _ ?_)
      apply Exists.intro
      apply Exists.intro
      apply Exists.intro
      refine ⟨?_, ?_, ?_, ?_, ?_⟩
      · (try simp only [Act.put, List.setIfInBounds_toArray, List.set_cons_zero, List.set_cons_succ]); (try rfl)
      · exact hF.out.alloc _
      · exact LitI.new rfl rfl hlW
      · exact Nat.ne_of_lt hXw
      · exact hk8.out
    refine AllReady.cons (o := ({ dst := some 24, op := Op.buildSlice 23 8 #[(0, Operand.const (Value.int IntKind.i64 0)), (1, Operand.const (Value.int IntKind.i64 0)), (2, Operand.const (Value.int IntKind.i64 0)), (3, Operand.const (Value.int IntKind.i64 0)), (4, Operand.const (Value.int IntKind.i64 1)), (5, Operand.const (Value.int IntKind.i64 2)), (6, Operand.const (Value.int IntKind.i64 3)), (7, Operand.const (Value.int IntKind.i64 4))], type := 23, pos := "l20_draw.go:191", after := #[{ on := 15, ground := Ground.gcOnly Departure.lateStores }], guard := none } : Oper)) rfl (fun K hK => ?_) ?_
    · go_simp
      refine hK _ _ ?_
      clear hK K
      (try simp only [Act.put, List.setIfInBounds_toArray, List.set_cons_zero, List.set_cons_succ])
      have hk8i : (k8 : Int) < 8 := by have := hk8.out; omega
      refine wpAny_take (i := 9) (oi := ({ dst := some 27, op := Op.indexAddr 23 (Operand.tmp 24) (Operand.tmp 26), type := 0, pos := "l20_draw.go:191", after := #[{ on := 6, ground := Ground.data }, { on := 8, ground := Ground.data }, { on := 15, ground := Ground.gcOnly Departure.lateStores }], guard := none } : Oper)) (v := ?_) rfl (by kernel_rfl) (by kernel_rfl) (by kernel_rfl) (fun _ _ _ h => h) (Or.inl ⟨by rfl, ?_⟩) ?_
      rotate_left
      · intro wq; go_simp; (try with_reducible rfl)
      (try simp only [Act.put, List.setIfInBounds_toArray, List.set_cons_zero, List.set_cons_succ])
      refine wpAny_to (by kernel_rfl) (by kernel_rfl) (HD12.out _ _ ?_)
      apply Exists.intro
      apply Exists.intro
      apply Exists.intro
      refine ⟨?_, ?_, ?_, ?_, ?_⟩
      · (try simp only [Act.put, List.setIfInBounds_toArray, List.set_cons_zero, List.set_cons_succ]); (try rfl)
      · exact hF.out.alloc _
      · exact LitR.new (by intro k hk; rcases (show k = 0 ∨ k = 1 ∨ k = 2 ∨ k = 3 ∨ k = 4 ∨ k = 5 ∨ k = 6 ∨ k = 7 by omega) with rfl | rfl | rfl | rfl | rfl | rfl | rfl | rfl <;> first | exact ⟨0, by decide, rfl⟩ | exact ⟨1, by decide, rfl⟩ | exact ⟨2, by decide, rfl⟩ | exact ⟨3, by decide, rfl⟩ | exact ⟨4, by decide, rfl⟩) hlW
      · exact Nat.ne_of_lt hXw
      · exact hk8.out
    refine AllReady.cons (o := ({ dst := none, op := Op.store 37 (Operand.tmp 2) (Operand.tmp 18), type := 0, pos := "l20_draw.go:191", after := #[{ on := 0, ground := Ground.data }, { on := 8, ground := Ground.chain }, { on := 0, ground := Ground.phase }, { on := 1, ground := Ground.textOnly Departure.lateStores }, { on := 2, ground := Ground.textOnly Departure.lateStores }, { on := 3, ground := Ground.textOnly Departure.lateStores }, { on := 4, ground := Ground.textOnly Departure.lateStoresUnsure }, { on := 5, ground := Ground.textOnly Departure.lateStores }, { on := 6, ground := Ground.textOnly Departure.lateStores }, { on := 7, ground := Ground.textOnly Departure.lateStores }, { on := 8, ground := Ground.textOnly Departure.lateStoresUnsure }, { on := 9, ground := Ground.textOnly Departure.lateStores }, { on := 10, ground := Ground.textOnly Departure.lateStores }, { on := 11, ground := Ground.textOnly Departure.lateStores }, { on := 12, ground := Ground.textOnly Departure.lateStores }], guard := none } : Oper)) rfl (fun K hK => ?_) ?_
    · go_simp
      refine hK _ _ ?_
      clear hK K
      (try simp only [Act.put, List.setIfInBounds_toArray, List.set_cons_zero, List.set_cons_succ])
      refine wpAny_take (i := 14) (oi := ({ dst := some 3, op := Op.assign (Operand.tmp 19), type := 3, pos := "l20_draw.go:191", after := #[{ on := 1, ground := Ground.data }, { on := 13, ground := Ground.chain }, { on := 0, ground := Ground.phase }, { on := 1, ground := Ground.phase }, { on := 2, ground := Ground.textOnly Departure.lateStores }, { on := 3, ground := Ground.textOnly Departure.lateStores }, { on := 4, ground := Ground.textOnly Departure.lateStoresUnsure }, { on := 5, ground := Ground.textOnly Departure.lateStores }, { on := 6, ground := Ground.textOnly Departure.lateStores }, { on := 7, ground := Ground.textOnly Departure.lateStores }, { on := 8, ground := Ground.textOnly Departure.lateStoresUnsure }, { on := 9, ground := Ground.textOnly Departure.lateStores }, { on := 10, ground := Ground.textOnly Departure.lateStores }, { on := 11, ground := Ground.textOnly Departure.lateStores }, { on := 12, ground := Ground.textOnly Departure.lateStores }, { on := 13, ground := Ground.phase }], guard := none } : Oper)) (v := ?_) rfl (by kernel_rfl) (by kernel_rfl) (by kernel_rfl) (fun _ _ _ h => h) (Or.inl ⟨by rfl, ?_⟩) ?_
      rotate_left
      · intro wq; go_simp; (try with_reducible rfl)
      (try simp only [Act.put, List.setIfInBounds_toArray, List.set_cons_zero, List.set_cons_succ])
      refine wpAny_take (i := 15) (oi := ({ dst := some 4, op := Op.assign (Operand.tmp 20), type := 3, pos := "l20_draw.go:191", after := #[{ on := 2, ground := Ground.data }, { on := 14, ground := Ground.chain }, { on := 0, ground := Ground.phase }, { on := 1, ground := Ground.phase }, { on := 2, ground := Ground.phase }, { on := 3, ground := Ground.textOnly Departure.lateStores }, { on := 4, ground := Ground.textOnly Departure.lateStoresUnsure }, { on := 5, ground := Ground.textOnly Departure.lateStores }, { on := 6, ground := Ground.textOnly Departure.lateStores }, { on := 7, ground := Ground.textOnly Departure.lateStores }, { on := 8, ground := Ground.textOnly Departure.lateStoresUnsure }, { on := 9, ground := Ground.textOnly Departure.lateStores }, { on := 10, ground := Ground.textOnly Departure.lateStores }, { on := 11, ground := Ground.textOnly Departure.lateStores }, { on := 12, ground := Ground.textOnly Departure.lateStores }, { on := 13, ground := Ground.phase }, { on := 14, ground := Ground.phase }], guard := none } : Oper)) (v := ?_) rfl (by kernel_rfl) (by kernel_rfl) (by kernel_rfl) (fun _ _ _ h => h) (Or.inl ⟨by rfl, ?_⟩) ?_
      rotate_left
      · intro wq; go_simp; (try with_reducible rfl)
      (try simp only [Act.put, List.setIfInBounds_toArray, List.set_cons_zero, List.set_cons_succ])
      refine wpAny_to (by kernel_rfl) (by kernel_rfl) (HD11.out _ _ ?_)
      apply Exists.intro
      apply Exists.intro
      refine ⟨?_, ?_, ?_⟩
      · (try simp only [Act.put, List.setIfInBounds_toArray, List.set_cons_zero, List.set_cons_succ]); (try rfl)
      · exact hF.out.setBox _ _ _ _ _ _ _
      · exact hk8.out
    exact AllReady.nil
  refine wpAny_pre 10 #[false, true, true, true, true, true, true, true, false, false, false, false, false, false, false, false, false] (fun act9 W => ∃ q4 : Int, ∃ b5 : Nat, ∃ b6 : Nat, act9 = (((((((A0.put (some 19) (.int .i64 xp)).put (some 20) (.int .i64 xq)).put (some 21) (.pointer (some ⟨rb, 0, none⟩))).put (some 22) (.int .i64 q4)).put (some 23) (.slice (some ⟨b5, 0, none⟩) 5 5)).put (some 24) (.slice (some ⟨b6, 0, none⟩) 8 8)).put (some 25) (.pointer (some ⟨rb, 0, none⟩))) ∧ Hid (MidW w w0.heap.size rb w1.heap.size (1116 + 1) (.agg #[.slice a ram.length c, .slice b rom.length d, .int .i64 bank]) (.slice a ram.length c) (.slice b rom.length d) (.int .i64 bank) (.slice none 0 0) (.slice none 0 0) (.int .i64 0) ram rom bank W) ∧ Hid (LitI rb 5 W b5) ∧ Hid (w.heap.size ≠ b5) ∧ Hid (LitR rb 8 5 W b6) ∧ Hid (w.heap.size ≠ b6)) ?_ (fun HD21 => ?_)
  · rintro act9 W ⟨q4, b5, b6, rfl, hF, h5, n5, h6, n6⟩
    subst hA0
    have hlW := hF.out.rd.lt
    obtain ⟨x0, x1, x2, xf0, xf1, xf2⟩ := id hF.out.six
    obtain ⟨e0, e1, e2, ef0, ef1, ef2⟩ := id hF.out.box
    have hX1 : w1.heap.size < W.heap.size := block_lt_of_cell x0
    have hXw : w.heap.size < W.heap.size := block_lt_of_cell e0
    (try simp only [Act.put, List.setIfInBounds_toArray, List.set_cons_zero, List.set_cons_succ])
    refine wpAny_ready (rs := [0, 8]) (by kernel_rfl) (by simp) ?_
    refine AllReady.cons (o := ({ dst := some 18, op := Op.load 37 (Operand.tmp 7), type := 37, pos := "l20_draw.go:191", after := #[], guard := none } : Oper)) rfl (fun K hK => ?_) ?_
    · go_simp
      refine hK _ _ ?_
      clear hK K
      (try simp only [Act.put, List.setIfInBounds_toArray, List.set_cons_zero, List.set_cons_succ])
      refine wpAny_to (by kernel_rfl) (by kernel_rfl) (HD15.out _ _ ?_)
      apply Exists.intro
      apply Exists.intro
      apply Exists.intro
      refine ⟨?_, ?_, ?_, ?_, ?_, ?_⟩
      · (try simp only [Act.put, List.setIfInBounds_toArray, List.set_cons_zero, List.set_cons_succ]); (try rfl)
      · exact hF.out
      · exact h5.out
      · exact n5.out
      · exact h6.out
      · exact n6.out
    refine AllReady.cons (o := ({ dst := some 26, op := Op.call { callee := Callee.value (Operand.func 54), args := #[Operand.tmp 25, Operand.const (Value.int IntKind.i64 8)], argTypes := #[68, 3] }, type := 3, pos := "l20_draw.go:191", after := #[{ on := 7, ground := Ground.data }, { on := 4, ground := Ground.chain }], guard := none } : Oper)) rfl (fun K hK => ?_) ?_
    · go_simp
      refine (pick (B := (1116 + 1)) _ hF.out.rd (by omega)).mono ?_
      rintro e W' ⟨v8, rfl, ⟨x8, rfl, y8, z8⟩, hR', hK'⟩
      obtain ⟨k8, rfl⟩ := Int.eq_ofNat_of_zero_le y8
      have hk8 := Lib.hid (show k8 < 8 by omega)
      first | (refine hK _ _ ?_; clear hK K) | (go_wp2_with fail; (try (refine hK _ _ ?_)); (try clear hK K))
      (try simp only [Act.put, List.setIfInBounds_toArray, List.set_cons_zero, List.set_cons_succ])
      have hk8i : (k8 : Int) < 8 := by have := hk8.out; omega
      refine wpAny_take (i := 9) (oi := ({ dst := some 27, op := Op.indexAddr 23 (Operand.tmp 24) (Operand.tmp 26), type := 0, pos := "l20_draw.go:191", after := #[{ on := 6, ground := Ground.data }, { on := 8, ground := Ground.data }, { on := 15, ground := Ground.gcOnly Departure.lateStores }], guard := none } : Oper)) (v := ?_) rfl (by kernel_rfl) (by kernel_rfl) (by kernel_rfl) (fun _ _ _ h => h) (Or.inl ⟨by rfl, ?_⟩) ?_
      rotate_left
      · intro wq; go_simp; (try with_reducible rfl)
      (try simp only [Act.put, List.setIfInBounds_toArray, List.set_cons_zero, List.set_cons_succ])
      refine wpAny_to (by kernel_rfl) (by kernel_rfl) (HD13.out _ _ ?_)
      apply Exists.intro
      apply Exists.intro
      apply Exists.intro
      apply Exists.intro
      refine ⟨?_, ?_, ?_, ?_, ?_, ?_, ?_⟩
      · (try simp only [Act.put, List.setIfInBounds_toArray, List.set_cons_zero, List.set_cons_succ]); (try rfl)
      · exact hF.out.keep hK' hR'
      · exact h5.out.keep hK'
      · exact n5.out
      · exact h6.out.keep hK'
      · exact n6.out
      · exact hk8.out
    exact AllReady.nil
  refine wpAny_pre 10 #[false, true, true, true, true, true, false, true, true, false, false, false, false, false, false, false, false] (fun act9 W => ∃ q4 : Int, ∃ b5 : Nat, ∃ k8 : Nat, act9 = (((((((A0.put (some 19) (.int .i64 xp)).put (some 20) (.int .i64 xq)).put (some 21) (.pointer (some ⟨rb, 0, none⟩))).put (some 22) (.int .i64 q4)).put (some 23) (.slice (some ⟨b5, 0, none⟩) 5 5)).put (some 25) (.pointer (some ⟨rb, 0, none⟩))).put (some 26) (.int .i64 (k8 : Int))) ∧ Hid (MidW w w0.heap.size rb w1.heap.size (1116 + 2) (.agg #[.slice a ram.length c, .slice b rom.length d, .int .i64 bank]) (.slice a ram.length c) (.slice b rom.length d) (.int .i64 bank) (.slice none 0 0) (.slice none 0 0) (.int .i64 0) ram rom bank W) ∧ Hid (LitI rb 5 W b5) ∧ Hid (w.heap.size ≠ b5) ∧ Hid (k8 < 8)) ?_ (fun HD22 => ?_)
  · rintro act9 W ⟨q4, b5, k8, rfl, hF, h5, n5, hk8⟩
    subst hA0
    have hlW := hF.out.rd.lt
    obtain ⟨x0, x1, x2, xf0, xf1, xf2⟩ := id hF.out.six
    obtain ⟨e0, e1, e2, ef0, ef1, ef2⟩ := id hF.out.box
    have hX1 : w1.heap.size < W.heap.size := block_lt_of_cell x0
    have hXw : w.heap.size < W.heap.size := block_lt_of_cell e0
    (try simp only [Act.put, List.setIfInBounds_toArray, List.set_cons_zero, List.set_cons_succ])
    refine wpAny_ready (rs := [0, 6]) (by kernel_rfl) (by simp) ?_
    refine AllReady.cons (o := ({ dst := some 18, op := Op.load 37 (Operand.tmp 7), type := 37, pos := "l20_draw.go:191", after := #[], guard := none } : Oper)) rfl (fun K hK => ?_) ?_
    · go_simp
      refine hK _ _ ?_
      clear hK K
      (try simp only [Act.put, List.setIfInBounds_toArray, List.set_cons_zero, List.set_cons_succ])
      refine wpAny_to (by kernel_rfl) (by kernel_rfl) (HD16.out _ _ ?_)
      apply Exists.intro
      apply Exists.intro
      apply Exists.intro
      refine ⟨?_, ?_, ?_, ?_, ?_⟩
      · (try simp only [Act.put, List.setIfInBounds_toArray, List.set_cons_zero, List.set_cons_succ]); (try rfl)
      · exact hF.out
      · exact h5.out
      · exact n5.out
      · exact hk8.out
    refine AllReady.cons (o := ({ dst := some 24, op := Op.buildSlice 23 8 #[(0, Operand.const (Value.int IntKind.i64 0)), (1, Operand.const (Value.int IntKind.i64 0)), (2, Operand.const (Value.int IntKind.i64 0)), (3, Operand.const (Value.int IntKind.i64 0)), (4, Operand.const (Value.int IntKind.i64 1)), (5, Operand.const (Value.int IntKind.i64 2)), (6, Operand.const (Value.int IntKind.i64 3)), (7, Operand.const (Value.int IntKind.i64 4))], type := 23, pos := "l20_draw.go:191", after := #[{ on := 15, ground := Ground.gcOnly Departure.lateStores }], guard := none } : Oper)) rfl (fun K hK => ?_) ?_
    · go_simp
      refine hK _ _ ?_
      clear hK K
      (try simp only [Act.put, List.setIfInBounds_toArray, List.set_cons_zero, List.set_cons_succ])
      have hk8i : (k8 : Int) < 8 := by have := hk8.out; omega
      refine wpAny_take (i := 9) (oi := ({ dst := some 27, op := Op.indexAddr 23 (Operand.tmp 24) (Operand.tmp 26), type := 0, pos := "l20_draw.go:191", after := #[{ on := 6, ground := Ground.data }, { on := 8, ground := Ground.data }, { on := 15, ground := Ground.gcOnly Departure.lateStores }], guard := none } : Oper)) (v := ?_) rfl (by kernel_rfl) (by kernel_rfl) (by kernel_rfl) (fun _ _ _ h => h) (Or.inl ⟨by rfl, ?_⟩) ?_
      rotate_left
      · intro wq; go_simp; (try with_reducible rfl)
      (try simp only [Act.put, List.setIfInBounds_toArray, List.set_cons_zero, List.set_cons_succ])
      refine wpAny_to (by kernel_rfl) (by kernel_rfl) (HD13.out _ _ ?_)
      apply Exists.intro
      apply Exists.intro
      apply Exists.intro
      apply Exists.intro
      refine ⟨?_, ?_, ?_, ?_, ?_, ?_, ?_⟩
      · (try simp only [Act.put, List.setIfInBounds_toArray, List.set_cons_zero, List.set_cons_succ]); (try rfl)
      · exact hF.out.alloc _
      · exact h5.out.alloc _
      · exact n5.out
      · exact LitR.new (by intro k hk; rcases (show k = 0 ∨ k = 1 ∨ k = 2 ∨ k = 3 ∨ k = 4 ∨ k = 5 ∨ k = 6 ∨ k = 7 by omega) with rfl | rfl | rfl | rfl | rfl | rfl | rfl | rfl <;> first | exact ⟨0, by decide, rfl⟩ | exact ⟨1, by decide, rfl⟩ | exact ⟨2, by decide, rfl⟩ | exact ⟨3, by decide, rfl⟩ | exact ⟨4, by decide, rfl⟩) hlW
      · exact Nat.ne_of_lt hXw
      · exact hk8.out
    exact AllReady.nil
  refine wpAny_pre 11 #[true, true, true, true, true, false, false, true, false, false, false, false, false, false, false, false, false] (fun act9 W => ∃ q4 : Int, act9 = ((((((A0.put (some 18) (.agg #[.slice a ram.length c, .slice b rom.length d, .int .i64 bank])).put (some 19) (.int .i64 xp)).put (some 20) (.int .i64 xq)).put (some 21) (.pointer (some ⟨rb, 0, none⟩))).put (some 22) (.int .i64 q4)).put (some 25) (.pointer (some ⟨rb, 0, none⟩))) ∧ Hid (MidW w w0.heap.size rb w1.heap.size (1116 + 1) (.agg #[.slice a ram.length c, .slice b rom.length d, .int .i64 bank]) (.slice a ram.length c) (.slice b rom.length d) (.int .i64 bank) (.slice none 0 0) (.slice none 0 0) (.int .i64 0) ram rom bank W)) ?_ (fun HD23 => ?_)
  · rintro act9 W ⟨q4, rfl, hF⟩
    subst hA0
    have hlW := hF.out.rd.lt
    obtain ⟨x0, x1, x2, xf0, xf1, xf2⟩ := id hF.out.six
    obtain ⟨e0, e1, e2, ef0, ef1, ef2⟩ := id hF.out.box
    have hX1 : w1.heap.size < W.heap.size := block_lt_of_cell x0
    have hXw : w.heap.size < W.heap.size := block_lt_of_cell e0
    (try simp only [Act.put, List.setIfInBounds_toArray, List.set_cons_zero, List.set_cons_succ])
    refine wpAny_ready (rs := [5, 6, 8]) (by kernel_rfl) (by simp) ?_
    refine AllReady.cons (o := ({ dst := some 23, op := Op.buildSlice 23 5 #[(0, Operand.tmp 22), (1, Operand.const (Value.int IntKind.i64 256)), (2, Operand.const (Value.int IntKind.i64 257)), (3, Operand.const (Value.int IntKind.i64 (-1))), (4, Operand.const (Value.int IntKind.i64 0))], type := 23, pos := "l20_draw.go:191", after := #[{ on := 4, ground := Ground.data }, { on := 15, ground := Ground.gcOnly Departure.lateStores }], guard := none } : Oper)) rfl (fun K hK => ?_) ?_
    · go_simp
      refine hK _ _ ?_
      clear hK K
      (try simp only [Act.put, List.setIfInBounds_toArray, List.set_cons_zero, List.set_cons_succ])
      refine wpAny_to (by kernel_rfl) (by kernel_rfl) (HD18.out _ _ ?_)
      apply Exists.intro
      apply Exists.intro
      refine ⟨?_, ?_, ?_, ?_⟩
      · (try simp only [Act.put, List.setIfInBounds_toArray, List.set_cons_zero, List.set_cons_succ]); (try rfl)
      · exact hF.out.alloc _
      · exact LitI.new rfl rfl hlW
      · exact Nat.ne_of_lt hXw
    refine AllReady.cons (o := ({ dst := some 24, op := Op.buildSlice 23 8 #[(0, Operand.const (Value.int IntKind.i64 0)), (1, Operand.const (Value.int IntKind.i64 0)), (2, Operand.const (Value.int IntKind.i64 0)), (3, Operand.const (Value.int IntKind.i64 0)), (4, Operand.const (Value.int IntKind.i64 1)), (5, Operand.const (Value.int IntKind.i64 2)), (6, Operand.const (Value.int IntKind.i64 3)), (7, Operand.const (Value.int IntKind.i64 4))], type := 23, pos := "l20_draw.go:191", after := #[{ on := 15, ground := Ground.gcOnly Departure.lateStores }], guard := none } : Oper)) rfl (fun K hK => ?_) ?_
    · go_simp
      refine hK _ _ ?_
      clear hK K
      (try simp only [Act.put, List.setIfInBounds_toArray, List.set_cons_zero, List.set_cons_succ])
      refine wpAny_to (by kernel_rfl) (by kernel_rfl) (HD19.out _ _ ?_)
      apply Exists.intro
      apply Exists.intro
      refine ⟨?_, ?_, ?_, ?_⟩
      · (try simp only [Act.put, List.setIfInBounds_toArray, List.set_cons_zero, List.set_cons_succ]); (try rfl)
      · exact hF.out.alloc _
      · exact LitR.new (by intro k hk; rcases (show k = 0 ∨ k = 1 ∨ k = 2 ∨ k = 3 ∨ k = 4 ∨ k = 5 ∨ k = 6 ∨ k = 7 by omega) with rfl | rfl | rfl | rfl | rfl | rfl | rfl | rfl <;> first | exact ⟨0, by decide, rfl⟩ | exact ⟨1, by decide, rfl⟩ | exact ⟨2, by decide, rfl⟩ | exact ⟨3, by decide, rfl⟩ | exact ⟨4, by decide, rfl⟩) hlW
      · exact Nat.ne_of_lt hXw
    refine AllReady.cons (o := ({ dst := some 26, op := Op.call { callee := Callee.value (Operand.func 54), args := #[Operand.tmp 25, Operand.const (Value.int IntKind.i64 8)], argTypes := #[68, 3] }, type := 3, pos := "l20_draw.go:191", after := #[{ on := 7, ground := Ground.data }, { on := 4, ground := Ground.chain }], guard := none } : Oper)) rfl (fun K hK => ?_) ?_
    · go_simp
      refine (pick (B := (1116 + 1)) _ hF.out.rd (by omega)).mono ?_
      rintro e W' ⟨v8, rfl, ⟨x8, rfl, y8, z8⟩, hR', hK'⟩
      obtain ⟨k8, rfl⟩ := Int.eq_ofNat_of_zero_le y8
      have hk8 := Lib.hid (show k8 < 8 by omega)
      first | (refine hK _ _ ?_; clear hK K) | (go_wp2_with fail; (try (refine hK _ _ ?_)); (try clear hK K))
      (try simp only [Act.put, List.setIfInBounds_toArray, List.set_cons_zero, List.set_cons_succ])
      refine wpAny_to (by kernel_rfl) (by kernel_rfl) (HD20.out _ _ ?_)
      apply Exists.intro
      apply Exists.intro
      refine ⟨?_, ?_, ?_⟩
      · (try simp only [Act.put, List.setIfInBounds_toArray, List.set_cons_zero, List.set_cons_succ]); (try rfl)
      · exact hF.out.keep hK' hR'
      · exact hk8.out
    exact AllReady.nil
  refine wpAny_pre 11 #[true, true, true, true, false, false, true, true, false, false, false, false, false, false, false, false, false] (fun act9 W => ∃ b6 : Nat, act9 = ((((((A0.put (some 18) (.agg #[.slice a ram.length c, .slice b rom.length d, .int .i64 bank])).put (some 19) (.int .i64 xp)).put (some 20) (.int .i64 xq)).put (some 21) (.pointer (some ⟨rb, 0, none⟩))).put (some 24) (.slice (some ⟨b6, 0, none⟩) 8 8)).put (some 25) (.pointer (some ⟨rb, 0, none⟩))) ∧ Hid (MidW w w0.heap.size rb w1.heap.size (1116 + 0) (.agg #[.slice a ram.length c, .slice b rom.length d, .int .i64 bank]) (.slice a ram.length c) (.slice b rom.length d) (.int .i64 bank) (.slice none 0 0) (.slice none 0 0) (.int .i64 0) ram rom bank W) ∧ Hid (LitR rb 8 5 W b6) ∧ Hid (w.heap.size ≠ b6)) ?_ (fun HD24 => ?_)
  · rintro act9 W ⟨b6, rfl, hF, h6, n6⟩
    subst hA0
    have hlW := hF.out.rd.lt
    obtain ⟨x0, x1, x2, xf0, xf1, xf2⟩ := id hF.out.six
    obtain ⟨e0, e1, e2, ef0, ef1, ef2⟩ := id hF.out.box
    have hX1 : w1.heap.size < W.heap.size := block_lt_of_cell x0
    have hXw : w.heap.size < W.heap.size := block_lt_of_cell e0
    (try simp only [Act.put, List.setIfInBounds_toArray, List.set_cons_zero, List.set_cons_succ])
    refine wpAny_ready (rs := [4]) (by kernel_rfl) (by simp) ?_
    refine AllReady.cons (o := ({ dst := some 22, op := Op.call { callee := Callee.value (Operand.func 54), args := #[Operand.tmp 21, Operand.const (Value.int IntKind.i64 30)], argTypes := #[68, 3] }, type := 3, pos := "l20_draw.go:191", after := #[{ on := 3, ground := Ground.data }], guard := none } : Oper)) rfl (fun K hK => ?_) ?_
    · go_simp
      refine (pick (B := (1116 + 0)) _ hF.out.rd (by omega)).mono ?_
      rintro e W' ⟨v4, rfl, ⟨x4, rfl, y4, z4⟩, hR', hK'⟩
      first | (refine hK _ _ ?_; clear hK K) | (go_wp2_with fail; (try (refine hK _ _ ?_)); (try clear hK K))
      (try simp only [Act.put, List.setIfInBounds_toArray, List.set_cons_zero, List.set_cons_succ])
      refine wpAny_to (by kernel_rfl) (by kernel_rfl) (HD19.out _ _ ?_)
      apply Exists.intro
      apply Exists.intro
      refine ⟨?_, ?_, ?_, ?_⟩
      · (try simp only [Act.put, List.setIfInBounds_toArray, List.set_cons_zero, List.set_cons_succ]); (try rfl)
      · exact hF.out.keep hK' hR'
      · exact h6.out.keep hK'
      · exact n6.out
    exact AllReady.nil
  refine wpAny_pre 11 #[false, true, true, true, true, true, false, true, false, false, false, false, false, false, false, false, false] (fun act9 W => ∃ q4 : Int, ∃ b5 : Nat, act9 = ((((((A0.put (some 19) (.int .i64 xp)).put (some 20) (.int .i64 xq)).put (some 21) (.pointer (some ⟨rb, 0, none⟩))).put (some 22) (.int .i64 q4)).put (some 23) (.slice (some ⟨b5, 0, none⟩) 5 5)).put (some 25) (.pointer (some ⟨rb, 0, none⟩))) ∧ Hid (MidW w w0.heap.size rb w1.heap.size (1116 + 1) (.agg #[.slice a ram.length c, .slice b rom.length d, .int .i64 bank]) (.slice a ram.length c) (.slice b rom.length d) (.int .i64 bank) (.slice none 0 0) (.slice none 0 0) (.int .i64 0) ram rom bank W) ∧ Hid (LitI rb 5 W b5) ∧ Hid (w.heap.size ≠ b5)) ?_ (fun HD25 => ?_)
  · rintro act9 W ⟨q4, b5, rfl, hF, h5, n5⟩
    subst hA0
    have hlW := hF.out.rd.lt
    obtain ⟨x0, x1, x2, xf0, xf1, xf2⟩ := id hF.out.six
    obtain ⟨e0, e1, e2, ef0, ef1, ef2⟩ := id hF.out.box
    have hX1 : w1.heap.size < W.heap.size := block_lt_of_cell x0
    have hXw : w.heap.size < W.heap.size := block_lt_of_cell e0
    (try simp only [Act.put, List.setIfInBounds_toArray, List.set_cons_zero, List.set_cons_succ])
    refine wpAny_ready (rs := [0, 6, 8]) (by kernel_rfl) (by simp) ?_
    refine AllReady.cons (o := ({ dst := some 18, op := Op.load 37 (Operand.tmp 7), type := 37, pos := "l20_draw.go:191", after := #[], guard := none } : Oper)) rfl (fun K hK => ?_) ?_
    · go_simp
      refine hK _ _ ?_
      clear hK K
      (try simp only [Act.put, List.setIfInBounds_toArray, List.set_cons_zero, List.set_cons_succ])
      refine wpAny_to (by kernel_rfl) (by kernel_rfl) (HD18.out _ _ ?_)
      apply Exists.intro
      apply Exists.intro
      refine ⟨?_, ?_, ?_, ?_⟩
      · (try simp only [Act.put, List.setIfInBounds_toArray, List.set_cons_zero, List.set_cons_succ]); (try rfl)
      · exact hF.out
      · exact h5.out
      · exact n5.out
    refine AllReady.cons (o := ({ dst := some 24, op := Op.buildSlice 23 8 #[(0, Operand.const (Value.int IntKind.i64 0)), (1, Operand.const (Value.int IntKind.i64 0)), (2, Operand.const (Value.int IntKind.i64 0)), (3, Operand.const (Value.int IntKind.i64 0)), (4, Operand.const (Value.int IntKind.i64 1)), (5, Operand.const (Value.int IntKind.i64 2)), (6, Operand.const (Value.int IntKind.i64 3)), (7, Operand.const (Value.int IntKind.i64 4))], type := 23, pos := "l20_draw.go:191", after := #[{ on := 15, ground := Ground.gcOnly Departure.lateStores }], guard := none } : Oper)) rfl (fun K hK => ?_) ?_
    · go_simp
      refine hK _ _ ?_
      clear hK K
      (try simp only [Act.put, List.setIfInBounds_toArray, List.set_cons_zero, List.set_cons_succ])
      refine wpAny_to (by kernel_rfl) (by kernel_rfl) (HD21.out _ _ ?_)
      apply Exists.intro
      apply Exists.intro
      apply Exists.intro
      refine ⟨?_, ?_, ?_, ?_, ?_, ?_⟩
      · (try simp only [Act.put, List.setIfInBounds_toArray, List.set_cons_zero, List.set_cons_succ]); (try rfl)
      · exact hF.out.alloc _
      · exact h5.out.alloc _
      · exact n5.out
      · exact LitR.new (by intro k hk; rcases (show k = 0 ∨ k = 1 ∨ k = 2 ∨ k = 3 ∨ k = 4 ∨ k = 5 ∨ k = 6 ∨ k = 7 by omega) with rfl | rfl | rfl | rfl | rfl | rfl | rfl | rfl <;> first | exact ⟨0, by decide, rfl⟩ | exact ⟨1, by decide, rfl⟩ | exact ⟨2, by decide, rfl⟩ | exact ⟨3, by decide, rfl⟩ | exact ⟨4, by decide, rfl⟩) hlW
      · exact Nat.ne_of_lt hXw
    refine AllReady.cons (o := ({ dst := some 26, op := Op.call { callee := Callee.value (Operand.func 54), args := #[Operand.tmp 25, Operand.const (Value.int IntKind.i64 8)], argTypes := #[68, 3] }, type := 3, pos := "l20_draw.go:191", after := #[{ on := 7, ground := Ground.data }, { on := 4, ground := Ground.chain }], guard := none } : Oper)) rfl (fun K hK => ?_) ?_
    · go_simp
      refine (pick (B := (1116 + 1)) _ hF.out.rd (by omega)).mono ?_
      rintro e W' ⟨v8, rfl, ⟨x8, rfl, y8, z8⟩, hR', hK'⟩
      obtain ⟨k8, rfl⟩ := Int.eq_ofNat_of_zero_le y8
      have hk8 := Lib.hid (show k8 < 8 by omega)
      first | (refine hK _ _ ?_; clear hK K) | (go_wp2_with fail; (try (refine hK _ _ ?_)); (try clear hK K))
      (try simp only [Act.put, List.setIfInBounds_toArray, List.set_cons_zero, List.set_cons_succ])
      refine wpAny_to (by kernel_rfl) (by kernel_rfl) (HD22.out _ _ ?_)
      apply Exists.intro
      apply Exists.intro
      apply Exists.intro
      refine ⟨?_, ?_, ?_, ?_, ?_⟩
      · (try simp only [Act.put, List.setIfInBounds_toArray, List.set_cons_zero, List.set_cons_succ]); (try rfl)
      · exact hF.out.keep hK' hR'
      · exact h5.out.keep hK'
      · exact n5.out
      · exact hk8.out
    exact AllReady.nil
  refine wpAny_pre 11 #[false, true, true, true, true, false, true, true, false, false, false, false, false, false, false, false, false] (fun act9 W => ∃ q4 : Int, ∃ b6 : Nat, act9 = ((((((A0.put (some 19) (.int .i64 xp)).put (some 20) (.int .i64 xq)).put (some 21) (.pointer (some ⟨rb, 0, none⟩))).put (some 22) (.int .i64 q4)).put (some 24) (.slice (some ⟨b6, 0, none⟩) 8 8)).put (some 25) (.pointer (some ⟨rb, 0, none⟩))) ∧ Hid (MidW w w0.heap.size rb w1.heap.size (1116 + 1) (.agg #[.slice a ram.length c, .slice b rom.length d, .int .i64 bank]) (.slice a ram.length c) (.slice b rom.length d) (.int .i64 bank) (.slice none 0 0) (.slice none 0 0) (.int .i64 0) ram rom bank W) ∧ Hid (LitR rb 8 5 W b6) ∧ Hid (w.heap.size ≠ b6)) ?_ (fun HD26 => ?_)
  · rintro act9 W ⟨q4, b6, rfl, hF, h6, n6⟩
    subst hA0
    have hlW := hF.out.rd.lt
    obtain ⟨x0, x1, x2, xf0, xf1, xf2⟩ := id hF.out.six
    obtain ⟨e0, e1, e2, ef0, ef1, ef2⟩ := id hF.out.box
    have hX1 : w1.heap.size < W.heap.size := block_lt_of_cell x0
    have hXw : w.heap.size < W.heap.size := block_lt_of_cell e0
    (try simp only [Act.put, List.setIfInBounds_toArray, List.set_cons_zero, List.set_cons_succ])
    refine wpAny_ready (rs := [0, 5, 8]) (by kernel_rfl) (by simp) ?_
    refine AllReady.cons (o := ({ dst := some 18, op := Op.load 37 (Operand.tmp 7), type := 37, pos := "l20_draw.go:191", after := #[], guard := none } : Oper)) rfl (fun K hK => ?_) ?_
    · go_simp
      refine hK _ _ ?_
      clear hK K
      (try simp only [Act.put, List.setIfInBounds_toArray, List.set_cons_zero, List.set_cons_succ])
      refine wpAny_to (by kernel_rfl) (by kernel_rfl) (HD19.out _ _ ?_)
      apply Exists.intro
      apply Exists.intro
      refine ⟨?_, ?_, ?_, ?_⟩
      · (try simp only [Act.put, List.setIfInBounds_toArray, List.set_cons_zero, List.set_cons_succ]); (try rfl)
      · exact hF.out
      · exact h6.out
      · exact n6.out
    refine AllReady.cons (o := ({ dst := some 23, op := Op.buildSlice 23 5 #[(0, Operand.tmp 22), (1, Operand.const (Value.int IntKind.i64 256)), (2, Operand.const (Value.int IntKind.i64 257)), (3, Operand.const (Value.int IntKind.i64 (-1))), (4, Operand.const (Value.int IntKind.i64 0))], type := 23, pos := "l20_draw.go:191", after := #[{ on := 4, ground := Ground.data }, { on := 15, ground := Ground.gcOnly Departure.lateStores }], guard := none } : Oper)) rfl (fun K hK => ?_) ?_
    · go_simp
      refine hK _ _ ?_
      clear hK K
      (try simp only [Act.put, List.setIfInBounds_toArray, List.set_cons_zero, List.set_cons_succ])
      refine wpAny_to (by kernel_rfl) (by kernel_rfl) (HD21.out _ _ ?_)
      apply Exists.intro
      apply Exists.intro
      apply Exists.intro
      refine ⟨?_, ?_, ?_, ?_, ?_, ?_⟩
      · (try simp only [Act.put, List.setIfInBounds_toArray, List.set_cons_zero, List.set_cons_succ]); (try rfl)
      · exact hF.out.alloc _
      · exact LitI.new rfl rfl hlW
      · exact Nat.ne_of_lt hXw
      · exact h6.out.alloc _
      · exact n6.out
    refine AllReady.cons (o := ({ dst := some 26, op := Op.call { callee := Callee.value (Operand.func 54), args := #[Operand.tmp 25, Operand.const (Value.int IntKind.i64 8)], argTypes := #[68, 3] }, type := 3, pos := "l20_draw.go:191", after := #[{ on := 7, ground := Ground.data }, { on := 4, ground := Ground.chain }], guard := none } : Oper)) rfl (fun K hK => ?_) ?_
    · go_simp
      refine (pick (B := (1116 + 1)) _ hF.out.rd (by omega)).mono ?_
      rintro e W' ⟨v8, rfl, ⟨x8, rfl, y8, z8⟩, hR', hK'⟩
      obtain ⟨k8, rfl⟩ := Int.eq_ofNat_of_zero_le y8
      have hk8 := Lib.hid (show k8 < 8 by omega)
      first | (refine hK _ _ ?_; clear hK K) | (go_wp2_with fail; (try (refine hK _ _ ?_)); (try clear hK K))
      (try simp only [Act.put, List.setIfInBounds_toArray, List.set_cons_zero, List.set_cons_succ])
      have hk8i : (k8 : Int) < 8 := by have := hk8.out; omega
      refine wpAny_take (i := 9) (oi := ({ dst := some 27, op := Op.indexAddr 23 (Operand.tmp 24) (Operand.tmp 26), type := 0, pos := "l20_draw.go:191", after := #[{ on := 6, ground := Ground.data }, { on := 8, ground := Ground.data }, { on := 15, ground := Ground.gcOnly Departure.lateStores }], guard := none } : Oper)) (v := ?_) rfl (by kernel_rfl) (by kernel_rfl) (by kernel_rfl) (fun _ _ _ h => h) (Or.inl ⟨by rfl, ?_⟩) ?_
      rotate_left
      · intro wq; go_simp; (try with_reducible rfl)
      (try simp only [Act.put, List.setIfInBounds_toArray, List.set_cons_zero, List.set_cons_succ])
      refine wpAny_to (by kernel_rfl) (by kernel_rfl) (HD17.out _ _ ?_)
      apply Exists.intro
      apply Exists.intro
      apply Exists.intro
      refine ⟨?_, ?_, ?_, ?_, ?_⟩
      · (try simp only [Act.put, List.setIfInBounds_toArray, List.set_cons_zero, List.set_cons_succ]); (try rfl)
      · exact hF.out.keep hK' hR'
      · exact h6.out.keep hK'
      · exact n6.out
      · exact hk8.out
    exact AllReady.nil
  refine wpAny_pre 11 #[false, true, true, true, true, false, false, true, true, false, false, false, false, false, false, false, false] (fun act9 W => ∃ q4 : Int, ∃ k8 : Nat, act9 = ((((((A0.put (some 19) (.int .i64 xp)).put (some 20) (.int .i64 xq)).put (some 21) (.pointer (some ⟨rb, 0, none⟩))).put (some 22) (.int .i64 q4)).put (some 25) (.pointer (some ⟨rb, 0, none⟩))).put (some 26) (.int .i64 (k8 : Int))) ∧ Hid (MidW w w0.heap.size rb w1.heap.size (1116 + 2) (.agg #[.slice a ram.length c, .slice b rom.length d, .int .i64 bank]) (.slice a ram.length c) (.slice b rom.length d) (.int .i64 bank) (.slice none 0 0) (.slice none 0 0) (.int .i64 0) ram rom bank W) ∧ Hid (k8 < 8)) ?_ (fun HD27 => ?_)
  · rintro act9 W ⟨q4, k8, rfl, hF, hk8⟩
    subst hA0
    have hlW := hF.out.rd.lt
    obtain ⟨x0, x1, x2, xf0, xf1, xf2⟩ := id hF.out.six
    obtain ⟨e0, e1, e2, ef0, ef1, ef2⟩ := id hF.out.box
    have hX1 : w1.heap.size < W.heap.size := block_lt_of_cell x0
    have hXw : w.heap.size < W.heap.size := block_lt_of_cell e0
    (try simp only [Act.put, List.setIfInBounds_toArray, List.set_cons_zero, List.set_cons_succ])
    refine wpAny_ready (rs := [0, 5, 6]) (by kernel_rfl) (by simp) ?_
    refine AllReady.cons (o := ({ dst := some 18, op := Op.load 37 (Operand.tmp 7), type := 37, pos := "l20_draw.go:191", after := #[], guard := none } : Oper)) rfl (fun K hK => ?_) ?_
    · go_simp
      refine hK _ _ ?_
      clear hK K
      (try simp only [Act.put, List.setIfInBounds_toArray, List.set_cons_zero, List.set_cons_succ])
      refine wpAny_to (by kernel_rfl) (by kernel_rfl) (HD20.out _ _ ?_)
      apply Exists.intro
      apply Exists.intro
      refine ⟨?_, ?_, ?_⟩
      · (try simp only [Act.put, List.setIfInBounds_toArray, List.set_cons_zero, List.set_cons_succ]); (try rfl)
      · exact hF.out
      · exact hk8.out
    refine AllReady.cons (o := ({ dst := some 23, op := Op.buildSlice 23 5 #[(0, Operand.tmp 22), (1, Operand.const (Value.int IntKind.i64 256)), (2, Operand.const (Value.int IntKind.i64 257)), (3, Operand.const (Value.int IntKind.i64 (-1))), (4, Operand.const (Value.int IntKind.i64 0))], type := 23, pos := "l20_draw.go:191", after := #[{ on := 4, ground := Ground.data }, { on := 15, ground := Ground.gcOnly Departure.lateStores }], guard := none } : Oper)) rfl (fun K hK => ?_) ?_
    · go_simp
      refine hK _ _ ?_
      clear hK K
      (try simp only [Act.put, List.setIfInBounds_toArray, List.set_cons_zero, List.set_cons_succ])
      refine wpAny_to (by kernel_rfl) (by kernel_rfl) (HD22.out _ _ ?_)
      apply Exists.intro
      apply Exists.intro
      apply Exists.intro
      refine ⟨?_, ?_, ?_, ?_, ?_⟩
      · (try simp only [Act.put, List.setIfInBounds_toArray, List.set_cons_zero, List.set_cons_succ]); (try rfl)
      · exact hF.out.alloc _
      · exact LitI.new rfl rfl hlW
      · exact Nat.ne_of_lt hXw
      · exact hk8.out
    refine AllReady.cons (o := ({ dst := some 24, op := Op.buildSlice 23 8 #[(0, Operand.const (Value.int IntKind.i64 0)), (1, Operand.const (Value.int IntKind.i64 0)), (2, Operand.const (Value.int IntKind.i64 0)), (3, Operand.const (Value.int IntKind.i64 0)), (4, Operand.const (Value.int IntKind.i64 1)), (5, Operand.const (Value.int IntKind.i64 2)), (6, Operand.const (Value.int IntKind.i64 3)), (7, Operand.const (Value.int IntKind.i64 4))], type := 23, pos := "l20_draw.go:191", after := #[{ on := 15, ground := Ground.gcOnly Departure.lateStores }], guard := none } : Oper)) rfl (fun K hK => ?_) ?_
    · go_simp
      refine hK _ _ ?_
      clear hK K
      (try simp only [Act.put, List.setIfInBounds_toArray, List.set_cons_zero, List.set_cons_succ])
      have hk8i : (k8 : Int) < 8 := by have := hk8.out; omega
      refine wpAny_take (i := 9) (oi := ({ dst := some 27, op := Op.indexAddr 23 (Operand.tmp 24) (Operand.tmp 26), type := 0, pos := "l20_draw.go:191", after := #[{ on := 6, ground := Ground.data }, { on := 8, ground := Ground.data }, { on := 15, ground := Ground.gcOnly Departure.lateStores }], guard := none } : Oper)) (v := ?_) rfl (by kernel_rfl) (by kernel_rfl) (by kernel_rfl) (fun _ _ _ h => h) (Or.inl ⟨by rfl, ?_⟩) ?_
      rotate_left
      · intro wq; go_simp; (try with_reducible rfl)
      (try simp only [Act.put, List.setIfInBounds_toArray, List.set_cons_zero, List.set_cons_succ])
      refine wpAny_to (by kernel_rfl) (by kernel_rfl) (HD17.out _ _ ?_)
      apply Exists.intro
      apply Exists.intro
      apply Exists.intro
      refine ⟨?_, ?_, ?_, ?_, ?_⟩
      · (try simp only [Act.put, List.setIfInBounds_toArray, List.set_cons_zero, List.set_cons_succ]); (try rfl)
      · exact hF.out.alloc _
      · exact LitR.new (by intro k hk; rcases (show k = 0 ∨ k = 1 ∨ k = 2 ∨ k = 3 ∨ k = 4 ∨ k = 5 ∨ k = 6 ∨ k = 7 by omega) with rfl | rfl | rfl | rfl | rfl | rfl | rfl | rfl <;> first | exact ⟨0, by decide, rfl⟩ | exact ⟨1, by decide, rfl⟩ | exact ⟨2, by decide, rfl⟩ | exact ⟨3, by decide, rfl⟩ | exact ⟨4, by decide, rfl⟩) hlW
      · exact Nat.ne_of_lt hXw
      · exact hk8.out
    exact AllReady.nil
  refine wpAny_pre 12 #[true, true, true, true, false, false, false, true, false, false, false, false, false, false, false, false, false] (fun act9 W => act9 = (((((A0.put (some 18) (.agg #[.slice a ram.length c, .slice b rom.length d, .int .i64 bank])).put (some 19) (.int .i64 xp)).put (some 20) (.int .i64 xq)).put (some 21) (.pointer (some ⟨rb, 0, none⟩))).put (some 25) (.pointer (some ⟨rb, 0, none⟩))) ∧ Hid (MidW w w0.heap.size rb w1.heap.size (1116 + 0) (.agg #[.slice a ram.length c, .slice b rom.length d, .int .i64 bank]) (.slice a ram.length c) (.slice b rom.length d) (.int .i64 bank) (.slice none 0 0) (.slice none 0 0) (.int .i64 0) ram rom bank W)) ?_ (fun HD28 => ?_)
  · rintro act9 W ⟨rfl, hF⟩
    subst hA0
    have hlW := hF.out.rd.lt
    obtain ⟨x0, x1, x2, xf0, xf1, xf2⟩ := id hF.out.six
    obtain ⟨e0, e1, e2, ef0, ef1, ef2⟩ := id hF.out.box
    have hX1 : w1.heap.size < W.heap.size := block_lt_of_cell x0
    have hXw : w.heap.size < W.heap.size := block_lt_of_cell e0
    (try simp only [Act.put, List.setIfInBounds_toArray, List.set_cons_zero, List.set_cons_succ])
    refine wpAny_ready (rs := [4, 6]) (by kernel_rfl) (by simp) ?_
    refine AllReady.cons (o := ({ dst := some 22, op := Op.call { callee := Callee.value (Operand.func 54), args := #[Operand.tmp 21, Operand.const (Value.int IntKind.i64 30)], argTypes := #[68, 3] }, type := 3, pos := "l20_draw.go:191", after := #[{ on := 3, ground := Ground.data }], guard := none } : Oper)) rfl (fun K hK => ?_) ?_
    · go_simp
      refine (pick (B := (1116 + 0)) _ hF.out.rd (by omega)).mono ?_
      rintro e W' ⟨v4, rfl, ⟨x4, rfl, y4, z4⟩, hR', hK'⟩
      first | (refine hK _ _ ?_; clear hK K) | (go_wp2_with fail; (try (refine hK _ _ ?_)); (try clear hK K))
      (try simp only [Act.put, List.setIfInBounds_toArray, List.set_cons_zero, List.set_cons_succ])
      refine wpAny_to (by kernel_rfl) (by kernel_rfl) (HD23.out _ _ ?_)
      apply Exists.intro
      refine ⟨?_, ?_⟩
      · (try simp only [Act.put, List.setIfInBounds_toArray, List.set_cons_zero, List.set_cons_succ]); (try rfl)
      · exact hF.out.keep hK' hR'
    refine AllReady.cons (o := ({ dst := some 24, op := Op.buildSlice 23 8 #[(0, Operand.const (Value.int IntKind.i64 0)), (1, Operand.const (Value.int IntKind.i64 0)), (2, Operand.const (Value.int IntKind.i64 0)), (3, Operand.const (Value.int IntKind.i64 0)), (4, Operand.const (Value.int IntKind.i64 1)), (5, Operand.const (Value.int IntKind.i64 2)), (6, Operand.const (Value.int IntKind.i64 3)), (7, Operand.const (Value.int IntKind.i64 4))], type := 23, pos := "l20_draw.go:191", after := #[{ on := 15, ground := Ground.gcOnly Departure.lateStores }], guard := none } : Oper)) rfl (fun K hK => ?_) ?_
    · go_simp
      refine hK _ _ ?_
      clear hK K
      (try simp only [Act.put, List.setIfInBounds_toArray, List.set_cons_zero, List.set_cons_succ])
      refine wpAny_to (by kernel_rfl) (by kernel_rfl) (HD24.out _ _ ?_)
      apply Exists.intro
      refine ⟨?_, ?_, ?_, ?_⟩
      · (try simp only [Act.put, List.setIfInBounds_toArray, List.set_cons_zero, List.set_cons_succ]); (try rfl)
      · exact hF.out.alloc _
      · exact LitR.new (by intro k hk; rcases (show k = 0 ∨ k = 1 ∨ k = 2 ∨ k = 3 ∨ k = 4 ∨ k = 5 ∨ k = 6 ∨ k = 7 by omega) with rfl | rfl | rfl | rfl | rfl | rfl | rfl | rfl <;> first | exact ⟨0, by decide, rfl⟩ | exact ⟨1, by decide, rfl⟩ | exact ⟨2, by decide, rfl⟩ | exact ⟨3, by decide, rfl⟩ | exact ⟨4, by decide, rfl⟩) hlW
      · exact Nat.ne_of_lt hXw
    exact AllReady.nil
  refine wpAny_pre 12 #[false, true, true, true, true, false, false, true, false, false, false, false, false, false, false, false, false] (fun act9 W => ∃ q4 : Int, act9 = (((((A0.put (some 19) (.int .i64 xp)).put (some 20) (.int .i64 xq)).put (some 21) (.pointer (some ⟨rb, 0, none⟩))).put (some 22) (.int .i64 q4)).put (some 25) (.pointer (some ⟨rb, 0, none⟩))) ∧ Hid (MidW w w0.heap.size rb w1.heap.size (1116 + 1) (.agg #[.slice a ram.length c, .slice b rom.length d, .int .i64 bank]) (.slice a ram.length c) (.slice b rom.length d) (.int .i64 bank) (.slice none 0 0) (.slice none 0 0) (.int .i64 0) ram rom bank W)) ?_ (fun HD29 => ?_)
  · rintro act9 W ⟨q4, rfl, hF⟩
    subst hA0
    have hlW := hF.out.rd.lt
    obtain ⟨x0, x1, x2, xf0, xf1, xf2⟩ := id hF.out.six
    obtain ⟨e0, e1, e2, ef0, ef1, ef2⟩ := id hF.out.box
    have hX1 : w1.heap.size < W.heap.size := block_lt_of_cell x0
    have hXw : w.heap.size < W.heap.size := block_lt_of_cell e0
    (try simp only [Act.put, List.setIfInBounds_toArray, List.set_cons_zero, List.set_cons_succ])
    refine wpAny_ready (rs := [0, 5, 6, 8]) (by kernel_rfl) (by simp) ?_
    refine AllReady.cons (o := ({ dst := some 18, op := Op.load 37 (Operand.tmp 7), type := 37, pos := "l20_draw.go:191", after := #[], guard := none } : Oper)) rfl (fun K hK => ?_) ?_
    · go_simp
      refine hK _ _ ?_
      clear hK K
      (try simp only [Act.put, List.setIfInBounds_toArray, List.set_cons_zero, List.set_cons_succ])
      refine wpAny_to (by kernel_rfl) (by kernel_rfl) (HD23.out _ _ ?_)
      apply Exists.intro
      refine ⟨?_, ?_⟩
      · (try simp only [Act.put, List.setIfInBounds_toArray, List.set_cons_zero, List.set_cons_succ]); (try rfl)
      · exact hF.out
    refine AllReady.cons (o := ({ dst := some 23, op := Op.buildSlice 23 5 #[(0, Operand.tmp 22), (1, Operand.const (Value.int IntKind.i64 256)), (2, Operand.const (Value.int IntKind.i64 257)), (3, Operand.const (Value.int IntKind.i64 (-1))), (4, Operand.const (Value.int IntKind.i64 0))], type := 23, pos := "l20_draw.go:191", after := #[{ on := 4, ground := Ground.data }, { on := 15, ground := Ground.gcOnly Departure.lateStores }], guard := none } : Oper)) rfl (fun K hK => ?_) ?_
    · go_simp
      refine hK _ _ ?_
      clear hK K
      (try simp only [Act.put, List.setIfInBounds_toArray, List.set_cons_zero, List.set_cons_succ])
      refine wpAny_to (by kernel_rfl) (by kernel_rfl) (HD25.out _ _ ?_)
      apply Exists.intro
      apply Exists.intro
      refine ⟨?_, ?_, ?_, ?_⟩
      · (try simp only [Act.put, List.setIfInBounds_toArray, List.set_cons_zero, List.set_cons_succ]); (try rfl)
      · exact hF.out.alloc _
      · exact LitI.new rfl rfl hlW
      · exact Nat.ne_of_lt hXw
    refine AllReady.cons (o := ({ dst := some 24, op := Op.buildSlice 23 8 #[(0, Operand.const (Value.int IntKind.i64 0)), (1, Operand.const (Value.int IntKind.i64 0)), (2, Operand.const (Value.int IntKind.i64 0)), (3, Operand.const (Value.int IntKind.i64 0)), (4, Operand.const (Value.int IntKind.i64 1)), (5, Operand.const (Value.int IntKind.i64 2)), (6, Operand.const (Value.int IntKind.i64 3)), (7, Operand.const (Value.int IntKind.i64 4))], type := 23, pos := "l20_draw.go:191", after := #[{ on := 15, ground := Ground.gcOnly Departure.lateStores }], guard := none } : Oper)) rfl (fun K hK => ?_) ?_
    · go_simp
      refine hK _ _ ?_
      clear hK K
      (try simp only [Act.put, List.setIfInBounds_toArray, List.set_cons_zero, List.set_cons_succ])
      refine wpAny_to (by kernel_rfl) (by kernel_rfl) (HD26.out _ _ ?_)
      apply Exists.intro
      apply Exists.intro
      refine ⟨?_, ?_, ?_, ?_⟩
      · (try simp only [Act.put, List.setIfInBounds_toArray, List.set_cons_zero, List.set_cons_succ]); (try rfl)
      · exact hF.out.alloc _
      · exact LitR.new (by intro k hk; rcases (show k = 0 ∨ k = 1 ∨ k = 2 ∨ k = 3 ∨ k = 4 ∨ k = 5 ∨ k = 6 ∨ k = 7 by omega) with rfl | rfl | rfl | rfl | rfl | rfl | rfl | rfl <;> first | exact ⟨0, by decide, rfl⟩ | exact ⟨1, by decide, rfl⟩ | exact ⟨2, by decide, rfl⟩ | exact ⟨3, by decide, rfl⟩ | exact ⟨4, by decide, rfl⟩) hlW
      · exact Nat.ne_of_lt hXw
    refine AllReady.cons (o := ({ dst := some 26, op := Op.call { callee := Callee.value (Operand.func 54), args := #[Operand.tmp 25, Operand.const (Value.int IntKind.i64 8)], argTypes := #[68, 3] }, type := 3, pos := "l20_draw.go:191", after := #[{ on := 7, ground := Ground.data }, { on := 4, ground := Ground.chain }], guard := none } : Oper)) rfl (fun K hK => ?_) ?_
    · go_simp
      refine (pick (B := (1116 + 1)) _ hF.out.rd (by omega)).mono ?_
      rintro e W' ⟨v8, rfl, ⟨x8, rfl, y8, z8⟩, hR', hK'⟩
      obtain ⟨k8, rfl⟩ := Int.eq_ofNat_of_zero_le y8
      have hk8 := Lib.hid (show k8 < 8 by omega)
      first | (refine hK _ _ ?_; clear hK K) | (go_wp2_with fail; (try (refine hK _ _ ?_)); (try clear hK K))
      (try simp only [Act.put, List.setIfInBounds_toArray, List.set_cons_zero, List.set_cons_succ])
      refine wpAny_to (by kernel_rfl) (by kernel_rfl) (HD27.out _ _ ?_)
      apply Exists.intro
      apply Exists.intro
      refine ⟨?_, ?_, ?_⟩
      · (try simp only [Act.put, List.setIfInBounds_toArray, List.set_cons_zero, List.set_cons_succ]); (try rfl)
      · exact hF.out.keep hK' hR'
      · exact hk8.out
    exact AllReady.nil
  refine wpAny_pre 12 #[false, true, true, true, false, false, true, true, false, false, false, false, false, false, false, false, false] (fun act9 W => ∃ b6 : Nat, act9 = (((((A0.put (some 19) (.int .i64 xp)).put (some 20) (.int .i64 xq)).put (some 21) (.pointer (some ⟨rb, 0, none⟩))).put (some 24) (.slice (some ⟨b6, 0, none⟩) 8 8)).put (some 25) (.pointer (some ⟨rb, 0, none⟩))) ∧ Hid (MidW w w0.heap.size rb w1.heap.size (1116 + 0) (.agg #[.slice a ram.length c, .slice b rom.length d, .int .i64 bank]) (.slice a ram.length c) (.slice b rom.length d) (.int .i64 bank) (.slice none 0 0) (.slice none 0 0) (.int .i64 0) ram rom bank W) ∧ Hid (LitR rb 8 5 W b6) ∧ Hid (w.heap.size ≠ b6)) ?_ (fun HD30 => ?_)
  · rintro act9 W ⟨b6, rfl, hF, h6, n6⟩
    subst hA0
    have hlW := hF.out.rd.lt
    obtain ⟨x0, x1, x2, xf0, xf1, xf2⟩ := id hF.out.six
    obtain ⟨e0, e1, e2, ef0, ef1, ef2⟩ := id hF.out.box
    have hX1 : w1.heap.size < W.heap.size := block_lt_of_cell x0
    have hXw : w.heap.size < W.heap.size := block_lt_of_cell e0
    (try simp only [Act.put, List.setIfInBounds_toArray, List.set_cons_zero, List.set_cons_succ])
    refine wpAny_ready (rs := [0, 4]) (by kernel_rfl) (by simp) ?_
    refine AllReady.cons (o := ({ dst := some 18, op := Op.load 37 (Operand.tmp 7), type := 37, pos := "l20_draw.go:191", after := #[], guard := none } : Oper)) rfl (fun K hK => ?_) ?_
    · go_simp
      refine hK _ _ ?_
      clear hK K
      (try simp only [Act.put, List.setIfInBounds_toArray, List.set_cons_zero, List.set_cons_succ])
      refine wpAny_to (by kernel_rfl) (by kernel_rfl) (HD24.out _ _ ?_)
      apply Exists.intro
      refine ⟨?_, ?_, ?_, ?_⟩
      · (try simp only [Act.put, List.setIfInBounds_toArray, List.set_cons_zero, List.set_cons_succ]); (try rfl)
      · exact hF.out
      · exact h6.out
      · exact n6.out
    refine AllReady.cons (o := ({ dst := some 22, op := Op.call { callee := Callee.value (Operand.func 54), args := #[Operand.tmp 21, Operand.const (Value.int IntKind.i64 30)], argTypes := #[68, 3] }, type := 3, pos := "l20_draw.go:191", after := #[{ on := 3, ground := Ground.data }], guard := none } : Oper)) rfl (fun K hK => ?_) ?_
    · go_simp
      refine (pick (B := (1116 + 0)) _ hF.out.rd (by omega)).mono ?_
      rintro e W' ⟨v4, rfl, ⟨x4, rfl, y4, z4⟩, hR', hK'⟩
      first | (refine hK _ _ ?_; clear hK K) | (go_wp2_with fail; (try (refine hK _ _ ?_)); (try clear hK K))
      (try simp only [Act.put, List.setIfInBounds_toArray, List.set_cons_zero, List.set_cons_succ])
      refine wpAny_to (by kernel_rfl) (by kernel_rfl) (HD26.out _ _ ?_)
      apply Exists.intro
      apply Exists.intro
      refine ⟨?_, ?_, ?_, ?_⟩
      · (try simp only [Act.put, List.setIfInBounds_toArray, List.set_cons_zero, List.set_cons_succ]); (try rfl)
      · exact hF.out.keep hK' hR'
      · exact h6.out.keep hK'
      · exact n6.out
    exact AllReady.nil
  refine wpAny_pre 13 #[false, true, true, true, false, false, false, true, false, false, false, false, false, false, false, false, false] (fun act9 W => act9 = ((((A0.put (some 19) (.int .i64 xp)).put (some 20) (.int .i64 xq)).put (some 21) (.pointer (some ⟨rb, 0, none⟩))).put (some 25) (.pointer (some ⟨rb, 0, none⟩))) ∧ Hid (MidW w w0.heap.size rb w1.heap.size (1116 + 0) (.agg #[.slice a ram.length c, .slice b rom.length d, .int .i64 bank]) (.slice a ram.length c) (.slice b rom.length d) (.int .i64 bank) (.slice none 0 0) (.slice none 0 0) (.int .i64 0) ram rom bank W)) ?_ (fun HD31 => ?_)
  · rintro act9 W ⟨rfl, hF⟩
    subst hA0
    have hlW := hF.out.rd.lt
    obtain ⟨x0, x1, x2, xf0, xf1, xf2⟩ := id hF.out.six
    obtain ⟨e0, e1, e2, ef0, ef1, ef2⟩ := id hF.out.box
    have hX1 : w1.heap.size < W.heap.size := block_lt_of_cell x0
    have hXw : w.heap.size < W.heap.size := block_lt_of_cell e0
    (try simp only [Act.put, List.setIfInBounds_toArray, List.set_cons_zero, List.set_cons_succ])
    refine wpAny_ready (rs := [0, 4, 6]) (by kernel_rfl) (by simp) ?_
    refine AllReady.cons (o := ({ dst := some 18, op := Op.load 37 (Operand.tmp 7), type := 37, pos := "l20_draw.go:191", after := #[], guard := none } : Oper)) rfl (fun K hK => ?_) ?_
    · go_simp
      refine hK _ _ ?_
      clear hK K
      (try simp only [Act.put, List.setIfInBounds_toArray, List.set_cons_zero, List.set_cons_succ])
      refine wpAny_to (by kernel_rfl) (by kernel_rfl) (HD28.out _ _ ?_)
      refine ⟨?_, ?_⟩
      · (try simp only [Act.put, List.setIfInBounds_toArray, List.set_cons_zero, List.set_cons_succ]); (try rfl)
      · exact hF.out
    refine AllReady.cons (o := ({ dst := some 22, op := Op.call { callee := Callee.value (Operand.func 54), args := #[Operand.tmp 21, Operand.const (Value.int IntKind.i64 30)], argTypes := #[68, 3] }, type := 3, pos := "l20_draw.go:191", after := #[{ on := 3, ground := Ground.data }], guard := none } : Oper)) rfl (fun K hK => ?_) ?_
    · go_simp
      refine (pick (B := (1116 + 0)) _ hF.out.rd (by omega)).mono ?_
      rintro e W' ⟨v4, rfl, ⟨x4, rfl, y4, z4⟩, hR', hK'⟩
      first | (refine hK _ _ ?_; clear hK K) | (go_wp2_with fail; (try (refine hK _ _ ?_)); (try clear hK K))
      (try simp only [Act.put, List.setIfInBounds_toArray, List.set_cons_zero, List.set_cons_succ])
      refine wpAny_to (by kernel_rfl) (by kernel_rfl) (HD29.out _ _ ?_)
      apply Exists.intro
      refine ⟨?_, ?_⟩
      · (try simp only [Act.put, List.setIfInBounds_toArray, List.set_cons_zero, List.set_cons_succ]); (try rfl)
      · exact hF.out.keep hK' hR'
    refine AllReady.cons (o := ({ dst := some 24, op := Op.buildSlice 23 8 #[(0, Operand.const (Value.int IntKind.i64 0)), (1, Operand.const (Value.int IntKind.i64 0)), (2, Operand.const (Value.int IntKind.i64 0)), (3, Operand.const (Value.int IntKind.i64 0)), (4, Operand.const (Value.int IntKind.i64 1)), (5, Operand.const (Value.int IntKind.i64 2)), (6, Operand.const (Value.int IntKind.i64 3)), (7, Operand.const (Value.int IntKind.i64 4))], type := 23, pos := "l20_draw.go:191", after := #[{ on := 15, ground := Ground.gcOnly Departure.lateStores }], guard := none } : Oper)) rfl (fun K hK => ?_) ?_
    · go_simp
      refine hK _ _ ?_
      clear hK K
      (try simp only [Act.put, List.setIfInBounds_toArray, List.set_cons_zero, List.set_cons_succ])
      refine wpAny_to (by kernel_rfl) (by kernel_rfl) (HD30.out _ _ ?_)
      apply Exists.intro
      refine ⟨?_, ?_, ?_, ?_⟩
      · (try simp only [Act.put, List.setIfInBounds_toArray, List.set_cons_zero, List.set_cons_succ]); (try rfl)
      · exact hF.out.alloc _
      · exact LitR.new (by intro k hk; rcases (show k = 0 ∨ k = 1 ∨ k = 2 ∨ k = 3 ∨ k = 4 ∨ k = 5 ∨ k = 6 ∨ k = 7 by omega) with rfl | rfl | rfl | rfl | rfl | rfl | rfl | rfl <;> first | exact ⟨0, by decide, rfl⟩ | exact ⟨1, by decide, rfl⟩ | exact ⟨2, by decide, rfl⟩ | exact ⟨3, by decide, rfl⟩ | exact ⟨4, by decide, rfl⟩) hlW
      · exact Nat.ne_of_lt hXw
    exact AllReady.nil
  subst hA0
  refine wpAny_take (i := 1) (oi := ({ dst := some 19, op := Op.move (Operand.tmp 8), type := 3, pos := "l20_draw.go:191", after := #[{ on := 13, ground := Ground.gcOnly Departure.lateStores }], guard := none } : Oper)) (v := ?_) rfl (by kernel_rfl) (by kernel_rfl) (by kernel_rfl) (fun _ _ _ h => h) (Or.inl ⟨by rfl, ?_⟩) ?_
  rotate_left
  · intro wq; go_simp; (try with_reducible rfl)
  (try simp only [Act.put, List.setIfInBounds_toArray, List.set_cons_zero, List.set_cons_succ])
  refine wpAny_take (i := 2) (oi := ({ dst := some 20, op := Op.move (Operand.tmp 9), type := 3, pos := "l20_draw.go:191", after := #[{ on := 14, ground := Ground.gcOnly Departure.lateStores }], guard := none } : Oper)) (v := ?_) rfl (by kernel_rfl) (by kernel_rfl) (by kernel_rfl) (fun _ _ _ h => h) (Or.inl ⟨by rfl, ?_⟩) ?_
  rotate_left
  · intro wq; go_simp; (try with_reducible rfl)
  (try simp only [Act.put, List.setIfInBounds_toArray, List.set_cons_zero, List.set_cons_succ])
  refine wpAny_take (i := 3) (oi := ({ dst := some 21, op := Op.move (Operand.tmp 6), type := 68, pos := "l20_draw.go:191", after := #[], guard := none } : Oper)) (v := ?_) rfl (by kernel_rfl) (by kernel_rfl) (by kernel_rfl) (fun _ _ _ h => h) (Or.inl ⟨by rfl, ?_⟩) ?_
  rotate_left
  · intro wq; go_simp; (try with_reducible rfl)
  (try simp only [Act.put, List.setIfInBounds_toArray, List.set_cons_zero, List.set_cons_succ])
  refine wpAny_take (i := 7) (oi := ({ dst := some 25, op := Op.move (Operand.tmp 6), type := 68, pos := "l20_draw.go:191", after := #[], guard := none } : Oper)) (v := ?_) rfl (by kernel_rfl) (by kernel_rfl) (by kernel_rfl) (fun _ _ _ h => h) (Or.inl ⟨by rfl, ?_⟩) ?_
  rotate_left
  · intro wq; go_simp; (try with_reducible rfl)
  (try simp only [Act.put, List.setIfInBounds_toArray, List.set_cons_zero, List.set_cons_succ])
  refine wpAny_to (by kernel_rfl) (by kernel_rfl) (HD31.out _ _ ?_)
  refine ⟨?_, hMF⟩
  (try simp only [Act.put, List.setIfInBounds_toArray, List.set_cons_zero, List.set_cons_succ]); (try rfl)
end Go.Proofs.Ytkkgolgmhckgoaa
