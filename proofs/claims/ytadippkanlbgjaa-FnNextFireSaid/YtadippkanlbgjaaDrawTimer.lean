/- The drawn timers: whatever the code, the draw returns a timer and changes nothing that was there. No condition. -/
import Derived.Test.YtadippkanlbgjaaDrawByte
import Derived.Deep.DeepCutAuto
namespace Go.Proofs.Ytadippkanlbgjaa
open Go.RowKit

def AnyTimer (v : Value) : Prop := ∃ a b c : Int, v = .agg #[.int .i64 a, .int .i64 b, .int .i64 c] ∧ c ≤ 8
theorem Reader.drew {w : World} {rb B : Nat} (h : Reader w rb B) : Reader w.drew rb B := by
  obtain ⟨a, len, cap, zs, p, hp, c0, c1, fz, l2, code, bytes⟩ := h
  exact ⟨a, len, cap, zs, p, hp, c0, c1, fz, l2, code, bytes⟩
theorem Keep.drew1 {rb : Nat} {a w : World} (h : Keep rb a w) : Keep rb a w.drew := h.drew
/-- A box of three integers of the call's own, behind the reader's block. -/
structure Tb (w : World) (rb O : Nat) (a b c : Int) : Prop where
  c0 : w.cell? ⟨O, 0, none⟩ = some (.int .i64 a)
  c1 : w.cell? ⟨O, 1, none⟩ = some (.int .i64 b)
  c2 : w.cell? ⟨O, 2, none⟩ = some (.int .i64 c)
  f0 : w.frozen? ⟨O, 0, none⟩ = false
  f1 : w.frozen? ⟨O, 1, none⟩ = false
  f2 : w.frozen? ⟨O, 2, none⟩ = false
  lt : rb < O
section
variable {w w' : World} {rb O : Nat} {a b c : Int}
theorem Tb.size (h : Tb w rb O a b c) : O < w.heap.size := block_lt_of_cell h.c0
theorem Tb.keep (h : Tb w rb O a b c) (hK : Keep rb w w') : Tb w' rb O a b c := by
  have hs := h.size
  have hn : O ≠ rb := by have := h.lt; omega
  exact ⟨(hK.cells.1 _ _ hs hn).trans h.c0, (hK.cells.1 _ _ hs hn).trans h.c1, (hK.cells.1 _ _ hs hn).trans h.c2, (hK.cells.2 _ _ hs hn).trans h.f0, (hK.cells.2 _ _ hs hn).trans h.f1, (hK.cells.2 _ _ hs hn).trans h.f2, h.lt⟩
theorem Tb.alloc (h : Tb w rb O a b c) (o : Obj) : Tb (w.alloc o) rb O a b c := h.keep ((Keep.refl _ _).alloc o)
theorem Tb.drew (h : Tb w rb O a b c) : Tb w.drew rb O a b c := h.keep (Keep.refl _ _).drew
theorem Tb.new (a b c : Int) (t : TypeId) (h : rb < w.heap.size) : Tb (w.alloc (.cells #[.int .i64 a, .int .i64 b, .int .i64 c] t)) rb w.heap.size a b c :=
  ⟨by simp [go_sem], by simp [go_sem], by simp [go_sem], by simp [go_sem], by simp [go_sem], by simp [go_sem], h⟩
theorem Tb.new' {t : TypeId} (he : O = w.heap.size) (h : rb < w.heap.size) : Tb (w.alloc (.cells #[.int .i64 a, .int .i64 b, .int .i64 c] t)) rb O a b c := by
  subst he; exact Tb.new a b c t h
theorem Tb.other (h : Tb w rb O a b c) {O' i : Nat} (hn : O' ≠ O) (v : Value) : Tb (w.setCell ⟨O', i, none⟩ v) rb O a b c := by
  have e : ∀ o, (w.setCell ⟨O', i, none⟩ v).cell? ⟨O, o, none⟩ = w.cell? ⟨O, o, none⟩ := fun o => World.cell?_setCell_other _ _ _ _ (by intro e; injection e with e1; exact hn e1)
  have g0 := h.f0
  have g1 := h.f1
  have g2 := h.f2
  exact ⟨(e 0).trans h.c0, (e 1).trans h.c1, (e 2).trans h.c2, by simpa [go_sem] using g0, by simpa [go_sem] using g1, by simpa [go_sem] using g2, h.lt⟩
theorem Tb.set0 (h : Tb w rb O a b c) (x : Int) : Tb (w.setCell ⟨O, 0, none⟩ (.int .i64 x)) rb O x b c := by
  have g0 := h.f0
  have g1 := h.f1
  have g2 := h.f2
  exact ⟨World.cell?_setCell_same _ _ _ h.c0, (World.cell?_setCell_other _ _ _ _ (by simp)).trans h.c1, (World.cell?_setCell_other _ _ _ _ (by simp)).trans h.c2, by simpa [go_sem] using g0, by simpa [go_sem] using g1, by simpa [go_sem] using g2, h.lt⟩
end
theorem Tb.set3 {w : World} {rb O : Nat} {x y z a b c : Int} (h : Tb w rb O x y z) : Tb (((w.setCell ⟨O, 0, none⟩ (.int .i64 a)).setCell ⟨O, 1, none⟩ (.int .i64 b)).setCell ⟨O, 2, none⟩ (.int .i64 c)) rb O a b c := by
  have g0 := h.f0
  have g1 := h.f1
  have g2 := h.f2
  have hb := h.size
  refine ⟨?_, ?_, ?_, by simpa [go_sem] using g0, by simpa [go_sem] using g1, by simpa [go_sem] using g2, h.lt⟩
  · exact (World.cell?_setCell_other _ _ _ _ (by simp)).trans ((World.cell?_setCell_other _ _ _ _ (by simp)).trans (World.cell?_setCell_same _ _ _ h.c0))
  · exact (World.cell?_setCell_other _ _ _ _ (by simp)).trans (World.cell?_setCell_same _ _ _ ((World.cell?_setCell_other _ _ _ _ (by simp)).trans h.c1))
  · exact World.cell?_setCell_same _ _ _ ((World.cell?_setCell_other _ _ _ _ (by simp)).trans ((World.cell?_setCell_other _ _ _ _ (by simp)).trans h.c2))
theorem Keep.tb {rb : Nat} {w w' : World} {R : Nat} (hK : Keep rb (w.alloc (.cells #[.int .i64 0, .int .i64 0, .int .i64 0] R)) w') (h : rb < w.heap.size) : Tb w' rb w.heap.size 0 0 0 := (Tb.new 0 0 0 R h).keep hK
theorem keep_via {rb : Nat} {w X w' : World} (hK : Keep rb X w') (h : Keep rb w X) : Keep rb w w' := h.trans hK
theorem list_pick {l : List Value} (h : l.all isI64 = true) {k : Nat} (hk : k < l.length) : ∃ m : Int, l[k] = .int .i64 m := by
  have := List.all_eq_true.1 h l[k] (List.getElem_mem hk)
  cases hv : l[k] with
  | int kd m => cases kd <;> simp [isI64, hv] at this; exact ⟨m, rfl⟩
  | _ => simp [isI64, hv] at this
set_option maxHeartbeats 4000000 in
theorem l20Timer {rb B : Nat} {w0 : World} (n : Int) (hR0' : Reader w0 rb B) (hB : B ≤ 100000) :
    Calls Try.prog 67 #[.pointer (some ⟨rb, 0, none⟩), .int .i64 n] w0 (Picks rb (B + 12) w0 AnyTimer) := by
  have hlt := hR0'.lt
  have hR0 := hR0'.alloc (.cells #[.int .i64 0, .int .i64 0, .int .i64 0] 24)
  go_enter Try.func67, Try.ntmps67
  go_upto_region 1 with fail
  go_cut [5] (fun s5 wx => ∃ (O : Nat) (x y z : Int), s5 = .pointer (some ⟨O, 0, none⟩) ∧ Tb wx rb O x y z ∧ z ≤ 8 ∧ w0.heap.size < O ∧ Reader wx rb (B + 1 + 1 + 1) ∧ Keep rb (w0.alloc (.cells #[.int .i64 0, .int .i64 0, .int .i64 0] 24)) wx)
  case first =>
    have n0 : w0.heap.size ≠ rb := by omega
    have n0' : w0.heap.size + 1 ≠ rb := by omega
    go_region_with (first
      | (go_at_call_of 75 (Value.int IntKind.i64 40); refine (pick (B := B) _ ?_ (by omega)).mono ?_; (repeat (first | assumption | refine Reader.drew ?_ | refine Reader.alloc ?_ _)); rintro e w1 ⟨v, rfl, ⟨x1, rfl, y1, z1⟩, hR1, hK1⟩; obtain ⟨hc1, hf1⟩ := hK1.cells; (have hz1 := hK1.size); (try simp only [World.size_alloc, World.size_drew] at hz1); (have l1 := hR1.lt); (try (rcases Nat.lt_or_ge (w0.heap.size) (w1.heap.size) with q1_0 | q1_0; rotate_left; (exfalso; omega))); (try (rcases Nat.lt_or_ge (w1.heap.size) (w0.heap.size) with r1_0 | r1_0; (exfalso; omega))); (try (rcases Nat.lt_or_ge (w0.heap.size + 1) (w1.heap.size) with t1_0 | t1_0; rotate_left; (exfalso; omega))); (have n1 : w1.heap.size ≠ rb := by omega); (have n1' : w1.heap.size + 1 ≠ rb := by omega))
      | (go_at_call_of 75 (Value.int IntKind.i64 4); refine (pick (B := B + 1) _ ?_ (by omega)).mono ?_; (repeat (first | assumption | refine Reader.alloc ?_ _)); rintro e w2 ⟨v, rfl, ⟨x2, rfl, y2, z2⟩, hR2, hK2⟩; obtain ⟨hc2, hf2⟩ := hK2.cells; (have hz2 := hK2.size); (try simp only [World.size_alloc] at hz2); (have l2 := hR2.lt); (try (rcases Nat.lt_or_ge (w0.heap.size) (w2.heap.size) with q2_0 | q2_0; rotate_left; (exfalso; omega))); (try (rcases Nat.lt_or_ge (w2.heap.size) (w0.heap.size) with r2_0 | r2_0; (exfalso; omega))); (try (rcases Nat.lt_or_ge (w0.heap.size + 1) (w2.heap.size) with t2_0 | t2_0; rotate_left; (exfalso; omega))); (try (rcases Nat.lt_or_ge (w1.heap.size) (w2.heap.size) with q2_1 | q2_1; rotate_left; (exfalso; omega))); (try (rcases Nat.lt_or_ge (w2.heap.size) (w1.heap.size) with r2_1 | r2_1; (exfalso; omega))); (try (rcases Nat.lt_or_ge (w1.heap.size + 1) (w2.heap.size) with t2_1 | t2_1; rotate_left; (exfalso; omega))); (have n2 : w2.heap.size ≠ rb := by omega); (have n2' : w2.heap.size + 1 ≠ rb := by omega); obtain ⟨k, rfl⟩ := Int.eq_ofNat_of_zero_le y2; (have hk : k < 4 := by omega); (have hk' : (k : Int) < 4 := by omega); obtain ⟨m, hm⟩ := list_pick (l := [.int .i64 0, .int .i64 1, .int .i64 x1, .int .i64 1000]) rfl (k := k) hk)
      | (go_at_call_of 75 (Value.int IntKind.i64 9); refine (pick (B := B + 1 + 1) _ ?_ (by omega)).mono ?_; (repeat (first | assumption | refine Reader.alloc ?_ _)); rintro e w3 ⟨v, rfl, ⟨x3, rfl, y3, z3⟩, hR3, hK3⟩; obtain ⟨hc3, hf3⟩ := hK3.cells; (have hz3 := hK3.size); (try simp only [World.size_alloc] at hz3); (have l3 := hR3.lt); (try (rcases Nat.lt_or_ge (w0.heap.size) (w3.heap.size) with q3_0 | q3_0; rotate_left; (exfalso; omega))); (try (rcases Nat.lt_or_ge (w3.heap.size) (w0.heap.size) with r3_0 | r3_0; (exfalso; omega))); (try (rcases Nat.lt_or_ge (w0.heap.size + 1) (w3.heap.size) with t3_0 | t3_0; rotate_left; (exfalso; omega))); (try (rcases Nat.lt_or_ge (w1.heap.size) (w3.heap.size) with q3_1 | q3_1; rotate_left; (exfalso; omega))); (try (rcases Nat.lt_or_ge (w3.heap.size) (w1.heap.size) with r3_1 | r3_1; (exfalso; omega))); (try (rcases Nat.lt_or_ge (w1.heap.size + 1) (w3.heap.size) with t3_1 | t3_1; rotate_left; (exfalso; omega))); (try (rcases Nat.lt_or_ge (w2.heap.size) (w3.heap.size) with q3_2 | q3_2; rotate_left; (exfalso; omega))); (try (rcases Nat.lt_or_ge (w3.heap.size) (w2.heap.size) with r3_2 | r3_2; (exfalso; omega))); (try (rcases Nat.lt_or_ge (w2.heap.size + 1) (w3.heap.size) with t3_2 | t3_2; rotate_left; (exfalso; omega))))
      )
    all_goals
      go_wp2_with fail
      go_meet
      refine ⟨_, 0, m, x3, rfl, ?_, by omega, by omega, ?_, ?_⟩
      · repeat (first | with_reducible exact Tb.new' (by first | rfl | (simp; done)) (by first | omega | (simp; omega)) | with_reducible refine Tb.set3 (x := 0) (y := 0) (z := 0) ?_ | with_reducible refine Tb.keep ?_ hK3 | with_reducible refine Tb.keep ?_ hK2 | with_reducible refine Tb.keep ?_ hK1 | with_reducible refine Tb.alloc ?_ _ | with_reducible refine Tb.drew ?_)
      · repeat (first | assumption | (with_reducible refine Reader.setNew ?_ (by first | omega | (simp; done) | (simp; omega)) _) | with_reducible refine Reader.alloc ?_ _ | with_reducible refine Reader.drew ?_)
      · repeat (first | with_reducible exact Keep.refl _ _ | with_reducible refine keep_via hK3 ?_ | with_reducible refine keep_via hK2 ?_ | with_reducible refine keep_via hK1 ?_ | with_reducible refine Keep.setNew ?_ (by first | omega | (simp; done) | (simp; omega)) _ | with_reducible refine Keep.alloc ?_ _ | with_reducible refine Keep.drew ?_)
  case rest =>
    obtain ⟨O, xa, xb, xc, rfl, hT, h8, hO, hR3, hK3⟩ := hcut
    have hTR : Tb wc rb w0.heap.size 0 0 0 := hK3.tb hlt
    have hK3' : Keep rb w0 wc := ((Keep.refl _ _).alloc _).trans hK3
    have hOl := hT.size
    have hOrb := hT.lt
    have hRl := hTR.size
    obtain ⟨p0, p1, p2, pf0, pf1, pf2, _⟩ := id hT
    clear hR0 hR0' hK3
    go_upto_region 2 with fail
    go_cut [5] (fun s5 wx => ∃ (x : Int), s5 = .pointer (some ⟨O, 0, none⟩) ∧ Tb wx rb O x xb xc ∧ Tb wx rb w0.heap.size 0 0 0 ∧ Reader wx rb (B + 5) ∧ Keep rb w0 wx)
    case first =>
      go_region_with (first
        | (go_at_call_of 75 (Value.int IntKind.i64 40); refine (pick (B := B + 1 + 1 + 1) _ ?_ (by omega)).mono ?_; (repeat (first | assumption | refine Reader.drew ?_ | refine Reader.alloc ?_ _)); rintro e w4 ⟨v, rfl, ⟨x4, rfl, y4, z4⟩, hR4, hK4⟩; (have hT4 := hT.keep (keep_via hK4 (Keep.refl _ _).drew)); (have hS4 := hTR.keep (keep_via hK4 (Keep.refl _ _).drew)); (have hl4 := hT4.size); (have hr4 := hR4.lt); obtain ⟨q0, q1, q2, qf0, qf1, qf2, _⟩ := id hT4)
        | (go_at_call_of 75 (Value.int IntKind.i64 3); refine (pick (B := B + 1 + 1 + 1 + 1) _ ?_ (by omega)).mono ?_; (repeat (first | assumption | refine Reader.drew ?_ | refine Reader.alloc ?_ _)); rintro e w5 ⟨v, rfl, ⟨x5, rfl, y5, z5⟩, hR5, hK5⟩; (have hT5 : Tb w5 rb O xa xb xc := by first | exact hT4.keep hK5 | exact (hT4.alloc _).keep hK5); (have hS5 : Tb w5 rb w0.heap.size 0 0 0 := by first | exact hS4.keep hK5 | exact (hS4.alloc _).keep hK5); obtain ⟨hc5, hf5⟩ := hK5.cells; (have hl5 := hT5.size); (have hr5 := hR5.lt); (have hz5 := hK5.size); (try simp only [World.size_alloc] at hz5); (try (rcases Nat.lt_or_ge (w4.heap.size) (w5.heap.size) with q5_4 | q5_4; rotate_left; (exfalso; omega))); (have n4 : w4.heap.size ≠ rb := by omega); (have n5 : w5.heap.size ≠ rb := by omega); obtain ⟨k, rfl⟩ := Int.eq_ofNat_of_zero_le y5; (have hk : k < 3 := by omega); (have hk' : (k : Int) < 3 := by omega); obtain ⟨m, hm⟩ := list_pick (l := [.int .i64 0, .int .i64 x4, .int .i64 xb]) rfl (k := k) hk; obtain ⟨r0, r1, r2, rf0, rf1, rf2, _⟩ := id hT5))
      all_goals
        have hne : O ≠ w0.heap.size := by omega
        go_wp2_with fail
        go_meet
        refine ⟨m, rfl, ?_, ?_, ?_, ?_⟩
        · first | exact (hT5.set0 m) | exact (hT5.set0 m).alloc _ | exact ((hT5.alloc _).set0 m)
        · first | exact (hS5.other hne _) | exact (hS5.other hne _).alloc _ | exact (hS5.alloc _).other hne _
        · first | exact (hR5.setNew hOrb _) | exact (hR5.setNew hOrb _).alloc _ | exact (hR5.alloc _).setNew hOrb _
        · first | exact ((hK3'.drew.trans hK4).trans (((Keep.refl _ _).alloc _).trans hK5)).setNew (p := ⟨O, 0, none⟩) (by show w0.heap.size ≤ O; omega) _ | exact ((((hK3'.drew.trans hK4).trans hK5).setNew (p := ⟨O, 0, none⟩) (by show w0.heap.size ≤ O; omega) _).alloc _) | exact ((((hK3'.drew.trans hK4).trans hK5).alloc _).setNew (p := ⟨O, 0, none⟩) (by show w0.heap.size ≤ O; omega) _)
    case rest =>
      obtain ⟨x, rfl, hTt, hSt, hRt, hKt⟩ := hcut
      clear hT hTR hR3 hK3' p0 p1 p2 pf0 pf1 pf2
      go_wp2_with fail
      refine (odd _ hRt (by omega)).mono ?_
      rintro e w10 ⟨v, rfl, ⟨bb, rfl⟩, hR10, hK10⟩
      have oT10 := hTt.keep hK10
      have oS10 := hSt.keep hK10
      have hKf10 := hKt.trans hK10
      have hl0 := hlt
      have hO0 : w0.heap.size ≤ O := by omega
      have hno : O ≠ w0.heap.size := by omega
      have hno' : w0.heap.size ≠ O := by omega
      cases bb
      · have oTf := oT10
        have oSf := oS10
        have hRf := hR10
        have hKf := hKf10
        obtain ⟨p0, p1, p2, pf0, pf1, pf2, plt⟩ := id oTf
        obtain ⟨q0, q1, q2, qf0, qf1, qf2, qlt⟩ := id oSf
        go_wp2_with fail
        refine bodyPost_ret (v := .agg #[.int .i64 _, .int .i64 _, .int .i64 _]) (by simp [results, Try.results67, go_sem, q0, q1, q2]; exact ⟨rfl, rfl, rfl⟩) rfl ⟨_, rfl, ⟨_, _, _, rfl, by omega⟩, ?_, ?_⟩
        · exact (((hRf.setNew hl0 _).setNew hl0 _).setNew hl0 _).mono (by omega)
        · exact ((hKf.setNew (Nat.le_refl _) _).setNew (Nat.le_refl _) _).setNew (Nat.le_refl _) _
      · go_wp2_with fail
        refine (pick _ hR10 (by omega)).mono ?_
        rintro e w11 ⟨v, rfl, ⟨x11, rfl, y11, z11⟩, hR11, hK11⟩
        obtain ⟨j, rfl⟩ := Int.eq_ofNat_of_zero_le y11
        have oT11 := oT10.keep hK11
        have oS11 := oS10.keep hK11
        have hKf11 := hKf10.trans hK11
        by_cases hj : (j : Int) = 0
        · have hj0 : ((j : Int) == 0) = true := by simpa using hj
          clear hj
          go_wp2_with fail
          refine (pick _ (hR11.alloc _) (by omega)).mono ?_
          rintro e w12 ⟨v, rfl, ⟨x12, rfl, y12, z12⟩, hR12, hK12⟩
          obtain ⟨k, rfl⟩ := Int.eq_ofNat_of_zero_le y12
          have hk : k < 2 := by omega
          have hk' : (k : Int) < 2 := by omega
          obtain ⟨mm, hmm⟩ := lit_pick hK12 hR11.lt rfl (k := k) hk
          have hKa := ((Keep.refl rb w11).alloc _).trans hK12
          have oT12 := oT11.keep hKa
          have oS12 := oS11.keep hKa
          have hKf12 := hKf11.trans hKa
          obtain ⟨p0, p1, p2, pf0, pf1, pf2, plt⟩ := id oT12
          obtain ⟨q0, q1, q2, qf0, qf1, qf2, qlt⟩ := id oS12
          go_wp2_with fail
          refine bodyPost_ret (v := .agg #[.int .i64 _, .int .i64 _, .int .i64 _]) (by simp [results, Try.results67, go_sem, q0, q1, q2]; exact ⟨rfl, rfl, rfl⟩) rfl ⟨_, rfl, ⟨_, _, _, rfl, by omega⟩, ?_, ?_⟩
          · exact ((((hR12.setNew (p := ⟨O, 0, none⟩) hOrb _).setNew hl0 _).setNew hl0 _).setNew hl0 _).mono (by omega)
          · exact (((hKf12.setNew (p := ⟨O, 0, none⟩) hO0 _).setNew (Nat.le_refl _) _).setNew (Nat.le_refl _) _).setNew (Nat.le_refl _) _
        by_cases hj1 : (j : Int) = 1
        · have hj0 : ((j : Int) == 0) = false := by simp; omega
          have hj1' : ((j : Int) == 1) = true := by simpa using hj1
          clear hj hj1
          go_wp2_with fail
          refine (pick _ (hR11.alloc _) (by omega)).mono ?_
          rintro e w12 ⟨v, rfl, ⟨x12, rfl, y12, z12⟩, hR12, hK12⟩
          obtain ⟨k, rfl⟩ := Int.eq_ofNat_of_zero_le y12
          have hk : k < 2 := by omega
          have hk' : (k : Int) < 2 := by omega
          obtain ⟨mm, hmm⟩ := lit_pick hK12 hR11.lt rfl (k := k) hk
          have hKa := ((Keep.refl rb w11).alloc _).trans hK12
          have oT12 := oT11.keep hKa
          have oS12 := oS11.keep hKa
          have hKf12 := hKf11.trans hKa
          obtain ⟨p0, p1, p2, pf0, pf1, pf2, plt⟩ := id oT12
          obtain ⟨q0, q1, q2, qf0, qf1, qf2, qlt⟩ := id oS12
          go_wp2_with fail
          refine bodyPost_ret (v := .agg #[.int .i64 _, .int .i64 _, .int .i64 _]) (by simp [results, Try.results67, go_sem, q0, q1, q2]; exact ⟨rfl, rfl, rfl⟩) rfl ⟨_, rfl, ⟨_, _, _, rfl, by omega⟩, ?_, ?_⟩
          · exact ((((hR12.setNew (p := ⟨O, 1, none⟩) hOrb _).setNew hl0 _).setNew hl0 _).setNew hl0 _).mono (by omega)
          · exact (((hKf12.setNew (p := ⟨O, 1, none⟩) hO0 _).setNew (Nat.le_refl _) _).setNew (Nat.le_refl _) _).setNew (Nat.le_refl _) _
        · have hj0 : ((j : Int) == 0) = false := by simpa using hj
          have hj1' : ((j : Int) == 1) = false := by simpa using hj1
          obtain ⟨p0, p1, p2, pf0, pf1, pf2, plt⟩ := id oT11
          obtain ⟨q0, q1, q2, qf0, qf1, qf2, qlt⟩ := id oS11
          go_wp2_with fail
          refine bodyPost_ret (v := .agg #[.int .i64 _, .int .i64 _, .int .i64 _]) (by simp [results, Try.results67, go_sem, q0, q1, q2]; exact ⟨rfl, rfl, rfl⟩) rfl ⟨_, rfl, ⟨_, _, _, rfl, by omega⟩, ?_, ?_⟩
          · exact ((((hR11.setNew (p := ⟨O, 2, none⟩) hOrb _).setNew hl0 _).setNew hl0 _).setNew hl0 _).mono (by omega)
          · exact (((hKf11.setNew (p := ⟨O, 2, none⟩) hO0 _).setNew (Nat.le_refl _) _).setNew (Nat.le_refl _) _).setNew (Nat.le_refl _) _
end Go.Proofs.Ytadippkanlbgjaa
