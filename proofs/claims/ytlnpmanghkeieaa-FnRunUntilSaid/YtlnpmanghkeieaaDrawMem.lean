/- The drawn memories. No condition. -/
import Derived.Test.YtlnpmanghkeieaaDrawMemP
import Derived.Deep.RegionHeld3
import Derived.Deep.RegionWith
import Derived.Deep.DrawnRows
namespace Go.Proofs.Ytlnpmanghkeieaa
open Go.RowKit
set_option linter.unusedVariables false
attribute [local go_sem ↓] Go.wp_at_zero Go.wp_at_succ

set_option maxHeartbeats 40000000 in
set_option maxRecDepth 20000 in
theorem l20Memory {rb B : Nat} {w : World} (n : Int) (hR : Reader w rb B) (hB : B ≤ 10000) : Calls Try.prog 25 #[.pointer (some ⟨rb, 0, none⟩), .int .i64 n] w (PicksMem rb B w) := by
  have hlt := hR.lt
  go_enter Try.func25, Try.ntmps25
  go_wp2_with fail
  refine (l20Rom (hR.alloc _) hB).mono ?_
  rintro e w1 ⟨v1, rom, rfl, rows1, hbk, hl3, hR1, hK1⟩
  obtain ⟨bs1, bs2, bs3, bs4⟩ := banks_sum hbk
  obtain ⟨en1, en2⟩ := nw_of_banks hbk bs3
  have OM1 := Lib.hid rows1.mat
  obtain ⟨W0, hW0⟩ : ∃ W0, W0 = w.alloc (.cells #[.slice none 0 0, .slice none 0 0, .int .i64 0] 26) := ⟨_, rfl⟩
  rw [← hW0] at hK1
  have S0 : Six W0 w.heap.size (.slice none 0 0) (.slice none 0 0) (.int .i64 0) := by rw [hW0]; exact six_lit rfl
  have KW0 : Hid (Keep rb w W0) := by rw [hW0]; exact (Keep.refl _ _).alloc _
  have hW0s : W0.heap.size = w.heap.size + 1 := by rw [hW0]; simp
  clear hW0
  have hs1 : w.heap.size + 1 ≤ w1.heap.size := by have := hK1.size; omega
  go_wp2_with fail
  refine (spec_NewMemory OM1.out.mat (by omega) (by omega)).mono ?_
  rw [en1, en2]
  rintro e w2 ⟨v2, rfl, o2, hb2⟩
  have hR2 : Hid (Reader w2 rb (B + 1000)) := hR1.below hb2
  have hK2 : Hid (Keep rb W0 w2) := hK1.trans (Keep.ofBelow hb2)
  have hs2 := hb2.size
  obtain ⟨a, c, b, d, l1, t1, l2, t2, rfl, hM⟩ := memIn_box 26 o2 hs2
  rw [zeros_len] at hM ⊢
  have HM := Lib.hid hM
  have hlw1 := hR1.lt
  have hLw2 : w1.heap.size ≤ w2.heap.size := hs2
  have ha1 := hM.a1
  have ha2 := hM.a2
  have hO2 : w.heap.size < w2.heap.size := by omega
  have RX : Hid (Reader (w2.alloc (.cells #[.slice a 256 c, .slice b rom.length d, .int .i64 0] 26)) rb (B + 1000)) := hR2.out.alloc _
  have KX : Hid (Keep rb W0 (w2.alloc (.cells #[.slice a 256 c, .slice b rom.length d, .int .i64 0] 26))) := hK2.out.alloc _
  have F0 : ∀ i, (w2.alloc (.cells #[.slice a 256 c, .slice b rom.length d, .int .i64 0] 26)).frozen? ⟨w2.heap.size, i, none⟩ = false := fun i => by simp [go_sem]
  obtain ⟨a0, cz, rfl⟩ : ∃ b' off, a = some ⟨b', off, none⟩ := by
    obtain ⟨_, _, _, b', off, e, _, _⟩ := ints_at_ hM.o.ints (k := 0) (by rw [zeros_len]; omega)
    exact ⟨b', off, e⟩
  have SX : (w2.alloc (.cells #[.slice (some ⟨a0, cz, none⟩) 256 c, .slice b rom.length d, .int .i64 0] 26)).heap.size = w2.heap.size + 1 := by simp
  clear o2 hb2 hM hR1 hK1 rows1
  go_upto_region 2 with fail
  generalize (w2.alloc (.cells #[.slice (some ⟨a0, cz, none⟩) 256 c, .slice b rom.length d, .int .i64 0] 26)) = X at *
  go_wp2_with fail
  refine (pick _ RX.out (by omega)).mono ?_
  rintro e w3 ⟨v3, rfl, ⟨x3, rfl, y3, z3⟩, hR3, hK3⟩
  obtain ⟨K0, rfl⟩ := Int.eq_ofNat_of_zero_le y3
  have hK0 : K0 ≤ 5 := by omega
  have HM3 := Lib.hid (HM.out.keepM hK3 (by omega))
  have HK3 : Hid (Keep rb W0 w3) := KX.out.trans hK3
  have HR3 := Lib.hid hR3
  have F3 : Hid (∀ i, w3.frozen? ⟨w2.heap.size, i, none⟩ = false) := fun i => (hK3.cells.2 _ _ (by omega) (by omega)).trans (F0 i)
  clear hR3 hK3 z3 y3
  go_wp2_with fail
  go_loopw [6] (fun s6 wr => ∃ (k : Nat) (ram : List Int), s6 = .int .i64 k ∧ k ≤ 5 ∧ ram.length = 256 ∧ Hid (MemIn w1.heap.size wr w2.heap.size ram rom 0 (some ⟨a0, cz, none⟩) c b d l1 t1 l2 t2) ∧ Hid (∀ i, wr.frozen? ⟨w2.heap.size, i, none⟩ = false) ∧ Hid (Reader wr rb (B + 1001 + 4 * (5 - k))) ∧ Hid (Keep rb W0 wr)) (fun s6 _ => (intOf s6).toNat)
  case atStart => exact ⟨K0, zeros, rfl, hK0, zeros_len, HM3.out, F3.out, HR3.out.mono (by omega), HK3.out⟩
  case round =>
    obtain ⟨k, ram, rfl, hk, hrl, hMr, hFr, hRr, hKr⟩ := hrel
    have hlr := hRr.out.lt
    have hBr := hMr.out.ltB
    have T0 : wr.cell? ⟨w2.heap.size, 0, none⟩ = some (.slice (some ⟨a0, cz, none⟩) 256 c) := by have := hMr.out.c0; rwa [hrl] at this
    have TT := Lib.hid T0
    obtain ⟨_, _, _, _, na, nb, hcc, hcc2, _⟩ := hMr.out.setAt (q := 0) (by omega)
    have hra : rb < a0 := by have := hMr.out.a1; omega
    have hwa : W0.heap.size ≤ a0 := by have := hMr.out.a1; omega
    by_cases hk0 : 0 < k
    · have hki : (0 : Int) < (k : Int) := by omega
      go_wp2_with fail
      go_region_with (first
          | (go_at_call_of 12 (Value.int IntKind.i64 256); refine (pick (B := B + 1001 + 4 * (5 - k) + 1 + 1 + 1) _ ?_ (by omega)).mono ?_; (repeat (first | with_reducible assumption | with_reducible refine Reader.alloc ?_ _)); rintro e w7 ⟨v7, rfl, ⟨x7, rfl, y7, z7⟩, hR7, hK7⟩; (have M7 : MemIn w1.heap.size w7 w2.heap.size ram rom 0 (some ⟨a0, cz, none⟩) c b d l1 t1 l2 t2 := by first | exact M6.out.keepM hK7 (by omega) | exact (M6.out.alloc _).keepM hK7 (by omega)); (have T7 : w7.cell? ⟨w2.heap.size, 0, none⟩ = some (.slice (some ⟨a0, cz, none⟩) 256 c) := by have := M7.c0; rwa [hrl] at this); obtain ⟨⟨yq, hyq⟩, hfq, _, _, _, hbq, _, _, hset⟩ := M7.setAt (q := q) (by omega); obtain ⟨hc7, hf7⟩ := hK7.cells; (have hO7 : w2.heap.size < w7.heap.size := block_lt_of_cell T7); (have hO7' : w2.heap.size < w7.heap.size + 1 := by omega); (have hz7 := hK7.size); (try simp only [World.size_alloc] at hz7); (have q7 : w5.heap.size < w7.heap.size ∨ w6.heap.size < w7.heap.size ∨ True := .inr (.inr trivial)); (try (rcases Nat.lt_or_ge (w5.heap.size) (w7.heap.size) with q7_5 | q7_5; rotate_left; (exfalso; omega))); (try (rcases Nat.lt_or_ge (w6.heap.size) (w7.heap.size) with q7_6 | q7_6; rotate_left; (exfalso; omega))); (have M7h := Lib.hid M7); (have HS := Lib.hid hset); clear hset M7)
          | (go_at_call_of 12 (Value.int IntKind.i64 2); refine (pick (B := B + 1001 + 4 * (5 - k) + 1 + 1) _ ?_ (by omega)).mono ?_; (repeat (first | with_reducible assumption | with_reducible refine Reader.alloc ?_ _)); rintro e w6 ⟨v6, rfl, ⟨x6, rfl, y6, z6⟩, hR6, hK6⟩; (have M6' : MemIn w1.heap.size w6 w2.heap.size ram rom 0 (some ⟨a0, cz, none⟩) c b d l1 t1 l2 t2 := by first | exact M5.out.keepM hK6 (by omega) | exact (M5.out.alloc _).keepM hK6 (by omega)); (have M6 := Lib.hid M6'); (have T6 : w6.cell? ⟨w2.heap.size, 0, none⟩ = some (.slice (some ⟨a0, cz, none⟩) 256 c) := by have := M6'.c0; rwa [hrl] at this); obtain ⟨hc6, hf6⟩ := hK6.cells; (have hO6 : w2.heap.size < w6.heap.size := block_lt_of_cell T6); (have hO6' : w2.heap.size < w6.heap.size + 1 := by omega); (have hz6 := hK6.size); (try simp only [World.size_alloc] at hz6); (try (rcases Nat.lt_or_ge (w5.heap.size) (w6.heap.size) with q6_5 | q6_5; rotate_left; (exfalso; omega))); (have n5 : w5.heap.size ≠ rb := by have := hR5.lt; omega); (have n6 : w6.heap.size ≠ rb := by have := hR6.lt; omega); obtain ⟨kk, rfl⟩ := Int.eq_ofNat_of_zero_le y6; (have hkk : kk < 2 := by omega); (have hkk' : (kk : Int) < 2 := by omega); obtain ⟨q, hq, hql⟩ := two_pick (x := x4) (y := 240 + x5) hkk (by omega) (by omega); (have hqi : (q : Int) < 256 := by omega); (have hq0 : (0 : Int) ≤ (q : Int) := by omega); clear M6')
          | (go_at_call_of 12 (Value.int IntKind.i64 16); refine (pick (B := B + 1001 + 4 * (5 - k) + 1) _ hR4 (by omega)).mono ?_; rintro e w5 ⟨v5, rfl, ⟨x5, rfl, y5, z5⟩, hR5, hK5⟩; (have M5' := M4.out.keepM hK5 (by omega)); (have M5 := Lib.hid M5'); (have T5 : w5.cell? ⟨w2.heap.size, 0, none⟩ = some (.slice (some ⟨a0, cz, none⟩) 256 c) := by have := M5'.c0; rwa [hrl] at this); (have hw5 : IntKind.i64.wrap (240 + x5) = 240 + x5 := by rw [IntKind.wrap_i64]; omega); (have hO5 : w2.heap.size < w5.heap.size := block_lt_of_cell T5); (have hO5' : w2.heap.size < w5.heap.size + 1 := by omega); (have hz5 := hK5.size); clear M5')
          | (go_at_call_of 12 (Value.int IntKind.i64 16); refine (pick (B := B + 1001 + 4 * (5 - k)) _ hRr.out.drewM (by omega)).mono ?_; rintro e w4 ⟨v4, rfl, ⟨x4, rfl, y4, z4⟩, hR4, hK4⟩; (have M4' := (hMr.out.drewN 1).keepM (show Keep rb (wr.drewN 1) w4 from hK4) (by omega)); (have M4 := Lib.hid M4'); (have T4 : w4.cell? ⟨w2.heap.size, 0, none⟩ = some (.slice (some ⟨a0, cz, none⟩) 256 c) := by have := M4'.c0; rwa [hrl] at this); (have hO4 : w2.heap.size < w4.heap.size := block_lt_of_cell T4); (have hz4 := hK4.size); clear M4'))
      all_goals
        have KW : Keep rb wr w7 := by
          refine keep_via' hK7 ?_
          repeat (first | with_reducible exact Keep.refl _ _ | with_reducible refine keep_via' hK6 ?_ | with_reducible refine keep_via' hK5 ?_ | with_reducible refine keep_via' hK4 ?_ | with_reducible refine Keep.alloc ?_ _ | with_reducible refine Keep.drew ?_)
        have HKA : Hid (Keep rb W0 w7) := hKr.out.trans KW
        have FA : Hid (∀ i, w7.frozen? ⟨w2.heap.size, i, none⟩ = false) := fun i => (KW.cells.2 _ _ hBr (by omega)).trans (hFr.out i)
        clear KW
        go_wp2_with fail
        go_roundw
        case rel =>
          refine ⟨k - 1, ram.set q x7, by go_num, by omega, by rw [List.length_set]; exact hrl, ?_, ?_, ?_, ?_⟩
          · first | exact HS.out x7 | exact (HS.out x7).alloc _
          · first | exact fun i => (by have := FA.out i; simpa [go_sem] using this) | exact fun i => (by have := FA.out i; simp [go_sem, this, hO7])
          · first | exact (hR7.setNew (p := ⟨a0, cz + q, none⟩) hra _).mono (by omega) | exact ((hR7.setNew (p := ⟨a0, cz + q, none⟩) hra _).alloc _).mono (by omega)
          · first | exact HKA.out.setNew (p := ⟨a0, cz + q, none⟩) hwa _ | exact (HKA.out.setNew (p := ⟨a0, cz + q, none⟩) hwa _).alloc _
        case measure => simp [intOf]; omega
    · have hk00 : k = 0 := by omega
      subst hk00
      have hki : ¬ (0 : Int) < ((0 : Nat) : Int) := by omega
      have d1' : wr.cell? ⟨w2.heap.size, 1, none⟩ = some (.slice b rom.length d) := hMr.out.c1
      clear T0
      go_wp2_with fail
      refine (pick (rom.length : Int) hRr.out (by omega)).mono ?_
      rintro e w8 ⟨v8, rfl, ⟨x8, rfl, y8, z8⟩, hR8, hK8⟩
      have M8 := Lib.hid (hMr.out.keepM hK8 (by omega))
      have g82 := M8.out.c2
      have fz8 := M8.out.fz
      have M9 := Lib.hid (M8.out.setBank x8)
      have R9 := Lib.hid (hR8.setNew (p := ⟨w2.heap.size, 2, none⟩) (by show rb < w2.heap.size; omega) (.int .i64 x8))
      have K9 : Hid (Keep rb W0 (w8.setCell ⟨w2.heap.size, 2, none⟩ (.int .i64 x8))) := (hKr.out.trans hK8).setNew (p := ⟨w2.heap.size, 2, none⟩) (by show W0.heap.size ≤ w2.heap.size; omega) _
      have F9 : Hid (∀ i, (w8.setCell ⟨w2.heap.size, 2, none⟩ (.int .i64 x8)).frozen? ⟨w2.heap.size, i, none⟩ = false) := fun i => by
        have := (hK8.cells.2 w2.heap.size i hBr (by omega)).trans (hFr.out i)
        simpa [go_sem] using this
      clear hR8 hK8 M8
      go_wp2_with fail
      generalize (w8.setCell ⟨w2.heap.size, 2, none⟩ (.int .i64 x8)) = X9 at *
      refine (odd _ R9.out (by omega)).mono ?_
      rintro e w10 ⟨v, rfl, ⟨bb, rfl⟩, hR10, hK10⟩
      have hB9 := M9.out.ltB
      have M10 := Lib.hid (M9.out.keepM hK10 (by omega))
      have K10 : Hid (Keep rb W0 w10) := K9.out.trans hK10
      have F10 : Hid (∀ i, w10.frozen? ⟨w2.heap.size, i, none⟩ = false) := fun i => (hK10.cells.2 _ _ hB9 (by omega)).trans (F9.out i)
      clear g82 fz8 d1' hK10
      cases bb
      · skip
        obtain ⟨r0, r1, r2, rf0, rf1, rf2⟩ := six_keepR K10.out S0 (by omega) (by omega)
        have m0 := M10.out.c0
        have m1 := M10.out.c1
        have m2 := M10.out.c2
        rw [hrl] at m0
        have hwO : w.heap.size ≠ w2.heap.size := by omega
        go_wp2_with fail
        have hS1 := M10.out.s1
        have hS2 := M10.out.s2
        have h1 := M10.out.o
        have h2 := M10.out.m
        rw [hrl] at h1
        refine bodyPost_ret (v := .agg #[.slice (some ⟨a0, cz, none⟩) 256 c, .slice b rom.length d, .int .i64 x8]) (by simp [results, Try.results25, go_sem, r0, r1, r2]) rfl ⟨_, ram, rom, x8, rfl, fun X g => ⟨_, _, rfl, own_fin h1 (by omega) hS1 g, mat_fin h2 (by omega) hS2 g⟩, by omega, by omega, by omega, ?_, ?_⟩
        · exact (((hR10.setNew (p := ⟨w.heap.size, 0, none⟩) hlt _).setNew (p := ⟨w.heap.size, 1, none⟩) hlt _).setNew (p := ⟨w.heap.size, 2, none⟩) hlt _).mono (by omega)
        · exact (((KW0.out.trans K10.out).setNew (p := ⟨w.heap.size, 0, none⟩) (Nat.le_refl _) _).setNew (p := ⟨w.heap.size, 1, none⟩) (Nat.le_refl _) _).setNew (p := ⟨w.heap.size, 2, none⟩) (Nat.le_refl _) _
      · go_wp2_with fail
        refine (pick 4 hR10 (by omega)).mono ?_
        rintro e w11 ⟨v, rfl, ⟨x11, rfl, y11, z11⟩, hR11, hK11⟩
        obtain ⟨jj, rfl⟩ := Int.eq_ofNat_of_zero_le y11
        have hB10 := M10.out.ltB
        have M11 := Lib.hid (M10.out.keepM hK11 (by omega))
        have K11 : Hid (Keep rb W0 w11) := K10.out.trans hK11
        have F11 : Hid (∀ i, w11.frozen? ⟨w2.heap.size, i, none⟩ = false) := fun i => (hK11.cells.2 _ _ hB10 (by omega)).trans (F10.out i)
        have hB11 := M11.out.ltB
        have f0 := F11.out 0
        have f1 := F11.out 1
        have f2 := F11.out 2
        have n0 := M11.out.c0
        have n1 := M11.out.c1
        have n2 := M11.out.c2
        rw [hrl] at n0
        have hwO : w.heap.size ≠ w2.heap.size := by omega
        have hwO' : w2.heap.size ≠ w.heap.size := by omega
        have HOA := M11.out.sB1
        have HOB := M11.out.sB2
        have hl11 := hR11.lt
        clear hK11
        by_cases j0 : (jj : Int) = 0
        · have q0 : ((jj : Int) == 0) = true := by simpa using j0
          clear j0
          obtain ⟨_, _, _, _, na1, _, _, _, _⟩ := M11.out.setAt (q := 0) (by omega)
          have hR11m : Reader w11 rb (B + 1024) := hR11.mono (by omega)
          have n11 : w11.heap.size ≠ rb := by omega
          have hO11' : w2.heap.size < w11.heap.size + 1 := by omega
          go_wp2_with fail
          go_region_with (first
            | (go_at_call_of 12 (Value.int IntKind.i64 256); refine (pick (B := B + 1024) _ ?_ (by omega)).mono ?_; (repeat (first | with_reducible exact hR11m | with_reducible refine Reader.drewM ?_ | with_reducible refine Reader.alloc ?_ _)); rintro e w12 ⟨v12, rfl, ⟨x12, rfl, y12, z12⟩, hR12, hK12⟩; (have hKw : Keep rb w11 w12 := by (refine keep_via' hK12 ?_; repeat (first | with_reducible exact Keep.refl _ _ | with_reducible refine Keep.alloc ?_ _ | with_reducible refine Keep.drew ?_))); (have M12 := Lib.hid (M11.out.keepM hKw (by omega))); obtain ⟨hc12, hf12⟩ := hK12.cells; (have hz12 := hK12.size); (try simp only [World.size_drew] at hz12); (try simp only [World.size_alloc] at hz12); (try (rcases Nat.lt_or_ge (w11.heap.size) (w12.heap.size) with q12_5 | q12_5; rotate_left; (exfalso; omega))); (have T12 : w12.cell? ⟨w2.heap.size, 0, none⟩ = some (.slice (some ⟨a0, cz, none⟩) 256 c) := by have := M12.out.c0; rwa [hrl] at this); (have hO12 : w2.heap.size < w12.heap.size := block_lt_of_cell T12); (have hO12' : w2.heap.size < w12.heap.size + 1 := by omega); (have l12 := hR12.lt); (have n12 : w12.heap.size ≠ rb := by omega); obtain ⟨q, rfl⟩ := Int.eq_ofNat_of_zero_le y12; (have hq : q < 256 := by omega); (have hqi : (q : Int) < 256 := by omega); (have hq0 : (0 : Int) ≤ (q : Int) := by omega))
            | (go_at_call_of 12 (Value.int IntKind.i64 2); refine (pick (B := B + 1025) _ ?_ (by omega)).mono ?_; (repeat (first | with_reducible assumption | with_reducible refine Reader.alloc ?_ _)); rintro e w13 ⟨v13, rfl, ⟨x13, rfl, y13, z13⟩, hR13, hK13⟩; (have M13 : Hid (MemIn w1.heap.size w13 w2.heap.size ram rom x8 (some ⟨a0, cz, none⟩) c b d l1 t1 l2 t2) := by first | exact M12.out.keepM hK13 (by omega) | exact (M12.out.alloc _).keepM hK13 (by omega)); (have T13 : w13.cell? ⟨w2.heap.size, 0, none⟩ = some (.slice (some ⟨a0, cz, none⟩) 256 c) := by have := M13.out.c0; rwa [hrl] at this); (have hO13 : w2.heap.size < w13.heap.size := block_lt_of_cell T13); (have hO13' : w2.heap.size < w13.heap.size + 1 := by omega); obtain ⟨hc13, hf13⟩ := hK13.cells; (have hz13 := hK13.size); (try simp only [World.size_alloc] at hz13); (try (rcases Nat.lt_or_ge (w11.heap.size) (w13.heap.size) with q13_4 | q13_4; rotate_left; (exfalso; omega))); (try (rcases Nat.lt_or_ge (w12.heap.size) (w13.heap.size) with q13_5 | q13_5; rotate_left; (exfalso; omega))); (have n13 : w13.heap.size ≠ rb := by have := hR13.lt; omega); obtain ⟨kk, rfl⟩ := Int.eq_ofNat_of_zero_le y13; (have hkk : kk < 2 := by omega); (have hkk' : (kk : Int) < 2 := by omega); obtain ⟨mm, hmm⟩ := ints_list_pick (l := [.int .i64 (-1), .int .i64 256]) rfl (k := kk) hkk; obtain ⟨⟨yq, hyq⟩, hfq, _, _, _, hbq, _, _, hset⟩ := M13.out.setAt (q := q) (by omega); (have HS := Lib.hid hset); clear hset))
          all_goals
            have K13 : Hid (Keep rb W0 w13) := by
              refine keep_via' hK13 ?_
              repeat (first | with_reducible exact K11.out | with_reducible refine keep_via' hK12 ?_ | with_reducible refine Keep.alloc ?_ _ | with_reducible refine Keep.drew ?_)
            have hra : rb < a0 := by omega
            have hwa : W0.heap.size ≤ a0 := by omega
            have hrl2 : (ram.set q mm).length = 256 := by rw [List.length_set]; exact hrl
            obtain ⟨r0, r1, r2, rf0, rf1, rf2⟩ := six_keepR K13.out S0 (by omega) (by omega)
            have u1 := M13.out.c1
            have u2 := M13.out.c2
            have na2 : w2.heap.size ≠ a0 := by omega
            have nr : a0 ≠ w.heap.size := by omega
            have nr' : w.heap.size ≠ a0 := by omega
            have hRl : w.heap.size < l1 := by omega
            have hRl2 : w.heap.size < l2 := by omega
            have hR13s : w.heap.size < w13.heap.size := by omega
            have hOS := (HS.out mm).s1
            have hBle : B + 1025 + 1 ≤ B + 1100 := by omega
            have hOS2 := (HS.out mm).s2
            go_wp2_with fail
            refine bodyPost_ret (v := .agg #[.slice (some ⟨a0, cz, none⟩) 256 c, .slice b rom.length d, .int .i64 x8]) (by simp [results, Try.results25, go_sem, r0, r1, r2, hR13s]) rfl ⟨_, ram.set q mm, rom, x8, rfl, fun X g => ⟨_, _, rfl, ?_, ?_⟩, by omega, by omega, by omega, ?_, ?_⟩
            · have h1 := (HS.out mm).o
              rw [hrl2] at h1
              first | with_reducible exact own_fin h1 hRl hOS g | exact own_finA h1 hRl hOS g
            · have h1 := (HS.out mm).m
              first | with_reducible exact mat_fin h1 hRl2 hOS2 g | exact mat_finA h1 hRl2 hOS2 g
            · first | with_reducible exact ((((hR13.setNew (p := ⟨a0, cz + q, none⟩) hra _).setNew (p := ⟨w.heap.size, 0, none⟩) hlt _).setNew (p := ⟨w.heap.size, 1, none⟩) hlt _).setNew (p := ⟨w.heap.size, 2, none⟩) hlt _).mono hBle | exact (((((hR13.setNew (p := ⟨a0, cz + q, none⟩) hra _).setNew (p := ⟨w.heap.size, 0, none⟩) hlt _).setNew (p := ⟨w.heap.size, 1, none⟩) hlt _).setNew (p := ⟨w.heap.size, 2, none⟩) hlt _).alloc _).mono (by omega)
            · first | with_reducible exact ((((KW0.out.trans K13.out).setNew (p := ⟨a0, cz + q, none⟩) (by show w.heap.size ≤ a0; omega) _).setNew (p := ⟨w.heap.size, 0, none⟩) (Nat.le_refl _) _).setNew (p := ⟨w.heap.size, 1, none⟩) (Nat.le_refl _) _).setNew (p := ⟨w.heap.size, 2, none⟩) (Nat.le_refl _) _ | exact (((((KW0.out.trans K13.out).setNew (p := ⟨a0, cz + q, none⟩) (by show w.heap.size ≤ a0; omega) _).setNew (p := ⟨w.heap.size, 0, none⟩) (Nat.le_refl _) _).setNew (p := ⟨w.heap.size, 1, none⟩) (Nat.le_refl _) _).setNew (p := ⟨w.heap.size, 2, none⟩) (Nat.le_refl _) _).alloc _
        have q0 : ((jj : Int) == 0) = false := by simpa using j0
        by_cases j1 : (jj : Int) = 1
        · have q1 : ((jj : Int) == 1) = true := by simpa using j1
          clear j0 j1
          obtain ⟨r0, r1, r2, rf0, rf1, rf2⟩ := six_keepR K11.out S0 (by omega) (by omega)
          go_wp2_with fail
          have hS1 := M11.out.s1
          have hS2 := M11.out.s2
          have h1 := M11.out.o.agree ((Agree.refl l1 t1 w11).setCell (p := ⟨w2.heap.size, 0, none⟩) HOA (.slice (some ⟨a0, cz + 1, none⟩) 255 (c - 1)))
          have h2 := M11.out.m.agree ((Agree.refl l2 t2 w11).setCell (p := ⟨w2.heap.size, 0, none⟩) HOB (.slice (some ⟨a0, cz + 1, none⟩) 255 (c - 1)))
          rw [hrl] at h1
          refine bodyPost_ret (v := .agg #[.slice (some ⟨a0, cz + 1, none⟩) 255 (c - 1), .slice b rom.length d, .int .i64 x8]) (by simp [results, Try.results25, go_sem, r0, r1, r2]) rfl ⟨_, ram.drop 1, rom, x8, rfl, fun X g => ⟨_, _, rfl, ints_tail (own_fin h1 (by omega) (by rw [size_set]; exact hS1) g) (by omega), mat_fin h2 (by omega) (by rw [size_set]; exact hS2) g⟩, by rw [List.length_drop]; omega, by omega, by omega, ?_, ?_⟩
          · exact ((((hR11.setNew (p := ⟨w2.heap.size, 0, none⟩) (by show rb < w2.heap.size; omega) _).setNew (p := ⟨w.heap.size, 0, none⟩) hlt _).setNew (p := ⟨w.heap.size, 1, none⟩) hlt _).setNew (p := ⟨w.heap.size, 2, none⟩) hlt _).mono (by omega)
          · exact ((((KW0.out.trans K11.out).setNew (p := ⟨w2.heap.size, 0, none⟩) (by show w.heap.size ≤ w2.heap.size; omega) _).setNew (p := ⟨w.heap.size, 0, none⟩) (Nat.le_refl _) _).setNew (p := ⟨w.heap.size, 1, none⟩) (Nat.le_refl _) _).setNew (p := ⟨w.heap.size, 2, none⟩) (Nat.le_refl _) _
        have q1 : ((jj : Int) == 1) = false := by simpa using j1
        by_cases j2 : (jj : Int) = 2
        · have q2 : ((jj : Int) == 2) = true := by simpa using j2
          clear j0 j1 j2
          have M12 := Lib.hid (M11.out.setBank (rom.length : Int))
          have R12 := hR11.setNew (p := ⟨w2.heap.size, 2, none⟩) (by show rb < w2.heap.size; omega) (.int .i64 (rom.length : Int))
          have K12 : Hid (Keep rb W0 (w11.setCell ⟨w2.heap.size, 2, none⟩ (.int .i64 (rom.length : Int)))) := K11.out.setNew (p := ⟨w2.heap.size, 2, none⟩) (by show W0.heap.size ≤ w2.heap.size; omega) _
          go_upto_region 16 with fail
          generalize (w11.setCell ⟨w2.heap.size, 2, none⟩ (.int .i64 (rom.length : Int))) = w12 at *
          obtain ⟨r0, r1, r2, rf0, rf1, rf2⟩ := six_keepR K12.out S0 (by omega) (by omega)
          have m0 := M12.out.c0
          have m1 := M12.out.c1
          have m2 := M12.out.c2
          rw [hrl] at m0
          have hwO : w.heap.size ≠ w2.heap.size := by omega
          go_wp2_with fail
          have hS1 := M12.out.s1
          have hS2 := M12.out.s2
          have h1 := M12.out.o
          have h2 := M12.out.m
          rw [hrl] at h1
          refine bodyPost_ret (v := .agg #[.slice (some ⟨a0, cz, none⟩) 256 c, .slice b rom.length d, .int .i64 (rom.length : Int)]) (by simp [results, Try.results25, go_sem, r0, r1, r2]) rfl ⟨_, ram, rom, (rom.length : Int), rfl, fun X g => ⟨_, _, rfl, own_fin h1 (by omega) hS1 g, mat_fin h2 (by omega) hS2 g⟩, by omega, by omega, by omega, ?_, ?_⟩
          · exact (((R12.setNew (p := ⟨w.heap.size, 0, none⟩) hlt _).setNew (p := ⟨w.heap.size, 1, none⟩) hlt _).setNew (p := ⟨w.heap.size, 2, none⟩) hlt _).mono (by omega)
          · exact (((KW0.out.trans K12.out).setNew (p := ⟨w.heap.size, 0, none⟩) (Nat.le_refl _) _).setNew (p := ⟨w.heap.size, 1, none⟩) (Nat.le_refl _) _).setNew (p := ⟨w.heap.size, 2, none⟩) (Nat.le_refl _) _
        have q2 : ((jj : Int) == 2) = false := by simpa using j2
        clear j0 j1 j2
        obtain ⟨r0, r1, r2, rf0, rf1, rf2⟩ := six_keepR K11.out S0 (by omega) (by omega)
        have hwl : w.heap.size < w11.heap.size := by omega
        go_wp2_with fail
        have hS1 := M11.out.s1
        have h1 := M11.out.o.agree ((Agree.refl l1 t1 w11).setCell (p := ⟨w2.heap.size, 1, none⟩) HOA (.slice (some ⟨w11.heap.size, 0, none⟩) 0 0))
        rw [hrl] at h1
        refine bodyPost_ret (v := .agg #[.slice (some ⟨a0, cz, none⟩) 256 c, .slice (some ⟨w11.heap.size, 0, none⟩) 0 0, .int .i64 x8]) (by simp [results, Try.results25, go_sem, r0, r1, r2, hwl]) rfl ⟨_, ram, [], x8, rfl, fun X g => ⟨_, _, rfl, own_finA h1 (by omega) (by rw [size_set]; exact hS1) g, ⟨_, 0, rfl, Nat.le_refl _, Nat.zero_le _, .inl rfl⟩⟩, by omega, by simp, by simp [sumLen], ?_, ?_⟩
        · exact (((((hR11.setNew (p := ⟨w2.heap.size, 1, none⟩) (by show rb < w2.heap.size; omega) _).setNew (p := ⟨w.heap.size, 0, none⟩) hlt _).setNew (p := ⟨w.heap.size, 1, none⟩) hlt _).setNew (p := ⟨w.heap.size, 2, none⟩) hlt _).alloc _).mono (by omega)
        · exact (((((KW0.out.trans K11.out).setNew (p := ⟨w2.heap.size, 1, none⟩) (by show w.heap.size ≤ w2.heap.size; omega) _).setNew (p := ⟨w.heap.size, 0, none⟩) (Nat.le_refl _) _).setNew (p := ⟨w.heap.size, 1, none⟩) (Nat.le_refl _) _).setNew (p := ⟨w.heap.size, 2, none⟩) (Nat.le_refl _) _).alloc _
end Go.Proofs.Ytlnpmanghkeieaa
