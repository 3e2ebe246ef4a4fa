/- The walk of the reference's function that fetches an instruction. No condition. -/
import Derived.Test.YtlnpmanghkeieaaBranch
import Derived.Test.YtlnpmanghkeieaaPeek
import Derived.Test.YtlnpmanghkeieaaDecode
import Derived.Deep.RegionHeld3
namespace Go.Proofs.Ytlnpmanghkeieaa
open Go.RowKit
set_option linter.unusedVariables false

theorem fetch_atS (m : Mach) (k : Nat) (hk : k < 3) (hp : inR m.pc 0 1023 = true) : m.fetch.getD k 0 = m.peek ((m.pc + k) % 1024) := by
  obtain ⟨p0, p1⟩ := inR_iff.1 hp
  have : k = 0 ∨ k = 1 ∨ k = 2 := by omega
  rcases this with rfl | rfl | rfl
  · have e : (m.pc + ((0 : Nat) : Int)) % 1024 = m.pc := by omega
    rw [e]; rfl
  · rfl
  · rfl
theorem fetch_take (m : Mach) (k : Nat) (hk : k < 3) : m.fetch.take (k + 1) = m.fetch.take k ++ [m.fetch.getD k 0] := by
  have : k = 0 ∨ k = 1 ∨ k = 2 := by omega
  rcases this with rfl | rfl | rfl <;> rfl
theorem fetch_len (m : Mach) : m.fetch.length = 3 := rfl
theorem dec_none {zs : List Int} (h : olen (zs.getD 0 0) = 0) : decV zs 0 = noV := by
  have e : dOp zs 0 = zs.getD 0 0 := rfl
  have : dOk zs 0 = false := by
    simp only [dOk, okX, e, h]
    simp
  simp [decV, this]
theorem dec_take (x y z : Int) (h : olen x ≠ 0) : decV ([x, y, z].take (olen x).toNat) 0 = decV [x, y, z] 0 := by
  rcases olen_vals x with e | e | e | e
  · exact absurd e h
  all_goals
    rw [e]
    simp [decV, dOk, dOp, dz1, dz2, dArg, okX, argX, e, inR, noV]
theorem decS_yes {zs : List Int} {p : Int} (h : dOk zs p = true) : decV zs p = .tuple #[.agg #[.int .i64 (dOp zs p), .int .i64 (dArg zs p)], .int .i64 (olen (dOp zs p)), .bool true] := by simp [decV, h]
theorem decS_no {zs : List Int} {p : Int} (h : dOk zs p = false) : decV zs p = .tuple #[.agg #[.int .i64 0, .int .i64 0], .int .i64 0, .bool false] := by simp [decV, h, noV]
theorem ints_take {w : World} {a : Option Addr} {c : Nat} {zs : List Int} {n k : Nat} (h : Ints w (.slice a n c) zs) (hk : k ≤ zs.length) : Ints w (.slice a k c) (zs.take k) := by
  obtain ⟨a', c', e, h1, h2, h3⟩ := h
  injection e with e1 e2 e3
  subst e1 e3
  have hl : (zs.take k).length = k := by rw [List.length_take]; omega
  refine ⟨a, c, by rw [hl], by omega, h2, ?_⟩
  rcases h3 with h0 | ⟨b, off, rfl, hc⟩
  · exact .inl (by rw [h0]; simp)
  · refine .inr ⟨b, off, rfl, fun i hi => ?_⟩
    rw [hl] at hi
    rw [hc i (by omega), List.getD_eq_getElem?_getD, List.getD_eq_getElem?_getD, List.getElem?_take_of_lt hi]
/-- A box of an instruction that is not set yet. -/
def Box0 (w : World) (R : Nat) : Prop := (w.cell? ⟨R, 0, none⟩ = some (.int .i64 0) ∧ w.cell? ⟨R, 1, none⟩ = some (.int .i64 0)) ∧ w.frozen? ⟨R, 0, none⟩ = false ∧ w.frozen? ⟨R, 1, none⟩ = false
theorem box0_below {w w' : World} {R n : Nat} (hb : Below n w w') (h : Box0 w R) (hR : R < n) : Box0 w' R := ⟨⟨cell_be hb h.1.1 hR, cell_be hb h.1.2 hR⟩, frozen_be hb h.2.1 hR, frozen_be hb h.2.2 hR⟩
theorem box0_new {w : World} {R : Nat} {t : TypeId} (he : R = w.heap.size) : Box0 (w.alloc (.cells #[.int .i64 0, .int .i64 0] t)) R := by
  subst he
  refine ⟨⟨?_, ?_⟩, ?_, ?_⟩ <;> simp [go_sem]
theorem quad_drew {W : World} {p0 p1 p2 p3 : Addr} {x0 x1 x2 x3 : Value} (h : W.cell? p0 = some x0 ∧ W.cell? p1 = some x1 ∧ W.cell? p2 = some x2 ∧ W.cell? p3 = some x3) : W.drew.cell? p0 = some x0 ∧ W.drew.cell? p1 = some x1 ∧ W.drew.cell? p2 = some x2 ∧ W.drew.cell? p3 = some x3 := h
theorem quad_alloc {W : World} {p0 p1 p2 p3 : Addr} {x0 x1 x2 x3 : Value} (o : Obj) (h : W.cell? p0 = some x0 ∧ W.cell? p1 = some x1 ∧ W.cell? p2 = some x2 ∧ W.cell? p3 = some x3) : (W.alloc o).cell? p0 = some x0 ∧ (W.alloc o).cell? p1 = some x1 ∧ (W.alloc o).cell? p2 = some x2 ∧ (W.alloc o).cell? p3 = some x3 := ⟨cell_al o h.1, cell_al o h.2.1, cell_al o h.2.2.1, cell_al o h.2.2.2⟩
theorem quad_be {n : Nat} {W w' : World} {B : Nat} {x0 x1 x2 x3 : Value} (hb : Below n W w') (h : W.cell? ⟨B, 0, none⟩ = some x0 ∧ W.cell? ⟨B, 1, none⟩ = some x1 ∧ W.cell? ⟨B, 2, none⟩ = some x2 ∧ W.cell? ⟨B, 4, none⟩ = some x3) (hB : B < n) :
    w'.cell? ⟨B, 0, none⟩ = some x0 ∧ w'.cell? ⟨B, 1, none⟩ = some x1 ∧ w'.cell? ⟨B, 2, none⟩ = some x2 ∧ w'.cell? ⟨B, 4, none⟩ = some x3 := ⟨cell_be hb h.1 hB, cell_be hb h.2.1 hB, cell_be hb h.2.2.1 hB, cell_be hb h.2.2.2 hB⟩
set_option maxHeartbeats 4000000 in
set_option maxRecDepth 20000 in
theorem spec_l5Fetch {L B : Nat} {m : Mach} {C : Int} {w : World} (h : InM L w B m) (hg : m.Good C) : Calls Try.prog 35 #[.pointer (some ⟨B, 0, none⟩)] w fun e w' => e = .returned (decV m.fetch 0) ∧ Below w.heap.size w w' := by
  obtain ⟨a, c, b, d, l1, t1, l2, t2, v, h⟩ := h
  have S := Lib.hid (shp_of hg.mem)
  obtain ⟨z0, z1⟩ := inR_iff.1 hg.pc
  have hp := Lib.hid hg.pc
  have hB := h.ltB
  have H0 := Lib.hid h
  clear h hg
  go_enter Try.func35, Try.ntmps35
  go_wp2_with fail
  go_loopw [5, 6] (fun s5 s6 wr => ∃ k : Nat, k ≤ 3 ∧ s6 = .int .i64 k ∧ Hid (Below w.heap.size w wr) ∧ w.heap.size + 1 ≤ wr.heap.size ∧ Hid (Box0 wr w.heap.size) ∧ Hid (OwnV wr (w.heap.size + 1) 3 s5 ((m.fetch.take k).map (.int .i64)))) (fun _ s6 _ => 3 - (intOf s6).toNat)
  case atStart => exact ⟨0, by omega, rfl, ((Below.refl _ _).alloc (Nat.le_refl _) _).alloc (by simp) _, by simp, box0_below ((Below.refl _ _).alloc (Nat.le_refl _) _) (box0_new rfl) (by simp), ownV_lit0 (by simp) (by simp)⟩
  case round =>
    obtain ⟨k, hk, rfl, hBw, hsz, hR, hO⟩ := hrel
    have HM := Lib.hid (H0.out.below hBw.out)
    obtain ⟨⟨d0, d1, d2⟩, ⟨_, d4, _⟩, _, _, _⟩ := HM.out.mc
    have hBr := HM.out.ltB
    have T0 : wr.cell? ⟨B, 0, none⟩ = some (.slice a m.ram.length c) ∧ wr.cell? ⟨B, 1, none⟩ = some (.slice b m.rom.length d) ∧ wr.cell? ⟨B, 2, none⟩ = some (.int .i64 m.bank) ∧ wr.cell? ⟨B, 4, none⟩ = some (.int .i64 m.pc) := ⟨d0, d1, d2, d4⟩
    have TT := Lib.hid T0
    by_cases hlt : k < 3
    · obtain ⟨sa, sc, rfl⟩ := ownV_shape hO.out
      have hlk : ((m.fetch.take k).map (Value.int .i64)).length = k := by rw [List.length_map, List.length_take, fetch_len]; omega
      rw [hlk] at hO
      have hlf : (m.fetch.take k).length = k := by rw [List.length_take, fetch_len]; omega
      have hki : (k : Int) < 3 := by omega
      have hk0 : (0 : Int) ≤ (k : Int) := by omega
      have em : (m.pc + (k : Int)).tmod 1024 = (m.pc + (k : Int)) % 1024 := Int.tmod_eq_emod_of_nonneg (by omega)
      have hjj : 0 ≤ (m.pc + (k : Int)) % 1024 ∧ (m.pc + (k : Int)) % 1024 ≤ 1023 := by omega
      obtain ⟨p, hpk⟩ : ∃ p, p = m.fetch.getD k 0 := ⟨_, rfl⟩
      have HT : Hid (m.fetch.take (k + 1) = m.fetch.take k ++ [p]) := by show _ = _; rw [hpk]; exact fetch_take m k hlt
      have CP : Hid (Calls Try.prog 52 #[.agg #[.slice a m.ram.length c, .slice b m.rom.length d, .int .i64 m.bank], .int .i64 ((m.pc + (k : Int)) % 1024)] wr.drew fun e w' => e = .returned (.int .i64 p) ∧ Below wr.drew.heap.size wr.drew w') := by
        rw [hpk, fetch_atS m k hlt hp.out]; exact spec_l2Read ⟨_, _, rfl, HM.out.drew.mem.o.ints, HM.out.drew.mem.m.mat⟩ S.out hjj.1 hjj.2
      have hw0 : IntKind.i64.wrap (m.pc + (k : Int)) = m.pc + (k : Int) := by rw [IntKind.wrap_i64]; omega
      generalize (m.pc + (k : Int)) % 1024 = jj at *
      generalize m.pc = pc at *
      generalize hzs : m.fetch.take k = zs at *
      clear hpk hlk
      go_wp2_with fail
      go_region_held3 (fun W => W.cell? ⟨B, 0, none⟩ = some (.slice a m.ram.length c) ∧ W.cell? ⟨B, 1, none⟩ = some (.slice b m.rom.length d) ∧ W.cell? ⟨B, 2, none⟩ = some (.int .i64 m.bank) ∧ W.cell? ⟨B, 4, none⟩ = some (.int .i64 pc))
        (repeat (first | with_reducible assumption | with_reducible exact T0 | with_reducible exact T3 | with_reducible exact T4 | with_reducible refine quad_drew ?_ | with_reducible refine quad_alloc _ ?_))
        (first
          | (go_at_call 52; refine CP.out.mono ?_; rintro e w3 ⟨rfl, hb3⟩; (have hbX : Below wr.heap.size wr w3 := (Below.refl _ _).drew.trans hb3); (have T3 := quad_be hbX TT.out hBr); (have O3 := Lib.hid (hO.out.of (w' := w3) fun g hg => hbX.block g (hO.out.lt g hg).2)); (have hs3 := hbX.size); (have BX := Lib.hid hbX); clear hb3 hbX)
          | (refine step_appI rfl _ _ rfl (w.heap.size + 1) (.slice sa k sc) (.slice (some ⟨_, 0, none⟩) 1 1) zs [p] rfl rfl ?_ ?_ (by simp; omega) ?_ ?_; exact (by repeat (first | with_reducible exact O3.out | with_reducible refine OwnV.alloc ?_ _ | with_reducible refine OwnV.drew ?_)); exact (by first | exact ints_lit1' (by simp) | exact ints_drew (ints_lit1' (by simp))); exact (by simp; omega); intro v4 w4 ow4 hg4 _; (have hb4 : Below (w.heap.size + 1) wr w4 := below_app (by repeat (first | with_reducible exact BX.out.mono hsz | with_reducible refine Below.alloc ?_ (by omega) _ | with_reducible refine Below.drew ?_)) hg4 O3.out (by simp; omega) (Nat.le_refl _)); (have OW4 := Lib.hid ow4); (have HB4 := Lib.hid hb4); (have T4 := quad_be hb4 TT.out (by omega)); obtain ⟨va4, vn4, vc4, rfl⟩ := ownV_shape3 ow4; clear ow4 hg4 hb4))
      all_goals
        have R4 := Lib.hid (box0_below HB4.out hR.out (by omega))
        have B4 : Hid (Below w.heap.size w w4) := hBw.out.trans (HB4.out.mono (by omega))
        have hs4 := HB4.out.size
        go_wp2_with fail
        go_roundw
        case rel => exact ⟨k + 1, by omega, by go_num, B4.out, by omega, R4.out, by rw [Hid, HT.out]; exact OW4.out⟩
        case measure => simp [intOf]; omega
    · have hk3 : k = 3 := by omega
      subst hk3
      have hki : ¬ ((3 : Nat) : Int) < 3 := by omega
      obtain ⟨sa, sc, rfl⟩ := ownV_shape hO.out
      have hlk : ((m.fetch.take 3).map (Value.int .i64)).length = 3 := rfl
      rw [hlk] at hO
      rw [hlk]
      have hI : Hid (Ints wr (.slice sa 3 sc) m.fetch) := hO.out.own.ints
      obtain ⟨hq1, hq2, hq3, b', off, rfl, hb', hc'⟩ := ints_at_ hI.out (k := 0) (by rw [fetch_len]; omega)
      rw [Nat.add_zero] at hc'
      have hcap : 3 ≤ sc := by have := fetch_len m; omega
      have hcap2 : (sc : Int) ≤ 9223372036854775807 := by omega
      clear hq1 hq2 hq3
      have D0 : Hid (∀ n, n = olen (m.fetch.getD 0 0) → n = 0 → decV m.fetch 0 = noV) := fun n h1 h2 => dec_none (h1.symm.trans h2)
      have D1 : Hid (∀ n, n = olen (m.fetch.getD 0 0) → n ≠ 0 → decV (m.fetch.take n.toNat) 0 = decV m.fetch 0) := fun n h1 h2 => by
        subst h1; exact dec_take _ _ _ h2
      generalize m.fetch.getD 0 0 = x0 at *
      go_wp2_with fail
      refine (spec_OrderLength x0 _).mono ?_
      rintro e w5 ⟨rfl, hb5⟩
      have R5 := box0_below hb5 hR.out (by omega)
      have I5 := Lib.hid (hI.out.below hb5)
      have B5 : Hid (Below w.heap.size w w5) := hBw.out.trans (hb5.mono (by omega))
      have hs5 := hb5.size
      obtain ⟨⟨r0, r1⟩, rf0, rf1⟩ := R5
      obtain ⟨n, hn⟩ : ∃ n, n = olen x0 := ⟨_, rfl⟩
      have hv := olen_vals x0
      rw [← hn] at hv ⊢
      clear T0 d0 d1 d2 d4 hb5
      by_cases hn0 : n = 0
      · have F := Lib.hid (D0.out n hn hn0)
        subst hn0
        clear hn
        go_wp2_with fail
        refine bodyPost_ret (v := .tuple #[.agg #[.int .i64 0, .int .i64 0], .int .i64 0, .bool false]) (by simp [results, Try.results35, go_sem, r0, r1]) rfl ⟨(by rw [F.out]; rfl), ?_⟩
        exact (B5.out.setCell (p := ⟨w.heap.size, 0, none⟩) (Nat.le_refl _) _).setCell (p := ⟨w.heap.size, 1, none⟩) (Nat.le_refl _) _
      · have F := Lib.hid (D1.out n hn hn0)
        obtain ⟨nn, rfl⟩ : ∃ nn : Nat, n = nn := ⟨n.toNat, by omega⟩
        have hnn : nn ≤ 3 := by omega
        have hn0' : ((nn : Int) == 0) = false := by simpa using hn0
        have CD := Lib.hid (spec_DecodeOrder 0 (ints_take (k := nn) I5.out (by rw [fetch_len]; omega)))
        clear hn
        rw [Int.toNat_natCast] at F
        generalize m.fetch.take nn = ys at *
        cases hd : dOk ys 0
        · skip
          rw [decS_no hd] at CD
          go_wp2_with fail
          refine CD.out.mono ?_
          rintro e w6 ⟨rfl, hb6⟩
          obtain ⟨⟨u0, u1⟩, uf0, uf1⟩ := box0_below hb6 (show Box0 w5 w.heap.size from ⟨⟨r0, r1⟩, rf0, rf1⟩) (by omega)
          have B6 : Hid (Below w.heap.size w w6) := B5.out.trans (hb6.mono (by omega))
          clear hb6 r0 r1 rf0 rf1
          go_wp2_with fail
          refine bodyPost_ret (v := .tuple #[.agg #[.int .i64 0, .int .i64 0], .int .i64 0, .bool false]) (by simp [results, Try.results35, go_sem, u0, u1]) rfl ⟨by rw [← F.out, decS_no hd], ?_⟩
          exact (B6.out.setCell (p := ⟨w.heap.size, 0, none⟩) (Nat.le_refl _) _).setCell (p := ⟨w.heap.size, 1, none⟩) (Nat.le_refl _) _
        · skip
          rw [decS_yes hd] at CD
          go_wp2_with fail
          refine CD.out.mono ?_
          rintro e w6 ⟨rfl, hb6⟩
          obtain ⟨⟨u0, u1⟩, uf0, uf1⟩ := box0_below hb6 (show Box0 w5 w.heap.size from ⟨⟨r0, r1⟩, rf0, rf1⟩) (by omega)
          have B6 : Hid (Below w.heap.size w w6) := B5.out.trans (hb6.mono (by omega))
          clear hb6 r0 r1 rf0 rf1
          go_wp2_with fail
          refine bodyPost_ret (v := .tuple #[.agg #[.int .i64 (dOp ys 0), .int .i64 (dArg ys 0)], .int .i64 (olen (dOp ys 0)), .bool true]) (by simp [results, Try.results35, go_sem, u0, u1]) rfl ⟨by rw [← F.out, decS_yes hd], ?_⟩
          exact (B6.out.setCell (p := ⟨w.heap.size, 0, none⟩) (Nat.le_refl _) _).setCell (p := ⟨w.heap.size, 1, none⟩) (Nat.le_refl _) _
end Go.Proofs.Ytlnpmanghkeieaa
