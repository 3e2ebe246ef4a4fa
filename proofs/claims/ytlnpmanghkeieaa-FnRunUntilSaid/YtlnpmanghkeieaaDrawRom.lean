/- The drawn banks: whatever the code, one to three banks of 256 bytes, of the call's own. No condition. -/
import Derived.Test.YtlnpmanghkeieaaDrawOrd
import Derived.Test.YtlnpmanghkeieaaCodec
import Derived.Test.YtlnpmanghkeieaaClone
import Derived.Test.YtlnpmanghkeieaaMemLaw
namespace Go.Proofs.Ytlnpmanghkeieaa
open Go.RowKit
set_option linter.unusedVariables false

theorem obytes_byte (o a : Int) : (obytes o a).all byteB = true := by
  cases hv : ovB o a
  · rw [obytes_no hv]; rfl
  · have hb := ovB_bd hv
    have ho : byteB o = true := by
      cases h : inR o 0 15
      · rw [ovB_0 (olen_no h)] at hv; cases hv
      · have := inR_iff.1 h
        exact byteB_iff.2 (by omega)
    have h1 : byteB (a % 256) = true := byteB_iff.2 (by omega)
    have h2 : byteB (a / 256) = true := byteB_iff.2 (by omega)
    rcases olen_vals o with k | k | k | k
    · rw [ovB_0 k] at hv; cases hv
    · rw [obytes_1 hv k]; simp [ho]
    · rw [obytes_2 hv k]; simp [ho, h1]
    · rw [obytes_3 hv k]; simp [ho, h1, h2]
theorem OwnV.keep {rb base e : Nat} {w w' : World} {v : Value} {vs : List Value} (h : OwnV w base e v vs) (hK : Keep rb w w') (hr : rb < base) : OwnV w' base e v vs :=
  h.of fun k hk => hK.block k (h.lt k hk).2 (by have := (h.lt k hk).1; omega)
theorem RowsV.keep {rb base : Nat} {w w' : World} {v : Value} {zss : List (List Int)} (h : RowsV base w v zss) (hK : Keep rb w w') (hr : rb < base) : RowsV base w' v zss :=
  h.agree (fun k k1 k2 => hK.block k k2 (by omega)) hK.size
theorem Reader.grown {w w' : World} {rb B base : Nat} {r : Option Nat} (h : Reader w rb B) (hg : w.grownBy w' r) (hr : ∀ k, r = some k → base ≤ k) (hb : rb < base) : Reader w' rb B := by
  have hlt := h.lt
  obtain ⟨a, len, cap, zs, p, hp, c0, c1, fz, l2, code, bytes⟩ := h
  have hn : ∀ b, b < base → some b ≠ r := fun b hb e => by have := hr b e.symm; omega
  have ce : ∀ b o, b < base → b < w.heap.size → w'.cell? ⟨b, o, none⟩ = w.cell? ⟨b, o, none⟩ := fun b o h1 h2 => World.cell?_of_block (a := ⟨b, o, none⟩) (hg.block b h2 (hn b h1))
  refine ⟨a, len, cap, zs, p, hp, (ce _ _ hb hlt).trans c0, (ce _ _ hb hlt).trans c1, (World.frozen?_of_block (a := ⟨rb, 1, none⟩) (hg.block rb hlt (hn rb hb))).trans fz, l2, ?_, bytes⟩
  rcases code with h0 | ⟨b, off, rfl, hne, hc⟩
  · exact .inl h0
  · exact .inr ⟨b, off, rfl, hne, fun i hi => (ce b (off + i) (by omega) (block_lt_of_cell (hc i hi))).trans (hc i hi)⟩
theorem Keep.grown {w X w' : World} {rb : Nat} {r : Option Nat} (h : Keep rb w X) (hg : X.grownBy w' r) (hr : ∀ k, r = some k → w.heap.size ≤ k) : Keep rb w w' :=
  ⟨hg.os.trans h.os, hg.tape.trans h.tape, hg.output.trans h.output, Nat.le_trans h.size hg.size, fun k hk hn => (hg.block k (Nat.lt_of_lt_of_le hk h.size) (fun e => by have := hr k e.symm; omega)).trans (h.block k hk hn)⟩
def sliceN : Value → Nat | .slice _ n _ => n | _ => 0
theorem rows_lit0 {w : World} {b : Nat} (hb : b = w.heap.size) {base : Nat} (h : base ≤ w.heap.size) : RowsV base (w.alloc (.cells #[] 23)) (.slice (some ⟨b, 0, none⟩) 0 0) [] := by
  subst hb
  exact ⟨[], fun _ => 0, OwnV.lit #[] _ h rfl (by decide), rfl, fun i hi => by simp at hi, fun i hi => by simp at hi, fun i j hi => by simp at hi⟩
/-- One more row. -/
theorem RowsAt.pushA {base : Nat} {w w' W : World} {v v' u : Value} {zss : List (List Int)} {z : List Int} {us : List Value} {g : Nat → Nat} (h : RowsAt base w v zss us g) (hbase : base ≤ w.heap.size) (hA : Agree base w.heap.size w W) (hs : w.heap.size ≤ W.heap.size) (ho : Own w.heap.size W.heap.size W u z)
    (h' : OwnV w' base 23 v' (us ++ [u])) (hg : W.grownBy w' v.ownBlock) (hn : v'.ownBlock = v.ownBlock ∨ v'.ownBlock = some W.heap.size) : RowsV base w' v' (zss ++ [z]) := by
  obtain ⟨k, ok, hk⟩ := own_point ho
  have hs' := hg.size
  refine ⟨us ++ [u], fun i => if i = zss.length then k else g i, h', by simp [h.len], fun i hi => ?_, fun i hi h0 => ?_, fun i j hi hj hne hi0 hj0 => ?_⟩
  · have hi' : i < zss.length ∨ i = zss.length := by simp at hi; omega
    rcases hi' with hi' | rfl
    · rw [if_neg (by omega), getD_left _ _ _ hi', getD_left _ _ _ (by rw [h.len]; exact hi')]
      by_cases h0 : zss.getD i [] = []
      · have := h.row i hi'
        rw [h0] at this ⊢
        exact own_nil this _ _
      · obtain ⟨k1, k2, k3⟩ := h.at_ i hi' h0
        refine (h.row i hi').agree fun j j1 j2 => ?_
        obtain rfl : j = g i := by omega
        rw [hg.block _ (by omega) (fun e => k3 e.symm), hA _ k1 k2]
    · rw [if_pos rfl, getD_right, ← h.len, getD_right]
      by_cases h0 : z = []
      · rw [h0] at ok ⊢
        exact own_nil ok _ _
      · obtain ⟨k1, k2⟩ := hk h0
        refine ok.agree fun j j1 j2 => ?_
        obtain rfl : j = k := by omega
        exact hg.block _ k2 (fun e => by have := (h.own.lt j e.symm).2; omega)
  · have hi' : i < zss.length ∨ i = zss.length := by simp at hi; omega
    rcases hi' with hi' | rfl
    · rw [getD_left _ _ _ hi'] at h0
      rw [if_neg (by omega)]
      obtain ⟨k1, k2, k3⟩ := h.at_ i hi' h0
      refine ⟨k1, by omega, ?_⟩
      rcases hn with e | e
      · rw [e]; exact k3
      · rw [e]; intro e2; injection e2 with e3; omega
    · rw [getD_right] at h0
      rw [if_pos rfl]
      obtain ⟨k1, k2⟩ := hk h0
      refine ⟨by omega, by omega, ?_⟩
      rcases hn with e | e
      · rw [e]; intro e2; have := (h.own.lt _ e2).2; omega
      · rw [e]; intro e2; injection e2 with e3; omega
  · have hi' : i < zss.length ∨ i = zss.length := by simp at hi; omega
    have hj' : j < zss.length ∨ j = zss.length := by simp at hj; omega
    rcases hi' with hi' | rfl
    · rw [getD_left _ _ _ hi'] at hi0
      rw [if_neg (by omega)]
      obtain ⟨k1, k2, k3⟩ := h.at_ i hi' hi0
      rcases hj' with hj' | rfl
      · rw [getD_left _ _ _ hj'] at hj0
        rw [if_neg (by omega)]
        exact h.apart i j hi' hj' hne hi0 hj0
      · rw [getD_right] at hj0
        rw [if_pos rfl]
        have := (hk hj0).1
        omega
    · rw [getD_right] at hi0
      rw [if_pos rfl]
      have := (hk hi0).1
      rcases hj' with hj' | rfl
      · rw [getD_left _ _ _ hj'] at hj0
        rw [if_neg (by omega)]
        obtain ⟨k1, k2, k3⟩ := h.at_ j hj' hj0
        omega
      · exact absurd rfl hne
theorem lit_pickB {rb : Nat} {w w' : World} {x : Int} {t : TypeId} {k : Nat} (hK : Keep rb (w.alloc (.cells #[.int .i64 0, .int .i64 x, .int .i64 15] t)) w') (hr : rb < w.heap.size) (hx : byteB x = true) (hk : k < 3) :
    ∃ m : Int, w'.cell? ⟨w.heap.size, k, none⟩ = some (.int .i64 m) ∧ byteB m = true := by
  have e : w'.cell? ⟨w.heap.size, k, none⟩ = (#[.int .i64 0, .int .i64 x, .int .i64 15] : Array Value)[k]? := by
    rw [hK.cells.1 _ _ (by simp) (by omega), World.cell?_alloc_new]
  rcases (show k = 0 ∨ k = 1 ∨ k = 2 by omega) with rfl | rfl | rfl
  · exact ⟨0, e, rfl⟩
  · exact ⟨x, e, hx⟩
  · exact ⟨15, e, rfl⟩
/-- One to three banks of 256 bytes. -/
def Banks (zss : List (List Int)) (n : Nat) : Prop := zss.length = n ∧ zss.all bankB = true
def PicksRom (rb B : Nat) (w : World) (e : Ending) (w' : World) : Prop := ∃ v zss, e = .returned v ∧ RowsV w.heap.size w' v zss ∧ banksB zss = true ∧ zss.length ≤ 3 ∧ Reader w' rb (B + 1000) ∧ Keep rb w w'
/-- What is left of the round's part that picks instructions. -/
structure Row (rb : Nat) (W wr : World) (v : Value) (zs : List Int) (B : Nat) : Prop where
  own : OwnV wr W.heap.size 3 v (zs.map (.int .i64))
  byte : zs.all byteB = true
  rd : Reader wr rb B
  keep : Keep rb W wr
set_option maxHeartbeats 4000000 in
set_option maxRecDepth 20000 in
theorem l20Rom {rb B : Nat} {w : World} (hR : Reader w rb B) (hB : B ≤ 10000) :
    Calls Try.prog 40 #[.pointer (some ⟨rb, 0, none⟩)] w (PicksRom rb B w) := by
  have hlt := hR.lt
  go_enter Try.func40, Try.ntmps40
  go_wp2_with fail
  refine (pick _ (hR.alloc _) (by omega)).mono ?_
  rintro e w1 ⟨v1, rfl, ⟨x1, rfl, y1, z1⟩, hR1, hK1⟩
  obtain ⟨K0, rfl⟩ := Int.eq_ofNat_of_zero_le y1
  have hK0 : K0 ≤ 2 := by omega
  have hKw : Hid (Keep rb w w1) := ((Keep.refl _ _).alloc _).trans hK1
  have hRows : Hid (RowsV w.heap.size w1 (.slice (some ⟨w.heap.size, 0, none⟩) 0 0) []) := (rows_lit0 rfl (Nat.le_refl _)).agree (fun k h1 h2 => hK1.block k h2 (by omega)) hK1.size
  have hRd : Hid (Reader w1 rb (B + 1)) := hR1
  have hK0' : (K0 : Int) ≤ 2 := by omega
  clear hR hR1 hK1 z1 y1
  go_wp2_with fail
  go_loopw [3, 4] (fun s3 s4 wr => ∃ (k : Nat) (zss : List (List Int)), s4 = .int .i64 k ∧ zss.length + k = K0 + 1 ∧ Hid (zss.all bankB = true) ∧ Hid (RowsV w.heap.size wr s3 zss) ∧ Hid (Reader wr rb (B + 1 + 300 * zss.length)) ∧ Hid (Keep rb w wr)) (fun _ s4 _ => (intOf s4).toNat)
  case atStart => exact ⟨K0 + 1, [], by go_num, by simp, rfl, hRows.out, hRd.out, hKw.out⟩
  case round =>
    obtain ⟨k, zss, rfl, hl, hA, hRw, hRd', hKp⟩ := hrel
    obtain ⟨wo, hwo⟩ : ∃ wo, wo = wr := ⟨_, rfl⟩
    subst hwo
    obtain ⟨us, g, hr⟩ := hRw.out
    have HR := Lib.hid hr
    clear hr
    by_cases hk : 0 < k
    · have hki : (0 : Int) < (k : Int) := by omega
      have hrbr : rb < wo.heap.size := hRd'.out.lt
      have hww := hKp.out.size
      go_wp2_with fail
      refine (pick _ (hRd'.out.alloc _) (by omega)).mono ?_
      rintro e w2 ⟨v2, rfl, ⟨x2, rfl, y2, z2⟩, hR2, hK2⟩
      obtain ⟨J, rfl⟩ := Int.eq_ofNat_of_zero_le y2
      have hJ : J ≤ 13 := by omega
      have hRow2 : Hid (Row rb wo w2 (.slice (some ⟨wo.heap.size, 0, none⟩) 0 0) [] (B + 2 + 300 * zss.length)) := ⟨(ownV_lit0 (Nat.le_refl _) rfl).keep hK2 hrbr, rfl, hR2.mono (by omega), ((Keep.refl _ _).alloc _).trans hK2⟩
      clear hR2 hK2 z2 y2
      go_wp2_with fail
      go_loopw [5, 6] (fun s5 s6 wi => ∃ (j : Nat) (zs : List Int), s6 = .int .i64 j ∧ j ≤ 13 ∧ zs.length + 3 * j ≤ 39 ∧ Hid (Row rb wo wi s5 zs (B + 2 + 300 * zss.length + 12 * (13 - j)))) (fun _ s6 _ => (intOf s6).toNat)
      case atStart => exact ⟨J, [], rfl, hJ, by simp; omega, hRow2.out.own, rfl, hRow2.out.rd.mono (by omega), hRow2.out.keep⟩
      case round =>
        obtain ⟨j, zs, rfl, hj, hzl, hRo⟩ := hrel
        by_cases hjp : 0 < j
        · have hji : (0 : Int) < (j : Int) := by omega
          go_wp2_with fail
          refine (l20Order _ hRo.out.rd (by omega)).mono ?_
          rintro e w3 ⟨v3, rfl, ⟨o, a, rfl⟩, hR3, hK3⟩
          go_wp2_with fail
          refine (spec_OrderBytes o a _).mono ?_
          rintro e w4 ⟨v4, rfl, o4, hb4⟩
          have hO4 := Lib.hid o4.ints
          have hOV := Lib.hid ((hRo.out.own.keep hK3 hrbr).keep (Keep.ofBelow (rb := rb) hb4) hrbr)
          have hR4 := Lib.hid (hR3.below hb4)
          have hK4 := Lib.hid ((hRo.out.keep.trans hK3).trans (Keep.ofBelow (rb := rb) hb4))
          have hol := obytes_len o a
          have hob := Lib.hid (obytes_byte o a)
          have hBy := Lib.hid hRo.out.byte
          generalize obytes o a = ob at *
          obtain ⟨ua, uc, rfl⟩ := own_shape o4
          have hs4 : wo.heap.size ≤ w4.heap.size := hK4.out.size
          clear o4 hb4 hR3 hK3
          go_wp2_with (first
            | (at_builtin; refine wp_appI rfl _ _ rfl wo.heap.size _ _ zs ob rfl rfl hOV.out hO4.out (by omega) hs4 ?_; intro v5 w5 ow5 hg5 _))
          have hRow5 : Hid (Row rb wo w5 v5 (zs ++ ob) (B + 2 + 300 * zss.length + 12 * (13 - (j - 1)))) := ⟨ow5, by rw [List.all_append, hBy.out, hob.out]; rfl, (hR4.out.grown hg5 (fun k hk => (hOV.out.lt k hk).1) hrbr).mono (by omega), hK4.out.grown hg5 (fun k hk => (hOV.out.lt k hk).1)⟩
          clear ow5 hg5
          go_wp2_with fail
          go_roundw
          case rel => exact ⟨j - 1, zs ++ ob, by go_num, by omega, by rw [List.length_append]; omega, hRow5.out⟩
          case measure => simp [intOf]; omega
        · have hji : ¬ (0 : Int) < (j : Int) := by omega
          obtain ⟨sa, sc, rfl⟩ := ownV_shape hRo.out.own
          have hlm0 : (List.map (Value.int .i64) zs).length = zs.length := List.length_map ..
          have HOZ : Hid (OwnV wr wo.heap.size 3 (.slice sa zs.length sc) (zs.map (.int .i64))) := by have := hRo.out.own; rw [hlm0] at this; exact this
          clear hlm0
          go_wp2_with fail
          refine (pick _ hRo.out.rd (by omega)).mono ?_
          rintro e w6 ⟨v6, rfl, ⟨x6, rfl, y6, z6⟩, hR6, hK6⟩
          have hx6 : byteB x6 = true := byteB_iff.2 (by omega)
          go_wp2_with fail
          refine (pick _ (hR6.alloc _) (by omega)).mono ?_
          rintro e w7 ⟨v7, rfl, ⟨x7, rfl, y7, z7⟩, hR7, hK7⟩
          obtain ⟨q, rfl⟩ := Int.eq_ofNat_of_zero_le y7
          have hq : q < 3 := by omega
          have hq' : (q : Int) < 3 := by omega
          obtain ⟨m, hm, hmb⟩ := lit_pickB hK7 hR6.lt hx6 hq
          have hRow7 : Hid (Row rb wo w7 (.slice sa zs.length sc) zs (B + 2 + 300 * zss.length + 200)) := ⟨(HOZ.out.keep hK6 hrbr).keep (((Keep.refl _ _).alloc _).trans hK7) hrbr, hRo.out.byte, hR7.mono (by omega), (hRo.out.keep.trans hK6).trans (((Keep.refl _ _).alloc _).trans hK7)⟩
          have HMB := Lib.hid hmb
          clear hR6 hK6 hR7 hK7 z6 z7 y6 hmb hx6
          go_wp2_with fail
          go_loopw [5] (fun s5 wi => ∃ ys : List Int, sliceN s5 = ys.length ∧ ys.length ≤ 256 ∧ Hid (Row rb wo wi s5 ys (B + 2 + 300 * zss.length + 200))) (fun s5 _ => 256 - sliceN s5)
          case atStart => exact ⟨zs, by simp [sliceN], by omega, hRow7.out⟩
          case round =>
            obtain ⟨ys, hsn, hyl, hRy⟩ := hrel
            obtain ⟨sa', sc', rfl⟩ := ownV_shape hRy.out.own
            have hlm : (List.map (Value.int .i64) ys).length = ys.length := List.length_map ..
            have hOY := Lib.hid hRy.out.own
            rw [hlm] at *
            clear hlm hsn
            by_cases h256 : ys.length < 256
            · have hyi : (ys.length : Int) < 256 := by omega
              have hsy : wo.heap.size ≤ wr.heap.size := hRy.out.keep.size
              go_wp2_with (first
                | (at_builtin; refine wp_appI rfl _ _ rfl wo.heap.size _ _ ys [m] rfl rfl (hOY.out.alloc _) (ints_lit1 _ _ _) (by simp; omega) (by simp; omega) ?_; intro v8 w8 ow8 hg8 _))
              have hRow8 : Hid (Row rb wo w8 v8 (ys ++ [m]) (B + 2 + 300 * zss.length + 200)) := ⟨ow8, by rw [List.all_append, hRy.out.byte]; simp [HMB.out], (hRy.out.rd.alloc _).grown hg8 (fun k hk => (hOY.out.lt k hk).1) hrbr, (hRy.out.keep.alloc _).grown hg8 (fun k hk => (hOY.out.lt k hk).1)⟩
              obtain ⟨sa8, sc8, rfl⟩ := ownV_shape ow8
              clear ow8 hg8
              go_wp2_with fail
              go_roundw
              case rel => exact ⟨ys ++ [m], by simp [sliceN], by simp; omega, hRow8.out⟩
              case measure => simp [sliceN]; omega
            · have hyi : ¬ (ys.length : Int) < 256 := by omega
              have hsy : wo.heap.size ≤ wr.heap.size := hRy.out.keep.size
              have hlen : us.length ≤ 1048576 := by have := HR.out.len; omega
              have hW : Agree w.heap.size wo.heap.size wo wr := fun k k1 k2 => hRy.out.keep.block k k2 (by omega)
              have HW := Lib.hid hW
              obtain ⟨ra, rc, hs3⟩ := ownV_shape HR.out.own
              clear hW
              go_wp2_with (first
                | (at_builtin; refine wp_appR rfl _ _ rfl w.heap.size _ _ us [_] rfl rfl ?_ (Holds.lit _ _ _ _ _ rfl (Nat.le_refl _)) (one_slice _ _ _) (by simp; omega) (by simp; omega) ?_; exact ((HR.out.agree HW.out hsy).own.alloc _); intro v9 w9 ow9 hg9 ha9))
              have hBy : Hid (bankB ys = true) := bankB_iff.2 ⟨by omega, hRy.out.byte⟩
              have hRow9 : Hid (RowsV w.heap.size w9 v9 (zss ++ [ys])) := HR.out.pushA hww (HW.out.alloc hsy _) (by simp; omega) ((hOY.out.own.agree ((Agree.refl _ _ _).alloc (Nat.le_refl _) _)).wide (Nat.le_refl _) (by simp)) ow9 hg9 ha9
              have hrow := fun (k : Nat) hk => (HR.out.own.lt k hk).1
              have hRd9 : Hid (Reader w9 rb (B + 2 + 300 * zss.length + 200)) := (hRy.out.rd.alloc _).grown hg9 hrow hlt
              have hKp9 : Hid (Keep rb w w9) := ((hKp.out.trans hRy.out.keep).alloc _).grown hg9 hrow
              clear ow9 hg9 ha9
              go_wp2_with fail
              go_roundw
              case rel => exact ⟨k - 1, zss ++ [ys], by go_num, by rw [List.length_append]; simp; omega, by rw [Hid, List.all_append, hA.out]; simp [hBy.out], hRow9.out, hRd9.out.mono (by rw [List.length_append]; simp; omega), hKp9.out⟩
              case measure => simp [intOf]; omega
    · have hki : ¬ (0 : Int) < (k : Int) := by omega
      have e : k = 0 := by omega
      subst e
      have hl3 : zss.length ≤ 3 := by omega
      have hRw2 := hRw
      have hbk : Hid (banksB zss = true) := by
        show banksB zss = true
        unfold banksB
        rw [hA.out, Bool.and_true, inR_iff]
        omega
      go_wp2_with fail
      go_ret
      exact ⟨_, zss, rfl, hRw2.out, hbk.out, hl3, hRd'.out.mono (by omega), hKp.out⟩
end Go.Proofs.Ytlnpmanghkeieaa
