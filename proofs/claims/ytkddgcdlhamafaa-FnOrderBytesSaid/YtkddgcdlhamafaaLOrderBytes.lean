/- The law FnOrderBytes: for every input it answers true, and changes nothing that was there. No condition. -/
import Derived.Test.YtkddgcdlhamafaaDecode
import Derived.Test.YtkddgcdlhamafaaApp
import Derived.Test.YtkddgcdlhamafaaDrawOrd
namespace Go.Proofs.Ytkddgcdlhamafaa
open Go.ChangeShapes Go.WideShapes Go.ChangeAt Go.RowKit
set_option linter.unusedVariables false

theorem obytes_olen {o a : Int} (h : ovB o a = true) : ((obytes o a).length : Int) = olen o := by
  rcases olen_vals o with k | k | k | k
  · rw [ovB_0 k] at h; cases h
  · rw [obytes_1 h k, k]; rfl
  · rw [obytes_2 h k, k]; rfl
  · rw [obytes_3 h k, k]; rfl
theorem dec_obytes {o a : Int} (x : Int) (h : ovB o a = true) : decV ([7, 7] ++ obytes o a ++ [x]) 2 = .tuple #[.agg #[.int .i64 o, .int .i64 a], .int .i64 ((obytes o a).length : Int), .bool true] := by
  have hin : inR 2 0 ((([7, 7] ++ obytes o a ++ [x]).length : Int) - 1) = true := inR_iff.2 (by have := obytes_pos h; simp; omega)
  obtain ⟨a0, a1⟩ := ovB_bd h
  rw [decV_in hin, obytes_olen h]
  rcases olen_vals o with k | k | k | k
  · rw [ovB_0 k] at h; cases h
  · have ha : a = 0 := by rw [ovB_1 k] at h; simpa using h
    subst ha
    rw [obytes_1 h k, k]
    have e : dOp ([7, 7] ++ [o] ++ [x]) 2 = o := rfl
    rw [e, decX_1 k (by simp)]
  · have hb : byteB a = true := by rw [ovB_2 k] at h; exact h
    have hb' := byteB_iff.1 hb
    have hm : a % 256 = a := by omega
    rw [obytes_2 h k, k, hm]
    have e : dOp ([7, 7] ++ [o, a] ++ [x]) 2 = o := rfl
    have e1 : dz1 ([7, 7] ++ [o, a] ++ [x]) 2 = a := rfl
    rw [e, e1, decX_2 k (by simp) hb]
  · rw [obytes_3 h k, k]
    have e : dOp ([7, 7] ++ [o, a % 256, a / 256] ++ [x]) 2 = o := rfl
    have e1 : dz1 ([7, 7] ++ [o, a % 256, a / 256] ++ [x]) 2 = a % 256 := rfl
    have e2 : dz2 ([7, 7] ++ [o, a % 256, a / 256] ++ [x]) 2 = a / 256 := rfl
    rw [e, e1, e2, decX_3 k (by simp) (byteB_iff.2 (by omega)) (inR_iff.2 (by omega)), show a % 256 + 256 * (a / 256) = a by omega]
set_option maxHeartbeats 4000000 in
theorem walk_FnOrderBytes (v0 v1 : Value) (w : World) (y0 : IsBytes w v0) (y1 : IsBytes w v1) : Calls Try.prog 7 #[v0, v1] w fun e w' => e = .returned (.bool true) ∧ Below w.heap.size w w' := by
  have hY0 := Lib.hid y0
  obtain ⟨a0, len0, cap0, zs0, rfl, _⟩ := y0
  obtain ⟨a1, len1, cap1, zs1, rfl, _⟩ := y1
  by_cases hl : (1048576 : Int) < (len0 : Int)
  · go_enter Try.func7, Try.ntmps7
    go_wp2_with fail
    go_ret
    exact ⟨rfl, Below.refl _ _⟩
  by_cases hl1 : (1048576 : Int) < (len1 : Int)
  · go_enter Try.func7, Try.ntmps7
    go_wp2_with fail
    go_ret
    exact ⟨rfl, Below.refl _ _⟩
  go_enter Try.func7, Try.ntmps7
  go_wp2_with fail
  refine (draw_OrderBytes hY0.out).mono ?_
  rintro e w1 ⟨v, rfl, ⟨o1, a1, rfl⟩, hb1⟩
  obtain ⟨hc1, hf1⟩ := bcell hb1
  have hs1 : w.heap.size + 0 ≤ w1.heap.size := Nat.le_trans (by go_size) hb1.size
  have hB1 : Hid (Below w.heap.size w w1) := below_via hb1 (by repeat (first | with_reducible exact Below.refl _ _ | with_reducible refine below_via (by assumption) ?_ (by go_size) | with_reducible refine below_within (by assumption) ?_ (by go_size) (by omega) | with_reducible refine Below.alloc ?_ (by go_size) _ | with_reducible refine Below.setCell ?_ (by go_size) _ | with_reducible refine Below.drew ?_)) (by go_size)
  go_wp2_with fail
  refine (impl_OrderBytes _ _ _).mono ?_
  rintro e w2 ⟨v2, rfl, o2, hb2⟩
  obtain ⟨hc2, hf2⟩ := bcell hb2
  have hs2 : w1.heap.size + 1 ≤ w2.heap.size := Nat.le_trans (by go_size) hb2.size
  have z2_0 : w1.heap.size < w2.heap.size := Nat.lt_of_lt_of_le (by go_size) hb2.size
  have hB2 : Hid (Below w.heap.size w w2) := below_via hb2 (by repeat (first | with_reducible exact Below.refl _ _ | with_reducible refine below_via (by assumption) ?_ (by go_size) | with_reducible refine below_within (by assumption) ?_ (by go_size) (by omega) | with_reducible refine Below.alloc ?_ (by go_size) _ | with_reducible refine Below.setCell ?_ (by go_size) _ | with_reducible refine Below.drew ?_)) (by go_size)
  cases hv : ovB o1 a1
  · rw [obytes_no hv] at o2
    obtain ⟨ad2, cp2, rfl⟩ := own_shape o2
    go_wp2_with fail
    refine (spec_OrderBytes _ _ _).mono ?_
    rintro e w3 ⟨v3, rfl, o3, hb3⟩
    obtain ⟨hc3, hf3⟩ := bcell hb3
    have hs3 : w2.heap.size + 0 ≤ w3.heap.size := Nat.le_trans (by go_size) hb3.size
    have z3_0 : w1.heap.size < w3.heap.size := Nat.lt_of_lt_of_le (by go_size) hb3.size
    have hB3 : Hid (Below w.heap.size w w3) := below_via hb3 (by repeat (first | with_reducible exact Below.refl _ _ | with_reducible refine below_via (by assumption) ?_ (by go_size) | with_reducible refine below_within (by assumption) ?_ (by go_size) (by omega) | with_reducible refine Below.alloc ?_ (by go_size) _ | with_reducible refine Below.setCell ?_ (by go_size) _ | with_reducible refine Below.drew ?_)) (by go_size)
    rw [obytes_no hv] at o3
    go_wp2_with fail
    refine (sameInts_b (o2.agree (by (repeat (first | assumption | with_reducible exact Agree.refl _ _ _ | with_reducible refine agree_below (by assumption) ?_ (by first | omega | go_size) | with_reducible refine agree_within (by assumption) ?_ (by first | omega | go_size) (by omega) | with_reducible refine Agree.alloc ?_ (by first | omega | go_size) _ | with_reducible refine Agree.setCell ?_ (by omega) _ | with_reducible refine Agree.drew ?_)))).ints (o3.agree (by (repeat (first | assumption | with_reducible exact Agree.refl _ _ _ | with_reducible refine agree_below (by assumption) ?_ (by first | omega | go_size) | with_reducible refine agree_within (by assumption) ?_ (by first | omega | go_size) (by omega) | with_reducible refine Agree.alloc ?_ (by first | omega | go_size) _ | with_reducible refine Agree.setCell ?_ (by omega) _ | with_reducible refine Agree.drew ?_)))).ints).mono ?_
    rintro e w4 ⟨rfl, hb4⟩
    obtain ⟨hc4, hf4⟩ := bcell hb4
    have hs4 : w3.heap.size + 0 ≤ w4.heap.size := Nat.le_trans (by go_size) hb4.size
    have z4_0 : w1.heap.size < w4.heap.size := Nat.lt_of_lt_of_le (by go_size) hb4.size
    have hB4 : Hid (Below w.heap.size w w4) := below_via hb4 (by repeat (first | with_reducible exact Below.refl _ _ | with_reducible refine below_via (by assumption) ?_ (by go_size) | with_reducible refine below_within (by assumption) ?_ (by go_size) (by omega) | with_reducible refine Below.alloc ?_ (by go_size) _ | with_reducible refine Below.setCell ?_ (by go_size) _ | with_reducible refine Below.drew ?_)) (by go_size)
    go_wp2_with fail
    refine (spec_OrderValid _ _ _).mono ?_
    rintro e w5 ⟨rfl, hb5⟩
    obtain ⟨hc5, hf5⟩ := bcell hb5
    have hs5 : w4.heap.size + 0 ≤ w5.heap.size := Nat.le_trans (by go_size) hb5.size
    have z5_0 : w1.heap.size < w5.heap.size := Nat.lt_of_lt_of_le (by go_size) hb5.size
    have hB5 : Hid (Below w.heap.size w w5) := below_via hb5 (by repeat (first | with_reducible exact Below.refl _ _ | with_reducible refine below_via (by assumption) ?_ (by go_size) | with_reducible refine below_within (by assumption) ?_ (by go_size) (by omega) | with_reducible refine Below.alloc ?_ (by go_size) _ | with_reducible refine Below.setCell ?_ (by go_size) _ | with_reducible refine Below.drew ?_)) (by go_size)
    go_wp2_with fail
    refine (laws_alive _).mono ?_
    rintro e w' ⟨rfl, rfl⟩
    go_wp2_with fail
    go_ret
    exact ⟨rfl, by repeat (first | with_reducible exact Below.refl _ _ | with_reducible refine below_via (by assumption) ?_ (by go_size) | with_reducible refine below_within (by assumption) ?_ (by go_size) (by omega) | with_reducible refine Below.alloc ?_ (by go_size) _ | with_reducible refine Below.setCell ?_ (by go_size) _ | with_reducible refine Below.drew ?_)⟩
  · obtain ⟨ad2, cp2, rfl⟩ := own_shape o2
    obtain ⟨n, hn⟩ : ∃ n, n = (obytes o1 a1).length := ⟨_, rfl⟩
    have ho2 : Own w1.heap.size w2.heap.size w2 (.slice ad2 n cp2) (obytes o1 a1) := by rw [hn]; exact o2.wide (by simp) (Nat.le_refl _)
    rw [← hn]
    have hn3 : n ≤ 3 := by rw [hn]; exact obytes_len o1 a1
    have N := Lib.hid hn
    clear hn o2
    go_wp2_with fail
    refine (spec_OrderBytes _ _ _).mono ?_
    rintro e w3 ⟨v3, rfl, o3, hb3⟩
    obtain ⟨hc3, hf3⟩ := bcell hb3
    have hs3 : w2.heap.size + 0 ≤ w3.heap.size := Nat.le_trans (by go_size) hb3.size
    have z3_0 : w1.heap.size < w3.heap.size := Nat.lt_of_lt_of_le (by go_size) hb3.size
    have hB3 : Hid (Below w.heap.size w w3) := below_via hb3 (by repeat (first | with_reducible exact Below.refl _ _ | with_reducible refine below_via (by assumption) ?_ (by go_size) | with_reducible refine below_within (by assumption) ?_ (by go_size) (by omega) | with_reducible refine Below.alloc ?_ (by go_size) _ | with_reducible refine Below.setCell ?_ (by go_size) _ | with_reducible refine Below.drew ?_)) (by go_size)
    go_wp2_with fail
    refine (sameInts_b (ho2.agree (by (repeat (first | assumption | with_reducible exact Agree.refl _ _ _ | with_reducible refine agree_below (by assumption) ?_ (by first | omega | go_size) | with_reducible refine agree_within (by assumption) ?_ (by first | omega | go_size) (by omega) | with_reducible refine Agree.alloc ?_ (by first | omega | go_size) _ | with_reducible refine Agree.setCell ?_ (by omega) _ | with_reducible refine Agree.drew ?_)))).ints (o3.agree (by (repeat (first | assumption | with_reducible exact Agree.refl _ _ _ | with_reducible refine agree_below (by assumption) ?_ (by first | omega | go_size) | with_reducible refine agree_within (by assumption) ?_ (by first | omega | go_size) (by omega) | with_reducible refine Agree.alloc ?_ (by first | omega | go_size) _ | with_reducible refine Agree.setCell ?_ (by omega) _ | with_reducible refine Agree.drew ?_)))).ints).mono ?_
    rintro e w4 ⟨rfl, hb4⟩
    obtain ⟨hc4, hf4⟩ := bcell hb4
    have hs4 : w3.heap.size + 0 ≤ w4.heap.size := Nat.le_trans (by go_size) hb4.size
    have z4_0 : w1.heap.size < w4.heap.size := Nat.lt_of_lt_of_le (by go_size) hb4.size
    have hB4 : Hid (Below w.heap.size w w4) := below_via hb4 (by repeat (first | with_reducible exact Below.refl _ _ | with_reducible refine below_via (by assumption) ?_ (by go_size) | with_reducible refine below_within (by assumption) ?_ (by go_size) (by omega) | with_reducible refine Below.alloc ?_ (by go_size) _ | with_reducible refine Below.setCell ?_ (by go_size) _ | with_reducible refine Below.drew ?_)) (by go_size)
    go_wp2_with fail
    refine (spec_OrderValid _ _ _).mono ?_
    rintro e w5 ⟨rfl, hb5⟩
    obtain ⟨hc5, hf5⟩ := bcell hb5
    have hs5 : w4.heap.size + 0 ≤ w5.heap.size := Nat.le_trans (by go_size) hb5.size
    have z5_0 : w1.heap.size < w5.heap.size := Nat.lt_of_lt_of_le (by go_size) hb5.size
    have hB5 : Hid (Below w.heap.size w w5) := below_via hb5 (by repeat (first | with_reducible exact Below.refl _ _ | with_reducible refine below_via (by assumption) ?_ (by go_size) | with_reducible refine below_within (by assumption) ?_ (by go_size) (by omega) | with_reducible refine Below.alloc ?_ (by go_size) _ | with_reducible refine Below.setCell ?_ (by go_size) _ | with_reducible refine Below.drew ?_)) (by go_size)
    skip
    have hl1' : (len1 : Int).tmod 256 = (len1 : Int) % 256 := Int.tmod_eq_emod_of_nonneg (by omega)
    have hd := dec_obytes ((len1 : Int) % 256) hv
    have hlen := obytes_olen hv
    rw [← N.out] at hd hlen
    obtain ⟨L, hL⟩ : ∃ L, L = [7, 7] ++ obytes o1 a1 := ⟨_, rfl⟩
    rw [← hL] at hd
    have hLn : L.length ≤ 5 := by rw [hL]; have := obytes_len o1 a1; simp; omega
    have hLH := Lib.hid hL
    have HD := Lib.hid hd
    have HL := Lib.hid hlen
    clear hL hd hlen
    go_wp2_with (first
      | (at_builtin; refine wp_appI rfl (.tmp 37) (.tmp 38) rfl w5.heap.size _ _ [7, 7] (obytes o1 a1) rfl rfl (OwnV.lit _ _ (Nat.le_refl _) rfl (by decide)) (ho2.agree (by (repeat (first | assumption | with_reducible exact Agree.refl _ _ _ | with_reducible refine agree_below (by assumption) ?_ (by first | omega | go_size) | with_reducible refine agree_within (by assumption) ?_ (by first | omega | go_size) (by omega) | with_reducible refine Agree.alloc ?_ (by first | omega | go_size) _ | with_reducible refine Agree.setCell ?_ (by omega) _ | with_reducible refine Agree.drew ?_)))).ints (by have := obytes_len o1 a1; simp; omega) (by simp) ?_; intro v6 w6 ow6 hg6 ha6; rw [← hLH.out] at ow6; have hb6 : Below w5.heap.size w5 w6 := below_app ((Below.refl _ _).alloc (Nat.le_refl _) _) hg6 (OwnV.lit (w := w5) #[.int .i64 7, .int .i64 7] 3 (Nat.le_refl _) rfl (by decide)) (by simp) (Nat.le_refl _); obtain ⟨hc6, hf6⟩ := bcell hb6; have hs6 : w5.heap.size + 1 ≤ w6.heap.size := Nat.le_trans (by simp) hg6.size; have z6 : w1.heap.size < w6.heap.size := (by omega); clear ha6)
      | (at_builtin; refine wp_appI rfl (.tmp 39) (.tmp 43) rfl w5.heap.size _ _ L [(len1 : Int) % 256] rfl rfl ?_ ?_ ?_ ?_ ?_; exact ow6.alloc _; exact ints_lit1 _ _ _; (simp; omega); (simp; omega); intro v7 w7 ow7 hg7 ha7; have hb7 : Below w5.heap.size w5 w7 := below_app (hb6.alloc (by omega) _) hg7 ow6 (by simp; omega) (Nat.le_refl _); obtain ⟨hc7, hf7⟩ := bcell hb7; have hs7 : w5.heap.size + 1 ≤ w7.heap.size := Nat.le_trans hs6 (Nat.le_trans (by simp) hg7.size); have z7 : w1.heap.size < w7.heap.size := (by omega); clear ha7))
    have HI := Lib.hid (OwnV.own ow7).ints
    clear ow6 ow7 hg6 hg7
    have q0 : w7.cell? ⟨w1.heap.size, 0, none⟩ = some (.int .i64 o1) := cell_be hb7 (by (repeat (first | assumption | (simp [go_sem]; done) | with_reducible refine cell_be (by assumption) ?_ (by go_size) | with_reducible refine cell_al _ ?_))) (by omega)
    have q1 : w7.cell? ⟨w1.heap.size, 1, none⟩ = some (.int .i64 a1) := cell_be hb7 (by (repeat (first | assumption | (simp [go_sem]; done) | with_reducible refine cell_be (by assumption) ?_ (by go_size) | with_reducible refine cell_al _ ?_))) (by omega)
    clear hc1 hc2 hc3 hc4 hc5 hc6 hc7 hf1 hf2 hf3 hf4 hf5 hf6 hf7
    refine (impl_DecodeOrder _ HI.out).mono ?_
    rintro e w8 ⟨rfl, hb8⟩
    rw [HD.out]
    have p0 := carry_cell hb8 q0
    have p1 := carry_cell hb8 q1
    have hE := eqOrd o1 a1 o1 a1
    have hG := eqOrdG
    have z8 : w1.heap.size < w8.heap.size := Nat.lt_of_lt_of_le z7 hb8.size
    go_wp2_with fail
    refine (impl_OrderLength _ _).mono ?_
    rintro e w9 ⟨rfl, hb9⟩
    rw [← HL.out]
    go_wp2_with fail
    go_ret
    refine ⟨rfl, ?_⟩
    have k7 : Below w.heap.size w w7 := hB5.out.trans (hb7.mono hB5.out.size)
    exact below_via hb9 (Below.alloc (below_via hb8 k7 k7.size) (Nat.le_trans k7.size hb8.size) _) (Nat.le_trans k7.size (Nat.le_trans hb8.size (by simp)))
set_option maxRecDepth 100000 in
theorem lifted_FnOrderBytes (os : Os) (started : os.Started) (H : Type) (enc : TypeId × Value → H) :
    ReturnsInHanded {} Try.checked os 7 .any (Rows.fnOrderBytesSpec.pre6 enc Try.prog Try.f7 Rows.fnOrderBytesRow.domain false) (Rows.fnOrderBytesSpec.post enc Try.prog Try.f7 false true false false) := by
  refine returnsInHanded_of_change (C := Try.checked) own started (by kernel_rfl) Try.func7
    (ChangeSpec.witness6 (enc := enc) (C := Try.checked) false ⟨#[], #[.slice none 0 0, .slice none 0 0], []⟩ 8 (by kernel_rfl) (by kernel_rfl) (by kernel_rfl) (by kernel_rfl)) ?_
  intro W base args ds gs before hval0 hW hcnd _
  have hval : ∀ (j : Nat) t v, Try.f7.params[j]? = some t → args[j]? = some v → Value.okWide Try.prog W .any base t v := hval0
  have hW' := hW
  obtain ⟨p, q, hA0, hV, rfl, hfz, hnd⟩ := hW
  have hA : DataW.TrodAll enc Try.prog W 0 (fun _ => true) true Try.f7.params.toList args.toList ds p := hA0
  rw [Try.params7] at hA hval
  obtain ⟨v0, vs0, d0, ds0, p0, q0, hargs, rfl, rfl, h0, r0⟩ := trodAll_cons hA
  obtain ⟨v1, vs1, d1, ds1, p1, q1, rfl, rfl, rfl, h1, r1⟩ := trodAll_cons r0
  obtain ⟨rfl, rfl, rfl⟩ := trodAll_nil r1
  obtain rfl : args = #[v0, v1] := by cases args; simp_all
  obtain ⟨rfl, rfl⟩ := trodVars_none hV
  have lt0 : ∀ x ∈ p0, x.block < W.heap.size := by obtain ⟨m, hm⟩ := h0; exact DataW.trod_lt m _ _ _ hm
  have y0 := read_bytes (hval 0 22 v0 rfl rfl) h0
  have lt1 : ∀ x ∈ p1, x.block < W.heap.size := by obtain ⟨m, hm⟩ := h1; exact DataW.trod_lt m _ _ _ hm
  have y1 := read_bytes (hval 1 22 v1 rfl rfl) h1
  clear hA0 hval0
  refine (walk_FnOrderBytes v0 v1 W y0 y1).mono fun e W' ⟨he, bel⟩ => ?_
  subst he
  exact ⟨_, rfl, _, _, _, [], _, [], hW', trodAll_mk1 (shut_bool Try.underlying4 _), (trodAll_cons_mk (Below.trod laidOut (by kernel_rfl) (of_decide_eq_true (by kernel_rfl)) h0 bel lt0) (trodAll_cons_mk (Below.trod laidOut (by kernel_rfl) (of_decide_eq_true (by kernel_rfl)) h1 bel lt1) trodAll_mk0)), rfl, bel.frame _, fun h => by cases h⟩
theorem closed_FnOrderBytes : joinedFacts Try.prog 7 Try.f7 Rows.fnOrderBytesSpec Rows.fnOrderBytesRow = true := by
  unfold joinedFacts
  rw [shared.1, shared.2.1, shared.2.2.1, shared.2.2.2]
  kernel_rfl
/-- The given statement of FnOrderBytes. -/
theorem FnOrderBytes_holds : Rows.FnOrderBytesSaid :=
  OpenClaim.holds_of_wide 7 Try.f7 rfl rfl rfl rfl rfl rfl rfl ⟨rfl, rfl, rfl, rfl, rfl⟩ rfl rfl rfl rfl rfl (by kernel_rfl) Try.func7 closed_FnOrderBytes
    (of_decide_eq_true (by kernel_rfl)) (by unfold Func.isWrapper; first | (rw [if_pos (by decide +kernel)]; kernel_rfl) | (rw [if_neg (by decide +kernel)]; exact ⟨rfl, rfl⟩))
    (fun os started H enc _ => lifted_FnOrderBytes os started H enc)

end Go.Proofs.Ytkddgcdlhamafaa
