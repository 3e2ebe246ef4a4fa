/- The walk of the reference's ParseOrder. Condition: a text of at most 2^20 bytes. -/
import Derived.Test.YthplgehdgaeapaaDoorParseI
namespace Go.Proofs.YthplgehdgaeapaaDoor
open Go.RowKit
set_option linter.unusedVariables false
set_option linter.unusedSimpArgs false

/-- What the digits of the first k bytes give. -/
def accK (s : ByteArray) (k : Nat) : Int := (s.data.toList.take k).foldl accStep 0
theorem accStep_bd {a : Int} {b : UInt8} (h0 : 0 ≤ a) (h1 : a < 100000) : 0 ≤ accStep a b ∧ accStep a b < 100000 := by
  unfold accStep
  split
  · omega
  · exact ⟨h0, h1⟩
theorem accK_succ {s : ByteArray} {k : Nat} (hk : k < s.size) : accK s (k + 1) = accStep (accK s k) s[k] := by
  have hl : k < s.data.toList.length := by rw [Array.length_toList]; exact hk
  unfold accK
  rw [List.take_succ_eq_append_getElem hl, List.foldl_append]
  rfl
theorem accK_bd (s : ByteArray) : ∀ k : Nat, 0 ≤ accK s k ∧ accK s k < 100000
  | 0 => ⟨Int.le_refl _, by show (0 : Int) < _; omega⟩
  | k + 1 => by
    have ih := accK_bd s k
    rcases Nat.lt_or_ge k s.size with h | h
    · rw [accK_succ h]; exact accStep_bd ih.1 ih.2
    · have : accK s (k + 1) = accK s k := by
        have hl : s.data.toList.length = s.size := Array.length_toList
        unfold accK
        rw [List.take_of_length_le (by omega), List.take_of_length_le (by omega)]
      rw [this]; exact ih
theorem accK_all (s : ByteArray) : accK s s.size = accL s.data.toList := by
  have hl : s.data.toList.length = s.size := Array.length_toList
  unfold accK accL
  rw [List.take_of_length_le (by omega)]
theorem pn_long {s : ByteArray} (h : s = ⟨#[]⟩ ∨ 12 < s.size) : ∀ op' arg', ovB op' arg' = true → fmtS op' arg' ≠ s := by
  intro op' arg' hv e
  rcases h with h | h
  · exact fmt_ne hv (e.trans h)
  · have := fmt_len hv
    rw [e] at this
    omega
theorem pn_none {s : ByteArray} (h : ∀ i : Nat, i < 16 → fmtS i (accL s.data.toList) ≠ s) : ∀ op' arg', ovB op' arg' = true → fmtS op' arg' ≠ s := by
  intro op' arg' hv e
  have hop := inR_iff.1 (ovB_op hv)
  have ha := acc_fmt hv
  rw [e] at ha
  refine h op'.toNat (by omega) ?_
  rw [ha, show ((op'.toNat : Nat) : Int) = op' by omega]
  exact e
theorem py_any {s : ByteArray} {op n : Int} (h0 : s ≠ ⟨#[]⟩) (e : fmtS op n = s) : IsParse s op n true := by
  refine ⟨?_, e⟩
  cases hv : ovB op n
  · rw [fmtS_no hv] at e; exact absurd e.symm h0
  · rfl
set_option maxHeartbeats 4000000 in
set_option maxRecDepth 100000 in
theorem spec_ParseOrder (s : ByteArray) (hs : s.size ≤ 1048576) (w : World) : Calls Tryd.prog 27 #[.string s] w (MadeParse s w) := by
  by_cases h0 : s = ⟨#[]⟩
  · have PN := Lib.hid (parse_no (pn_long (.inl h0)))
    subst h0
    go_enter Tryd.func27, Tryd.ntmps27
    go_wp2_with fail
    refine bodyPost_ret (v := .tuple #[.agg #[.int .i64 0, .int .i64 0], .bool false]) (by simp [results, Tryd.results27, go_sem]) rfl ⟨0, 0, false, PN.out, rfl, ?_⟩
    repeat (first | with_reducible exact Below.refl _ _ | with_reducible refine below_via (by assumption) ?_ (by go_size) | with_reducible refine below_within (by assumption) ?_ (by go_size) (by omega) | with_reducible refine Below.alloc ?_ (by go_size) _ | with_reducible refine Below.setCell ?_ (by go_size) _ | with_reducible refine Below.drew ?_)
  have hq : s.toList.isEmpty = false := by
    rw [ByteArray.toList_eq]
    cases hc : s.data.toList with
    | nil => exact absurd (WideShapes.bytes_inj (b := ⟨#[]⟩) hc) h0
    | cons a l => rfl
  by_cases h1 : 12 < s.size
  · have PN := Lib.hid (parse_no (pn_long (.inr h1)))
    go_enter Tryd.func27, Tryd.ntmps27
    go_wp2_with fail
    refine bodyPost_ret (v := .tuple #[.agg #[.int .i64 0, .int .i64 0], .bool false]) (by simp [results, Tryd.results27, go_sem]) rfl ⟨0, 0, false, PN.out, rfl, ?_⟩
    repeat (first | with_reducible exact Below.refl _ _ | with_reducible refine below_via (by assumption) ?_ (by go_size) | with_reducible refine below_within (by assumption) ?_ (by go_size) (by omega) | with_reducible refine Below.alloc ?_ (by go_size) _ | with_reducible refine Below.setCell ?_ (by go_size) _ | with_reducible refine Below.drew ?_)
  · go_enter Tryd.func27, Tryd.ntmps27
    go_wp2_with fail
    obtain ⟨X, hX⟩ : ∃ X, X = w.alloc (.cells #[.int .i64 0, .int .i64 0] 35) := ⟨_, rfl⟩
    have xs : X.heap.size = w.heap.size + 1 := by rw [hX]; simp
    have xb : Below w.heap.size w X := by rw [hX]; exact (Below.refl _ _).alloc (Nat.le_refl _) _
    have x0 : X.cell? ⟨w.heap.size, 0, none⟩ = some (.int .i64 0) := by rw [hX]; simp
    have x1 : X.cell? ⟨w.heap.size, 1, none⟩ = some (.int .i64 0) := by rw [hX]; simp
    have xf : ∀ i, X.frozen? ⟨w.heap.size, i, none⟩ = false := fun i => by rw [hX]; simp [go_sem]
    rw [← hX]
    clear hX
    go_loopw [4, 5] (fun u4 u5 wr => ∃ k : Nat, k ≤ s.size ∧ u5 = .int .i64 k ∧ u4 = .int .i64 (accK s k) ∧ wr = X)
      (fun _ u5 _ => s.size - (intOf u5).toNat)
    case atStart => exact ⟨0, Nat.zero_le _, rfl, rfl, rfl⟩
    case round =>
      obtain ⟨k, hk, rfl, rfl, rfl⟩ := hrel
      rcases Nat.lt_or_ge k s.size with hlt | hge
      · have hstep := accK_succ hlt
        have hbd := accK_bd s k
        obtain ⟨a, ha⟩ : ∃ a, a = accK s k := ⟨_, rfl⟩
        obtain ⟨b, hb⟩ : ∃ b : UInt8, b = s[k] := ⟨_, rfl⟩
        rw [← ha, ← hb] at hstep
        rw [← ha] at hbd ⊢
        have hi : (k : Int) < s.size := by omega
        have hkn : 0 ≤ (k : Int) := by omega
        have ix : ∀ W, (Instr.index 9 (.string s) (.int .i64 k)).run Tryd.prog W = .ok (.int .u8 b.toNat) W := fun W => by
          rw [run_index_string W _ s .i64 k Tryd.underlying9, dif_pos ⟨hkn, hi⟩, hb]
          rfl
        have hb2 : b.toNat < 256 := b.toNat_lt
        clear ha hb
        by_cases g1 : 48 ≤ b.toNat
        · by_cases g2 : b.toNat ≤ 57
          · by_cases g3 : a < 10000
            · have e1 : accStep a b = 10 * a + ((b.toNat : Int) - 48) := by unfold accStep; rw [if_pos ⟨g1, g2, g3⟩]
              rw [e1] at hstep
              clear e1
              generalize b.toNat = bn at *
              go_wp2_with fail
              exact ⟨⟨k + 1, by omega, by go_num, by rw [hstep], trivial⟩, by simp [intOf]; omega⟩
            · have e1 : accStep a b = a := by unfold accStep; rw [if_neg (fun h => g3 h.2.2)]
              rw [e1] at hstep
              clear e1
              generalize b.toNat = bn at *
              go_wp2_with fail
              exact ⟨⟨k + 1, by omega, by go_num, by rw [hstep], trivial⟩, by simp [intOf]; omega⟩
          · have e1 : accStep a b = a := by unfold accStep; rw [if_neg (fun h => g2 h.2.1)]
            rw [e1] at hstep
            clear e1
            generalize b.toNat = bn at *
            go_wp2_with fail
            exact ⟨⟨k + 1, by omega, by go_num, by rw [hstep], trivial⟩, by simp [intOf]; omega⟩
        · have e1 : accStep a b = a := by unfold accStep; rw [if_neg (fun h => g1 h.1)]
          rw [e1] at hstep
          clear e1
          generalize b.toNat = bn at *
          go_wp2_with fail
          exact ⟨⟨k + 1, by omega, by go_num, by rw [hstep], trivial⟩, by simp [intOf]; omega⟩
      · have : k = s.size := by omega
        subst this
        rw [accK_all]
        obtain ⟨A, hA⟩ : ∃ A, A = accL s.data.toList := ⟨_, rfl⟩
        have PN := Lib.hid (fun h => parse_no (pn_none (s := s) h))
        rw [← hA] at PN ⊢
        clear hA hk hge hs h1
        go_wp2_with fail
        obtain ⟨wo, hwo⟩ : ∃ wo, wo = wr := ⟨_, rfl⟩
        subst hwo
        have hwo : w.heap.size < wo.heap.size := by omega
        go_loopw [6] (fun u6 wr => ∃ k : Nat, k ≤ 16 ∧ u6 = .int .i64 k ∧ (∀ i : Nat, i < k → fmtS i A ≠ s) ∧ Below wo.heap.size wo wr) (fun u6 _ => 16 - (intOf u6).toNat)
        case atStart => exact ⟨0, Nat.zero_le _, rfl, fun i hi => absurd hi (Nat.not_lt_zero _), Below.refl _ _⟩
        case round =>
          obtain ⟨k, hk, rfl, hno, hnx⟩ := hrel
          rcases Nat.lt_or_ge k 16 with hlt | hge
          · have hX := (Below.refl wr.heap.size wr).alloc (Nat.le_refl _) (.cells #[.int .i64 k, .int .i64 A] 35)
            have hk15 : (k : Int) ≤ 15 := by omega
            by_cases he : fmtS k A = s
            · have PY := Lib.hid (py_any h0 he)
              have hne : ((fmtS k A).toList == s.toList) = true := by rw [he]; exact beq_self_eq_true _
              clear he hno
              go_wp2_with (go_at_call 20; refine (spec_FormatOrder k A _).mono ?_; rintro e w3 ⟨rfl, hb3⟩; (have hs3 : wr.heap.size < w3.heap.size := Nat.lt_of_lt_of_le (by go_size) hb3.size); (have hW3 : Below wo.heap.size wo w3 := hnx.trans ((hX.trans (hb3.mono hX.size)).mono hnx.size)); (have q0 := (hW3.cell (p := ⟨w.heap.size, 0, none⟩) hwo).trans x0); (have q1 := (hW3.cell (p := ⟨w.heap.size, 1, none⟩) hwo).trans x1); (have k0 := (hb3.cell (p := ⟨wr.heap.size, 0, none⟩) (by go_size)).trans (show (wr.alloc (.cells #[.int .i64 k, .int .i64 A] 35)).cell? ⟨wr.heap.size, 0, none⟩ = some (.int .i64 k) by simp)); (have k1 := (hb3.cell (p := ⟨wr.heap.size, 1, none⟩) (by go_size)).trans (show (wr.alloc (.cells #[.int .i64 k, .int .i64 A] 35)).cell? ⟨wr.heap.size, 1, none⟩ = some (.int .i64 A) by simp)); (have qf : ∀ i, w3.frozen? ⟨w.heap.size, i, none⟩ = false := fun i => (hW3.frozen (p := ⟨w.heap.size, i, none⟩) hwo).trans (xf i)))
              refine bodyPost_ret (v := .tuple #[.agg #[.int .i64 k, .int .i64 A], .bool true]) (by simp [results, Tryd.results27, go_sem, q0, q1, k0, k1]) rfl ⟨k, A, true, PY.out, rfl, ?_⟩
              have hWW : Below w.heap.size w w3 := xb.trans (hW3.mono (Nat.le_of_lt hwo))
              repeat (first | with_reducible exact hWW | refine Below.setCell ?_ (by show w.heap.size ≤ w.heap.size; omega) _)
            · have hno2 := Lib.hid (show ∀ i : Nat, i < k + 1 → fmtS i A ≠ s from fun i hi => by
                rcases Nat.lt_or_ge i k with h | h
                · exact hno i h
                · rwa [show i = k by omega])
              have hne := str_ne he
              clear he hno
              go_wp2_with (go_at_call 20; refine (spec_FormatOrder k A _).mono ?_; rintro e w3 ⟨rfl, hb3⟩; (have hs3 : wr.heap.size < w3.heap.size := Nat.lt_of_lt_of_le (by go_size) hb3.size); (have hW3 : Below wo.heap.size wo w3 := hnx.trans ((hX.trans (hb3.mono hX.size)).mono hnx.size)); (have q0 := (hW3.cell (p := ⟨w.heap.size, 0, none⟩) hwo).trans x0); (have q1 := (hW3.cell (p := ⟨w.heap.size, 1, none⟩) hwo).trans x1); (have k0 := (hb3.cell (p := ⟨wr.heap.size, 0, none⟩) (by go_size)).trans (show (wr.alloc (.cells #[.int .i64 k, .int .i64 A] 35)).cell? ⟨wr.heap.size, 0, none⟩ = some (.int .i64 k) by simp)); (have k1 := (hb3.cell (p := ⟨wr.heap.size, 1, none⟩) (by go_size)).trans (show (wr.alloc (.cells #[.int .i64 k, .int .i64 A] 35)).cell? ⟨wr.heap.size, 1, none⟩ = some (.int .i64 A) by simp)); (have qf : ∀ i, w3.frozen? ⟨w.heap.size, i, none⟩ = false := fun i => (hW3.frozen (p := ⟨w.heap.size, i, none⟩) hwo).trans (xf i)))
              go_roundw
              case rel => exact ⟨k + 1, by omega, by go_num, hno2.out, hW3⟩
              case measure => simp [intOf]; omega
          · have : k = 16 := by omega
            subst this
            have PN2 := Lib.hid (PN.out hno)
            have r0 := (hnx.cell (p := ⟨w.heap.size, 0, none⟩) hwo).trans x0
            have r1 := (hnx.cell (p := ⟨w.heap.size, 1, none⟩) hwo).trans x1
            have rf : ∀ i, wr.frozen? ⟨w.heap.size, i, none⟩ = false := fun i => (hnx.frozen (p := ⟨w.heap.size, i, none⟩) hwo).trans (xf i)
            clear hno PN
            go_wp2_with fail
            refine bodyPost_ret (v := .tuple #[.agg #[.int .i64 0, .int .i64 0], .bool false]) (by simp [results, Tryd.results27, go_sem, r0, r1]) rfl ⟨0, 0, false, PN2.out, rfl, ?_⟩
            have hWW : Below w.heap.size w wr := xb.trans (hnx.mono (Nat.le_of_lt hwo))
            repeat (first | with_reducible exact hWW | refine Below.setCell ?_ (by show w.heap.size ≤ w.heap.size; omega) _)
end Go.Proofs.YthplgehdgaeapaaDoor
