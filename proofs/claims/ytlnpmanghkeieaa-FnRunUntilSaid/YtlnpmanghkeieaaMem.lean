/- The walks of the functions on memories that only look: which memories are valid. No condition. -/
import Derived.Test.YtlnpmanghkeieaaMatWrite
namespace Go.Proofs.Ytlnpmanghkeieaa
open Go.RowKit

theorem Ints.alloc {w : World} {v : Value} {zs : List Int} (h : Ints w v zs) (o : Obj) : Ints (w.alloc o) v zs := h.below ((Below.refl _ _).alloc (Nat.le_refl _) o)
theorem Mat.alloc {w : World} {v : Value} {zss : List (List Int)} (h : Mat w v zss) (o : Obj) : Mat (w.alloc o) v zss := h.below ((Below.refl _ _).alloc (Nat.le_refl _) o)
theorem cell_sc {W : World} {b o b' o' : Nat} {v u : Value} (h : W.cell? ⟨b, o, none⟩ = some v) (hn : b ≠ b' ∨ o ≠ o') : (W.setCell ⟨b', o', none⟩ u).cell? ⟨b, o, none⟩ = some v :=
  (World.cell?_setCell_other _ _ _ _ (by intro e; injection e with e1 e2; omega)).trans h
theorem ints_shape {w : World} {v : Value} {zs : List Int} (h : Ints w v zs) : ∃ a cap, v = .slice a zs.length cap ∧ zs.length ≤ cap ∧ (cap : Int) ≤ 9223372036854775807 := by
  obtain ⟨a, cap, rfl, h1, h2, _⟩ := h
  unfold maxLen at h2
  exact ⟨a, cap, rfl, h1, by omega⟩
theorem mat_shape {w : World} {v : Value} {zss : List (List Int)} (h : Mat w v zss) : ∃ a cap, v = .slice a zss.length cap ∧ zss.length ≤ cap ∧ (cap : Int) ≤ 9223372036854775807 := by
  obtain ⟨a, cap, rfl, h1, h2, _⟩ := h
  unfold maxLen at h2
  exact ⟨a, cap, rfl, h1, by omega⟩
def allB (zs : List Int) : Bool := zs.all byteB
def bankB (zs : List Int) : Bool := decide (zs.length = 256) && allB zs
def banksB (rom : List (List Int)) : Bool := inR rom.length 1 4 && rom.all bankB
/-- Is a memory valid? -/
def memB (ram : List Int) (rom : List (List Int)) (bank : Int) : Bool := bankB ram && banksB rom && inR bank 0 ((rom.length : Int) - 1)
theorem all_take_not {α : Type} {p : α → Bool} {zs : List α} {k : Nat} {x : α} (_hk : k < zs.length) (hx : zs[k]? = some x) (h : p x = false) : zs.all p = false := by
  rw [List.all_eq_false]
  exact ⟨x, List.mem_of_getElem? hx, by simp [h]⟩
theorem all_take_succ {α : Type} {p : α → Bool} {zs : List α} {k : Nat} {x : α} (_hk : k < zs.length) (hx : zs[k]? = some x) (h : p x = true) (ht : (zs.take k).all p = true) : (zs.take (k + 1)).all p = true := by
  rw [List.take_add_one, hx]
  simp [List.all_append, ht, h]
theorem getD_some {zs : List Int} {k : Nat} (hk : k < zs.length) : zs[k]? = some (zs.getD k 0) := by simp [List.getD_eq_getElem?_getD, hk]
theorem getD_some_row {zss : List (List Int)} {k : Nat} (hk : k < zss.length) : zss[k]? = some (zss.getD k []) := by simp [List.getD_eq_getElem?_getD, hk]
set_option maxHeartbeats 1000000 in
theorem impl_allBytes {v : Value} {zs : List Int} {w : World} (h : Ints w v zs) : Calls Try.prog 63 #[v] w fun e w' => e = .returned (.bool (allB zs)) ∧ w = w' := by
  obtain ⟨a, cap, rfl, hlc, hcap, hcells⟩ := h
  unfold maxLen at hcap
  obtain ⟨n, hn⟩ : ∃ n, n = zs.length := ⟨_, rfl⟩
  have hsrc : ∀ k, k < n → ∃ b off, a = some ⟨b, off, none⟩ ∧ w.cell? ⟨b, off + k, none⟩ = some (.int .i64 (zs.getD k 0)) := fun k hk => by
    rcases hcells with h0 | ⟨b, off, rfl, hc⟩
    · rw [h0] at hn; simp at hn; omega
    · exact ⟨b, off, rfl, hc k (by omega)⟩
  have N := Lib.hid hn
  rw [← hn] at hlc ⊢
  have S := Lib.hid hsrc
  have hn1 : (n : Int) ≤ 9223372036854775807 := by omega
  clear hn hsrc hcells
  go_enter Try.func63, Try.ntmps63
  go_wp2
  go_loop [7] (fun i => ∃ k : Nat, k ≤ n ∧ i = .int .i64 k ∧ Hid ((zs.take k).all byteB = true)) (fun i => n - (intOf i).toNat)
  case atStart => exact ⟨0, Nat.zero_le _, rfl, rfl⟩
  case round =>
    obtain ⟨k, hk, rfl, hT⟩ := hrel
    by_cases hlt : k < n
    · obtain ⟨b, off, rfl, hc⟩ := S.out k hlt
      have hki : (k : Int) < (n : Int) := by omega
      have hkl : k < zs.length := by have := N.out; omega
      have T1 : Hid (byteB (zs.getD k 0) = true → (zs.take (k + 1)).all byteB = true) := fun e => all_take_succ hkl (getD_some hkl) e hT.out
      have T2 : Hid (byteB (zs.getD k 0) = false → allB zs = false) := fun e => all_take_not hkl (getD_some hkl) e
      generalize zs.getD k 0 = x at *
      cases hx : byteB x
      · go_wp2_with (first | (go_at_call 38; refine (impl_isByte _ _).mono ?_; rintro e w' ⟨rfl, rfl⟩))
        go_ret
        exact ⟨ret_bool (T2.out hx).symm, rfl⟩
      · go_wp2_with (first | (go_at_call 38; refine (impl_isByte _ _).mono ?_; rintro e w' ⟨rfl, rfl⟩))
        go_round
        case rel => exact ⟨k + 1, by omega, by go_num, T1.out hx⟩
        case measure => simp [intOf]; omega
    · have hki : ¬ (k : Int) < (n : Int) := by omega
      have E : Hid (allB zs = true) := by
        have e : k = zs.length := by have := N.out; omega
        have := hT.out
        rwa [e, List.take_length] at this
      go_wp2
      go_ret
      exact ⟨ret_bool E.out.symm, rfl⟩
set_option maxHeartbeats 1000000 in
theorem spec_l2Bytes {v : Value} {zs : List Int} {w : World} (h : Ints w v zs) : Calls Try.prog 51 #[v, .int .i64 256] w fun e w' => e = .returned (.bool (bankB zs)) ∧ w = w' := by
  obtain ⟨a, cap, rfl, hlc, hcap, hcells⟩ := h
  unfold maxLen at hcap
  obtain ⟨n, hn⟩ : ∃ n, n = zs.length := ⟨_, rfl⟩
  have hsrc : ∀ k, k < n → ∃ b off, a = some ⟨b, off, none⟩ ∧ w.cell? ⟨b, off + k, none⟩ = some (.int .i64 (zs.getD k 0)) := fun k hk => by
    rcases hcells with h0 | ⟨b, off, rfl, hc⟩
    · rw [h0] at hn; simp at hn; omega
    · exact ⟨b, off, rfl, hc k (by omega)⟩
  have N := Lib.hid hn
  rw [← hn] at hlc ⊢
  have S := Lib.hid hsrc
  have hn1 : (n : Int) ≤ 9223372036854775807 := by omega
  clear hn hsrc hcells
  go_enter Try.func51, Try.ntmps51
  go_wp2
  go_loop [5] (fun i => ∃ k : Nat, k ≤ n ∧ i = .int .i64 k ∧ Hid ((zs.take k).all byteB = true)) (fun i => n - (intOf i).toNat)
  case atStart => exact ⟨0, Nat.zero_le _, rfl, rfl⟩
  case round =>
    obtain ⟨k, hk, rfl, hT⟩ := hrel
    by_cases hlt : k < n
    · obtain ⟨b, off, rfl, hc⟩ := S.out k hlt
      have hki : (k : Int) < (n : Int) := by omega
      have hkl : k < zs.length := by have := N.out; omega
      have T1 : Hid (byteB (zs.getD k 0) = true → (zs.take (k + 1)).all byteB = true) := fun e => all_take_succ hkl (getD_some hkl) e hT.out
      have T2 : Hid (byteB (zs.getD k 0) = false → bankB zs = false) := fun e => by
        show bankB zs = false
        unfold bankB allB
        rw [all_take_not hkl (getD_some hkl) e, Bool.and_false]
      generalize zs.getD k 0 = x at *
      cases hx : byteB x
      · go_wp2_with (first | (go_at_call 33; refine (spec_l1Byte _ _).mono ?_; rintro e w' ⟨rfl, rfl⟩))
        go_ret
        exact ⟨ret_bool (T2.out hx).symm, rfl⟩
      · go_wp2_with (first | (go_at_call 33; refine (spec_l1Byte _ _).mono ?_; rintro e w' ⟨rfl, rfl⟩))
        go_round
        case rel => exact ⟨k + 1, by omega, by go_num, T1.out hx⟩
        case measure => simp [intOf]; omega
    · have hki : ¬ (k : Int) < (n : Int) := by omega
      have E : Hid (bankB zs = ((n : Int) == 256)) := by
        show _ = _
        have e : k = zs.length := by have := N.out; omega
        have := hT.out
        rw [e, List.take_length] at this
        unfold bankB allB
        rw [this, Bool.and_true, N.out, Bool.eq_iff_iff]
        simp
        omega
      go_wp2
      go_ret
      exact ⟨ret_bool E.out.symm, rfl⟩
set_option maxHeartbeats 1000000 in
theorem impl_banksValid {v : Value} {zss : List (List Int)} {w : World} (h : Mat w v zss) : Calls Try.prog 64 #[v] w fun e w' => e = .returned (.bool (banksB zss)) ∧ w = w' := by
  obtain ⟨a, cap, rfl, hlc, hcap, hcells⟩ := mat_cells h
  obtain ⟨n, hn⟩ : ∃ n, n = zss.length := ⟨_, rfl⟩
  have N := Lib.hid hn
  rw [← hn] at hlc ⊢
  have S := Lib.hid hcells
  have hn1 : (n : Int) ≤ 9223372036854775807 := by omega
  clear hn hcells h
  cases hin : inR n 1 4
  · have E : Hid (banksB zss = false) := by show banksB zss = false; unfold banksB; rw [← N.out, hin, Bool.false_and]
    go_enter Try.func64, Try.ntmps64
    go_wp2_with (first | (go_at_call 15; refine (impl_within _ _ _ _).mono ?_; rintro e w' ⟨rfl, rfl⟩))
    go_ret
    exact ⟨ret_bool E.out.symm, rfl⟩
  have A : Hid (banksB zss = zss.all bankB) := by show _ = _; unfold banksB; rw [← N.out, hin, Bool.true_and]
  go_enter Try.func64, Try.ntmps64
  go_wp2_with (first | (go_at_call 15; refine (impl_within _ _ _ _).mono ?_; rintro e w' ⟨rfl, rfl⟩))
  go_loop [11] (fun i => ∃ k : Nat, k ≤ n ∧ i = .int .i64 k ∧ Hid ((zss.take k).all bankB = true)) (fun i => n - (intOf i).toNat)
  case atStart => exact ⟨0, Nat.zero_le _, rfl, rfl⟩
  case round =>
    obtain ⟨k, hk, rfl, hT⟩ := hrel
    by_cases hlt : k < n
    · have hkl : k < zss.length := by have := N.out; omega
      obtain ⟨b, off, u, rfl, _, hc, hi⟩ := S.out k hkl
      have hki : (k : Int) < (n : Int) := by omega
      have T1 : Hid (bankB (zss.getD k []) = true → (zss.take (k + 1)).all bankB = true) := fun e => all_take_succ hkl (getD_some_row hkl) e hT.out
      have T2 : Hid (bankB (zss.getD k []) = false → banksB zss = false) := fun e => A.out.trans (all_take_not hkl (getD_some_row hkl) e)
      generalize zss.getD k [] = x at *
      obtain ⟨au, cu, rfl, hlu, hcu⟩ := ints_shape hi
      have I := Lib.hid hi
      obtain ⟨m, hm⟩ : ∃ m, m = x.length := ⟨_, rfl⟩
      have I' : Hid (Ints w (.slice au m cu) x) := by rw [hm]; exact I.out
      have M := Lib.hid hm
      rw [← hm] at hc hlu
      clear hm I hi
      by_cases h256 : m = 256
      · have q1 : ((m : Int) != 256) = false := by simp; omega
        have H256 := Lib.hid h256
        clear h256
        cases hx : allB x
        · have hb : Hid (bankB x = false) := by show bankB x = false; simp [bankB, hx]
          go_wp2_with (first | (go_at_call 63; refine (impl_allBytes I'.out).mono ?_; rintro e w' ⟨rfl, rfl⟩))
          go_ret
          exact ⟨ret_bool (T2.out hb.out).symm, rfl⟩
        · have hb : Hid (bankB x = true) := by show bankB x = true; simp [bankB, hx, ← M.out, H256.out]
          go_wp2_with (first | (go_at_call 63; refine (impl_allBytes I'.out).mono ?_; rintro e w' ⟨rfl, rfl⟩))
          go_round
          case rel => exact ⟨k + 1, by omega, by go_num, T1.out hb.out⟩
          case measure => simp [intOf]; omega
      · have q1 : ((m : Int) != 256) = true := by simp; omega
        have hb : Hid (bankB x = false) := by show bankB x = false; simp [bankB, ← M.out, h256]
        clear h256
        go_wp2
        go_ret
        exact ⟨ret_bool (T2.out hb.out).symm, rfl⟩
    · have hki : ¬ (k : Int) < (n : Int) := by omega
      have E : Hid (banksB zss = true) := by
        have e : k = zss.length := by have := N.out; omega
        have := hT.out
        rw [e, List.take_length] at this
        exact A.out.trans this
      go_wp2
      go_ret
      exact ⟨ret_bool E.out.symm, rfl⟩
end Go.Proofs.Ytlnpmanghkeieaa
