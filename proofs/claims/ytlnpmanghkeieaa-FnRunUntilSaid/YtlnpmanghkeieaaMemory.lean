/- The walks of the functions on memories that only look at them, mark them or copy them for the laws. No condition. -/
import Derived.Test.YtlnpmanghkeieaaMem
namespace Go.Proofs.Ytlnpmanghkeieaa
open Go.RowKit
set_option linter.unusedVariables false

/-- The value v is a memory in w. -/
def MemV (w : World) (v : Value) (ram : List Int) (rom : List (List Int)) (bank : Int) : Prop := ∃ a b, v = .agg #[a, b, .int .i64 bank] ∧ Ints w a ram ∧ Mat w b rom
/-- Two stretches of blocks within lo and hi, apart from each other. -/
structure Apart (lo hi l1 h1 l2 h2 : Nat) : Prop where
  a1 : lo ≤ l1
  b1 : h1 ≤ hi
  a2 : lo ≤ l2
  b2 : h2 ≤ hi
  sep : h1 ≤ l2 ∨ h2 ≤ l1
/-- .. of the call's own: the working memory and the banks apart from each other. -/
def OwnMem (lo hi : Nat) (w : World) (v : Value) (ram : List Int) (rom : List (List Int)) (bank : Int) : Prop :=
  ∃ a b l1 h1 l2 h2, v = .agg #[a, b, .int .i64 bank] ∧ Apart lo hi l1 h1 l2 h2 ∧ Own l1 h1 w a ram ∧ OwnMat l2 h2 w b rom
section
variable {lo hi : Nat} {w w' : World} {v : Value} {ram : List Int} {rom : List (List Int)} {bank : Int}
theorem MemV.below (h : MemV w v ram rom bank) (hb : Below w.heap.size w w') : MemV w' v ram rom bank := by
  obtain ⟨a, b, rfl, h1, h2⟩ := h
  exact ⟨a, b, rfl, h1.below hb, h2.below hb⟩
theorem MemV.alloc (h : MemV w v ram rom bank) (o : Obj) : MemV (w.alloc o) v ram rom bank := h.below ((Below.refl _ _).alloc (Nat.le_refl _) o)
theorem OwnMem.mem (h : OwnMem lo hi w v ram rom bank) : MemV w v ram rom bank := by
  obtain ⟨a, b, _, _, _, _, rfl, _, h1, h2⟩ := h
  exact ⟨a, b, rfl, h1.ints, h2.mat⟩
theorem OwnMem.agree (h : OwnMem lo hi w v ram rom bank) (g : Agree lo hi w w') : OwnMem lo hi w' v ram rom bank := by
  obtain ⟨a, b, l1, h1, l2, h2, rfl, k, o1, o2⟩ := h
  exact ⟨a, b, l1, h1, l2, h2, rfl, k, o1.agree (g.sub k.a1 k.b1), o2.agree (g.sub k.a2 k.b2)⟩
theorem OwnMem.wide {lo' hi' : Nat} (h : OwnMem lo hi w v ram rom bank) (k1 : lo' ≤ lo) (k2 : hi ≤ hi') : OwnMem lo' hi' w v ram rom bank := by
  obtain ⟨a, b, l1, h1, l2, h2, rfl, k, o1, o2⟩ := h
  obtain ⟨a1, b1, a2, b2, sp⟩ := k
  exact ⟨a, b, l1, h1, l2, h2, rfl, ⟨by omega, by omega, by omega, by omega, sp⟩, o1, o2⟩
end
theorem memV_shape {w : World} {v : Value} {ram : List Int} {rom : List (List Int)} {bank : Int} (h : MemV w v ram rom bank) : ∃ a c b d, v = .agg #[.slice a ram.length c, .slice b rom.length d, .int .i64 bank] ∧ ram.length ≤ c ∧ (c : Int) ≤ 9223372036854775807 ∧ rom.length ≤ d ∧ (d : Int) ≤ 9223372036854775807 := by
  obtain ⟨x, y, rfl, h1, h2⟩ := h
  obtain ⟨a, c, rfl, k1, k2⟩ := ints_shape h1
  obtain ⟨b, d, rfl, k3, k4⟩ := mat_shape h2
  exact ⟨_, _, _, _, rfl, k1, k2, k3, k4⟩
set_option maxHeartbeats 2000000 in
theorem impl_MemoryValid {v : Value} {ram : List Int} {rom : List (List Int)} {bank : Int} {w : World} (h : MemV w v ram rom bank) : Calls Try.prog 41 #[v] w fun e w' => e = .returned (.bool (memB ram rom bank)) ∧ Below w.heap.size w w' := by
  obtain ⟨va, vb, rfl, ha, hb⟩ := h
  obtain ⟨a, ca, rfl, hl1, hc1⟩ := ints_shape ha
  obtain ⟨b, cb, rfl, hl2, hc2⟩ := mat_shape hb
  obtain ⟨n, hn⟩ : ∃ n, n = ram.length := ⟨_, rfl⟩
  obtain ⟨m, hm⟩ : ∃ m, m = rom.length := ⟨_, rfl⟩
  have IA : Hid (Ints w (.slice a n ca) ram) := by rw [hn]; exact ha
  have IB : Hid (Mat w (.slice b m cb) rom) := by rw [hm]; exact hb
  have N := Lib.hid hn
  have M := Lib.hid hm
  rw [← hn] at hl1 ⊢
  rw [← hm] at hl2 ⊢
  have k1 : (n : Int) ≤ 9223372036854775807 := by omega
  have k2 : (m : Int) ≤ 9223372036854775807 := by omega
  clear ha hb hn hm
  by_cases h256 : n = 256
  · have q1 : ((n : Int) != 256) = false := by simp; omega
    have H256 := Lib.hid h256
    clear h256
    cases h1 : allB ram
    · have E : Hid (memB ram rom bank = false) := by show memB ram rom bank = false; simp [memB, bankB, h1]
      go_enter Try.func41, Try.ntmps41
      go_wp2_with (first | (go_at_call 63; refine (impl_allBytes (IA.out.alloc _)).mono ?_; rintro e w' ⟨rfl, rfl⟩))
      go_ret
      exact ⟨ret_bool E.out.symm, by go_grown⟩
    cases h2 : banksB rom
    · have E : Hid (memB ram rom bank = false) := by show memB ram rom bank = false; simp [memB, h2]
      go_enter Try.func41, Try.ntmps41
      go_wp2_with (first | (go_at_call 63; refine (impl_allBytes (IA.out.alloc _)).mono ?_; rintro e w' ⟨rfl, rfl⟩) | (go_at_call 64; refine (impl_banksValid (IB.out.alloc _)).mono ?_; rintro e w' ⟨rfl, rfl⟩))
      go_ret
      exact ⟨ret_bool E.out.symm, by go_grown⟩
    have E : Hid (memB ram rom bank = inR bank 0 ((m : Int) - 1)) := by show _ = _; unfold memB bankB; rw [← N.out, ← M.out, H256.out, h1, h2]; simp
    by_cases p0 : 0 ≤ bank
    · have p0' : decide (0 ≤ bank) = true := by simpa using p0
      have F : Hid (inR bank 0 ((m : Int) - 1) = decide (bank < (m : Int))) := by show _ = _; rw [Bool.eq_iff_iff, inR_iff]; simp; omega
      go_enter Try.func41, Try.ntmps41
      go_wp2_with (first | (go_at_call 63; refine (impl_allBytes (IA.out.alloc _)).mono ?_; rintro e w' ⟨rfl, rfl⟩) | (go_at_call 64; refine (impl_banksValid (IB.out.alloc _)).mono ?_; rintro e w' ⟨rfl, rfl⟩))
      go_ret
      exact ⟨ret_bool (by rw [E.out, F.out]), by go_grown⟩
    · have F : Hid (inR bank 0 ((m : Int) - 1) = false) := by show _ = _; rw [inR_false]; omega
      have p0' : decide (0 ≤ bank) = false := by simpa using p0
      go_enter Try.func41, Try.ntmps41
      go_wp2_with (first | (go_at_call 63; refine (impl_allBytes (IA.out.alloc _)).mono ?_; rintro e w' ⟨rfl, rfl⟩) | (go_at_call 64; refine (impl_banksValid (IB.out.alloc _)).mono ?_; rintro e w' ⟨rfl, rfl⟩))
      go_ret
      exact ⟨ret_bool (by rw [E.out, F.out]), by go_grown⟩
  · have q1 : ((n : Int) != 256) = true := by simp; omega
    have E : Hid (memB ram rom bank = false) := by show memB ram rom bank = false; simp [memB, bankB, ← N.out, h256]
    clear h256
    go_enter Try.func41, Try.ntmps41
    go_wp2
    go_ret
    exact ⟨ret_bool E.out.symm, by go_grown⟩
set_option maxHeartbeats 2000000 in
theorem spec_MemoryValid {v : Value} {ram : List Int} {rom : List (List Int)} {bank : Int} {w : World} (h : MemV w v ram rom bank) : Calls Try.prog 32 #[v] w fun e w' => e = .returned (.bool (memB ram rom bank)) ∧ Below w.heap.size w w' := by
  obtain ⟨va, vb, rfl, ha, hb⟩ := h
  obtain ⟨a, ca, rfl, hl1, hc1⟩ := ints_shape ha
  obtain ⟨b, cb, rfl, hl2, hc2, hcells⟩ := mat_cells hb
  obtain ⟨n, hn⟩ : ∃ n, n = ram.length := ⟨_, rfl⟩
  obtain ⟨m, hm⟩ : ∃ m, m = rom.length := ⟨_, rfl⟩
  have IA : Hid (Ints w (.slice a n ca) ram) := by rw [hn]; exact ha
  have N := Lib.hid hn
  have M := Lib.hid hm
  rw [← hn] at hl1 ⊢
  rw [← hm] at hl2 ⊢
  have S := Lib.hid hcells
  have k1 : (n : Int) ≤ 9223372036854775807 := by omega
  have k2 : (m : Int) ≤ 9223372036854775807 := by omega
  clear ha hb hn hm hcells
  go_enter Try.func32, Try.ntmps32
  go_wp2
  go_loop [3] (fun i => ∃ k : Nat, k ≤ m ∧ i = .int .i64 k ∧ Hid ((rom.take k).all bankB = true)) (fun i => m - (intOf i).toNat)
  case atStart => exact ⟨0, Nat.zero_le _, rfl, rfl⟩
  case round =>
    obtain ⟨k, hk, rfl, hT⟩ := hrel
    by_cases hlt : k < m
    · have hkl : k < rom.length := by have := M.out; omega
      obtain ⟨b', off, u, rfl, hbl, hc, hi⟩ := S.out k hkl
      have hki : (k : Int) < (m : Int) := by omega
      have T1 : Hid (bankB (rom.getD k []) = true → (rom.take (k + 1)).all bankB = true) := fun e => all_take_succ hkl (getD_some_row hkl) e hT.out
      have T2 : Hid (bankB (rom.getD k []) = false → memB ram rom bank = false) := fun e => by
        show memB ram rom bank = false
        unfold memB banksB
        rw [all_take_not hkl (getD_some_row hkl) e]; simp
      generalize rom.getD k [] = x at *
      have I := Lib.hid (hi.alloc (.cells #[.slice a n ca, .slice (some ⟨b', off, none⟩) m cb, .int .i64 bank] 26))
      clear hi
      have hbn : b' ≠ w.heap.size := by omega
      cases hx : bankB x
      · go_wp2_with fail
        refine (spec_l2Bytes I.out).mono ?_
        rintro e w' ⟨rfl, rfl⟩
        go_wp2_with fail
        go_ret
        exact ⟨ret_bool (T2.out hx).symm, by go_grown⟩
      · go_wp2_with fail
        refine (spec_l2Bytes I.out).mono ?_
        rintro e w' ⟨rfl, rfl⟩
        go_wp2_with fail
        go_round
        case rel => exact ⟨k + 1, by omega, by go_num, T1.out hx⟩
        case measure => simp [intOf]; omega
    · have hki : ¬ (k : Int) < (m : Int) := by omega
      have E : Hid (memB ram rom bank = (bankB ram && inR m 1 4 && inR bank 0 ((m : Int) - 1))) := by
        show _ = _
        have e : k = rom.length := by have := M.out; omega
        have := hT.out
        rw [e, List.take_length] at this
        unfold memB banksB
        rw [this, Bool.and_true, ← M.out]
      cases h1 : bankB ram
      · go_wp2_with (first | (go_at_call 51; refine (spec_l2Bytes (IA.out.alloc _)).mono ?_; rintro e w' ⟨rfl, rfl⟩))
        go_ret
        exact ⟨ret_bool (by rw [E.out, h1]; rfl), by go_grown⟩
      cases h2 : inR m 1 4
      · go_wp2_with (first | (go_at_call 51; refine (spec_l2Bytes (IA.out.alloc _)).mono ?_; rintro e w' ⟨rfl, rfl⟩) | (go_at_call 19; refine (spec_l1In _ _ _ _).mono ?_; rintro e w' ⟨rfl, rfl⟩))
        go_ret
        exact ⟨ret_bool (by rw [E.out, h1, h2]; rfl), by go_grown⟩
      · go_wp2_with (first | (go_at_call 51; refine (spec_l2Bytes (IA.out.alloc _)).mono ?_; rintro e w' ⟨rfl, rfl⟩) | (go_at_call 19; refine (spec_l1In _ _ _ _).mono ?_; rintro e w' ⟨rfl, rfl⟩))
        go_ret
        exact ⟨ret_bool (by rw [E.out, h1, h2]; rfl), by go_grown⟩
theorem Ints.drewN' {w : World} {u : Value} {zs : List Int} (h : Ints w u zs) (n : Nat) : Ints (w.drewN n) u zs := h.drewN n
theorem Mat.drewN {w : World} {u : Value} {zss : List (List Int)} (h : Mat w u zss) (n : Nat) : Mat (w.drewN n) u zss := h.below ⟨rfl, rfl, rfl, Nat.le_refl _, fun _ _ => rfl⟩
def eqM (r1 : List Int) (m1 : List (List Int)) (b1 : Int) (r2 : List Int) (m2 : List (List Int)) (b2 : Int) : Bool := r1 == r2 && m1 == m2 && b1 == b2
/-- A memory, marked from k on. -/
def MarkedM (w : World) (v : Value) (k : Int) (ram : List Int) (rom : List (List Int)) (bank : Int) : Prop := MemV w v (marks k ram.length) (markRows (k + ram.length) rom) bank
def MarkedOwn (lo hi : Nat) (w : World) (v : Value) (k : Int) (ram : List Int) (rom : List (List Int)) (bank : Int) : Prop := OwnMem lo hi w v (marks k ram.length) (markRows (k + ram.length) rom) bank
end Go.Proofs.Ytlnpmanghkeieaa
