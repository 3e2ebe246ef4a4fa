/- The walks of the functions that read a byte of a memory. No condition. -/
import Derived.Test.YtlnpmanghkeieaaMemory
namespace Go.Proofs.Ytlnpmanghkeieaa
open Go.RowKit
set_option linter.unusedVariables false

/-- The byte at an address. -/
def peekL (ram : List Int) (rom : List (List Int)) (bank p : Int) : Int :=
  if p < 512 then ram.getD (p.toNat % 256) 0 else if p < 768 then (rom.getD 0 []).getD (p - 512).toNat 0 else (rom.getD bank.toNat []).getD (p - 768).toNat 0
/-- The sizes of a valid memory. -/
structure Shp (ram : List Int) (rom : List (List Int)) (bank : Int) : Prop where
  r : ram.length = 256
  n : 0 < rom.length
  n4 : rom.length ≤ 4
  row : ∀ i, i < rom.length → (rom.getD i []).length = 256
  b0 : 0 ≤ bank
  b1 : bank < (rom.length : Int)
theorem shp_of {ram : List Int} {rom : List (List Int)} {bank : Int} (h : memB ram rom bank = true) : Shp ram rom bank := by
  simp only [memB, banksB, bankB, Bool.and_eq_true, decide_eq_true_eq, inR_iff] at h
  obtain ⟨⟨⟨h1, _⟩, ⟨h2, h3⟩, h4⟩, h5, h6⟩ := h
  refine ⟨h1, by omega, by omega, fun i hi => ?_, h5, by omega⟩
  have : bankB (rom.getD i []) = true := List.all_eq_true.1 h4 (rom.getD i []) (by rw [List.getD_eq_getElem?_getD, List.getElem?_eq_getElem hi]; exact List.getElem_mem hi)
  simp only [bankB, Bool.and_eq_true, decide_eq_true_eq] at this
  exact this.1
/-- The memory lies in block B, from its head on. -/
structure MemAt (w : World) (B : Nat) (ram : List Int) (rom : List (List Int)) (bank : Int) (a : Option Addr) (c : Nat) (b : Option Addr) (d : Nat) : Prop where
  c0 : w.cell? ⟨B, 0, none⟩ = some (.slice a ram.length c)
  c1 : w.cell? ⟨B, 1, none⟩ = some (.slice b rom.length d)
  c2 : w.cell? ⟨B, 2, none⟩ = some (.int .i64 bank)
  i : Ints w (.slice a ram.length c) ram
  m : Mat w (.slice b rom.length d) rom
/-- One cell of a slice. -/
theorem ints_at_ {w : World} {a : Option Addr} {n c k : Nat} {zs : List Int} (h : Ints w (.slice a n c) zs) (hk : k < zs.length) : n = zs.length ∧ n ≤ c ∧ (c : Int) ≤ 9223372036854775807 ∧ ∃ b off, a = some ⟨b, off, none⟩ ∧ b < w.heap.size ∧ w.cell? ⟨b, off + k, none⟩ = some (.int .i64 (zs.getD k 0)) := by
  obtain ⟨a', c', e, h1, h2, h3⟩ := h
  injection e with e1 e2 e3
  subst e1 e2 e3
  unfold maxLen at h2
  rcases h3 with h0 | ⟨b, off, rfl, hc⟩
  · rw [h0] at hk; simp at hk
  · exact ⟨rfl, h1, by omega, b, off, rfl, block_lt_of_cell (hc k hk), hc k hk⟩
theorem mat_at_ {w : World} {a : Option Addr} {n c k : Nat} {zss : List (List Int)} (h : Mat w (.slice a n c) zss) (hk : k < zss.length) : n = zss.length ∧ n ≤ c ∧ (c : Int) ≤ 9223372036854775807 ∧ ∃ b off a' c', a = some ⟨b, off, none⟩ ∧ b < w.heap.size ∧ w.cell? ⟨b, off + k, none⟩ = some (.slice a' (zss.getD k []).length c') ∧ Ints w (.slice a' (zss.getD k []).length c') (zss.getD k []) := by
  obtain ⟨a1, c1, e, h1, h2, h3⟩ := mat_cells h
  injection e with e1 e2 e3
  subst e1 e2 e3
  obtain ⟨b, off, u, rfl, hb, hc, hi⟩ := h3 k hk
  obtain ⟨a', c', rfl, _, _⟩ := ints_shape hi
  exact ⟨rfl, h1, h2, b, off, a', c', rfl, hb, hc, hi⟩
theorem i64_wrap_nat (n : Nat) (h : n < 1024) : ((n : Int) % 256) = ((n % 256 : Nat) : Int) := by omega
set_option maxHeartbeats 1000000 in
theorem impl_peek {B : Nat} {ram : List Int} {rom : List (List Int)} {bank p : Int} {a b : Option Addr} {c d : Nat} {w : World} (h : MemAt w B ram rom bank a c b d) (hs : Shp ram rom bank) (h0 : 0 ≤ p) (h1 : p ≤ 1023) :
    Calls Try.prog 29 #[.pointer (some ⟨B, 0, none⟩), .int .i64 p] w fun e w' => e = .returned (.int .i64 (peekL ram rom bank p)) ∧ Quiet w w' := by
  obtain ⟨c0, c1, c2, hi, hm⟩ := h
  obtain ⟨j, rfl⟩ := Int.eq_ofNat_of_zero_le h0
  have hr := hs.r
  by_cases p1 : (j : Int) < 512
  · obtain ⟨_, k2, k3, b', off, rfl, hb, hc⟩ := ints_at_ hi (k := j % 256) (by omega)
    have E : Hid (peekL ram rom bank j = ram.getD (j % 256) 0) := by show _ = _; simp [peekL, p1]
    generalize ram.getD (j % 256) 0 = x at *
    rw [hr] at c0 k2
    have hk : j % 256 < 256 := by omega
    have hk' : ((j % 256 : Nat) : Int) < 256 := by omega
    have hk0 : 0 ≤ ((j % 256 : Nat) : Int) := by omega
    have e1 : (j : Int).tmod 256 = ((j % 256 : Nat) : Int) := by rw [Int.tmod_eq_emod_of_nonneg h0]; omega
    have e2 : (j : Int) % 256 = ((j % 256 : Nat) : Int) := by omega
    generalize j % 256 = q at *
    clear hi hm hr c1 c2 hs
    go_enter Try.func29, Try.ntmps29
    go_wp2
    go_ret
    exact ⟨ret_int E.out.symm, 0, rfl⟩
  by_cases p2 : (j : Int) < 768
  · obtain ⟨m, hj⟩ : ∃ m : Nat, j = m + 512 := ⟨j - 512, by omega⟩
    have e3 : (j : Int) - 512 = (m : Int) := by omega
    have e4 : ((j : Int) - 512).toNat = m := by omega
    obtain ⟨_, k2, k3, b', off, a', c', rfl, hb, hc, hi'⟩ := mat_at_ hm hs.n
    have hrow := hs.row 0 hs.n
    obtain ⟨_, k4, k5, b2, off2, rfl, hb2, hc2⟩ := ints_at_ hi' (k := m) (by omega)
    have E : Hid (peekL ram rom bank j = (rom.getD 0 []).getD m 0) := by
      show _ = _
      unfold peekL
      rw [if_neg p1, if_pos p2, e4]
    generalize (rom.getD 0 []).getD m 0 = x at *
    rw [hrow] at hc k4
    have hm256 : (m : Int) < 256 := by omega
    have hn := hs.n
    generalize rom.length = n at *
    have hn1 : (n : Int) ≤ 9223372036854775807 := by omega
    have hn0 : 0 < (n : Int) := by omega
    rw [Nat.add_zero] at hc
    clear hj e4 hi hm hr c0 c2 hs hi' hrow
    go_enter Try.func29, Try.ntmps29
    go_wp2
    go_ret
    exact ⟨ret_int E.out.symm, 0, rfl⟩
  · obtain ⟨m, hj⟩ : ∃ m : Nat, j = m + 768 := ⟨j - 768, by omega⟩
    have e3 : (j : Int) - 768 = (m : Int) := by omega
    have e4 : ((j : Int) - 768).toNat = m := by omega
    obtain ⟨q, rfl⟩ := Int.eq_ofNat_of_zero_le hs.b0
    have hq := hs.b1
    obtain ⟨_, k2, k3, b', off, a', c', rfl, hb, hc, hi'⟩ := mat_at_ hm (k := q) (by omega)
    have hrow := hs.row q (by omega)
    obtain ⟨_, k4, k5, b2, off2, rfl, hb2, hc2⟩ := ints_at_ hi' (k := m) (by omega)
    have E : Hid (peekL ram rom q j = (rom.getD q []).getD m 0) := by
      show _ = _
      unfold peekL
      rw [if_neg p1, if_neg p2, e4, Int.toNat_natCast]
    generalize (rom.getD q []).getD m 0 = x at *
    rw [hrow] at hc k4
    have hm256 : (m : Int) < 256 := by omega
    have hn := hs.n
    generalize rom.length = n at *
    have hn1 : (n : Int) ≤ 9223372036854775807 := by omega
    have hn0 : 0 < (n : Int) := by omega
    clear hj e4 hi hm hr c0 hs hi' hrow
    go_enter Try.func29, Try.ntmps29
    go_wp2
    go_quiet (fail)
    go_wp2
    go_ret
    exact ⟨ret_int E.out.symm, _, rfl⟩
set_option maxHeartbeats 1000000 in
theorem spec_l2Read {v : Value} {ram : List Int} {rom : List (List Int)} {bank p : Int} {w : World} (h : MemV w v ram rom bank) (hs : Shp ram rom bank) (h0 : 0 ≤ p) (h1 : p ≤ 1023) :
    Calls Try.prog 52 #[v, .int .i64 p] w fun e w' => e = .returned (.int .i64 (peekL ram rom bank p)) ∧ Below w.heap.size w w' := by
  obtain ⟨a, c, b, d, rfl, _, _, _, _⟩ := memV_shape h
  obtain ⟨x1, x2, e, hi, hm⟩ := h
  simp only [Value.agg.injEq, Array.mk.injEq, List.cons.injEq, and_true] at e
  obtain ⟨rfl, rfl⟩ := e
  obtain ⟨j, rfl⟩ := Int.eq_ofNat_of_zero_le h0
  have hr := hs.r
  by_cases p1 : (j : Int) < 512
  · obtain ⟨_, k2, k3, b', off, rfl, hb, hc⟩ := ints_at_ hi (k := j % 256) (by omega)
    have E : Hid (peekL ram rom bank j = ram.getD (j % 256) 0) := by show _ = _; simp [peekL, p1]
    generalize ram.getD (j % 256) 0 = x at *
    rw [hr] at k2 ⊢
    have hk : j % 256 < 256 := by omega
    have hk' : ((j % 256 : Nat) : Int) < 256 := by omega
    have hk0 : 0 ≤ ((j % 256 : Nat) : Int) := by omega
    have e1 : (j : Int).tmod 256 = ((j % 256 : Nat) : Int) := by rw [Int.tmod_eq_emod_of_nonneg h0]; omega
    have e2 : (j : Int) % 256 = ((j % 256 : Nat) : Int) := by omega
    generalize j % 256 = q at *
    clear hi hm hr hs
    go_enter Try.func52, Try.ntmps52
    go_wp2
    go_ret
    exact ⟨ret_int E.out.symm, by go_grown⟩
  by_cases p2 : (j : Int) < 768
  · obtain ⟨m, hj⟩ : ∃ m : Nat, j = m + 512 := ⟨j - 512, by omega⟩
    have e3 : (j : Int) - 512 = (m : Int) := by omega
    have e4 : ((j : Int) - 512).toNat = m := by omega
    obtain ⟨_, k2, k3, b', off, a', c', rfl, hb, hc, hi'⟩ := mat_at_ hm hs.n
    have hrow := hs.row 0 hs.n
    obtain ⟨_, k4, k5, b2, off2, rfl, hb2, hc2⟩ := ints_at_ hi' (k := m) (by omega)
    have E : Hid (peekL ram rom bank j = (rom.getD 0 []).getD m 0) := by
      show _ = _
      unfold peekL
      rw [if_neg p1, if_pos p2, e4]
    generalize (rom.getD 0 []).getD m 0 = x at *
    rw [hrow] at hc k4
    have hm256 : (m : Int) < 256 := by omega
    have hn := hs.n
    generalize rom.length = n at *
    have hn1 : (n : Int) ≤ 9223372036854775807 := by omega
    have hn0 : 0 < (n : Int) := by omega
    rw [Nat.add_zero] at hc
    clear hj e4 hi hm hr hs hi' hrow
    go_enter Try.func52, Try.ntmps52
    go_wp2
    go_ret
    exact ⟨ret_int E.out.symm, by go_grown⟩
  · obtain ⟨m, hj⟩ : ∃ m : Nat, j = m + 768 := ⟨j - 768, by omega⟩
    have e3 : (j : Int) - 768 = (m : Int) := by omega
    have e4 : ((j : Int) - 768).toNat = m := by omega
    obtain ⟨q, rfl⟩ := Int.eq_ofNat_of_zero_le hs.b0
    have hq := hs.b1
    obtain ⟨_, k2, k3, b', off, a', c', rfl, hb, hc, hi'⟩ := mat_at_ hm (k := q) (by omega)
    have hrow := hs.row q (by omega)
    obtain ⟨_, k4, k5, b2, off2, rfl, hb2, hc2⟩ := ints_at_ hi' (k := m) (by omega)
    have E : Hid (peekL ram rom q j = (rom.getD q []).getD m 0) := by
      show _ = _
      unfold peekL
      rw [if_neg p1, if_neg p2, e4, Int.toNat_natCast]
    generalize (rom.getD q []).getD m 0 = x at *
    rw [hrow] at hc k4
    have hm256 : (m : Int) < 256 := by omega
    have hn := hs.n
    generalize rom.length = n at *
    have hn1 : (n : Int) ≤ 9223372036854775807 := by omega
    have hn0 : 0 < (n : Int) := by omega
    clear hj e4 hi hm hr hs hi' hrow
    go_enter Try.func52, Try.ntmps52
    go_wp2
    go_ret
    exact ⟨ret_int E.out.symm, by go_grown⟩
end Go.Proofs.Ytlnpmanghkeieaa
