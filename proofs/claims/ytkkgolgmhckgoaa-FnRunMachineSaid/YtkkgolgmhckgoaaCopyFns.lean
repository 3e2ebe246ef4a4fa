/- The walks of CopyMemory. No condition. -/
import Derived.Test.YtkkgolgmhckgoaaMemFns
import Derived.IntWalk
namespace Go.Proofs.Ytkkgolgmhckgoaa
open Go.RowKit
set_option linter.unusedVariables false

/-- What CopyMemory answers. -/
def cpOk (ram : List Int) (rom : List (List Int)) (bank p q n : Int) : Bool := memB ram rom bank && inR p 0 1023 && inR q 0 1023 && inR n 0 256
def cpR (ram : List Int) (rom : List (List Int)) (bank p q n : Int) : List Int := if cpOk ram rom bank p q n then copyN ram rom bank p.toNat q.toNat n.toNat else []
def cpM (ram : List Int) (rom : List (List Int)) (bank p q n : Int) : List (List Int) := if cpOk ram rom bank p q n then rom else []
def cpB (ram : List Int) (rom : List (List Int)) (bank p q n : Int) : Int := if cpOk ram rom bank p q n then bank else 0
theorem cp_no {ram : List Int} {rom : List (List Int)} {bank p q n : Int} (h : cpOk ram rom bank p q n = false) : cpR ram rom bank p q n = [] ∧ cpM ram rom bank p q n = [] ∧ cpB ram rom bank p q n = 0 := by simp [cpR, cpM, cpB, h]
theorem cp_yes {ram : List Int} {rom : List (List Int)} {bank p q n : Int} (h : cpOk ram rom bank p q n = true) : cpR ram rom bank p q n = copyN ram rom bank p.toNat q.toNat n.toNat ∧ cpM ram rom bank p q n = rom ∧ cpB ram rom bank p q n = bank := by simp [cpR, cpM, cpB, h]
theorem copyN_shp {ram : List Int} {rom : List (List Int)} {bank : Int} (h : memB ram rom bank = true) (p q k : Nat) : Shp (copyN ram rom bank p q k) rom bank := shp_of (copyN_valid h p q k)
theorem memAt_drew {w : World} {B : Nat} {ram : List Int} {rom : List (List Int)} {bank : Int} {a b : Option Addr} {c d : Nat} (h : MemAt w B ram rom bank a c b d) : MemAt w.drew B ram rom bank a c b d :=
  ⟨h.c0, h.c1, h.c2, h.i.below ⟨rfl, rfl, rfl, Nat.le_refl _, fun _ _ => rfl⟩, h.m.below ⟨rfl, rfl, rfl, Nat.le_refl _, fun _ _ => rfl⟩⟩
theorem memIn_drew {L B : Nat} {w : World} {ram : List Int} {rom : List (List Int)} {bank : Int} {a b : Option Addr} {c d l1 t1 l2 t2 : Nat} (h : MemIn L w B ram rom bank a c b d l1 t1 l2 t2) : MemIn L w.drew B ram rom bank a c b d l1 t1 l2 t2 := h.below ⟨rfl, rfl, rfl, Nat.le_refl _, fun _ _ => rfl⟩
theorem memIn_drewN {L B : Nat} {w : World} {ram : List Int} {rom : List (List Int)} {bank : Int} {a b : Option Addr} {c d l1 t1 l2 t2 : Nat} (n : Nat) (h : MemIn L w B ram rom bank a c b d l1 t1 l2 t2) : MemIn L (w.drewN n) B ram rom bank a c b d l1 t1 l2 t2 := h.drewN n
theorem below_drewN {B : Nat} {w X : World} (n : Nat) (h : Below B w X) : Below B w (X.drewN n) := ⟨h.os, h.tape, h.output, h.size, h.block⟩
theorem impl_peek_at {B : Nat} {ram : List Int} {rom : List (List Int)} {bank p z : Int} {a b : Option Addr} {c d : Nat} {w : World} (hz : z = p) (h : MemAt w B ram rom bank a c b d) (hs : Shp ram rom bank) (h0 : 0 ≤ p) (h1 : p ≤ 1023) :
    Calls Try.prog 69 #[.pointer (some ⟨B, 0, none⟩), .int .i64 z] w fun e w' => e = .returned (.int .i64 (peekL ram rom bank p)) ∧ Quiet w w' := by subst hz; exact impl_peek h hs h0 h1
set_option maxHeartbeats 1048576 in
set_option maxRecDepth 20000 in
theorem impl_CopyMemory {v : Value} {ram : List Int} {rom : List (List Int)} {bank : Int} (p q n : Int) {w : World} (h : MemV w v ram rom bank) :
    Calls Try.prog 25 #[v, .int .i64 p, .int .i64 q, .int .i64 n] w (MadeMem (cpR ram rom bank p q n) (cpM ram rom bank p q n) (cpB ram rom bank p q n) w) := by
  have H := Lib.hid h
  obtain ⟨a, c, b, d, rfl, k1, k2, k3, k4⟩ := memV_shape h
  clear h
  cases hv : memB ram rom bank
  · obtain ⟨e1, e2, e3⟩ := cp_no (ram := ram) (rom := rom) (bank := bank) (p := p) (q := q) (n := n) (by simp [cpOk, hv])
    rw [e1, e2, e3]
    go_enter Try.func25, Try.ntmps25
    go_wp2_with fail
    refine (calls_eqv (impl_MemoryValid (H.out.below (by go_grown))) hv).mono ?_
    rintro e w1 ⟨rfl, hb1⟩
    obtain ⟨hc1, hf1⟩ := bcell hb1
    have hs1 : w.heap.size + 2 ≤ w1.heap.size := Nat.le_trans (by go_size) hb1.size
    have z1_0 : w.heap.size < w1.heap.size := Nat.lt_of_lt_of_le (by go_size) hb1.size
    have z1_1 : w.heap.size + 1 < w1.heap.size := Nat.lt_of_lt_of_le (by go_size) hb1.size
    have hB1 : Hid (Below w.heap.size w w1) := below_via hb1 (by repeat (first | with_reducible exact Below.refl _ _ | with_reducible refine below_via (by assumption) ?_ (by go_size) | with_reducible refine below_within (by assumption) ?_ (by go_size) (by omega) | with_reducible refine Below.alloc ?_ (by go_size) _ | with_reducible refine Below.setCell ?_ (by go_size) _ | with_reducible refine Below.drew ?_)) (by go_size)
    go_wp2_with fail
    obtain ⟨r1, r2, r3, r4, r5, r6⟩ := six_below hb1 (six_lit (x := .slice none 0 0) (y := .slice none 0 0) (z := .int .i64 0) (b := w.heap.size + 1) (by simp))
    refine bodyPost_ret (v := .agg #[.slice none 0 0, .slice none 0 0, .int .i64 0]) (by simp [results, Try.results25, go_sem, r1, r2, r3]) rfl ⟨_, rfl, ownMem_zero (by simp only [size_set]; omega), by repeat (first | with_reducible exact Below.refl _ _ | with_reducible refine below_via (by assumption) ?_ (by go_size) | with_reducible refine below_within (by assumption) ?_ (by go_size) (by omega) | with_reducible refine Below.alloc ?_ (by go_size) _ | with_reducible refine Below.setCell ?_ (by go_size) _ | with_reducible refine Below.drew ?_)⟩
  cases hi : inR p 0 1023
  · obtain ⟨e1, e2, e3⟩ := cp_no (ram := ram) (rom := rom) (bank := bank) (p := p) (q := q) (n := n) (by simp [cpOk, hi])
    rw [e1, e2, e3]
    go_enter Try.func25, Try.ntmps25
    go_wp2_with fail
    refine (calls_eqv (impl_MemoryValid (H.out.below (by go_grown))) hv).mono ?_
    rintro e w1 ⟨rfl, hb1⟩
    obtain ⟨hc1, hf1⟩ := bcell hb1
    have hs1 : w.heap.size + 2 ≤ w1.heap.size := Nat.le_trans (by go_size) hb1.size
    have z1_0 : w.heap.size < w1.heap.size := Nat.lt_of_lt_of_le (by go_size) hb1.size
    have z1_1 : w.heap.size + 1 < w1.heap.size := Nat.lt_of_lt_of_le (by go_size) hb1.size
    have hB1 : Hid (Below w.heap.size w w1) := below_via hb1 (by repeat (first | with_reducible exact Below.refl _ _ | with_reducible refine below_via (by assumption) ?_ (by go_size) | with_reducible refine below_within (by assumption) ?_ (by go_size) (by omega) | with_reducible refine Below.alloc ?_ (by go_size) _ | with_reducible refine Below.setCell ?_ (by go_size) _ | with_reducible refine Below.drew ?_)) (by go_size)
    go_wp2_with fail
    refine (calls_eqv (impl_within _ _ _ _) hi).mono ?_
    rintro e w' ⟨rfl, rfl⟩
    go_wp2_with fail
    obtain ⟨r1, r2, r3, r4, r5, r6⟩ := six_below hb1 (six_lit (x := .slice none 0 0) (y := .slice none 0 0) (z := .int .i64 0) (b := w.heap.size + 1) (by simp))
    refine bodyPost_ret (v := .agg #[.slice none 0 0, .slice none 0 0, .int .i64 0]) (by simp [results, Try.results25, go_sem, r1, r2, r3]) rfl ⟨_, rfl, ownMem_zero (by simp only [size_set]; omega), by repeat (first | with_reducible exact Below.refl _ _ | with_reducible refine below_via (by assumption) ?_ (by go_size) | with_reducible refine below_within (by assumption) ?_ (by go_size) (by omega) | with_reducible refine Below.alloc ?_ (by go_size) _ | with_reducible refine Below.setCell ?_ (by go_size) _ | with_reducible refine Below.drew ?_)⟩
  cases hj : inR q 0 1023
  · obtain ⟨e1, e2, e3⟩ := cp_no (ram := ram) (rom := rom) (bank := bank) (p := p) (q := q) (n := n) (by simp [cpOk, hj])
    rw [e1, e2, e3]
    go_enter Try.func25, Try.ntmps25
    go_wp2_with fail
    refine (calls_eqv (impl_MemoryValid (H.out.below (by go_grown))) hv).mono ?_
    rintro e w1 ⟨rfl, hb1⟩
    obtain ⟨hc1, hf1⟩ := bcell hb1
    have hs1 : w.heap.size + 2 ≤ w1.heap.size := Nat.le_trans (by go_size) hb1.size
    have z1_0 : w.heap.size < w1.heap.size := Nat.lt_of_lt_of_le (by go_size) hb1.size
    have z1_1 : w.heap.size + 1 < w1.heap.size := Nat.lt_of_lt_of_le (by go_size) hb1.size
    have hB1 : Hid (Below w.heap.size w w1) := below_via hb1 (by repeat (first | with_reducible exact Below.refl _ _ | with_reducible refine below_via (by assumption) ?_ (by go_size) | with_reducible refine below_within (by assumption) ?_ (by go_size) (by omega) | with_reducible refine Below.alloc ?_ (by go_size) _ | with_reducible refine Below.setCell ?_ (by go_size) _ | with_reducible refine Below.drew ?_)) (by go_size)
    go_wp2_with fail
    refine (calls_eqv (impl_within _ _ _ _) hi).mono ?_
    rintro e w' ⟨rfl, rfl⟩
    go_wp2_with fail
    refine (calls_eqv (impl_within _ _ _ _) hj).mono ?_
    rintro e w' ⟨rfl, rfl⟩
    go_wp2_with fail
    obtain ⟨r1, r2, r3, r4, r5, r6⟩ := six_below hb1 (six_lit (x := .slice none 0 0) (y := .slice none 0 0) (z := .int .i64 0) (b := w.heap.size + 1) (by simp))
    refine bodyPost_ret (v := .agg #[.slice none 0 0, .slice none 0 0, .int .i64 0]) (by simp [results, Try.results25, go_sem, r1, r2, r3]) rfl ⟨_, rfl, ownMem_zero (by simp only [size_set]; omega), by repeat (first | with_reducible exact Below.refl _ _ | with_reducible refine below_via (by assumption) ?_ (by go_size) | with_reducible refine below_within (by assumption) ?_ (by go_size) (by omega) | with_reducible refine Below.alloc ?_ (by go_size) _ | with_reducible refine Below.setCell ?_ (by go_size) _ | with_reducible refine Below.drew ?_)⟩
  cases hn : inR n 0 256
  · obtain ⟨e1, e2, e3⟩ := cp_no (ram := ram) (rom := rom) (bank := bank) (p := p) (q := q) (n := n) (by simp [cpOk, hn])
    rw [e1, e2, e3]
    go_enter Try.func25, Try.ntmps25
    go_wp2_with fail
    refine (calls_eqv (impl_MemoryValid (H.out.below (by go_grown))) hv).mono ?_
    rintro e w1 ⟨rfl, hb1⟩
    obtain ⟨hc1, hf1⟩ := bcell hb1
    have hs1 : w.heap.size + 2 ≤ w1.heap.size := Nat.le_trans (by go_size) hb1.size
    have z1_0 : w.heap.size < w1.heap.size := Nat.lt_of_lt_of_le (by go_size) hb1.size
    have z1_1 : w.heap.size + 1 < w1.heap.size := Nat.lt_of_lt_of_le (by go_size) hb1.size
    have hB1 : Hid (Below w.heap.size w w1) := below_via hb1 (by repeat (first | with_reducible exact Below.refl _ _ | with_reducible refine below_via (by assumption) ?_ (by go_size) | with_reducible refine below_within (by assumption) ?_ (by go_size) (by omega) | with_reducible refine Below.alloc ?_ (by go_size) _ | with_reducible refine Below.setCell ?_ (by go_size) _ | with_reducible refine Below.drew ?_)) (by go_size)
    go_wp2_with fail
    refine (calls_eqv (impl_within _ _ _ _) hi).mono ?_
    rintro e w' ⟨rfl, rfl⟩
    go_wp2_with fail
    refine (calls_eqv (impl_within _ _ _ _) hj).mono ?_
    rintro e w' ⟨rfl, rfl⟩
    go_wp2_with fail
    refine (calls_eqv (impl_within _ _ _ _) hn).mono ?_
    rintro e w' ⟨rfl, rfl⟩
    go_wp2_with fail
    obtain ⟨r1, r2, r3, r4, r5, r6⟩ := six_below hb1 (six_lit (x := .slice none 0 0) (y := .slice none 0 0) (z := .int .i64 0) (b := w.heap.size + 1) (by simp))
    refine bodyPost_ret (v := .agg #[.slice none 0 0, .slice none 0 0, .int .i64 0]) (by simp [results, Try.results25, go_sem, r1, r2, r3]) rfl ⟨_, rfl, ownMem_zero (by simp only [size_set]; omega), by repeat (first | with_reducible exact Below.refl _ _ | with_reducible refine below_via (by assumption) ?_ (by go_size) | with_reducible refine below_within (by assumption) ?_ (by go_size) (by omega) | with_reducible refine Below.alloc ?_ (by go_size) _ | with_reducible refine Below.setCell ?_ (by go_size) _ | with_reducible refine Below.drew ?_)⟩
  obtain ⟨e1, e2, e3⟩ := cp_yes (ram := ram) (rom := rom) (bank := bank) (p := p) (q := q) (n := n) (by simp [cpOk, hv, hi, hj, hn])
  rw [e1, e2, e3]
  obtain ⟨z1, z2, z3⟩ := sizes_of hv
  have HV := Lib.hid hv
  go_enter Try.func25, Try.ntmps25
  go_wp2_with fail
  refine (calls_eqv (impl_MemoryValid (H.out.below (by go_grown))) hv).mono ?_
  rintro e w1 ⟨rfl, hb1⟩
  obtain ⟨hc1, hf1⟩ := bcell hb1
  have hs1 : w.heap.size + 2 ≤ w1.heap.size := Nat.le_trans (by go_size) hb1.size
  have z1_0 : w.heap.size < w1.heap.size := Nat.lt_of_lt_of_le (by go_size) hb1.size
  have z1_1 : w.heap.size + 1 < w1.heap.size := Nat.lt_of_lt_of_le (by go_size) hb1.size
  have hB1 : Hid (Below w.heap.size w w1) := below_via hb1 (by repeat (first | with_reducible exact Below.refl _ _ | with_reducible refine below_via (by assumption) ?_ (by go_size) | with_reducible refine below_within (by assumption) ?_ (by go_size) (by omega) | with_reducible refine Below.alloc ?_ (by go_size) _ | with_reducible refine Below.setCell ?_ (by go_size) _ | with_reducible refine Below.drew ?_)) (by go_size)
  go_wp2_with fail
  refine (calls_eqv (impl_within _ _ _ _) hi).mono ?_
  rintro e w' ⟨rfl, rfl⟩
  go_wp2_with fail
  refine (calls_eqv (impl_within _ _ _ _) hj).mono ?_
  rintro e w' ⟨rfl, rfl⟩
  go_wp2_with fail
  refine (calls_eqv (impl_within _ _ _ _) hn).mono ?_
  rintro e w' ⟨rfl, rfl⟩
  go_wp2_with fail
  refine (impl_copyMemory (H.out.below hB1.out) z1 z2 z3).mono ?_
  rintro e w2 ⟨v2, rfl, o2, hb2⟩
  obtain ⟨hc2, hf2⟩ := bcell hb2
  have hs2 : w1.heap.size + 0 ≤ w2.heap.size := Nat.le_trans (by go_size) hb2.size
  have z2_0 : w.heap.size < w2.heap.size := Nat.lt_of_lt_of_le (by go_size) hb2.size
  have z2_1 : w.heap.size + 1 < w2.heap.size := Nat.lt_of_lt_of_le (by go_size) hb2.size
  have hB2 : Hid (Below w.heap.size w w2) := below_via hb2 (by repeat (first | with_reducible exact Below.refl _ _ | with_reducible refine below_via (by assumption) ?_ (by go_size) | with_reducible refine below_within (by assumption) ?_ (by go_size) (by omega) | with_reducible refine Below.alloc ?_ (by go_size) _ | with_reducible refine Below.setCell ?_ (by go_size) _ | with_reducible refine Below.drew ?_)) (by go_size)
  have O2 := Lib.hid o2
  obtain ⟨a2, c2, b2, d2, rfl, q1, q2, q3, q4⟩ := memV_shape O2.out.mem
  clear o2
  obtain ⟨l1, t1, l2, t2, m1, m2, m3, m4, hM'⟩ := memIn_new (e := 37) (w := w) O2.out
  have hM := Lib.hid (hM' w1.heap.size (by simp) (by omega))
  clear hM'
  obtain ⟨i0, i1⟩ := inR_iff.1 hi
  obtain ⟨j0, j1⟩ := inR_iff.1 hj
  obtain ⟨n0, n1⟩ := inR_iff.1 hn
  obtain ⟨P, rfl⟩ := Int.eq_ofNat_of_zero_le i0
  obtain ⟨Q, rfl⟩ := Int.eq_ofNat_of_zero_le j0
  obtain ⟨m, rfl⟩ := Int.eq_ofNat_of_zero_le n0
  have hlt1 : w.heap.size + 1 < w1.heap.size := by omega
  have hT2 := six_alloc (.cells #[.slice a2 ram.length c2, .slice b2 rom.length d2, .int .i64 bank] 37) (six_below hb2 (six_below hb1 (six_lit (x := .slice none 0 0) (y := .slice none 0 0) (z := .int .i64 0) (b := w.heap.size + 1) (by simp))))
  have hr := Lib.hid (shp_of hv).r
  have hW2 : w1.heap.size ≤ w2.heap.size := by omega
  have hm1 : (m : Int) ≤ 256 := n1
  go_wp2_with fail
  go_loopw [33] (fun i wr => ∃ k : Nat, k ≤ m ∧ i = .int .i64 k ∧ Hid (MemIn w1.heap.size wr w2.heap.size (copyN ram rom bank P Q k) rom bank a2 c2 b2 d2 l1 t1 l2 t2) ∧ Hid (Below w1.heap.size (w2.alloc (.cells #[.slice a2 ram.length c2, .slice b2 rom.length d2, .int .i64 bank] 37)) wr)) (fun i _ => m - (intOf i).toNat)
  case atStart => exact ⟨0, Nat.zero_le _, rfl, hM.out, Below.refl _ _⟩
  case round =>
    obtain ⟨k, hk, rfl, hMk, hBk⟩ := hrel
    by_cases hlt : k < m
    · have hki : (k : Int) < (m : Int) := by omega
      have hlen : (copyN ram rom bank P Q k).length = 256 := by rw [copyN_len]; exact hr.out
      have hsh := copyN_shp HV.out P Q k
      have T : Hid (copyN ram rom bank P Q (k + 1) = (copyN ram rom bank P Q k).set ((Q + k) % 256) (peekL (copyN ram rom bank P Q k) rom bank (((P + k) % 1024 : Nat) : Int))) := rfl
      obtain ⟨u1, u2, rb, off, rfl, lb1, lb2, lb3, hcell, hfz, hset⟩ := hMk.out.o.set (k := (Q + k) % 256) (by omega)
      have E : Hid (∀ x : Int, MemIn w1.heap.size (wr.setCell ⟨rb, off + (Q + k) % 256, none⟩ (.int .i64 x)) w2.heap.size ((copyN ram rom bank P Q k).set ((Q + k) % 256) x) rom bank (some ⟨rb, off, none⟩) c2 b2 d2 l1 t1 l2 t2) := fun x => hMk.out.setRam _ (by simp) lb1 lb2 (by rw [List.length_set]; exact hset x)
      have E2 : Hid (∀ W', Below wr.heap.size wr W' → ∀ x : Int, MemIn w1.heap.size (W'.setCell ⟨rb, off + (Q + k) % 256, none⟩ (.int .i64 x)) w2.heap.size ((copyN ram rom bank P Q k).set ((Q + k) % 256) x) rom bank (some ⟨rb, off, none⟩) c2 b2 d2 l1 t1 l2 t2) := fun W' hb x => by
        have h' := hMk.out.below hb
        obtain ⟨_, _, rb', off', e', lb1', lb2', _, _, _, hset'⟩ := h'.o.set (k := (Q + k) % 256) (by omega)
        injection e' with e''
        injection e'' with e1 e2
        subst e1 e2
        exact h'.setRam _ (by simp) lb1' lb2' (by rw [List.length_set]; exact hset' x)
      have A0 := hMk.out.memAt
      have A := Lib.hid A0
      obtain ⟨x0, x1, x2, _, _⟩ := A0
      have hp : peekL (copyN ram rom bank P Q k) rom bank (((P + k) % 1024 : Nat) : Int) = peekL (copyN ram rom bank P Q k) rom bank (((P + k) % 1024 : Nat) : Int) := rfl
      generalize copyN ram rom bank P Q k = cur at *
      rw [hlen] at x0 u1
      generalize cur.getD ((Q + k) % 256) 0 = y at *
      have e1 : ((P : Int) + (k : Int)).tmod 1024 = (((P + k) % 1024 : Nat) : Int) := by rw [Int.tmod_eq_emod_of_nonneg (by omega)]; omega
      have e2 : ((P : Int) + (k : Int)) % 1024 = (((P + k) % 1024 : Nat) : Int) := by omega
      have e3 : ((Q : Int) + (k : Int)).tmod 256 = (((Q + k) % 256 : Nat) : Int) := by rw [Int.tmod_eq_emod_of_nonneg (by omega)]; omega
      have e4 : ((Q : Int) + (k : Int)) % 256 = (((Q + k) % 256 : Nat) : Int) := by omega
      have w1' : IntKind.i64.wrap ((P : Int) + (k : Int)) = (P : Int) + (k : Int) := IntWalk.i64_in _ (by omega)
      have w2' : IntKind.i64.wrap ((Q : Int) + (k : Int)) = (Q : Int) + (k : Int) := IntWalk.i64_in _ (by omega)
      have e5 : (IntKind.i64.wrap ((P : Int) + (k : Int))).tmod 1024 = (((P + k) % 1024 : Nat) : Int) := by rw [w1']; exact e1
      have e6 : (IntKind.i64.wrap ((Q : Int) + (k : Int))).tmod 256 = (((Q + k) % 256 : Nat) : Int) := by rw [w2']; exact e3
      have g1 : (((P + k) % 1024 : Nat) : Int) ≤ 1023 := by omega
      have g0 : 0 ≤ (((P + k) % 1024 : Nat) : Int) := by omega
      have g2 : (((Q + k) % 256 : Nat) : Int) < 256 := by omega
      have g3 : 0 ≤ (((Q + k) % 256 : Nat) : Int) := by omega
      have g4 : (Q + k) % 256 < 256 := by omega
      generalize (P + k) % 1024 = pi at *
      generalize (Q + k) % 256 = qi at *
      clear hp hset
      go_wp2_with fail
      have CP : Hid (Calls Try.prog 69 #[.pointer (some ⟨w2.heap.size, 0, none⟩), .int .i64 (pi : Int)] wr.drew fun e w' => e = .returned (.int .i64 (peekL cur rom bank (pi : Int))) ∧ Quiet wr.drew w') := impl_peek (memAt_drew A.out) hsh g0 g1
      go_region_with ((go_at_call 69; refine CP.out.mono ?_; rintro e w3 ⟨rfl, nq, rfl⟩))
      all_goals
        go_wp2_with fail
        go_roundw
        case rel => exact ⟨k + 1, by omega, by go_num, (by rw [Hid, T.out]; exact memIn_drewN _ (E.out _)), (below_drewN _ hBk.out).setCell (p := ⟨rb, off + qi, none⟩) (show w1.heap.size ≤ rb by omega) _⟩
        case measure => simp [intOf]; omega
    · have hki : ¬ (k : Int) < (m : Int) := by omega
      have e : k = m := by omega
      subst e
      have hM3 := hMk.out
      obtain ⟨r1, r2, r3, r4, r5, r6⟩ := six_be hBk.out hT2 hlt1
      have y0 := hM3.c0
      have y1 := hM3.c1
      have y2 := hM3.c2
      have M3 := Lib.hid hM3
      have hs3 := hBk.out.size
      clear hM3
      go_wp2_with fail
      (try simp only [Exit.inBlock, Exit.then])
      refine bodyPost_ret (v := .agg #[.slice a2 (copyN ram rom bank P Q k).length c2, .slice b2 rom.length d2, .int .i64 bank]) (by simp [results, Try.results25, go_sem, r1, r2, r3]) rfl ⟨_, rfl, ?_, ?_⟩
      · exact ((M3.out.ownMem (lo := w1.heap.size) (hi := wr.heap.size) (by omega) (by omega) M3.out.s1 M3.out.s2).agree (by (repeat (first | assumption | with_reducible exact Agree.refl _ _ _ | with_reducible refine agree_below (by assumption) ?_ (by first | omega | go_size) | with_reducible refine agree_within (by assumption) ?_ (by first | omega | go_size) (by omega) | with_reducible refine Agree.alloc ?_ (by first | omega | go_size) _ | with_reducible refine Agree.setCell ?_ (by first | omega | (dsimp only; omega)) _ | with_reducible refine Agree.drew ?_)))).wide (by omega) (by simp only [size_set]; exact Nat.le_refl _)
      · repeat (with_reducible refine Below.setCell ?_ (by show w.heap.size ≤ w.heap.size + 1; omega) _)
        exact (hB2.out.alloc (by omega) _).trans (hBk.out.mono (by omega))
set_option maxHeartbeats 1048576 in
set_option maxRecDepth 20000 in
theorem spec_CopyMemory {v : Value} {ram : List Int} {rom : List (List Int)} {bank : Int} (p q n : Int) {w : World} (h : MemV w v ram rom bank) :
    Calls Try.prog 27 #[v, .int .i64 p, .int .i64 q, .int .i64 n] w (MadeMem (cpR ram rom bank p q n) (cpM ram rom bank p q n) (cpB ram rom bank p q n) w) := by
  have H := Lib.hid h
  obtain ⟨a, c, b, d, rfl, k1, k2, k3, k4⟩ := memV_shape h
  clear h
  cases hv : memB ram rom bank
  · obtain ⟨e1, e2, e3⟩ := cp_no (ram := ram) (rom := rom) (bank := bank) (p := p) (q := q) (n := n) (by simp [cpOk, hv])
    rw [e1, e2, e3]
    go_enter Try.func27, Try.ntmps27
    go_wp2_with fail
    refine (calls_eqv (spec_MemoryValid (H.out.below (by go_grown))) hv).mono ?_
    rintro e w1 ⟨rfl, hb1⟩
    obtain ⟨hc1, hf1⟩ := bcell hb1
    have hs1 : w.heap.size + 2 ≤ w1.heap.size := Nat.le_trans (by go_size) hb1.size
    have z1_0 : w.heap.size < w1.heap.size := Nat.lt_of_lt_of_le (by go_size) hb1.size
    have z1_1 : w.heap.size + 1 < w1.heap.size := Nat.lt_of_lt_of_le (by go_size) hb1.size
    have hB1 : Hid (Below w.heap.size w w1) := below_via hb1 (by repeat (first | with_reducible exact Below.refl _ _ | with_reducible refine below_via (by assumption) ?_ (by go_size) | with_reducible refine below_within (by assumption) ?_ (by go_size) (by omega) | with_reducible refine Below.alloc ?_ (by go_size) _ | with_reducible refine Below.setCell ?_ (by go_size) _ | with_reducible refine Below.drew ?_)) (by go_size)
    go_wp2_with fail
    obtain ⟨r1, r2, r3, r4, r5, r6⟩ := six_below hb1 (six_lit (x := .slice none 0 0) (y := .slice none 0 0) (z := .int .i64 0) (b := w.heap.size + 1) (by simp))
    refine bodyPost_ret (v := .agg #[.slice none 0 0, .slice none 0 0, .int .i64 0]) (by simp [results, Try.results27, go_sem, r1, r2, r3]) rfl ⟨_, rfl, ownMem_zero (by simp only [size_set]; omega), by repeat (first | with_reducible exact Below.refl _ _ | with_reducible refine below_via (by assumption) ?_ (by go_size) | with_reducible refine below_within (by assumption) ?_ (by go_size) (by omega) | with_reducible refine Below.alloc ?_ (by go_size) _ | with_reducible refine Below.setCell ?_ (by go_size) _ | with_reducible refine Below.drew ?_)⟩
  cases hi : inR p 0 1023
  · obtain ⟨e1, e2, e3⟩ := cp_no (ram := ram) (rom := rom) (bank := bank) (p := p) (q := q) (n := n) (by simp [cpOk, hi])
    rw [e1, e2, e3]
    go_enter Try.func27, Try.ntmps27
    go_wp2_with fail
    refine (calls_eqv (spec_MemoryValid (H.out.below (by go_grown))) hv).mono ?_
    rintro e w1 ⟨rfl, hb1⟩
    obtain ⟨hc1, hf1⟩ := bcell hb1
    have hs1 : w.heap.size + 2 ≤ w1.heap.size := Nat.le_trans (by go_size) hb1.size
    have z1_0 : w.heap.size < w1.heap.size := Nat.lt_of_lt_of_le (by go_size) hb1.size
    have z1_1 : w.heap.size + 1 < w1.heap.size := Nat.lt_of_lt_of_le (by go_size) hb1.size
    have hB1 : Hid (Below w.heap.size w w1) := below_via hb1 (by repeat (first | with_reducible exact Below.refl _ _ | with_reducible refine below_via (by assumption) ?_ (by go_size) | with_reducible refine below_within (by assumption) ?_ (by go_size) (by omega) | with_reducible refine Below.alloc ?_ (by go_size) _ | with_reducible refine Below.setCell ?_ (by go_size) _ | with_reducible refine Below.drew ?_)) (by go_size)
    go_wp2_with fail
    refine (calls_eqv (spec_l1In _ _ _ _) hi).mono ?_
    rintro e w' ⟨rfl, rfl⟩
    go_wp2_with fail
    obtain ⟨r1, r2, r3, r4, r5, r6⟩ := six_below hb1 (six_lit (x := .slice none 0 0) (y := .slice none 0 0) (z := .int .i64 0) (b := w.heap.size + 1) (by simp))
    refine bodyPost_ret (v := .agg #[.slice none 0 0, .slice none 0 0, .int .i64 0]) (by simp [results, Try.results27, go_sem, r1, r2, r3]) rfl ⟨_, rfl, ownMem_zero (by simp only [size_set]; omega), by repeat (first | with_reducible exact Below.refl _ _ | with_reducible refine below_via (by assumption) ?_ (by go_size) | with_reducible refine below_within (by assumption) ?_ (by go_size) (by omega) | with_reducible refine Below.alloc ?_ (by go_size) _ | with_reducible refine Below.setCell ?_ (by go_size) _ | with_reducible refine Below.drew ?_)⟩
  cases hj : inR q 0 1023
  · obtain ⟨e1, e2, e3⟩ := cp_no (ram := ram) (rom := rom) (bank := bank) (p := p) (q := q) (n := n) (by simp [cpOk, hj])
    rw [e1, e2, e3]
    go_enter Try.func27, Try.ntmps27
    go_wp2_with fail
    refine (calls_eqv (spec_MemoryValid (H.out.below (by go_grown))) hv).mono ?_
    rintro e w1 ⟨rfl, hb1⟩
    obtain ⟨hc1, hf1⟩ := bcell hb1
    have hs1 : w.heap.size + 2 ≤ w1.heap.size := Nat.le_trans (by go_size) hb1.size
    have z1_0 : w.heap.size < w1.heap.size := Nat.lt_of_lt_of_le (by go_size) hb1.size
    have z1_1 : w.heap.size + 1 < w1.heap.size := Nat.lt_of_lt_of_le (by go_size) hb1.size
    have hB1 : Hid (Below w.heap.size w w1) := below_via hb1 (by repeat (first | with_reducible exact Below.refl _ _ | with_reducible refine below_via (by assumption) ?_ (by go_size) | with_reducible refine below_within (by assumption) ?_ (by go_size) (by omega) | with_reducible refine Below.alloc ?_ (by go_size) _ | with_reducible refine Below.setCell ?_ (by go_size) _ | with_reducible refine Below.drew ?_)) (by go_size)
    go_wp2_with fail
    refine (calls_eqv (spec_l1In _ _ _ _) hi).mono ?_
    rintro e w' ⟨rfl, rfl⟩
    go_wp2_with fail
    refine (calls_eqv (spec_l1In _ _ _ _) hj).mono ?_
    rintro e w' ⟨rfl, rfl⟩
    go_wp2_with fail
    obtain ⟨r1, r2, r3, r4, r5, r6⟩ := six_below hb1 (six_lit (x := .slice none 0 0) (y := .slice none 0 0) (z := .int .i64 0) (b := w.heap.size + 1) (by simp))
    refine bodyPost_ret (v := .agg #[.slice none 0 0, .slice none 0 0, .int .i64 0]) (by simp [results, Try.results27, go_sem, r1, r2, r3]) rfl ⟨_, rfl, ownMem_zero (by simp only [size_set]; omega), by repeat (first | with_reducible exact Below.refl _ _ | with_reducible refine below_via (by assumption) ?_ (by go_size) | with_reducible refine below_within (by assumption) ?_ (by go_size) (by omega) | with_reducible refine Below.alloc ?_ (by go_size) _ | with_reducible refine Below.setCell ?_ (by go_size) _ | with_reducible refine Below.drew ?_)⟩
  cases hn : inR n 0 256
  · obtain ⟨e1, e2, e3⟩ := cp_no (ram := ram) (rom := rom) (bank := bank) (p := p) (q := q) (n := n) (by simp [cpOk, hn])
    rw [e1, e2, e3]
    go_enter Try.func27, Try.ntmps27
    go_wp2_with fail
    refine (calls_eqv (spec_MemoryValid (H.out.below (by go_grown))) hv).mono ?_
    rintro e w1 ⟨rfl, hb1⟩
    obtain ⟨hc1, hf1⟩ := bcell hb1
    have hs1 : w.heap.size + 2 ≤ w1.heap.size := Nat.le_trans (by go_size) hb1.size
    have z1_0 : w.heap.size < w1.heap.size := Nat.lt_of_lt_of_le (by go_size) hb1.size
    have z1_1 : w.heap.size + 1 < w1.heap.size := Nat.lt_of_lt_of_le (by go_size) hb1.size
    have hB1 : Hid (Below w.heap.size w w1) := below_via hb1 (by repeat (first | with_reducible exact Below.refl _ _ | with_reducible refine below_via (by assumption) ?_ (by go_size) | with_reducible refine below_within (by assumption) ?_ (by go_size) (by omega) | with_reducible refine Below.alloc ?_ (by go_size) _ | with_reducible refine Below.setCell ?_ (by go_size) _ | with_reducible refine Below.drew ?_)) (by go_size)
    go_wp2_with fail
    refine (calls_eqv (spec_l1In _ _ _ _) hi).mono ?_
    rintro e w' ⟨rfl, rfl⟩
    go_wp2_with fail
    refine (calls_eqv (spec_l1In _ _ _ _) hj).mono ?_
    rintro e w' ⟨rfl, rfl⟩
    go_wp2_with fail
    refine (calls_eqv (spec_l1In _ _ _ _) hn).mono ?_
    rintro e w' ⟨rfl, rfl⟩
    go_wp2_with fail
    obtain ⟨r1, r2, r3, r4, r5, r6⟩ := six_below hb1 (six_lit (x := .slice none 0 0) (y := .slice none 0 0) (z := .int .i64 0) (b := w.heap.size + 1) (by simp))
    refine bodyPost_ret (v := .agg #[.slice none 0 0, .slice none 0 0, .int .i64 0]) (by simp [results, Try.results27, go_sem, r1, r2, r3]) rfl ⟨_, rfl, ownMem_zero (by simp only [size_set]; omega), by repeat (first | with_reducible exact Below.refl _ _ | with_reducible refine below_via (by assumption) ?_ (by go_size) | with_reducible refine below_within (by assumption) ?_ (by go_size) (by omega) | with_reducible refine Below.alloc ?_ (by go_size) _ | with_reducible refine Below.setCell ?_ (by go_size) _ | with_reducible refine Below.drew ?_)⟩
  obtain ⟨e1, e2, e3⟩ := cp_yes (ram := ram) (rom := rom) (bank := bank) (p := p) (q := q) (n := n) (by simp [cpOk, hv, hi, hj, hn])
  rw [e1, e2, e3]
  obtain ⟨z1, z2, z3⟩ := sizes_of hv
  have HV := Lib.hid hv
  go_enter Try.func27, Try.ntmps27
  go_wp2_with fail
  refine (calls_eqv (spec_MemoryValid (H.out.below (by go_grown))) hv).mono ?_
  rintro e w1 ⟨rfl, hb1⟩
  obtain ⟨hc1, hf1⟩ := bcell hb1
  have hs1 : w.heap.size + 2 ≤ w1.heap.size := Nat.le_trans (by go_size) hb1.size
  have z1_0 : w.heap.size < w1.heap.size := Nat.lt_of_lt_of_le (by go_size) hb1.size
  have z1_1 : w.heap.size + 1 < w1.heap.size := Nat.lt_of_lt_of_le (by go_size) hb1.size
  have hB1 : Hid (Below w.heap.size w w1) := below_via hb1 (by repeat (first | with_reducible exact Below.refl _ _ | with_reducible refine below_via (by assumption) ?_ (by go_size) | with_reducible refine below_within (by assumption) ?_ (by go_size) (by omega) | with_reducible refine Below.alloc ?_ (by go_size) _ | with_reducible refine Below.setCell ?_ (by go_size) _ | with_reducible refine Below.drew ?_)) (by go_size)
  go_wp2_with fail
  refine (calls_eqv (spec_l1In _ _ _ _) hi).mono ?_
  rintro e w' ⟨rfl, rfl⟩
  go_wp2_with fail
  refine (calls_eqv (spec_l1In _ _ _ _) hj).mono ?_
  rintro e w' ⟨rfl, rfl⟩
  go_wp2_with fail
  refine (calls_eqv (spec_l1In _ _ _ _) hn).mono ?_
  rintro e w' ⟨rfl, rfl⟩
  go_wp2_with fail
  refine (spec_l2Copy (H.out.below hB1.out) z1 z2 z3).mono ?_
  rintro e w2 ⟨v2, rfl, o2, hb2⟩
  obtain ⟨hc2, hf2⟩ := bcell hb2
  have hs2 : w1.heap.size + 0 ≤ w2.heap.size := Nat.le_trans (by go_size) hb2.size
  have z2_0 : w.heap.size < w2.heap.size := Nat.lt_of_lt_of_le (by go_size) hb2.size
  have z2_1 : w.heap.size + 1 < w2.heap.size := Nat.lt_of_lt_of_le (by go_size) hb2.size
  have hB2 : Hid (Below w.heap.size w w2) := below_via hb2 (by repeat (first | with_reducible exact Below.refl _ _ | with_reducible refine below_via (by assumption) ?_ (by go_size) | with_reducible refine below_within (by assumption) ?_ (by go_size) (by omega) | with_reducible refine Below.alloc ?_ (by go_size) _ | with_reducible refine Below.setCell ?_ (by go_size) _ | with_reducible refine Below.drew ?_)) (by go_size)
  have O2 := Lib.hid o2
  obtain ⟨a2, c2, b2, d2, rfl, q1, q2, q3, q4⟩ := memV_shape O2.out.mem
  clear o2
  obtain ⟨l1, t1, l2, t2, m1, m2, m3, m4, hM'⟩ := memIn_new (e := 37) (w := w) O2.out
  have hM := Lib.hid (hM' w1.heap.size (by simp) (by omega))
  clear hM'
  obtain ⟨i0, i1⟩ := inR_iff.1 hi
  obtain ⟨j0, j1⟩ := inR_iff.1 hj
  obtain ⟨n0, n1⟩ := inR_iff.1 hn
  obtain ⟨P, rfl⟩ := Int.eq_ofNat_of_zero_le i0
  obtain ⟨Q, rfl⟩ := Int.eq_ofNat_of_zero_le j0
  obtain ⟨m, rfl⟩ := Int.eq_ofNat_of_zero_le n0
  have hlt1 : w.heap.size + 1 < w1.heap.size := by omega
  have hT2 := six_alloc (.cells #[.slice a2 ram.length c2, .slice b2 rom.length d2, .int .i64 bank] 37) (six_below hb2 (six_below hb1 (six_lit (x := .slice none 0 0) (y := .slice none 0 0) (z := .int .i64 0) (b := w.heap.size + 1) (by simp))))
  have hr := Lib.hid (shp_of hv).r
  have hW2 : w1.heap.size ≤ w2.heap.size := by omega
  have hm1 : (m : Int) ≤ 256 := n1
  go_wp2_with fail
  go_loopw [10] (fun i wr => ∃ k : Nat, k ≤ m ∧ i = .int .i64 k ∧ Hid (MemIn w1.heap.size wr w2.heap.size (copyN ram rom bank P Q k) rom bank a2 c2 b2 d2 l1 t1 l2 t2) ∧ Hid (Below w1.heap.size (w2.alloc (.cells #[.slice a2 ram.length c2, .slice b2 rom.length d2, .int .i64 bank] 37)) wr)) (fun i _ => m - (intOf i).toNat)
  case atStart => exact ⟨0, Nat.zero_le _, rfl, hM.out, Below.refl _ _⟩
  case round =>
    obtain ⟨k, hk, rfl, hMk, hBk⟩ := hrel
    by_cases hlt : k < m
    · have hki : (k : Int) < (m : Int) := by omega
      have hlen : (copyN ram rom bank P Q k).length = 256 := by rw [copyN_len]; exact hr.out
      have hsh := copyN_shp HV.out P Q k
      have T : Hid (copyN ram rom bank P Q (k + 1) = (copyN ram rom bank P Q k).set ((Q + k) % 256) (peekL (copyN ram rom bank P Q k) rom bank (((P + k) % 1024 : Nat) : Int))) := rfl
      obtain ⟨u1, u2, rb, off, rfl, lb1, lb2, lb3, hcell, hfz, hset⟩ := hMk.out.o.set (k := (Q + k) % 256) (by omega)
      have E : Hid (∀ x : Int, MemIn w1.heap.size (wr.setCell ⟨rb, off + (Q + k) % 256, none⟩ (.int .i64 x)) w2.heap.size ((copyN ram rom bank P Q k).set ((Q + k) % 256) x) rom bank (some ⟨rb, off, none⟩) c2 b2 d2 l1 t1 l2 t2) := fun x => hMk.out.setRam _ (by simp) lb1 lb2 (by rw [List.length_set]; exact hset x)
      have E2 : Hid (∀ W', Below wr.heap.size wr W' → ∀ x : Int, MemIn w1.heap.size (W'.setCell ⟨rb, off + (Q + k) % 256, none⟩ (.int .i64 x)) w2.heap.size ((copyN ram rom bank P Q k).set ((Q + k) % 256) x) rom bank (some ⟨rb, off, none⟩) c2 b2 d2 l1 t1 l2 t2) := fun W' hb x => by
        have h' := hMk.out.below hb
        obtain ⟨_, _, rb', off', e', lb1', lb2', _, _, _, hset'⟩ := h'.o.set (k := (Q + k) % 256) (by omega)
        injection e' with e''
        injection e'' with e1 e2
        subst e1 e2
        exact h'.setRam _ (by simp) lb1' lb2' (by rw [List.length_set]; exact hset' x)
      have A0 := hMk.out.memAt
      have A := Lib.hid A0
      obtain ⟨x0, x1, x2, _, _⟩ := A0
      have hp : peekL (copyN ram rom bank P Q k) rom bank (((P + k) % 1024 : Nat) : Int) = peekL (copyN ram rom bank P Q k) rom bank (((P + k) % 1024 : Nat) : Int) := rfl
      generalize copyN ram rom bank P Q k = cur at *
      rw [hlen] at x0 u1
      generalize cur.getD ((Q + k) % 256) 0 = y at *
      have e1 : ((P : Int) + (k : Int)).tmod 1024 = (((P + k) % 1024 : Nat) : Int) := by rw [Int.tmod_eq_emod_of_nonneg (by omega)]; omega
      have e2 : ((P : Int) + (k : Int)) % 1024 = (((P + k) % 1024 : Nat) : Int) := by omega
      have e3 : ((Q : Int) + (k : Int)).tmod 256 = (((Q + k) % 256 : Nat) : Int) := by rw [Int.tmod_eq_emod_of_nonneg (by omega)]; omega
      have e4 : ((Q : Int) + (k : Int)) % 256 = (((Q + k) % 256 : Nat) : Int) := by omega
      have w1' : IntKind.i64.wrap ((P : Int) + (k : Int)) = (P : Int) + (k : Int) := IntWalk.i64_in _ (by omega)
      have w2' : IntKind.i64.wrap ((Q : Int) + (k : Int)) = (Q : Int) + (k : Int) := IntWalk.i64_in _ (by omega)
      have e5 : (IntKind.i64.wrap ((P : Int) + (k : Int))).tmod 1024 = (((P + k) % 1024 : Nat) : Int) := by rw [w1']; exact e1
      have e6 : (IntKind.i64.wrap ((Q : Int) + (k : Int))).tmod 256 = (((Q + k) % 256 : Nat) : Int) := by rw [w2']; exact e3
      have g1 : (((P + k) % 1024 : Nat) : Int) ≤ 1023 := by omega
      have g0 : 0 ≤ (((P + k) % 1024 : Nat) : Int) := by omega
      have g2 : (((Q + k) % 256 : Nat) : Int) < 256 := by omega
      have g3 : 0 ≤ (((Q + k) % 256 : Nat) : Int) := by omega
      have g4 : (Q + k) % 256 < 256 := by omega
      generalize (P + k) % 1024 = pi at *
      generalize (Q + k) % 256 = qi at *
      clear hp hset
      go_wp2_with fail
      have hI' : Ints wr (.slice (some ⟨rb, off, none⟩) 256 c2) cur := by have := hMk.out.o.ints; rwa [hlen] at this
      have hMV : MemV wr.drew (.agg #[.slice (some ⟨rb, off, none⟩) 256 c2, .slice b2 rom.length d2, .int .i64 bank]) cur rom bank := ⟨_, _, rfl, hI'.below ⟨rfl, rfl, rfl, Nat.le_refl _, fun _ _ => rfl⟩, hMk.out.m.mat.below ⟨rfl, rfl, rfl, Nat.le_refl _, fun _ _ => rfl⟩⟩
      have CP : Hid (Calls Try.prog 71 #[.agg #[.slice (some ⟨rb, off, none⟩) 256 c2, .slice b2 rom.length d2, .int .i64 bank], .int .i64 (pi : Int)] wr.drew fun e w' => e = .returned (.int .i64 (peekL cur rom bank (pi : Int))) ∧ Below wr.drew.heap.size wr.drew w') := spec_l2Read hMV hsh g0 g1
      have lB : w2.heap.size < wr.heap.size := block_lt_of_cell x0
      clear hI' hMV
      go_region_with ((go_at_call 71; refine CP.out.mono ?_; rintro e w3 ⟨rfl, hb3⟩; have hb3' : Below wr.heap.size wr w3 := (Below.refl _ _).drew.trans hb3; have x03 := cell_be hb3' x0 lB; have c3 := cell_be hb3' hcell lb3; have f3 := frozen_be hb3' hfz lb3))
      all_goals
        go_wp2_with fail
        go_roundw
        case rel => exact ⟨k + 1, by omega, by go_num, (by rw [Hid, T.out]; exact E2.out _ hb3' _), (hBk.out.trans (hb3'.mono (by omega))).setCell (p := ⟨rb, off + qi, none⟩) (show w1.heap.size ≤ rb by omega) _⟩
        case measure => simp [intOf]; omega
    · have hki : ¬ (k : Int) < (m : Int) := by omega
      have e : k = m := by omega
      subst e
      have hM3 := hMk.out
      obtain ⟨r1, r2, r3, r4, r5, r6⟩ := six_be hBk.out hT2 hlt1
      have y0 := hM3.c0
      have y1 := hM3.c1
      have y2 := hM3.c2
      have M3 := Lib.hid hM3
      have hs3 := hBk.out.size
      clear hM3
      go_wp2_with fail
      (try simp only [Exit.inBlock, Exit.then])
      refine bodyPost_ret (v := .agg #[.slice a2 (copyN ram rom bank P Q k).length c2, .slice b2 rom.length d2, .int .i64 bank]) (by simp [results, Try.results27, go_sem, r1, r2, r3]) rfl ⟨_, rfl, ?_, ?_⟩
      · exact ((M3.out.ownMem (lo := w1.heap.size) (hi := wr.heap.size) (by omega) (by omega) M3.out.s1 M3.out.s2).agree (by (repeat (first | assumption | with_reducible exact Agree.refl _ _ _ | with_reducible refine agree_below (by assumption) ?_ (by first | omega | go_size) | with_reducible refine agree_within (by assumption) ?_ (by first | omega | go_size) (by omega) | with_reducible refine Agree.alloc ?_ (by first | omega | go_size) _ | with_reducible refine Agree.setCell ?_ (by first | omega | (dsimp only; omega)) _ | with_reducible refine Agree.drew ?_)))).wide (by omega) (by simp only [size_set]; exact Nat.le_refl _)
      · repeat (with_reducible refine Below.setCell ?_ (by show w.heap.size ≤ w.heap.size + 1; omega) _)
        exact (hB2.out.alloc (by omega) _).trans (hBk.out.mono (by omega))
end Go.Proofs.Ytkkgolgmhckgoaa
