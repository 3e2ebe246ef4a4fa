/- The walks of the functions that read an instruction out of a list of numbers: each returns what its plain word says, and changes nothing that was there. No condition. -/
import Derived.Test.YtlnpmanghkeieaaCodec
import Derived.RegionTactic
import Derived.ChangeAlike
namespace Go.Proofs.Ytlnpmanghkeieaa
open Go.RowKit
set_option linter.unusedVariables false

def dOp (zs : List Int) (p : Int) : Int := zs.getD p.toNat 0
def dz1 (zs : List Int) (p : Int) : Int := zs.getD (p.toNat + 1) 0
def dz2 (zs : List Int) (p : Int) : Int := zs.getD (p.toNat + 2) 0
/-- Does an instruction begin at p of n numbers, where x, y, z stand? -/
def okX (n p x y z : Int) : Bool := decide (p + olen x ≤ n) && (olen x == 1 || (olen x == 2 && byteB y) || (olen x == 3 && byteB y && inR z 0 3))
def argX (x y z : Int) : Int := if olen x = 1 then 0 else if olen x = 2 then y else y + 256 * z
def noV : Value := .tuple #[.agg #[.int .i64 0, .int .i64 0], .int .i64 0, .bool false]
def decX (n p x y z : Int) : Value := if okX n p x y z then .tuple #[.agg #[.int .i64 x, .int .i64 (argX x y z)], .int .i64 (olen x), .bool true] else noV
def dOk (zs : List Int) (p : Int) : Bool := inR p 0 ((zs.length : Int) - 1) && okX zs.length p (dOp zs p) (dz1 zs p) (dz2 zs p)
def dArg (zs : List Int) (p : Int) : Int := argX (dOp zs p) (dz1 zs p) (dz2 zs p)
def decV (zs : List Int) (p : Int) : Value := if dOk zs p then .tuple #[.agg #[.int .i64 (dOp zs p), .int .i64 (dArg zs p)], .int .i64 (olen (dOp zs p)), .bool true] else noV
theorem decV_no {zs : List Int} {p : Int} (h : inR p 0 ((zs.length : Int) - 1) = false) : decV zs p = noV := by simp [decV, dOk, h]
theorem decV_in {zs : List Int} {p : Int} (h : inR p 0 ((zs.length : Int) - 1) = true) : decV zs p = decX zs.length p (dOp zs p) (dz1 zs p) (dz2 zs p) := by simp [decV, dOk, h, decX, dArg]
theorem decX_no {n p x y z : Int} (h : okX n p x y z = false) : decX n p x y z = noV := by simp [decX, h]
theorem decX_1 {n p x y z : Int} (h : olen x = 1) (hn : p + 1 ≤ n) : decX n p x y z = .tuple #[.agg #[.int .i64 x, .int .i64 0], .int .i64 1, .bool true] := by simp [decX, okX, argX, h, hn]
theorem decX_2 {n p x y z : Int} (h : olen x = 2) (hn : p + 2 ≤ n) (hy : byteB y = true) : decX n p x y z = .tuple #[.agg #[.int .i64 x, .int .i64 y], .int .i64 2, .bool true] := by simp [decX, okX, argX, h, hn, hy]
theorem decX_3 {n p x y z : Int} (h : olen x = 3) (hn : p + 3 ≤ n) (hy : byteB y = true) (hz : inR z 0 3 = true) : decX n p x y z = .tuple #[.agg #[.int .i64 x, .int .i64 (y + 256 * z)], .int .i64 3, .bool true] := by simp [decX, okX, argX, h, hn, hy, hz]
theorem okX_ov {n p x y z : Int} (h : okX n p x y z = true) : ovB x (argX x y z) = true := by
  unfold okX at h
  simp only [Bool.and_eq_true, Bool.or_eq_true, beq_iff_eq] at h
  obtain ⟨_, (h | ⟨h, hb⟩) | ⟨⟨h, hb⟩, hc⟩⟩ := h
  · rw [ovB_1 h]; simp [argX, h]
  · rw [ovB_2 h]; simp [argX, h, hb]
  · rw [ovB_3 h]
    have := byteB_iff.1 hb
    have := inR_iff.1 hc
    simp only [argX, h]
    exact inR_iff.2 (by simp; omega)
/-- What a walk over a list asks at an index. -/
theorem ints_cells {w : World} {v : Value} {zs : List Int} (h : Ints w v zs) : ∃ (a : Option Addr) (cap : Nat), v = .slice a zs.length cap ∧ zs.length ≤ cap ∧ (cap : Int) ≤ 9223372036854775807 ∧
    (zs = [] ∨ ∃ b off, a = some ⟨b, off, none⟩ ∧ b < w.heap.size ∧ ∀ i, i < zs.length → w.cell? ⟨b, off + i, none⟩ = some (.int .i64 (zs.getD i 0))) := by
  obtain ⟨a, cap, rfl, h1, h2, h3⟩ := h
  unfold maxLen at h2
  refine ⟨a, cap, rfl, h1, by omega, ?_⟩
  rcases h3 with h0 | ⟨b, off, rfl, hc⟩
  · exact .inl h0
  · by_cases h0 : zs = []
    · exact .inl h0
    · exact .inr ⟨b, off, rfl, block_lt_of_cell (hc 0 (List.length_pos_iff.2 h0)), hc⟩
theorem spec_dec_0 {b off n cap k : Nat} {x : Int} {w : World} (h : olen x = 0) (hlc : n ≤ cap) (hcap : (cap : Int) ≤ 9223372036854775807) (hk : k < n) (hb : b < w.heap.size) (g0 : w.cell? ⟨b, off + k, none⟩ = some (.int .i64 x)) :
    Calls Try.prog 54 #[.slice (some ⟨b, off, none⟩) n cap, .int .i64 k] w fun e w' => e = .returned noV ∧ Below w.heap.size w w' := by
  have hin : inR (k : Int) 0 ((n : Int) - 1) = true := inR_iff.2 (by omega)
  have hk' : (k : Int) < (n : Int) := by omega
  have hn' : (n : Int) ≤ 9223372036854775807 := by omega
  go_enter Try.func54, Try.ntmps54
  go_wp2_with fail
  refine (spec_l1In _ _ _ _).mono ?_
  rintro e w' ⟨rfl, rfl⟩
  go_wp2_with fail
  refine (spec_OrderLength _ _).mono ?_
  rintro e w1 ⟨rfl, hb1⟩
  obtain ⟨hc1, hf1⟩ := bcell hb1
  have hy1 : w.heap.size ≤ w1.heap.size := Nat.le_trans (by go_size) hb1.size
  have z1_0 : b < w1.heap.size := Nat.lt_of_lt_of_le (by go_size) hb1.size
  have z1_1 : w.heap.size < w1.heap.size := Nat.lt_of_lt_of_le (by go_size) hb1.size
  go_wp2_with fail
  refine bodyPost_ret (v := noV) (by simp [results, Try.results54, go_sem, *]; rfl) rfl ⟨rfl, ?_⟩
  repeat (first | with_reducible exact Below.refl _ _ | with_reducible refine below_via (by assumption) ?_ (by go_size) | with_reducible refine below_within (by assumption) ?_ (by go_size) (by omega) | with_reducible refine Below.alloc ?_ (by go_size) _ | with_reducible refine Below.setCell ?_ (by go_size) _ | with_reducible refine Below.drew ?_)
theorem spec_dec_1 {b off n cap k : Nat} {x : Int} {w : World} (h : olen x = 1) (hlc : n ≤ cap) (hcap : (cap : Int) ≤ 9223372036854775807) (hk : k < n) (hb : b < w.heap.size) (g0 : w.cell? ⟨b, off + k, none⟩ = some (.int .i64 x)) :
    Calls Try.prog 54 #[.slice (some ⟨b, off, none⟩) n cap, .int .i64 k] w fun e w' => e = .returned (.tuple #[.agg #[.int .i64 x, .int .i64 0], .int .i64 1, .bool true]) ∧ Below w.heap.size w w' := by
  have hin : inR (k : Int) 0 ((n : Int) - 1) = true := inR_iff.2 (by omega)
  have hk' : (k : Int) < (n : Int) := by omega
  have hn' : (n : Int) ≤ 9223372036854775807 := by omega
  have hov : ovB x 0 = true := by rw [ovB_1 h]; rfl
  have hf0 : ¬ (n : Int) - 1 < (k : Int) := by omega
  go_enter Try.func54, Try.ntmps54
  go_wp2_with fail
  refine (spec_l1In _ _ _ _).mono ?_
  rintro e w' ⟨rfl, rfl⟩
  go_wp2_with fail
  refine (spec_OrderLength _ _).mono ?_
  rintro e w1 ⟨rfl, hb1⟩
  obtain ⟨hc1, hf1⟩ := bcell hb1
  have hy1 : w.heap.size ≤ w1.heap.size := Nat.le_trans (by go_size) hb1.size
  have z1_0 : b < w1.heap.size := Nat.lt_of_lt_of_le (by go_size) hb1.size
  have z1_1 : w.heap.size < w1.heap.size := Nat.lt_of_lt_of_le (by go_size) hb1.size
  go_wp2_with fail
  refine (spec_OrderValid _ _ _).mono ?_
  rintro e w2 ⟨rfl, hb2⟩
  obtain ⟨hc2, hf2⟩ := bcell hb2
  have hy2 : w.heap.size ≤ w2.heap.size := Nat.le_trans (by go_size) hb2.size
  have z2_0 : b < w2.heap.size := Nat.lt_of_lt_of_le (by go_size) hb2.size
  have z2_1 : w.heap.size < w2.heap.size := Nat.lt_of_lt_of_le (by go_size) hb2.size
  have z2_2 : w1.heap.size < w2.heap.size := Nat.lt_of_lt_of_le (by go_size) hb2.size
  go_wp2_with fail
  have q0 := carry_cell (p := ⟨w.heap.size, 0, none⟩) (v := .int .i64 0) hb2 (by (try change (World.alloc w1 _).cell? _ = _); rw [World.cell?_alloc_lt _ _ _ z1_1]; exact carry_cell hb1 (by simp [go_sem]))
  have q1 := carry_cell (p := ⟨w.heap.size, 1, none⟩) (v := .int .i64 0) hb2 (by (try change (World.alloc w1 _).cell? _ = _); rw [World.cell?_alloc_lt _ _ _ z1_1]; exact carry_cell hb1 (by simp [go_sem]))
  refine bodyPost_ret (v := (.tuple #[.agg #[.int .i64 x, .int .i64 0], .int .i64 1, .bool true])) (by simp [results, Try.results54, go_sem, q0, q1]) rfl ⟨rfl, ?_⟩
  repeat (first | with_reducible exact Below.refl _ _ | with_reducible refine below_via (by assumption) ?_ (by go_size) | with_reducible refine below_within (by assumption) ?_ (by go_size) (by omega) | with_reducible refine Below.alloc ?_ (by go_size) _ | with_reducible refine Below.setCell ?_ (by go_size) _ | with_reducible refine Below.drew ?_)
theorem spec_dec_2s {b off n cap k : Nat} {x : Int} {w : World} (h : olen x = 2) (hs : n < k + 2) (hlc : n ≤ cap) (hcap : (cap : Int) ≤ 9223372036854775807) (hk : k < n) (hb : b < w.heap.size) (g0 : w.cell? ⟨b, off + k, none⟩ = some (.int .i64 x)) :
    Calls Try.prog 54 #[.slice (some ⟨b, off, none⟩) n cap, .int .i64 k] w fun e w' => e = .returned noV ∧ Below w.heap.size w w' := by
  have hin : inR (k : Int) 0 ((n : Int) - 1) = true := inR_iff.2 (by omega)
  have hk' : (k : Int) < (n : Int) := by omega
  have hn' : (n : Int) ≤ 9223372036854775807 := by omega
  have hf0 : (n : Int) - 2 < (k : Int) := by omega
  go_enter Try.func54, Try.ntmps54
  go_wp2_with fail
  refine (spec_l1In _ _ _ _).mono ?_
  rintro e w' ⟨rfl, rfl⟩
  go_wp2_with fail
  refine (spec_OrderLength _ _).mono ?_
  rintro e w1 ⟨rfl, hb1⟩
  obtain ⟨hc1, hf1⟩ := bcell hb1
  have hy1 : w.heap.size ≤ w1.heap.size := Nat.le_trans (by go_size) hb1.size
  have z1_0 : b < w1.heap.size := Nat.lt_of_lt_of_le (by go_size) hb1.size
  have z1_1 : w.heap.size < w1.heap.size := Nat.lt_of_lt_of_le (by go_size) hb1.size
  go_wp2_with fail
  refine bodyPost_ret (v := noV) (by simp [results, Try.results54, go_sem, *]; rfl) rfl ⟨rfl, ?_⟩
  repeat (first | with_reducible exact Below.refl _ _ | with_reducible refine below_via (by assumption) ?_ (by go_size) | with_reducible refine below_within (by assumption) ?_ (by go_size) (by omega) | with_reducible refine Below.alloc ?_ (by go_size) _ | with_reducible refine Below.setCell ?_ (by go_size) _ | with_reducible refine Below.drew ?_)
theorem spec_dec_2 {b off n cap k : Nat} {x y : Int} {w : World} (h : olen x = 2) (hs : k + 2 ≤ n) (hy : byteB y = true) (hlc : n ≤ cap) (hcap : (cap : Int) ≤ 9223372036854775807) (hk : k < n) (hb : b < w.heap.size) (g0 : w.cell? ⟨b, off + k, none⟩ = some (.int .i64 x)) (g1 : w.cell? ⟨b, off + (k + 1), none⟩ = some (.int .i64 y)) :
    Calls Try.prog 54 #[.slice (some ⟨b, off, none⟩) n cap, .int .i64 k] w fun e w' => e = .returned (.tuple #[.agg #[.int .i64 x, .int .i64 y], .int .i64 2, .bool true]) ∧ Below w.heap.size w w' := by
  have hin : inR (k : Int) 0 ((n : Int) - 1) = true := inR_iff.2 (by omega)
  have hk' : (k : Int) < (n : Int) := by omega
  have hn' : (n : Int) ≤ 9223372036854775807 := by omega
  have hov : ovB x y = true := by rw [ovB_2 h]; exact hy
  have hf0 : ¬ (n : Int) - 2 < (k : Int) := by omega
  have hk1 : (k : Int) + 1 < (n : Int) := by omega
  go_enter Try.func54, Try.ntmps54
  go_wp2_with fail
  refine (spec_l1In _ _ _ _).mono ?_
  rintro e w' ⟨rfl, rfl⟩
  go_wp2_with fail
  refine (spec_OrderLength _ _).mono ?_
  rintro e w1 ⟨rfl, hb1⟩
  obtain ⟨hc1, hf1⟩ := bcell hb1
  have hy1 : w.heap.size ≤ w1.heap.size := Nat.le_trans (by go_size) hb1.size
  have z1_0 : b < w1.heap.size := Nat.lt_of_lt_of_le (by go_size) hb1.size
  have z1_1 : w.heap.size < w1.heap.size := Nat.lt_of_lt_of_le (by go_size) hb1.size
  go_wp2_with fail
  refine (spec_OrderValid _ _ _).mono ?_
  rintro e w2 ⟨rfl, hb2⟩
  obtain ⟨hc2, hf2⟩ := bcell hb2
  have hy2 : w.heap.size ≤ w2.heap.size := Nat.le_trans (by go_size) hb2.size
  have z2_0 : b < w2.heap.size := Nat.lt_of_lt_of_le (by go_size) hb2.size
  have z2_1 : w.heap.size < w2.heap.size := Nat.lt_of_lt_of_le (by go_size) hb2.size
  have z2_2 : w1.heap.size < w2.heap.size := Nat.lt_of_lt_of_le (by go_size) hb2.size
  go_wp2_with fail
  have q0 := carry_cell (p := ⟨w.heap.size, 0, none⟩) (v := .int .i64 0) hb2 (by (try change (World.alloc w1 _).cell? _ = _); rw [World.cell?_alloc_lt _ _ _ z1_1]; exact carry_cell hb1 (by simp [go_sem]))
  have q1 := carry_cell (p := ⟨w.heap.size, 1, none⟩) (v := .int .i64 0) hb2 (by (try change (World.alloc w1 _).cell? _ = _); rw [World.cell?_alloc_lt _ _ _ z1_1]; exact carry_cell hb1 (by simp [go_sem]))
  refine bodyPost_ret (v := (.tuple #[.agg #[.int .i64 x, .int .i64 y], .int .i64 2, .bool true])) (by simp [results, Try.results54, go_sem, q0, q1]) rfl ⟨rfl, ?_⟩
  repeat (first | with_reducible exact Below.refl _ _ | with_reducible refine below_via (by assumption) ?_ (by go_size) | with_reducible refine below_within (by assumption) ?_ (by go_size) (by omega) | with_reducible refine Below.alloc ?_ (by go_size) _ | with_reducible refine Below.setCell ?_ (by go_size) _ | with_reducible refine Below.drew ?_)
theorem spec_dec_2n {b off n cap k : Nat} {x y : Int} {w : World} (h : olen x = 2) (hs : k + 2 ≤ n) (hy : byteB y = false) (hlc : n ≤ cap) (hcap : (cap : Int) ≤ 9223372036854775807) (hk : k < n) (hb : b < w.heap.size) (g0 : w.cell? ⟨b, off + k, none⟩ = some (.int .i64 x)) (g1 : w.cell? ⟨b, off + (k + 1), none⟩ = some (.int .i64 y)) :
    Calls Try.prog 54 #[.slice (some ⟨b, off, none⟩) n cap, .int .i64 k] w fun e w' => e = .returned noV ∧ Below w.heap.size w w' := by
  have hin : inR (k : Int) 0 ((n : Int) - 1) = true := inR_iff.2 (by omega)
  have hk' : (k : Int) < (n : Int) := by omega
  have hn' : (n : Int) ≤ 9223372036854775807 := by omega
  have hov : ovB x y = false := by rw [ovB_2 h]; exact hy
  have hf0 : ¬ (n : Int) - 2 < (k : Int) := by omega
  have hk1 : (k : Int) + 1 < (n : Int) := by omega
  go_enter Try.func54, Try.ntmps54
  go_wp2_with fail
  refine (spec_l1In _ _ _ _).mono ?_
  rintro e w' ⟨rfl, rfl⟩
  go_wp2_with fail
  refine (spec_OrderLength _ _).mono ?_
  rintro e w1 ⟨rfl, hb1⟩
  obtain ⟨hc1, hf1⟩ := bcell hb1
  have hy1 : w.heap.size ≤ w1.heap.size := Nat.le_trans (by go_size) hb1.size
  have z1_0 : b < w1.heap.size := Nat.lt_of_lt_of_le (by go_size) hb1.size
  have z1_1 : w.heap.size < w1.heap.size := Nat.lt_of_lt_of_le (by go_size) hb1.size
  go_wp2_with fail
  refine (spec_OrderValid _ _ _).mono ?_
  rintro e w2 ⟨rfl, hb2⟩
  obtain ⟨hc2, hf2⟩ := bcell hb2
  have hy2 : w.heap.size ≤ w2.heap.size := Nat.le_trans (by go_size) hb2.size
  have z2_0 : b < w2.heap.size := Nat.lt_of_lt_of_le (by go_size) hb2.size
  have z2_1 : w.heap.size < w2.heap.size := Nat.lt_of_lt_of_le (by go_size) hb2.size
  have z2_2 : w1.heap.size < w2.heap.size := Nat.lt_of_lt_of_le (by go_size) hb2.size
  go_wp2_with fail
  have q0 := carry_cell (p := ⟨w.heap.size, 0, none⟩) (v := .int .i64 0) hb2 (by (try change (World.alloc w1 _).cell? _ = _); rw [World.cell?_alloc_lt _ _ _ z1_1]; exact carry_cell hb1 (by simp [go_sem]))
  have q1 := carry_cell (p := ⟨w.heap.size, 1, none⟩) (v := .int .i64 0) hb2 (by (try change (World.alloc w1 _).cell? _ = _); rw [World.cell?_alloc_lt _ _ _ z1_1]; exact carry_cell hb1 (by simp [go_sem]))
  refine bodyPost_ret (v := noV) (by simp [results, Try.results54, go_sem, q0, q1, noV]) rfl ⟨rfl, ?_⟩
  repeat (first | with_reducible exact Below.refl _ _ | with_reducible refine below_via (by assumption) ?_ (by go_size) | with_reducible refine below_within (by assumption) ?_ (by go_size) (by omega) | with_reducible refine Below.alloc ?_ (by go_size) _ | with_reducible refine Below.setCell ?_ (by go_size) _ | with_reducible refine Below.drew ?_)
theorem spec_dec_3s {b off n cap k : Nat} {x : Int} {w : World} (h : olen x = 3) (hs : n < k + 3) (hlc : n ≤ cap) (hcap : (cap : Int) ≤ 9223372036854775807) (hk : k < n) (hb : b < w.heap.size) (g0 : w.cell? ⟨b, off + k, none⟩ = some (.int .i64 x)) :
    Calls Try.prog 54 #[.slice (some ⟨b, off, none⟩) n cap, .int .i64 k] w fun e w' => e = .returned noV ∧ Below w.heap.size w w' := by
  have hin : inR (k : Int) 0 ((n : Int) - 1) = true := inR_iff.2 (by omega)
  have hk' : (k : Int) < (n : Int) := by omega
  have hn' : (n : Int) ≤ 9223372036854775807 := by omega
  have hf0 : (n : Int) - 3 < (k : Int) := by omega
  go_enter Try.func54, Try.ntmps54
  go_wp2_with fail
  refine (spec_l1In _ _ _ _).mono ?_
  rintro e w' ⟨rfl, rfl⟩
  go_wp2_with fail
  refine (spec_OrderLength _ _).mono ?_
  rintro e w1 ⟨rfl, hb1⟩
  obtain ⟨hc1, hf1⟩ := bcell hb1
  have hy1 : w.heap.size ≤ w1.heap.size := Nat.le_trans (by go_size) hb1.size
  have z1_0 : b < w1.heap.size := Nat.lt_of_lt_of_le (by go_size) hb1.size
  have z1_1 : w.heap.size < w1.heap.size := Nat.lt_of_lt_of_le (by go_size) hb1.size
  go_wp2_with fail
  refine bodyPost_ret (v := noV) (by simp [results, Try.results54, go_sem, *, noV]) rfl ⟨rfl, ?_⟩
  repeat (first | with_reducible exact Below.refl _ _ | with_reducible refine below_via (by assumption) ?_ (by go_size) | with_reducible refine below_within (by assumption) ?_ (by go_size) (by omega) | with_reducible refine Below.alloc ?_ (by go_size) _ | with_reducible refine Below.setCell ?_ (by go_size) _ | with_reducible refine Below.drew ?_)
theorem spec_dec_3a {b off n cap k : Nat} {x y : Int} {w : World} (h : olen x = 3) (hs : k + 3 ≤ n) (hy : inR y 0 255 = false) (hlc : n ≤ cap) (hcap : (cap : Int) ≤ 9223372036854775807) (hk : k < n) (hb : b < w.heap.size) (g0 : w.cell? ⟨b, off + k, none⟩ = some (.int .i64 x)) (g1 : w.cell? ⟨b, off + (k + 1), none⟩ = some (.int .i64 y)) :
    Calls Try.prog 54 #[.slice (some ⟨b, off, none⟩) n cap, .int .i64 k] w fun e w' => e = .returned noV ∧ Below w.heap.size w w' := by
  have hin : inR (k : Int) 0 ((n : Int) - 1) = true := inR_iff.2 (by omega)
  have hk' : (k : Int) < (n : Int) := by omega
  have hn' : (n : Int) ≤ 9223372036854775807 := by omega
  have hf0 : ¬ (n : Int) - 3 < (k : Int) := by omega
  have hk1 : (k : Int) + 1 < (n : Int) := by omega
  have hk2 : (k : Int) + 2 < (n : Int) := by omega
  go_enter Try.func54, Try.ntmps54
  go_wp2_with fail
  refine (spec_l1In _ _ _ _).mono ?_
  rintro e w' ⟨rfl, rfl⟩
  go_wp2_with fail
  refine (spec_OrderLength _ _).mono ?_
  rintro e w1 ⟨rfl, hb1⟩
  obtain ⟨hc1, hf1⟩ := bcell hb1
  have hy1 : w.heap.size ≤ w1.heap.size := Nat.le_trans (by go_size) hb1.size
  have z1_0 : b < w1.heap.size := Nat.lt_of_lt_of_le (by go_size) hb1.size
  have z1_1 : w.heap.size < w1.heap.size := Nat.lt_of_lt_of_le (by go_size) hb1.size
  go_wp2_with fail
  refine (spec_l1In _ _ _ _).mono ?_
  rintro e w' ⟨rfl, rfl⟩
  go_wp2_with fail
  have q0 := carry_cell (p := ⟨w.heap.size, 0, none⟩) (v := .int .i64 0) hb1 (by simp [go_sem])
  have q1 := carry_cell (p := ⟨w.heap.size, 1, none⟩) (v := .int .i64 0) hb1 (by simp [go_sem])
  refine bodyPost_ret (v := noV) (by simp [results, Try.results54, go_sem, q0, q1, z1_1, noV]) rfl ⟨rfl, ?_⟩
  repeat (first | with_reducible exact Below.refl _ _ | with_reducible refine below_via (by assumption) ?_ (by go_size) | with_reducible refine below_within (by assumption) ?_ (by go_size) (by omega) | with_reducible refine Below.alloc ?_ (by go_size) _ | with_reducible refine Below.setCell ?_ (by go_size) _ | with_reducible refine Below.drew ?_)
theorem spec_dec_3b {b off n cap k : Nat} {x y z : Int} {w : World} (h : olen x = 3) (hs : k + 3 ≤ n) (hy : inR y 0 255 = true) (hz : inR z 0 3 = false) (hlc : n ≤ cap) (hcap : (cap : Int) ≤ 9223372036854775807) (hk : k < n) (hb : b < w.heap.size) (g0 : w.cell? ⟨b, off + k, none⟩ = some (.int .i64 x)) (g1 : w.cell? ⟨b, off + (k + 1), none⟩ = some (.int .i64 y)) (g2 : w.cell? ⟨b, off + (k + 2), none⟩ = some (.int .i64 z)) :
    Calls Try.prog 54 #[.slice (some ⟨b, off, none⟩) n cap, .int .i64 k] w fun e w' => e = .returned noV ∧ Below w.heap.size w w' := by
  have hin : inR (k : Int) 0 ((n : Int) - 1) = true := inR_iff.2 (by omega)
  have hk' : (k : Int) < (n : Int) := by omega
  have hn' : (n : Int) ≤ 9223372036854775807 := by omega
  have hf0 : ¬ (n : Int) - 3 < (k : Int) := by omega
  have hk1 : (k : Int) + 1 < (n : Int) := by omega
  have hk2 : (k : Int) + 2 < (n : Int) := by omega
  go_enter Try.func54, Try.ntmps54
  go_wp2_with fail
  refine (spec_l1In _ _ _ _).mono ?_
  rintro e w' ⟨rfl, rfl⟩
  go_wp2_with fail
  refine (spec_OrderLength _ _).mono ?_
  rintro e w1 ⟨rfl, hb1⟩
  obtain ⟨hc1, hf1⟩ := bcell hb1
  have hy1 : w.heap.size ≤ w1.heap.size := Nat.le_trans (by go_size) hb1.size
  have z1_0 : b < w1.heap.size := Nat.lt_of_lt_of_le (by go_size) hb1.size
  have z1_1 : w.heap.size < w1.heap.size := Nat.lt_of_lt_of_le (by go_size) hb1.size
  go_wp2_with fail
  refine (spec_l1In _ _ _ _).mono ?_
  rintro e w' ⟨rfl, rfl⟩
  go_wp2_with fail
  refine (spec_l1In _ _ _ _).mono ?_
  rintro e w' ⟨rfl, rfl⟩
  go_wp2_with fail
  have q0 := carry_cell (p := ⟨w.heap.size, 0, none⟩) (v := .int .i64 0) hb1 (by simp [go_sem])
  have q1 := carry_cell (p := ⟨w.heap.size, 1, none⟩) (v := .int .i64 0) hb1 (by simp [go_sem])
  refine bodyPost_ret (v := noV) (by simp [results, Try.results54, go_sem, q0, q1, z1_1, noV]) rfl ⟨rfl, ?_⟩
  repeat (first | with_reducible exact Below.refl _ _ | with_reducible refine below_via (by assumption) ?_ (by go_size) | with_reducible refine below_within (by assumption) ?_ (by go_size) (by omega) | with_reducible refine Below.alloc ?_ (by go_size) _ | with_reducible refine Below.setCell ?_ (by go_size) _ | with_reducible refine Below.drew ?_)
theorem spec_dec_3 {b off n cap k : Nat} {x y z : Int} {w : World} (h : olen x = 3) (hs : k + 3 ≤ n) (hy : inR y 0 255 = true) (hz : inR z 0 3 = true) (hlc : n ≤ cap) (hcap : (cap : Int) ≤ 9223372036854775807) (hk : k < n) (hb : b < w.heap.size) (g0 : w.cell? ⟨b, off + k, none⟩ = some (.int .i64 x)) (g1 : w.cell? ⟨b, off + (k + 1), none⟩ = some (.int .i64 y)) (g2 : w.cell? ⟨b, off + (k + 2), none⟩ = some (.int .i64 z)) :
    Calls Try.prog 54 #[.slice (some ⟨b, off, none⟩) n cap, .int .i64 k] w fun e w' => e = .returned (.tuple #[.agg #[.int .i64 x, .int .i64 (y + 256 * z)], .int .i64 3, .bool true]) ∧ Below w.heap.size w w' := by
  have hin : inR (k : Int) 0 ((n : Int) - 1) = true := inR_iff.2 (by omega)
  have hk' : (k : Int) < (n : Int) := by omega
  have hn' : (n : Int) ≤ 9223372036854775807 := by omega
  have hf0 : ¬ (n : Int) - 3 < (k : Int) := by omega
  have hk1 : (k : Int) + 1 < (n : Int) := by omega
  have hk2 : (k : Int) + 2 < (n : Int) := by omega
  obtain ⟨b0, b1⟩ := inR_iff.1 hy
  obtain ⟨c0, c1⟩ := inR_iff.1 hz
  have hov : ovB x (y + 256 * z) = true := by rw [ovB_3 h]; exact inR_iff.2 (by omega)
  go_enter Try.func54, Try.ntmps54
  go_wp2_with fail
  refine (spec_l1In _ _ _ _).mono ?_
  rintro e w' ⟨rfl, rfl⟩
  go_wp2_with fail
  refine (spec_OrderLength _ _).mono ?_
  rintro e w1 ⟨rfl, hb1⟩
  obtain ⟨hc1, hf1⟩ := bcell hb1
  have hy1 : w.heap.size ≤ w1.heap.size := Nat.le_trans (by go_size) hb1.size
  have z1_0 : b < w1.heap.size := Nat.lt_of_lt_of_le (by go_size) hb1.size
  have z1_1 : w.heap.size < w1.heap.size := Nat.lt_of_lt_of_le (by go_size) hb1.size
  go_wp2_with fail
  refine (spec_l1In _ _ _ _).mono ?_
  rintro e w' ⟨rfl, rfl⟩
  go_wp2_with fail
  refine (spec_l1In _ _ _ _).mono ?_
  rintro e w' ⟨rfl, rfl⟩
  go_wp2_with fail
  go_region
  go_wp2_with fail
  refine (spec_OrderValid _ _ _).mono ?_
  rintro e w2 ⟨rfl, hb2⟩
  obtain ⟨hc2, hf2⟩ := bcell hb2
  have hy2 : w.heap.size ≤ w2.heap.size := Nat.le_trans (by go_size) hb2.size
  have z2_0 : b < w2.heap.size := Nat.lt_of_lt_of_le (by go_size) hb2.size
  have z2_1 : w.heap.size < w2.heap.size := Nat.lt_of_lt_of_le (by go_size) hb2.size
  have z2_2 : w1.heap.size < w2.heap.size := Nat.lt_of_lt_of_le (by go_size) hb2.size
  go_wp2_with fail
  have q0 := carry_cell (p := ⟨w.heap.size, 0, none⟩) (v := .int .i64 0) hb2 (by (try change (World.alloc w1 _).cell? _ = _); rw [World.cell?_alloc_lt _ _ _ z1_1]; exact carry_cell hb1 (by simp [go_sem]))
  have q1 := carry_cell (p := ⟨w.heap.size, 1, none⟩) (v := .int .i64 0) hb2 (by (try change (World.alloc w1 _).cell? _ = _); rw [World.cell?_alloc_lt _ _ _ z1_1]; exact carry_cell hb1 (by simp [go_sem]))
  refine bodyPost_ret (v := (.tuple #[.agg #[.int .i64 x, .int .i64 (y + 256 * z)], .int .i64 3, .bool true])) (by simp [results, Try.results54, go_sem, q0, q1]) rfl ⟨rfl, ?_⟩
  repeat (first | with_reducible exact Below.refl _ _ | with_reducible refine below_via (by assumption) ?_ (by go_size) | with_reducible refine below_within (by assumption) ?_ (by go_size) (by omega) | with_reducible refine Below.alloc ?_ (by go_size) _ | with_reducible refine Below.setCell ?_ (by go_size) _ | with_reducible refine Below.drew ?_)
theorem spec_DecodeOrder {v : Value} {zs : List Int} (p : Int) {w : World} (h : Ints w v zs) :
    Calls Try.prog 54 #[v, .int .i64 p] w fun e w' => e = .returned (decV zs p) ∧ Below w.heap.size w w' := by
  obtain ⟨a, cap, rfl, hlc, hcap, hcells⟩ := ints_cells h
  clear h
  cases hin : inR p 0 ((zs.length : Int) - 1)
  · rw [decV_no hin]
    clear hcells
    have hlen : (zs.length : Int) ≤ 9223372036854775807 := by omega
    go_enter Try.func54, Try.ntmps54
    go_wp2_with (first | (go_at_call 19; refine (spec_l1In _ _ _ _).mono ?_; rintro e w' ⟨rfl, rfl⟩))
    exact bodyPost_ret (v := noV) (by simp [results, Try.results54, go_sem, noV]) rfl ⟨rfl, by go_grown⟩
  obtain ⟨p0, p1⟩ := inR_iff.1 hin
  rw [decV_in hin]
  obtain ⟨k, rfl⟩ := Int.eq_ofNat_of_zero_le p0
  rcases hcells with rfl | ⟨b, off, rfl, hb, hcells⟩
  · simp at p1; omega
  have hk : k < zs.length := by omega
  have g0 : w.cell? ⟨b, off + k, none⟩ = some (.int .i64 (dOp zs k)) := hcells k hk
  have g1 : k + 1 < zs.length → w.cell? ⟨b, off + (k + 1), none⟩ = some (.int .i64 (dz1 zs k)) := fun h => hcells (k + 1) h
  have g2 : k + 2 < zs.length → w.cell? ⟨b, off + (k + 2), none⟩ = some (.int .i64 (dz2 zs k)) := fun h => hcells (k + 2) h
  clear hcells hin p0 p1
  generalize dOp zs k = x at *
  generalize dz1 zs k = y at *
  generalize dz2 zs k = z at *
  generalize zs.length = n at *
  rcases olen_vals x with h | h | h | h
  · rw [decX_no (by simp [okX, h])]; exact spec_dec_0 h hlc hcap hk hb g0
  · rw [decX_1 h (by omega)]; exact spec_dec_1 h hlc hcap hk hb g0
  · by_cases hs : k + 2 ≤ n
    · cases hy : byteB y
      · rw [decX_no (by simp [okX, h, hy])]; exact spec_dec_2n h hs hy hlc hcap hk hb g0 (g1 (by omega))
      · rw [decX_2 h (by omega) hy]; exact spec_dec_2 h hs hy hlc hcap hk hb g0 (g1 (by omega))
    · rw [decX_no (by simp [okX, h]; omega)]; exact spec_dec_2s h (by omega) hlc hcap hk hb g0
  · by_cases hs : k + 3 ≤ n
    · cases hy : byteB y
      · rw [decX_no (by simp [okX, h, hy])]; exact spec_dec_3a h hs hy hlc hcap hk hb g0 (g1 (by omega))
      · cases hz : inR z 0 3
        · rw [decX_no (by simp [okX, h, hz])]; exact spec_dec_3b h hs hy hz hlc hcap hk hb g0 (g1 (by omega)) (g2 (by omega))
        · rw [decX_3 h (by omega) hy hz]; exact spec_dec_3 h hs hy hz hlc hcap hk hb g0 (g1 (by omega)) (g2 (by omega))
    · rw [decX_no (by simp [okX, h]; omega)]; exact spec_dec_3s h (by omega) hlc hcap hk hb g0
theorem impl_dec_0 {b off n cap k : Nat} {x : Int} {w : World} (h : olen x = 0) (hlc : n ≤ cap) (hcap : (cap : Int) ≤ 9223372036854775807) (hk : k < n) (hb : b < w.heap.size) (g0 : w.cell? ⟨b, off + k, none⟩ = some (.int .i64 x)) :
    Calls Try.prog 30 #[.slice (some ⟨b, off, none⟩) n cap, .int .i64 k] w fun e w' => e = .returned noV ∧ Below w.heap.size w w' := by
  have hk' : (k : Int) < (n : Int) := by omega
  have hk0 : ¬ (n : Int) ≤ (k : Int) := by omega
  have hn' : (n : Int) ≤ 9223372036854775807 := by omega
  go_enter Try.func30, Try.ntmps30
  go_wp2_with fail
  refine (impl_OrderLength _ _).mono ?_
  rintro e w1 ⟨rfl, hb1⟩
  obtain ⟨hc1, hf1⟩ := bcell hb1
  have hy1 : w.heap.size ≤ w1.heap.size := Nat.le_trans (by go_size) hb1.size
  have z1_0 : b < w1.heap.size := Nat.lt_of_lt_of_le (by go_size) hb1.size
  have z1_1 : w.heap.size < w1.heap.size := Nat.lt_of_lt_of_le (by go_size) hb1.size
  go_wp2_with fail
  refine bodyPost_ret (v := noV) (by simp [results, Try.results30, go_sem, *, noV]) rfl ⟨rfl, ?_⟩
  repeat (first | with_reducible exact Below.refl _ _ | with_reducible refine below_via (by assumption) ?_ (by go_size) | with_reducible refine below_within (by assumption) ?_ (by go_size) (by omega) | with_reducible refine Below.alloc ?_ (by go_size) _ | with_reducible refine Below.setCell ?_ (by go_size) _ | with_reducible refine Below.drew ?_)
theorem impl_dec_1 {b off n cap k : Nat} {x : Int} {w : World} (h : olen x = 1) (hlc : n ≤ cap) (hcap : (cap : Int) ≤ 9223372036854775807) (hk : k < n) (hb : b < w.heap.size) (g0 : w.cell? ⟨b, off + k, none⟩ = some (.int .i64 x)) :
    Calls Try.prog 30 #[.slice (some ⟨b, off, none⟩) n cap, .int .i64 k] w fun e w' => e = .returned (.tuple #[.agg #[.int .i64 x, .int .i64 0], .int .i64 1, .bool true]) ∧ Below w.heap.size w w' := by
  have hk' : (k : Int) < (n : Int) := by omega
  have hk0 : ¬ (n : Int) ≤ (k : Int) := by omega
  have hn' : (n : Int) ≤ 9223372036854775807 := by omega
  have hov : ovB x 0 = true := by rw [ovB_1 h]; rfl
  have hf0 : ¬ (n : Int) - (k : Int) < 1 := by omega
  go_enter Try.func30, Try.ntmps30
  go_wp2_with fail
  refine (impl_OrderLength _ _).mono ?_
  rintro e w1 ⟨rfl, hb1⟩
  obtain ⟨hc1, hf1⟩ := bcell hb1
  have hy1 : w.heap.size ≤ w1.heap.size := Nat.le_trans (by go_size) hb1.size
  have z1_0 : b < w1.heap.size := Nat.lt_of_lt_of_le (by go_size) hb1.size
  have z1_1 : w.heap.size < w1.heap.size := Nat.lt_of_lt_of_le (by go_size) hb1.size
  go_wp2_with fail
  refine wp_loop_rounds 1 ?_
  rw [rounds_succ]
  go_wp2_with fail
  refine (impl_OrderValid _ _ _).mono ?_
  rintro e w2 ⟨rfl, hb2⟩
  obtain ⟨hc2, hf2⟩ := bcell hb2
  have hy2 : w.heap.size ≤ w2.heap.size := Nat.le_trans (by go_size) hb2.size
  have z2_0 : b < w2.heap.size := Nat.lt_of_lt_of_le (by go_size) hb2.size
  have z2_1 : w.heap.size < w2.heap.size := Nat.lt_of_lt_of_le (by go_size) hb2.size
  have z2_2 : w1.heap.size < w2.heap.size := Nat.lt_of_lt_of_le (by go_size) hb2.size
  go_wp2_with fail
  have q0 := carry_cell (p := ⟨w.heap.size, 0, none⟩) (v := .int .i64 0) hb2 (by (try change (World.alloc w1 _).cell? _ = _); rw [World.cell?_alloc_lt _ _ _ z1_1]; exact carry_cell hb1 (by simp [go_sem]))
  have q1 := carry_cell (p := ⟨w.heap.size, 1, none⟩) (v := .int .i64 0) hb2 (by (try change (World.alloc w1 _).cell? _ = _); rw [World.cell?_alloc_lt _ _ _ z1_1]; exact carry_cell hb1 (by simp [go_sem]))
  refine bodyPost_ret (v := (.tuple #[.agg #[.int .i64 x, .int .i64 0], .int .i64 1, .bool true])) (by simp [results, Try.results30, go_sem, q0, q1]) rfl ⟨rfl, ?_⟩
  repeat (first | with_reducible exact Below.refl _ _ | with_reducible refine below_via (by assumption) ?_ (by go_size) | with_reducible refine below_within (by assumption) ?_ (by go_size) (by omega) | with_reducible refine Below.alloc ?_ (by go_size) _ | with_reducible refine Below.setCell ?_ (by go_size) _ | with_reducible refine Below.drew ?_)
theorem impl_dec_2s {b off n cap k : Nat} {x : Int} {w : World} (h : olen x = 2) (hs : n < k + 2) (hlc : n ≤ cap) (hcap : (cap : Int) ≤ 9223372036854775807) (hk : k < n) (hb : b < w.heap.size) (g0 : w.cell? ⟨b, off + k, none⟩ = some (.int .i64 x)) :
    Calls Try.prog 30 #[.slice (some ⟨b, off, none⟩) n cap, .int .i64 k] w fun e w' => e = .returned noV ∧ Below w.heap.size w w' := by
  have hk' : (k : Int) < (n : Int) := by omega
  have hk0 : ¬ (n : Int) ≤ (k : Int) := by omega
  have hn' : (n : Int) ≤ 9223372036854775807 := by omega
  have hf0 : (n : Int) - (k : Int) < 2 := by omega
  go_enter Try.func30, Try.ntmps30
  go_wp2_with fail
  refine (impl_OrderLength _ _).mono ?_
  rintro e w1 ⟨rfl, hb1⟩
  obtain ⟨hc1, hf1⟩ := bcell hb1
  have hy1 : w.heap.size ≤ w1.heap.size := Nat.le_trans (by go_size) hb1.size
  have z1_0 : b < w1.heap.size := Nat.lt_of_lt_of_le (by go_size) hb1.size
  have z1_1 : w.heap.size < w1.heap.size := Nat.lt_of_lt_of_le (by go_size) hb1.size
  go_wp2_with fail
  refine bodyPost_ret (v := noV) (by simp [results, Try.results30, go_sem, *, noV]) rfl ⟨rfl, ?_⟩
  repeat (first | with_reducible exact Below.refl _ _ | with_reducible refine below_via (by assumption) ?_ (by go_size) | with_reducible refine below_within (by assumption) ?_ (by go_size) (by omega) | with_reducible refine Below.alloc ?_ (by go_size) _ | with_reducible refine Below.setCell ?_ (by go_size) _ | with_reducible refine Below.drew ?_)
theorem impl_dec_2 {b off n cap k : Nat} {x y : Int} {w : World} (h : olen x = 2) (hs : k + 2 ≤ n) (hy : byteB y = true) (hlc : n ≤ cap) (hcap : (cap : Int) ≤ 9223372036854775807) (hk : k < n) (hb : b < w.heap.size) (g0 : w.cell? ⟨b, off + k, none⟩ = some (.int .i64 x)) (g1 : w.cell? ⟨b, off + (k + 1), none⟩ = some (.int .i64 y)) :
    Calls Try.prog 30 #[.slice (some ⟨b, off, none⟩) n cap, .int .i64 k] w fun e w' => e = .returned (.tuple #[.agg #[.int .i64 x, .int .i64 y], .int .i64 2, .bool true]) ∧ Below w.heap.size w w' := by
  have hk' : (k : Int) < (n : Int) := by omega
  have hk0 : ¬ (n : Int) ≤ (k : Int) := by omega
  have hn' : (n : Int) ≤ 9223372036854775807 := by omega
  have hov : ovB x y = true := by rw [ovB_2 h]; exact hy
  obtain ⟨b0, b1⟩ := byteB_iff.1 hy
  have hf0 : ¬ (n : Int) - (k : Int) < 2 := by omega
  have hk1 : (k : Int) + 1 < (n : Int) := by omega
  go_enter Try.func30, Try.ntmps30
  go_wp2_with fail
  refine (impl_OrderLength _ _).mono ?_
  rintro e w1 ⟨rfl, hb1⟩
  obtain ⟨hc1, hf1⟩ := bcell hb1
  have hy1 : w.heap.size ≤ w1.heap.size := Nat.le_trans (by go_size) hb1.size
  have z1_0 : b < w1.heap.size := Nat.lt_of_lt_of_le (by go_size) hb1.size
  have z1_1 : w.heap.size < w1.heap.size := Nat.lt_of_lt_of_le (by go_size) hb1.size
  go_wp2_with fail
  refine wp_loop_rounds 2 ?_
  rw [rounds_succ]
  go_wp2_with fail
  refine (impl_isByte _ _).mono ?_
  rintro e w' ⟨rfl, rfl⟩
  go_wp2_with fail
  go_region
  go_wp2_with fail
  rw [rounds_succ]
  go_wp2_with fail
  refine (impl_OrderValid _ _ _).mono ?_
  rintro e w2 ⟨rfl, hb2⟩
  obtain ⟨hc2, hf2⟩ := bcell hb2
  have hy2 : w.heap.size ≤ w2.heap.size := Nat.le_trans (by go_size) hb2.size
  have z2_0 : b < w2.heap.size := Nat.lt_of_lt_of_le (by go_size) hb2.size
  have z2_1 : w.heap.size < w2.heap.size := Nat.lt_of_lt_of_le (by go_size) hb2.size
  have z2_2 : w1.heap.size < w2.heap.size := Nat.lt_of_lt_of_le (by go_size) hb2.size
  go_wp2_with fail
  have q0 := carry_cell (p := ⟨w.heap.size, 0, none⟩) (v := .int .i64 0) hb2 (by (try change (World.alloc w1 _).cell? _ = _); rw [World.cell?_alloc_lt _ _ _ z1_1]; exact carry_cell hb1 (by simp [go_sem]))
  have q1 := carry_cell (p := ⟨w.heap.size, 1, none⟩) (v := .int .i64 0) hb2 (by (try change (World.alloc w1 _).cell? _ = _); rw [World.cell?_alloc_lt _ _ _ z1_1]; exact carry_cell hb1 (by simp [go_sem]))
  refine bodyPost_ret (v := (.tuple #[.agg #[.int .i64 x, .int .i64 y], .int .i64 2, .bool true])) (by simp [results, Try.results30, go_sem, q0, q1]) rfl ⟨rfl, ?_⟩
  repeat (first | with_reducible exact Below.refl _ _ | with_reducible refine below_via (by assumption) ?_ (by go_size) | with_reducible refine below_within (by assumption) ?_ (by go_size) (by omega) | with_reducible refine Below.alloc ?_ (by go_size) _ | with_reducible refine Below.setCell ?_ (by go_size) _ | with_reducible refine Below.drew ?_)
theorem impl_dec_2n {b off n cap k : Nat} {x y : Int} {w : World} (h : olen x = 2) (hs : k + 2 ≤ n) (hy : byteB y = false) (hlc : n ≤ cap) (hcap : (cap : Int) ≤ 9223372036854775807) (hk : k < n) (hb : b < w.heap.size) (g0 : w.cell? ⟨b, off + k, none⟩ = some (.int .i64 x)) (g1 : w.cell? ⟨b, off + (k + 1), none⟩ = some (.int .i64 y)) :
    Calls Try.prog 30 #[.slice (some ⟨b, off, none⟩) n cap, .int .i64 k] w fun e w' => e = .returned noV ∧ Below w.heap.size w w' := by
  have hk' : (k : Int) < (n : Int) := by omega
  have hk0 : ¬ (n : Int) ≤ (k : Int) := by omega
  have hn' : (n : Int) ≤ 9223372036854775807 := by omega
  have hf0 : ¬ (n : Int) - (k : Int) < 2 := by omega
  have hk1 : (k : Int) + 1 < (n : Int) := by omega
  go_enter Try.func30, Try.ntmps30
  go_wp2_with fail
  refine (impl_OrderLength _ _).mono ?_
  rintro e w1 ⟨rfl, hb1⟩
  obtain ⟨hc1, hf1⟩ := bcell hb1
  have hy1 : w.heap.size ≤ w1.heap.size := Nat.le_trans (by go_size) hb1.size
  have z1_0 : b < w1.heap.size := Nat.lt_of_lt_of_le (by go_size) hb1.size
  have z1_1 : w.heap.size < w1.heap.size := Nat.lt_of_lt_of_le (by go_size) hb1.size
  go_wp2_with fail
  refine wp_loop_rounds 2 ?_
  rw [rounds_succ]
  go_wp2_with fail
  refine (impl_isByte _ _).mono ?_
  rintro e w' ⟨rfl, rfl⟩
  go_wp2_with fail
  have q0 := carry_cell (p := ⟨w.heap.size, 0, none⟩) (v := .int .i64 0) hb1 (by simp [go_sem])
  have q1 := carry_cell (p := ⟨w.heap.size, 1, none⟩) (v := .int .i64 0) hb1 (by simp [go_sem])
  refine bodyPost_ret (v := noV) (by simp [results, Try.results30, go_sem, q0, q1, z1_1, noV]) rfl ⟨rfl, ?_⟩
  repeat (first | with_reducible exact Below.refl _ _ | with_reducible refine below_via (by assumption) ?_ (by go_size) | with_reducible refine below_within (by assumption) ?_ (by go_size) (by omega) | with_reducible refine Below.alloc ?_ (by go_size) _ | with_reducible refine Below.setCell ?_ (by go_size) _ | with_reducible refine Below.drew ?_)
theorem impl_dec_3s {b off n cap k : Nat} {x : Int} {w : World} (h : olen x = 3) (hs : n < k + 3) (hlc : n ≤ cap) (hcap : (cap : Int) ≤ 9223372036854775807) (hk : k < n) (hb : b < w.heap.size) (g0 : w.cell? ⟨b, off + k, none⟩ = some (.int .i64 x)) :
    Calls Try.prog 30 #[.slice (some ⟨b, off, none⟩) n cap, .int .i64 k] w fun e w' => e = .returned noV ∧ Below w.heap.size w w' := by
  have hk' : (k : Int) < (n : Int) := by omega
  have hk0 : ¬ (n : Int) ≤ (k : Int) := by omega
  have hn' : (n : Int) ≤ 9223372036854775807 := by omega
  have hf0 : (n : Int) - (k : Int) < 3 := by omega
  go_enter Try.func30, Try.ntmps30
  go_wp2_with fail
  refine (impl_OrderLength _ _).mono ?_
  rintro e w1 ⟨rfl, hb1⟩
  obtain ⟨hc1, hf1⟩ := bcell hb1
  have hy1 : w.heap.size ≤ w1.heap.size := Nat.le_trans (by go_size) hb1.size
  have z1_0 : b < w1.heap.size := Nat.lt_of_lt_of_le (by go_size) hb1.size
  have z1_1 : w.heap.size < w1.heap.size := Nat.lt_of_lt_of_le (by go_size) hb1.size
  go_wp2_with fail
  refine bodyPost_ret (v := noV) (by simp [results, Try.results30, go_sem, *, noV]) rfl ⟨rfl, ?_⟩
  repeat (first | with_reducible exact Below.refl _ _ | with_reducible refine below_via (by assumption) ?_ (by go_size) | with_reducible refine below_within (by assumption) ?_ (by go_size) (by omega) | with_reducible refine Below.alloc ?_ (by go_size) _ | with_reducible refine Below.setCell ?_ (by go_size) _ | with_reducible refine Below.drew ?_)
theorem impl_dec_3a {b off n cap k : Nat} {x z : Int} {w : World} (h : olen x = 3) (hs : k + 3 ≤ n) (hz : byteB z = false) (hlc : n ≤ cap) (hcap : (cap : Int) ≤ 9223372036854775807) (hk : k < n) (hb : b < w.heap.size) (g0 : w.cell? ⟨b, off + k, none⟩ = some (.int .i64 x)) (g2 : w.cell? ⟨b, off + (k + 2), none⟩ = some (.int .i64 z)) :
    Calls Try.prog 30 #[.slice (some ⟨b, off, none⟩) n cap, .int .i64 k] w fun e w' => e = .returned noV ∧ Below w.heap.size w w' := by
  have hk' : (k : Int) < (n : Int) := by omega
  have hk0 : ¬ (n : Int) ≤ (k : Int) := by omega
  have hn' : (n : Int) ≤ 9223372036854775807 := by omega
  have hf0 : ¬ (n : Int) - (k : Int) < 3 := by omega
  have hk1 : (k : Int) + 1 < (n : Int) := by omega
  have hk2 : (k : Int) + 2 < (n : Int) := by omega
  go_enter Try.func30, Try.ntmps30
  go_wp2_with fail
  refine (impl_OrderLength _ _).mono ?_
  rintro e w1 ⟨rfl, hb1⟩
  obtain ⟨hc1, hf1⟩ := bcell hb1
  have hy1 : w.heap.size ≤ w1.heap.size := Nat.le_trans (by go_size) hb1.size
  have z1_0 : b < w1.heap.size := Nat.lt_of_lt_of_le (by go_size) hb1.size
  have z1_1 : w.heap.size < w1.heap.size := Nat.lt_of_lt_of_le (by go_size) hb1.size
  go_wp2_with fail
  refine wp_loop_rounds 3 ?_
  rw [rounds_succ]
  go_wp2_with fail
  refine (impl_isByte _ _).mono ?_
  rintro e w' ⟨rfl, rfl⟩
  go_wp2_with fail
  have q0 := carry_cell (p := ⟨w.heap.size, 0, none⟩) (v := .int .i64 0) hb1 (by simp [go_sem])
  have q1 := carry_cell (p := ⟨w.heap.size, 1, none⟩) (v := .int .i64 0) hb1 (by simp [go_sem])
  refine bodyPost_ret (v := noV) (by simp [results, Try.results30, go_sem, q0, q1, z1_1, noV]) rfl ⟨rfl, ?_⟩
  repeat (first | with_reducible exact Below.refl _ _ | with_reducible refine below_via (by assumption) ?_ (by go_size) | with_reducible refine below_within (by assumption) ?_ (by go_size) (by omega) | with_reducible refine Below.alloc ?_ (by go_size) _ | with_reducible refine Below.setCell ?_ (by go_size) _ | with_reducible refine Below.drew ?_)
theorem impl_dec_3b {b off n cap k : Nat} {x y z : Int} {w : World} (h : olen x = 3) (hs : k + 3 ≤ n) (hz : byteB z = true) (hy : byteB y = false) (hlc : n ≤ cap) (hcap : (cap : Int) ≤ 9223372036854775807) (hk : k < n) (hb : b < w.heap.size) (g0 : w.cell? ⟨b, off + k, none⟩ = some (.int .i64 x)) (g1 : w.cell? ⟨b, off + (k + 1), none⟩ = some (.int .i64 y)) (g2 : w.cell? ⟨b, off + (k + 2), none⟩ = some (.int .i64 z)) :
    Calls Try.prog 30 #[.slice (some ⟨b, off, none⟩) n cap, .int .i64 k] w fun e w' => e = .returned noV ∧ Below w.heap.size w w' := by
  have hk' : (k : Int) < (n : Int) := by omega
  have hk0 : ¬ (n : Int) ≤ (k : Int) := by omega
  have hn' : (n : Int) ≤ 9223372036854775807 := by omega
  obtain ⟨c0, c1⟩ := byteB_iff.1 hz
  have hf0 : ¬ (n : Int) - (k : Int) < 3 := by omega
  have hk1 : (k : Int) + 1 < (n : Int) := by omega
  have hk2 : (k : Int) + 2 < (n : Int) := by omega
  go_enter Try.func30, Try.ntmps30
  go_wp2_with fail
  refine (impl_OrderLength _ _).mono ?_
  rintro e w1 ⟨rfl, hb1⟩
  obtain ⟨hc1, hf1⟩ := bcell hb1
  have hy1 : w.heap.size ≤ w1.heap.size := Nat.le_trans (by go_size) hb1.size
  have z1_0 : b < w1.heap.size := Nat.lt_of_lt_of_le (by go_size) hb1.size
  have z1_1 : w.heap.size < w1.heap.size := Nat.lt_of_lt_of_le (by go_size) hb1.size
  go_wp2_with fail
  refine wp_loop_rounds 3 ?_
  rw [rounds_succ]
  go_wp2_with fail
  refine (impl_isByte _ _).mono ?_
  rintro e w' ⟨rfl, rfl⟩
  go_wp2_with fail
  go_region
  go_wp2_with fail
  rw [rounds_succ]
  go_wp2_with fail
  refine (impl_isByte _ _).mono ?_
  rintro e w' ⟨rfl, rfl⟩
  go_wp2_with fail
  have q0 := carry_cell (p := ⟨w.heap.size, 0, none⟩) (v := .int .i64 0) hb1 (by simp [go_sem])
  have q1 := carry_cell (p := ⟨w.heap.size, 1, none⟩) (v := .int .i64 0) hb1 (by simp [go_sem])
  refine bodyPost_ret (v := noV) (by simp [results, Try.results30, go_sem, q0, q1, z1_1, noV]) rfl ⟨rfl, ?_⟩
  repeat (first | with_reducible exact Below.refl _ _ | with_reducible refine below_via (by assumption) ?_ (by go_size) | with_reducible refine below_within (by assumption) ?_ (by go_size) (by omega) | with_reducible refine Below.alloc ?_ (by go_size) _ | with_reducible refine Below.setCell ?_ (by go_size) _ | with_reducible refine Below.drew ?_)
theorem impl_dec_3c {b off n cap k : Nat} {x y z : Int} {w : World} (h : olen x = 3) (hs : k + 3 ≤ n) (hz : byteB z = true) (hy : byteB y = true) (hv : inR z 0 3 = false) (hlc : n ≤ cap) (hcap : (cap : Int) ≤ 9223372036854775807) (hk : k < n) (hb : b < w.heap.size) (g0 : w.cell? ⟨b, off + k, none⟩ = some (.int .i64 x)) (g1 : w.cell? ⟨b, off + (k + 1), none⟩ = some (.int .i64 y)) (g2 : w.cell? ⟨b, off + (k + 2), none⟩ = some (.int .i64 z)) :
    Calls Try.prog 30 #[.slice (some ⟨b, off, none⟩) n cap, .int .i64 k] w fun e w' => e = .returned noV ∧ Below w.heap.size w w' := by
  have hk' : (k : Int) < (n : Int) := by omega
  have hk0 : ¬ (n : Int) ≤ (k : Int) := by omega
  have hn' : (n : Int) ≤ 9223372036854775807 := by omega
  obtain ⟨c0, c1⟩ := byteB_iff.1 hz
  obtain ⟨b0, b1⟩ := byteB_iff.1 hy
  have hov : ovB x (256 * z + y) = false := by
    rw [ovB_3 h]
    exact inR_false.2 (by have := inR_false.1 hv; omega)
  have hf0 : ¬ (n : Int) - (k : Int) < 3 := by omega
  have hk1 : (k : Int) + 1 < (n : Int) := by omega
  have hk2 : (k : Int) + 2 < (n : Int) := by omega
  go_enter Try.func30, Try.ntmps30
  go_wp2_with fail
  refine (impl_OrderLength _ _).mono ?_
  rintro e w1 ⟨rfl, hb1⟩
  obtain ⟨hc1, hf1⟩ := bcell hb1
  have hy1 : w.heap.size ≤ w1.heap.size := Nat.le_trans (by go_size) hb1.size
  have z1_0 : b < w1.heap.size := Nat.lt_of_lt_of_le (by go_size) hb1.size
  have z1_1 : w.heap.size < w1.heap.size := Nat.lt_of_lt_of_le (by go_size) hb1.size
  go_wp2_with fail
  refine wp_loop_rounds 3 ?_
  rw [rounds_succ]
  go_wp2_with fail
  refine (impl_isByte _ _).mono ?_
  rintro e w' ⟨rfl, rfl⟩
  go_wp2_with fail
  go_region
  go_wp2_with fail
  rw [rounds_succ]
  go_wp2_with fail
  refine (impl_isByte _ _).mono ?_
  rintro e w' ⟨rfl, rfl⟩
  go_wp2_with fail
  go_region
  go_wp2_with fail
  rw [rounds_succ]
  go_wp2_with fail
  refine (impl_OrderValid _ _ _).mono ?_
  rintro e w2 ⟨rfl, hb2⟩
  obtain ⟨hc2, hf2⟩ := bcell hb2
  have hy2 : w.heap.size ≤ w2.heap.size := Nat.le_trans (by go_size) hb2.size
  have z2_0 : b < w2.heap.size := Nat.lt_of_lt_of_le (by go_size) hb2.size
  have z2_1 : w.heap.size < w2.heap.size := Nat.lt_of_lt_of_le (by go_size) hb2.size
  have z2_2 : w1.heap.size < w2.heap.size := Nat.lt_of_lt_of_le (by go_size) hb2.size
  go_wp2_with fail
  have q0 := carry_cell (p := ⟨w.heap.size, 0, none⟩) (v := .int .i64 0) hb2 (by (try change (World.alloc w1 _).cell? _ = _); rw [World.cell?_alloc_lt _ _ _ z1_1]; exact carry_cell hb1 (by simp [go_sem]))
  have q1 := carry_cell (p := ⟨w.heap.size, 1, none⟩) (v := .int .i64 0) hb2 (by (try change (World.alloc w1 _).cell? _ = _); rw [World.cell?_alloc_lt _ _ _ z1_1]; exact carry_cell hb1 (by simp [go_sem]))
  refine bodyPost_ret (v := noV) (by simp [results, Try.results30, go_sem, q0, q1, noV]) rfl ⟨rfl, ?_⟩
  repeat (first | with_reducible exact Below.refl _ _ | with_reducible refine below_via (by assumption) ?_ (by go_size) | with_reducible refine below_within (by assumption) ?_ (by go_size) (by omega) | with_reducible refine Below.alloc ?_ (by go_size) _ | with_reducible refine Below.setCell ?_ (by go_size) _ | with_reducible refine Below.drew ?_)
theorem impl_dec_3 {b off n cap k : Nat} {x y z : Int} {w : World} (h : olen x = 3) (hs : k + 3 ≤ n) (hz : byteB z = true) (hy : byteB y = true) (hv : inR z 0 3 = true) (hlc : n ≤ cap) (hcap : (cap : Int) ≤ 9223372036854775807) (hk : k < n) (hb : b < w.heap.size) (g0 : w.cell? ⟨b, off + k, none⟩ = some (.int .i64 x)) (g1 : w.cell? ⟨b, off + (k + 1), none⟩ = some (.int .i64 y)) (g2 : w.cell? ⟨b, off + (k + 2), none⟩ = some (.int .i64 z)) :
    Calls Try.prog 30 #[.slice (some ⟨b, off, none⟩) n cap, .int .i64 k] w fun e w' => e = .returned (.tuple #[.agg #[.int .i64 x, .int .i64 (y + 256 * z)], .int .i64 3, .bool true]) ∧ Below w.heap.size w w' := by
  have hk' : (k : Int) < (n : Int) := by omega
  have hk0 : ¬ (n : Int) ≤ (k : Int) := by omega
  have hn' : (n : Int) ≤ 9223372036854775807 := by omega
  obtain ⟨c0, c1⟩ := byteB_iff.1 hz
  obtain ⟨b0, b1⟩ := byteB_iff.1 hy
  have hov : ovB x (256 * z + y) = true := by
    rw [ovB_3 h]
    exact inR_iff.2 (by have := inR_iff.1 hv; omega)
  have hf0 : ¬ (n : Int) - (k : Int) < 3 := by omega
  have hk1 : (k : Int) + 1 < (n : Int) := by omega
  have hk2 : (k : Int) + 2 < (n : Int) := by omega
  go_enter Try.func30, Try.ntmps30
  go_wp2_with fail
  refine (impl_OrderLength _ _).mono ?_
  rintro e w1 ⟨rfl, hb1⟩
  obtain ⟨hc1, hf1⟩ := bcell hb1
  have hy1 : w.heap.size ≤ w1.heap.size := Nat.le_trans (by go_size) hb1.size
  have z1_0 : b < w1.heap.size := Nat.lt_of_lt_of_le (by go_size) hb1.size
  have z1_1 : w.heap.size < w1.heap.size := Nat.lt_of_lt_of_le (by go_size) hb1.size
  go_wp2_with fail
  refine wp_loop_rounds 3 ?_
  rw [rounds_succ]
  go_wp2_with fail
  refine (impl_isByte _ _).mono ?_
  rintro e w' ⟨rfl, rfl⟩
  go_wp2_with fail
  go_region
  go_wp2_with fail
  rw [rounds_succ]
  go_wp2_with fail
  refine (impl_isByte _ _).mono ?_
  rintro e w' ⟨rfl, rfl⟩
  go_wp2_with fail
  go_region
  go_wp2_with fail
  rw [rounds_succ]
  go_wp2_with fail
  refine (impl_OrderValid _ _ _).mono ?_
  rintro e w2 ⟨rfl, hb2⟩
  obtain ⟨hc2, hf2⟩ := bcell hb2
  have hy2 : w.heap.size ≤ w2.heap.size := Nat.le_trans (by go_size) hb2.size
  have z2_0 : b < w2.heap.size := Nat.lt_of_lt_of_le (by go_size) hb2.size
  have z2_1 : w.heap.size < w2.heap.size := Nat.lt_of_lt_of_le (by go_size) hb2.size
  have z2_2 : w1.heap.size < w2.heap.size := Nat.lt_of_lt_of_le (by go_size) hb2.size
  go_wp2_with fail
  have q0 := carry_cell (p := ⟨w.heap.size, 0, none⟩) (v := .int .i64 0) hb2 (by (try change (World.alloc w1 _).cell? _ = _); rw [World.cell?_alloc_lt _ _ _ z1_1]; exact carry_cell hb1 (by simp [go_sem]))
  have q1 := carry_cell (p := ⟨w.heap.size, 1, none⟩) (v := .int .i64 0) hb2 (by (try change (World.alloc w1 _).cell? _ = _); rw [World.cell?_alloc_lt _ _ _ z1_1]; exact carry_cell hb1 (by simp [go_sem]))
  refine bodyPost_ret (v := (.tuple #[.agg #[.int .i64 x, .int .i64 (256 * z + y)], .int .i64 3, .bool true])) (by simp [results, Try.results30, go_sem, q0, q1]) rfl ⟨by rw [Int.add_comm], ?_⟩
  repeat (first | with_reducible exact Below.refl _ _ | with_reducible refine below_via (by assumption) ?_ (by go_size) | with_reducible refine below_within (by assumption) ?_ (by go_size) (by omega) | with_reducible refine Below.alloc ?_ (by go_size) _ | with_reducible refine Below.setCell ?_ (by go_size) _ | with_reducible refine Below.drew ?_)
theorem impl_DecodeOrder {v : Value} {zs : List Int} (p : Int) {w : World} (h : Ints w v zs) :
    Calls Try.prog 30 #[v, .int .i64 p] w fun e w' => e = .returned (decV zs p) ∧ Below w.heap.size w w' := by
  obtain ⟨a, cap, rfl, hlc, hcap, hcells⟩ := ints_cells h
  clear h
  cases hin : inR p 0 ((zs.length : Int) - 1)
  · rw [decV_no hin]
    clear hcells
    have hlen : (zs.length : Int) ≤ 9223372036854775807 := by omega
    by_cases hp : p < 0
    · clear hin
      go_enter Try.func30, Try.ntmps30
      go_wp2_with fail
      exact bodyPost_ret (v := noV) (by simp [results, Try.results30, go_sem, noV]) rfl ⟨rfl, by go_grown⟩
    · have hp2 : (zs.length : Int) ≤ p := by rcases inR_false.1 hin with h | h <;> omega
      clear hin
      go_enter Try.func30, Try.ntmps30
      go_wp2_with fail
      exact bodyPost_ret (v := noV) (by simp [results, Try.results30, go_sem, noV]) rfl ⟨rfl, by go_grown⟩
  obtain ⟨p0, p1⟩ := inR_iff.1 hin
  rw [decV_in hin]
  obtain ⟨k, rfl⟩ := Int.eq_ofNat_of_zero_le p0
  rcases hcells with rfl | ⟨b, off, rfl, hb, hcells⟩
  · simp at p1; omega
  have hk : k < zs.length := by omega
  have g0 : w.cell? ⟨b, off + k, none⟩ = some (.int .i64 (dOp zs k)) := hcells k hk
  have g1 : k + 1 < zs.length → w.cell? ⟨b, off + (k + 1), none⟩ = some (.int .i64 (dz1 zs k)) := fun h => hcells (k + 1) h
  have g2 : k + 2 < zs.length → w.cell? ⟨b, off + (k + 2), none⟩ = some (.int .i64 (dz2 zs k)) := fun h => hcells (k + 2) h
  clear hcells hin p0 p1
  generalize dOp zs k = x at *
  generalize dz1 zs k = y at *
  generalize dz2 zs k = z at *
  generalize zs.length = n at *
  rcases olen_vals x with h | h | h | h
  · rw [decX_no (by simp [okX, h])]; exact impl_dec_0 h hlc hcap hk hb g0
  · rw [decX_1 h (by omega)]; exact impl_dec_1 h hlc hcap hk hb g0
  · by_cases hs : k + 2 ≤ n
    · cases hy : byteB y
      · rw [decX_no (by simp [okX, h, hy])]; exact impl_dec_2n h hs hy hlc hcap hk hb g0 (g1 (by omega))
      · rw [decX_2 h (by omega) hy]; exact impl_dec_2 h hs hy hlc hcap hk hb g0 (g1 (by omega))
    · rw [decX_no (by simp [okX, h]; omega)]; exact impl_dec_2s h (by omega) hlc hcap hk hb g0
  · by_cases hs : k + 3 ≤ n
    · cases hz : byteB z
      · have hz' : inR z 0 3 = false := inR_false.2 (by have := byteB_false.1 hz; omega)
        rw [decX_no (by simp [okX, h, hz'])]; exact impl_dec_3a h hs hz hlc hcap hk hb g0 (g2 (by omega))
      · cases hy : byteB y
        · rw [decX_no (by simp [okX, h, hy])]; exact impl_dec_3b h hs hz hy hlc hcap hk hb g0 (g1 (by omega)) (g2 (by omega))
        · cases hv : inR z 0 3
          · rw [decX_no (by simp [okX, h, hv])]; exact impl_dec_3c h hs hz hy hv hlc hcap hk hb g0 (g1 (by omega)) (g2 (by omega))
          · rw [decX_3 h (by omega) hy hv]; exact impl_dec_3 h hs hz hy hv hlc hcap hk hb g0 (g1 (by omega)) (g2 (by omega))
    · rw [decX_no (by simp [okX, h]; omega)]; exact impl_dec_3s h (by omega) hlc hcap hk hb g0
end Go.Proofs.Ytlnpmanghkeieaa
