/- The walks of the functions on bytes: each returns what its plain word says, for every integer, and leaves the world alone. No condition. -/
import Derived.Test.YthplgehdgaeapaaDoorChecked
import Derived.Test.YthplgehdgaeapaaDoorKit
import Derived.Lib.BitFns
namespace Go.Proofs.YthplgehdgaeapaaDoor
open Go.RowKit

theorem spec_l1In (n lo hi : Int) (w : World) : Calls Tryd.prog 59 #[.int .i64 n, .int .i64 lo, .int .i64 hi] w fun e w' => e = .returned (.bool (inR n lo hi)) ∧ w = w' := by
  by_cases h1 : lo ≤ n
  all_goals
    go_enter Tryd.func59, Tryd.ntmps59
    go_wp2
    go_ret
    exact ⟨ret_bool (by simp [inR]; omega), rfl⟩
theorem impl_within (n lo hi : Int) (w : World) : Calls Tryd.prog 63 #[.int .i64 n, .int .i64 lo, .int .i64 hi] w fun e w' => e = .returned (.bool (inR n lo hi)) ∧ w = w' := by
  by_cases h1 : lo ≤ n
  all_goals
    go_enter Tryd.func63, Tryd.ntmps63
    go_wp2
    go_ret
    exact ⟨ret_bool (by simp [inR]; omega), rfl⟩
theorem spec_l1Byte (n : Int) (w : World) : Calls Tryd.prog 58 #[.int .i64 n] w fun e w' => e = .returned (.bool (byteB n)) ∧ w = w' := by
  go_enter Tryd.func58, Tryd.ntmps58
  go_wp2_with (first | (go_at_call 59; refine (spec_l1In _ _ _ _).mono ?_; rintro e w' ⟨rfl, rfl⟩))
  go_ret
  exact ⟨rfl, rfl⟩
theorem impl_isByte (n : Int) (w : World) : Calls Tryd.prog 62 #[.int .i64 n] w fun e w' => e = .returned (.bool (byteB n)) ∧ w = w' := by
  go_enter Tryd.func62, Tryd.ntmps62
  go_wp2_with (first | (go_at_call 63; refine (impl_within _ _ _ _).mono ?_; rintro e w' ⟨rfl, rfl⟩))
  go_ret
  exact ⟨rfl, rfl⟩
theorem impl_SignedByte (a : Int) (w : World) : Calls Tryd.prog 53 #[.int .i64 a] w fun e w' => e = .returned (.int .i64 (sgn a)) ∧ w = w' := by
  cases hb : byteB a
  · go_enter Tryd.func53, Tryd.ntmps53
    go_wp2_with (first | (go_at_call 62; refine (impl_isByte _ _).mono ?_; rintro e w' ⟨rfl, rfl⟩))
    go_ret
    exact ⟨by simp [sgn, hb], rfl⟩
  · have h := byteB_iff.1 hb
    obtain ⟨hl, hu⟩ := h
    go_enter Tryd.func53, Tryd.ntmps53
    go_wp2_with (first | (go_at_call 62; refine (impl_isByte _ _).mono ?_; rintro e w' ⟨rfl, rfl⟩))
    go_ret
    refine ⟨ret_int ?_, rfl⟩
    show wrap64 (IntKind.i8.wrap a) = sgn a
    rw [sgn, if_pos hb]
    split <;> go_arith

def add1 (a b : Int) (c : Bool) : Int := if byteB a && byteB b then (a + b + bit c) % 256 else 0
def add2 (a b : Int) (c : Bool) : Bool := byteB a && byteB b && decide (255 < a + b + bit c)
def add3 (a b : Int) (c : Bool) : Bool := byteB a && byteB b && !inR (sgn a + sgn b + bit c) (-128) 127
def addV (a b : Int) (c : Bool) : Value := .tuple #[.int .i64 (add1 a b c), .bool (add2 a b c), .bool (add3 a b c)]
theorem addV_no {a b : Int} (c : Bool) (h : (byteB a && byteB b) = false) : addV a b c = .tuple #[.int .i64 0, .bool false, .bool false] := by
  unfold addV add1 add2 add3
  rw [h]; rfl
theorem addV_yes {a b : Int} (c : Bool) (h : (byteB a && byteB b) = true) : addV a b c = .tuple #[.int .i64 ((a + b + bit c) % 256), .bool (decide (255 < a + b + bit c)), .bool (!inR (sgn a + sgn b + bit c) (-128) 127)] := by
  unfold addV add1 add2 add3
  rw [h]; rfl
theorem inR_bits (x : Int) (b1 b2 : Bool) (h1 : b1 = decide (x < -128)) (h2 : b2 = decide (127 < x)) : (!inR x (-128) 127) = (b1 || b2) := by
  subst h1 h2
  by_cases h1 : x < -128 <;> by_cases h2 : 127 < x <;> simp [inR, h1, h2] <;> omega

def sub1 (a b : Int) (c : Bool) : Int := if byteB a && byteB b then (a - b - bit c + 256) % 256 else 0
def sub2 (a b : Int) (c : Bool) : Bool := byteB a && byteB b && decide (a - b - bit c < 0)
def subV (a b : Int) (c : Bool) : Value := .tuple #[.int .i64 (sub1 a b c), .bool (sub2 a b c)]
theorem subV_no {a b : Int} (c : Bool) (h : (byteB a && byteB b) = false) : subV a b c = .tuple #[.int .i64 0, .bool false] := by
  unfold subV sub1 sub2
  rw [h]; rfl
theorem subV_yes {a b : Int} (c : Bool) (h : (byteB a && byteB b) = true) : subV a b c = .tuple #[.int .i64 ((a - b - bit c + 256) % 256), .bool (decide (a - b - bit c < 0))] := by
  unfold subV sub1 sub2
  rw [h]; rfl
theorem subV_yes' {a b : Int} (c : Bool) (h : (byteB a && byteB b) = true) : subV a b c = .tuple #[.int .i64 ((a - b - bit c + 512) % 256), .bool (decide (a - b - bit c < 0))] := by
  rw [subV_yes c h, show (a - b - bit c + 512) % 256 = (a - b - bit c + 256) % 256 by omega]
def rotl1 (a : Int) (c : Bool) : Int := if byteB a then (2 * a + bit c) % 256 else 0
def rotl2 (a : Int) (_ : Bool) : Bool := byteB a && decide (128 ≤ a)
def rotlV (a : Int) (c : Bool) : Value := .tuple #[.int .i64 (rotl1 a c), .bool (rotl2 a c)]
theorem rotlV_no {a : Int} (c : Bool) (h : byteB a = false) : rotlV a c = .tuple #[.int .i64 0, .bool false] := by
  unfold rotlV rotl1 rotl2
  rw [h]; rfl
theorem rotlV_yes {a : Int} (c : Bool) (h : byteB a = true) : rotlV a c = .tuple #[.int .i64 ((2 * a + bit c) % 256), .bool (decide (128 ≤ a))] := by
  unfold rotlV rotl1 rotl2
  rw [h]; rfl
def rotr1 (a : Int) (c : Bool) : Int := if byteB a then a / 2 + 128 * bit c else 0
def rotr2 (a : Int) (_ : Bool) : Bool := byteB a && decide (a % 2 = 1)
def rotrV (a : Int) (c : Bool) : Value := .tuple #[.int .i64 (rotr1 a c), .bool (rotr2 a c)]
theorem rotrV_no {a : Int} (c : Bool) (h : byteB a = false) : rotrV a c = .tuple #[.int .i64 0, .bool false] := by
  unfold rotrV rotr1 rotr2
  rw [h]; rfl
theorem rotrV_yes {a : Int} (c : Bool) (h : byteB a = true) : rotrV a c = .tuple #[.int .i64 (a / 2 + 128 * bit c), .bool (decide (a % 2 = 1))] := by
  unfold rotrV rotr1 rotr2
  rw [h]; rfl
theorem or_left (a : Int) (h0 : 0 ≤ a) (h1 : a ≤ 255) (c : Bool) : bits .or .i64 (a * 2 % 256) (bit c) = (2 * a + bit c) % 256 := by
  obtain ⟨n, rfl⟩ := Int.eq_ofNat_of_zero_le h0
  have all : ∀ (j : Fin 256) (c : Bool), bits .or .i64 ((j.val : Int) * 2 % 256) (bit c) = (2 * (j.val : Int) + bit c) % 256 := by decide +kernel
  exact all ⟨n, by omega⟩ c
theorem or_right (a : Int) (h0 : 0 ≤ a) (h1 : a ≤ 255) (c : Bool) : bits .or .i64 (a / 2) (bit c * 128) = a / 2 + 128 * bit c := by
  obtain ⟨n, rfl⟩ := Int.eq_ofNat_of_zero_le h0
  have all : ∀ (j : Fin 256) (c : Bool), bits .or .i64 ((j.val : Int) / 2) (bit c * 128) = (j.val : Int) / 2 + 128 * bit c := by decide +kernel
  exact all ⟨n, by omega⟩ c
theorem odd_eq (a : Int) : decide (a % 2 = 1) = (a % 2 == 1) := by
  rw [Bool.eq_iff_iff]; simp
def pop8 (a : Int) : Int := a % 2 + a / 2 % 2 + a / 4 % 2 + a / 8 % 2 + a / 16 % 2 + a / 32 % 2 + a / 64 % 2 + a / 128 % 2
def ones (a : Int) : Int := if byteB a then pop8 a else 0
theorem pop8_lib (a : Int) (h0 : 0 ≤ a) (h1 : a ≤ 255) : wrap64 (Lib.pop8 a) = pop8 a := by
  obtain ⟨n, rfl⟩ := Int.eq_ofNat_of_zero_le h0
  have all : ∀ (j : Fin 256), wrap64 (Lib.pop8 (j.val : Int)) = pop8 (j.val : Int) := by decide +kernel
  exact all ⟨n, by omega⟩
end Go.Proofs.YthplgehdgaeapaaDoor
