/- The walks of the functions on bytes: each returns what its plain word says, for every integer, and leaves the world alone. No condition. -/
import Derived.Test.YtlnpmanghkeieaaChecked
import Derived.Test.YtlnpmanghkeieaaKit
import Derived.Lib.BitFns
namespace Go.Proofs.Ytlnpmanghkeieaa
open Go.RowKit

theorem spec_l1In (n lo hi : Int) (w : World) : Calls Try.prog 19 #[.int .i64 n, .int .i64 lo, .int .i64 hi] w fun e w' => e = .returned (.bool (inR n lo hi)) ∧ w = w' := by
  by_cases h1 : lo ≤ n
  all_goals
    go_enter Try.func19, Try.ntmps19
    go_wp2
    go_ret
    exact ⟨ret_bool (by simp [inR]; omega), rfl⟩
theorem impl_within (n lo hi : Int) (w : World) : Calls Try.prog 15 #[.int .i64 n, .int .i64 lo, .int .i64 hi] w fun e w' => e = .returned (.bool (inR n lo hi)) ∧ w = w' := by
  by_cases h1 : lo ≤ n
  all_goals
    go_enter Try.func15, Try.ntmps15
    go_wp2
    go_ret
    exact ⟨ret_bool (by simp [inR]; omega), rfl⟩
theorem spec_l1Byte (n : Int) (w : World) : Calls Try.prog 33 #[.int .i64 n] w fun e w' => e = .returned (.bool (byteB n)) ∧ w = w' := by
  go_enter Try.func33, Try.ntmps33
  go_wp2_with (first | (go_at_call 19; refine (spec_l1In _ _ _ _).mono ?_; rintro e w' ⟨rfl, rfl⟩))
  go_ret
  exact ⟨rfl, rfl⟩
theorem impl_isByte (n : Int) (w : World) : Calls Try.prog 38 #[.int .i64 n] w fun e w' => e = .returned (.bool (byteB n)) ∧ w = w' := by
  go_enter Try.func38, Try.ntmps38
  go_wp2_with (first | (go_at_call 15; refine (impl_within _ _ _ _).mono ?_; rintro e w' ⟨rfl, rfl⟩))
  go_ret
  exact ⟨rfl, rfl⟩
theorem spec_l1Bit (b : Bool) (w : World) : Calls Try.prog 68 #[.bool b] w fun e w' => e = .returned (.int .i64 (bit b)) ∧ w = w' := by
  cases b
  all_goals
    go_enter Try.func68, Try.ntmps68
    go_wp2
    go_ret
    exact ⟨rfl, rfl⟩
theorem impl_one (b : Bool) (w : World) : Calls Try.prog 66 #[.bool b] w fun e w' => e = .returned (.int .i64 (bit b)) ∧ w = w' := by
  cases b
  all_goals
    go_enter Try.func66, Try.ntmps66
    go_wp2
    go_ret
    exact ⟨rfl, rfl⟩
theorem spec_SignedByte (a : Int) (w : World) : Calls Try.prog 69 #[.int .i64 a] w fun e w' => e = .returned (.int .i64 (sgn a)) ∧ w = w' := by
  cases hb : byteB a
  · go_enter Try.func69, Try.ntmps69
    go_wp2_with (first | (go_at_call 33; refine (spec_l1Byte _ _).mono ?_; rintro e w' ⟨rfl, rfl⟩))
    go_ret
    exact ⟨by simp [sgn, hb], rfl⟩
  · have h := byteB_iff.1 hb
    obtain ⟨hl, hu⟩ := h
    by_cases h1 : 128 ≤ a
    all_goals
      go_enter Try.func69, Try.ntmps69
      go_wp2_with (first | (go_at_call 33; refine (spec_l1Byte _ _).mono ?_; rintro e w' ⟨rfl, rfl⟩))
      go_ret
      exact ⟨ret_int (by simp [sgn, hb]; omega), rfl⟩
theorem impl_SignedByte (a : Int) (w : World) : Calls Try.prog 24 #[.int .i64 a] w fun e w' => e = .returned (.int .i64 (sgn a)) ∧ w = w' := by
  cases hb : byteB a
  · go_enter Try.func24, Try.ntmps24
    go_wp2_with (first | (go_at_call 38; refine (impl_isByte _ _).mono ?_; rintro e w' ⟨rfl, rfl⟩))
    go_ret
    exact ⟨by simp [sgn, hb], rfl⟩
  · have h := byteB_iff.1 hb
    obtain ⟨hl, hu⟩ := h
    go_enter Try.func24, Try.ntmps24
    go_wp2_with (first | (go_at_call 38; refine (impl_isByte _ _).mono ?_; rintro e w' ⟨rfl, rfl⟩))
    go_ret
    refine ⟨ret_int ?_, rfl⟩
    show wrap64 (IntKind.i8.wrap a) = sgn a
    rw [sgn, if_pos hb]
    split <;> go_arith

def add1 (a b : Int) (c : Bool) : Int := if byteB a && byteB b then (a + b + bit c) % 256 else 0
def add2 (a b : Int) (c : Bool) : Bool := byteB a && byteB b && decide (255 < a + b + bit c)
def add3 (a b : Int) (c : Bool) : Bool := byteB a && byteB b && !inR (sgn a + sgn b + bit c) (-128) 127
def addV (a b : Int) (c : Bool) : Value := .tuple #[.int .i64 (add1 a b c), .bool (add2 a b c), .bool (add3 a b c)]
theorem addV_no {a b : Int} (c : Bool) (h : (byteB a && byteB b) = false) : addV a b c = .tuple #[.int .i64 0, .bool false, .bool false] := by
  unfold addV add1 add2 add3
  rw [h]; rfl
theorem addV_yes {a b : Int} (c : Bool) (h : (byteB a && byteB b) = true) : addV a b c = .tuple #[.int .i64 ((a + b + bit c) % 256), .bool (decide (255 < a + b + bit c)), .bool (!inR (sgn a + sgn b + bit c) (-128) 127)] := by
  unfold addV add1 add2 add3
  rw [h]; rfl
theorem inR_bits (x : Int) (b1 b2 : Bool) (h1 : b1 = decide (x < -128)) (h2 : b2 = decide (127 < x)) : (!inR x (-128) 127) = (b1 || b2) := by
  subst h1 h2
  by_cases h1 : x < -128 <;> by_cases h2 : 127 < x <;> simp [inR, h1, h2] <;> omega

theorem spec_AddBytes (a b : Int) (c : Bool) (w : World) : Calls Try.prog 56 #[.int .i64 a, .int .i64 b, .bool c] w fun e w' => e = .returned (addV a b c) ∧ w = w' := by
  cases ha : byteB a
  · rw [addV_no c (by simp [ha])]
    go_enter Try.func56, Try.ntmps56
    go_wp2_with (first | (go_at_call 33; refine (spec_l1Byte _ _).mono ?_; rintro e w' ⟨rfl, rfl⟩))
    go_ret3
    exact ⟨rfl, rfl⟩
  cases hb : byteB b
  · rw [addV_no c (by simp [hb])]
    go_enter Try.func56, Try.ntmps56
    go_wp2_with (first | (go_at_call 33; refine (spec_l1Byte _ _).mono ?_; rintro e w' ⟨rfl, rfl⟩))
    go_ret3
    exact ⟨rfl, rfl⟩
  rw [addV_yes c (by simp [ha, hb])]
  obtain ⟨a1, a2⟩ := byteB_iff.1 ha
  obtain ⟨b1, b2⟩ := byteB_iff.1 hb
  obtain ⟨c1, c2⟩ := bit_bd c
  obtain ⟨s1, s2⟩ := sgn_bd a
  obtain ⟨t1, t2⟩ := sgn_bd b
  go_enter Try.func56, Try.ntmps56
  go_wp2_with (first | (go_at_call 33; refine (spec_l1Byte _ _).mono ?_; rintro e w' ⟨rfl, rfl⟩) | (go_at_call 68; refine (spec_l1Bit _ _).mono ?_; rintro e w' ⟨rfl, rfl⟩) | (go_at_call 19; refine (spec_l1In _ _ _ _).mono ?_; rintro e w' ⟨rfl, rfl⟩) | (go_at_call 69; refine (spec_SignedByte _ _).mono ?_; rintro e w' ⟨rfl, rfl⟩))
  go_ret3
  exact ⟨rfl, rfl⟩
theorem impl_AddBytes (a b : Int) (c : Bool) (w : World) : Calls Try.prog 46 #[.int .i64 a, .int .i64 b, .bool c] w fun e w' => e = .returned (addV a b c) ∧ w = w' := by
  cases ha : byteB a
  · rw [addV_no c (by simp [ha])]
    go_enter Try.func46, Try.ntmps46
    go_wp2_with (first | (go_at_call 38; refine (impl_isByte _ _).mono ?_; rintro e w' ⟨rfl, rfl⟩))
    go_ret3
    exact ⟨rfl, rfl⟩
  cases hb : byteB b
  · rw [addV_no c (by simp [hb])]
    go_enter Try.func46, Try.ntmps46
    go_wp2_with (first | (go_at_call 38; refine (impl_isByte _ _).mono ?_; rintro e w' ⟨rfl, rfl⟩))
    go_ret3
    exact ⟨rfl, rfl⟩
  rw [addV_yes c (by simp [ha, hb])]
  obtain ⟨a1, a2⟩ := byteB_iff.1 ha
  obtain ⟨b1, b2⟩ := byteB_iff.1 hb
  obtain ⟨c1, c2⟩ := bit_bd c
  obtain ⟨s1, s2⟩ := sgn_bd a
  obtain ⟨t1, t2⟩ := sgn_bd b
  by_cases hlo : sgn a + sgn b + bit c < -128
  all_goals
    go_enter Try.func46, Try.ntmps46
    go_wp2_with (first | (go_at_call 38; refine (impl_isByte _ _).mono ?_; rintro e w' ⟨rfl, rfl⟩) | (go_at_call 66; refine (impl_one _ _).mono ?_; rintro e w' ⟨rfl, rfl⟩) | (go_at_call 24; refine (impl_SignedByte _ _).mono ?_; rintro e w' ⟨rfl, rfl⟩))
    go_ret3
    refine ⟨?_, rfl⟩
    rw [inR_bits _ _ _ rfl rfl]
    simp
    try omega

def sub1 (a b : Int) (c : Bool) : Int := if byteB a && byteB b then (a - b - bit c + 256) % 256 else 0
def sub2 (a b : Int) (c : Bool) : Bool := byteB a && byteB b && decide (a - b - bit c < 0)
def subV (a b : Int) (c : Bool) : Value := .tuple #[.int .i64 (sub1 a b c), .bool (sub2 a b c)]
theorem subV_no {a b : Int} (c : Bool) (h : (byteB a && byteB b) = false) : subV a b c = .tuple #[.int .i64 0, .bool false] := by
  unfold subV sub1 sub2
  rw [h]; rfl
theorem subV_yes {a b : Int} (c : Bool) (h : (byteB a && byteB b) = true) : subV a b c = .tuple #[.int .i64 ((a - b - bit c + 256) % 256), .bool (decide (a - b - bit c < 0))] := by
  unfold subV sub1 sub2
  rw [h]; rfl
theorem subV_yes' {a b : Int} (c : Bool) (h : (byteB a && byteB b) = true) : subV a b c = .tuple #[.int .i64 ((a - b - bit c + 512) % 256), .bool (decide (a - b - bit c < 0))] := by
  rw [subV_yes c h, show (a - b - bit c + 512) % 256 = (a - b - bit c + 256) % 256 by omega]
theorem spec_SubBytes (a b : Int) (c : Bool) (w : World) : Calls Try.prog 57 #[.int .i64 a, .int .i64 b, .bool c] w fun e w' => e = .returned (subV a b c) ∧ w = w' := by
  cases ha : byteB a
  · rw [subV_no c (by simp [ha])]
    go_enter Try.func57, Try.ntmps57
    go_wp2_with (first | (go_at_call 33; refine (spec_l1Byte _ _).mono ?_; rintro e w' ⟨rfl, rfl⟩))
    go_ret2
    exact ⟨rfl, rfl⟩
  cases hb : byteB b
  · rw [subV_no c (by simp [hb])]
    go_enter Try.func57, Try.ntmps57
    go_wp2_with (first | (go_at_call 33; refine (spec_l1Byte _ _).mono ?_; rintro e w' ⟨rfl, rfl⟩))
    go_ret2
    exact ⟨rfl, rfl⟩
  rw [subV_yes c (by simp [ha, hb])]
  obtain ⟨a1, a2⟩ := byteB_iff.1 ha
  obtain ⟨b1, b2⟩ := byteB_iff.1 hb
  obtain ⟨c1, c2⟩ := bit_bd c
  go_enter Try.func57, Try.ntmps57
  go_wp2_with (first | (go_at_call 33; refine (spec_l1Byte _ _).mono ?_; rintro e w' ⟨rfl, rfl⟩) | (go_at_call 68; refine (spec_l1Bit _ _).mono ?_; rintro e w' ⟨rfl, rfl⟩))
  go_ret2
  exact ⟨rfl, rfl⟩
theorem impl_SubBytes (a b : Int) (c : Bool) (w : World) : Calls Try.prog 47 #[.int .i64 a, .int .i64 b, .bool c] w fun e w' => e = .returned (subV a b c) ∧ w = w' := by
  cases ha : byteB a
  · rw [subV_no c (by simp [ha])]
    go_enter Try.func47, Try.ntmps47
    go_wp2_with (first | (go_at_call 38; refine (impl_isByte _ _).mono ?_; rintro e w' ⟨rfl, rfl⟩))
    go_ret2
    exact ⟨rfl, rfl⟩
  cases hb : byteB b
  · rw [subV_no c (by simp [hb])]
    go_enter Try.func47, Try.ntmps47
    go_wp2_with (first | (go_at_call 38; refine (impl_isByte _ _).mono ?_; rintro e w' ⟨rfl, rfl⟩))
    go_ret2
    exact ⟨rfl, rfl⟩
  rw [subV_yes' c (by simp [ha, hb])]
  obtain ⟨a1, a2⟩ := byteB_iff.1 ha
  obtain ⟨b1, b2⟩ := byteB_iff.1 hb
  obtain ⟨c1, c2⟩ := bit_bd c
  go_enter Try.func47, Try.ntmps47
  go_wp2_with (first | (go_at_call 38; refine (impl_isByte _ _).mono ?_; rintro e w' ⟨rfl, rfl⟩) | (go_at_call 66; refine (impl_one _ _).mono ?_; rintro e w' ⟨rfl, rfl⟩))
  go_ret2
  exact ⟨rfl, rfl⟩

def rotl1 (a : Int) (c : Bool) : Int := if byteB a then (2 * a + bit c) % 256 else 0
def rotl2 (a : Int) (_ : Bool) : Bool := byteB a && decide (128 ≤ a)
def rotlV (a : Int) (c : Bool) : Value := .tuple #[.int .i64 (rotl1 a c), .bool (rotl2 a c)]
theorem rotlV_no {a : Int} (c : Bool) (h : byteB a = false) : rotlV a c = .tuple #[.int .i64 0, .bool false] := by
  unfold rotlV rotl1 rotl2
  rw [h]; rfl
theorem rotlV_yes {a : Int} (c : Bool) (h : byteB a = true) : rotlV a c = .tuple #[.int .i64 ((2 * a + bit c) % 256), .bool (decide (128 ≤ a))] := by
  unfold rotlV rotl1 rotl2
  rw [h]; rfl
def rotr1 (a : Int) (c : Bool) : Int := if byteB a then a / 2 + 128 * bit c else 0
def rotr2 (a : Int) (_ : Bool) : Bool := byteB a && decide (a % 2 = 1)
def rotrV (a : Int) (c : Bool) : Value := .tuple #[.int .i64 (rotr1 a c), .bool (rotr2 a c)]
theorem rotrV_no {a : Int} (c : Bool) (h : byteB a = false) : rotrV a c = .tuple #[.int .i64 0, .bool false] := by
  unfold rotrV rotr1 rotr2
  rw [h]; rfl
theorem rotrV_yes {a : Int} (c : Bool) (h : byteB a = true) : rotrV a c = .tuple #[.int .i64 (a / 2 + 128 * bit c), .bool (decide (a % 2 = 1))] := by
  unfold rotrV rotr1 rotr2
  rw [h]; rfl
theorem or_left (a : Int) (h0 : 0 ≤ a) (h1 : a ≤ 255) (c : Bool) : bits .or .i64 (a * 2 % 256) (bit c) = (2 * a + bit c) % 256 := by
  obtain ⟨n, rfl⟩ := Int.eq_ofNat_of_zero_le h0
  have all : ∀ (j : Fin 256) (c : Bool), bits .or .i64 ((j.val : Int) * 2 % 256) (bit c) = (2 * (j.val : Int) + bit c) % 256 := by decide +kernel
  exact all ⟨n, by omega⟩ c
theorem or_right (a : Int) (h0 : 0 ≤ a) (h1 : a ≤ 255) (c : Bool) : bits .or .i64 (a / 2) (bit c * 128) = a / 2 + 128 * bit c := by
  obtain ⟨n, rfl⟩ := Int.eq_ofNat_of_zero_le h0
  have all : ∀ (j : Fin 256) (c : Bool), bits .or .i64 ((j.val : Int) / 2) (bit c * 128) = (j.val : Int) / 2 + 128 * bit c := by decide +kernel
  exact all ⟨n, by omega⟩ c
theorem odd_eq (a : Int) : decide (a % 2 = 1) = (a % 2 == 1) := by
  rw [Bool.eq_iff_iff]; simp
theorem spec_RotateLeft (a : Int) (c : Bool) (w : World) : Calls Try.prog 58 #[.int .i64 a, .bool c] w fun e w' => e = .returned (rotlV a c) ∧ w = w' := by
  cases ha : byteB a
  · rw [rotlV_no c ha]
    go_enter Try.func58, Try.ntmps58
    go_wp2_with (first | (go_at_call 33; refine (spec_l1Byte _ _).mono ?_; rintro e w' ⟨rfl, rfl⟩))
    go_ret2
    exact ⟨rfl, rfl⟩
  rw [rotlV_yes c ha]
  obtain ⟨a1, a2⟩ := byteB_iff.1 ha
  obtain ⟨c1, c2⟩ := bit_bd c
  go_enter Try.func58, Try.ntmps58
  go_wp2_with (first | (go_at_call 33; refine (spec_l1Byte _ _).mono ?_; rintro e w' ⟨rfl, rfl⟩) | (go_at_call 68; refine (spec_l1Bit _ _).mono ?_; rintro e w' ⟨rfl, rfl⟩))
  go_ret2
  exact ⟨rfl, rfl⟩
theorem impl_RotateLeft (a : Int) (c : Bool) (w : World) : Calls Try.prog 48 #[.int .i64 a, .bool c] w fun e w' => e = .returned (rotlV a c) ∧ w = w' := by
  cases ha : byteB a
  · rw [rotlV_no c ha]
    go_enter Try.func48, Try.ntmps48
    go_wp2_with (first | (go_at_call 38; refine (impl_isByte _ _).mono ?_; rintro e w' ⟨rfl, rfl⟩))
    go_ret2
    exact ⟨rfl, rfl⟩
  rw [rotlV_yes c ha]
  obtain ⟨a1, a2⟩ := byteB_iff.1 ha
  obtain ⟨c1, c2⟩ := bit_bd c
  go_enter Try.func48, Try.ntmps48
  go_wp2_with (first | (go_at_call 38; refine (impl_isByte _ _).mono ?_; rintro e w' ⟨rfl, rfl⟩) | (go_at_call 66; refine (impl_one _ _).mono ?_; rintro e w' ⟨rfl, rfl⟩))
  go_ret2
  refine ⟨?_, rfl⟩
  rw [← or_left a a1 a2 c]
  rfl
theorem spec_RotateRight (a : Int) (c : Bool) (w : World) : Calls Try.prog 59 #[.int .i64 a, .bool c] w fun e w' => e = .returned (rotrV a c) ∧ w = w' := by
  cases ha : byteB a
  · rw [rotrV_no c ha]
    go_enter Try.func59, Try.ntmps59
    go_wp2_with (first | (go_at_call 33; refine (spec_l1Byte _ _).mono ?_; rintro e w' ⟨rfl, rfl⟩))
    go_ret2
    exact ⟨rfl, rfl⟩
  rw [rotrV_yes c ha]
  obtain ⟨a1, a2⟩ := byteB_iff.1 ha
  obtain ⟨c1, c2⟩ := bit_bd c
  go_enter Try.func59, Try.ntmps59
  go_wp2_with (first | (go_at_call 33; refine (spec_l1Byte _ _).mono ?_; rintro e w' ⟨rfl, rfl⟩) | (go_at_call 68; refine (spec_l1Bit _ _).mono ?_; rintro e w' ⟨rfl, rfl⟩))
  go_ret2
  refine ⟨?_, rfl⟩
  rw [odd_eq]
  rfl
theorem impl_RotateRight (a : Int) (c : Bool) (w : World) : Calls Try.prog 49 #[.int .i64 a, .bool c] w fun e w' => e = .returned (rotrV a c) ∧ w = w' := by
  cases ha : byteB a
  · rw [rotrV_no c ha]
    go_enter Try.func49, Try.ntmps49
    go_wp2_with (first | (go_at_call 38; refine (impl_isByte _ _).mono ?_; rintro e w' ⟨rfl, rfl⟩))
    go_ret2
    exact ⟨rfl, rfl⟩
  rw [rotrV_yes c ha]
  obtain ⟨a1, a2⟩ := byteB_iff.1 ha
  obtain ⟨c1, c2⟩ := bit_bd c
  go_enter Try.func49, Try.ntmps49
  go_wp2_with (first | (go_at_call 38; refine (impl_isByte _ _).mono ?_; rintro e w' ⟨rfl, rfl⟩) | (go_at_call 66; refine (impl_one _ _).mono ?_; rintro e w' ⟨rfl, rfl⟩))
  go_ret2
  refine ⟨?_, rfl⟩
  rw [← or_right a a1 a2 c, odd_eq]
  rfl

def pop8 (a : Int) : Int := a % 2 + a / 2 % 2 + a / 4 % 2 + a / 8 % 2 + a / 16 % 2 + a / 32 % 2 + a / 64 % 2 + a / 128 % 2
def ones (a : Int) : Int := if byteB a then pop8 a else 0
theorem pop8_lib (a : Int) (h0 : 0 ≤ a) (h1 : a ≤ 255) : wrap64 (Lib.pop8 a) = pop8 a := by
  obtain ⟨n, rfl⟩ := Int.eq_ofNat_of_zero_le h0
  have all : ∀ (j : Fin 256), wrap64 (Lib.pop8 (j.val : Int)) = pop8 (j.val : Int) := by decide +kernel
  exact all ⟨n, by omega⟩
end Go.Proofs.Ytlnpmanghkeieaa
