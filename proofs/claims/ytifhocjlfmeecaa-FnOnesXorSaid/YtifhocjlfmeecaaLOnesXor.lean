/- The law FnOnesXor: for every input it answers true, and changes nothing that was there. No condition. -/
import Derived.Test.YtifhocjlfmeecaaDrawByte
namespace Go.Proofs.Ytifhocjlfmeecaa
open Go.ChangeShapes Go.WideShapes Go.ChangeAt Go.RowKit
set_option linter.unusedVariables false

theorem and64 (a b : Nat) (ha : a < 4611686018427387904) (hb : b < 4611686018427387904) : bits .and .i64 (a : Int) (b : Int) = ((a &&& b : Nat) : Int) := by
  have hlt : a &&& b < 2 ^ 62 := Nat.and_lt_two_pow _ (by omega)
  have h1 : (BitVec.ofInt 64 (a : Int)).toNat = a := by
    rw [BitVec.ofInt_natCast, BitVec.toNat_ofNat]; exact Nat.mod_eq_of_lt (by omega)
  have h2 : (BitVec.ofInt 64 (b : Int)).toNat = b := by
    rw [BitVec.ofInt_natCast, BitVec.toNat_ofNat]; exact Nat.mod_eq_of_lt (by omega)
  show IntKind.i64.wrap ((BitVec.ofInt 64 (a : Int) &&& BitVec.ofInt 64 (b : Int)).toNat : Int) = _
  rw [BitVec.toNat_and, h1, h2, IntKind.wrap_i64]
  omega
theorem xor64 (a b : Nat) (ha : a < 4611686018427387904) (hb : b < 4611686018427387904) : bits .xor .i64 (a : Int) (b : Int) = ((a ^^^ b : Nat) : Int) := by
  have hlt : a ^^^ b < 2 ^ 62 := Nat.xor_lt_two_pow (by omega) (by omega)
  have h1 : (BitVec.ofInt 64 (a : Int)).toNat = a := by
    rw [BitVec.ofInt_natCast, BitVec.toNat_ofNat]; exact Nat.mod_eq_of_lt (by omega)
  have h2 : (BitVec.ofInt 64 (b : Int)).toNat = b := by
    rw [BitVec.ofInt_natCast, BitVec.toNat_ofNat]; exact Nat.mod_eq_of_lt (by omega)
  show IntKind.i64.wrap ((BitVec.ofInt 64 (a : Int) ^^^ BitVec.ofInt 64 (b : Int)).toNat : Int) = _
  rw [BitVec.toNat_xor, h1, h2, IntKind.wrap_i64]
  omega
def bt (n k : Nat) : Nat := n / 2 ^ k % 2
theorem bit_at (n m k : Nat) : bt (n ^^^ m) k + 2 * bt (n &&& m) k = bt n k + bt m k := by
  unfold bt
  have h1 := Nat.testBit_xor (x := n) (y := m) (i := k)
  have h2 := Nat.testBit_and n m k
  simp only [Nat.testBit_eq_decide_div_mod_eq] at h1 h2
  have a1 := Nat.mod_two_eq_zero_or_one (n / 2 ^ k)
  have a2 := Nat.mod_two_eq_zero_or_one (m / 2 ^ k)
  have a3 := Nat.mod_two_eq_zero_or_one ((n ^^^ m) / 2 ^ k)
  have a4 := Nat.mod_two_eq_zero_or_one ((n &&& m) / 2 ^ k)
  rcases a1 with a1 | a1 <;> rcases a2 with a2 | a2 <;> rcases a3 with a3 | a3 <;> rcases a4 with a4 | a4 <;> simp [a1, a2, a3, a4] at h1 h2 ⊢
theorem pop8_nat (n : Nat) : pop8 (n : Int) = ((bt n 0 + bt n 1 + bt n 2 + bt n 3 + bt n 4 + bt n 5 + bt n 6 + bt n 7 : Nat) : Int) := by
  unfold bt
  simp only [Nat.reducePow, Nat.div_one]
  rfl
theorem and_bd (x y : Int) (h1 : 0 ≤ x) (h2 : x ≤ 255) (h3 : 0 ≤ y) (h4 : y ≤ 255) : ones (bits .xor .i64 x y) = ones x + ones y - 2 * ones (bits .and .i64 x y) := by
  obtain ⟨n, rfl⟩ := Int.eq_ofNat_of_zero_le h1
  obtain ⟨m, rfl⟩ := Int.eq_ofNat_of_zero_le h3
  rw [and64 n m (by omega) (by omega), xor64 n m (by omega) (by omega)]
  have b1 : n ^^^ m < 2 ^ 8 := Nat.xor_lt_two_pow (by omega) (by omega)
  have b2 : n &&& m < 2 ^ 8 := Nat.and_lt_two_pow _ (by omega)
  have e : ∀ k : Nat, k < 2 ^ 8 → ones (k : Int) = pop8 (k : Int) := fun k hk => by
    unfold ones
    rw [if_pos (byteB_iff.2 ⟨by omega, by omega⟩)]
  rw [e _ b1, e _ b2, e n (by omega), e m (by omega), pop8_nat, pop8_nat, pop8_nat, pop8_nat]
  have d0 := bit_at n m 0
  have d1 := bit_at n m 1
  have d2 := bit_at n m 2
  have d3 := bit_at n m 3
  have d4 := bit_at n m 4
  have d5 := bit_at n m 5
  have d6 := bit_at n m 6
  have d7 := bit_at n m 7
  clear b1 b2 e
  omega
theorem ones_bd (x : Int) : 0 ≤ ones x ∧ ones x ≤ 8 := by
  unfold ones pop8
  split <;> omega
theorem walk_FnOnesXor (v0 : Value) (w : World) (y0 : IsBytes w v0) : Calls Try.prog 7 #[v0] w fun e w' => e = .returned (.bool true) ∧ Below w.heap.size w w' := by
  have hY := Lib.hid y0
  obtain ⟨a, len, cap, zs, rfl, _⟩ := y0
  by_cases hl : (1048576 : Int) < (len : Int)
  · go_enter Try.func7, Try.ntmps7
    go_wp2_with fail
    go_ret
    exact ⟨rfl, Below.refl _ _⟩
  go_enter Try.func7, Try.ntmps7
  go_wp2_with fail
  refine (draw_NewlyPressed hY.out).mono ?_
  rintro e w1 ⟨v, rfl, ⟨x, y, rfl⟩, hB⟩
  cases hb : byteB x
  · go_wp2_with (first | (go_at_call 33; refine (impl_CountOnes _ _).mono ?_; rintro e w' ⟨rfl, rfl⟩) | (go_at_call 34; refine (spec_CountOnes _ _).mono ?_; rintro e w' ⟨rfl, rfl⟩) | (go_at_call 24; refine (laws_alive _).mono ?_; rintro e w' ⟨rfl, rfl⟩) | (go_at_call 31; refine (laws_isByte _ _).mono ?_; rintro e w' ⟨rfl, rfl⟩))
    go_ret
    exact ⟨rfl, hB⟩
  cases hc : byteB y
  · go_wp2_with (first | (go_at_call 33; refine (impl_CountOnes _ _).mono ?_; rintro e w' ⟨rfl, rfl⟩) | (go_at_call 34; refine (spec_CountOnes _ _).mono ?_; rintro e w' ⟨rfl, rfl⟩) | (go_at_call 24; refine (laws_alive _).mono ?_; rintro e w' ⟨rfl, rfl⟩) | (go_at_call 31; refine (laws_isByte _ _).mono ?_; rintro e w' ⟨rfl, rfl⟩))
    go_ret
    exact ⟨rfl, hB⟩
  obtain ⟨h1, h2⟩ := byteB_iff.1 hb
  obtain ⟨h3, h4⟩ := byteB_iff.1 hc
  have E := and_bd x y h1 h2 h3 h4
  obtain ⟨o1, o2⟩ := ones_bd x
  obtain ⟨o3, o4⟩ := ones_bd y
  obtain ⟨o5, o6⟩ := ones_bd (bits .and .i64 x y)
  have HE := Lib.hid E
  clear E
  go_wp2_with (first | (go_at_call 33; refine (impl_CountOnes _ _).mono ?_; rintro e w' ⟨rfl, rfl⟩) | (go_at_call 34; refine (spec_CountOnes _ _).mono ?_; rintro e w' ⟨rfl, rfl⟩) | (go_at_call 24; refine (laws_alive _).mono ?_; rintro e w' ⟨rfl, rfl⟩) | (go_at_call 31; refine (laws_isByte _ _).mono ?_; rintro e w' ⟨rfl, rfl⟩))
  go_ret
  refine ⟨ret_bool ?_, hB⟩
  simp only [beq_iff_eq]
  rw [HE.out]
set_option maxRecDepth 100000 in
theorem lifted_FnOnesXor (os : Os) (started : os.Started) (H : Type) (enc : TypeId × Value → H) :
    ReturnsInHanded {} Try.checked os 7 .any (Rows.fnOnesXorSpec.pre6 enc Try.prog Try.f7 Rows.fnOnesXorRow.domain false) (Rows.fnOnesXorSpec.post enc Try.prog Try.f7 false true false false) := by
  refine returnsInHanded_of_change (C := Try.checked) own started (by kernel_rfl) Try.func7
    (ChangeSpec.witness6 (enc := enc) (C := Try.checked) false ⟨#[], #[.slice none 0 0], []⟩ 8 (by kernel_rfl) (by kernel_rfl) (by kernel_rfl) (by kernel_rfl)) ?_
  intro W base args ds gs before hval0 hW hcnd _
  have hval : ∀ (j : Nat) t v, Try.f7.params[j]? = some t → args[j]? = some v → Value.okWide Try.prog W .any base t v := hval0
  have hW' := hW
  obtain ⟨p, q, hA0, hV, rfl, hfz, hnd⟩ := hW
  have hA : DataW.TrodAll enc Try.prog W 0 (fun _ => true) true Try.f7.params.toList args.toList ds p := hA0
  rw [Try.params7] at hA hval
  obtain ⟨v0, vs0, d0, ds0, p0, q0, hargs, rfl, rfl, h0, r0⟩ := trodAll_cons hA
  obtain ⟨rfl, rfl, rfl⟩ := trodAll_nil r0
  obtain rfl : args = #[v0] := by cases args; simp_all
  obtain ⟨rfl, rfl⟩ := trodVars_none hV
  have lt0 : ∀ x ∈ p0, x.block < W.heap.size := by obtain ⟨m, hm⟩ := h0; exact DataW.trod_lt m _ _ _ hm
  have y0 := read_bytes (hval 0 22 v0 rfl rfl) h0
  clear hA0 hval0
  refine (walk_FnOnesXor v0 W y0).mono fun e W' ⟨he, bel⟩ => ?_
  subst he
  exact ⟨_, rfl, _, _, _, [], _, [], hW', trodAll_mk1 (shut_bool Try.underlying4 _), (trodAll_cons_mk (Below.trod laidOut (by kernel_rfl) (of_decide_eq_true (by kernel_rfl)) h0 bel lt0) trodAll_mk0), rfl, bel.frame _, fun h => by cases h⟩
theorem closed_FnOnesXor : joinedFacts Try.prog 7 Try.f7 Rows.fnOnesXorSpec Rows.fnOnesXorRow = true := by
  unfold joinedFacts
  rw [shared.1, shared.2.1, shared.2.2.1, shared.2.2.2]
  kernel_rfl
/-- The given statement of FnOnesXor. -/
theorem FnOnesXor_holds : Rows.FnOnesXorSaid :=
  OpenClaim.holds_of_wide 7 Try.f7 rfl rfl rfl rfl rfl rfl rfl ⟨rfl, rfl, rfl, rfl, rfl⟩ rfl rfl rfl rfl rfl (by kernel_rfl) Try.func7 closed_FnOnesXor
    (of_decide_eq_true (by kernel_rfl)) (by unfold Func.isWrapper; first | (rw [if_pos (by decide +kernel)]; kernel_rfl) | (rw [if_neg (by decide +kernel)]; exact ⟨rfl, rfl⟩))
    (fun os started H enc _ => lifted_FnOnesXor os started H enc)

end Go.Proofs.Ytifhocjlfmeecaa
