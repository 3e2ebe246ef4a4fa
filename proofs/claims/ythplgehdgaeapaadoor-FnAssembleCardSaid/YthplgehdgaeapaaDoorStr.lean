/- Texts of instructions: the reference's digits, its names; what an instruction's text is. No condition. -/
import Derived.Test.YthplgehdgaeapaaDoorOrd
import Derived.Test.YthplgehdgaeapaaDoorLaid
import Derived.Laws.BytesArg
import Derived.Lib.SmallJoins
namespace Go.Proofs.YthplgehdgaeapaaDoor
open Go.RowKit
set_option linter.unusedVariables false

theorem conv_one (w : World) (x : Int) : (convert 46 9 (.slice (some ⟨w.heap.size, 0, none⟩) 1 1)).run Tryd.prog (w.alloc (.cells #[.int .u8 x] 5)) = .ok (.string ⟨#[UInt8.ofNat x.toNat]⟩) (w.alloc (.cells #[.int .u8 x] 5)) := by
  have h := run_convert_bytes_arg (P := Tryd.prog) (w.alloc (.cells #[.int .u8 x] 5)) 46 5 Tryd.underlying46 Tryd.underlying5 w.heap.size 0 1 1 [x] rfl (fun i hi => by
    obtain rfl : i = 0 := by omega
    simp) 9 Tryd.underlying9
  exact h
theorem conv_at (w : World) (B : Nat) (x : Int) (h : w.heap.size = B) : (convert 46 9 (.slice (some ⟨B, 0, none⟩) 1 1)).run Tryd.prog (w.alloc (.cells #[.int .u8 x] 5)) = .ok (.string ⟨#[UInt8.ofNat x.toNat]⟩) (w.alloc (.cells #[.int .u8 x] 5)) := h ▸ conv_one w x
theorem bytes_app (a b : Array UInt8) : (⟨a⟩ : ByteArray) ++ ⟨b⟩ = ⟨a ++ b⟩ := by
  apply ByteArray.ext
  simp
theorem dig_split {n : Int} (h0 : 0 ≤ n) (h : 10 ≤ n) : Lib.decDigits n.toNat = Lib.decDigits (n / 10).toNat ++ [UInt8.ofNat (48 + n % 10).toNat] := by
  conv => lhs; rw [Lib.decDigits]
  rw [dif_neg (by omega)]
  have e1 : (n / 10).toNat = n.toNat / 10 := by omega
  have e2 : (48 + n % 10).toNat = 48 + n.toNat % 10 := by omega
  rw [e1, e2]
theorem dig_one {n : Int} (h0 : 0 ≤ n) (h : n < 10) : Lib.decDigits n.toNat = [UInt8.ofNat (48 + n % 10).toNat] := by
  have e2 : (48 + n % 10).toNat = 48 + n.toNat := by omega
  rw [Lib.decDigits_one (by omega), e2]
theorem string_eq {a b : Array UInt8} (h : a = b) : Ending.returned (.string ⟨a⟩) = .returned (.string ⟨b⟩) := by rw [h]
set_option maxRecDepth 20000 in
theorem spec_l4Digits (n : Int) (w : World) (h0 : 0 ≤ n) (h1 : n < 10000) : Calls Tryd.prog 44 #[.int .i64 n] w fun e w' => e = .returned (.string ⟨(Lib.decDigits n.toNat).toArray⟩) ∧ Below w.heap.size w w' := by
  have cv := conv_at
  have ap := bytes_app
  rcases (by omega : n < 10 ∨ (10 ≤ n ∧ n < 100) ∨ (100 ≤ n ∧ n < 1000) ∨ (1000 ≤ n ∧ n < 10000)) with h | ⟨h, h'⟩ | ⟨h, h'⟩ | ⟨h, h'⟩
  · go_enter Tryd.func44, Tryd.ntmps44
    go_wp2_with fail
    refine wp_loop_rounds 1 ?_
    rw [rounds_succ]
    go_wp2_with fail
    go_ret
    refine ⟨?_, ?_⟩
    · rw [dig_one h0 h]; rfl
    · repeat (first | with_reducible exact Below.refl _ _ | with_reducible refine below_via (by assumption) ?_ (by go_size) | with_reducible refine below_within (by assumption) ?_ (by go_size) (by omega) | with_reducible refine Below.alloc ?_ (by go_size) _ | with_reducible refine Below.setCell ?_ (by go_size) _ | with_reducible refine Below.drew ?_)
  · have k0 : 0 ≤ n / 10 := by omega
    have k1 : n / 10 < 10 := by omega
    go_enter Tryd.func44, Tryd.ntmps44
    go_wp2_with fail
    refine wp_loop_rounds 2 ?_
    repeat any_goals (rw [rounds_succ]; go_wp2_with fail)
    go_ret
    refine ⟨?_, ?_⟩
    · rw [dig_split h0 h, dig_one k0 k1]; rfl
    · repeat (first | with_reducible exact Below.refl _ _ | with_reducible refine below_via (by assumption) ?_ (by go_size) | with_reducible refine below_within (by assumption) ?_ (by go_size) (by omega) | with_reducible refine Below.alloc ?_ (by go_size) _ | with_reducible refine Below.setCell ?_ (by go_size) _ | with_reducible refine Below.drew ?_)
  · have k0 : 0 ≤ n / 10 := by omega
    have k1 : 10 ≤ n / 10 := by omega
    have k2 : 0 ≤ n / 10 / 10 := by omega
    have k3 : n / 10 / 10 < 10 := by omega
    go_enter Tryd.func44, Tryd.ntmps44
    go_wp2_with fail
    refine wp_loop_rounds 3 ?_
    repeat any_goals (rw [rounds_succ]; go_wp2_with fail)
    go_ret
    refine ⟨?_, ?_⟩
    · rw [dig_split h0 (by omega), dig_split k0 k1, dig_one k2 k3]; rfl
    · repeat (first | with_reducible exact Below.refl _ _ | with_reducible refine below_via (by assumption) ?_ (by go_size) | with_reducible refine below_within (by assumption) ?_ (by go_size) (by omega) | with_reducible refine Below.alloc ?_ (by go_size) _ | with_reducible refine Below.setCell ?_ (by go_size) _ | with_reducible refine Below.drew ?_)
  · have k0 : 0 ≤ n / 10 := by omega
    have k1 : 10 ≤ n / 10 := by omega
    have k2 : 0 ≤ n / 10 / 10 := by omega
    have k3 : 10 ≤ n / 10 / 10 := by omega
    have k4 : 0 ≤ n / 10 / 10 / 10 := by omega
    have k5 : n / 10 / 10 / 10 < 10 := by omega
    go_enter Tryd.func44, Tryd.ntmps44
    go_wp2_with fail
    refine wp_loop_rounds 4 ?_
    repeat any_goals (rw [rounds_succ]; go_wp2_with fail)
    go_ret
    refine ⟨?_, ?_⟩
    · rw [dig_split h0 (by omega), dig_split k0 (by omega), dig_split k2 k3, dig_one k4 k5]; rfl
    · repeat (first | with_reducible exact Below.refl _ _ | with_reducible refine below_via (by assumption) ?_ (by go_size) | with_reducible refine below_within (by assumption) ?_ (by go_size) (by omega) | with_reducible refine Below.alloc ?_ (by go_size) _ | with_reducible refine Below.setCell ?_ (by go_size) _ | with_reducible refine Below.drew ?_)

def opNames : List (Array UInt8) := [#[119, 97, 105, 116], #[115, 101, 116], #[108, 111, 97, 100], #[115, 116, 111, 114, 101], #[97, 100, 100], #[115, 117, 98], #[97, 110, 100], #[120, 111, 114], #[108, 101, 102, 116], #[114, 105, 103, 104, 116], #[106, 117, 109, 112], #[122, 101, 114, 111], #[99, 97, 114, 114, 121], #[99, 97, 108, 108], #[114, 101, 116, 117, 114, 110], #[115, 116, 111, 112]]
def nameS (op : Int) : ByteArray := ⟨opNames.getD op.toNat #[]⟩
/-- The text of an instruction. -/
def fmtS (op arg : Int) : ByteArray := if ovB op arg then (if olen op = 1 then nameS op else nameS op ++ ⟨#[32]⟩ ++ ⟨(Lib.decDigits arg.toNat).toArray⟩) else ⟨#[]⟩
theorem fmtS_no {op arg : Int} (h : ovB op arg = false) : fmtS op arg = ⟨#[]⟩ := by simp [fmtS, h]
theorem fmtS_one {op arg : Int} (h : ovB op arg = true) (h1 : olen op = 1) : fmtS op arg = nameS op := by simp [fmtS, h, h1]
theorem fmtS_more {op arg : Int} (h : ovB op arg = true) (h1 : ¬ olen op = 1) : fmtS op arg = nameS op ++ ⟨#[32]⟩ ++ ⟨(Lib.decDigits arg.toNat).toArray⟩ := by simp [fmtS, h, h1]
theorem ovB_op {op arg : Int} (h : ovB op arg = true) : inR op 0 15 = true := by
  cases h1 : inR op 0 15
  · rw [ovB_0 (olen_no h1)] at h; cases h
  · rfl
theorem ovB_arg {op arg : Int} (h : ovB op arg = true) : 0 ≤ arg ∧ arg ≤ 1023 := by
  rcases olen_vals op with k | k | k | k
  · rw [ovB_0 k] at h; cases h
  · rw [ovB_1 k] at h; have := eq_of_beq h; omega
  · rw [ovB_2 k] at h; have := byteB_iff.1 h; omega
  · rw [ovB_3 k] at h; exact inR_iff.1 h
theorem nameS_size {op : Int} (h : inR op 0 15 = true) : (nameS op).size ≤ 6 := by
  rcases op_cases h with rfl | rfl | rfl | rfl | rfl | rfl | rfl | rfl | rfl | rfl | rfl | rfl | rfl | rfl | rfl | rfl <;> decide
theorem dig_len {n : Int} (h0 : 0 ≤ n) (h1 : n ≤ 1023) : (Lib.decDigits n.toNat).length ≤ 4 := by
  rw [Lib.decDigits_length]
  rcases Nat.lt_or_ge n.toNat 10 with k | k
  · rw [Lib.nDigits_small k]; omega
  · rw [Lib.nDigits_big (by omega)]
    rcases Nat.lt_or_ge (n.toNat / 10) 10 with k | k
    · rw [Lib.nDigits_small k]; omega
    · rw [Lib.nDigits_big (by omega)]
      rcases Nat.lt_or_ge (n.toNat / 10 / 10) 10 with k | k
      · rw [Lib.nDigits_small k]; omega
      · rw [Lib.nDigits_big (by omega), Lib.nDigits_small (by omega)]
        omega
theorem tbl_at {op : Int} (h : inR op 0 15 = true) (w : World) : (Instr.index 61 (.agg tblCells) (.int .i64 op)).run Tryd.prog w = .ok (.agg #[.string (nameS op), .int .i64 (olen op)]) w := by
  rcases op_cases h with rfl | rfl | rfl | rfl | rfl | rfl | rfl | rfl | rfl | rfl | rfl | rfl | rfl | rfl | rfl | rfl
  · exact tbl_0 w
  · exact tbl_1 w
  · exact tbl_2 w
  · exact tbl_3 w
  · exact tbl_4 w
  · exact tbl_5 w
  · exact tbl_6 w
  · exact tbl_7 w
  · exact tbl_8 w
  · exact tbl_9 w
  · exact tbl_10 w
  · exact tbl_11 w
  · exact tbl_12 w
  · exact tbl_13 w
  · exact tbl_14 w
  · exact tbl_15 w
end Go.Proofs.YthplgehdgaeapaaDoor
