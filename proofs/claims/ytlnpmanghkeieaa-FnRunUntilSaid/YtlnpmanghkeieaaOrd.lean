/- The walks of the functions on instructions' lengths and validity: each returns what its plain word says, and changes nothing that was there. No condition. -/
import Derived.Test.YtlnpmanghkeieaaByte
import Derived.Deep.WholeRow
namespace Go.Proofs.Ytlnpmanghkeieaa
open Go.RowKit

def olenT : List Int := [1, 2, 3, 3, 3, 3, 3, 3, 1, 1, 3, 3, 3, 3, 1, 1]
def olen (op : Int) : Int := if inR op 0 15 then olenT.getD op.toNat 0 else 0
theorem olen_no {op : Int} (h : inR op 0 15 = false) : olen op = 0 := by simp [olen, h]
theorem op_cases {op : Int} (h : inR op 0 15 = true) : op = 0 ∨ op = 1 ∨ op = 2 ∨ op = 3 ∨ op = 4 ∨ op = 5 ∨ op = 6 ∨ op = 7 ∨ op = 8 ∨ op = 9 ∨ op = 10 ∨ op = 11 ∨ op = 12 ∨ op = 13 ∨ op = 14 ∨ op = 15 := by
  have := inR_iff.1 h; omega
theorem olen_bd (op : Int) : 0 ≤ olen op ∧ olen op ≤ 3 := by
  cases h : inR op 0 15
  · rw [olen_no h]; omega
  · rcases op_cases h with rfl | rfl | rfl | rfl | rfl | rfl | rfl | rfl | rfl | rfl | rfl | rfl | rfl | rfl | rfl | rfl <;> decide

/-- The table of the operations' names and lengths, as its cells. -/
def tblCells : Array Value := #[.string ⟨#[119, 97, 105, 116]⟩, .int .i64 1, .string ⟨#[115, 101, 116]⟩, .int .i64 2, .string ⟨#[108, 111, 97, 100]⟩, .int .i64 3, .string ⟨#[115, 116, 111, 114, 101]⟩, .int .i64 3,
  .string ⟨#[97, 100, 100]⟩, .int .i64 3, .string ⟨#[115, 117, 98]⟩, .int .i64 3, .string ⟨#[97, 110, 100]⟩, .int .i64 3, .string ⟨#[120, 111, 114]⟩, .int .i64 3,
  .string ⟨#[108, 101, 102, 116]⟩, .int .i64 1, .string ⟨#[114, 105, 103, 104, 116]⟩, .int .i64 1, .string ⟨#[106, 117, 109, 112]⟩, .int .i64 3, .string ⟨#[122, 101, 114, 111]⟩, .int .i64 3,
  .string ⟨#[99, 97, 114, 114, 121]⟩, .int .i64 3, .string ⟨#[99, 97, 108, 108]⟩, .int .i64 3, .string ⟨#[114, 101, 116, 117, 114, 110]⟩, .int .i64 1, .string ⟨#[115, 116, 111, 112]⟩, .int .i64 1]
set_option maxHeartbeats 2000000 in
theorem impl_orderTable (w : World) : Calls Try.prog 65 #[] w fun e w' => e = .returned (.agg tblCells) ∧ w.alloc (.cells tblCells 84) = w' := by
  go_enter Try.func65, Try.ntmps65
  go_wp2_with (refine wpList_store_row rfl 84 _ _ rfl w.heap.size tblCells rfl rfl 84 _ (heap_alloc_last w _) (by kernel_rfl) rfl (by kernel_rfl) ?_; rw [World.setRow_alloc_new])
  exact bodyPost_ret (results_cell_row rfl _ _ w.heap.size 84 tblCells (0, 0) _ rfl (heap_alloc_last w _) Try.underlying84 rfl (by kernel_rfl)) rfl ⟨rfl, rfl⟩
theorem row_name (s : ByteArray) (n : Int) (w : World) : (Instr.field 83 (.agg #[.string s, .int .i64 n]) 0).run Try.prog w = .ok (.string s) w := by kernel_rfl
theorem row_len (s : ByteArray) (n : Int) (w : World) : (Instr.field 83 (.agg #[.string s, .int .i64 n]) 1).run Try.prog w = .ok (.int .i64 n) w := by kernel_rfl
theorem tbl_0 (w : World) : (Instr.index 84 (.agg tblCells) (.int .i64 0)).run Try.prog w = .ok (.agg #[.string ⟨#[119, 97, 105, 116]⟩, .int .i64 1]) w := by kernel_rfl
theorem tbl_1 (w : World) : (Instr.index 84 (.agg tblCells) (.int .i64 1)).run Try.prog w = .ok (.agg #[.string ⟨#[115, 101, 116]⟩, .int .i64 2]) w := by kernel_rfl
theorem tbl_2 (w : World) : (Instr.index 84 (.agg tblCells) (.int .i64 2)).run Try.prog w = .ok (.agg #[.string ⟨#[108, 111, 97, 100]⟩, .int .i64 3]) w := by kernel_rfl
theorem tbl_3 (w : World) : (Instr.index 84 (.agg tblCells) (.int .i64 3)).run Try.prog w = .ok (.agg #[.string ⟨#[115, 116, 111, 114, 101]⟩, .int .i64 3]) w := by kernel_rfl
theorem tbl_4 (w : World) : (Instr.index 84 (.agg tblCells) (.int .i64 4)).run Try.prog w = .ok (.agg #[.string ⟨#[97, 100, 100]⟩, .int .i64 3]) w := by kernel_rfl
theorem tbl_5 (w : World) : (Instr.index 84 (.agg tblCells) (.int .i64 5)).run Try.prog w = .ok (.agg #[.string ⟨#[115, 117, 98]⟩, .int .i64 3]) w := by kernel_rfl
theorem tbl_6 (w : World) : (Instr.index 84 (.agg tblCells) (.int .i64 6)).run Try.prog w = .ok (.agg #[.string ⟨#[97, 110, 100]⟩, .int .i64 3]) w := by kernel_rfl
theorem tbl_7 (w : World) : (Instr.index 84 (.agg tblCells) (.int .i64 7)).run Try.prog w = .ok (.agg #[.string ⟨#[120, 111, 114]⟩, .int .i64 3]) w := by kernel_rfl
theorem tbl_8 (w : World) : (Instr.index 84 (.agg tblCells) (.int .i64 8)).run Try.prog w = .ok (.agg #[.string ⟨#[108, 101, 102, 116]⟩, .int .i64 1]) w := by kernel_rfl
theorem tbl_9 (w : World) : (Instr.index 84 (.agg tblCells) (.int .i64 9)).run Try.prog w = .ok (.agg #[.string ⟨#[114, 105, 103, 104, 116]⟩, .int .i64 1]) w := by kernel_rfl
theorem tbl_10 (w : World) : (Instr.index 84 (.agg tblCells) (.int .i64 10)).run Try.prog w = .ok (.agg #[.string ⟨#[106, 117, 109, 112]⟩, .int .i64 3]) w := by kernel_rfl
theorem tbl_11 (w : World) : (Instr.index 84 (.agg tblCells) (.int .i64 11)).run Try.prog w = .ok (.agg #[.string ⟨#[122, 101, 114, 111]⟩, .int .i64 3]) w := by kernel_rfl
theorem tbl_12 (w : World) : (Instr.index 84 (.agg tblCells) (.int .i64 12)).run Try.prog w = .ok (.agg #[.string ⟨#[99, 97, 114, 114, 121]⟩, .int .i64 3]) w := by kernel_rfl
theorem tbl_13 (w : World) : (Instr.index 84 (.agg tblCells) (.int .i64 13)).run Try.prog w = .ok (.agg #[.string ⟨#[99, 97, 108, 108]⟩, .int .i64 3]) w := by kernel_rfl
theorem tbl_14 (w : World) : (Instr.index 84 (.agg tblCells) (.int .i64 14)).run Try.prog w = .ok (.agg #[.string ⟨#[114, 101, 116, 117, 114, 110]⟩, .int .i64 1]) w := by kernel_rfl
theorem tbl_15 (w : World) : (Instr.index 84 (.agg tblCells) (.int .i64 15)).run Try.prog w = .ok (.agg #[.string ⟨#[115, 116, 111, 112]⟩, .int .i64 1]) w := by kernel_rfl
theorem impl_OrderLength_at (op : Int) (w : World) (h : inR op 0 15 = true) : Calls Try.prog 43 #[.int .i64 op] w fun e w' => e = .returned (.int .i64 (olen op)) ∧ w.alloc (.cells tblCells 84) = w' := by
  rcases op_cases h with rfl | rfl | rfl | rfl | rfl | rfl | rfl | rfl | rfl | rfl | rfl | rfl | rfl | rfl | rfl | rfl
  · have ix := tbl_0
    have fx := row_len
    go_enter Try.func43, Try.ntmps43
    go_wp2_with (first | (go_at_call 15; refine (impl_within _ _ _ _).mono ?_; rintro e w' ⟨rfl, rfl⟩) | (go_at_call 65; refine (impl_orderTable _).mono ?_; rintro e w' ⟨rfl, rfl⟩))
    go_ret
    exact ⟨rfl, rfl⟩
  · have ix := tbl_1
    have fx := row_len
    go_enter Try.func43, Try.ntmps43
    go_wp2_with (first | (go_at_call 15; refine (impl_within _ _ _ _).mono ?_; rintro e w' ⟨rfl, rfl⟩) | (go_at_call 65; refine (impl_orderTable _).mono ?_; rintro e w' ⟨rfl, rfl⟩))
    go_ret
    exact ⟨rfl, rfl⟩
  · have ix := tbl_2
    have fx := row_len
    go_enter Try.func43, Try.ntmps43
    go_wp2_with (first | (go_at_call 15; refine (impl_within _ _ _ _).mono ?_; rintro e w' ⟨rfl, rfl⟩) | (go_at_call 65; refine (impl_orderTable _).mono ?_; rintro e w' ⟨rfl, rfl⟩))
    go_ret
    exact ⟨rfl, rfl⟩
  · have ix := tbl_3
    have fx := row_len
    go_enter Try.func43, Try.ntmps43
    go_wp2_with (first | (go_at_call 15; refine (impl_within _ _ _ _).mono ?_; rintro e w' ⟨rfl, rfl⟩) | (go_at_call 65; refine (impl_orderTable _).mono ?_; rintro e w' ⟨rfl, rfl⟩))
    go_ret
    exact ⟨rfl, rfl⟩
  · have ix := tbl_4
    have fx := row_len
    go_enter Try.func43, Try.ntmps43
    go_wp2_with (first | (go_at_call 15; refine (impl_within _ _ _ _).mono ?_; rintro e w' ⟨rfl, rfl⟩) | (go_at_call 65; refine (impl_orderTable _).mono ?_; rintro e w' ⟨rfl, rfl⟩))
    go_ret
    exact ⟨rfl, rfl⟩
  · have ix := tbl_5
    have fx := row_len
    go_enter Try.func43, Try.ntmps43
    go_wp2_with (first | (go_at_call 15; refine (impl_within _ _ _ _).mono ?_; rintro e w' ⟨rfl, rfl⟩) | (go_at_call 65; refine (impl_orderTable _).mono ?_; rintro e w' ⟨rfl, rfl⟩))
    go_ret
    exact ⟨rfl, rfl⟩
  · have ix := tbl_6
    have fx := row_len
    go_enter Try.func43, Try.ntmps43
    go_wp2_with (first | (go_at_call 15; refine (impl_within _ _ _ _).mono ?_; rintro e w' ⟨rfl, rfl⟩) | (go_at_call 65; refine (impl_orderTable _).mono ?_; rintro e w' ⟨rfl, rfl⟩))
    go_ret
    exact ⟨rfl, rfl⟩
  · have ix := tbl_7
    have fx := row_len
    go_enter Try.func43, Try.ntmps43
    go_wp2_with (first | (go_at_call 15; refine (impl_within _ _ _ _).mono ?_; rintro e w' ⟨rfl, rfl⟩) | (go_at_call 65; refine (impl_orderTable _).mono ?_; rintro e w' ⟨rfl, rfl⟩))
    go_ret
    exact ⟨rfl, rfl⟩
  · have ix := tbl_8
    have fx := row_len
    go_enter Try.func43, Try.ntmps43
    go_wp2_with (first | (go_at_call 15; refine (impl_within _ _ _ _).mono ?_; rintro e w' ⟨rfl, rfl⟩) | (go_at_call 65; refine (impl_orderTable _).mono ?_; rintro e w' ⟨rfl, rfl⟩))
    go_ret
    exact ⟨rfl, rfl⟩
  · have ix := tbl_9
    have fx := row_len
    go_enter Try.func43, Try.ntmps43
    go_wp2_with (first | (go_at_call 15; refine (impl_within _ _ _ _).mono ?_; rintro e w' ⟨rfl, rfl⟩) | (go_at_call 65; refine (impl_orderTable _).mono ?_; rintro e w' ⟨rfl, rfl⟩))
    go_ret
    exact ⟨rfl, rfl⟩
  · have ix := tbl_10
    have fx := row_len
    go_enter Try.func43, Try.ntmps43
    go_wp2_with (first | (go_at_call 15; refine (impl_within _ _ _ _).mono ?_; rintro e w' ⟨rfl, rfl⟩) | (go_at_call 65; refine (impl_orderTable _).mono ?_; rintro e w' ⟨rfl, rfl⟩))
    go_ret
    exact ⟨rfl, rfl⟩
  · have ix := tbl_11
    have fx := row_len
    go_enter Try.func43, Try.ntmps43
    go_wp2_with (first | (go_at_call 15; refine (impl_within _ _ _ _).mono ?_; rintro e w' ⟨rfl, rfl⟩) | (go_at_call 65; refine (impl_orderTable _).mono ?_; rintro e w' ⟨rfl, rfl⟩))
    go_ret
    exact ⟨rfl, rfl⟩
  · have ix := tbl_12
    have fx := row_len
    go_enter Try.func43, Try.ntmps43
    go_wp2_with (first | (go_at_call 15; refine (impl_within _ _ _ _).mono ?_; rintro e w' ⟨rfl, rfl⟩) | (go_at_call 65; refine (impl_orderTable _).mono ?_; rintro e w' ⟨rfl, rfl⟩))
    go_ret
    exact ⟨rfl, rfl⟩
  · have ix := tbl_13
    have fx := row_len
    go_enter Try.func43, Try.ntmps43
    go_wp2_with (first | (go_at_call 15; refine (impl_within _ _ _ _).mono ?_; rintro e w' ⟨rfl, rfl⟩) | (go_at_call 65; refine (impl_orderTable _).mono ?_; rintro e w' ⟨rfl, rfl⟩))
    go_ret
    exact ⟨rfl, rfl⟩
  · have ix := tbl_14
    have fx := row_len
    go_enter Try.func43, Try.ntmps43
    go_wp2_with (first | (go_at_call 15; refine (impl_within _ _ _ _).mono ?_; rintro e w' ⟨rfl, rfl⟩) | (go_at_call 65; refine (impl_orderTable _).mono ?_; rintro e w' ⟨rfl, rfl⟩))
    go_ret
    exact ⟨rfl, rfl⟩
  · have ix := tbl_15
    have fx := row_len
    go_enter Try.func43, Try.ntmps43
    go_wp2_with (first | (go_at_call 15; refine (impl_within _ _ _ _).mono ?_; rintro e w' ⟨rfl, rfl⟩) | (go_at_call 65; refine (impl_orderTable _).mono ?_; rintro e w' ⟨rfl, rfl⟩))
    go_ret
    exact ⟨rfl, rfl⟩
theorem impl_OrderLength (op : Int) (w : World) : Calls Try.prog 43 #[.int .i64 op] w fun e w' => e = .returned (.int .i64 (olen op)) ∧ Below w.heap.size w w' := by
  cases h : inR op 0 15
  · rw [olen_no h]
    go_enter Try.func43, Try.ntmps43
    go_wp2_with (first | (go_at_call 15; refine (impl_within _ _ _ _).mono ?_; rintro e w' ⟨rfl, rfl⟩))
    go_ret
    exact ⟨rfl, by go_grown⟩
  · exact (impl_OrderLength_at op w h).mono fun e w' ⟨he, hw⟩ => ⟨he, hw ▸ (Below.refl _ _).alloc (Nat.le_refl _) _⟩
def lenCells : Array Value := #[.int .i64 1, .int .i64 2, .int .i64 3, .int .i64 3, .int .i64 3, .int .i64 3, .int .i64 3, .int .i64 3, .int .i64 1, .int .i64 1, .int .i64 3, .int .i64 3, .int .i64 3, .int .i64 3, .int .i64 1, .int .i64 1]
set_option maxHeartbeats 4000000 in
theorem spec_OrderLength_at (op : Int) (w : World) (h : inR op 0 15 = true) : Calls Try.prog 53 #[.int .i64 op] w fun e w' => e = .returned (.int .i64 (olen op)) ∧ w.alloc (.cells lenCells 3) = w' := by
  rcases op_cases h with rfl | rfl | rfl | rfl | rfl | rfl | rfl | rfl | rfl | rfl | rfl | rfl | rfl | rfl | rfl | rfl
  all_goals
    go_enter Try.func53, Try.ntmps53
    go_wp2_with (first | (go_at_call 19; refine (spec_l1In _ _ _ _).mono ?_; rintro e w' ⟨rfl, rfl⟩))
    go_ret
    exact ⟨rfl, rfl⟩
theorem spec_OrderLength (op : Int) (w : World) : Calls Try.prog 53 #[.int .i64 op] w fun e w' => e = .returned (.int .i64 (olen op)) ∧ Below w.heap.size w w' := by
  cases h : inR op 0 15
  · rw [olen_no h]
    go_enter Try.func53, Try.ntmps53
    go_wp2_with (first | (go_at_call 19; refine (spec_l1In _ _ _ _).mono ?_; rintro e w' ⟨rfl, rfl⟩))
    go_ret
    exact ⟨rfl, by go_grown⟩
  · exact (spec_OrderLength_at op w h).mono fun e w' ⟨he, hw⟩ => ⟨he, hw ▸ (Below.refl _ _).alloc (Nat.le_refl _) _⟩

def ovB (op arg : Int) : Bool := (olen op == 1 && arg == 0) || (olen op == 2 && byteB arg) || (olen op == 3 && inR arg 0 1023)
theorem olen_vals (op : Int) : olen op = 0 ∨ olen op = 1 ∨ olen op = 2 ∨ olen op = 3 := by
  have := olen_bd op; omega
theorem ovB_0 {op arg : Int} (h : olen op = 0) : ovB op arg = false := by simp [ovB, h]
theorem ovB_1 {op arg : Int} (h : olen op = 1) : ovB op arg = (arg == 0) := by simp [ovB, h]
theorem ovB_2 {op arg : Int} (h : olen op = 2) : ovB op arg = byteB arg := by simp [ovB, h]
theorem ovB_3 {op arg : Int} (h : olen op = 3) : ovB op arg = inR arg 0 1023 := by simp [ovB, h]
theorem impl_OrderValid (op arg : Int) (w : World) : Calls Try.prog 44 #[.agg #[.int .i64 op, .int .i64 arg]] w fun e w' => e = .returned (.bool (ovB op arg)) ∧ Below w.heap.size w w' := by
  rcases olen_vals op with h | h | h | h
  · rw [ovB_0 h]
    go_enter Try.func44, Try.ntmps44
    go_wp2_with (first | (go_at_call 43; refine (impl_OrderLength _ _).mono ?_; rintro e w' ⟨rfl, hb⟩; obtain ⟨hc, hf⟩ := bcell hb; have hl := below_lts hb; (try simp only [World.size_drew] at hl); (try simp only [World.size_alloc] at hl); (try have hm := fun n (hn : n < _) => hl n (Nat.lt_add_right _ hn)); have hy : w.heap.size ≤ w'.heap.size := Nat.le_trans (by go_size) hb.size) | (go_at_call 38; refine (impl_isByte _ _).mono ?_; rintro e w' ⟨rfl, rfl⟩) | (go_at_call 15; refine (impl_within _ _ _ _).mono ?_; rintro e w' ⟨rfl, rfl⟩))
    go_ret
    refine ⟨rfl, ?_⟩
    repeat (first | with_reducible exact Below.refl _ _ | with_reducible refine below_via (by assumption) ?_ (by go_size) | with_reducible refine below_within (by assumption) ?_ (by go_size) (by omega) | with_reducible refine Below.alloc ?_ (by go_size) _ | with_reducible refine Below.setCell ?_ (by go_size) _ | with_reducible refine Below.drew ?_)
  · rw [ovB_1 h]
    go_enter Try.func44, Try.ntmps44
    go_wp2_with (first | (go_at_call 43; refine (impl_OrderLength _ _).mono ?_; rintro e w' ⟨rfl, hb⟩; obtain ⟨hc, hf⟩ := bcell hb; have hl := below_lts hb; (try simp only [World.size_drew] at hl); (try simp only [World.size_alloc] at hl); (try have hm := fun n (hn : n < _) => hl n (Nat.lt_add_right _ hn)); have hy : w.heap.size ≤ w'.heap.size := Nat.le_trans (by go_size) hb.size) | (go_at_call 38; refine (impl_isByte _ _).mono ?_; rintro e w' ⟨rfl, rfl⟩) | (go_at_call 15; refine (impl_within _ _ _ _).mono ?_; rintro e w' ⟨rfl, rfl⟩))
    go_ret
    refine ⟨rfl, ?_⟩
    repeat (first | with_reducible exact Below.refl _ _ | with_reducible refine below_via (by assumption) ?_ (by go_size) | with_reducible refine below_within (by assumption) ?_ (by go_size) (by omega) | with_reducible refine Below.alloc ?_ (by go_size) _ | with_reducible refine Below.setCell ?_ (by go_size) _ | with_reducible refine Below.drew ?_)
  · rw [ovB_2 h]
    go_enter Try.func44, Try.ntmps44
    go_wp2_with (first | (go_at_call 43; refine (impl_OrderLength _ _).mono ?_; rintro e w' ⟨rfl, hb⟩; obtain ⟨hc, hf⟩ := bcell hb; have hl := below_lts hb; (try simp only [World.size_drew] at hl); (try simp only [World.size_alloc] at hl); (try have hm := fun n (hn : n < _) => hl n (Nat.lt_add_right _ hn)); have hy : w.heap.size ≤ w'.heap.size := Nat.le_trans (by go_size) hb.size) | (go_at_call 38; refine (impl_isByte _ _).mono ?_; rintro e w' ⟨rfl, rfl⟩) | (go_at_call 15; refine (impl_within _ _ _ _).mono ?_; rintro e w' ⟨rfl, rfl⟩))
    go_ret
    refine ⟨rfl, ?_⟩
    repeat (first | with_reducible exact Below.refl _ _ | with_reducible refine below_via (by assumption) ?_ (by go_size) | with_reducible refine below_within (by assumption) ?_ (by go_size) (by omega) | with_reducible refine Below.alloc ?_ (by go_size) _ | with_reducible refine Below.setCell ?_ (by go_size) _ | with_reducible refine Below.drew ?_)
  · rw [ovB_3 h]
    go_enter Try.func44, Try.ntmps44
    go_wp2_with (first | (go_at_call 43; refine (impl_OrderLength _ _).mono ?_; rintro e w' ⟨rfl, hb⟩; obtain ⟨hc, hf⟩ := bcell hb; have hl := below_lts hb; (try simp only [World.size_drew] at hl); (try simp only [World.size_alloc] at hl); (try have hm := fun n (hn : n < _) => hl n (Nat.lt_add_right _ hn)); have hy : w.heap.size ≤ w'.heap.size := Nat.le_trans (by go_size) hb.size) | (go_at_call 38; refine (impl_isByte _ _).mono ?_; rintro e w' ⟨rfl, rfl⟩) | (go_at_call 15; refine (impl_within _ _ _ _).mono ?_; rintro e w' ⟨rfl, rfl⟩))
    go_ret
    refine ⟨rfl, ?_⟩
    repeat (first | with_reducible exact Below.refl _ _ | with_reducible refine below_via (by assumption) ?_ (by go_size) | with_reducible refine below_within (by assumption) ?_ (by go_size) (by omega) | with_reducible refine Below.alloc ?_ (by go_size) _ | with_reducible refine Below.setCell ?_ (by go_size) _ | with_reducible refine Below.drew ?_)
set_option maxHeartbeats 1000000 in
theorem spec_OrderValid (op arg : Int) (w : World) : Calls Try.prog 67 #[.agg #[.int .i64 op, .int .i64 arg]] w fun e w' => e = .returned (.bool (ovB op arg)) ∧ Below w.heap.size w w' := by
  rcases olen_vals op with h | h | h | h
  · rw [ovB_0 h]
    go_enter Try.func67, Try.ntmps67
    go_wp2_with (first | (go_at_call 53; refine (spec_OrderLength _ _).mono ?_; rintro e w' ⟨rfl, hb⟩; obtain ⟨hc, hf⟩ := bcell hb; have hl := below_lts hb; (try simp only [World.size_drew] at hl); (try simp only [World.size_alloc] at hl); (try have hm := fun n (hn : n < _) => hl n (Nat.lt_add_right _ hn)); have hy : w.heap.size ≤ w'.heap.size := Nat.le_trans (by go_size) hb.size) | (go_at_call 33; refine (spec_l1Byte _ _).mono ?_; rintro e w' ⟨rfl, rfl⟩) | (go_at_call 19; refine (spec_l1In _ _ _ _).mono ?_; rintro e w' ⟨rfl, rfl⟩))
    go_ret
    refine ⟨rfl, ?_⟩
    repeat (first | with_reducible exact Below.refl _ _ | with_reducible refine below_via (by assumption) ?_ (by go_size) | with_reducible refine below_within (by assumption) ?_ (by go_size) (by omega) | with_reducible refine Below.alloc ?_ (by go_size) _ | with_reducible refine Below.setCell ?_ (by go_size) _ | with_reducible refine Below.drew ?_)
  · rw [ovB_1 h]
    cases hz : (arg == 0)
    all_goals
      go_enter Try.func67, Try.ntmps67
      go_wp2_with (first | (go_at_call 53; refine (spec_OrderLength _ _).mono ?_; rintro e w' ⟨rfl, hb⟩; obtain ⟨hc, hf⟩ := bcell hb; have hl := below_lts hb; (try simp only [World.size_drew] at hl); (try simp only [World.size_alloc] at hl); (try have hm := fun n (hn : n < _) => hl n (Nat.lt_add_right _ hn)); have hy : w.heap.size ≤ w'.heap.size := Nat.le_trans (by go_size) hb.size) | (go_at_call 33; refine (spec_l1Byte _ _).mono ?_; rintro e w' ⟨rfl, rfl⟩) | (go_at_call 19; refine (spec_l1In _ _ _ _).mono ?_; rintro e w' ⟨rfl, rfl⟩))
      go_ret
      refine ⟨rfl, ?_⟩
      repeat (first | with_reducible exact Below.refl _ _ | with_reducible refine below_via (by assumption) ?_ (by go_size) | with_reducible refine below_within (by assumption) ?_ (by go_size) (by omega) | with_reducible refine Below.alloc ?_ (by go_size) _ | with_reducible refine Below.setCell ?_ (by go_size) _ | with_reducible refine Below.drew ?_)
  · rw [ovB_2 h]
    cases hz : byteB arg
    all_goals
      go_enter Try.func67, Try.ntmps67
      go_wp2_with (first | (go_at_call 53; refine (spec_OrderLength _ _).mono ?_; rintro e w' ⟨rfl, hb⟩; obtain ⟨hc, hf⟩ := bcell hb; have hl := below_lts hb; (try simp only [World.size_drew] at hl); (try simp only [World.size_alloc] at hl); (try have hm := fun n (hn : n < _) => hl n (Nat.lt_add_right _ hn)); have hy : w.heap.size ≤ w'.heap.size := Nat.le_trans (by go_size) hb.size) | (go_at_call 33; refine (spec_l1Byte _ _).mono ?_; rintro e w' ⟨rfl, rfl⟩) | (go_at_call 19; refine (spec_l1In _ _ _ _).mono ?_; rintro e w' ⟨rfl, rfl⟩))
      go_ret
      refine ⟨rfl, ?_⟩
      repeat (first | with_reducible exact Below.refl _ _ | with_reducible refine below_via (by assumption) ?_ (by go_size) | with_reducible refine below_within (by assumption) ?_ (by go_size) (by omega) | with_reducible refine Below.alloc ?_ (by go_size) _ | with_reducible refine Below.setCell ?_ (by go_size) _ | with_reducible refine Below.drew ?_)
  · rw [ovB_3 h]
    go_enter Try.func67, Try.ntmps67
    go_wp2_with (first | (go_at_call 53; refine (spec_OrderLength _ _).mono ?_; rintro e w' ⟨rfl, hb⟩; obtain ⟨hc, hf⟩ := bcell hb; have hl := below_lts hb; (try simp only [World.size_drew] at hl); (try simp only [World.size_alloc] at hl); (try have hm := fun n (hn : n < _) => hl n (Nat.lt_add_right _ hn)); have hy : w.heap.size ≤ w'.heap.size := Nat.le_trans (by go_size) hb.size) | (go_at_call 33; refine (spec_l1Byte _ _).mono ?_; rintro e w' ⟨rfl, rfl⟩) | (go_at_call 19; refine (spec_l1In _ _ _ _).mono ?_; rintro e w' ⟨rfl, rfl⟩))
    go_ret
    refine ⟨rfl, ?_⟩
    repeat (first | with_reducible exact Below.refl _ _ | with_reducible refine below_via (by assumption) ?_ (by go_size) | with_reducible refine below_within (by assumption) ?_ (by go_size) (by omega) | with_reducible refine Below.alloc ?_ (by go_size) _ | with_reducible refine Below.setCell ?_ (by go_size) _ | with_reducible refine Below.drew ?_)
end Go.Proofs.Ytlnpmanghkeieaa
