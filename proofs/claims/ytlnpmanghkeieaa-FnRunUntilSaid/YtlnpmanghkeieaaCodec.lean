/- The walks of the functions that write instructions as bytes and read them: each returns what its plain word says, and changes nothing that was there. No condition. -/
import Derived.Test.YtlnpmanghkeieaaInts
import Derived.Deep.RegionHeld3
import Derived.Deep.DeepCutAuto
import Derived.IntWalk
namespace Go.Proofs.Ytlnpmanghkeieaa
open Go.RowKit

/-- The bytes of an instruction. -/
def obytes (op arg : Int) : List Int := if ovB op arg then [op, arg % 256, arg / 256].take (olen op).toNat else []
/-- A slice of the call's own, which holds zs. -/
def MadeI (zs : List Int) (w : World) (e : Ending) (w' : World) : Prop := ∃ v, e = .returned v ∧ Own w.heap.size w'.heap.size w' v zs ∧ Below w.heap.size w w'
theorem obytes_no {op arg : Int} (h : ovB op arg = false) : obytes op arg = [] := by simp [obytes, h]
theorem obytes_1 {op arg : Int} (h : ovB op arg = true) (h1 : olen op = 1) : obytes op arg = [op] := by simp [obytes, h, h1]
theorem obytes_2 {op arg : Int} (h : ovB op arg = true) (h1 : olen op = 2) : obytes op arg = [op, arg % 256] := by simp [obytes, h, h1]
theorem obytes_3 {op arg : Int} (h : ovB op arg = true) (h1 : olen op = 3) : obytes op arg = [op, arg % 256, arg / 256] := by simp [obytes, h, h1]
theorem obytes_len (o a : Int) : (obytes o a).length ≤ 3 := by
  unfold obytes
  split
  · rw [List.length_take]; simp; omega
  · simp
theorem ovB_bd {op arg : Int} (h : ovB op arg = true) : 0 ≤ arg ∧ arg ≤ 1023 := by
  rcases olen_vals op with h1 | h1 | h1 | h1
  · rw [ovB_0 h1] at h; simp at h
  · rw [ovB_1 h1] at h; have : arg = 0 := by simpa using h
    omega
  · rw [ovB_2 h1] at h; have := byteB_iff.1 h; omega
  · rw [ovB_3 h1] at h; exact inR_iff.1 h
theorem carry_cell {W w' : World} {p : Addr} {v : Value} (hb : Below W.heap.size W w') (h : W.cell? p = some v) : w'.cell? p = some v := (hb.cell (block_lt_of_cell (a := p) h)).trans h
/-- Two facts on cells stay behind a new block. -/
theorem keep2 {W : World} {p q : Addr} {a b : Value} (o : Obj) (h : W.cell? p = some a ∧ W.cell? q = some b) : (W.alloc o).cell? p = some a ∧ (W.alloc o).cell? q = some b :=
  ⟨(World.cell?_alloc_lt _ _ _ (block_lt_of_cell h.1)).trans h.1, (World.cell?_alloc_lt _ _ _ (block_lt_of_cell h.2)).trans h.2⟩
theorem keep2d {W : World} {p q : Addr} {a b : Value} (h : W.cell? p = some a ∧ W.cell? q = some b) : W.drew.cell? p = some a ∧ W.drew.cell? q = some b := h
theorem keep2u {W : World} {p q : Addr} {a b : Value} (h : W.drew.cell? p = some a ∧ W.drew.cell? q = some b) : W.cell? p = some a ∧ W.cell? q = some b := h
theorem obytes_pos {o a : Int} (h : ovB o a = true) : 1 ≤ (obytes o a).length := by
  rcases olen_vals o with k | k | k | k
  · rw [ovB_0 k] at h; cases h
  · rw [obytes_1 h k]; simp
  · rw [obytes_2 h k]; simp
  · rw [obytes_3 h k]; simp
theorem madeI_nil {w w' : World} {a : Option Addr} {cap : Nat} (hc : cap ≤ maxLen) (hb : Below w.heap.size w w') : MadeI [] w (.returned (.slice a 0 cap)) w' := ⟨_, rfl, ⟨a, cap, rfl, Nat.zero_le _, hc, .inl rfl⟩, hb⟩
theorem madeI_lit {w W : World} {g n cap : Nat} {zs : List Int} (hz : n = zs.length) (h1 : n ≤ cap) (h2 : cap ≤ maxLen) (hg : w.heap.size ≤ g) (hb : Below w.heap.size w W)
    (hc : ∀ i, i < n → W.cell? ⟨g, i, none⟩ = some (.int .i64 (zs.getD i 0)) ∧ W.frozen? ⟨g, i, none⟩ = false) : MadeI zs w (.returned (.slice (some ⟨g, 0, none⟩) n cap)) W := by
  subst hz
  refine ⟨_, rfl, ⟨_, cap, rfl, h1, h2, ?_⟩, hb⟩
  by_cases h : zs = []
  · exact .inl h
  · have hl : 0 < zs.length := List.length_pos_iff.2 h
    exact .inr ⟨g, 0, rfl, hg, block_lt_of_cell (hc 0 hl).1, fun i hi => by rw [Nat.zero_add]; exact hc i hi⟩
theorem rem256 {x : Int} (h : 0 ≤ x) : x.tmod 256 = x % 256 := Int.tmod_eq_emod_of_nonneg h
theorem quo256 {x : Int} (h : 0 ≤ x) (h1 : x ≤ 1023) : IntKind.i64.wrap (x.tdiv 256) = x / 256 := by
  rw [Int.tdiv_eq_ediv_of_nonneg h]; exact IntWalk.i64_in _ (by omega)
set_option maxHeartbeats 1000000 in
theorem spec_OrderBytes (op arg : Int) (w : World) : Calls Try.prog 61 #[.agg #[.int .i64 op, .int .i64 arg]] w (MadeI (obytes op arg) w) := by
  cases hv : ovB op arg
  · rw [obytes_no hv]
    go_enter Try.func61, Try.ntmps61
    go_wp2_with (first | (go_at_call 67; refine (spec_OrderValid _ _ _).mono ?_; rintro e w' ⟨rfl, hb⟩; obtain ⟨hc, hf⟩ := bcell hb; have hl := below_lts hb; (try simp only [World.size_drew] at hl); (try simp only [World.size_alloc] at hl); (try have hm := fun n (hn : n < _) => hl n (Nat.lt_add_right _ hn)); have hy : w.heap.size ≤ w'.heap.size := Nat.le_trans (by go_size) hb.size))
    go_ret
    refine madeI_nil (by decide) ?_
    repeat (first | with_reducible exact Below.refl _ _ | with_reducible refine below_via (by assumption) ?_ (by go_size) | with_reducible refine below_within (by assumption) ?_ (by go_size) (by omega) | with_reducible refine Below.alloc ?_ (by go_size) _ | with_reducible refine Below.setCell ?_ (by go_size) _ | with_reducible refine Below.drew ?_)
  · obtain ⟨a0, a1⟩ := ovB_bd hv
    have hop : inR op 0 15 = true := by
      cases h : inR op 0 15
      · rw [ovB_0 (olen_no h)] at hv; cases hv
      · rfl
    rcases olen_vals op with h | h | h | h
    · rw [ovB_0 h] at hv; cases hv
    · rw [obytes_1 hv h]
      go_enter Try.func61, Try.ntmps61
      go_wp2_with (first | (go_at_call 67; refine (spec_OrderValid _ _ _).mono ?_; rintro e w' ⟨rfl, hb⟩; obtain ⟨hc, hf⟩ := bcell hb; have hl := below_lts hb; (try simp only [World.size_drew] at hl); (try simp only [World.size_alloc] at hl); (try have hm := fun n (hn : n < _) => hl n (Nat.lt_add_right _ hn)); have hy : w.heap.size ≤ w'.heap.size := Nat.le_trans (by go_size) hb.size))
      have hS : w'.cell? ⟨w.heap.size, 0, none⟩ = some (.int .i64 op) ∧ w'.cell? ⟨w.heap.size, 1, none⟩ = some (.int .i64 arg) := ⟨by rw [hc _ _ (by simp)]; simp [go_sem], by rw [hc _ _ (by simp)]; simp [go_sem]⟩
      go_region_held3 (fun W => W.cell? ⟨w.heap.size, 0, none⟩ = some (.int .i64 op) ∧ W.cell? ⟨w.heap.size, 1, none⟩ = some (.int .i64 arg)) (first | ((try dsimp only); (repeat (first | with_reducible exact hS | with_reducible refine keep2d ?_ | with_reducible refine keep2 _ ?_)); done) | go_keep)
        (first | (go_at_call 53; refine (spec_OrderLength_at _ _ hop).mono ?_; rintro e w2 ⟨rfl, rfl⟩))
      all_goals
        go_wp2_with fail
        go_ret
        refine madeI_lit rfl (by decide) (by decide) (by omega) ?_ (fun i hi => ?_)
        · repeat (first | with_reducible exact Below.refl _ _ | with_reducible refine below_via (by assumption) ?_ (by go_size) | with_reducible refine below_within (by assumption) ?_ (by go_size) (by omega) | with_reducible refine Below.alloc ?_ (by go_size) _ | with_reducible refine Below.setCell ?_ (by go_size) _ | with_reducible refine Below.drew ?_)
        · obtain rfl : i = 0 := by omega
          exact ⟨by simp [go_sem], by simp [go_sem]⟩
    · rw [obytes_2 hv h]
      go_enter Try.func61, Try.ntmps61
      go_wp2_with (first | (go_at_call 67; refine (spec_OrderValid _ _ _).mono ?_; rintro e w' ⟨rfl, hb⟩; obtain ⟨hc, hf⟩ := bcell hb; have hl := below_lts hb; (try simp only [World.size_drew] at hl); (try simp only [World.size_alloc] at hl); (try have hm := fun n (hn : n < _) => hl n (Nat.lt_add_right _ hn)); have hy : w.heap.size ≤ w'.heap.size := Nat.le_trans (by go_size) hb.size))
      have hS : w'.cell? ⟨w.heap.size, 0, none⟩ = some (.int .i64 op) ∧ w'.cell? ⟨w.heap.size, 1, none⟩ = some (.int .i64 arg) := ⟨by rw [hc _ _ (by simp)]; simp [go_sem], by rw [hc _ _ (by simp)]; simp [go_sem]⟩
      go_region_held3 (fun W => W.cell? ⟨w.heap.size, 0, none⟩ = some (.int .i64 op) ∧ W.cell? ⟨w.heap.size, 1, none⟩ = some (.int .i64 arg)) (first | ((try dsimp only); (repeat (first | with_reducible exact hS | with_reducible refine keep2d ?_ | with_reducible refine keep2 _ ?_)); done) | go_keep)
        (first | (go_at_call 53; refine (spec_OrderLength_at _ _ hop).mono ?_; rintro e w2 ⟨rfl, rfl⟩))
      all_goals
        go_wp2_with fail
        go_ret
        refine madeI_lit rfl (by decide) (by decide) (by omega) ?_ (fun i hi => ?_)
        · repeat (first | with_reducible exact Below.refl _ _ | with_reducible refine below_via (by assumption) ?_ (by go_size) | with_reducible refine below_within (by assumption) ?_ (by go_size) (by omega) | with_reducible refine Below.alloc ?_ (by go_size) _ | with_reducible refine Below.setCell ?_ (by go_size) _ | with_reducible refine Below.drew ?_)
        · rcases (show i = 0 ∨ i = 1 by omega) with rfl | rfl
          · exact ⟨by simp [go_sem], by simp [go_sem]⟩
          · exact ⟨by simp [go_sem, rem256 a0], by simp [go_sem]⟩
    · rw [obytes_3 hv h]
      go_enter Try.func61, Try.ntmps61
      go_wp2_with (first | (go_at_call 67; refine (spec_OrderValid _ _ _).mono ?_; rintro e w' ⟨rfl, hb⟩; obtain ⟨hc, hf⟩ := bcell hb; have hl := below_lts hb; (try simp only [World.size_drew] at hl); (try simp only [World.size_alloc] at hl); (try have hm := fun n (hn : n < _) => hl n (Nat.lt_add_right _ hn)); have hy : w.heap.size ≤ w'.heap.size := Nat.le_trans (by go_size) hb.size))
      have hS : w'.cell? ⟨w.heap.size, 0, none⟩ = some (.int .i64 op) ∧ w'.cell? ⟨w.heap.size, 1, none⟩ = some (.int .i64 arg) := ⟨by rw [hc _ _ (by simp)]; simp [go_sem], by rw [hc _ _ (by simp)]; simp [go_sem]⟩
      go_region_held3 (fun W => W.cell? ⟨w.heap.size, 0, none⟩ = some (.int .i64 op) ∧ W.cell? ⟨w.heap.size, 1, none⟩ = some (.int .i64 arg)) (first | ((try dsimp only); (repeat (first | with_reducible exact hS | with_reducible refine keep2d ?_ | with_reducible refine keep2 _ ?_)); done) | go_keep)
        (first | (go_at_call 53; refine (spec_OrderLength_at _ _ hop).mono ?_; rintro e w2 ⟨rfl, rfl⟩))
      all_goals
        go_wp2_with fail
        go_ret
        refine madeI_lit rfl (by decide) (by decide) (by omega) ?_ (fun i hi => ?_)
        · repeat (first | with_reducible exact Below.refl _ _ | with_reducible refine below_via (by assumption) ?_ (by go_size) | with_reducible refine below_within (by assumption) ?_ (by go_size) (by omega) | with_reducible refine Below.alloc ?_ (by go_size) _ | with_reducible refine Below.setCell ?_ (by go_size) _ | with_reducible refine Below.drew ?_)
        · rcases (show i = 0 ∨ i = 1 ∨ i = 2 by omega) with rfl | rfl | rfl
          · exact ⟨by simp [go_sem], by simp [go_sem]⟩
          · exact ⟨by simp [go_sem, rem256 a0], by simp [go_sem]⟩
          · exact ⟨by simp [go_sem, quo256 a0 a1], by simp [go_sem]⟩
end Go.Proofs.Ytlnpmanghkeieaa
