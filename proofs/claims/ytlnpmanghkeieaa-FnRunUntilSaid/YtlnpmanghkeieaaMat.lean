/- Slices of slices of integers: what they hold, whose they are. Plain words; no condition. -/
import Derived.Test.YtlnpmanghkeieaaCopy
namespace Go.Proofs.Ytlnpmanghkeieaa
open Go.RowKit

/-- The slice value v holds the rows zss in w. -/
def Mat (w : World) (v : Value) (zss : List (List Int)) : Prop :=
  ∃ (a : Option Addr) (cap : Nat), v = .slice a zss.length cap ∧ zss.length ≤ cap ∧ cap ≤ maxLen ∧
    (zss = [] ∨ ∃ b off, a = some ⟨b, off, none⟩ ∧ ∀ i, i < zss.length → ∃ u, w.cell? ⟨b, off + i, none⟩ = some u ∧ Ints w u (zss.getD i []))
/-- .. of the call's own, in blocks from lo on, below hi: the rows in blocks of their own. -/
structure MatAt (lo hi : Nat) (w : World) (zss : List (List Int)) (b off : Nat) (us : Nat → Value) (g : Nat → Nat) : Prop where
  hb1 : lo ≤ b
  hb2 : b < hi
  cell : ∀ i, i < zss.length → w.cell? ⟨b, off + i, none⟩ = some (us i)
  fz : ∀ i, i < zss.length → w.frozen? ⟨b, off + i, none⟩ = false
  row : ∀ i, i < zss.length → Own (g i) (g i + 1) w (us i) (zss.getD i [])
  at_ : ∀ i, i < zss.length → zss.getD i [] ≠ [] → lo ≤ g i ∧ g i < hi ∧ g i ≠ b
  apart : ∀ i j, i < zss.length → j < zss.length → i ≠ j → zss.getD i [] ≠ [] → zss.getD j [] ≠ [] → g i ≠ g j
def OwnMat (lo hi : Nat) (w : World) (v : Value) (zss : List (List Int)) : Prop :=
  ∃ (a : Option Addr) (cap : Nat), v = .slice a zss.length cap ∧ zss.length ≤ cap ∧ cap ≤ maxLen ∧ (zss = [] ∨ ∃ b off us g, a = some ⟨b, off, none⟩ ∧ MatAt lo hi w zss b off us g)
section
variable {lo hi : Nat} {w w' : World} {v : Value} {zss : List (List Int)}
theorem Mat.below (h : Mat w v zss) (hb : Below w.heap.size w w') : Mat w' v zss := by
  obtain ⟨a, cap, rfl, h1, h2, h3⟩ := h
  refine ⟨a, cap, rfl, h1, h2, ?_⟩
  rcases h3 with h0 | ⟨b, off, rfl, hc⟩
  · exact .inl h0
  · refine .inr ⟨b, off, rfl, fun i hi => ?_⟩
    obtain ⟨u, hu, ho⟩ := hc i hi
    exact ⟨u, (hb.cell (p := ⟨b, off + i, none⟩) (block_lt_of_cell hu)).trans hu, ho.below hb⟩
theorem OwnMat.mat (h : OwnMat lo hi w v zss) : Mat w v zss := by
  obtain ⟨a, cap, rfl, h1, h2, h3⟩ := h
  refine ⟨a, cap, rfl, h1, h2, ?_⟩
  rcases h3 with h0 | ⟨b, off, us, g, rfl, r⟩
  · exact .inl h0
  · exact .inr ⟨b, off, rfl, fun i hi => ⟨us i, r.cell i hi, (r.row i hi).ints⟩⟩
theorem own_nil {l h : Nat} {w w' : World} {u : Value} (o : Own l h w u []) (l' h' : Nat) : Own l' h' w' u [] := by
  obtain ⟨a, cap, rfl, h1, h2, _⟩ := o
  exact ⟨a, cap, rfl, h1, h2, .inl rfl⟩
theorem MatAt.agree {b off : Nat} {us : Nat → Value} {g : Nat → Nat} (r : MatAt lo hi w zss b off us g) (a : Agree lo hi w w') : MatAt lo hi w' zss b off us g where
  hb1 := r.hb1
  hb2 := r.hb2
  cell i hi' := (a.cell (p := ⟨b, off + i, none⟩) r.hb1 r.hb2).trans (r.cell i hi')
  fz i hi' := (a.frozen (p := ⟨b, off + i, none⟩) r.hb1 r.hb2).trans (r.fz i hi')
  row i hi' := by
    by_cases h0 : zss.getD i [] = []
    · have := r.row i hi'
      rw [h0] at this ⊢
      exact own_nil this _ _
    · obtain ⟨k1, k2, _⟩ := r.at_ i hi' h0
      exact (r.row i hi').agree (a.sub k1 (by omega))
  at_ := r.at_
  apart := r.apart
theorem OwnMat.agree (h : OwnMat lo hi w v zss) (a : Agree lo hi w w') : OwnMat lo hi w' v zss := by
  obtain ⟨ad, cap, rfl, h1, h2, h3⟩ := h
  refine ⟨ad, cap, rfl, h1, h2, ?_⟩
  rcases h3 with h0 | ⟨b, off, us, g, rfl, r⟩
  · exact .inl h0
  · exact .inr ⟨b, off, us, g, rfl, r.agree a⟩
theorem OwnMat.wide {lo' hi' : Nat} (h : OwnMat lo hi w v zss) (k1 : lo' ≤ lo) (k2 : hi ≤ hi') : OwnMat lo' hi' w v zss := by
  obtain ⟨ad, cap, rfl, h1, h2, h3⟩ := h
  refine ⟨ad, cap, rfl, h1, h2, ?_⟩
  rcases h3 with h0 | ⟨b, off, us, g, rfl, r⟩
  · exact .inl h0
  · exact .inr ⟨b, off, us, g, rfl, by have := r.hb1; omega, by have := r.hb2; omega, r.cell, r.fz, r.row, fun i hi' h0 => by have := r.at_ i hi' h0; omega, r.apart⟩
/-- What a walk over rows asks: the cell of each row. -/
theorem mat_cells (h : Mat w v zss) : ∃ (a : Option Addr) (cap : Nat), v = .slice a zss.length cap ∧ zss.length ≤ cap ∧ (cap : Int) ≤ 9223372036854775807 ∧
    (∀ i, i < zss.length → ∃ b off u, a = some ⟨b, off, none⟩ ∧ b < w.heap.size ∧ w.cell? ⟨b, off + i, none⟩ = some u ∧ Ints w u (zss.getD i [])) := by
  obtain ⟨a, cap, rfl, h1, h2, h3⟩ := h
  unfold maxLen at h2
  refine ⟨a, cap, rfl, h1, by omega, fun i hi => ?_⟩
  rcases h3 with h0 | ⟨b, off, rfl, hc⟩
  · rw [h0] at hi; simp at hi
  · obtain ⟨u, hu, ho⟩ := hc i hi
    exact ⟨b, off, u, rfl, block_lt_of_cell hu, hu, ho⟩
theorem Ints.drewN {u : Value} {zs : List Int} (h : Ints w u zs) (n : Nat) : Ints (w.drewN n) u zs := h.below ⟨rfl, rfl, rfl, Nat.le_refl _, fun _ _ => rfl⟩
end
theorem quiet_addQ {P : Program} {f : FuncId} {args : Array Value} {w : World} {a n : Nat} {v : Value} (h : Calls P f args (w.drewN (a + n)) fun e w' => e = .returned v ∧ Quiet (w.drewN (a + n)) w') :
    Calls P f args (w.drewN (a + n)) fun e w'' => e = .returned v ∧ ∃ m, w'' = w.drewN (a + m) :=
  h.mono fun _ _ ⟨he, m, hm⟩ => ⟨he, n + m, by rw [hm, World.drewN_drewN, Nat.add_assoc]⟩
theorem eq_take_rows {xs ys : List (List Int)} {k : Nat} (h : xs.take k = ys.take k) (hk : k < xs.length) (hk' : k < ys.length) (e : xs.getD k [] = ys.getD k []) : xs.take (k + 1) = ys.take (k + 1) := by
  rw [List.take_succ_eq_append_getElem hk, List.take_succ_eq_append_getElem hk', h]
  simp [List.getD_eq_getElem?_getD, hk, hk'] at e
  rw [e]
set_option maxHeartbeats 1000000 in
theorem laws_sameRows {v u : Value} {xs ys : List (List Int)} {w : World} (h : Mat w v xs) (g : Mat w u ys) :
    Calls Try.prog 37 #[v, u] w fun e w' => e = .returned (.bool (xs == ys)) ∧ Quiet w w' := by
  obtain ⟨a, ca, rfl, ha1, ha2, ha⟩ := mat_cells h
  obtain ⟨b, cb, rfl, hb1, hb2, hb⟩ := mat_cells g
  clear h g
  by_cases hlen : xs.length = ys.length
  · obtain ⟨n, hn⟩ : ∃ n, n = xs.length := ⟨_, rfl⟩
    have HN := Lib.hid hn
    have HL := Lib.hid hlen
    have A := Lib.hid ha
    have B := Lib.hid hb
    rw [← hn] at ha1 ⊢
    rw [← hlen, ← hn] at hb1 ⊢
    clear ha hb hn hlen
    have hn1 : (n : Int) ≤ 9223372036854775807 := by omega
    have hnn : ((n : Int) != (n : Int)) = false := by simp
    go_enter Try.func37, Try.ntmps37
    go_wp2
    go_loopw [5] (fun i wr => ∃ k : Nat, k ≤ n ∧ i = .int .i64 k ∧ Hid (xs.take k = ys.take k) ∧ Quiet w wr)
      (fun i _ => n - (intOf i).toNat)
    case atStart => exact ⟨0, Nat.zero_le _, rfl, rfl, 0, rfl⟩
    case round =>
      obtain ⟨k, hk, rfl, hT, m, rfl⟩ := hrel
      by_cases hlt : k < n
      · obtain ⟨b1, o1, u1, rfl, hl1, hc1, hi1⟩ := A.out k (by have := HN.out; omega)
        obtain ⟨b2, o2, u2, rfl, hl2, hc2, hi2⟩ := B.out k (by have := HN.out; have := HL.out; omega)
        have hki : (k : Int) < (n : Int) := by omega
        have T1 : Hid (xs.getD k [] = ys.getD k [] → xs.take (k + 1) = ys.take (k + 1)) := fun e => eq_take_rows hT.out (by have := HN.out; omega) (by have := HN.out; have := HL.out; omega) e
        have T2 : Hid (xs.getD k [] ≠ ys.getD k [] → (xs == ys) = false) := fun e => by
          rw [beq_eq_false_iff_ne]; intro h; exact e (by rw [h])
        generalize xs.getD k [] = x at *
        generalize ys.getD k [] = y at *
        have I1 := Lib.hid hi1
        have I2 := Lib.hid hi2
        clear hi1 hi2
        go_wp2_with fail
        go_quiet ((go_at_call 23; exact quiet_addQ (laws_sameInts (I1.out.drewN _) (I2.out.drewN _))))
        cases hxy : (x == y)
        · go_wp2_with fail
          go_ret
          exact ⟨ret_bool (T2.out (by simpa using hxy)).symm, quiet_more _ _ _⟩
        · go_wp2_with fail
          go_roundw
          case rel => exact ⟨k + 1, by omega, by go_num, T1.out (by simpa using hxy), _, by first | rfl | simp⟩
          case measure => simp [intOf]; omega
      · have hki : ¬ (k : Int) < (n : Int) := by omega
        have hk1 : k = n := by omega
        have hT1 : Hid ((xs == ys) = true) := by
          have := hT.out
          rw [hk1, HN.out, List.take_length, HL.out, List.take_length] at this
          show (xs == ys) = true
          simp [this]
        clear hk1
        go_wp2
        go_ret
        exact ⟨ret_bool hT1.out.symm, _, rfl⟩
  · have hne : (xs == ys) = false := by rw [beq_eq_false_iff_ne]; intro e; exact hlen (by rw [e])
    have hn : ((xs.length : Int) != (ys.length : Int)) = true := by simp; omega
    have H := Lib.hid hne
    clear hne hlen ha hb
    go_enter Try.func37, Try.ntmps37
    go_wp2
    go_ret
    exact ⟨ret_bool H.out.symm, 0, rfl⟩

/-! marks over rows, one after the other -/
def sumLen (zss : List (List Int)) : Nat := (zss.map List.length).sum
/-- The rows, marked from k on. -/
def markRows : Int → List (List Int) → List (List Int)
  | _, [] => []
  | k, zs :: r => marks k zs.length :: markRows (k + zs.length) r
theorem markRows_len (k : Int) (zss : List (List Int)) : (markRows k zss).length = zss.length := by
  induction zss generalizing k with
  | nil => rfl
  | cons z r ih => simp [markRows, ih]
theorem markRows_sum (k : Int) (zss : List (List Int)) : sumLen (markRows k zss) = sumLen zss := by
  unfold sumLen
  induction zss generalizing k with
  | nil => rfl
  | cons z r ih => simp [markRows, ih, marks_len]
theorem markRows_at (k : Int) (zss : List (List Int)) (i : Nat) (h : i < zss.length) : (markRows k zss).getD i [] = marks (k + sumLen (zss.take i)) (zss.getD i []).length := by
  induction zss generalizing k i with
  | nil => simp at h
  | cons z r ih =>
    cases i with
    | zero => simp [markRows, sumLen]
    | succ i =>
      have h' : i < r.length := by simpa using h
      have := ih (k + z.length) i h'
      simp only [markRows, List.getD_cons_succ, List.take_succ_cons]
      rw [this]
      congr 1
      simp [sumLen]
      omega
theorem sumLen_append (a b : List (List Int)) : sumLen (a ++ b) = sumLen a + sumLen b := by unfold sumLen; rw [List.map_append, List.sum_append]
theorem sumLen_take_succ (zss : List (List Int)) (i : Nat) (h : i < zss.length) : sumLen (zss.take (i + 1)) = sumLen (zss.take i) + (zss.getD i []).length := by
  rw [List.take_succ_eq_append_getElem h, sumLen_append]
  congr 1
  simp [sumLen, List.getD_eq_getElem?_getD, h]
theorem sumLen_take_le (zss : List (List Int)) (i : Nat) : sumLen (zss.take i) ≤ sumLen zss := by
  have := sumLen_append (zss.take i) (zss.drop i)
  rw [List.take_append_drop] at this
  omega
theorem sumLen_row (zss : List (List Int)) (i : Nat) (h : i < zss.length) : sumLen (zss.take i) + (zss.getD i []).length ≤ sumLen zss := by
  rw [← sumLen_take_succ zss i h]; exact sumLen_take_le _ _
end Go.Proofs.Ytlnpmanghkeieaa
