/- Slices of integers: what they hold, and the walks of the functions that compare, mark and hold them. No condition. -/
import Derived.Test.YtlnpmanghkeieaaOrd
import Derived.Test.YtlnpmanghkeieaaRead
import Derived.LoopTactic
import Derived.Deep.LoopGhost
import Derived.Deep.Draws
import Derived.Deep.QuietTactic
import Derived.BigQuiet
namespace Go.Proofs.Ytlnpmanghkeieaa
open Go.RowKit

/-- The slice value v holds the integers zs in w. -/
def Ints (w : World) (v : Value) (zs : List Int) : Prop :=
  ∃ (a : Option Addr) (cap : Nat), v = .slice a zs.length cap ∧ zs.length ≤ cap ∧ cap ≤ maxLen ∧ (zs = [] ∨ ∃ b off, a = some ⟨b, off, none⟩ ∧ ∀ i, i < zs.length → w.cell? ⟨b, off + i, none⟩ = some (.int .i64 (zs.getD i 0)))
/-- Behind a call that only reads, drawing an order here and there. -/
def Quiet (w w' : World) : Prop := ∃ n, w' = w.drewN n
theorem quiet_more (w : World) (m n : Nat) : Quiet w ((w.drewN m).drewN n) := ⟨m + n, by simp⟩
theorem eq_take {xs ys : List Int} {k : Nat} (h : xs.take k = ys.take k) (hk : k < xs.length) (hk' : k < ys.length) (e : xs.getD k 0 = ys.getD k 0) : xs.take (k + 1) = ys.take (k + 1) := by
  rw [List.take_succ_eq_append_getElem hk, List.take_succ_eq_append_getElem hk', h]
  simp [List.getD_eq_getElem?_getD, hk, hk'] at e
  rw [e]
theorem eq_not {xs ys : List Int} {k : Nat} (e : xs.getD k 0 ≠ ys.getD k 0) : (xs == ys) = false := by
  rw [beq_eq_false_iff_ne]
  intro h
  exact e (by rw [h])
set_option maxHeartbeats 1000000 in
theorem laws_sameInts {v u : Value} {xs ys : List Int} {w : World} (h : Ints w v xs) (g : Ints w u ys) :
    Calls Try.prog 23 #[v, u] w fun e w' => e = .returned (.bool (xs == ys)) ∧ Quiet w w' := by
  obtain ⟨a, ca, rfl, ha1, ha2, ha⟩ := h
  obtain ⟨b, cb, rfl, hb1, hb2, hb⟩ := g
  unfold maxLen at ha2 hb2
  by_cases hlen : xs.length = ys.length
  · rcases ha with rfl | ⟨b1, o1, rfl, hc1⟩
    · have hy : ys = [] := by simpa using hlen.symm
      subst hy
      go_enter Try.func23, Try.ntmps23
      go_wp2
      refine wp_loop_rounds 1 ?_
      rw [rounds_succ]
      go_wp2
      go_ret
      exact ⟨rfl, 0, rfl⟩
    rcases hb with rfl | ⟨b2, o2, rfl, hc2⟩
    · have hx : xs = [] := by simpa using hlen
      subst hx
      go_enter Try.func23, Try.ntmps23
      go_wp2
      refine wp_loop_rounds 1 ?_
      rw [rounds_succ]
      go_wp2
      go_ret
      exact ⟨rfl, 0, rfl⟩
    have C1 := Lib.hid hc1
    have C2 := Lib.hid hc2
    have hn : ((xs.length : Int) != (ys.length : Int)) = false := by simp; omega
    have HL := Lib.hid hlen
    clear hc1 hc2 hlen
    go_enter Try.func23, Try.ntmps23
    go_wp2
    go_loopw [5] (fun i wr => ∃ k : Nat, k ≤ xs.length ∧ i = .int .i64 k ∧ Hid (xs.take k = ys.take k) ∧ Quiet w wr)
      (fun i _ => xs.length - (intOf i).toNat)
    case atStart => exact ⟨0, Nat.zero_le _, rfl, rfl, 0, rfl⟩
    case round =>
      obtain ⟨k, hk, rfl, hT, m, rfl⟩ := hrel
      by_cases hlt : k < xs.length
      · have g1 := C1.out k hlt
        have g2 := C2.out k (by have := HL.out; omega)
        have hi1 : (k : Int) < (xs.length : Int) := by omega
        have hi2 : (k : Int) < (ys.length : Int) := by have := HL.out; omega
        have hT1 := fun e => eq_take hT.out hlt (by have := HL.out; omega) e
        have hT2 := fun e => eq_not (xs := xs) (ys := ys) (k := k) e
        have T1 := Lib.hid hT1
        have T2 := Lib.hid hT2
        clear hT1 hT2
        generalize xs.getD k 0 = x at *
        generalize ys.getD k 0 = y at *
        cases hxy : (x != y)
        · go_wp2
          go_quiet (fail)
          go_wp2
          go_roundw
          case rel => exact ⟨k + 1, by omega, by go_num, T1.out (by simpa using hxy), _, rfl⟩
          case measure => simp [intOf]; omega
        · go_wp2
          go_quiet (fail)
          go_wp2
          go_ret
          exact ⟨ret_bool (T2.out (by simpa using hxy)).symm, quiet_more _ _ _⟩
      · have hk1 : k = xs.length := by omega
        have hT1 : Hid ((xs == ys) = true) := by
          have := hT.out
          rw [hk1, List.take_length, HL.out, List.take_length] at this
          show (xs == ys) = true
          simp [this]
        clear hk1
        go_wp2
        go_ret
        exact ⟨ret_bool hT1.out.symm, _, rfl⟩
  · have hne : (xs == ys) = false := by rw [beq_eq_false_iff_ne]; intro e; exact hlen (by rw [e])
    have hn : ((xs.length : Int) != (ys.length : Int)) = true := by simp; omega
    have H := Lib.hid hne
    clear hne hlen ha hb
    go_enter Try.func23, Try.ntmps23
    go_wp2
    go_ret
    exact ⟨ret_bool H.out.symm, 0, rfl⟩

/-- .. in blocks from lo on, below hi, none of them frozen. -/
def Own (lo hi : Nat) (w : World) (v : Value) (zs : List Int) : Prop :=
  ∃ (a : Option Addr) (cap : Nat), v = .slice a zs.length cap ∧ zs.length ≤ cap ∧ cap ≤ maxLen ∧ (zs = [] ∨ ∃ b off, a = some ⟨b, off, none⟩ ∧ lo ≤ b ∧ b < hi ∧ ∀ i, i < zs.length → w.cell? ⟨b, off + i, none⟩ = some (.int .i64 (zs.getD i 0)) ∧ w.frozen? ⟨b, off + i, none⟩ = false)
theorem Own.ints {lo hi : Nat} {w : World} {v : Value} {zs : List Int} (h : Own lo hi w v zs) : Ints w v zs := by
  obtain ⟨a, cap, rfl, h1, h2, h3⟩ := h
  refine ⟨a, cap, rfl, h1, h2, ?_⟩
  rcases h3 with h0 | ⟨b, off, rfl, _, _, hc⟩
  · exact .inl h0
  · exact .inr ⟨b, off, rfl, fun i hi => (hc i hi).1⟩

/-- The marks from k on. -/
def marks (k : Int) (n : Nat) : List Int := (List.range n).map fun (i : Nat) => k + (i : Int)
theorem marks_len (k : Int) (n : Nat) : (marks k n).length = n := by simp [marks]
theorem marks_at (k : Int) (n i : Nat) (h : i < n) : (marks k n).getD i 0 = k + (i : Int) := by
  simp [marks, h]

/-- Behind a call that writes to blocks from lo on, below hi, alone (and makes memory). -/
structure Within (lo hi : Nat) (w w' : World) : Prop where
  os : w'.os = w.os
  tape : w'.tape = w.tape
  output : w'.output = w.output
  size : w.heap.size ≤ w'.heap.size
  block : ∀ k, k < w.heap.size → (k < lo ∨ hi ≤ k) → w'.heap[k]? = w.heap[k]?
theorem Within.refl (lo hi : Nat) (w : World) : Within lo hi w w := ⟨rfl, rfl, rfl, Nat.le_refl _, fun _ _ _ => rfl⟩
theorem Within.trans {lo hi : Nat} {a b c : World} (h : Within lo hi a b) (k : Within lo hi b c) : Within lo hi a c :=
  ⟨k.os.trans h.os, k.tape.trans h.tape, k.output.trans h.output, Nat.le_trans h.size k.size, fun i hi hn => (k.block i (Nat.lt_of_lt_of_le hi h.size) hn).trans (h.block i hi hn)⟩
theorem Within.ofKeep {lo hi b : Nat} {w w' : World} (h : Keep b w w') (h1 : lo ≤ b) (h2 : b < hi) : Within lo hi w w' := ⟨h.os, h.tape, h.output, h.size, fun k hk hn => h.block k hk (by omega)⟩
end Go.Proofs.Ytlnpmanghkeieaa
