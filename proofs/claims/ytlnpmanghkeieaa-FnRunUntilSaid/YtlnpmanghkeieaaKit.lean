/- Plain words that all texts of this seat share: ranges, bytes, the words on bytes and timers; the world behind a call. No condition. -/
import Derived.WalkKit
import Derived.WalkLawsBesides
import Derived.ProofKit
import Derived.Handy
import Derived.Lib.Hide
namespace Go.Proofs.Ytlnpmanghkeieaa
open Go.RowKit

def inR (n lo hi : Int) : Bool := decide (lo ≤ n) && decide (n ≤ hi)
def byteB (n : Int) : Bool := inR n 0 255
theorem inR_iff {n lo hi : Int} : inR n lo hi = true ↔ lo ≤ n ∧ n ≤ hi := by simp [inR]
theorem inR_false {n lo hi : Int} : inR n lo hi = false ↔ n < lo ∨ hi < n := by
  rw [← Bool.not_eq_true, inR_iff]; omega
theorem byteB_iff {n : Int} : byteB n = true ↔ 0 ≤ n ∧ n ≤ 255 := inR_iff
theorem byteB_false {n : Int} : byteB n = false ↔ n < 0 ∨ 255 < n := inR_false
def bit (b : Bool) : Int := if b then 1 else 0
theorem bit_bd (b : Bool) : 0 ≤ bit b ∧ bit b ≤ 1 := by cases b <;> simp [bit]
def sgn (a : Int) : Int := if byteB a then (if 128 ≤ a then a - 256 else a) else 0
theorem sgn_bd (a : Int) : -128 ≤ sgn a ∧ sgn a ≤ 127 := by
  unfold sgn
  by_cases h : byteB a = true
  · have := byteB_iff.1 h
    rw [if_pos h]; split <;> omega
  · rw [if_neg h]; omega

/-- Behind a call that makes memory: the old cells and marks read as before. -/
theorem bcell {W w1 : World} (hb : Below W.heap.size W w1) : (∀ b o, b < W.heap.size → w1.cell? ⟨b, o, none⟩ = W.cell? ⟨b, o, none⟩) ∧ (∀ b o, b < W.heap.size → w1.frozen? ⟨b, o, none⟩ = W.frozen? ⟨b, o, none⟩) :=
  ⟨fun b o h => hb.cell (p := ⟨b, o, none⟩) h, fun b o h => hb.frozen (p := ⟨b, o, none⟩) h⟩
theorem below_lts {X w' : World} (hb : Below X.heap.size X w') : ∀ n, n < X.heap.size → n < w'.heap.size := fun _ h => Nat.lt_of_lt_of_le h hb.size
theorem below_via {B : Nat} {w X w' : World} (hb : Below X.heap.size X w') (h : Below B w X) (hs : B ≤ X.heap.size) : Below B w w' := h.trans (hb.mono hs)
theorem ret_int {k : IntKind} {a b : Int} (h : a = b) : Ending.returned (.int k a) = .returned (.int k b) := by rw [h]
theorem ret_bool {a b : Bool} (h : a = b) : Ending.returned (.bool a) = .returned (.bool b) := by rw [h]
/-- Behind a call that writes to block rb alone (and makes memory): all other old blocks are as they were. -/
structure Keep (rb : Nat) (w w' : World) : Prop where
  os : w'.os = w.os
  tape : w'.tape = w.tape
  output : w'.output = w.output
  size : w.heap.size ≤ w'.heap.size
  block : ∀ k, k < w.heap.size → k ≠ rb → w'.heap[k]? = w.heap[k]?
theorem Keep.refl (rb : Nat) (w : World) : Keep rb w w := ⟨rfl, rfl, rfl, Nat.le_refl _, fun _ _ _ => rfl⟩
theorem Keep.trans {rb : Nat} {a b c : World} (h : Keep rb a b) (k : Keep rb b c) : Keep rb a c :=
  ⟨k.os.trans h.os, k.tape.trans h.tape, k.output.trans h.output, Nat.le_trans h.size k.size, fun i hi hn => (k.block i (Nat.lt_of_lt_of_le hi h.size) hn).trans (h.block i hi hn)⟩
theorem Keep.drew {rb : Nat} {a w : World} (h : Keep rb a w) : Keep rb a w.drew := ⟨h.os, h.tape, h.output, h.size, h.block⟩
theorem Keep.drewN {rb : Nat} {a w : World} (h : Keep rb a w) (n : Nat) : Keep rb a (w.drewN n) := ⟨h.os, h.tape, h.output, h.size, h.block⟩
theorem Keep.setCell {rb : Nat} {a w : World} (h : Keep rb a w) {p : Addr} (hp : p.block = rb) (v : Value) : Keep rb a (w.setCell p v) :=
  h.trans ⟨rfl, rfl, rfl, by simp [World.setCell], fun k _ hn => Below.heap_setCell _ _ _ _ (by omega)⟩
theorem Keep.setNew {rb : Nat} {a w : World} (h : Keep rb a w) {p : Addr} (hp : a.heap.size ≤ p.block) (v : Value) : Keep rb a (w.setCell p v) :=
  ⟨h.os, h.tape, h.output, by simpa [World.setCell] using h.size, fun k hk hn => (Below.heap_setCell _ _ _ _ (by omega)).trans (h.block k hk hn)⟩
theorem Keep.alloc {rb : Nat} {a w : World} (h : Keep rb a w) (o : Obj) : Keep rb a (w.alloc o) :=
  h.trans ⟨rfl, rfl, rfl, by simp, fun k hk _ => Below.heap_alloc _ _ _ hk⟩
theorem Keep.cells {rb : Nat} {w w' : World} (h : Keep rb w w') : (∀ b o, b < w.heap.size → b ≠ rb → w'.cell? ⟨b, o, none⟩ = w.cell? ⟨b, o, none⟩) ∧ (∀ b o, b < w.heap.size → b ≠ rb → w'.frozen? ⟨b, o, none⟩ = w.frozen? ⟨b, o, none⟩) :=
  ⟨fun b o hb hn => World.cell?_of_block (w := w) (a := ⟨b, o, none⟩) (h.block b hb hn), fun b o hb hn => World.frozen?_of_block (w := w) (a := ⟨b, o, none⟩) (h.block b hb hn)⟩
/-- Where the reader's block is new, nothing old has changed. -/
theorem Keep.below {rb : Nat} {W w w' : World} (h : Keep rb w w') (hb : Below W.heap.size W w) (hr : W.heap.size ≤ rb) : Below W.heap.size W w' :=
  ⟨h.os.trans hb.os, h.tape.trans hb.tape, h.output.trans hb.output, Nat.le_trans hb.size h.size, fun k hk => (h.block k (Nat.lt_of_lt_of_le hk hb.size) (by omega)).trans (hb.block k hk)⟩

theorem keep_set (rb i : Nat) (w : World) (v : Value) : Keep rb w (w.setCell ⟨rb, i, none⟩ v) := (Keep.refl rb w).setCell rfl v
theorem Keep.ofBelow {rb : Nat} {w w' : World} (hb : Below w.heap.size w w') : Keep rb w w' := ⟨hb.os, hb.tape, hb.output, hb.size, fun k hk _ => hb.block k hk⟩
end Go.Proofs.Ytlnpmanghkeieaa
