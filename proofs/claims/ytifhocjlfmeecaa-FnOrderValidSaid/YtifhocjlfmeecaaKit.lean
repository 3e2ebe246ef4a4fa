/- Plain words that all texts of this seat share: ranges, bytes, the words on bytes and timers; the world behind a call. No condition. -/
import Derived.WalkKit
import Derived.WalkLawsBesides
import Derived.ProofKit
import Derived.Handy
import Derived.Lib.Hide
namespace Go.Proofs.Ytifhocjlfmeecaa
open Go.RowKit

def inR (n lo hi : Int) : Bool := decide (lo ≤ n) && decide (n ≤ hi)
def byteB (n : Int) : Bool := inR n 0 255
theorem inR_iff {n lo hi : Int} : inR n lo hi = true ↔ lo ≤ n ∧ n ≤ hi := by simp [inR]
theorem inR_false {n lo hi : Int} : inR n lo hi = false ↔ n < lo ∨ hi < n := by
  rw [← Bool.not_eq_true, inR_iff]; omega
theorem byteB_iff {n : Int} : byteB n = true ↔ 0 ≤ n ∧ n ≤ 255 := inR_iff
theorem byteB_false {n : Int} : byteB n = false ↔ n < 0 ∨ 255 < n := inR_false
def bit (b : Bool) : Int := if b then 1 else 0
theorem bit_bd (b : Bool) : 0 ≤ bit b ∧ bit b ≤ 1 := by cases b <;> simp [bit]
def sgn (a : Int) : Int := if byteB a then (if 128 ≤ a then a - 256 else a) else 0
theorem sgn_bd (a : Int) : -128 ≤ sgn a ∧ sgn a ≤ 127 := by
  unfold sgn
  by_cases h : byteB a = true
  · have := byteB_iff.1 h
    rw [if_pos h]; split <;> omega
  · rw [if_neg h]; omega

/-- Behind a call that makes memory: the old cells and marks read as before. -/
theorem bcell {W w1 : World} (hb : Below W.heap.size W w1) : (∀ b o, b < W.heap.size → w1.cell? ⟨b, o, none⟩ = W.cell? ⟨b, o, none⟩) ∧ (∀ b o, b < W.heap.size → w1.frozen? ⟨b, o, none⟩ = W.frozen? ⟨b, o, none⟩) :=
  ⟨fun b o h => hb.cell (p := ⟨b, o, none⟩) h, fun b o h => hb.frozen (p := ⟨b, o, none⟩) h⟩
theorem below_lts {X w' : World} (hb : Below X.heap.size X w') : ∀ n, n < X.heap.size → n < w'.heap.size := fun _ h => Nat.lt_of_lt_of_le h hb.size
theorem below_via {B : Nat} {w X w' : World} (hb : Below X.heap.size X w') (h : Below B w X) (hs : B ≤ X.heap.size) : Below B w w' := h.trans (hb.mono hs)
theorem ret_int {k : IntKind} {a b : Int} (h : a = b) : Ending.returned (.int k a) = .returned (.int k b) := by rw [h]
theorem ret_bool {a b : Bool} (h : a = b) : Ending.returned (.bool a) = .returned (.bool b) := by rw [h]
end Go.Proofs.Ytifhocjlfmeecaa
