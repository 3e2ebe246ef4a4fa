/- The drawn inputs of the laws on bytes: whatever the code, the draw returns plain values and changes nothing that was there. No condition. -/
import Derived.Test.YtkkgolgmhckgoaaDraw
namespace Go.Proofs.Ytkkgolgmhckgoaa
open Go.RowKit

def Drawn (Q : Value → Prop) (w : World) (e : Ending) (w' : World) : Prop := ∃ v, e = .returned v ∧ Q v ∧ Below w.heap.size w w'
def TIIB (v : Value) : Prop := ∃ (a b : Int) (c : Bool), v = .tuple #[.int .i64 a, .int .i64 b, .bool c]
def TIB (v : Value) : Prop := ∃ (a : Int) (c : Bool), v = .tuple #[.int .i64 a, .bool c]
def TII (v : Value) : Prop := ∃ (a b : Int), v = .tuple #[.int .i64 a, .int .i64 b]
theorem laws_alive (w : World) : Calls Try.prog 16 #[] w fun e w' => e = .returned (.bool true) ∧ w = w' := by
  have hs : sgn 255 = -1 := by decide
  go_enter Try.func16, Try.ntmps16
  go_wp2_with (first | (go_at_call 60; refine (impl_SignedByte _ _).mono ?_; rintro e w' ⟨rfl, rfl⟩))
  go_ret
  exact ⟨rfl, rfl⟩
theorem laws_isByte (n : Int) (w : World) : Calls Try.prog 33 #[.int .i64 n] w fun e w' => e = .returned (.bool (byteB n)) ∧ w = w' := by
  by_cases h1 : 0 ≤ n
  all_goals
    go_enter Try.func33, Try.ntmps33
    go_wp2
    go_ret
    exact ⟨ret_bool (by simp [byteB, inR]; omega), rfl⟩
end Go.Proofs.Ytkkgolgmhckgoaa
