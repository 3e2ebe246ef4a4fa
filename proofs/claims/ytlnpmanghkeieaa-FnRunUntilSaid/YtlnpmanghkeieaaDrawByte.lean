/- The drawn inputs of the laws on bytes: whatever the code, the draw returns plain values and changes nothing that was there. No condition. -/
import Derived.Test.YtlnpmanghkeieaaDraw
namespace Go.Proofs.Ytlnpmanghkeieaa
open Go.RowKit

def Drawn (Q : Value → Prop) (w : World) (e : Ending) (w' : World) : Prop := ∃ v, e = .returned v ∧ Q v ∧ Below w.heap.size w w'
def TIIB (v : Value) : Prop := ∃ (a b : Int) (c : Bool), v = .tuple #[.int .i64 a, .int .i64 b, .bool c]
def TIB (v : Value) : Prop := ∃ (a : Int) (c : Bool), v = .tuple #[.int .i64 a, .bool c]
def TII (v : Value) : Prop := ∃ (a b : Int), v = .tuple #[.int .i64 a, .int .i64 b]
theorem laws_alive (w : World) : Calls Try.prog 8 #[] w fun e w' => e = .returned (.bool true) ∧ w = w' := by
  have hs : sgn 255 = -1 := by decide
  go_enter Try.func8, Try.ntmps8
  go_wp2_with (first | (go_at_call 24; refine (impl_SignedByte _ _).mono ?_; rintro e w' ⟨rfl, rfl⟩))
  go_ret
  exact ⟨rfl, rfl⟩
end Go.Proofs.Ytlnpmanghkeieaa
