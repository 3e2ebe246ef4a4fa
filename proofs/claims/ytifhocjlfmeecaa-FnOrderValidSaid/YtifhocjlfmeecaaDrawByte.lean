/- The drawn inputs of the laws on bytes: whatever the code, the draw returns plain values and changes nothing that was there. No condition. -/
import Derived.Test.YtifhocjlfmeecaaDraw
namespace Go.Proofs.Ytifhocjlfmeecaa
open Go.RowKit

def Drawn (Q : Value → Prop) (w : World) (e : Ending) (w' : World) : Prop := ∃ v, e = .returned v ∧ Q v ∧ Below w.heap.size w w'
def TIIB (v : Value) : Prop := ∃ (a b : Int) (c : Bool), v = .tuple #[.int .i64 a, .int .i64 b, .bool c]
def TIB (v : Value) : Prop := ∃ (a : Int) (c : Bool), v = .tuple #[.int .i64 a, .bool c]
def TII (v : Value) : Prop := ∃ (a b : Int), v = .tuple #[.int .i64 a, .int .i64 b]
theorem draw_AddBytes {v : Value} {w : World} (h : IsBytes w v) : Calls Try.prog 47 #[v] w (Drawn TIIB w) := by
  have H := Lib.hid h
  clear h
  go_enter Try.func47, Try.ntmps47
  go_wp2_with fail
  refine (l20Open H.out).mono ?_
  rintro e w0 ⟨rb, rfl, hrb, hR0, hB0⟩
  go_wp2_with fail
  refine (l20Byte _ hR0 (by omega)).mono ?_
  rintro e w1 ⟨v, rfl, ⟨x1, rfl⟩, hR1, hK1⟩
  go_wp2_with fail
  refine (l20Byte _ hR1 (by omega)).mono ?_
  rintro e w2 ⟨v, rfl, ⟨x2, rfl⟩, hR2, hK2⟩
  go_wp2_with fail
  refine (pick _ hR2 (by omega)).mono ?_
  rintro e w3 ⟨v, rfl, ⟨x3, rfl, y3, z3⟩, hR3, hK3⟩
  go_wp2_with fail
  go_ret3
  exact ⟨_, rfl, ⟨_, _, _, rfl⟩, (hK1.trans (hK2.trans hK3)).below hB0 hrb⟩
theorem draw_SubBytes {v : Value} {w : World} (h : IsBytes w v) : Calls Try.prog 50 #[v] w (Drawn TIIB w) := by
  have H := Lib.hid h
  clear h
  go_enter Try.func50, Try.ntmps50
  go_wp2_with fail
  refine (draw_AddBytes H.out).mono ?_
  rintro e w0 ⟨v, rfl, ⟨a, b, c, rfl⟩, hB0⟩
  go_wp2_with fail
  go_ret3
  exact ⟨_, rfl, ⟨_, _, _, rfl⟩, hB0⟩
theorem draw_SignedByte {v : Value} {w : World} (h : IsBytes w v) : Calls Try.prog 28 #[v] w (Drawn AnyInt w) := by
  have H := Lib.hid h
  clear h
  go_enter Try.func28, Try.ntmps28
  go_wp2_with fail
  refine (l20Open H.out).mono ?_
  rintro e w0 ⟨rb, rfl, hrb, hR0, hB0⟩
  go_wp2_with fail
  refine (l20Byte _ hR0 (by omega)).mono ?_
  rintro e w1 ⟨v, rfl, ⟨x1, rfl⟩, hR1, hK1⟩
  go_wp2_with fail
  go_ret
  exact ⟨_, rfl, ⟨_, rfl⟩, hK1.below hB0 hrb⟩
theorem draw_CountOnes {v : Value} {w : World} (h : IsBytes w v) : Calls Try.prog 32 #[v] w (Drawn AnyInt w) := by
  have H := Lib.hid h
  clear h
  go_enter Try.func32, Try.ntmps32
  go_wp2_with fail
  refine (l20Open H.out).mono ?_
  rintro e w0 ⟨rb, rfl, hrb, hR0, hB0⟩
  go_wp2_with fail
  refine (l20Byte _ hR0 (by omega)).mono ?_
  rintro e w1 ⟨v, rfl, ⟨x1, rfl⟩, hR1, hK1⟩
  go_wp2_with fail
  go_ret
  exact ⟨_, rfl, ⟨_, rfl⟩, hK1.below hB0 hrb⟩
theorem draw_RotateLeft {v : Value} {w : World} (h : IsBytes w v) : Calls Try.prog 36 #[v] w (Drawn TIB w) := by
  have H := Lib.hid h
  clear h
  go_enter Try.func36, Try.ntmps36
  go_wp2_with fail
  refine (l20Open H.out).mono ?_
  rintro e w0 ⟨rb, rfl, hrb, hR0, hB0⟩
  go_wp2_with fail
  refine (l20Byte _ hR0 (by omega)).mono ?_
  rintro e w1 ⟨v, rfl, ⟨x1, rfl⟩, hR1, hK1⟩
  go_wp2_with fail
  refine (pick _ hR1 (by omega)).mono ?_
  rintro e w2 ⟨v, rfl, ⟨x2, rfl, y2, z2⟩, hR2, hK2⟩
  go_wp2_with fail
  go_ret2
  exact ⟨_, rfl, ⟨_, _, rfl⟩, (hK1.trans hK2).below hB0 hrb⟩
theorem draw_RotateRight {v : Value} {w : World} (h : IsBytes w v) : Calls Try.prog 56 #[v] w (Drawn TIB w) := by
  have H := Lib.hid h
  clear h
  go_enter Try.func56, Try.ntmps56
  go_wp2_with fail
  refine (draw_RotateLeft H.out).mono ?_
  rintro e w0 ⟨v, rfl, ⟨a, c, rfl⟩, hB0⟩
  go_wp2_with fail
  go_ret2
  exact ⟨_, rfl, ⟨_, _, rfl⟩, hB0⟩
theorem draw_NewlyPressed {v : Value} {w : World} (h : IsBytes w v) : Calls Try.prog 35 #[v] w (Drawn TII w) := by
  have H := Lib.hid h
  clear h
  go_enter Try.func35, Try.ntmps35
  go_wp2_with fail
  refine (l20Open H.out).mono ?_
  rintro e w0 ⟨rb, rfl, hrb, hR0, hB0⟩
  go_wp2_with fail
  refine (l20Byte _ hR0 (by omega)).mono ?_
  rintro e w1 ⟨v, rfl, ⟨x1, rfl⟩, hR1, hK1⟩
  go_wp2_with fail
  refine (l20Byte _ hR1 (by omega)).mono ?_
  rintro e w2 ⟨v, rfl, ⟨x2, rfl⟩, hR2, hK2⟩
  go_wp2_with fail
  go_ret2
  exact ⟨_, rfl, ⟨_, _, rfl⟩, (hK1.trans hK2).below hB0 hrb⟩
theorem draw_OrderLength {v : Value} {w : World} (h : IsBytes w v) : Calls Try.prog 21 #[v] w (Drawn AnyInt w) := by
  have H := Lib.hid h
  clear h
  go_enter Try.func21, Try.ntmps21
  go_wp2_with fail
  refine (l20Open H.out).mono ?_
  rintro e w0 ⟨rb, rfl, hrb, hR0, hB0⟩
  go_wp2_with fail
  refine (pick _ hR0 (by omega)).mono ?_
  rintro e w1 ⟨v, rfl, ⟨x1, rfl, y1, z1⟩, hR1, hK1⟩
  go_wp2_with fail
  go_ret
  exact ⟨_, rfl, ⟨_, rfl⟩, hK1.below hB0 hrb⟩
theorem laws_alive (w : World) : Calls Try.prog 24 #[] w fun e w' => e = .returned (.bool true) ∧ w = w' := by
  have hs : sgn 255 = -1 := by decide
  go_enter Try.func24, Try.ntmps24
  go_wp2_with (first | (go_at_call 29; refine (impl_SignedByte _ _).mono ?_; rintro e w' ⟨rfl, rfl⟩))
  go_ret
  exact ⟨rfl, rfl⟩
theorem laws_isByte (n : Int) (w : World) : Calls Try.prog 31 #[.int .i64 n] w fun e w' => e = .returned (.bool (byteB n)) ∧ w = w' := by
  by_cases h1 : 0 ≤ n
  all_goals
    go_enter Try.func31, Try.ntmps31
    go_wp2
    go_ret
    exact ⟨ret_bool (by simp [byteB, inR]; omega), rfl⟩
end Go.Proofs.Ytifhocjlfmeecaa
