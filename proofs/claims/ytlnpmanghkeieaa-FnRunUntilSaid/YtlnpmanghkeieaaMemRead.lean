/- The walks of ReadMemory. No condition. -/
import Derived.Test.YtlnpmanghkeieaaPoke
namespace Go.Proofs.Ytlnpmanghkeieaa
open Go.RowKit
set_option linter.unusedVariables false

theorem calls_eqv {P : Program} {f : FuncId} {args : Array Value} {w : World} {b b' : Bool} {R : World → Prop} (h : Calls P f args w fun e w' => e = .returned (.bool b) ∧ R w') (hb : b = b') : Calls P f args w fun e w' => e = .returned (.bool b') ∧ R w' := hb ▸ h
theorem readV_no {ram : List Int} {rom : List (List Int)} {bank p : Int} (h : (memB ram rom bank && inR p 0 1023) = false) : readV ram rom bank p = 0 := by simp [readV, h]
theorem readV_yes {ram : List Int} {rom : List (List Int)} {bank p : Int} (h : memB ram rom bank = true) (h1 : inR p 0 1023 = true) : readV ram rom bank p = peekL ram rom bank p := by simp [readV, h, h1]
end Go.Proofs.Ytlnpmanghkeieaa
