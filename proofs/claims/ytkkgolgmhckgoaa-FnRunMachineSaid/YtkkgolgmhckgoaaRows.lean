/-
  No cell of these rows narrows 'for every input' (looked for: loops, veiled, ifaces, maps, wideKeys, modest, calm, conditions, laid).
  DERIVED. THE GIVEN ROWS OF THIS SEAT. 10 by the template 'for every input the law returns true; each argument reads behind the call as it read before'; 0 by the template 'total and deterministic' (their statements: YtkkgolgmhckgoaaTotals.lean).
  GIVEN WITH THE SEED: the statements are not yours to turn. If you find one false, say at which input.
  Laid BY PROGRAM, IN A SANDBOX (cutbox-rows.mjs): the forced cells as the released guide's own fill.sh prints them over the translation 14acdc072a683ac3… (all of the seat's roots in one cut). By AI agents, Wed Nov 11 2026. No macro, syntax, notation, axiom, sorry.
-/
import Derived.Test.YtkkgolgmhckgoaaChecked
import GoSem.Claim
import GoSem.ClaimJoined
import GoSem.ClaimMapViews
import Derived.JoinedTies
import Derived.KernelRfl
namespace Go.Proofs.Ytkkgolgmhckgoaa
/- THE CELL 'sum', in the pinned program and in every row, IS THE sha256 OF THE DUMP (.gsa) THAT YtkkgolgmhckgoaaProg.lean LOADS. Nothing in Lean hashes anything: it is a label: what it is worth is what the hold of that sum in a sandbox is worth. -/
noncomputable def Try.pinned : Pinned := { name := "ytkkgolgmhckgoaa", sum := "14acdc072a683ac3b7375bb15d666c554d4b8e6737a71057eba2845ebbf45131", checked := Try.checked }
namespace Rows
def none {H : Type} : Left H := { results := [], args := [] }

/-- 'laws.FnDecodeOrder': WHATEVER THE INPUT: true; the input reads as it did. -/
def fnDecodeOrderSpec : ChangeSpec := { name := "fnDecodeOrder", fn := fun _ => fun
  | [d] => { results := [.lit (.bool true)], args := [d] }
  | _ => none }
def fnDecodeOrderRow : OpenClaim := { program := "ytkkgolgmhckgoaa", sum := "14acdc072a683ac3b7375bb15d666c554d4b8e6737a71057eba2845ebbf45131", func := "loop.example/homeconsole/laws.FnDecodeOrder", spec := "fnDecodeOrder", apart := false }
def FnDecodeOrderSaid : Prop := fnDecodeOrderRow.holds Try.pinned (OpenSpec.ofChange fnDecodeOrderSpec)

/-- ITS FALSE NEIGHBOUR: 'it returns false'. Refute it at one input. -/
def fnDecodeOrderWrong : ChangeSpec := { name := "fnDecodeOrder", fn := fun _ => fun
  | [d] => { results := [.lit (.bool false)], args := [d] }
  | _ => none }
def FnDecodeOrderWrongFalsely : Prop := fnDecodeOrderRow.holds Try.pinned (OpenSpec.ofChange fnDecodeOrderWrong)

/-- 'laws.FnMachineValid': WHATEVER THE INPUT: true; the input reads as it did. -/
def fnMachineValidSpec : ChangeSpec := { name := "fnMachineValid", fn := fun _ => fun
  | [d] => { results := [.lit (.bool true)], args := [d] }
  | _ => none }
def fnMachineValidRow : OpenClaim := { program := "ytkkgolgmhckgoaa", sum := "14acdc072a683ac3b7375bb15d666c554d4b8e6737a71057eba2845ebbf45131", func := "loop.example/homeconsole/laws.FnMachineValid", spec := "fnMachineValid", apart := false }
def FnMachineValidSaid : Prop := fnMachineValidRow.holds Try.pinned (OpenSpec.ofChange fnMachineValidSpec)

/-- ITS FALSE NEIGHBOUR: 'it returns false'. Refute it at one input. -/
def fnMachineValidWrong : ChangeSpec := { name := "fnMachineValid", fn := fun _ => fun
  | [d] => { results := [.lit (.bool false)], args := [d] }
  | _ => none }
def FnMachineValidWrongFalsely : Prop := fnMachineValidRow.holds Try.pinned (OpenSpec.ofChange fnMachineValidWrong)

/-- 'laws.FnCopyFill': WHATEVER THE INPUT: true; the input reads as it did. -/
def fnCopyFillSpec : ChangeSpec := { name := "fnCopyFill", fn := fun _ => fun
  | [d] => { results := [.lit (.bool true)], args := [d] }
  | _ => none }
def fnCopyFillRow : OpenClaim := { program := "ytkkgolgmhckgoaa", sum := "14acdc072a683ac3b7375bb15d666c554d4b8e6737a71057eba2845ebbf45131", func := "loop.example/homeconsole/laws.FnCopyFill", spec := "fnCopyFill", apart := false }
def FnCopyFillSaid : Prop := fnCopyFillRow.holds Try.pinned (OpenSpec.ofChange fnCopyFillSpec)

/-- ITS FALSE NEIGHBOUR: 'it returns false'. Refute it at one input. -/
def fnCopyFillWrong : ChangeSpec := { name := "fnCopyFill", fn := fun _ => fun
  | [d] => { results := [.lit (.bool false)], args := [d] }
  | _ => none }
def FnCopyFillWrongFalsely : Prop := fnCopyFillRow.holds Try.pinned (OpenSpec.ofChange fnCopyFillWrong)

/-- 'laws.FnCopyMemory': WHATEVER THE INPUT: true; the input reads as it did. -/
def fnCopyMemorySpec : ChangeSpec := { name := "fnCopyMemory", fn := fun _ => fun
  | [d] => { results := [.lit (.bool true)], args := [d] }
  | _ => none }
def fnCopyMemoryRow : OpenClaim := { program := "ytkkgolgmhckgoaa", sum := "14acdc072a683ac3b7375bb15d666c554d4b8e6737a71057eba2845ebbf45131", func := "loop.example/homeconsole/laws.FnCopyMemory", spec := "fnCopyMemory", apart := false }
def FnCopyMemorySaid : Prop := fnCopyMemoryRow.holds Try.pinned (OpenSpec.ofChange fnCopyMemorySpec)

/-- ITS FALSE NEIGHBOUR: 'it returns false'. Refute it at one input. -/
def fnCopyMemoryWrong : ChangeSpec := { name := "fnCopyMemory", fn := fun _ => fun
  | [d] => { results := [.lit (.bool false)], args := [d] }
  | _ => none }
def FnCopyMemoryWrongFalsely : Prop := fnCopyMemoryRow.holds Try.pinned (OpenSpec.ofChange fnCopyMemoryWrong)

/-- 'laws.FnWriteMemory': WHATEVER THE INPUT: true; the input reads as it did. -/
def fnWriteMemorySpec : ChangeSpec := { name := "fnWriteMemory", fn := fun _ => fun
  | [d] => { results := [.lit (.bool true)], args := [d] }
  | _ => none }
def fnWriteMemoryRow : OpenClaim := { program := "ytkkgolgmhckgoaa", sum := "14acdc072a683ac3b7375bb15d666c554d4b8e6737a71057eba2845ebbf45131", func := "loop.example/homeconsole/laws.FnWriteMemory", spec := "fnWriteMemory", apart := false }
def FnWriteMemorySaid : Prop := fnWriteMemoryRow.holds Try.pinned (OpenSpec.ofChange fnWriteMemorySpec)

/-- ITS FALSE NEIGHBOUR: 'it returns false'. Refute it at one input. -/
def fnWriteMemoryWrong : ChangeSpec := { name := "fnWriteMemory", fn := fun _ => fun
  | [d] => { results := [.lit (.bool false)], args := [d] }
  | _ => none }
def FnWriteMemoryWrongFalsely : Prop := fnWriteMemoryRow.holds Try.pinned (OpenSpec.ofChange fnWriteMemoryWrong)

/-- 'laws.FnStepMachine': WHATEVER THE INPUT: true; the input reads as it did. -/
def fnStepMachineSpec : ChangeSpec := { name := "fnStepMachine", fn := fun _ => fun
  | [d] => { results := [.lit (.bool true)], args := [d] }
  | _ => none }
def fnStepMachineRow : OpenClaim := { program := "ytkkgolgmhckgoaa", sum := "14acdc072a683ac3b7375bb15d666c554d4b8e6737a71057eba2845ebbf45131", func := "loop.example/homeconsole/laws.FnStepMachine", spec := "fnStepMachine", apart := false }
def FnStepMachineSaid : Prop := fnStepMachineRow.holds Try.pinned (OpenSpec.ofChange fnStepMachineSpec)

/-- ITS FALSE NEIGHBOUR: 'it returns false'. Refute it at one input. -/
def fnStepMachineWrong : ChangeSpec := { name := "fnStepMachine", fn := fun _ => fun
  | [d] => { results := [.lit (.bool false)], args := [d] }
  | _ => none }
def FnStepMachineWrongFalsely : Prop := fnStepMachineRow.holds Try.pinned (OpenSpec.ofChange fnStepMachineWrong)

/-- 'laws.FnRunMachine': WHATEVER THE INPUT: true; the input reads as it did. -/
def fnRunMachineSpec : ChangeSpec := { name := "fnRunMachine", fn := fun _ => fun
  | [d] => { results := [.lit (.bool true)], args := [d] }
  | _ => none }
def fnRunMachineRow : OpenClaim := { program := "ytkkgolgmhckgoaa", sum := "14acdc072a683ac3b7375bb15d666c554d4b8e6737a71057eba2845ebbf45131", func := "loop.example/homeconsole/laws.FnRunMachine", spec := "fnRunMachine", apart := false }
def FnRunMachineSaid : Prop := fnRunMachineRow.holds Try.pinned (OpenSpec.ofChange fnRunMachineSpec)

/-- ITS FALSE NEIGHBOUR: 'it returns false'. Refute it at one input. -/
def fnRunMachineWrong : ChangeSpec := { name := "fnRunMachine", fn := fun _ => fun
  | [d] => { results := [.lit (.bool false)], args := [d] }
  | _ => none }
def FnRunMachineWrongFalsely : Prop := fnRunMachineRow.holds Try.pinned (OpenSpec.ofChange fnRunMachineWrong)

/-- 'laws.FnProgramWaits': WHATEVER THE INPUT: true; the input reads as it did. -/
def fnProgramWaitsSpec : ChangeSpec := { name := "fnProgramWaits", fn := fun _ => fun
  | [d] => { results := [.lit (.bool true)], args := [d] }
  | _ => none }
def fnProgramWaitsRow : OpenClaim := { program := "ytkkgolgmhckgoaa", sum := "14acdc072a683ac3b7375bb15d666c554d4b8e6737a71057eba2845ebbf45131", func := "loop.example/homeconsole/laws.FnProgramWaits", spec := "fnProgramWaits", apart := false }
def FnProgramWaitsSaid : Prop := fnProgramWaitsRow.holds Try.pinned (OpenSpec.ofChange fnProgramWaitsSpec)

/-- ITS FALSE NEIGHBOUR: 'it returns false'. Refute it at one input. -/
def fnProgramWaitsWrong : ChangeSpec := { name := "fnProgramWaits", fn := fun _ => fun
  | [d] => { results := [.lit (.bool false)], args := [d] }
  | _ => none }
def FnProgramWaitsWrongFalsely : Prop := fnProgramWaitsRow.holds Try.pinned (OpenSpec.ofChange fnProgramWaitsWrong)

/-- 'laws.FnRunUntil': WHATEVER THE INPUT: true; the input reads as it did. -/
def fnRunUntilSpec : ChangeSpec := { name := "fnRunUntil", fn := fun _ => fun
  | [d] => { results := [.lit (.bool true)], args := [d] }
  | _ => none }
def fnRunUntilRow : OpenClaim := { program := "ytkkgolgmhckgoaa", sum := "14acdc072a683ac3b7375bb15d666c554d4b8e6737a71057eba2845ebbf45131", func := "loop.example/homeconsole/laws.FnRunUntil", spec := "fnRunUntil", apart := false }
def FnRunUntilSaid : Prop := fnRunUntilRow.holds Try.pinned (OpenSpec.ofChange fnRunUntilSpec)

/-- ITS FALSE NEIGHBOUR: 'it returns false'. Refute it at one input. -/
def fnRunUntilWrong : ChangeSpec := { name := "fnRunUntil", fn := fun _ => fun
  | [d] => { results := [.lit (.bool false)], args := [d] }
  | _ => none }
def FnRunUntilWrongFalsely : Prop := fnRunUntilRow.holds Try.pinned (OpenSpec.ofChange fnRunUntilWrong)

/-- 'laws.FnExactRunMachine': WHATEVER THE INPUT: true; the input reads as it did. -/
def fnExactRunMachineSpec : ChangeSpec := { name := "fnExactRunMachine", fn := fun _ => fun
  | [d1, d2] => { results := [.lit (.bool true)], args := [d1, d2] }
  | _ => none }
def fnExactRunMachineRow : OpenClaim := { program := "ytkkgolgmhckgoaa", sum := "14acdc072a683ac3b7375bb15d666c554d4b8e6737a71057eba2845ebbf45131", func := "loop.example/homeconsole/laws.FnExactRunMachine", spec := "fnExactRunMachine", apart := false }
def FnExactRunMachineSaid : Prop := fnExactRunMachineRow.holds Try.pinned (OpenSpec.ofChange fnExactRunMachineSpec)

/-- ITS FALSE NEIGHBOUR: 'it returns false'. Refute it at one input. -/
def fnExactRunMachineWrong : ChangeSpec := { name := "fnExactRunMachine", fn := fun _ => fun
  | [d1, d2] => { results := [.lit (.bool false)], args := [d1, d2] }
  | _ => none }
def FnExactRunMachineWrongFalsely : Prop := fnExactRunMachineRow.holds Try.pinned (OpenSpec.ofChange fnExactRunMachineWrong)

/- THE SECOND FORM. 'bulk': how many values and letters a reading holds, each counted each time it is reached (what is shared counts as often as it is met; a slice's spare places count too). A statement '..UptoSaid' is the law's where the arguments, and the package variables that the reading takes, are together of bulk at most 1048576: NARROWER than '..Said'. Prove '..Said' where nothing that the law and all that it calls make is longer than what came in: it says more and counts as full. Else prove '..UptoSaid'. A law counts once. -/
mutual
def uptoBulk {H : Type} : DataW H → Nat
  | .lit (.string bytes) => bytes.length + 1
  | .lit _ => 1
  | .nil => 1
  | .ptr d => uptoBulk d + 1
  | .slice elems spare => uptoBulkAll elems + uptoBulkAll spare + 1
  | .agg parts => uptoBulkAll parts + 1
  | .iface _ d => uptoBulk d + 1
  | .map entries => uptoBulkEntries entries + 1
  | .held _ => 1
def uptoBulkAll {H : Type} : List (DataW H) → Nat
  | [] => 0
  | d :: r => uptoBulk d + uptoBulkAll r
def uptoBulkEntries {H : Type} : List (Lit × DataW H) → Nat
  | [] => 0
  | x :: r => uptoBulkEntry x + uptoBulkEntries r
def uptoBulkEntry {H : Type} : Lit × DataW H → Nat
  | (.string bytes, d) => bytes.length + uptoBulk d + 1
  | (_, d) => uptoBulk d + 1
 end
def uptoSmall : (H : Type) → List (DataW H) → Bool := fun _ ds => decide (uptoBulkAll ds ≤ 1048576)
def OpenSpec.upto (s : _root_.Go.ChangeSpec) : _root_.Go.OpenSpec := { _root_.Go.OpenSpec.ofChange s with cond := some uptoSmall }

/-- 'laws.FnDecodeOrder', WHERE WHAT IT READS IS OF BULK AT MOST 1048576: true; the input reads as it did. -/
def fnDecodeOrderUptoRow : OpenClaim := { program := "ytkkgolgmhckgoaa", sum := "14acdc072a683ac3b7375bb15d666c554d4b8e6737a71057eba2845ebbf45131", func := "loop.example/homeconsole/laws.FnDecodeOrder", spec := "fnDecodeOrder", apart := false, narrowed := true }
def FnDecodeOrderUptoSaid : Prop := fnDecodeOrderUptoRow.holds Try.pinned (OpenSpec.upto fnDecodeOrderSpec)

/-- 'laws.FnMachineValid', WHERE WHAT IT READS IS OF BULK AT MOST 1048576: true; the input reads as it did. -/
def fnMachineValidUptoRow : OpenClaim := { program := "ytkkgolgmhckgoaa", sum := "14acdc072a683ac3b7375bb15d666c554d4b8e6737a71057eba2845ebbf45131", func := "loop.example/homeconsole/laws.FnMachineValid", spec := "fnMachineValid", apart := false, narrowed := true }
def FnMachineValidUptoSaid : Prop := fnMachineValidUptoRow.holds Try.pinned (OpenSpec.upto fnMachineValidSpec)

/-- 'laws.FnCopyFill', WHERE WHAT IT READS IS OF BULK AT MOST 1048576: true; the input reads as it did. -/
def fnCopyFillUptoRow : OpenClaim := { program := "ytkkgolgmhckgoaa", sum := "14acdc072a683ac3b7375bb15d666c554d4b8e6737a71057eba2845ebbf45131", func := "loop.example/homeconsole/laws.FnCopyFill", spec := "fnCopyFill", apart := false, narrowed := true }
def FnCopyFillUptoSaid : Prop := fnCopyFillUptoRow.holds Try.pinned (OpenSpec.upto fnCopyFillSpec)

/-- 'laws.FnCopyMemory', WHERE WHAT IT READS IS OF BULK AT MOST 1048576: true; the input reads as it did. -/
def fnCopyMemoryUptoRow : OpenClaim := { program := "ytkkgolgmhckgoaa", sum := "14acdc072a683ac3b7375bb15d666c554d4b8e6737a71057eba2845ebbf45131", func := "loop.example/homeconsole/laws.FnCopyMemory", spec := "fnCopyMemory", apart := false, narrowed := true }
def FnCopyMemoryUptoSaid : Prop := fnCopyMemoryUptoRow.holds Try.pinned (OpenSpec.upto fnCopyMemorySpec)

/-- 'laws.FnWriteMemory', WHERE WHAT IT READS IS OF BULK AT MOST 1048576: true; the input reads as it did. -/
def fnWriteMemoryUptoRow : OpenClaim := { program := "ytkkgolgmhckgoaa", sum := "14acdc072a683ac3b7375bb15d666c554d4b8e6737a71057eba2845ebbf45131", func := "loop.example/homeconsole/laws.FnWriteMemory", spec := "fnWriteMemory", apart := false, narrowed := true }
def FnWriteMemoryUptoSaid : Prop := fnWriteMemoryUptoRow.holds Try.pinned (OpenSpec.upto fnWriteMemorySpec)

/-- 'laws.FnStepMachine', WHERE WHAT IT READS IS OF BULK AT MOST 1048576: true; the input reads as it did. -/
def fnStepMachineUptoRow : OpenClaim := { program := "ytkkgolgmhckgoaa", sum := "14acdc072a683ac3b7375bb15d666c554d4b8e6737a71057eba2845ebbf45131", func := "loop.example/homeconsole/laws.FnStepMachine", spec := "fnStepMachine", apart := false, narrowed := true }
def FnStepMachineUptoSaid : Prop := fnStepMachineUptoRow.holds Try.pinned (OpenSpec.upto fnStepMachineSpec)

/-- 'laws.FnRunMachine', WHERE WHAT IT READS IS OF BULK AT MOST 1048576: true; the input reads as it did. -/
def fnRunMachineUptoRow : OpenClaim := { program := "ytkkgolgmhckgoaa", sum := "14acdc072a683ac3b7375bb15d666c554d4b8e6737a71057eba2845ebbf45131", func := "loop.example/homeconsole/laws.FnRunMachine", spec := "fnRunMachine", apart := false, narrowed := true }
def FnRunMachineUptoSaid : Prop := fnRunMachineUptoRow.holds Try.pinned (OpenSpec.upto fnRunMachineSpec)

/-- 'laws.FnProgramWaits', WHERE WHAT IT READS IS OF BULK AT MOST 1048576: true; the input reads as it did. -/
def fnProgramWaitsUptoRow : OpenClaim := { program := "ytkkgolgmhckgoaa", sum := "14acdc072a683ac3b7375bb15d666c554d4b8e6737a71057eba2845ebbf45131", func := "loop.example/homeconsole/laws.FnProgramWaits", spec := "fnProgramWaits", apart := false, narrowed := true }
def FnProgramWaitsUptoSaid : Prop := fnProgramWaitsUptoRow.holds Try.pinned (OpenSpec.upto fnProgramWaitsSpec)

/-- 'laws.FnRunUntil', WHERE WHAT IT READS IS OF BULK AT MOST 1048576: true; the input reads as it did. -/
def fnRunUntilUptoRow : OpenClaim := { program := "ytkkgolgmhckgoaa", sum := "14acdc072a683ac3b7375bb15d666c554d4b8e6737a71057eba2845ebbf45131", func := "loop.example/homeconsole/laws.FnRunUntil", spec := "fnRunUntil", apart := false, narrowed := true }
def FnRunUntilUptoSaid : Prop := fnRunUntilUptoRow.holds Try.pinned (OpenSpec.upto fnRunUntilSpec)

/-- 'laws.FnExactRunMachine', WHERE WHAT IT READS IS OF BULK AT MOST 1048576: true; the input reads as it did. -/
def fnExactRunMachineUptoRow : OpenClaim := { program := "ytkkgolgmhckgoaa", sum := "14acdc072a683ac3b7375bb15d666c554d4b8e6737a71057eba2845ebbf45131", func := "loop.example/homeconsole/laws.FnExactRunMachine", spec := "fnExactRunMachine", apart := false, narrowed := true }
def FnExactRunMachineUptoSaid : Prop := fnExactRunMachineUptoRow.holds Try.pinned (OpenSpec.upto fnExactRunMachineSpec)

end Rows
end Go.Proofs.Ytkkgolgmhckgoaa
