/-
  No cell of these rows narrows 'for every input' (looked for: loops, veiled, ifaces, maps, wideKeys, modest, calm, conditions, laid).
  DERIVED. THE GIVEN ROWS OF THIS SEAT. 15 by the template 'for every input the law returns true; each argument reads behind the call as it read before'; 0 by the template 'total and deterministic' (their statements: YtkddgcdlhamafaaTotals.lean).
  GIVEN WITH THE SEED: the statements are not yours to turn. If you find one false, say at which input.
  Laid BY PROGRAM, IN A SANDBOX (cutbox-rows.mjs): the forced cells as the released guide's own fill.sh prints them over the translation 2a9e5d76cf4dba73… (all of the seat's roots in one cut). By AI agents, Wed Nov 11 2026. No macro, syntax, notation, axiom, sorry.
-/
import Derived.Test.YtkddgcdlhamafaaChecked
import GoSem.Claim
import GoSem.ClaimJoined
import GoSem.ClaimMapViews
import Derived.JoinedTies
import Derived.KernelRfl
namespace Go.Proofs.Ytkddgcdlhamafaa
/- THE CELL 'sum', in the pinned program and in every row, IS THE sha256 OF THE DUMP (.gsa) THAT YtkddgcdlhamafaaProg.lean LOADS. Nothing in Lean hashes anything: it is a label: what it is worth is what the hold of that sum in a sandbox is worth. -/
noncomputable def Try.pinned : Pinned := { name := "ytkddgcdlhamafaa", sum := "2a9e5d76cf4dba736bbd9029ebc7990cf2d14ff89805b97b8c5335ab12dc9bee", checked := Try.checked }
namespace Rows
def none {H : Type} : Left H := { results := [], args := [] }

/-- 'laws.FnTimerValid': WHATEVER THE INPUT: true; the input reads as it did. -/
def fnTimerValidSpec : ChangeSpec := { name := "fnTimerValid", fn := fun _ => fun
  | [d] => { results := [.lit (.bool true)], args := [d] }
  | _ => none }
def fnTimerValidRow : OpenClaim := { program := "ytkddgcdlhamafaa", sum := "2a9e5d76cf4dba736bbd9029ebc7990cf2d14ff89805b97b8c5335ab12dc9bee", func := "loop.example/homeconsole/laws.FnTimerValid", spec := "fnTimerValid", apart := false }
def FnTimerValidSaid : Prop := fnTimerValidRow.holds Try.pinned (OpenSpec.ofChange fnTimerValidSpec)

/-- ITS FALSE NEIGHBOUR: 'it returns false'. Refute it at one input. -/
def fnTimerValidWrong : ChangeSpec := { name := "fnTimerValid", fn := fun _ => fun
  | [d] => { results := [.lit (.bool false)], args := [d] }
  | _ => none }
def FnTimerValidWrongFalsely : Prop := fnTimerValidRow.holds Try.pinned (OpenSpec.ofChange fnTimerValidWrong)

/-- 'laws.FnNextFire': WHATEVER THE INPUT: true; the input reads as it did. -/
def fnNextFireSpec : ChangeSpec := { name := "fnNextFire", fn := fun _ => fun
  | [d] => { results := [.lit (.bool true)], args := [d] }
  | _ => none }
def fnNextFireRow : OpenClaim := { program := "ytkddgcdlhamafaa", sum := "2a9e5d76cf4dba736bbd9029ebc7990cf2d14ff89805b97b8c5335ab12dc9bee", func := "loop.example/homeconsole/laws.FnNextFire", spec := "fnNextFire", apart := false }
def FnNextFireSaid : Prop := fnNextFireRow.holds Try.pinned (OpenSpec.ofChange fnNextFireSpec)

/-- ITS FALSE NEIGHBOUR: 'it returns false'. Refute it at one input. -/
def fnNextFireWrong : ChangeSpec := { name := "fnNextFire", fn := fun _ => fun
  | [d] => { results := [.lit (.bool false)], args := [d] }
  | _ => none }
def FnNextFireWrongFalsely : Prop := fnNextFireRow.holds Try.pinned (OpenSpec.ofChange fnNextFireWrong)

/-- 'laws.FnTickTimer': WHATEVER THE INPUT: true; the input reads as it did. -/
def fnTickTimerSpec : ChangeSpec := { name := "fnTickTimer", fn := fun _ => fun
  | [d] => { results := [.lit (.bool true)], args := [d] }
  | _ => none }
def fnTickTimerRow : OpenClaim := { program := "ytkddgcdlhamafaa", sum := "2a9e5d76cf4dba736bbd9029ebc7990cf2d14ff89805b97b8c5335ab12dc9bee", func := "loop.example/homeconsole/laws.FnTickTimer", spec := "fnTickTimer", apart := false }
def FnTickTimerSaid : Prop := fnTickTimerRow.holds Try.pinned (OpenSpec.ofChange fnTickTimerSpec)

/-- ITS FALSE NEIGHBOUR: 'it returns false'. Refute it at one input. -/
def fnTickTimerWrong : ChangeSpec := { name := "fnTickTimer", fn := fun _ => fun
  | [d] => { results := [.lit (.bool false)], args := [d] }
  | _ => none }
def FnTickTimerWrongFalsely : Prop := fnTickTimerRow.holds Try.pinned (OpenSpec.ofChange fnTickTimerWrong)

/-- 'laws.FnOrderUnique': WHATEVER THE INPUT: true; the input reads as it did. -/
def fnOrderUniqueSpec : ChangeSpec := { name := "fnOrderUnique", fn := fun _ => fun
  | [d1, d2] => { results := [.lit (.bool true)], args := [d1, d2] }
  | _ => none }
def fnOrderUniqueRow : OpenClaim := { program := "ytkddgcdlhamafaa", sum := "2a9e5d76cf4dba736bbd9029ebc7990cf2d14ff89805b97b8c5335ab12dc9bee", func := "loop.example/homeconsole/laws.FnOrderUnique", spec := "fnOrderUnique", apart := false }
def FnOrderUniqueSaid : Prop := fnOrderUniqueRow.holds Try.pinned (OpenSpec.ofChange fnOrderUniqueSpec)

/-- ITS FALSE NEIGHBOUR: 'it returns false'. Refute it at one input. -/
def fnOrderUniqueWrong : ChangeSpec := { name := "fnOrderUnique", fn := fun _ => fun
  | [d1, d2] => { results := [.lit (.bool false)], args := [d1, d2] }
  | _ => none }
def FnOrderUniqueWrongFalsely : Prop := fnOrderUniqueRow.holds Try.pinned (OpenSpec.ofChange fnOrderUniqueWrong)

/-- 'laws.FnOrderBytes': WHATEVER THE INPUT: true; the input reads as it did. -/
def fnOrderBytesSpec : ChangeSpec := { name := "fnOrderBytes", fn := fun _ => fun
  | [d1, d2] => { results := [.lit (.bool true)], args := [d1, d2] }
  | _ => none }
def fnOrderBytesRow : OpenClaim := { program := "ytkddgcdlhamafaa", sum := "2a9e5d76cf4dba736bbd9029ebc7990cf2d14ff89805b97b8c5335ab12dc9bee", func := "loop.example/homeconsole/laws.FnOrderBytes", spec := "fnOrderBytes", apart := false }
def FnOrderBytesSaid : Prop := fnOrderBytesRow.holds Try.pinned (OpenSpec.ofChange fnOrderBytesSpec)

/-- ITS FALSE NEIGHBOUR: 'it returns false'. Refute it at one input. -/
def fnOrderBytesWrong : ChangeSpec := { name := "fnOrderBytes", fn := fun _ => fun
  | [d1, d2] => { results := [.lit (.bool false)], args := [d1, d2] }
  | _ => none }
def FnOrderBytesWrongFalsely : Prop := fnOrderBytesRow.holds Try.pinned (OpenSpec.ofChange fnOrderBytesWrong)

/-- 'laws.FnDecodeOrder': WHATEVER THE INPUT: true; the input reads as it did. -/
def fnDecodeOrderSpec : ChangeSpec := { name := "fnDecodeOrder", fn := fun _ => fun
  | [d] => { results := [.lit (.bool true)], args := [d] }
  | _ => none }
def fnDecodeOrderRow : OpenClaim := { program := "ytkddgcdlhamafaa", sum := "2a9e5d76cf4dba736bbd9029ebc7990cf2d14ff89805b97b8c5335ab12dc9bee", func := "loop.example/homeconsole/laws.FnDecodeOrder", spec := "fnDecodeOrder", apart := false }
def FnDecodeOrderSaid : Prop := fnDecodeOrderRow.holds Try.pinned (OpenSpec.ofChange fnDecodeOrderSpec)

/-- ITS FALSE NEIGHBOUR: 'it returns false'. Refute it at one input. -/
def fnDecodeOrderWrong : ChangeSpec := { name := "fnDecodeOrder", fn := fun _ => fun
  | [d] => { results := [.lit (.bool false)], args := [d] }
  | _ => none }
def FnDecodeOrderWrongFalsely : Prop := fnDecodeOrderRow.holds Try.pinned (OpenSpec.ofChange fnDecodeOrderWrong)

/-- 'laws.FnExactOrderBytes': WHATEVER THE INPUT: true; the input reads as it did. -/
def fnExactOrderBytesSpec : ChangeSpec := { name := "fnExactOrderBytes", fn := fun _ => fun
  | [d] => { results := [.lit (.bool true)], args := [d] }
  | _ => none }
def fnExactOrderBytesRow : OpenClaim := { program := "ytkddgcdlhamafaa", sum := "2a9e5d76cf4dba736bbd9029ebc7990cf2d14ff89805b97b8c5335ab12dc9bee", func := "loop.example/homeconsole/laws.FnExactOrderBytes", spec := "fnExactOrderBytes", apart := false }
def FnExactOrderBytesSaid : Prop := fnExactOrderBytesRow.holds Try.pinned (OpenSpec.ofChange fnExactOrderBytesSpec)

/-- ITS FALSE NEIGHBOUR: 'it returns false'. Refute it at one input. -/
def fnExactOrderBytesWrong : ChangeSpec := { name := "fnExactOrderBytes", fn := fun _ => fun
  | [d] => { results := [.lit (.bool false)], args := [d] }
  | _ => none }
def FnExactOrderBytesWrongFalsely : Prop := fnExactOrderBytesRow.holds Try.pinned (OpenSpec.ofChange fnExactOrderBytesWrong)

/-- 'laws.FnExactDecodeOrder': WHATEVER THE INPUT: true; the input reads as it did. -/
def fnExactDecodeOrderSpec : ChangeSpec := { name := "fnExactDecodeOrder", fn := fun _ => fun
  | [d1, d2] => { results := [.lit (.bool true)], args := [d1, d2] }
  | _ => none }
def fnExactDecodeOrderRow : OpenClaim := { program := "ytkddgcdlhamafaa", sum := "2a9e5d76cf4dba736bbd9029ebc7990cf2d14ff89805b97b8c5335ab12dc9bee", func := "loop.example/homeconsole/laws.FnExactDecodeOrder", spec := "fnExactDecodeOrder", apart := false }
def FnExactDecodeOrderSaid : Prop := fnExactDecodeOrderRow.holds Try.pinned (OpenSpec.ofChange fnExactDecodeOrderSpec)

/-- ITS FALSE NEIGHBOUR: 'it returns false'. Refute it at one input. -/
def fnExactDecodeOrderWrong : ChangeSpec := { name := "fnExactDecodeOrder", fn := fun _ => fun
  | [d1, d2] => { results := [.lit (.bool false)], args := [d1, d2] }
  | _ => none }
def FnExactDecodeOrderWrongFalsely : Prop := fnExactDecodeOrderRow.holds Try.pinned (OpenSpec.ofChange fnExactDecodeOrderWrong)

/-- 'laws.FnExactMemoryValid': WHATEVER THE INPUT: true; the input reads as it did. -/
def fnExactMemoryValidSpec : ChangeSpec := { name := "fnExactMemoryValid", fn := fun _ => fun
  | [d] => { results := [.lit (.bool true)], args := [d] }
  | _ => none }
def fnExactMemoryValidRow : OpenClaim := { program := "ytkddgcdlhamafaa", sum := "2a9e5d76cf4dba736bbd9029ebc7990cf2d14ff89805b97b8c5335ab12dc9bee", func := "loop.example/homeconsole/laws.FnExactMemoryValid", spec := "fnExactMemoryValid", apart := false }
def FnExactMemoryValidSaid : Prop := fnExactMemoryValidRow.holds Try.pinned (OpenSpec.ofChange fnExactMemoryValidSpec)

/-- ITS FALSE NEIGHBOUR: 'it returns false'. Refute it at one input. -/
def fnExactMemoryValidWrong : ChangeSpec := { name := "fnExactMemoryValid", fn := fun _ => fun
  | [d] => { results := [.lit (.bool false)], args := [d] }
  | _ => none }
def FnExactMemoryValidWrongFalsely : Prop := fnExactMemoryValidRow.holds Try.pinned (OpenSpec.ofChange fnExactMemoryValidWrong)

/-- 'laws.FnExactReadMemory': WHATEVER THE INPUT: true; the input reads as it did. -/
def fnExactReadMemorySpec : ChangeSpec := { name := "fnExactReadMemory", fn := fun _ => fun
  | [d1, d2] => { results := [.lit (.bool true)], args := [d1, d2] }
  | _ => none }
def fnExactReadMemoryRow : OpenClaim := { program := "ytkddgcdlhamafaa", sum := "2a9e5d76cf4dba736bbd9029ebc7990cf2d14ff89805b97b8c5335ab12dc9bee", func := "loop.example/homeconsole/laws.FnExactReadMemory", spec := "fnExactReadMemory", apart := false }
def FnExactReadMemorySaid : Prop := fnExactReadMemoryRow.holds Try.pinned (OpenSpec.ofChange fnExactReadMemorySpec)

/-- ITS FALSE NEIGHBOUR: 'it returns false'. Refute it at one input. -/
def fnExactReadMemoryWrong : ChangeSpec := { name := "fnExactReadMemory", fn := fun _ => fun
  | [d1, d2] => { results := [.lit (.bool false)], args := [d1, d2] }
  | _ => none }
def FnExactReadMemoryWrongFalsely : Prop := fnExactReadMemoryRow.holds Try.pinned (OpenSpec.ofChange fnExactReadMemoryWrong)

/-- 'laws.FnExactNewMemory': WHATEVER THE INPUT: true; the input reads as it did. -/
def fnExactNewMemorySpec : ChangeSpec := { name := "fnExactNewMemory", fn := fun _ => fun
  | [d] => { results := [.lit (.bool true)], args := [d] }
  | _ => none }
def fnExactNewMemoryRow : OpenClaim := { program := "ytkddgcdlhamafaa", sum := "2a9e5d76cf4dba736bbd9029ebc7990cf2d14ff89805b97b8c5335ab12dc9bee", func := "loop.example/homeconsole/laws.FnExactNewMemory", spec := "fnExactNewMemory", apart := false }
def FnExactNewMemorySaid : Prop := fnExactNewMemoryRow.holds Try.pinned (OpenSpec.ofChange fnExactNewMemorySpec)

/-- ITS FALSE NEIGHBOUR: 'it returns false'. Refute it at one input. -/
def fnExactNewMemoryWrong : ChangeSpec := { name := "fnExactNewMemory", fn := fun _ => fun
  | [d] => { results := [.lit (.bool false)], args := [d] }
  | _ => none }
def FnExactNewMemoryWrongFalsely : Prop := fnExactNewMemoryRow.holds Try.pinned (OpenSpec.ofChange fnExactNewMemoryWrong)

/-- 'laws.FnExactMachineValid': WHATEVER THE INPUT: true; the input reads as it did. -/
def fnExactMachineValidSpec : ChangeSpec := { name := "fnExactMachineValid", fn := fun _ => fun
  | [d] => { results := [.lit (.bool true)], args := [d] }
  | _ => none }
def fnExactMachineValidRow : OpenClaim := { program := "ytkddgcdlhamafaa", sum := "2a9e5d76cf4dba736bbd9029ebc7990cf2d14ff89805b97b8c5335ab12dc9bee", func := "loop.example/homeconsole/laws.FnExactMachineValid", spec := "fnExactMachineValid", apart := false }
def FnExactMachineValidSaid : Prop := fnExactMachineValidRow.holds Try.pinned (OpenSpec.ofChange fnExactMachineValidSpec)

/-- ITS FALSE NEIGHBOUR: 'it returns false'. Refute it at one input. -/
def fnExactMachineValidWrong : ChangeSpec := { name := "fnExactMachineValid", fn := fun _ => fun
  | [d] => { results := [.lit (.bool false)], args := [d] }
  | _ => none }
def FnExactMachineValidWrongFalsely : Prop := fnExactMachineValidRow.holds Try.pinned (OpenSpec.ofChange fnExactMachineValidWrong)

/-- 'laws.FnExactWriteMemory': WHATEVER THE INPUT: true; the input reads as it did. -/
def fnExactWriteMemorySpec : ChangeSpec := { name := "fnExactWriteMemory", fn := fun _ => fun
  | [d1, d2, d3] => { results := [.lit (.bool true)], args := [d1, d2, d3] }
  | _ => none }
def fnExactWriteMemoryRow : OpenClaim := { program := "ytkddgcdlhamafaa", sum := "2a9e5d76cf4dba736bbd9029ebc7990cf2d14ff89805b97b8c5335ab12dc9bee", func := "loop.example/homeconsole/laws.FnExactWriteMemory", spec := "fnExactWriteMemory", apart := false }
def FnExactWriteMemorySaid : Prop := fnExactWriteMemoryRow.holds Try.pinned (OpenSpec.ofChange fnExactWriteMemorySpec)

/-- ITS FALSE NEIGHBOUR: 'it returns false'. Refute it at one input. -/
def fnExactWriteMemoryWrong : ChangeSpec := { name := "fnExactWriteMemory", fn := fun _ => fun
  | [d1, d2, d3] => { results := [.lit (.bool false)], args := [d1, d2, d3] }
  | _ => none }
def FnExactWriteMemoryWrongFalsely : Prop := fnExactWriteMemoryRow.holds Try.pinned (OpenSpec.ofChange fnExactWriteMemoryWrong)

/-- 'laws.FnExactCopyMemory': WHATEVER THE INPUT: true; the input reads as it did. -/
def fnExactCopyMemorySpec : ChangeSpec := { name := "fnExactCopyMemory", fn := fun _ => fun
  | [d1, d2, d3, d4] => { results := [.lit (.bool true)], args := [d1, d2, d3, d4] }
  | _ => none }
def fnExactCopyMemoryRow : OpenClaim := { program := "ytkddgcdlhamafaa", sum := "2a9e5d76cf4dba736bbd9029ebc7990cf2d14ff89805b97b8c5335ab12dc9bee", func := "loop.example/homeconsole/laws.FnExactCopyMemory", spec := "fnExactCopyMemory", apart := false }
def FnExactCopyMemorySaid : Prop := fnExactCopyMemoryRow.holds Try.pinned (OpenSpec.ofChange fnExactCopyMemorySpec)

/-- ITS FALSE NEIGHBOUR: 'it returns false'. Refute it at one input. -/
def fnExactCopyMemoryWrong : ChangeSpec := { name := "fnExactCopyMemory", fn := fun _ => fun
  | [d1, d2, d3, d4] => { results := [.lit (.bool false)], args := [d1, d2, d3, d4] }
  | _ => none }
def FnExactCopyMemoryWrongFalsely : Prop := fnExactCopyMemoryRow.holds Try.pinned (OpenSpec.ofChange fnExactCopyMemoryWrong)

/-- 'laws.FnExactNewMachine': WHATEVER THE INPUT: true; the input reads as it did. -/
def fnExactNewMachineSpec : ChangeSpec := { name := "fnExactNewMachine", fn := fun _ => fun
  | [d] => { results := [.lit (.bool true)], args := [d] }
  | _ => none }
def fnExactNewMachineRow : OpenClaim := { program := "ytkddgcdlhamafaa", sum := "2a9e5d76cf4dba736bbd9029ebc7990cf2d14ff89805b97b8c5335ab12dc9bee", func := "loop.example/homeconsole/laws.FnExactNewMachine", spec := "fnExactNewMachine", apart := false }
def FnExactNewMachineSaid : Prop := fnExactNewMachineRow.holds Try.pinned (OpenSpec.ofChange fnExactNewMachineSpec)

/-- ITS FALSE NEIGHBOUR: 'it returns false'. Refute it at one input. -/
def fnExactNewMachineWrong : ChangeSpec := { name := "fnExactNewMachine", fn := fun _ => fun
  | [d] => { results := [.lit (.bool false)], args := [d] }
  | _ => none }
def FnExactNewMachineWrongFalsely : Prop := fnExactNewMachineRow.holds Try.pinned (OpenSpec.ofChange fnExactNewMachineWrong)

/- THE SECOND FORM. 'bulk': how many values and letters a reading holds, each counted each time it is reached (what is shared counts as often as it is met; a slice's spare places count too). A statement '..UptoSaid' is the law's where the arguments, and the package variables that the reading takes, are together of bulk at most 1048576: NARROWER than '..Said'. Prove '..Said' where nothing that the law and all that it calls make is longer than what came in: it says more and counts as full. Else prove '..UptoSaid'. A law counts once. -/
mutual
def uptoBulk {H : Type} : DataW H → Nat
  | .lit (.string bytes) => bytes.length + 1
  | .lit _ => 1
  | .nil => 1
  | .ptr d => uptoBulk d + 1
  | .slice elems spare => uptoBulkAll elems + uptoBulkAll spare + 1
  | .agg parts => uptoBulkAll parts + 1
  | .iface _ d => uptoBulk d + 1
  | .map entries => uptoBulkEntries entries + 1
  | .held _ => 1
def uptoBulkAll {H : Type} : List (DataW H) → Nat
  | [] => 0
  | d :: r => uptoBulk d + uptoBulkAll r
def uptoBulkEntries {H : Type} : List (Lit × DataW H) → Nat
  | [] => 0
  | x :: r => uptoBulkEntry x + uptoBulkEntries r
def uptoBulkEntry {H : Type} : Lit × DataW H → Nat
  | (.string bytes, d) => bytes.length + uptoBulk d + 1
  | (_, d) => uptoBulk d + 1
 end
def uptoSmall : (H : Type) → List (DataW H) → Bool := fun _ ds => decide (uptoBulkAll ds ≤ 1048576)
def OpenSpec.upto (s : _root_.Go.ChangeSpec) : _root_.Go.OpenSpec := { _root_.Go.OpenSpec.ofChange s with cond := some uptoSmall }

/-- 'laws.FnTimerValid', WHERE WHAT IT READS IS OF BULK AT MOST 1048576: true; the input reads as it did. -/
def fnTimerValidUptoRow : OpenClaim := { program := "ytkddgcdlhamafaa", sum := "2a9e5d76cf4dba736bbd9029ebc7990cf2d14ff89805b97b8c5335ab12dc9bee", func := "loop.example/homeconsole/laws.FnTimerValid", spec := "fnTimerValid", apart := false, narrowed := true }
def FnTimerValidUptoSaid : Prop := fnTimerValidUptoRow.holds Try.pinned (OpenSpec.upto fnTimerValidSpec)

/-- 'laws.FnNextFire', WHERE WHAT IT READS IS OF BULK AT MOST 1048576: true; the input reads as it did. -/
def fnNextFireUptoRow : OpenClaim := { program := "ytkddgcdlhamafaa", sum := "2a9e5d76cf4dba736bbd9029ebc7990cf2d14ff89805b97b8c5335ab12dc9bee", func := "loop.example/homeconsole/laws.FnNextFire", spec := "fnNextFire", apart := false, narrowed := true }
def FnNextFireUptoSaid : Prop := fnNextFireUptoRow.holds Try.pinned (OpenSpec.upto fnNextFireSpec)

/-- 'laws.FnTickTimer', WHERE WHAT IT READS IS OF BULK AT MOST 1048576: true; the input reads as it did. -/
def fnTickTimerUptoRow : OpenClaim := { program := "ytkddgcdlhamafaa", sum := "2a9e5d76cf4dba736bbd9029ebc7990cf2d14ff89805b97b8c5335ab12dc9bee", func := "loop.example/homeconsole/laws.FnTickTimer", spec := "fnTickTimer", apart := false, narrowed := true }
def FnTickTimerUptoSaid : Prop := fnTickTimerUptoRow.holds Try.pinned (OpenSpec.upto fnTickTimerSpec)

/-- 'laws.FnOrderUnique', WHERE WHAT IT READS IS OF BULK AT MOST 1048576: true; the input reads as it did. -/
def fnOrderUniqueUptoRow : OpenClaim := { program := "ytkddgcdlhamafaa", sum := "2a9e5d76cf4dba736bbd9029ebc7990cf2d14ff89805b97b8c5335ab12dc9bee", func := "loop.example/homeconsole/laws.FnOrderUnique", spec := "fnOrderUnique", apart := false, narrowed := true }
def FnOrderUniqueUptoSaid : Prop := fnOrderUniqueUptoRow.holds Try.pinned (OpenSpec.upto fnOrderUniqueSpec)

/-- 'laws.FnOrderBytes', WHERE WHAT IT READS IS OF BULK AT MOST 1048576: true; the input reads as it did. -/
def fnOrderBytesUptoRow : OpenClaim := { program := "ytkddgcdlhamafaa", sum := "2a9e5d76cf4dba736bbd9029ebc7990cf2d14ff89805b97b8c5335ab12dc9bee", func := "loop.example/homeconsole/laws.FnOrderBytes", spec := "fnOrderBytes", apart := false, narrowed := true }
def FnOrderBytesUptoSaid : Prop := fnOrderBytesUptoRow.holds Try.pinned (OpenSpec.upto fnOrderBytesSpec)

/-- 'laws.FnDecodeOrder', WHERE WHAT IT READS IS OF BULK AT MOST 1048576: true; the input reads as it did. -/
def fnDecodeOrderUptoRow : OpenClaim := { program := "ytkddgcdlhamafaa", sum := "2a9e5d76cf4dba736bbd9029ebc7990cf2d14ff89805b97b8c5335ab12dc9bee", func := "loop.example/homeconsole/laws.FnDecodeOrder", spec := "fnDecodeOrder", apart := false, narrowed := true }
def FnDecodeOrderUptoSaid : Prop := fnDecodeOrderUptoRow.holds Try.pinned (OpenSpec.upto fnDecodeOrderSpec)

/-- 'laws.FnExactOrderBytes', WHERE WHAT IT READS IS OF BULK AT MOST 1048576: true; the input reads as it did. -/
def fnExactOrderBytesUptoRow : OpenClaim := { program := "ytkddgcdlhamafaa", sum := "2a9e5d76cf4dba736bbd9029ebc7990cf2d14ff89805b97b8c5335ab12dc9bee", func := "loop.example/homeconsole/laws.FnExactOrderBytes", spec := "fnExactOrderBytes", apart := false, narrowed := true }
def FnExactOrderBytesUptoSaid : Prop := fnExactOrderBytesUptoRow.holds Try.pinned (OpenSpec.upto fnExactOrderBytesSpec)

/-- 'laws.FnExactDecodeOrder', WHERE WHAT IT READS IS OF BULK AT MOST 1048576: true; the input reads as it did. -/
def fnExactDecodeOrderUptoRow : OpenClaim := { program := "ytkddgcdlhamafaa", sum := "2a9e5d76cf4dba736bbd9029ebc7990cf2d14ff89805b97b8c5335ab12dc9bee", func := "loop.example/homeconsole/laws.FnExactDecodeOrder", spec := "fnExactDecodeOrder", apart := false, narrowed := true }
def FnExactDecodeOrderUptoSaid : Prop := fnExactDecodeOrderUptoRow.holds Try.pinned (OpenSpec.upto fnExactDecodeOrderSpec)

/-- 'laws.FnExactMemoryValid', WHERE WHAT IT READS IS OF BULK AT MOST 1048576: true; the input reads as it did. -/
def fnExactMemoryValidUptoRow : OpenClaim := { program := "ytkddgcdlhamafaa", sum := "2a9e5d76cf4dba736bbd9029ebc7990cf2d14ff89805b97b8c5335ab12dc9bee", func := "loop.example/homeconsole/laws.FnExactMemoryValid", spec := "fnExactMemoryValid", apart := false, narrowed := true }
def FnExactMemoryValidUptoSaid : Prop := fnExactMemoryValidUptoRow.holds Try.pinned (OpenSpec.upto fnExactMemoryValidSpec)

/-- 'laws.FnExactReadMemory', WHERE WHAT IT READS IS OF BULK AT MOST 1048576: true; the input reads as it did. -/
def fnExactReadMemoryUptoRow : OpenClaim := { program := "ytkddgcdlhamafaa", sum := "2a9e5d76cf4dba736bbd9029ebc7990cf2d14ff89805b97b8c5335ab12dc9bee", func := "loop.example/homeconsole/laws.FnExactReadMemory", spec := "fnExactReadMemory", apart := false, narrowed := true }
def FnExactReadMemoryUptoSaid : Prop := fnExactReadMemoryUptoRow.holds Try.pinned (OpenSpec.upto fnExactReadMemorySpec)

/-- 'laws.FnExactNewMemory', WHERE WHAT IT READS IS OF BULK AT MOST 1048576: true; the input reads as it did. -/
def fnExactNewMemoryUptoRow : OpenClaim := { program := "ytkddgcdlhamafaa", sum := "2a9e5d76cf4dba736bbd9029ebc7990cf2d14ff89805b97b8c5335ab12dc9bee", func := "loop.example/homeconsole/laws.FnExactNewMemory", spec := "fnExactNewMemory", apart := false, narrowed := true }
def FnExactNewMemoryUptoSaid : Prop := fnExactNewMemoryUptoRow.holds Try.pinned (OpenSpec.upto fnExactNewMemorySpec)

/-- 'laws.FnExactMachineValid', WHERE WHAT IT READS IS OF BULK AT MOST 1048576: true; the input reads as it did. -/
def fnExactMachineValidUptoRow : OpenClaim := { program := "ytkddgcdlhamafaa", sum := "2a9e5d76cf4dba736bbd9029ebc7990cf2d14ff89805b97b8c5335ab12dc9bee", func := "loop.example/homeconsole/laws.FnExactMachineValid", spec := "fnExactMachineValid", apart := false, narrowed := true }
def FnExactMachineValidUptoSaid : Prop := fnExactMachineValidUptoRow.holds Try.pinned (OpenSpec.upto fnExactMachineValidSpec)

/-- 'laws.FnExactWriteMemory', WHERE WHAT IT READS IS OF BULK AT MOST 1048576: true; the input reads as it did. -/
def fnExactWriteMemoryUptoRow : OpenClaim := { program := "ytkddgcdlhamafaa", sum := "2a9e5d76cf4dba736bbd9029ebc7990cf2d14ff89805b97b8c5335ab12dc9bee", func := "loop.example/homeconsole/laws.FnExactWriteMemory", spec := "fnExactWriteMemory", apart := false, narrowed := true }
def FnExactWriteMemoryUptoSaid : Prop := fnExactWriteMemoryUptoRow.holds Try.pinned (OpenSpec.upto fnExactWriteMemorySpec)

/-- 'laws.FnExactCopyMemory', WHERE WHAT IT READS IS OF BULK AT MOST 1048576: true; the input reads as it did. -/
def fnExactCopyMemoryUptoRow : OpenClaim := { program := "ytkddgcdlhamafaa", sum := "2a9e5d76cf4dba736bbd9029ebc7990cf2d14ff89805b97b8c5335ab12dc9bee", func := "loop.example/homeconsole/laws.FnExactCopyMemory", spec := "fnExactCopyMemory", apart := false, narrowed := true }
def FnExactCopyMemoryUptoSaid : Prop := fnExactCopyMemoryUptoRow.holds Try.pinned (OpenSpec.upto fnExactCopyMemorySpec)

/-- 'laws.FnExactNewMachine', WHERE WHAT IT READS IS OF BULK AT MOST 1048576: true; the input reads as it did. -/
def fnExactNewMachineUptoRow : OpenClaim := { program := "ytkddgcdlhamafaa", sum := "2a9e5d76cf4dba736bbd9029ebc7990cf2d14ff89805b97b8c5335ab12dc9bee", func := "loop.example/homeconsole/laws.FnExactNewMachine", spec := "fnExactNewMachine", apart := false, narrowed := true }
def FnExactNewMachineUptoSaid : Prop := fnExactNewMachineUptoRow.holds Try.pinned (OpenSpec.upto fnExactNewMachineSpec)

end Rows
end Go.Proofs.Ytkddgcdlhamafaa
