/-
  No cell of these rows narrows 'for every input' (looked for: loops, veiled, ifaces, maps, wideKeys, modest, calm, conditions, laid).
  DERIVED. THE GIVEN ROWS OF THIS SEAT. 13 by the template 'for every input the law returns true; each argument reads behind the call as it read before'; 0 by the template 'total and deterministic' (their statements: YteajhjjcpfbooaaTotals.lean).
  GIVEN WITH THE SEED: the statements are not yours to turn. If you find one false, say at which input.
  Laid BY PROGRAM, IN A SANDBOX (cutbox-rows.mjs): the forced cells as the released guide's own fill.sh prints them over the translation 76dfe64b91299948… (all of the seat's roots in one cut). By AI agents, Wed Nov 11 2026. No macro, syntax, notation, axiom, sorry.
-/
import Derived.Test.YteajhjjcpfbooaaChecked
import GoSem.Claim
import GoSem.ClaimJoined
import GoSem.ClaimMapViews
import Derived.JoinedTies
import Derived.KernelRfl
namespace Go.Proofs.Yteajhjjcpfbooaa
/- THE CELL 'sum', in the pinned program and in every row, IS THE sha256 OF THE DUMP (.gsa) THAT YteajhjjcpfbooaaProg.lean LOADS. Nothing in Lean hashes anything: it is a label: what it is worth is what the hold of that sum in a sandbox is worth. -/
noncomputable def Try.pinned : Pinned := { name := "yteajhjjcpfbooaa", sum := "76dfe64b9129994856ee098344b7eda016a538d677d2f04d226e8f5cc3d305b9", checked := Try.checked }
namespace Rows
def none {H : Type} : Left H := { results := [], args := [] }

/-- 'laws.FnExactConstants': WHATEVER THE INPUT: true; the input reads as it did. -/
def fnExactConstantsSpec : ChangeSpec := { name := "fnExactConstants", fn := fun _ => fun
  | [] => { results := [.lit (.bool true)], args := [] }
  | _ => none }
def fnExactConstantsRow : OpenClaim := { program := "yteajhjjcpfbooaa", sum := "76dfe64b9129994856ee098344b7eda016a538d677d2f04d226e8f5cc3d305b9", func := "loop.example/homeconsole/laws.FnExactConstants", spec := "fnExactConstants", apart := false }
def FnExactConstantsSaid : Prop := fnExactConstantsRow.holds Try.pinned (OpenSpec.ofChange fnExactConstantsSpec)

/-- ITS FALSE NEIGHBOUR: 'it returns false'. Refute it at one input. -/
def fnExactConstantsWrong : ChangeSpec := { name := "fnExactConstants", fn := fun _ => fun
  | [] => { results := [.lit (.bool false)], args := [] }
  | _ => none }
def FnExactConstantsWrongFalsely : Prop := fnExactConstantsRow.holds Try.pinned (OpenSpec.ofChange fnExactConstantsWrong)

/-- 'laws.FnExactTimerValid': WHATEVER THE INPUT: true; the input reads as it did. -/
def fnExactTimerValidSpec : ChangeSpec := { name := "fnExactTimerValid", fn := fun _ => fun
  | [d] => { results := [.lit (.bool true)], args := [d] }
  | _ => none }
def fnExactTimerValidRow : OpenClaim := { program := "yteajhjjcpfbooaa", sum := "76dfe64b9129994856ee098344b7eda016a538d677d2f04d226e8f5cc3d305b9", func := "loop.example/homeconsole/laws.FnExactTimerValid", spec := "fnExactTimerValid", apart := false }
def FnExactTimerValidSaid : Prop := fnExactTimerValidRow.holds Try.pinned (OpenSpec.ofChange fnExactTimerValidSpec)

/-- ITS FALSE NEIGHBOUR: 'it returns false'. Refute it at one input. -/
def fnExactTimerValidWrong : ChangeSpec := { name := "fnExactTimerValid", fn := fun _ => fun
  | [d] => { results := [.lit (.bool false)], args := [d] }
  | _ => none }
def FnExactTimerValidWrongFalsely : Prop := fnExactTimerValidRow.holds Try.pinned (OpenSpec.ofChange fnExactTimerValidWrong)

/-- 'laws.FnExactSignedByte': WHATEVER THE INPUT: true; the input reads as it did. -/
def fnExactSignedByteSpec : ChangeSpec := { name := "fnExactSignedByte", fn := fun _ => fun
  | [d] => { results := [.lit (.bool true)], args := [d] }
  | _ => none }
def fnExactSignedByteRow : OpenClaim := { program := "yteajhjjcpfbooaa", sum := "76dfe64b9129994856ee098344b7eda016a538d677d2f04d226e8f5cc3d305b9", func := "loop.example/homeconsole/laws.FnExactSignedByte", spec := "fnExactSignedByte", apart := false }
def FnExactSignedByteSaid : Prop := fnExactSignedByteRow.holds Try.pinned (OpenSpec.ofChange fnExactSignedByteSpec)

/-- ITS FALSE NEIGHBOUR: 'it returns false'. Refute it at one input. -/
def fnExactSignedByteWrong : ChangeSpec := { name := "fnExactSignedByte", fn := fun _ => fun
  | [d] => { results := [.lit (.bool false)], args := [d] }
  | _ => none }
def FnExactSignedByteWrongFalsely : Prop := fnExactSignedByteRow.holds Try.pinned (OpenSpec.ofChange fnExactSignedByteWrong)

/-- 'laws.FnExactOrderLength': WHATEVER THE INPUT: true; the input reads as it did. -/
def fnExactOrderLengthSpec : ChangeSpec := { name := "fnExactOrderLength", fn := fun _ => fun
  | [d] => { results := [.lit (.bool true)], args := [d] }
  | _ => none }
def fnExactOrderLengthRow : OpenClaim := { program := "yteajhjjcpfbooaa", sum := "76dfe64b9129994856ee098344b7eda016a538d677d2f04d226e8f5cc3d305b9", func := "loop.example/homeconsole/laws.FnExactOrderLength", spec := "fnExactOrderLength", apart := false }
def FnExactOrderLengthSaid : Prop := fnExactOrderLengthRow.holds Try.pinned (OpenSpec.ofChange fnExactOrderLengthSpec)

/-- ITS FALSE NEIGHBOUR: 'it returns false'. Refute it at one input. -/
def fnExactOrderLengthWrong : ChangeSpec := { name := "fnExactOrderLength", fn := fun _ => fun
  | [d] => { results := [.lit (.bool false)], args := [d] }
  | _ => none }
def FnExactOrderLengthWrongFalsely : Prop := fnExactOrderLengthRow.holds Try.pinned (OpenSpec.ofChange fnExactOrderLengthWrong)

/-- 'laws.FnExactCountOnes': WHATEVER THE INPUT: true; the input reads as it did. -/
def fnExactCountOnesSpec : ChangeSpec := { name := "fnExactCountOnes", fn := fun _ => fun
  | [d] => { results := [.lit (.bool true)], args := [d] }
  | _ => none }
def fnExactCountOnesRow : OpenClaim := { program := "yteajhjjcpfbooaa", sum := "76dfe64b9129994856ee098344b7eda016a538d677d2f04d226e8f5cc3d305b9", func := "loop.example/homeconsole/laws.FnExactCountOnes", spec := "fnExactCountOnes", apart := false }
def FnExactCountOnesSaid : Prop := fnExactCountOnesRow.holds Try.pinned (OpenSpec.ofChange fnExactCountOnesSpec)

/-- ITS FALSE NEIGHBOUR: 'it returns false'. Refute it at one input. -/
def fnExactCountOnesWrong : ChangeSpec := { name := "fnExactCountOnes", fn := fun _ => fun
  | [d] => { results := [.lit (.bool false)], args := [d] }
  | _ => none }
def FnExactCountOnesWrongFalsely : Prop := fnExactCountOnesRow.holds Try.pinned (OpenSpec.ofChange fnExactCountOnesWrong)

/-- 'laws.FnExactNextFire': WHATEVER THE INPUT: true; the input reads as it did. -/
def fnExactNextFireSpec : ChangeSpec := { name := "fnExactNextFire", fn := fun _ => fun
  | [d] => { results := [.lit (.bool true)], args := [d] }
  | _ => none }
def fnExactNextFireRow : OpenClaim := { program := "yteajhjjcpfbooaa", sum := "76dfe64b9129994856ee098344b7eda016a538d677d2f04d226e8f5cc3d305b9", func := "loop.example/homeconsole/laws.FnExactNextFire", spec := "fnExactNextFire", apart := false }
def FnExactNextFireSaid : Prop := fnExactNextFireRow.holds Try.pinned (OpenSpec.ofChange fnExactNextFireSpec)

/-- ITS FALSE NEIGHBOUR: 'it returns false'. Refute it at one input. -/
def fnExactNextFireWrong : ChangeSpec := { name := "fnExactNextFire", fn := fun _ => fun
  | [d] => { results := [.lit (.bool false)], args := [d] }
  | _ => none }
def FnExactNextFireWrongFalsely : Prop := fnExactNextFireRow.holds Try.pinned (OpenSpec.ofChange fnExactNextFireWrong)

/-- 'laws.FnExactRotateLeft': WHATEVER THE INPUT: true; the input reads as it did. -/
def fnExactRotateLeftSpec : ChangeSpec := { name := "fnExactRotateLeft", fn := fun _ => fun
  | [d1, d2] => { results := [.lit (.bool true)], args := [d1, d2] }
  | _ => none }
def fnExactRotateLeftRow : OpenClaim := { program := "yteajhjjcpfbooaa", sum := "76dfe64b9129994856ee098344b7eda016a538d677d2f04d226e8f5cc3d305b9", func := "loop.example/homeconsole/laws.FnExactRotateLeft", spec := "fnExactRotateLeft", apart := false }
def FnExactRotateLeftSaid : Prop := fnExactRotateLeftRow.holds Try.pinned (OpenSpec.ofChange fnExactRotateLeftSpec)

/-- ITS FALSE NEIGHBOUR: 'it returns false'. Refute it at one input. -/
def fnExactRotateLeftWrong : ChangeSpec := { name := "fnExactRotateLeft", fn := fun _ => fun
  | [d1, d2] => { results := [.lit (.bool false)], args := [d1, d2] }
  | _ => none }
def FnExactRotateLeftWrongFalsely : Prop := fnExactRotateLeftRow.holds Try.pinned (OpenSpec.ofChange fnExactRotateLeftWrong)

/-- 'laws.FnExactRotateRight': WHATEVER THE INPUT: true; the input reads as it did. -/
def fnExactRotateRightSpec : ChangeSpec := { name := "fnExactRotateRight", fn := fun _ => fun
  | [d1, d2] => { results := [.lit (.bool true)], args := [d1, d2] }
  | _ => none }
def fnExactRotateRightRow : OpenClaim := { program := "yteajhjjcpfbooaa", sum := "76dfe64b9129994856ee098344b7eda016a538d677d2f04d226e8f5cc3d305b9", func := "loop.example/homeconsole/laws.FnExactRotateRight", spec := "fnExactRotateRight", apart := false }
def FnExactRotateRightSaid : Prop := fnExactRotateRightRow.holds Try.pinned (OpenSpec.ofChange fnExactRotateRightSpec)

/-- ITS FALSE NEIGHBOUR: 'it returns false'. Refute it at one input. -/
def fnExactRotateRightWrong : ChangeSpec := { name := "fnExactRotateRight", fn := fun _ => fun
  | [d1, d2] => { results := [.lit (.bool false)], args := [d1, d2] }
  | _ => none }
def FnExactRotateRightWrongFalsely : Prop := fnExactRotateRightRow.holds Try.pinned (OpenSpec.ofChange fnExactRotateRightWrong)

/-- 'laws.FnExactSubBytes': WHATEVER THE INPUT: true; the input reads as it did. -/
def fnExactSubBytesSpec : ChangeSpec := { name := "fnExactSubBytes", fn := fun _ => fun
  | [d1, d2, d3] => { results := [.lit (.bool true)], args := [d1, d2, d3] }
  | _ => none }
def fnExactSubBytesRow : OpenClaim := { program := "yteajhjjcpfbooaa", sum := "76dfe64b9129994856ee098344b7eda016a538d677d2f04d226e8f5cc3d305b9", func := "loop.example/homeconsole/laws.FnExactSubBytes", spec := "fnExactSubBytes", apart := false }
def FnExactSubBytesSaid : Prop := fnExactSubBytesRow.holds Try.pinned (OpenSpec.ofChange fnExactSubBytesSpec)

/-- ITS FALSE NEIGHBOUR: 'it returns false'. Refute it at one input. -/
def fnExactSubBytesWrong : ChangeSpec := { name := "fnExactSubBytes", fn := fun _ => fun
  | [d1, d2, d3] => { results := [.lit (.bool false)], args := [d1, d2, d3] }
  | _ => none }
def FnExactSubBytesWrongFalsely : Prop := fnExactSubBytesRow.holds Try.pinned (OpenSpec.ofChange fnExactSubBytesWrong)

/-- 'laws.FnExactOrderValid': WHATEVER THE INPUT: true; the input reads as it did. -/
def fnExactOrderValidSpec : ChangeSpec := { name := "fnExactOrderValid", fn := fun _ => fun
  | [d] => { results := [.lit (.bool true)], args := [d] }
  | _ => none }
def fnExactOrderValidRow : OpenClaim := { program := "yteajhjjcpfbooaa", sum := "76dfe64b9129994856ee098344b7eda016a538d677d2f04d226e8f5cc3d305b9", func := "loop.example/homeconsole/laws.FnExactOrderValid", spec := "fnExactOrderValid", apart := false }
def FnExactOrderValidSaid : Prop := fnExactOrderValidRow.holds Try.pinned (OpenSpec.ofChange fnExactOrderValidSpec)

/-- ITS FALSE NEIGHBOUR: 'it returns false'. Refute it at one input. -/
def fnExactOrderValidWrong : ChangeSpec := { name := "fnExactOrderValid", fn := fun _ => fun
  | [d] => { results := [.lit (.bool false)], args := [d] }
  | _ => none }
def FnExactOrderValidWrongFalsely : Prop := fnExactOrderValidRow.holds Try.pinned (OpenSpec.ofChange fnExactOrderValidWrong)

/-- 'laws.FnExactAddBytes': WHATEVER THE INPUT: true; the input reads as it did. -/
def fnExactAddBytesSpec : ChangeSpec := { name := "fnExactAddBytes", fn := fun _ => fun
  | [d1, d2, d3] => { results := [.lit (.bool true)], args := [d1, d2, d3] }
  | _ => none }
def fnExactAddBytesRow : OpenClaim := { program := "yteajhjjcpfbooaa", sum := "76dfe64b9129994856ee098344b7eda016a538d677d2f04d226e8f5cc3d305b9", func := "loop.example/homeconsole/laws.FnExactAddBytes", spec := "fnExactAddBytes", apart := false }
def FnExactAddBytesSaid : Prop := fnExactAddBytesRow.holds Try.pinned (OpenSpec.ofChange fnExactAddBytesSpec)

/-- ITS FALSE NEIGHBOUR: 'it returns false'. Refute it at one input. -/
def fnExactAddBytesWrong : ChangeSpec := { name := "fnExactAddBytes", fn := fun _ => fun
  | [d1, d2, d3] => { results := [.lit (.bool false)], args := [d1, d2, d3] }
  | _ => none }
def FnExactAddBytesWrongFalsely : Prop := fnExactAddBytesRow.holds Try.pinned (OpenSpec.ofChange fnExactAddBytesWrong)

/-- 'laws.FnExactTickTimer': WHATEVER THE INPUT: true; the input reads as it did. -/
def fnExactTickTimerSpec : ChangeSpec := { name := "fnExactTickTimer", fn := fun _ => fun
  | [d] => { results := [.lit (.bool true)], args := [d] }
  | _ => none }
def fnExactTickTimerRow : OpenClaim := { program := "yteajhjjcpfbooaa", sum := "76dfe64b9129994856ee098344b7eda016a538d677d2f04d226e8f5cc3d305b9", func := "loop.example/homeconsole/laws.FnExactTickTimer", spec := "fnExactTickTimer", apart := false }
def FnExactTickTimerSaid : Prop := fnExactTickTimerRow.holds Try.pinned (OpenSpec.ofChange fnExactTickTimerSpec)

/-- ITS FALSE NEIGHBOUR: 'it returns false'. Refute it at one input. -/
def fnExactTickTimerWrong : ChangeSpec := { name := "fnExactTickTimer", fn := fun _ => fun
  | [d] => { results := [.lit (.bool false)], args := [d] }
  | _ => none }
def FnExactTickTimerWrongFalsely : Prop := fnExactTickTimerRow.holds Try.pinned (OpenSpec.ofChange fnExactTickTimerWrong)

/-- 'laws.FnExactSkipTimer': WHATEVER THE INPUT: true; the input reads as it did. -/
def fnExactSkipTimerSpec : ChangeSpec := { name := "fnExactSkipTimer", fn := fun _ => fun
  | [d1, d2] => { results := [.lit (.bool true)], args := [d1, d2] }
  | _ => none }
def fnExactSkipTimerRow : OpenClaim := { program := "yteajhjjcpfbooaa", sum := "76dfe64b9129994856ee098344b7eda016a538d677d2f04d226e8f5cc3d305b9", func := "loop.example/homeconsole/laws.FnExactSkipTimer", spec := "fnExactSkipTimer", apart := false }
def FnExactSkipTimerSaid : Prop := fnExactSkipTimerRow.holds Try.pinned (OpenSpec.ofChange fnExactSkipTimerSpec)

/-- ITS FALSE NEIGHBOUR: 'it returns false'. Refute it at one input. -/
def fnExactSkipTimerWrong : ChangeSpec := { name := "fnExactSkipTimer", fn := fun _ => fun
  | [d1, d2] => { results := [.lit (.bool false)], args := [d1, d2] }
  | _ => none }
def FnExactSkipTimerWrongFalsely : Prop := fnExactSkipTimerRow.holds Try.pinned (OpenSpec.ofChange fnExactSkipTimerWrong)

/- THE SECOND FORM. 'bulk': how many values and letters a reading holds, each counted each time it is reached (what is shared counts as often as it is met; a slice's spare places count too). A statement '..UptoSaid' is the law's where the arguments, and the package variables that the reading takes, are together of bulk at most 1048576: NARROWER than '..Said'. Prove '..Said' where nothing that the law and all that it calls make is longer than what came in: it says more and counts as full. Else prove '..UptoSaid'. A law counts once. -/
mutual
def uptoBulk {H : Type} : DataW H → Nat
  | .lit (.string bytes) => bytes.length + 1
  | .lit _ => 1
  | .nil => 1
  | .ptr d => uptoBulk d + 1
  | .slice elems spare => uptoBulkAll elems + uptoBulkAll spare + 1
  | .agg parts => uptoBulkAll parts + 1
  | .iface _ d => uptoBulk d + 1
  | .map entries => uptoBulkEntries entries + 1
  | .held _ => 1
def uptoBulkAll {H : Type} : List (DataW H) → Nat
  | [] => 0
  | d :: r => uptoBulk d + uptoBulkAll r
def uptoBulkEntries {H : Type} : List (Lit × DataW H) → Nat
  | [] => 0
  | x :: r => uptoBulkEntry x + uptoBulkEntries r
def uptoBulkEntry {H : Type} : Lit × DataW H → Nat
  | (.string bytes, d) => bytes.length + uptoBulk d + 1
  | (_, d) => uptoBulk d + 1
 end
def uptoSmall : (H : Type) → List (DataW H) → Bool := fun _ ds => decide (uptoBulkAll ds ≤ 1048576)
def OpenSpec.upto (s : _root_.Go.ChangeSpec) : _root_.Go.OpenSpec := { _root_.Go.OpenSpec.ofChange s with cond := some uptoSmall }

/-- 'laws.FnExactConstants', WHERE WHAT IT READS IS OF BULK AT MOST 1048576: true; the input reads as it did. -/
def fnExactConstantsUptoRow : OpenClaim := { program := "yteajhjjcpfbooaa", sum := "76dfe64b9129994856ee098344b7eda016a538d677d2f04d226e8f5cc3d305b9", func := "loop.example/homeconsole/laws.FnExactConstants", spec := "fnExactConstants", apart := false, narrowed := true }
def FnExactConstantsUptoSaid : Prop := fnExactConstantsUptoRow.holds Try.pinned (OpenSpec.upto fnExactConstantsSpec)

/-- 'laws.FnExactTimerValid', WHERE WHAT IT READS IS OF BULK AT MOST 1048576: true; the input reads as it did. -/
def fnExactTimerValidUptoRow : OpenClaim := { program := "yteajhjjcpfbooaa", sum := "76dfe64b9129994856ee098344b7eda016a538d677d2f04d226e8f5cc3d305b9", func := "loop.example/homeconsole/laws.FnExactTimerValid", spec := "fnExactTimerValid", apart := false, narrowed := true }
def FnExactTimerValidUptoSaid : Prop := fnExactTimerValidUptoRow.holds Try.pinned (OpenSpec.upto fnExactTimerValidSpec)

/-- 'laws.FnExactSignedByte', WHERE WHAT IT READS IS OF BULK AT MOST 1048576: true; the input reads as it did. -/
def fnExactSignedByteUptoRow : OpenClaim := { program := "yteajhjjcpfbooaa", sum := "76dfe64b9129994856ee098344b7eda016a538d677d2f04d226e8f5cc3d305b9", func := "loop.example/homeconsole/laws.FnExactSignedByte", spec := "fnExactSignedByte", apart := false, narrowed := true }
def FnExactSignedByteUptoSaid : Prop := fnExactSignedByteUptoRow.holds Try.pinned (OpenSpec.upto fnExactSignedByteSpec)

/-- 'laws.FnExactOrderLength', WHERE WHAT IT READS IS OF BULK AT MOST 1048576: true; the input reads as it did. -/
def fnExactOrderLengthUptoRow : OpenClaim := { program := "yteajhjjcpfbooaa", sum := "76dfe64b9129994856ee098344b7eda016a538d677d2f04d226e8f5cc3d305b9", func := "loop.example/homeconsole/laws.FnExactOrderLength", spec := "fnExactOrderLength", apart := false, narrowed := true }
def FnExactOrderLengthUptoSaid : Prop := fnExactOrderLengthUptoRow.holds Try.pinned (OpenSpec.upto fnExactOrderLengthSpec)

/-- 'laws.FnExactCountOnes', WHERE WHAT IT READS IS OF BULK AT MOST 1048576: true; the input reads as it did. -/
def fnExactCountOnesUptoRow : OpenClaim := { program := "yteajhjjcpfbooaa", sum := "76dfe64b9129994856ee098344b7eda016a538d677d2f04d226e8f5cc3d305b9", func := "loop.example/homeconsole/laws.FnExactCountOnes", spec := "fnExactCountOnes", apart := false, narrowed := true }
def FnExactCountOnesUptoSaid : Prop := fnExactCountOnesUptoRow.holds Try.pinned (OpenSpec.upto fnExactCountOnesSpec)

/-- 'laws.FnExactNextFire', WHERE WHAT IT READS IS OF BULK AT MOST 1048576: true; the input reads as it did. -/
def fnExactNextFireUptoRow : OpenClaim := { program := "yteajhjjcpfbooaa", sum := "76dfe64b9129994856ee098344b7eda016a538d677d2f04d226e8f5cc3d305b9", func := "loop.example/homeconsole/laws.FnExactNextFire", spec := "fnExactNextFire", apart := false, narrowed := true }
def FnExactNextFireUptoSaid : Prop := fnExactNextFireUptoRow.holds Try.pinned (OpenSpec.upto fnExactNextFireSpec)

/-- 'laws.FnExactRotateLeft', WHERE WHAT IT READS IS OF BULK AT MOST 1048576: true; the input reads as it did. -/
def fnExactRotateLeftUptoRow : OpenClaim := { program := "yteajhjjcpfbooaa", sum := "76dfe64b9129994856ee098344b7eda016a538d677d2f04d226e8f5cc3d305b9", func := "loop.example/homeconsole/laws.FnExactRotateLeft", spec := "fnExactRotateLeft", apart := false, narrowed := true }
def FnExactRotateLeftUptoSaid : Prop := fnExactRotateLeftUptoRow.holds Try.pinned (OpenSpec.upto fnExactRotateLeftSpec)

/-- 'laws.FnExactRotateRight', WHERE WHAT IT READS IS OF BULK AT MOST 1048576: true; the input reads as it did. -/
def fnExactRotateRightUptoRow : OpenClaim := { program := "yteajhjjcpfbooaa", sum := "76dfe64b9129994856ee098344b7eda016a538d677d2f04d226e8f5cc3d305b9", func := "loop.example/homeconsole/laws.FnExactRotateRight", spec := "fnExactRotateRight", apart := false, narrowed := true }
def FnExactRotateRightUptoSaid : Prop := fnExactRotateRightUptoRow.holds Try.pinned (OpenSpec.upto fnExactRotateRightSpec)

/-- 'laws.FnExactSubBytes', WHERE WHAT IT READS IS OF BULK AT MOST 1048576: true; the input reads as it did. -/
def fnExactSubBytesUptoRow : OpenClaim := { program := "yteajhjjcpfbooaa", sum := "76dfe64b9129994856ee098344b7eda016a538d677d2f04d226e8f5cc3d305b9", func := "loop.example/homeconsole/laws.FnExactSubBytes", spec := "fnExactSubBytes", apart := false, narrowed := true }
def FnExactSubBytesUptoSaid : Prop := fnExactSubBytesUptoRow.holds Try.pinned (OpenSpec.upto fnExactSubBytesSpec)

/-- 'laws.FnExactOrderValid', WHERE WHAT IT READS IS OF BULK AT MOST 1048576: true; the input reads as it did. -/
def fnExactOrderValidUptoRow : OpenClaim := { program := "yteajhjjcpfbooaa", sum := "76dfe64b9129994856ee098344b7eda016a538d677d2f04d226e8f5cc3d305b9", func := "loop.example/homeconsole/laws.FnExactOrderValid", spec := "fnExactOrderValid", apart := false, narrowed := true }
def FnExactOrderValidUptoSaid : Prop := fnExactOrderValidUptoRow.holds Try.pinned (OpenSpec.upto fnExactOrderValidSpec)

/-- 'laws.FnExactAddBytes', WHERE WHAT IT READS IS OF BULK AT MOST 1048576: true; the input reads as it did. -/
def fnExactAddBytesUptoRow : OpenClaim := { program := "yteajhjjcpfbooaa", sum := "76dfe64b9129994856ee098344b7eda016a538d677d2f04d226e8f5cc3d305b9", func := "loop.example/homeconsole/laws.FnExactAddBytes", spec := "fnExactAddBytes", apart := false, narrowed := true }
def FnExactAddBytesUptoSaid : Prop := fnExactAddBytesUptoRow.holds Try.pinned (OpenSpec.upto fnExactAddBytesSpec)

/-- 'laws.FnExactTickTimer', WHERE WHAT IT READS IS OF BULK AT MOST 1048576: true; the input reads as it did. -/
def fnExactTickTimerUptoRow : OpenClaim := { program := "yteajhjjcpfbooaa", sum := "76dfe64b9129994856ee098344b7eda016a538d677d2f04d226e8f5cc3d305b9", func := "loop.example/homeconsole/laws.FnExactTickTimer", spec := "fnExactTickTimer", apart := false, narrowed := true }
def FnExactTickTimerUptoSaid : Prop := fnExactTickTimerUptoRow.holds Try.pinned (OpenSpec.upto fnExactTickTimerSpec)

/-- 'laws.FnExactSkipTimer', WHERE WHAT IT READS IS OF BULK AT MOST 1048576: true; the input reads as it did. -/
def fnExactSkipTimerUptoRow : OpenClaim := { program := "yteajhjjcpfbooaa", sum := "76dfe64b9129994856ee098344b7eda016a538d677d2f04d226e8f5cc3d305b9", func := "loop.example/homeconsole/laws.FnExactSkipTimer", spec := "fnExactSkipTimer", apart := false, narrowed := true }
def FnExactSkipTimerUptoSaid : Prop := fnExactSkipTimerUptoRow.holds Try.pinned (OpenSpec.upto fnExactSkipTimerSpec)

end Rows
end Go.Proofs.Yteajhjjcpfbooaa
