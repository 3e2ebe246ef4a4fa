/-
  No cell of these rows narrows 'for every input' (looked for: loops, veiled, ifaces, maps, wideKeys, modest, calm, conditions, laid).
  DERIVED. THE GIVEN ROWS OF THIS SEAT. 18 by the template 'for every input the law returns true; each argument reads behind the call as it read before'; 0 by the template 'total and deterministic' (their statements: YtifhocjlfmeecaaTotals.lean).
  GIVEN WITH THE SEED: the statements are not yours to turn. If you find one false, say at which input.
  Laid BY PROGRAM, IN A SANDBOX (cutbox-rows.mjs): the forced cells as the released guide's own fill.sh prints them over the translation 9e28d978b61aec52… (all of the seat's roots in one cut). By AI agents, Wed Nov 11 2026. No macro, syntax, notation, axiom, sorry.
-/
import Derived.Test.YtifhocjlfmeecaaChecked
import GoSem.Claim
import GoSem.ClaimJoined
import GoSem.ClaimMapViews
import Derived.JoinedTies
import Derived.KernelRfl
namespace Go.Proofs.Ytifhocjlfmeecaa
/- THE CELL 'sum', in the pinned program and in every row, IS THE sha256 OF THE DUMP (.gsa) THAT YtifhocjlfmeecaaProg.lean LOADS. Nothing in Lean hashes anything: it is a label: what it is worth is what the hold of that sum in a sandbox is worth. -/
noncomputable def Try.pinned : Pinned := { name := "ytifhocjlfmeecaa", sum := "9e28d978b61aec522976ad26035b5c181e6b593ce004427201622608a3f0f6e1", checked := Try.checked }
namespace Rows
def none {H : Type} : Left H := { results := [], args := [] }

/-- 'laws.FnOrderLength': WHATEVER THE INPUT: true; the input reads as it did. -/
def fnOrderLengthSpec : ChangeSpec := { name := "fnOrderLength", fn := fun _ => fun
  | [d] => { results := [.lit (.bool true)], args := [d] }
  | _ => none }
def fnOrderLengthRow : OpenClaim := { program := "ytifhocjlfmeecaa", sum := "9e28d978b61aec522976ad26035b5c181e6b593ce004427201622608a3f0f6e1", func := "loop.example/homeconsole/laws.FnOrderLength", spec := "fnOrderLength", apart := false }
def FnOrderLengthSaid : Prop := fnOrderLengthRow.holds Try.pinned (OpenSpec.ofChange fnOrderLengthSpec)

/-- ITS FALSE NEIGHBOUR: 'it returns false'. Refute it at one input. -/
def fnOrderLengthWrong : ChangeSpec := { name := "fnOrderLength", fn := fun _ => fun
  | [d] => { results := [.lit (.bool false)], args := [d] }
  | _ => none }
def FnOrderLengthWrongFalsely : Prop := fnOrderLengthRow.holds Try.pinned (OpenSpec.ofChange fnOrderLengthWrong)

/-- 'laws.FnTimerValid': WHATEVER THE INPUT: true; the input reads as it did. -/
def fnTimerValidSpec : ChangeSpec := { name := "fnTimerValid", fn := fun _ => fun
  | [d] => { results := [.lit (.bool true)], args := [d] }
  | _ => none }
def fnTimerValidRow : OpenClaim := { program := "ytifhocjlfmeecaa", sum := "9e28d978b61aec522976ad26035b5c181e6b593ce004427201622608a3f0f6e1", func := "loop.example/homeconsole/laws.FnTimerValid", spec := "fnTimerValid", apart := false }
def FnTimerValidSaid : Prop := fnTimerValidRow.holds Try.pinned (OpenSpec.ofChange fnTimerValidSpec)

/-- ITS FALSE NEIGHBOUR: 'it returns false'. Refute it at one input. -/
def fnTimerValidWrong : ChangeSpec := { name := "fnTimerValid", fn := fun _ => fun
  | [d] => { results := [.lit (.bool false)], args := [d] }
  | _ => none }
def FnTimerValidWrongFalsely : Prop := fnTimerValidRow.holds Try.pinned (OpenSpec.ofChange fnTimerValidWrong)

/-- 'laws.FnSignedByte': WHATEVER THE INPUT: true; the input reads as it did. -/
def fnSignedByteSpec : ChangeSpec := { name := "fnSignedByte", fn := fun _ => fun
  | [d] => { results := [.lit (.bool true)], args := [d] }
  | _ => none }
def fnSignedByteRow : OpenClaim := { program := "ytifhocjlfmeecaa", sum := "9e28d978b61aec522976ad26035b5c181e6b593ce004427201622608a3f0f6e1", func := "loop.example/homeconsole/laws.FnSignedByte", spec := "fnSignedByte", apart := false }
def FnSignedByteSaid : Prop := fnSignedByteRow.holds Try.pinned (OpenSpec.ofChange fnSignedByteSpec)

/-- ITS FALSE NEIGHBOUR: 'it returns false'. Refute it at one input. -/
def fnSignedByteWrong : ChangeSpec := { name := "fnSignedByte", fn := fun _ => fun
  | [d] => { results := [.lit (.bool false)], args := [d] }
  | _ => none }
def FnSignedByteWrongFalsely : Prop := fnSignedByteRow.holds Try.pinned (OpenSpec.ofChange fnSignedByteWrong)

/-- 'laws.FnCountOnes': WHATEVER THE INPUT: true; the input reads as it did. -/
def fnCountOnesSpec : ChangeSpec := { name := "fnCountOnes", fn := fun _ => fun
  | [d] => { results := [.lit (.bool true)], args := [d] }
  | _ => none }
def fnCountOnesRow : OpenClaim := { program := "ytifhocjlfmeecaa", sum := "9e28d978b61aec522976ad26035b5c181e6b593ce004427201622608a3f0f6e1", func := "loop.example/homeconsole/laws.FnCountOnes", spec := "fnCountOnes", apart := false }
def FnCountOnesSaid : Prop := fnCountOnesRow.holds Try.pinned (OpenSpec.ofChange fnCountOnesSpec)

/-- ITS FALSE NEIGHBOUR: 'it returns false'. Refute it at one input. -/
def fnCountOnesWrong : ChangeSpec := { name := "fnCountOnes", fn := fun _ => fun
  | [d] => { results := [.lit (.bool false)], args := [d] }
  | _ => none }
def FnCountOnesWrongFalsely : Prop := fnCountOnesRow.holds Try.pinned (OpenSpec.ofChange fnCountOnesWrong)

/-- 'laws.FnOnesXor': WHATEVER THE INPUT: true; the input reads as it did. -/
def fnOnesXorSpec : ChangeSpec := { name := "fnOnesXor", fn := fun _ => fun
  | [d] => { results := [.lit (.bool true)], args := [d] }
  | _ => none }
def fnOnesXorRow : OpenClaim := { program := "ytifhocjlfmeecaa", sum := "9e28d978b61aec522976ad26035b5c181e6b593ce004427201622608a3f0f6e1", func := "loop.example/homeconsole/laws.FnOnesXor", spec := "fnOnesXor", apart := false }
def FnOnesXorSaid : Prop := fnOnesXorRow.holds Try.pinned (OpenSpec.ofChange fnOnesXorSpec)

/-- ITS FALSE NEIGHBOUR: 'it returns false'. Refute it at one input. -/
def fnOnesXorWrong : ChangeSpec := { name := "fnOnesXor", fn := fun _ => fun
  | [d] => { results := [.lit (.bool false)], args := [d] }
  | _ => none }
def FnOnesXorWrongFalsely : Prop := fnOnesXorRow.holds Try.pinned (OpenSpec.ofChange fnOnesXorWrong)

/-- 'laws.FnRotateLeft': WHATEVER THE INPUT: true; the input reads as it did. -/
def fnRotateLeftSpec : ChangeSpec := { name := "fnRotateLeft", fn := fun _ => fun
  | [d] => { results := [.lit (.bool true)], args := [d] }
  | _ => none }
def fnRotateLeftRow : OpenClaim := { program := "ytifhocjlfmeecaa", sum := "9e28d978b61aec522976ad26035b5c181e6b593ce004427201622608a3f0f6e1", func := "loop.example/homeconsole/laws.FnRotateLeft", spec := "fnRotateLeft", apart := false }
def FnRotateLeftSaid : Prop := fnRotateLeftRow.holds Try.pinned (OpenSpec.ofChange fnRotateLeftSpec)

/-- ITS FALSE NEIGHBOUR: 'it returns false'. Refute it at one input. -/
def fnRotateLeftWrong : ChangeSpec := { name := "fnRotateLeft", fn := fun _ => fun
  | [d] => { results := [.lit (.bool false)], args := [d] }
  | _ => none }
def FnRotateLeftWrongFalsely : Prop := fnRotateLeftRow.holds Try.pinned (OpenSpec.ofChange fnRotateLeftWrong)

/-- 'laws.FnNextFire': WHATEVER THE INPUT: true; the input reads as it did. -/
def fnNextFireSpec : ChangeSpec := { name := "fnNextFire", fn := fun _ => fun
  | [d] => { results := [.lit (.bool true)], args := [d] }
  | _ => none }
def fnNextFireRow : OpenClaim := { program := "ytifhocjlfmeecaa", sum := "9e28d978b61aec522976ad26035b5c181e6b593ce004427201622608a3f0f6e1", func := "loop.example/homeconsole/laws.FnNextFire", spec := "fnNextFire", apart := false }
def FnNextFireSaid : Prop := fnNextFireRow.holds Try.pinned (OpenSpec.ofChange fnNextFireSpec)

/-- ITS FALSE NEIGHBOUR: 'it returns false'. Refute it at one input. -/
def fnNextFireWrong : ChangeSpec := { name := "fnNextFire", fn := fun _ => fun
  | [d] => { results := [.lit (.bool false)], args := [d] }
  | _ => none }
def FnNextFireWrongFalsely : Prop := fnNextFireRow.holds Try.pinned (OpenSpec.ofChange fnNextFireWrong)

/-- 'laws.FnTickTimer': WHATEVER THE INPUT: true; the input reads as it did. -/
def fnTickTimerSpec : ChangeSpec := { name := "fnTickTimer", fn := fun _ => fun
  | [d] => { results := [.lit (.bool true)], args := [d] }
  | _ => none }
def fnTickTimerRow : OpenClaim := { program := "ytifhocjlfmeecaa", sum := "9e28d978b61aec522976ad26035b5c181e6b593ce004427201622608a3f0f6e1", func := "loop.example/homeconsole/laws.FnTickTimer", spec := "fnTickTimer", apart := false }
def FnTickTimerSaid : Prop := fnTickTimerRow.holds Try.pinned (OpenSpec.ofChange fnTickTimerSpec)

/-- ITS FALSE NEIGHBOUR: 'it returns false'. Refute it at one input. -/
def fnTickTimerWrong : ChangeSpec := { name := "fnTickTimer", fn := fun _ => fun
  | [d] => { results := [.lit (.bool false)], args := [d] }
  | _ => none }
def FnTickTimerWrongFalsely : Prop := fnTickTimerRow.holds Try.pinned (OpenSpec.ofChange fnTickTimerWrong)

/-- 'laws.FnAddBytes': WHATEVER THE INPUT: true; the input reads as it did. -/
def fnAddBytesSpec : ChangeSpec := { name := "fnAddBytes", fn := fun _ => fun
  | [d] => { results := [.lit (.bool true)], args := [d] }
  | _ => none }
def fnAddBytesRow : OpenClaim := { program := "ytifhocjlfmeecaa", sum := "9e28d978b61aec522976ad26035b5c181e6b593ce004427201622608a3f0f6e1", func := "loop.example/homeconsole/laws.FnAddBytes", spec := "fnAddBytes", apart := false }
def FnAddBytesSaid : Prop := fnAddBytesRow.holds Try.pinned (OpenSpec.ofChange fnAddBytesSpec)

/-- ITS FALSE NEIGHBOUR: 'it returns false'. Refute it at one input. -/
def fnAddBytesWrong : ChangeSpec := { name := "fnAddBytes", fn := fun _ => fun
  | [d] => { results := [.lit (.bool false)], args := [d] }
  | _ => none }
def FnAddBytesWrongFalsely : Prop := fnAddBytesRow.holds Try.pinned (OpenSpec.ofChange fnAddBytesWrong)

/-- 'laws.FnAddChain': WHATEVER THE INPUT: true; the input reads as it did. -/
def fnAddChainSpec : ChangeSpec := { name := "fnAddChain", fn := fun _ => fun
  | [d1, d2] => { results := [.lit (.bool true)], args := [d1, d2] }
  | _ => none }
def fnAddChainRow : OpenClaim := { program := "ytifhocjlfmeecaa", sum := "9e28d978b61aec522976ad26035b5c181e6b593ce004427201622608a3f0f6e1", func := "loop.example/homeconsole/laws.FnAddChain", spec := "fnAddChain", apart := false }
def FnAddChainSaid : Prop := fnAddChainRow.holds Try.pinned (OpenSpec.ofChange fnAddChainSpec)

/-- ITS FALSE NEIGHBOUR: 'it returns false'. Refute it at one input. -/
def fnAddChainWrong : ChangeSpec := { name := "fnAddChain", fn := fun _ => fun
  | [d1, d2] => { results := [.lit (.bool false)], args := [d1, d2] }
  | _ => none }
def FnAddChainWrongFalsely : Prop := fnAddChainRow.holds Try.pinned (OpenSpec.ofChange fnAddChainWrong)

/-- 'laws.FnSubBytes': WHATEVER THE INPUT: true; the input reads as it did. -/
def fnSubBytesSpec : ChangeSpec := { name := "fnSubBytes", fn := fun _ => fun
  | [d] => { results := [.lit (.bool true)], args := [d] }
  | _ => none }
def fnSubBytesRow : OpenClaim := { program := "ytifhocjlfmeecaa", sum := "9e28d978b61aec522976ad26035b5c181e6b593ce004427201622608a3f0f6e1", func := "loop.example/homeconsole/laws.FnSubBytes", spec := "fnSubBytes", apart := false }
def FnSubBytesSaid : Prop := fnSubBytesRow.holds Try.pinned (OpenSpec.ofChange fnSubBytesSpec)

/-- ITS FALSE NEIGHBOUR: 'it returns false'. Refute it at one input. -/
def fnSubBytesWrong : ChangeSpec := { name := "fnSubBytes", fn := fun _ => fun
  | [d] => { results := [.lit (.bool false)], args := [d] }
  | _ => none }
def FnSubBytesWrongFalsely : Prop := fnSubBytesRow.holds Try.pinned (OpenSpec.ofChange fnSubBytesWrong)

/-- 'laws.FnOrderValid': WHATEVER THE INPUT: true; the input reads as it did. -/
def fnOrderValidSpec : ChangeSpec := { name := "fnOrderValid", fn := fun _ => fun
  | [d] => { results := [.lit (.bool true)], args := [d] }
  | _ => none }
def fnOrderValidRow : OpenClaim := { program := "ytifhocjlfmeecaa", sum := "9e28d978b61aec522976ad26035b5c181e6b593ce004427201622608a3f0f6e1", func := "loop.example/homeconsole/laws.FnOrderValid", spec := "fnOrderValid", apart := false }
def FnOrderValidSaid : Prop := fnOrderValidRow.holds Try.pinned (OpenSpec.ofChange fnOrderValidSpec)

/-- ITS FALSE NEIGHBOUR: 'it returns false'. Refute it at one input. -/
def fnOrderValidWrong : ChangeSpec := { name := "fnOrderValid", fn := fun _ => fun
  | [d] => { results := [.lit (.bool false)], args := [d] }
  | _ => none }
def FnOrderValidWrongFalsely : Prop := fnOrderValidRow.holds Try.pinned (OpenSpec.ofChange fnOrderValidWrong)

/-- 'laws.FnRotateRight': WHATEVER THE INPUT: true; the input reads as it did. -/
def fnRotateRightSpec : ChangeSpec := { name := "fnRotateRight", fn := fun _ => fun
  | [d] => { results := [.lit (.bool true)], args := [d] }
  | _ => none }
def fnRotateRightRow : OpenClaim := { program := "ytifhocjlfmeecaa", sum := "9e28d978b61aec522976ad26035b5c181e6b593ce004427201622608a3f0f6e1", func := "loop.example/homeconsole/laws.FnRotateRight", spec := "fnRotateRight", apart := false }
def FnRotateRightSaid : Prop := fnRotateRightRow.holds Try.pinned (OpenSpec.ofChange fnRotateRightSpec)

/-- ITS FALSE NEIGHBOUR: 'it returns false'. Refute it at one input. -/
def fnRotateRightWrong : ChangeSpec := { name := "fnRotateRight", fn := fun _ => fun
  | [d] => { results := [.lit (.bool false)], args := [d] }
  | _ => none }
def FnRotateRightWrongFalsely : Prop := fnRotateRightRow.holds Try.pinned (OpenSpec.ofChange fnRotateRightWrong)

/-- 'laws.FnExactOrderBytes': WHATEVER THE INPUT: true; the input reads as it did. -/
def fnExactOrderBytesSpec : ChangeSpec := { name := "fnExactOrderBytes", fn := fun _ => fun
  | [d] => { results := [.lit (.bool true)], args := [d] }
  | _ => none }
def fnExactOrderBytesRow : OpenClaim := { program := "ytifhocjlfmeecaa", sum := "9e28d978b61aec522976ad26035b5c181e6b593ce004427201622608a3f0f6e1", func := "loop.example/homeconsole/laws.FnExactOrderBytes", spec := "fnExactOrderBytes", apart := false }
def FnExactOrderBytesSaid : Prop := fnExactOrderBytesRow.holds Try.pinned (OpenSpec.ofChange fnExactOrderBytesSpec)

/-- ITS FALSE NEIGHBOUR: 'it returns false'. Refute it at one input. -/
def fnExactOrderBytesWrong : ChangeSpec := { name := "fnExactOrderBytes", fn := fun _ => fun
  | [d] => { results := [.lit (.bool false)], args := [d] }
  | _ => none }
def FnExactOrderBytesWrongFalsely : Prop := fnExactOrderBytesRow.holds Try.pinned (OpenSpec.ofChange fnExactOrderBytesWrong)

/-- 'laws.FnExactDecodeOrder': WHATEVER THE INPUT: true; the input reads as it did. -/
def fnExactDecodeOrderSpec : ChangeSpec := { name := "fnExactDecodeOrder", fn := fun _ => fun
  | [d1, d2] => { results := [.lit (.bool true)], args := [d1, d2] }
  | _ => none }
def fnExactDecodeOrderRow : OpenClaim := { program := "ytifhocjlfmeecaa", sum := "9e28d978b61aec522976ad26035b5c181e6b593ce004427201622608a3f0f6e1", func := "loop.example/homeconsole/laws.FnExactDecodeOrder", spec := "fnExactDecodeOrder", apart := false }
def FnExactDecodeOrderSaid : Prop := fnExactDecodeOrderRow.holds Try.pinned (OpenSpec.ofChange fnExactDecodeOrderSpec)

/-- ITS FALSE NEIGHBOUR: 'it returns false'. Refute it at one input. -/
def fnExactDecodeOrderWrong : ChangeSpec := { name := "fnExactDecodeOrder", fn := fun _ => fun
  | [d1, d2] => { results := [.lit (.bool false)], args := [d1, d2] }
  | _ => none }
def FnExactDecodeOrderWrongFalsely : Prop := fnExactDecodeOrderRow.holds Try.pinned (OpenSpec.ofChange fnExactDecodeOrderWrong)

/-- 'laws.FnOrderUnique': WHATEVER THE INPUT: true; the input reads as it did. -/
def fnOrderUniqueSpec : ChangeSpec := { name := "fnOrderUnique", fn := fun _ => fun
  | [d1, d2] => { results := [.lit (.bool true)], args := [d1, d2] }
  | _ => none }
def fnOrderUniqueRow : OpenClaim := { program := "ytifhocjlfmeecaa", sum := "9e28d978b61aec522976ad26035b5c181e6b593ce004427201622608a3f0f6e1", func := "loop.example/homeconsole/laws.FnOrderUnique", spec := "fnOrderUnique", apart := false }
def FnOrderUniqueSaid : Prop := fnOrderUniqueRow.holds Try.pinned (OpenSpec.ofChange fnOrderUniqueSpec)

/-- ITS FALSE NEIGHBOUR: 'it returns false'. Refute it at one input. -/
def fnOrderUniqueWrong : ChangeSpec := { name := "fnOrderUnique", fn := fun _ => fun
  | [d1, d2] => { results := [.lit (.bool false)], args := [d1, d2] }
  | _ => none }
def FnOrderUniqueWrongFalsely : Prop := fnOrderUniqueRow.holds Try.pinned (OpenSpec.ofChange fnOrderUniqueWrong)

/-- 'laws.FnOrderBytes': WHATEVER THE INPUT: true; the input reads as it did. -/
def fnOrderBytesSpec : ChangeSpec := { name := "fnOrderBytes", fn := fun _ => fun
  | [d1, d2] => { results := [.lit (.bool true)], args := [d1, d2] }
  | _ => none }
def fnOrderBytesRow : OpenClaim := { program := "ytifhocjlfmeecaa", sum := "9e28d978b61aec522976ad26035b5c181e6b593ce004427201622608a3f0f6e1", func := "loop.example/homeconsole/laws.FnOrderBytes", spec := "fnOrderBytes", apart := false }
def FnOrderBytesSaid : Prop := fnOrderBytesRow.holds Try.pinned (OpenSpec.ofChange fnOrderBytesSpec)

/-- ITS FALSE NEIGHBOUR: 'it returns false'. Refute it at one input. -/
def fnOrderBytesWrong : ChangeSpec := { name := "fnOrderBytes", fn := fun _ => fun
  | [d1, d2] => { results := [.lit (.bool false)], args := [d1, d2] }
  | _ => none }
def FnOrderBytesWrongFalsely : Prop := fnOrderBytesRow.holds Try.pinned (OpenSpec.ofChange fnOrderBytesWrong)

/-- 'laws.FnDecodeOrder': WHATEVER THE INPUT: true; the input reads as it did. -/
def fnDecodeOrderSpec : ChangeSpec := { name := "fnDecodeOrder", fn := fun _ => fun
  | [d] => { results := [.lit (.bool true)], args := [d] }
  | _ => none }
def fnDecodeOrderRow : OpenClaim := { program := "ytifhocjlfmeecaa", sum := "9e28d978b61aec522976ad26035b5c181e6b593ce004427201622608a3f0f6e1", func := "loop.example/homeconsole/laws.FnDecodeOrder", spec := "fnDecodeOrder", apart := false }
def FnDecodeOrderSaid : Prop := fnDecodeOrderRow.holds Try.pinned (OpenSpec.ofChange fnDecodeOrderSpec)

/-- ITS FALSE NEIGHBOUR: 'it returns false'. Refute it at one input. -/
def fnDecodeOrderWrong : ChangeSpec := { name := "fnDecodeOrder", fn := fun _ => fun
  | [d] => { results := [.lit (.bool false)], args := [d] }
  | _ => none }
def FnDecodeOrderWrongFalsely : Prop := fnDecodeOrderRow.holds Try.pinned (OpenSpec.ofChange fnDecodeOrderWrong)

/- THE SECOND FORM. 'bulk': how many values and letters a reading holds, each counted each time it is reached (what is shared counts as often as it is met; a slice's spare places count too). A statement '..UptoSaid' is the law's where the arguments, and the package variables that the reading takes, are together of bulk at most 1048576: NARROWER than '..Said'. Prove '..Said' where nothing that the law and all that it calls make is longer than what came in: it says more and counts as full. Else prove '..UptoSaid'. A law counts once. -/
mutual
def uptoBulk {H : Type} : DataW H → Nat
  | .lit (.string bytes) => bytes.length + 1
  | .lit _ => 1
  | .nil => 1
  | .ptr d => uptoBulk d + 1
  | .slice elems spare => uptoBulkAll elems + uptoBulkAll spare + 1
  | .agg parts => uptoBulkAll parts + 1
  | .iface _ d => uptoBulk d + 1
  | .map entries => uptoBulkEntries entries + 1
  | .held _ => 1
def uptoBulkAll {H : Type} : List (DataW H) → Nat
  | [] => 0
  | d :: r => uptoBulk d + uptoBulkAll r
def uptoBulkEntries {H : Type} : List (Lit × DataW H) → Nat
  | [] => 0
  | x :: r => uptoBulkEntry x + uptoBulkEntries r
def uptoBulkEntry {H : Type} : Lit × DataW H → Nat
  | (.string bytes, d) => bytes.length + uptoBulk d + 1
  | (_, d) => uptoBulk d + 1
 end
def uptoSmall : (H : Type) → List (DataW H) → Bool := fun _ ds => decide (uptoBulkAll ds ≤ 1048576)
def OpenSpec.upto (s : _root_.Go.ChangeSpec) : _root_.Go.OpenSpec := { _root_.Go.OpenSpec.ofChange s with cond := some uptoSmall }

/-- 'laws.FnOrderLength', WHERE WHAT IT READS IS OF BULK AT MOST 1048576: true; the input reads as it did. -/
def fnOrderLengthUptoRow : OpenClaim := { program := "ytifhocjlfmeecaa", sum := "9e28d978b61aec522976ad26035b5c181e6b593ce004427201622608a3f0f6e1", func := "loop.example/homeconsole/laws.FnOrderLength", spec := "fnOrderLength", apart := false, narrowed := true }
def FnOrderLengthUptoSaid : Prop := fnOrderLengthUptoRow.holds Try.pinned (OpenSpec.upto fnOrderLengthSpec)

/-- 'laws.FnTimerValid', WHERE WHAT IT READS IS OF BULK AT MOST 1048576: true; the input reads as it did. -/
def fnTimerValidUptoRow : OpenClaim := { program := "ytifhocjlfmeecaa", sum := "9e28d978b61aec522976ad26035b5c181e6b593ce004427201622608a3f0f6e1", func := "loop.example/homeconsole/laws.FnTimerValid", spec := "fnTimerValid", apart := false, narrowed := true }
def FnTimerValidUptoSaid : Prop := fnTimerValidUptoRow.holds Try.pinned (OpenSpec.upto fnTimerValidSpec)

/-- 'laws.FnSignedByte', WHERE WHAT IT READS IS OF BULK AT MOST 1048576: true; the input reads as it did. -/
def fnSignedByteUptoRow : OpenClaim := { program := "ytifhocjlfmeecaa", sum := "9e28d978b61aec522976ad26035b5c181e6b593ce004427201622608a3f0f6e1", func := "loop.example/homeconsole/laws.FnSignedByte", spec := "fnSignedByte", apart := false, narrowed := true }
def FnSignedByteUptoSaid : Prop := fnSignedByteUptoRow.holds Try.pinned (OpenSpec.upto fnSignedByteSpec)

/-- 'laws.FnCountOnes', WHERE WHAT IT READS IS OF BULK AT MOST 1048576: true; the input reads as it did. -/
def fnCountOnesUptoRow : OpenClaim := { program := "ytifhocjlfmeecaa", sum := "9e28d978b61aec522976ad26035b5c181e6b593ce004427201622608a3f0f6e1", func := "loop.example/homeconsole/laws.FnCountOnes", spec := "fnCountOnes", apart := false, narrowed := true }
def FnCountOnesUptoSaid : Prop := fnCountOnesUptoRow.holds Try.pinned (OpenSpec.upto fnCountOnesSpec)

/-- 'laws.FnOnesXor', WHERE WHAT IT READS IS OF BULK AT MOST 1048576: true; the input reads as it did. -/
def fnOnesXorUptoRow : OpenClaim := { program := "ytifhocjlfmeecaa", sum := "9e28d978b61aec522976ad26035b5c181e6b593ce004427201622608a3f0f6e1", func := "loop.example/homeconsole/laws.FnOnesXor", spec := "fnOnesXor", apart := false, narrowed := true }
def FnOnesXorUptoSaid : Prop := fnOnesXorUptoRow.holds Try.pinned (OpenSpec.upto fnOnesXorSpec)

/-- 'laws.FnRotateLeft', WHERE WHAT IT READS IS OF BULK AT MOST 1048576: true; the input reads as it did. -/
def fnRotateLeftUptoRow : OpenClaim := { program := "ytifhocjlfmeecaa", sum := "9e28d978b61aec522976ad26035b5c181e6b593ce004427201622608a3f0f6e1", func := "loop.example/homeconsole/laws.FnRotateLeft", spec := "fnRotateLeft", apart := false, narrowed := true }
def FnRotateLeftUptoSaid : Prop := fnRotateLeftUptoRow.holds Try.pinned (OpenSpec.upto fnRotateLeftSpec)

/-- 'laws.FnNextFire', WHERE WHAT IT READS IS OF BULK AT MOST 1048576: true; the input reads as it did. -/
def fnNextFireUptoRow : OpenClaim := { program := "ytifhocjlfmeecaa", sum := "9e28d978b61aec522976ad26035b5c181e6b593ce004427201622608a3f0f6e1", func := "loop.example/homeconsole/laws.FnNextFire", spec := "fnNextFire", apart := false, narrowed := true }
def FnNextFireUptoSaid : Prop := fnNextFireUptoRow.holds Try.pinned (OpenSpec.upto fnNextFireSpec)

/-- 'laws.FnTickTimer', WHERE WHAT IT READS IS OF BULK AT MOST 1048576: true; the input reads as it did. -/
def fnTickTimerUptoRow : OpenClaim := { program := "ytifhocjlfmeecaa", sum := "9e28d978b61aec522976ad26035b5c181e6b593ce004427201622608a3f0f6e1", func := "loop.example/homeconsole/laws.FnTickTimer", spec := "fnTickTimer", apart := false, narrowed := true }
def FnTickTimerUptoSaid : Prop := fnTickTimerUptoRow.holds Try.pinned (OpenSpec.upto fnTickTimerSpec)

/-- 'laws.FnAddBytes', WHERE WHAT IT READS IS OF BULK AT MOST 1048576: true; the input reads as it did. -/
def fnAddBytesUptoRow : OpenClaim := { program := "ytifhocjlfmeecaa", sum := "9e28d978b61aec522976ad26035b5c181e6b593ce004427201622608a3f0f6e1", func := "loop.example/homeconsole/laws.FnAddBytes", spec := "fnAddBytes", apart := false, narrowed := true }
def FnAddBytesUptoSaid : Prop := fnAddBytesUptoRow.holds Try.pinned (OpenSpec.upto fnAddBytesSpec)

/-- 'laws.FnAddChain', WHERE WHAT IT READS IS OF BULK AT MOST 1048576: true; the input reads as it did. -/
def fnAddChainUptoRow : OpenClaim := { program := "ytifhocjlfmeecaa", sum := "9e28d978b61aec522976ad26035b5c181e6b593ce004427201622608a3f0f6e1", func := "loop.example/homeconsole/laws.FnAddChain", spec := "fnAddChain", apart := false, narrowed := true }
def FnAddChainUptoSaid : Prop := fnAddChainUptoRow.holds Try.pinned (OpenSpec.upto fnAddChainSpec)

/-- 'laws.FnSubBytes', WHERE WHAT IT READS IS OF BULK AT MOST 1048576: true; the input reads as it did. -/
def fnSubBytesUptoRow : OpenClaim := { program := "ytifhocjlfmeecaa", sum := "9e28d978b61aec522976ad26035b5c181e6b593ce004427201622608a3f0f6e1", func := "loop.example/homeconsole/laws.FnSubBytes", spec := "fnSubBytes", apart := false, narrowed := true }
def FnSubBytesUptoSaid : Prop := fnSubBytesUptoRow.holds Try.pinned (OpenSpec.upto fnSubBytesSpec)

/-- 'laws.FnOrderValid', WHERE WHAT IT READS IS OF BULK AT MOST 1048576: true; the input reads as it did. -/
def fnOrderValidUptoRow : OpenClaim := { program := "ytifhocjlfmeecaa", sum := "9e28d978b61aec522976ad26035b5c181e6b593ce004427201622608a3f0f6e1", func := "loop.example/homeconsole/laws.FnOrderValid", spec := "fnOrderValid", apart := false, narrowed := true }
def FnOrderValidUptoSaid : Prop := fnOrderValidUptoRow.holds Try.pinned (OpenSpec.upto fnOrderValidSpec)

/-- 'laws.FnRotateRight', WHERE WHAT IT READS IS OF BULK AT MOST 1048576: true; the input reads as it did. -/
def fnRotateRightUptoRow : OpenClaim := { program := "ytifhocjlfmeecaa", sum := "9e28d978b61aec522976ad26035b5c181e6b593ce004427201622608a3f0f6e1", func := "loop.example/homeconsole/laws.FnRotateRight", spec := "fnRotateRight", apart := false, narrowed := true }
def FnRotateRightUptoSaid : Prop := fnRotateRightUptoRow.holds Try.pinned (OpenSpec.upto fnRotateRightSpec)

/-- 'laws.FnExactOrderBytes', WHERE WHAT IT READS IS OF BULK AT MOST 1048576: true; the input reads as it did. -/
def fnExactOrderBytesUptoRow : OpenClaim := { program := "ytifhocjlfmeecaa", sum := "9e28d978b61aec522976ad26035b5c181e6b593ce004427201622608a3f0f6e1", func := "loop.example/homeconsole/laws.FnExactOrderBytes", spec := "fnExactOrderBytes", apart := false, narrowed := true }
def FnExactOrderBytesUptoSaid : Prop := fnExactOrderBytesUptoRow.holds Try.pinned (OpenSpec.upto fnExactOrderBytesSpec)

/-- 'laws.FnExactDecodeOrder', WHERE WHAT IT READS IS OF BULK AT MOST 1048576: true; the input reads as it did. -/
def fnExactDecodeOrderUptoRow : OpenClaim := { program := "ytifhocjlfmeecaa", sum := "9e28d978b61aec522976ad26035b5c181e6b593ce004427201622608a3f0f6e1", func := "loop.example/homeconsole/laws.FnExactDecodeOrder", spec := "fnExactDecodeOrder", apart := false, narrowed := true }
def FnExactDecodeOrderUptoSaid : Prop := fnExactDecodeOrderUptoRow.holds Try.pinned (OpenSpec.upto fnExactDecodeOrderSpec)

/-- 'laws.FnOrderUnique', WHERE WHAT IT READS IS OF BULK AT MOST 1048576: true; the input reads as it did. -/
def fnOrderUniqueUptoRow : OpenClaim := { program := "ytifhocjlfmeecaa", sum := "9e28d978b61aec522976ad26035b5c181e6b593ce004427201622608a3f0f6e1", func := "loop.example/homeconsole/laws.FnOrderUnique", spec := "fnOrderUnique", apart := false, narrowed := true }
def FnOrderUniqueUptoSaid : Prop := fnOrderUniqueUptoRow.holds Try.pinned (OpenSpec.upto fnOrderUniqueSpec)

/-- 'laws.FnOrderBytes', WHERE WHAT IT READS IS OF BULK AT MOST 1048576: true; the input reads as it did. -/
def fnOrderBytesUptoRow : OpenClaim := { program := "ytifhocjlfmeecaa", sum := "9e28d978b61aec522976ad26035b5c181e6b593ce004427201622608a3f0f6e1", func := "loop.example/homeconsole/laws.FnOrderBytes", spec := "fnOrderBytes", apart := false, narrowed := true }
def FnOrderBytesUptoSaid : Prop := fnOrderBytesUptoRow.holds Try.pinned (OpenSpec.upto fnOrderBytesSpec)

/-- 'laws.FnDecodeOrder', WHERE WHAT IT READS IS OF BULK AT MOST 1048576: true; the input reads as it did. -/
def fnDecodeOrderUptoRow : OpenClaim := { program := "ytifhocjlfmeecaa", sum := "9e28d978b61aec522976ad26035b5c181e6b593ce004427201622608a3f0f6e1", func := "loop.example/homeconsole/laws.FnDecodeOrder", spec := "fnDecodeOrder", apart := false, narrowed := true }
def FnDecodeOrderUptoSaid : Prop := fnDecodeOrderUptoRow.holds Try.pinned (OpenSpec.upto fnDecodeOrderSpec)

end Rows
end Go.Proofs.Ytifhocjlfmeecaa
