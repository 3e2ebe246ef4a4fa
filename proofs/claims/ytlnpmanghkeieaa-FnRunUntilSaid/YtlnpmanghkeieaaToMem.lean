/- The walk of the function that copies a memory for the laws; a memory as an argument. No condition. -/
import Derived.Test.YtlnpmanghkeieaaMemory
import Derived.Test.YtlnpmanghkeieaaReadMore
namespace Go.Proofs.Ytlnpmanghkeieaa
open Go.RowKit

/-- A memory of the call's own. -/
def MadeMem (ram : List Int) (rom : List (List Int)) (bank : Int) (w : World) (e : Ending) (w' : World) : Prop := ∃ v, e = .returned v ∧ OwnMem w.heap.size w'.heap.size w' v ram rom bank ∧ Below w.heap.size w w'
end Go.Proofs.Ytlnpmanghkeieaa
