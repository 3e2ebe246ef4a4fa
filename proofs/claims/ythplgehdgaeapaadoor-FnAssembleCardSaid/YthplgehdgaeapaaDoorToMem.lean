/- The walk of the function that copies a memory for the laws; a memory as an argument. No condition. -/
import Derived.Test.YthplgehdgaeapaaDoorMemory
import Derived.Test.YthplgehdgaeapaaDoorReadMore
namespace Go.Proofs.YthplgehdgaeapaaDoor
open Go.RowKit

/-- A memory of the call's own. -/
def MadeMem (ram : List Int) (rom : List (List Int)) (bank : Int) (w : World) (e : Ending) (w' : World) : Prop := ∃ v, e = .returned v ∧ OwnMem w.heap.size w'.heap.size w' v ram rom bank ∧ Below w.heap.size w w'
end Go.Proofs.YthplgehdgaeapaaDoor
