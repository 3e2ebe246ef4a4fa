/- What an argument of a law reads as: a value of each parameter type that can be read as data has the plain form that its word says. No condition. -/
import Derived.Test.YteajhjjcpfbooaaRows
import Derived.Test.YteajhjjcpfbooaaKit
import Derived.ShutString
import Derived.ChangeOld
import Derived.Lib.SmallJoins
import Derived.Deep.Matrix
namespace Go.Proofs.Yteajhjjcpfbooaa
open Go.ChangeShapes Go.WideShapes Go.ChangeAt Go.RowKit Go.Joins
open Go.ChangeMaps (open_string shut_string)

theorem own : ownKnob Try.prog.godebug = none := by kernel_rfl
theorem laidOut : laidOutB Try.prog = true := by kernel_rfl

/-- Four facts on the whole program, which every row asks: reckoned once. -/
theorem shared : Try.prog.stopsHeard = true ∧ Try.prog.mayEnter = true ∧ Try.prog.liftsFinal = false ∧ Try.prog.make = some .cut := by refine ⟨?_, ?_, ?_, ?_⟩ <;> kernel_rfl

section
variable {H : Type} {enc : TypeId × Value → H} {W : World} {base : Nat} {v : Value} {d : DataW H} {p : List MemPlace}

def IsInt (_ : World) (v : Value) : Prop := ∃ n : Int, v = .int .i64 n
theorem read_int (hv : Value.okWide Try.prog W .any base 3 v) (h : DataW.Trod enc Try.prog W 0 (fun _ => true) true 3 v d p) : IsInt W v := by
  obtain ⟨a, rfl, rfl, rfl, wa⟩ := open_int Try.underlying3 hv h
  exact ⟨a, rfl⟩
def IsBool (_ : World) (v : Value) : Prop := ∃ b : Bool, v = .bool b
theorem read_bool (hv : Value.okWide Try.prog W .any base 4 v) (h : DataW.Trod enc Try.prog W 0 (fun _ => true) true 4 v d p) : IsBool W v := by
  obtain ⟨b, rfl, rfl, rfl⟩ := open_bool Try.underlying4 hv h
  exact ⟨b, rfl⟩
def IsTimer (_ : World) (v : Value) : Prop := ∃ l r f : Int, v = .agg #[.int .i64 l, .int .i64 r, .int .i64 f]
theorem cellsTimer : Try.prog.cellsOf 24 = 3 := by kernel_rfl
theorem read_Timer (hv : Value.okWide Try.prog W .any base 24 v) (h : DataW.Trod enc Try.prog W 0 (fun _ => true) true 24 v d p) : IsTimer W v := by
  obtain ⟨c0, c1, c2, y0, y1, y2, m, rfl, rfl, rfl, h0, h1, h2⟩ := open_agg3 Try.underlying24 (by kernel_rfl) cellsTimer hv h
  obtain ⟨a, e0, _, _⟩ := DataW.trod_int Try.underlying3 h0
  obtain ⟨b, e1, _, _⟩ := DataW.trod_int Try.underlying3 h1
  obtain ⟨c, e2, _, _⟩ := DataW.trod_int Try.underlying3 h2
  simp only [List.cons.injEq, and_true] at e0 e1 e2
  subst e0 e1 e2
  exact ⟨a, b, c, rfl⟩
def IsOrder (_ : World) (v : Value) : Prop := ∃ o a : Int, v = .agg #[.int .i64 o, .int .i64 a]
theorem cellsOrder : Try.prog.cellsOf 38 = 2 := by kernel_rfl
theorem read_Order (hv : Value.okWide Try.prog W .any base 38 v) (h : DataW.Trod enc Try.prog W 0 (fun _ => true) true 38 v d p) : IsOrder W v := by
  obtain ⟨c0, c1, y0, y1, m, rfl, rfl, rfl, h0, h1⟩ := open_agg2 Try.underlying38 (by kernel_rfl) cellsOrder hv h
  obtain ⟨a, e0, _, _⟩ := DataW.trod_int Try.underlying3 h0
  obtain ⟨b, e1, _, _⟩ := DataW.trod_int Try.underlying3 h1
  simp only [List.cons.injEq, and_true] at e0 e1
  subst e0 e1
  exact ⟨a, b, rfl⟩
end
end Go.Proofs.Yteajhjjcpfbooaa
