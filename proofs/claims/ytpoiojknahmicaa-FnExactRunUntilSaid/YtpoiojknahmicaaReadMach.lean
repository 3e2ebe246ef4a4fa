/- What an argument of a law reads as: a machine. No condition. -/
import Derived.Test.YtpoiojknahmicaaMachVal
namespace Go.Proofs.Ytpoiojknahmicaa
open Go.ChangeShapes Go.WideShapes Go.ChangeAt Go.RowKit Go.Joins Go.Deep
set_option linter.unusedVariables false
set_option maxRecDepth 100000
theorem array9 {α : Type} {cs : Array α} (h : cs.size = 9) : ∃ c0 c1 c2 c3 c4 c5 c6 c7 c8, cs = #[c0, c1, c2, c3, c4, c5, c6, c7, c8] := by
  obtain ⟨l⟩ := cs
  match l, h with
  | [c0, c1, c2, c3, c4, c5, c6, c7, c8], _ => exact ⟨c0, c1, c2, c3, c4, c5, c6, c7, c8, rfl⟩
theorem list7 {α : Type} {xs : List α} (h : xs.length = 7) : ∃ y0 y1 y2 y3 y4 y5 y6, xs = [y0, y1, y2, y3, y4, y5, y6] := by
  match xs, h with
  | [y0, y1, y2, y3, y4, y5, y6], _ => exact ⟨y0, y1, y2, y3, y4, y5, y6, rfl⟩
section
variable {H : Type} {enc : TypeId × Value → H} {W : World} {base : Nat} {v : Value} {d : DataW H} {p : List MemPlace}
theorem trod_agg3 {P : Program} {t : TypeId} {f0 f1 f2 : Field} {c0 c1 c2 : Value} {fuel : Nat} {x : DataW H × List MemPlace} (hs : P.underlying t = some (.struct #[f0, f1, f2])) (hone : oneCellFields P #[f0, f1, f2] = true)
    (h : DataW.trod enc P W 0 (fun _ => true) true fuel t [c0, c1, c2] = some x) : ∃ (y0 y1 y2 : DataW H × List MemPlace) (n : Nat),
      DataW.trod enc P W 0 (fun _ => true) true n f0.type [c0] = some y0 ∧ DataW.trod enc P W 0 (fun _ => true) true n f1.type [c1] = some y1 ∧ DataW.trod enc P W 0 (fun _ => true) true n f2.type [c2] = some y2 := by
  obtain ⟨y0, y1, y2, n, hx, _, h0, h1, h2⟩ := trod_struct3 hs h
  obtain ⟨o0, k0⟩ := hone_of hone 0 f0 rfl
  obtain ⟨o1, k1⟩ := hone_of hone 1 f1 rfl
  obtain ⟨o2, k2⟩ := hone_of hone 2 f2 rfl
  exact ⟨y0, y1, y2, n, by simpa [o0, k0] using h0, by simpa [o1, k1] using h1, by simpa [o2, k2] using h2⟩
theorem trod_mem {fuel : Nat} {c0 c1 c2 : Value} {x : DataW H × List MemPlace} (h : DataW.trod enc Try.prog W 0 (fun _ => true) true fuel 65 [c0, c1, c2] = some x) : ∃ ram rom bank, c2 = .int .i64 bank ∧ Ints W c0 ram ∧ Mat W c1 rom := by
  obtain ⟨y0, y1, y2, n, h0, h1, h2⟩ := trod_agg3 Try.underlying65 (by kernel_rfl) h
  obtain ⟨ram, hr⟩ := trod_ints h0
  obtain ⟨rom, hm⟩ := trod_mat h1
  obtain ⟨c, e2, _, _⟩ := DataW.trod_int Try.underlying3 h2
  simp only [List.cons.injEq, and_true] at e2
  exact ⟨ram, rom, c, e2, hr, hm⟩
theorem cellsMachine : Try.prog.cellsOf 67 = 9 := by kernel_rfl
theorem cellsInt_ : Try.prog.cellsOf 3 = 1 := by kernel_rfl
theorem cellsBool_ : Try.prog.cellsOf 4 = 1 := by kernel_rfl
theorem cellsInts_ : Try.prog.cellsOf 32 = 1 := by kernel_rfl
def IsMach (w : World) (v : Value) : Prop := ∃ m, MachV w v m
theorem read_Machine (hv : Value.okWide Try.prog W .any base 67 v) (h : DataW.Trod enc Try.prog W 0 (fun _ => true) true 67 v d p) : IsMach W v := by
  obtain ⟨cs, rfl, hsz⟩ := okWide_struct Try.underlying67 hv
  obtain ⟨c0, c1, c2, c3, c4, c5, c6, c7, c8, rfl⟩ := array9 (hsz.trans cellsMachine)
  obtain ⟨fuel, hf⟩ := h
  obtain ⟨xs, n, _, _, hl, hlen, hf'⟩ := DataW.trod_struct Try.underlying67 hf
  obtain ⟨y0, y1, y2, y3, y4, y5, y6, rfl⟩ := list7 hlen
  have g0 := hf' 0 _ rfl
  have g1 := hf' 1 _ rfl
  have g2 := hf' 2 _ rfl
  have g3 := hf' 3 _ rfl
  have g4 := hf' 4 _ rfl
  have g5 := hf' 5 _ rfl
  have g6 := hf' 6 _ rfl
  simp [Value.cells, cellsMemory] at g0
  simp [Value.cells, cellsInt_] at g1 g2 g6
  simp [Value.cells, cellsBool_] at g3 g5
  simp [Value.cells, cellsInts_] at g4
  obtain ⟨ram, rom, bank, rfl, hr, hm⟩ := trod_mem g0
  obtain ⟨a, e1, _, _⟩ := DataW.trod_int Try.underlying3 g1
  obtain ⟨pc, e2, _, _⟩ := DataW.trod_int Try.underlying3 g2
  obtain ⟨k, e3, _⟩ := DataW.trod_bool Try.underlying4 g3
  obtain ⟨back, hb⟩ := trod_ints g4
  obtain ⟨s, e5, _⟩ := DataW.trod_bool Try.underlying4 g5
  obtain ⟨cy, e6, _, _⟩ := DataW.trod_int Try.underlying3 g6
  simp only [List.cons.injEq, and_true] at e1 e2 e3 e5 e6
  subst e1 e2 e3 e5 e6
  exact ⟨⟨ram, rom, bank, a, pc, k, back, s, cy⟩, c0, c1, c6, rfl, hr, hm, hb⟩
end
end Go.Proofs.Ytpoiojknahmicaa
