/- What an argument of a law reads as: slices of integers, slices of such slices, memories, machines. No condition. -/
import Derived.Test.YthplgehdgaeapaaDoorCopy
namespace Go.Proofs.YthplgehdgaeapaaDoor
open Go.ChangeShapes Go.WideShapes Go.ChangeAt Go.RowKit Go.Joins
set_option maxRecDepth 100000
section
variable {H : Type} {enc : TypeId × Value → H} {W : World} {base : Nat} {v : Value} {d : DataW H} {p : List MemPlace}
def IsInts (w : World) (v : Value) : Prop := ∃ zs, Ints w v zs
theorem read_ints (hv : Value.okWide Tryd.prog W .any base 24 v) (h : DataW.Trod enc Tryd.prog W 0 (fun _ => true) true 24 v d p) : IsInts W v := by
  obtain ⟨a, len, cap, rfl⟩ := okWide_slice Tryd.underlying24 hv
  obtain ⟨fuel, hf⟩ := h
  rcases open_ints Tryd.underlying24 Tryd.underlying3 (by kernel_rfl) hf with ⟨hcs, _⟩ | ⟨x, l, c, zs, hcs, _, hl, hm, hz, _, hcell, hwz⟩
  · simp [Value.cells] at hcs
    obtain ⟨rfl, rfl, rfl⟩ := hcs
    exact ⟨[], _, _, rfl, Nat.le_refl _, Nat.zero_le _, .inl rfl⟩
  · simp [Value.cells] at hcs
    obtain ⟨rfl, rfl, rfl⟩ := hcs
    simp only [if_true] at hz
    have hlen : (zs.take len).length = len := by rw [List.length_take]; omega
    refine ⟨zs.take len, _, cap, by rw [hlen], by rw [hlen]; exact hl, hm, ?_⟩
    by_cases h0 : len = 0
    · left; subst h0; simp
    · obtain ⟨b, off, spot⟩ := x
      have hc := hcell 0 (by omega)
      have hspot : spot = none := by simpa [Addr.add] using World.cell?_spot hc
      subst hspot
      refine .inr ⟨b, off, rfl, fun i hi => ?_⟩
      rw [hlen] at hi
      rw [← addr_add b off i, hcell i (by omega)]
      simp [List.getD_eq_getElem?_getD, List.getElem?_take_of_lt hi]
end
theorem laws_eqOrder (a b c d : Int) (w : World) : Calls Tryd.prog 29 #[.agg #[.int .i64 a, .int .i64 b], .agg #[.int .i64 c, .int .i64 d]] w fun e w' => e = .returned (.bool (a == c && b == d)) ∧ Below w.heap.size w w' := by
  by_cases h1 : a = c
  · have f1 : (a != c) = false := by simpa using h1
    by_cases h2 : b = d
    · have f2 : (b != d) = false := by simpa using h2
      have H : Hid ((a == c && b == d) = true) := by show (a == c && b == d) = true; simp [h1, h2]
      clear h1 h2
      go_enter Tryd.func29, Tryd.ntmps29
      go_wp2
      go_ret
      exact ⟨ret_bool H.out.symm, by go_grown⟩
    · have f2 : (b != d) = true := by simpa using h2
      have H : Hid ((a == c && b == d) = false) := by show (a == c && b == d) = false; simp [h2]
      clear h1 h2
      go_enter Tryd.func29, Tryd.ntmps29
      go_wp2
      go_ret
      exact ⟨ret_bool H.out.symm, by go_grown⟩
  · have f1 : (a != c) = true := by simpa using h1
    have H : Hid ((a == c && b == d) = false) := by show (a == c && b == d) = false; simp [h1]
    clear h1
    go_enter Tryd.func29, Tryd.ntmps29
    go_wp2
    go_ret
    exact ⟨ret_bool H.out.symm, by go_grown⟩
end Go.Proofs.YthplgehdgaeapaaDoor
