/- What an argument of a law reads as: rows of integers, memories. No condition. -/
import Derived.Test.YthplgehdgaeapaaDoorToMem
namespace Go.Proofs.YthplgehdgaeapaaDoor
open Go.ChangeShapes Go.WideShapes Go.ChangeAt Go.RowKit Go.Joins
set_option maxRecDepth 100000
section
variable {H : Type} {enc : TypeId × Value → H} {W : World} {base : Nat} {v : Value} {d : DataW H} {p : List MemPlace}
theorem ints_of {a : Option Addr} {len cap : Nat} {zs : List Int} (h1 : len ≤ cap) (h2 : cap ≤ maxLen) (hz : zs.length = cap) (hn : a = none → cap = 0) (hc : ∀ a', a = some a' → ∀ c, c < cap → W.cell? (a'.add c) = some (.int .i64 (zs.getD c 0))) :
    Ints W (.slice a len cap) (zs.take len) := by
  have hlen : (zs.take len).length = len := by rw [List.length_take]; omega
  refine ⟨a, cap, by rw [hlen], by rw [hlen]; exact h1, h2, ?_⟩
  by_cases h0 : len = 0
  · left; subst h0; simp
  · rcases a with _ | ⟨b, off, spot⟩
    · have := hn rfl; omega
    · have hc0 := hc _ rfl 0 (by omega)
      have hspot : spot = none := by simpa [Addr.add] using World.cell?_spot hc0
      subst hspot
      refine .inr ⟨b, off, rfl, fun i hi => ?_⟩
      rw [hlen] at hi
      rw [← addr_add b off i, hc _ rfl i (by omega)]
      simp [List.getD_eq_getElem?_getD, List.getElem?_take_of_lt hi]
theorem trod_ints {fuel : Nat} {x : DataW H × List MemPlace} (h : DataW.trod enc Tryd.prog W 0 (fun _ => true) true fuel 24 [v] = some x) : ∃ zs, Ints W v zs := by
  rcases open_ints Tryd.underlying24 Tryd.underlying3 (by kernel_rfl) h with ⟨hcs, _⟩ | ⟨x, l, c, zs, hcs, _, hl, hm, hz, _, hcell, hwz⟩
  · simp at hcs
    subst hcs
    exact ⟨[], _, _, rfl, Nat.le_refl _, Nat.zero_le _, .inl rfl⟩
  · simp at hcs
    subst hcs
    simp only [if_true] at hz
    exact ⟨_, ints_of hl hm hz (fun h => by cases h) (fun a' e c hc => by injection e with e; subst e; exact hcell c (by omega))⟩
def IsMat (w : World) (v : Value) : Prop := ∃ zss, Mat w v zss
end
end Go.Proofs.YthplgehdgaeapaaDoor
