/- The draws of timers, whole. No condition. -/
import Derived.Test.YtadippkanlbgjaaDrawTimer
namespace Go.Proofs.Ytadippkanlbgjaa
open Go.RowKit

theorem box3_through {w w0 w1 : World} {rb : Nat} {a b c : Int} {t : TypeId} (hB0 : Below (w.alloc (.cells #[.int .i64 a, .int .i64 b, .int .i64 c] t)).heap.size (w.alloc (.cells #[.int .i64 a, .int .i64 b, .int .i64 c] t)) w0)
    (hrb : (w.alloc (.cells #[.int .i64 a, .int .i64 b, .int .i64 c] t)).heap.size ≤ rb) (hK1 : Keep rb w0 w1) : (w1.cell? ⟨w.heap.size, 0, none⟩ = some (.int .i64 a) ∧ w1.cell? ⟨w.heap.size, 1, none⟩ = some (.int .i64 b) ∧ w1.cell? ⟨w.heap.size, 2, none⟩ = some (.int .i64 c)) ∧
    w1.frozen? ⟨w.heap.size, 0, none⟩ = false ∧ w1.frozen? ⟨w.heap.size, 1, none⟩ = false ∧ w1.frozen? ⟨w.heap.size, 2, none⟩ = false := by
  have hs : w.heap.size < (w.alloc (.cells #[.int .i64 a, .int .i64 b, .int .i64 c] t)).heap.size := by simp
  have hs0 : w.heap.size < w0.heap.size := Nat.lt_of_lt_of_le hs hB0.size
  have hn : w.heap.size ≠ rb := by omega
  have C : ∀ i, w1.cell? ⟨w.heap.size, i, none⟩ = (w.alloc (.cells #[.int .i64 a, .int .i64 b, .int .i64 c] t)).cell? ⟨w.heap.size, i, none⟩ := fun i => (hK1.cells.1 _ _ hs0 hn).trans (hB0.cell (p := ⟨w.heap.size, i, none⟩) hs)
  have D : ∀ i, w1.frozen? ⟨w.heap.size, i, none⟩ = (w.alloc (.cells #[.int .i64 a, .int .i64 b, .int .i64 c] t)).frozen? ⟨w.heap.size, i, none⟩ := fun i => (hK1.cells.2 _ _ hs0 hn).trans (hB0.frozen (p := ⟨w.heap.size, i, none⟩) hs)
  refine ⟨⟨(C 0).trans ?_, (C 1).trans ?_, (C 2).trans ?_⟩, (D 0).trans ?_, (D 1).trans ?_, (D 2).trans ?_⟩ <;> simp [go_sem]
theorem draw_NextFire {v : Value} {w : World} (h : IsBytes w v) : Calls Try.prog 18 #[v] w (Drawn AnyTimer w) := by
  have H := Lib.hid (h.below ((Below.refl _ _).alloc (Nat.le_refl _) (.cells #[.int .i64 0, .int .i64 0, .int .i64 0] 24)))
  clear h
  go_enter Try.func18, Try.ntmps18
  go_wp2_with fail
  refine (l20Open H.out).mono ?_
  rintro e w0 ⟨rb, rfl, hrb, hR0, hB0⟩
  go_wp2_with fail
  refine (l20Timer _ hR0 (by omega)).mono ?_
  rintro e w1 ⟨v, rfl, ⟨a, b, c, rfl, hc8⟩, hR1, hK1⟩
  obtain ⟨⟨p0, p1, p2⟩, q0, q1, q2⟩ := box3_through hB0 hrb hK1
  have hw : w.heap.size < (w.alloc (.cells #[.int .i64 0, .int .i64 0, .int .i64 0] 24)).heap.size := by simp
  have hb1 : Below w.heap.size w w1 := hK1.below (((Below.refl _ _).alloc (Nat.le_refl _) _).trans (hB0.mono (by omega))) (by omega)
  clear hB0 hrb hR0 hR1 hK1
  go_wp2_with fail
  refine bodyPost_ret (v := .agg #[.int .i64 a, .int .i64 b, .int .i64 c]) (by simp [results, Try.results18, go_sem, p0, p1, p2]) rfl ⟨_, rfl, ⟨_, _, _, rfl, hc8⟩, ?_⟩
  exact ((hb1.setCell (Nat.le_refl _) _).setCell (Nat.le_refl _) _).setCell (Nat.le_refl _) _
end Go.Proofs.Ytadippkanlbgjaa
