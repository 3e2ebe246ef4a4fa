/- The walks of NewMachine. No condition. -/
import Derived.Test.YtkkgolgmhckgoaaNewMemS
import Derived.Test.YtkkgolgmhckgoaaMachVal
import Derived.Laws.Cover3
namespace Go.Proofs.Ytkkgolgmhckgoaa
open Go.RowKit
set_option linter.unusedVariables false

/-- What NewMachine answers. -/
def newM (rom : List (List Int)) : Mach := if nwOk rom then ⟨zeros, rom, 0, 0, 512, false, [], false, 0⟩ else zeroM
theorem newM_no {rom : List (List Int)} (h : nwOk rom = false) : newM rom = zeroM := by simp [newM, h]
theorem newM_yes {rom : List (List Int)} (h : nwOk rom = true) : newM rom = ⟨zeros, rom, 0, 0, 512, false, [], false, 0⟩ := by simp [newM, h]
theorem ownMach_zero {lo hi : Nat} {w : World} (h : lo ≤ hi) : OwnMach lo hi w (.agg #[.slice none 0 0, .slice none 0 0, .int .i64 0, .int .i64 0, .int .i64 0, .bool false, .slice none 0 0, .bool false, .int .i64 0]) zeroM :=
  ⟨_, _, _, lo, rfl, Nat.le_refl _, h, ownMem_zero (Nat.le_refl _), own_nilV _ _ _⟩
theorem ownMach_new {lo hi : Nat} {w : World} {x y : Value} {rom : List (List Int)} (h : OwnMem lo hi w (.agg #[x, y, .int .i64 0]) zeros rom 0) (h0 : lo ≤ hi) : OwnMach lo hi w (.agg #[x, y, .int .i64 0, .int .i64 0, .int .i64 512, .bool false, .slice none 0 0, .bool false, .int .i64 0]) ⟨zeros, rom, 0, 0, 512, false, [], false, 0⟩ :=
  ⟨_, _, _, hi, rfl, h0, Nat.le_refl _, h, own_nilV _ _ _⟩
theorem madeMach_of {m m' : Mach} {w : World} {e : Ending} {w' : World} (h : MadeMach m w e w') (h1 : m = m') : MadeMach m' w e w' := h1 ▸ h
theorem frozen_new (W : World) (cs : Array Value) (e : TypeId) (i : Nat) : (W.alloc (.cells cs e)).frozen? ⟨W.heap.size, i, none⟩ = false := by simp [go_sem]
theorem frozen_from {W w1 w2 : World} {cs : Array Value} {e : TypeId} {o : Obj} (h1 : Below (W.alloc (.cells cs e)).heap.size (W.alloc (.cells cs e)) w1) (h2 : Below (w1.alloc o).heap.size (w1.alloc o) w2) : ∀ i, w2.frozen? ⟨W.heap.size, i, none⟩ = false := fun i => by
  have hs := h1.size
  have hb : Below (W.alloc (.cells cs e)).heap.size (W.alloc (.cells cs e)) w2 := (h1.alloc hs o).trans (h2.mono (by simp at hs ⊢; omega))
  exact (hb.frozen (p := ⟨W.heap.size, i, none⟩) (by simp)).trans (frozen_new W cs e i)
theorem eql_nil (W : World) (a : Option Addr) (l c : Nat) : (binOp .eql 23 (.slice a l c) (.slice none 0 0)).run Try.prog W = .ok (.bool a.isNone) W := by
  unfold binOp
  simp [run_equal_slice_nil W 23 3 a l c Try.underlying23]
set_option maxHeartbeats 1000000 in
set_option maxRecDepth 20000 in
theorem impl_NewMachine {v : Value} {rom : List (List Int)} {w : World} (h : Mat w v rom) (z2 : rom.length ≤ 1048576) (z3 : sumLen rom ≤ 1048576) : Calls Try.prog 43 #[v] w (MadeMach (newM rom) w) := by
  have H := Lib.hid h
  obtain ⟨a, c, rfl, k1, k2⟩ := mat_shape h
  clear h
  have tR0 : Mc (w.alloc (.cells #[.slice none 0 0, .slice none 0 0, .int .i64 0, .int .i64 0, .int .i64 0, .bool false, .slice none 0 0, .bool false, .int .i64 0] 39)) w.heap.size (.slice none 0 0) (.slice none 0 0) (.slice none 0 0) zeroM := mc_zero rfl
  have hq := eql_nil
  go_enter Try.func43, Try.ntmps43
  go_wp2_with fail
  refine (impl_NewMemoryZ (H.out.alloc _) (by omega) (by omega)).mono ?_
  rintro e w1 ⟨v1, rfl, o1, hb1, hz1⟩
  have HZ := Lib.hid hz1
  clear hz1
  have tR1 := mc_below hb1 tR0
  have hB1 : Hid (Below w.heap.size w w1) := ((Below.refl _ _).alloc (Nat.le_refl _) _).trans (hb1.mono (by simp))
  have O1 := Lib.hid o1
  have hs1 : w.heap.size + 1 ≤ w1.heap.size := Nat.le_trans (by simp) hb1.size
  obtain ⟨a1, c1, b1, d1, rfl, _, _, _, _⟩ := memV_shape O1.out.mem
  clear o1 tR0
  have tM := three_lit (W := w1) (x := .slice a1 (nwR rom).length c1) (y := .slice b1 (nwM rom).length d1) (z := .int .i64 0) (e := 37) rfl
  have hM2 := Lib.hid (O1.out.mem.alloc (.cells #[.slice a1 (nwR rom).length c1, .slice b1 (nwM rom).length d1, .int .i64 0] 37))
  have hX : Hid (∀ t, nwOk rom = t → memB (nwR rom) (nwM rom) 0 = t) := by
    intro t ht
    cases t
    · have e1 : nwR rom = [] := by simp [nwR, ht]
      have e2 : nwM rom = [] := by simp [nwM, ht]
      rw [e1, e2]; rfl
    · have e1 : nwR rom = zeros := by simp [nwR, ht]
      have e2 : nwM rom = rom := by simp [nwM, ht]
      rw [e1, e2]; exact ht
  have TR := Lib.hid (mc_alloc (.cells #[.slice a1 (nwR rom).length c1, .slice b1 (nwM rom).length d1, .int .i64 0] 37) tR1)
  have hFin : Hid (nwOk rom = true → (OwnMem (w.alloc (.cells #[.slice none 0 0, .slice none 0 0, .int .i64 0, .int .i64 0, .int .i64 0, .bool false, .slice none 0 0, .bool false, .int .i64 0] 39)).heap.size w1.heap.size w1 (.agg #[.slice a1 (nwR rom).length c1, .slice b1 (nwM rom).length d1, .int .i64 0]) zeros rom 0)) := fun ht => by
    have e1 : nwR rom = zeros := by simp [nwR, ht]
    have e2 : nwM rom = rom := by simp [nwM, ht]
    have := O1.out
    rw [e1, e2] at this ⊢
    exact this
  have hlt : w.heap.size < w1.heap.size := by omega
  have hF2 : ∀ i, (w1.alloc (.cells #[.slice a1 (nwR rom).length c1, .slice b1 (nwM rom).length d1, .int .i64 0] 37)).frozen? ⟨w.heap.size, i, none⟩ = false := fun i => (((Below.refl w1.heap.size w1).alloc (Nat.le_refl _) _).frozen (p := ⟨w.heap.size, i, none⟩) hlt).trans ((hb1.frozen (p := ⟨w.heap.size, i, none⟩) (by simp)).trans (frozen_new w _ 39 i))
  have hB2 : Hid (Below w.heap.size w (w1.alloc (.cells #[.slice a1 (nwR rom).length c1, .slice b1 (nwM rom).length d1, .int .i64 0] 37))) := hB1.out.alloc hB1.out.size _
  have hFin2 : Hid (nwOk rom = true → OwnMem (w.heap.size + 1) w1.heap.size (w1.alloc (.cells #[.slice a1 (nwR rom).length c1, .slice b1 (nwM rom).length d1, .int .i64 0] 37)) (.agg #[.slice a1 (nwR rom).length c1, .slice b1 (nwM rom).length d1, .int .i64 0]) zeros rom 0) := fun ht => ((hFin.out ht).wide (by simp) (Nat.le_refl _)).agree ((Agree.refl _ _ _).alloc (Nat.le_refl _) _)
  have hsz : (w1.alloc (.cells #[.slice a1 (nwR rom).length c1, .slice b1 (nwM rom).length d1, .int .i64 0] 37)).heap.size = w1.heap.size + 1 := by simp
  have hTR := TR.out
  clear hFin hM2 hX tR1 hb1 TR
  go_upto_region 2 with fail
  generalize (w1.alloc (.cells #[.slice a1 (nwR rom).length c1, .slice b1 (nwM rom).length d1, .int .i64 0] 37)) = W2 at *
  obtain ⟨⟨r0, r1, r2⟩, ⟨r3, r4, r5⟩, r6, r7, r8⟩ := hTR
  obtain ⟨t0, t1, t2⟩ := tM
  cases hok : nwOk rom
  · have hN := Lib.hid (newM_no hok)
    have hz := HZ.out hok
    simp only [Value.agg.injEq, Array.mk.injEq, List.cons.injEq, and_true, Value.slice.injEq] at hz
    obtain ⟨⟨rfl, hz1, rfl⟩, rfl, hz2, rfl⟩ := hz
    clear hz1 hz2 hFin2 HZ hsz
    generalize (nwR rom).length = R at *
    generalize (nwM rom).length = M at *
    go_wp2_with fail
    refine bodyPost_ret (v := .agg #[.slice none 0 0, .slice none 0 0, .int .i64 0, .int .i64 0, .int .i64 0, .bool false, .slice none 0 0, .bool false, .int .i64 0]) (by simp [results, Try.results43, go_sem, r0, r1, r2, r3, r4, r5, r6, r7, r8, zeroM]) rfl ⟨_, rfl, (by rw [hN.out]; exact ownMach_zero (by simp only [size_set]; exact hB2.out.size)), ?_⟩
    repeat (with_reducible refine Below.setCell ?_ (by show w.heap.size ≤ w.heap.size; omega) _)
    exact hB2.out
  · have hN := Lib.hid (newM_yes hok)
    have F := Lib.hid (hFin2.out hok)
    obtain ⟨hxi, _⟩ := memV_parts F.out.mem
    obtain ⟨hRl, hRc, _, bb, oo, rfl, _, _⟩ := ints_at_ hxi (k := 0) (by rw [zeros_len]; omega)
    clear hxi hFin2 HZ hRl hRc
    generalize (nwR rom).length = R at *
    generalize (nwM rom).length = M at *
    have HS := Lib.hid hsz
    clear hsz
    go_wp2_with fail
    refine bodyPost_ret (v := .agg #[.slice (some ⟨bb, oo, none⟩) R c1, .slice b1 M d1, .int .i64 0, .int .i64 0, .int .i64 512, .bool false, .slice none 0 0, .bool false, .int .i64 0]) (by simp [results, Try.results43, go_sem, r0, r1, r2, r3, r4, r5, r6, r7, r8, zeroM]) rfl ⟨_, rfl, ?_, ?_⟩
    · rw [hN.out]
      refine (ownMach_new (F.out.agree (by (repeat (first | assumption | with_reducible exact Agree.refl _ _ _ | with_reducible refine agree_below (by assumption) ?_ (by first | omega | go_size) | with_reducible refine agree_within (by assumption) ?_ (by first | omega | go_size) (by omega) | with_reducible refine Agree.alloc ?_ (by first | omega | go_size) _ | with_reducible refine Agree.setCell ?_ (by first | omega | (dsimp only; omega)) _ | with_reducible refine Agree.drew ?_)))) (by omega)).wide (by omega) (by have := HS.out; simp only [size_set]; omega)
    · repeat (with_reducible refine Below.setCell ?_ (by show w.heap.size ≤ w.heap.size; omega) _)
      exact hB2.out
end Go.Proofs.Ytkkgolgmhckgoaa
