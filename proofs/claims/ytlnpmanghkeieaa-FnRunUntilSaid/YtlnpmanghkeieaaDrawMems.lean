/- The drawn memories, whole, and the drawn addresses. No condition. -/
import Derived.Test.YtlnpmanghkeieaaDrawMem
import Derived.Test.YtlnpmanghkeieaaDrawByte
import Derived.Deep.RegionHeld3
import Derived.Deep.DrawnRows
import Derived.Deep.RegionWith
namespace Go.Proofs.Ytlnpmanghkeieaa
open Go.RowKit
set_option linter.unusedVariables false
attribute [local go_sem ↓] Go.wp_at_zero Go.wp_at_succ

set_option maxHeartbeats 2000000 in
theorem l20Place {rb B : Nat} {w0 : World} (n : Int) (hR0 : Reader w0 rb B) (hB : B ≤ 100000) : Calls Try.prog 13 #[.pointer (some ⟨rb, 0, none⟩), .int .i64 n] w0 (Picks rb (B + 8) w0 AnyInt) := by
  go_enter Try.func13, Try.ntmps13
  go_wp2_with fail
  refine (odd _ hR0 (by omega)).mono ?_
  rintro e w1 ⟨v, rfl, ⟨x1, rfl⟩, hR1, hK1⟩
  cases x1
  · go_wp2_with fail
    refine (pick _ hR1 (by omega)).mono ?_
    rintro e w2 ⟨v, rfl, ⟨x2, rfl, y2, z2⟩, hR2, hK2⟩
    go_wp2_with fail
    refine (pick _ hR2 (by omega)).mono ?_
    rintro e w3 ⟨v, rfl, ⟨x3, rfl, y3, z3⟩, hR3, hK3⟩
    go_wp2_with fail
    refine (pick _ hR3 (by omega)).mono ?_
    rintro e w4 ⟨v, rfl, ⟨x4, rfl, y4, z4⟩, hR4, hK4⟩
    go_wp2_with fail
    refine (pick _ hR4 (by omega)).mono ?_
    rintro e w5 ⟨v, rfl, ⟨x5, rfl, y5, z5⟩, hR5, hK5⟩
    go_wp2_with fail
    refine (pick _ hR5 (by omega)).mono ?_
    rintro e w6 ⟨v, rfl, ⟨x6, rfl, y6, z6⟩, hR6, hK6⟩
    go_wp2_with fail
    refine (pick _ (hR6.alloc _) (by omega)).mono ?_
    rintro e w7 ⟨v, rfl, ⟨x7, rfl, y7, z7⟩, hR7, hK7⟩
    obtain ⟨k, rfl⟩ := Int.eq_ofNat_of_zero_le y7
    have hk : k < 5 := by omega
    have hk' : (k : Int) < 5 := by omega
    obtain ⟨m, hm⟩ := lit_pick hK7 hR6.lt rfl (k := k) hk
    go_wp2_with fail
    go_ret
    exact ⟨_, rfl, ⟨m, rfl⟩, hR7.mono (by omega), hK1.trans (hK2.trans (hK3.trans (hK4.trans (hK5.trans (hK6.trans (((Keep.refl _ _).alloc _).trans hK7))))))⟩
  · go_wp2_with fail
    refine (pick _ (hR1.alloc _) (by omega)).mono ?_
    rintro e w2 ⟨v, rfl, ⟨x2, rfl, y2, z2⟩, hR2, hK2⟩
    obtain ⟨k, rfl⟩ := Int.eq_ofNat_of_zero_le y2
    have hk : k < 2 := by omega
    have hk' : (k : Int) < 2 := by omega
    obtain ⟨m, hm⟩ := lit_pick hK2 hR1.lt rfl (k := k) hk
    go_wp2_with fail
    go_ret
    exact ⟨_, rfl, ⟨m, rfl⟩, hR2.mono (by omega), hK1.trans (((Keep.refl _ _).alloc _).trans hK2)⟩

theorem box_thru {w w0 w1 : World} {rb : Nat} {ob : Obj} (hB0 : Below (w.alloc ob).heap.size (w.alloc ob) w0) (hrb : (w.alloc ob).heap.size ≤ rb) (hK1 : Keep rb w0 w1) :
    (∀ i, w1.cell? ⟨w.heap.size, i, none⟩ = (w.alloc ob).cell? ⟨w.heap.size, i, none⟩) ∧ (∀ i, w1.frozen? ⟨w.heap.size, i, none⟩ = (w.alloc ob).frozen? ⟨w.heap.size, i, none⟩) := by
  have hs : w.heap.size < (w.alloc ob).heap.size := by simp
  have hs0 : w.heap.size < w0.heap.size := Nat.lt_of_lt_of_le hs hB0.size
  have hn : w.heap.size ≠ rb := by omega
  exact ⟨fun i => (hK1.cells.1 _ _ hs0 hn).trans (hB0.cell (p := ⟨w.heap.size, i, none⟩) hs), fun i => (hK1.cells.2 _ _ hs0 hn).trans (hB0.frozen (p := ⟨w.heap.size, i, none⟩) hs)⟩
/-- A drawn memory. -/
def DrawnMem (w : World) (e : Ending) (w' : World) : Prop := ∃ v ram rom bank, e = .returned v ∧ MemV w' v ram rom bank ∧ ram.length ≤ 256 ∧ rom.length ≤ 3 ∧ sumLen rom ≤ 1024 ∧ Below w.heap.size w w'
/-- .. and a number. -/
def DrawnMem1 (w : World) (e : Ending) (w' : World) : Prop := ∃ v ram rom bank x, e = .returned (.tuple #[v, .int .i64 x]) ∧ MemV w' v ram rom bank ∧ ram.length ≤ 256 ∧ rom.length ≤ 3 ∧ sumLen rom ≤ 1024 ∧ Below w.heap.size w w'
/-- .. and two. -/
def DrawnMem2 (w : World) (e : Ending) (w' : World) : Prop := ∃ v ram rom bank x y, e = .returned (.tuple #[v, .int .i64 x, .int .i64 y]) ∧ MemV w' v ram rom bank ∧ ram.length ≤ 256 ∧ rom.length ≤ 3 ∧ sumLen rom ≤ 1024 ∧ Below w.heap.size w w'
/-- .. and three. -/
def DrawnMem3 (w : World) (e : Ending) (w' : World) : Prop := ∃ v ram rom bank x y z, e = .returned (.tuple #[v, .int .i64 x, .int .i64 y, .int .i64 z]) ∧ MemV w' v ram rom bank ∧ ram.length ≤ 256 ∧ rom.length ≤ 3 ∧ sumLen rom ≤ 1024 ∧ Below w.heap.size w w'
theorem MemA.set {L : Nat} {w : World} {v : Value} {ram : List Int} {rom : List (List Int)} {bank : Int} (h : MemA L w v ram rom bank) {p : Addr} (hp : p.block < L) (x : Value) : MemA L (w.setCell p x) v ram rom bank :=
  h.to ((Agree.refl _ _ _).setCell (.inl hp) x) (by rw [size_set]; exact Nat.le_refl _)
theorem MemA.alloc {L : Nat} {w : World} {v : Value} {ram : List Int} {rom : List (List Int)} {bank : Int} (h : MemA L w v ram rom bank) (o : Obj) : MemA L (w.alloc o) v ram rom bank :=
  h.to ((Agree.refl _ _ _).alloc (Nat.le_refl _) o) (by simp)

theorem MemA.drew {L : Nat} {w : World} {v : Value} {ram : List Int} {rom : List (List Int)} {bank : Int} (h : MemA L w v ram rom bank) : MemA L w.drew v ram rom bank :=
  h.to (Agree.refl _ _ _).drew (Nat.le_refl _)
theorem Reader.setOld {w : World} {rb B R i : Nat} {x : Value} (h : Reader w rb B) (hc : w.cell? ⟨R, i, none⟩ = some x) (hx : ∀ n, x ≠ .int .u8 n) (hn : R ≠ rb) (v : Value) : Reader (w.setCell ⟨R, i, none⟩ v) rb B := by
  obtain ⟨a, len, cap, zs, q, hq, c0, c1, fz, l2, code, bytes⟩ := h
  have e : ∀ o, (w.setCell ⟨R, i, none⟩ v).cell? ⟨rb, o, none⟩ = w.cell? ⟨rb, o, none⟩ := fun o => World.cell?_setCell_other _ _ _ _ (by intro e; injection e with e1; exact hn e1)
  refine ⟨a, len, cap, zs, q, hq, (e 0).trans c0, (e 1).trans c1, by simpa [go_sem] using fz, l2, ?_, bytes⟩
  rcases code with h0 | ⟨b, off, rfl, hne, hcell⟩
  · exact .inl h0
  · refine .inr ⟨b, off, rfl, hne, fun j hj => (World.cell?_setCell_other _ _ _ _ ?_).trans (hcell j hj)⟩
    intro e
    injection e with e1 e2
    have := hcell j hj
    rw [← e1, ← e2, hc] at this
    injection this with this
    exact hx _ this
theorem six_setR {W : World} {R Q : Nat} {x y z : Value} (h : Six W R x y z) (hn : Q ≠ R) (i : Nat) (v : Value) : Six (W.setCell ⟨Q, i, none⟩ v) R x y z := by
  obtain ⟨h1, h2, h3, h4, h5, h6⟩ := h
  have e : ∀ o, (W.setCell ⟨Q, i, none⟩ v).cell? ⟨R, o, none⟩ = W.cell? ⟨R, o, none⟩ := fun o => World.cell?_setCell_other _ _ _ _ (by intro e; injection e with e1; exact hn e1)
  exact ⟨(e 0).trans h1, (e 1).trans h2, (e 2).trans h3, by simpa [go_sem] using h4, by simpa [go_sem] using h5, by simpa [go_sem] using h6⟩
def NotByte (v : Value) : Prop := ∀ n, v ≠ .int .u8 n
/-- A draw that holds a memory (in the box n1) and has not ended: its result's box is block R, the reader's rb. -/
structure MidW (w : World) (L rb n1 B : Nat) (v x y z p q r : Value) (ram : List Int) (rom : List (List Int)) (bank : Int) (W : World) : Prop where
  mem : MemA L W v ram rom bank
  bel : Below w.heap.size w W
  six : Six W n1 x y z
  rd : Reader W rb B
  box : Six W w.heap.size p q r
  nb : NotByte p ∧ NotByte q ∧ NotByte r
  l1 : w.heap.size < rb
  l2 : rb < L
  l3 : rb < n1
section
variable {w W W' : World} {L rb n1 B B' : Nat} {v x y z p q r : Value} {ram : List Int} {rom : List (List Int)} {bank : Int}
theorem MidW.keep (h : MidW w L rb n1 B v x y z p q r ram rom bank W) (hK : Keep rb W W') (hR : Reader W' rb B') : MidW w L rb n1 B' v x y z p q r ram rom bank W' := by
  obtain ⟨m, b, s, r, bx, nb, l1, l2, l3⟩ := h
  exact ⟨m.keep hK l2, hK.below b (Nat.le_of_lt l1), six_keepR hK s (block_lt_of_cell s.1) (by omega), hR, six_keepR hK bx (block_lt_of_cell bx.1) (by omega), nb, l1, l2, l3⟩
theorem MidW.drew (h : MidW w L rb n1 B v x y z p q r ram rom bank W) : MidW w L rb n1 B v x y z p q r ram rom bank W.drew := by
  obtain ⟨m, b, s, r, bx, nb, l1, l2, l3⟩ := h
  exact ⟨m.drew, b.drew, s, r.drewM, bx, nb, l1, l2, l3⟩
theorem MidW.alloc (h : MidW w L rb n1 B v x y z p q r ram rom bank W) (o : Obj) : MidW w L rb n1 B v x y z p q r ram rom bank (W.alloc o) :=
  h.keep ((Keep.refl _ _).alloc o) (h.rd.alloc o)
theorem MidW.setBox (h : MidW w L rb n1 B v x y z p q r ram rom bank W) (a : Option Addr) (n c : Nat) (b : Option Addr) (m d : Nat) (k : Int) :
    MidW w L rb n1 B v x y z (.slice a n c) (.slice b m d) (.int .i64 k) ram rom bank (((W.setCell ⟨w.heap.size, 0, none⟩ (.slice a n c)).setCell ⟨w.heap.size, 1, none⟩ (.slice b m d)).setCell ⟨w.heap.size, 2, none⟩ (.int .i64 k)) := by
  obtain ⟨m', b', s, r, bx, ⟨q0, q1, q2⟩, l1, l2, l3⟩ := h
  have e0 := bx.1
  have e1 := bx.2.1
  have e2 := bx.2.2.1
  have h1 := r.setOld e0 q0 (by omega) (.slice a n c)
  have h2 := h1.setOld (i := 1) ((World.cell?_setCell_other _ _ _ _ (by simp)).trans e1) q1 (by omega) (.slice b m d)
  have h3 := h2.setOld (i := 2) ((World.cell?_setCell_other _ _ _ _ (by simp)).trans ((World.cell?_setCell_other _ _ _ _ (by simp)).trans e2)) q2 (by omega) (.int .i64 k)
  have hL : w.heap.size < L := by omega
  have hN : w.heap.size ≠ n1 := by omega
  exact ⟨((m'.set (p := ⟨w.heap.size, 0, none⟩) hL _).set (p := ⟨w.heap.size, 1, none⟩) hL _).set (p := ⟨w.heap.size, 2, none⟩) hL _, ((b'.setCell (Nat.le_refl _) _).setCell (Nat.le_refl _) _).setCell (Nat.le_refl _) _,
    six_setR (six_setR (six_setR s hN _ _) hN _ _) hN _ _, h3, six_set3 bx, ⟨by intro n; simp, by intro n; simp, by intro n; simp⟩, l1, l2, l3⟩
end
end Go.Proofs.Ytlnpmanghkeieaa
