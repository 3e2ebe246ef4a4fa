/- Plain words for the drawn memories. No condition. -/
import Derived.Test.YtlnpmanghkeieaaDrawRom
import Derived.Test.YtlnpmanghkeieaaDrawNew
import Derived.Test.YtlnpmanghkeieaaNewMemS
import Derived.Test.YtlnpmanghkeieaaCopyFns
namespace Go.Proofs.Ytlnpmanghkeieaa
open Go.RowKit
set_option linter.unusedVariables false

theorem Reader.drewM {w : World} {rb B : Nat} (h : Reader w rb B) : Reader w.drew rb B := by
  obtain ⟨a, len, cap, zs, p, hp, c0, c1, fz, l2, code, bytes⟩ := h
  exact ⟨a, len, cap, zs, p, hp, c0, c1, fz, l2, code, bytes⟩
theorem nw_of_banks {rom : List (List Int)} (h : banksB rom = true) (hl : 0 < rom.length) : nwR rom = zeros ∧ nwM rom = rom := by
  have hz : nwOk rom = true := memB_iff.2 ⟨by decide +kernel, h, inR_iff.2 (by omega)⟩
  simp [nwR, nwM, hz]
section
variable {L : Nat} {w w' : World} {B : Nat} {ram : List Int} {rom : List (List Int)} {bank : Int} {a : Option Addr} {c : Nat} {b : Option Addr} {d l1 t1 l2 t2 : Nat}
theorem memIn_box (t : TypeId) {v : Value} (h : OwnMem L w.heap.size w v ram rom bank) (hL : L ≤ w.heap.size) :
    ∃ a c b d l1 t1 l2 t2, v = .agg #[.slice a ram.length c, .slice b rom.length d, .int .i64 bank] ∧ MemIn L (w.alloc (.cells #[.slice a ram.length c, .slice b rom.length d, .int .i64 bank] t)) w.heap.size ram rom bank a c b d l1 t1 l2 t2 := by
  obtain ⟨x, y, l1, t1, l2, t2, rfl, ⟨k1, k3, k2, k4, sep⟩, o1, o2⟩ := h
  obtain ⟨a, c, rfl⟩ := own_shape o1
  obtain ⟨b, d, rfl, _, _⟩ := mat_shape o2.mat
  exact ⟨a, c, b, d, l1, t1, l2, t2, rfl, ⟨by simp [go_sem], by simp [go_sem], by simp [go_sem], by simp [go_sem], hL, k1, k2, by simp; omega, by simp; omega, sep, .inr k3, .inr k4, o1.agree ((Agree.refl _ _ _).alloc k3 _), o2.agree ((Agree.refl _ _ _).alloc k4 _)⟩⟩
theorem MemIn.keepM {rb : Nat} (h : MemIn L w B ram rom bank a c b d l1 t1 l2 t2) (hK : Keep rb w w') (hr : rb < L) : MemIn L w' B ram rom bank a c b d l1 t1 l2 t2 := by
  have hB := h.ltB
  obtain ⟨c0, c1, c2, fz, lB, a1, a2, s1, s2, sep, sB1, sB2, ho, hm⟩ := h
  have hn : B ≠ rb := by omega
  have hs := hK.size
  exact ⟨(hK.cells.1 _ _ hB hn).trans c0, (hK.cells.1 _ _ hB hn).trans c1, (hK.cells.1 _ _ hB hn).trans c2, (hK.cells.2 _ _ hB hn).trans fz, lB, a1, a2, by omega, by omega, sep, sB1, sB2,
    ho.agree (fun k k1 k2 => hK.block k (by omega) (by omega)), hm.agree (fun k k1 k2 => hK.block k (by omega) (by omega))⟩
theorem MemIn.setAt {b' off : Nat} (h : MemIn L w B ram rom bank (some ⟨b', off, none⟩) c b d l1 t1 l2 t2) {q : Nat} (hq : q < ram.length) :
    (∃ y : Int, w.cell? ⟨b', off + q, none⟩ = some (.int .i64 y)) ∧ w.frozen? ⟨b', off + q, none⟩ = false ∧ l1 ≤ b' ∧ b' < t1 ∧ b' ≠ B ∧ b' < w.heap.size ∧ ram.length ≤ c ∧ (c : Int) ≤ 9223372036854775807 ∧
      ∀ x : Int, MemIn L (w.setCell ⟨b', off + q, none⟩ (.int .i64 x)) B (ram.set q x) rom bank (some ⟨b', off, none⟩) c b d l1 t1 l2 t2 := by
  obtain ⟨k2, k3, b2, off2, e, hb1, hb2, hb3, hc, hf, hS⟩ := h.o.set (k := q) hq
  injection e with e
  injection e with e1 e2
  subst e1 e2
  have := h.sB1
  exact ⟨⟨_, hc⟩, hf, hb1, hb2, by omega, hb3, k2, k3, fun x => h.setRam _ (by simp) hb1 hb2 (by rw [List.length_set]; exact hS x)⟩
end
theorem keep_via' {rb : Nat} {w X w' : World} (hK : Keep rb X w') (h : Keep rb w X) : Keep rb w w' := h.trans hK
theorem ints_list_pick {l : List Value} (h : l.all isI64 = true) {k : Nat} (hk : k < l.length) : ∃ m : Int, l[k] = .int .i64 m := by
  have := List.all_eq_true.1 h l[k] (List.getElem_mem hk)
  cases hv : l[k] with
  | int kd m => cases kd <;> simp [isI64, hv] at this; exact ⟨m, rfl⟩
  | _ => simp [isI64, hv] at this
theorem c1_drew {W : World} {p : Addr} {x : Value} (h : W.cell? p = some x) : W.drew.cell? p = some x := h
theorem c1_set {W : World} {B b i : Nat} {x v : Value} (h : W.cell? ⟨B, 0, none⟩ = some x) (hn : b ≠ B) : (W.setCell ⟨b, i, none⟩ v).cell? ⟨B, 0, none⟩ = some x := (World.cell?_setCell_other _ _ _ _ (by intro e; injection e with e1; exact hn e1)).trans h
theorem two_pick {x y : Int} {k : Nat} (hk : k < 2) (h1 : 0 ≤ x ∧ x ≤ 255) (h2 : 0 ≤ y ∧ y ≤ 255) : ∃ q : Nat, q < 256 ∧ ([.int .i64 x, .int .i64 y] : List Value)[k] = .int .i64 (q : Int) := by
  obtain ⟨x', rfl⟩ := Int.eq_ofNat_of_zero_le h1.1
  obtain ⟨y', rfl⟩ := Int.eq_ofNat_of_zero_le h2.1
  rcases (show k = 0 ∨ k = 1 by omega) with rfl | rfl
  · exact ⟨x', by omega, rfl⟩
  · exact ⟨y', by omega, rfl⟩
/-- A memory that stays while the blocks from L on stay. -/
def MemA (L : Nat) (w : World) (v : Value) (ram : List Int) (rom : List (List Int)) (bank : Int) : Prop := ∀ W, Agree L w.heap.size w W → MemV W v ram rom bank
theorem MemA.mem {L : Nat} {w : World} {v : Value} {ram : List Int} {rom : List (List Int)} {bank : Int} (h : MemA L w v ram rom bank) : MemV w v ram rom bank := h w (Agree.refl _ _ _)
theorem MemA.to {L : Nat} {w W : World} {v : Value} {ram : List Int} {rom : List (List Int)} {bank : Int} (h : MemA L w v ram rom bank) (g : Agree L w.heap.size w W) (hs : w.heap.size ≤ W.heap.size) : MemA L W v ram rom bank := fun X k => h X (g.trans (k.sub (Nat.le_refl _) hs))
theorem MemA.up {L L' : Nat} {w : World} {v : Value} {ram : List Int} {rom : List (List Int)} {bank : Int} (h : MemA L w v ram rom bank) (hL : L' ≤ L) : MemA L' w v ram rom bank := fun X k => h X (k.sub hL (Nat.le_refl _))
theorem MemA.keep {L rb : Nat} {w W : World} {v : Value} {ram : List Int} {rom : List (List Int)} {bank : Int} (h : MemA L w v ram rom bank) (hK : Keep rb w W) (hr : rb < L) : MemA L W v ram rom bank := h.to (fun k h1 h2 => hK.block k h2 (by omega)) hK.size
/-- What is drawn. -/
def PicksMem (rb B : Nat) (w : World) (e : Ending) (w' : World) : Prop := ∃ v ram rom bank, e = .returned v ∧ MemA w.heap.size w' v ram rom bank ∧ ram.length ≤ 256 ∧ rom.length ≤ 3 ∧ sumLen rom ≤ 1024 ∧ Reader w' rb (B + 1100) ∧ Keep rb w w'
theorem six_keepR {rb R : Nat} {W W' : World} {x y z : Value} (hK : Keep rb W W') (h : Six W R x y z) (hR : R < W.heap.size) (hn : R ≠ rb) : Six W' R x y z := by
  obtain ⟨h1, h2, h3, h4, h5, h6⟩ := h
  exact ⟨(hK.cells.1 _ _ hR hn).trans h1, (hK.cells.1 _ _ hR hn).trans h2, (hK.cells.1 _ _ hR hn).trans h3, (hK.cells.2 _ _ hR hn).trans h4, (hK.cells.2 _ _ hR hn).trans h5, (hK.cells.2 _ _ hR hn).trans h6⟩
section
variable {l t R : Nat} {W : World} {v x0 x1 x2 : Value} {zs : List Int} {zss : List (List Int)}
theorem agree_fin (hl : R < l) : Agree l t W (((W.setCell ⟨R, 0, none⟩ x0).setCell ⟨R, 1, none⟩ x1).setCell ⟨R, 2, none⟩ x2) :=
  (((Agree.refl l t W).setCell (p := ⟨R, 0, none⟩) (.inl hl) x0).setCell (p := ⟨R, 1, none⟩) (.inl hl) x1).setCell (p := ⟨R, 2, none⟩) (.inl hl) x2
theorem agree_finX {X : World} (hl : R < l) (ht : t ≤ W.heap.size) (g : Agree R (((W.setCell ⟨R, 0, none⟩ x0).setCell ⟨R, 1, none⟩ x1).setCell ⟨R, 2, none⟩ x2).heap.size (((W.setCell ⟨R, 0, none⟩ x0).setCell ⟨R, 1, none⟩ x1).setCell ⟨R, 2, none⟩ x2) X) : Agree l t W X :=
  (agree_fin hl).trans (g.sub (Nat.le_of_lt hl) (by rw [size_set, size_set, size_set]; exact ht))
theorem agree_finXA {X : World} {ob : Obj} (hl : R < l) (ht : t ≤ W.heap.size) (g : Agree R ((((W.setCell ⟨R, 0, none⟩ x0).setCell ⟨R, 1, none⟩ x1).setCell ⟨R, 2, none⟩ x2).alloc ob).heap.size ((((W.setCell ⟨R, 0, none⟩ x0).setCell ⟨R, 1, none⟩ x1).setCell ⟨R, 2, none⟩ x2).alloc ob) X) : Agree l t W X :=
  ((agree_fin hl).alloc (by rw [size_set, size_set, size_set]; exact ht) ob).trans (g.sub (Nat.le_of_lt hl) (by simp only [World.size_alloc, size_set]; omega))
theorem own_fin {X : World} (o : Own l t W v zs) (hl : R < l) (ht : t ≤ W.heap.size) (g : Agree R (((W.setCell ⟨R, 0, none⟩ x0).setCell ⟨R, 1, none⟩ x1).setCell ⟨R, 2, none⟩ x2).heap.size (((W.setCell ⟨R, 0, none⟩ x0).setCell ⟨R, 1, none⟩ x1).setCell ⟨R, 2, none⟩ x2) X) : Ints X v zs := (o.agree (agree_finX hl ht g)).ints
theorem own_finA {X : World} {ob : Obj} (o : Own l t W v zs) (hl : R < l) (ht : t ≤ W.heap.size) (g : Agree R ((((W.setCell ⟨R, 0, none⟩ x0).setCell ⟨R, 1, none⟩ x1).setCell ⟨R, 2, none⟩ x2).alloc ob).heap.size ((((W.setCell ⟨R, 0, none⟩ x0).setCell ⟨R, 1, none⟩ x1).setCell ⟨R, 2, none⟩ x2).alloc ob) X) : Ints X v zs := (o.agree (agree_finXA hl ht g)).ints
theorem mat_fin {X : World} (o : OwnMat l t W v zss) (hl : R < l) (ht : t ≤ W.heap.size) (g : Agree R (((W.setCell ⟨R, 0, none⟩ x0).setCell ⟨R, 1, none⟩ x1).setCell ⟨R, 2, none⟩ x2).heap.size (((W.setCell ⟨R, 0, none⟩ x0).setCell ⟨R, 1, none⟩ x1).setCell ⟨R, 2, none⟩ x2) X) : Mat X v zss := (o.agree (agree_finX hl ht g)).mat
theorem mat_finA {X : World} {ob : Obj} (o : OwnMat l t W v zss) (hl : R < l) (ht : t ≤ W.heap.size) (g : Agree R ((((W.setCell ⟨R, 0, none⟩ x0).setCell ⟨R, 1, none⟩ x1).setCell ⟨R, 2, none⟩ x2).alloc ob).heap.size ((((W.setCell ⟨R, 0, none⟩ x0).setCell ⟨R, 1, none⟩ x1).setCell ⟨R, 2, none⟩ x2).alloc ob) X) : Mat X v zss := (o.agree (agree_finXA hl ht g)).mat
end
end Go.Proofs.Ytlnpmanghkeieaa
