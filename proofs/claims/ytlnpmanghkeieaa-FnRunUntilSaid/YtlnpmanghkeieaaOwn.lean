/- Memory of a call's own, block by block: what lies in the blocks from lo on, below hi, stays as it is while nobody writes there. Plain words; no condition. -/
import Derived.Test.YtlnpmanghkeieaaInts
import Derived.Laws.StructEq
namespace Go.Proofs.Ytlnpmanghkeieaa
open Go.RowKit

/-- The blocks from lo on, below hi, are in w' as in w. -/
def Agree (lo hi : Nat) (w w' : World) : Prop := ∀ k, lo ≤ k → k < hi → w'.heap[k]? = w.heap[k]?
section
variable {lo hi l h B : Nat} {w w' w'' X : World}
theorem Agree.refl (lo hi : Nat) (w : World) : Agree lo hi w w := fun _ _ _ => rfl
theorem Agree.trans (a : Agree lo hi w w') (b : Agree lo hi w' w'') : Agree lo hi w w'' := fun k h1 h2 => (b k h1 h2).trans (a k h1 h2)
theorem Agree.drew (a : Agree lo hi w w') : Agree lo hi w w'.drew := a
theorem Agree.drewN (a : Agree lo hi w w') (n : Nat) : Agree lo hi w (w'.drewN n) := a
theorem Agree.alloc (a : Agree lo hi w w') (hs : hi ≤ w'.heap.size) (o : Obj) : Agree lo hi w (w'.alloc o) := fun k h1 h2 => (Below.heap_alloc _ _ _ (by omega)).trans (a k h1 h2)
theorem Agree.setCell (a : Agree lo hi w w') {p : Addr} (hp : p.block < lo ∨ hi ≤ p.block) (v : Value) : Agree lo hi w (w'.setCell p v) := fun k h1 h2 => (Below.heap_setCell _ _ _ _ (by omega)).trans (a k h1 h2)
theorem agree_below (hb : Below B X w') (a : Agree lo hi w X) (hB : hi ≤ B) : Agree lo hi w w' := fun k h1 h2 => (hb.block k (by omega)).trans (a k h1 h2)
theorem agree_within (hb : Within l h X w') (a : Agree lo hi w X) (hs : hi ≤ X.heap.size) (hd : hi ≤ l ∨ h ≤ lo) : Agree lo hi w w' := fun k h1 h2 => (hb.block k (by omega) (by omega)).trans (a k h1 h2)
theorem below_within (hb : Within l h X w') (a : Below B w X) (hs : B ≤ X.heap.size) (hd : B ≤ l) : Below B w w' :=
  ⟨hb.os.trans a.os, hb.tape.trans a.tape, hb.output.trans a.output, Nat.le_trans a.size hb.size, fun k hk => (hb.block k (by omega) (by omega)).trans (a.block k hk)⟩
theorem Within.wide {l' h' : Nat} (hb : Within l h w w') (h1 : l' ≤ l) (h2 : h ≤ h') : Within l' h' w w' := ⟨hb.os, hb.tape, hb.output, hb.size, fun k hk hn => hb.block k hk (by omega)⟩
theorem Agree.cell (a : Agree lo hi w w') {p : Addr} (h1 : lo ≤ p.block) (h2 : p.block < hi) : w'.cell? p = w.cell? p := World.cell?_of_block (w := w) (a _ h1 h2)
theorem Agree.frozen (a : Agree lo hi w w') {p : Addr} (h1 : lo ≤ p.block) (h2 : p.block < hi) : w'.frozen? p = w.frozen? p := World.frozen?_of_block (w := w) (a _ h1 h2)
theorem Agree.sub {lo' hi' : Nat} (a : Agree lo hi w w') (h1 : lo ≤ lo') (h2 : hi' ≤ hi) : Agree lo' hi' w w' := fun k k1 k2 => a k (by omega) (by omega)
theorem Quiet.below (q : Quiet w w') : Below w.heap.size w w' := by
  obtain ⟨n, rfl⟩ := q
  exact ⟨rfl, rfl, rfl, Nat.le_refl _, fun _ _ => rfl⟩
theorem Own.agree {v : Value} {zs : List Int} (o : Own lo hi w v zs) (a : Agree lo hi w w') : Own lo hi w' v zs := by
  obtain ⟨ad, cap, rfl, h1, h2, h3⟩ := o
  refine ⟨ad, cap, rfl, h1, h2, ?_⟩
  rcases h3 with h0 | ⟨b, off, rfl, hb1, hb2, hc⟩
  · exact .inl h0
  · exact .inr ⟨b, off, rfl, hb1, hb2, fun i hi => ⟨(a.cell (p := ⟨b, off + i, none⟩) hb1 hb2).trans (hc i hi).1, (a.frozen (p := ⟨b, off + i, none⟩) hb1 hb2).trans (hc i hi).2⟩⟩
theorem Own.wide {lo' hi' : Nat} {v : Value} {zs : List Int} (o : Own lo hi w v zs) (k1 : lo' ≤ lo) (k2 : hi ≤ hi') : Own lo' hi' w v zs := by
  obtain ⟨ad, cap, rfl, h1, h2, h3⟩ := o
  refine ⟨ad, cap, rfl, h1, h2, ?_⟩
  rcases h3 with h0 | ⟨b, off, rfl, hb1, hb2, hc⟩
  · exact .inl h0
  · exact .inr ⟨b, off, rfl, by omega, by omega, hc⟩
theorem Ints.below {v : Value} {zs : List Int} (o : Ints w v zs) (hb : Below w.heap.size w w') : Ints w' v zs := by
  obtain ⟨ad, cap, rfl, h1, h2, h3⟩ := o
  refine ⟨ad, cap, rfl, h1, h2, ?_⟩
  rcases h3 with h0 | ⟨b, off, rfl, hc⟩
  · exact .inl h0
  · exact .inr ⟨b, off, rfl, fun i hi => (hb.cell (p := ⟨b, off + i, none⟩) (block_lt_of_cell (hc i hi))).trans (hc i hi)⟩
theorem own_shape {v : Value} {zs : List Int} (o : Own lo hi w v zs) : ∃ (a : Option Addr) (cap : Nat), v = .slice a zs.length cap := by
  obtain ⟨ad, cap, rfl, _⟩ := o
  exact ⟨_, _, rfl⟩
theorem cell_al {W : World} {p : Addr} {v : Value} (o : Obj) (h : W.cell? p = some v) : (W.alloc o).cell? p = some v := (World.cell?_alloc_lt _ _ _ (block_lt_of_cell h)).trans h
theorem cell_be {B : Nat} {W w' : World} {p : Addr} {v : Value} (hb : Below B W w') (h : W.cell? p = some v) (hB : p.block < B) : w'.cell? p = some v := (hb.cell hB).trans h
theorem frozen_be {B : Nat} {W w' : World} {p : Addr} {f : Bool} (hb : Below B W w') (h : W.frozen? p = f) (hB : p.block < B) : w'.frozen? p = f := (hb.frozen hB).trans h
/-- Old cells, old marks behind a call that writes to blocks from l on, below h. -/
theorem wcell (hb : Within l h w w') : (∀ b o, b < w.heap.size → b < l → w'.cell? ⟨b, o, none⟩ = w.cell? ⟨b, o, none⟩) ∧ (∀ b o, b < w.heap.size → b < l → w'.frozen? ⟨b, o, none⟩ = w.frozen? ⟨b, o, none⟩) ∧
    (∀ b o, b < w.heap.size → h ≤ b → w'.cell? ⟨b, o, none⟩ = w.cell? ⟨b, o, none⟩) ∧ (∀ b o, b < w.heap.size → h ≤ b → w'.frozen? ⟨b, o, none⟩ = w.frozen? ⟨b, o, none⟩) :=
  ⟨fun b o k1 k2 => World.cell?_of_block (w := w) (a := ⟨b, o, none⟩) (hb.block b k1 (.inl k2)), fun b o k1 k2 => World.frozen?_of_block (w := w) (a := ⟨b, o, none⟩) (hb.block b k1 (.inl k2)),
    fun b o k1 k2 => World.cell?_of_block (w := w) (a := ⟨b, o, none⟩) (hb.block b k1 (.inr k2)), fun b o k1 k2 => World.frozen?_of_block (w := w) (a := ⟨b, o, none⟩) (hb.block b k1 (.inr k2))⟩
end
/-- '==' and '!=' on instructions. -/
theorem eqOrd (a b c d : Int) (w : World) : (Op.equalIn 10000 58 (.agg #[.int .i64 a, .int .i64 b]) (.agg #[.int .i64 c, .int .i64 d])).run Try.prog w = .ok (a == c && b == d) w := by
  have hS : Try.prog.underlying 58 = some (.struct (Try.prog.fieldsOf 58)) := by kernel_rfl
  have hp : Try.prog.stoodInHeld 58 = false := by kernel_rfl
  have u3 := Try.underlying3
  rw [show (10000 : Nat) = 9999 + 1 from rfl, run_equalIn_agg w 9999 58 _ _ hS hp]
  simp only [Program.fieldsOf, Try.underlying58]
  go_simp
  by_cases h1 : a = c <;> by_cases h2 : b = d <;> simp [h1, h2]
theorem eqOrdG : Try.prog.eqGuardType Try.prog.depth 58 = false := by kernel_rfl
theorem sameInts_b {v u : Value} {xs ys : List Int} {w : World} (h : Ints w v xs) (g : Ints w u ys) : Calls Try.prog 23 #[v, u] w fun e w' => e = .returned (.bool (xs == ys)) ∧ Below w.heap.size w w' := (laws_sameInts h g).mono fun _ _ ⟨he, q⟩ => ⟨he, q.below⟩
end Go.Proofs.Ytlnpmanghkeieaa
