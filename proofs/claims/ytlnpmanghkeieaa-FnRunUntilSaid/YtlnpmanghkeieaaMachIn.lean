/- A machine in place in a block: its memory's blocks, its cells, its return addresses in a block of their own; what stores, appends and pokes make of it. Plain; no condition. -/
import Derived.Test.YtlnpmanghkeieaaMachFns
import Derived.Test.YtlnpmanghkeieaaPoke
import Derived.Test.YtlnpmanghkeieaaApp
namespace Go.Proofs.Ytlnpmanghkeieaa
open Go.RowKit
set_option linter.unusedVariables false

structure MachIn (L : Nat) (w : World) (B : Nat) (m : Mach) (a : Option Addr) (c : Nat) (b : Option Addr) (d l1 t1 l2 t2 : Nat) (v : Value) : Prop where
  mem : MemIn L w B m.ram m.rom m.bank a c b d l1 t1 l2 t2
  mc : Mc w B (.slice a m.ram.length c) (.slice b m.rom.length d) v m
  mf : McF w B
  bk : OwnV w L 3 v (m.back.map (.int .i64))
  bs : ∀ g, v.ownBlock = some g → t1 ≤ g ∧ t2 ≤ g ∧ g ≠ B
def InM (L : Nat) (w : World) (B : Nat) (m : Mach) : Prop := ∃ a c b d l1 t1 l2 t2 v, MachIn L w B m a c b d l1 t1 l2 t2 v
theorem mcf_below {w w' : World} {B n : Nat} (hb : Below n w w') (h : McF w B) (hB : B < n) : McF w' B := fun i hi => frozen_be hb (h i hi) hB
theorem mcf_set {w : World} {B : Nat} (h : McF w B) (p : Addr) (v : Value) : McF (w.setCell p v) B := fun i hi => by
  have := h i hi
  simpa [go_sem] using this
theorem OwnV.raise {w : World} {L M e : Nat} {v : Value} {vs : List Value} (h : OwnV w L e v vs) (hb : ∀ g, v.ownBlock = some g → M ≤ g) : OwnV w M e v vs := by
  refine ⟨h.1, ?_⟩
  rcases h.2 with h0 | ⟨g, cap, cur, rfl, h1, h2, h3⟩
  · exact .inl h0
  · exact .inr ⟨g, cap, cur, rfl, hb g rfl, h2, h3⟩
section
variable {L : Nat} {w w' : World} {B : Nat} {m : Mach} {a : Option Addr} {c : Nat} {b : Option Addr} {d l1 t1 l2 t2 : Nat} {v : Value}
theorem MemIn.setHigh {ram : List Int} {rom : List (List Int)} {bank : Int} (h : MemIn L w B ram rom bank a c b d l1 t1 l2 t2) (i : Nat) (hi : 3 ≤ i) (x : Value) : MemIn L (w.setCell ⟨B, i, none⟩ x) B ram rom bank a c b d l1 t1 l2 t2 := by
  have hs := h.sB1
  have ht := h.sB2
  have e : ∀ o, o < 3 → (w.setCell ⟨B, i, none⟩ x).cell? ⟨B, o, none⟩ = w.cell? ⟨B, o, none⟩ := fun o ho => World.cell?_setCell_other _ _ _ _ (by intro e; injection e with _ e1; omega)
  have hf := h.fz
  exact ⟨(e 0 (by decide)).trans h.c0, (e 1 (by decide)).trans h.c1, (e 2 (by decide)).trans h.c2, by simpa [go_sem] using hf, h.lB, h.a1, h.a2, by rw [size_set]; exact h.s1, by rw [size_set]; exact h.s2, h.sep, h.sB1, h.sB2,
    h.o.agree ((Agree.refl _ _ w).setCell (by show B < l1 ∨ t1 ≤ B; omega) _), h.m.agree ((Agree.refl _ _ w).setCell (by show B < l2 ∨ t2 ≤ B; omega) _)⟩
theorem MachIn.ltB (h : MachIn L w B m a c b d l1 t1 l2 t2 v) : B < w.heap.size := h.mc.lt
theorem MachIn.below (h : MachIn L w B m a c b d l1 t1 l2 t2 v) (hb : Below w.heap.size w w') : MachIn L w' B m a c b d l1 t1 l2 t2 v :=
  ⟨h.mem.below hb, mc_below hb h.mc, mcf_below hb h.mf h.ltB, h.bk.of fun g hg => hb.block g (h.bk.lt g hg).2, h.bs⟩
theorem MachIn.alloc (h : MachIn L w B m a c b d l1 t1 l2 t2 v) (o : Obj) : MachIn L (w.alloc o) B m a c b d l1 t1 l2 t2 v := h.below ((Below.refl _ _).alloc (Nat.le_refl _) o)
theorem MachIn.drew (h : MachIn L w B m a c b d l1 t1 l2 t2 v) : MachIn L w.drew B m a c b d l1 t1 l2 t2 v := h.below ⟨rfl, rfl, rfl, Nat.le_refl _, fun _ _ => rfl⟩
theorem InM.below (h : InM L w B m) (hb : Below w.heap.size w w') : InM L w' B m := by
  obtain ⟨a, c, b, d, l1, t1, l2, t2, v, h⟩ := h
  exact ⟨a, c, b, d, l1, t1, l2, t2, v, h.below hb⟩
theorem InM.ltB (h : InM L w B m) : B < w.heap.size := by
  obtain ⟨a, c, b, d, l1, t1, l2, t2, v, h⟩ := h
  exact h.ltB
theorem InM.lB (h : InM L w B m) : L ≤ B := by
  obtain ⟨a, c, b, d, l1, t1, l2, t2, v, h⟩ := h
  exact h.mem.lB
/-- A store to one of the cells behind the memory that is not the return addresses'. -/
theorem MachIn.set {m' : Mach} (h : MachIn L w B m a c b d l1 t1 l2 t2 v) {i : Nat} (hi : 3 ≤ i) (x : Value) (e1 : m'.ram = m.ram) (e2 : m'.rom = m.rom) (e3 : m'.bank = m.bank) (e4 : m'.back = m.back)
    (hc : Mc (w.setCell ⟨B, i, none⟩ x) B (.slice a m.ram.length c) (.slice b m.rom.length d) v m') : MachIn L (w.setCell ⟨B, i, none⟩ x) B m' a c b d l1 t1 l2 t2 v := by
  refine ⟨?_, ?_, mcf_set h.mf _ _, ?_, h.bs⟩
  · rw [e1, e2, e3]; exact h.mem.setHigh i hi x
  · rw [e1, e2]; exact hc
  · rw [e4]
    exact h.bk.of fun g hg => Below.heap_setCell _ _ _ _ (h.bs g hg).2.2
theorem MachIn.setA (h : MachIn L w B m a c b d l1 t1 l2 t2 v) (q : Int) : MachIn L (w.setCell ⟨B, 3, none⟩ (.int .i64 q)) B { m with a := q } a c b d l1 t1 l2 t2 v := by
  refine h.set (by decide) _ rfl rfl rfl rfl ?_
  have k : ∀ o, o ≠ 3 → (w.setCell ⟨B, 3, none⟩ (.int .i64 q)).cell? ⟨B, o, none⟩ = w.cell? ⟨B, o, none⟩ := fun o ho => World.cell?_setCell_other _ _ _ _ (by intro e; injection e with _ e1; exact ho e1.symm)
  obtain ⟨⟨h0, h1, h2⟩, ⟨h3, h4, h5⟩, h6, h7, h8⟩ := h.mc
  exact ⟨⟨(k 0 (by decide)).trans h0, (k 1 (by decide)).trans h1, (k 2 (by decide)).trans h2⟩, ⟨World.cell?_setCell_same _ _ _ h3, (k 4 (by decide)).trans h4, (k 5 (by decide)).trans h5⟩, (k 6 (by decide)).trans h6, (k 7 (by decide)).trans h7, (k 8 (by decide)).trans h8⟩
theorem MachIn.setPc (h : MachIn L w B m a c b d l1 t1 l2 t2 v) (q : Int) : MachIn L (w.setCell ⟨B, 4, none⟩ (.int .i64 q)) B { m with pc := q } a c b d l1 t1 l2 t2 v := by
  refine h.set (by decide) _ rfl rfl rfl rfl ?_
  have k : ∀ o, o ≠ 4 → (w.setCell ⟨B, 4, none⟩ (.int .i64 q)).cell? ⟨B, o, none⟩ = w.cell? ⟨B, o, none⟩ := fun o ho => World.cell?_setCell_other _ _ _ _ (by intro e; injection e with _ e1; exact ho e1.symm)
  obtain ⟨⟨h0, h1, h2⟩, ⟨h3, h4, h5⟩, h6, h7, h8⟩ := h.mc
  exact ⟨⟨(k 0 (by decide)).trans h0, (k 1 (by decide)).trans h1, (k 2 (by decide)).trans h2⟩, ⟨(k 3 (by decide)).trans h3, World.cell?_setCell_same _ _ _ h4, (k 5 (by decide)).trans h5⟩, (k 6 (by decide)).trans h6, (k 7 (by decide)).trans h7, (k 8 (by decide)).trans h8⟩
theorem MachIn.setCarry (h : MachIn L w B m a c b d l1 t1 l2 t2 v) (q : Bool) : MachIn L (w.setCell ⟨B, 5, none⟩ (.bool q)) B { m with carry := q } a c b d l1 t1 l2 t2 v := by
  refine h.set (by decide) _ rfl rfl rfl rfl ?_
  have k : ∀ o, o ≠ 5 → (w.setCell ⟨B, 5, none⟩ (.bool q)).cell? ⟨B, o, none⟩ = w.cell? ⟨B, o, none⟩ := fun o ho => World.cell?_setCell_other _ _ _ _ (by intro e; injection e with _ e1; exact ho e1.symm)
  obtain ⟨⟨h0, h1, h2⟩, ⟨h3, h4, h5⟩, h6, h7, h8⟩ := h.mc
  exact ⟨⟨(k 0 (by decide)).trans h0, (k 1 (by decide)).trans h1, (k 2 (by decide)).trans h2⟩, ⟨(k 3 (by decide)).trans h3, (k 4 (by decide)).trans h4, World.cell?_setCell_same _ _ _ h5⟩, (k 6 (by decide)).trans h6, (k 7 (by decide)).trans h7, (k 8 (by decide)).trans h8⟩
theorem MachIn.setStop (h : MachIn L w B m a c b d l1 t1 l2 t2 v) (q : Bool) : MachIn L (w.setCell ⟨B, 7, none⟩ (.bool q)) B { m with stop := q } a c b d l1 t1 l2 t2 v := by
  refine h.set (by decide) _ rfl rfl rfl rfl ?_
  have k : ∀ o, o ≠ 7 → (w.setCell ⟨B, 7, none⟩ (.bool q)).cell? ⟨B, o, none⟩ = w.cell? ⟨B, o, none⟩ := fun o ho => World.cell?_setCell_other _ _ _ _ (by intro e; injection e with _ e1; exact ho e1.symm)
  obtain ⟨⟨h0, h1, h2⟩, ⟨h3, h4, h5⟩, h6, h7, h8⟩ := h.mc
  exact ⟨⟨(k 0 (by decide)).trans h0, (k 1 (by decide)).trans h1, (k 2 (by decide)).trans h2⟩, ⟨(k 3 (by decide)).trans h3, (k 4 (by decide)).trans h4, (k 5 (by decide)).trans h5⟩, (k 6 (by decide)).trans h6, World.cell?_setCell_same _ _ _ h7, (k 8 (by decide)).trans h8⟩
theorem MachIn.setCyc (h : MachIn L w B m a c b d l1 t1 l2 t2 v) (q : Int) : MachIn L (w.setCell ⟨B, 8, none⟩ (.int .i64 q)) B { m with cyc := q } a c b d l1 t1 l2 t2 v := by
  refine h.set (by decide) _ rfl rfl rfl rfl ?_
  have k : ∀ o, o ≠ 8 → (w.setCell ⟨B, 8, none⟩ (.int .i64 q)).cell? ⟨B, o, none⟩ = w.cell? ⟨B, o, none⟩ := fun o ho => World.cell?_setCell_other _ _ _ _ (by intro e; injection e with _ e1; exact ho e1.symm)
  obtain ⟨⟨h0, h1, h2⟩, ⟨h3, h4, h5⟩, h6, h7, h8⟩ := h.mc
  exact ⟨⟨(k 0 (by decide)).trans h0, (k 1 (by decide)).trans h1, (k 2 (by decide)).trans h2⟩, ⟨(k 3 (by decide)).trans h3, (k 4 (by decide)).trans h4, (k 5 (by decide)).trans h5⟩, (k 6 (by decide)).trans h6, (k 7 (by decide)).trans h7, World.cell?_setCell_same _ _ _ h8⟩
/-- A poke. -/
theorem MachIn.poke {ram' : List Int} {bank' : Int} (h : MachIn L w B m a c b d l1 t1 l2 t2 v) (hm : MemIn L w' B ram' m.rom bank' a c b d l1 t1 l2 t2) (ho : Other l1 t1 B w w') : MachIn L w' B { m with ram := ram', bank := bank' } a c b d l1 t1 l2 t2 v := by
  obtain ⟨o1, o2, o3⟩ := ho
  obtain ⟨⟨h0, h1, h2⟩, ⟨h3, h4, h5⟩, h6, h7, h8⟩ := h.mc
  refine ⟨hm, ⟨⟨hm.c0, hm.c1, hm.c2⟩, ⟨(o2 3 (by decide)).trans h3, (o2 4 (by decide)).trans h4, (o2 5 (by decide)).trans h5⟩, (o2 6 (by decide)).trans h6, (o2 7 (by decide)).trans h7, (o2 8 (by decide)).trans h8⟩, fun i hi => (o3 i).trans (h.mf i hi), ?_, h.bs⟩
  exact h.bk.of fun g hg => o1 g (h.bs g hg).2.2 (.inr (h.bs g hg).1)
/-- New return addresses: in the old ones' block or in a new one. -/
theorem MachIn.setBack {v' : Value} {bk' : List Int} (h : MachIn L w B m a c b d l1 t1 l2 t2 v) (hs : w.heap.size ≤ w'.heap.size) (hk : ∀ k, k < w.heap.size → v.ownBlock ≠ some k → w'.heap[k]? = w.heap[k]?)
    (ho : OwnV w' L 3 v' (bk'.map (.int .i64))) (hv : ∀ g, v'.ownBlock = some g → v.ownBlock = some g ∨ w.heap.size ≤ g) : MachIn L (w'.setCell ⟨B, 6, none⟩ v') B { m with back := bk' } a c b d l1 t1 l2 t2 v' := by
  have hB := h.ltB
  have s1 := h.mem.s1
  have s2 := h.mem.s2
  have nB : v.ownBlock ≠ some B := fun e => (h.bs B e).2.2 rfl
  have hbs : ∀ g, v'.ownBlock = some g → t1 ≤ g ∧ t2 ≤ g ∧ g ≠ B := fun g hg => by
    rcases hv g hg with h1 | h1
    · exact h.bs g h1
    · exact ⟨by omega, by omega, by omega⟩
  have eB : w'.heap[B]? = w.heap[B]? := hk B hB nB
  have cB : ∀ o, w'.cell? ⟨B, o, none⟩ = w.cell? ⟨B, o, none⟩ := fun o => World.cell?_of_block (w := w) eB
  have fB : ∀ o, w'.frozen? ⟨B, o, none⟩ = w.frozen? ⟨B, o, none⟩ := fun o => World.frozen?_of_block (w := w) eB
  have A : ∀ l t, (t = t1 ∨ t = t2) → Agree l t w w' := fun l t ht k k1 k2 => hk k (by rcases ht with rfl | rfl <;> omega) (fun e => by
    have := h.bs k e
    rcases ht with rfl | rfl <;> omega)
  have hm : MemIn L w' B m.ram m.rom m.bank a c b d l1 t1 l2 t2 := by
    obtain ⟨c0, c1, c2, fz, lB, a1, a2, s1, s2, sep, sB1, sB2, ho, hm⟩ := h.mem
    exact ⟨(cB 0).trans c0, (cB 1).trans c1, (cB 2).trans c2, (fB 2).trans fz, lB, a1, a2, by omega, by omega, sep, sB1, sB2, ho.agree (A l1 t1 (.inl rfl)), hm.agree (A l2 t2 (.inr rfl))⟩
  have k : ∀ o, o ≠ 6 → (w'.setCell ⟨B, 6, none⟩ v').cell? ⟨B, o, none⟩ = w.cell? ⟨B, o, none⟩ := fun o ho => (World.cell?_setCell_other _ _ _ _ (by intro e; injection e with _ e1; exact ho e1.symm)).trans (cB o)
  obtain ⟨⟨h0, h1, h2⟩, ⟨h3, h4, h5⟩, h6, h7, h8⟩ := h.mc
  refine ⟨hm.setHigh 6 (by decide) v', ⟨⟨(k 0 (by decide)).trans h0, (k 1 (by decide)).trans h1, (k 2 (by decide)).trans h2⟩, ⟨(k 3 (by decide)).trans h3, (k 4 (by decide)).trans h4, (k 5 (by decide)).trans h5⟩, World.cell?_setCell_same _ _ _ ((cB 6).trans h6), (k 7 (by decide)).trans h7, (k 8 (by decide)).trans h8⟩, ?_, ?_, hbs⟩
  · exact mcf_set (fun i hi => (fB i).trans (h.mf i hi)) _ _
  · exact ho.of fun g hg => Below.heap_setCell _ _ _ _ (hbs g hg).2.2
/-- The return addresses without the last ones. -/
theorem OwnV.cut {xs : List Int} {ad : Option Addr} {n cp : Nat} (h : OwnV w L 3 (.slice ad n cp) (xs.map (.int .i64))) (k : Nat) (hk : k ≤ n) (hp : 0 < n) : OwnV w L 3 (.slice ad k cp) ((xs.take k).map (.int .i64)) := by
  unfold OwnV World.ownsRow at h ⊢
  rcases h.2 with ⟨e, _⟩ | ⟨g, cap, cur, e, hg, hh, hnc, hcm, hcs, htk⟩
  · injection e with _ e2 _; omega
  · injection e with e1 e2 e3
    subst e1 e3
    rw [List.length_map] at e2 hnc htk
    have hl : ((xs.take k).map (Value.int .i64)).length = k := by rw [List.length_map, List.length_take]; omega
    refine ⟨by omega, .inr ⟨g, cp, cur, by rw [hl], hg, hh, by rw [hl]; omega, hcm, hcs, ?_⟩⟩
    rw [hl, Nat.mul_one, List.map_take, ← htk, List.take_take, Nat.mul_one]
    congr 1
    omega
/-- What the machine's value is, when all of it is loaded. -/
theorem MachIn.own (h : MachIn L w B m a c b d l1 t1 l2 t2 v) : OwnMach L w.heap.size w (.agg #[.slice a m.ram.length c, .slice b m.rom.length d, .int .i64 m.bank, .int .i64 m.a, .int .i64 m.pc, .bool m.carry, v, .bool m.stop, .int .i64 m.cyc]) m := by
  have h0 := h.mem
  have s1 := h0.s1
  have s2 := h0.s2
  have a1 := h0.a1
  have a2 := h0.a2
  have hB := h.ltB
  have lB := h0.lB
  refine ⟨_, _, _, max L (max t1 t2), rfl, by omega, by omega, h0.ownMem (by omega) (by omega) (by omega) (by omega), ?_⟩
  exact (h.bk.raise fun g hg => by
    have := h.bs g hg
    have := h.bk.lt g hg
    omega).own
end
end Go.Proofs.Ytlnpmanghkeieaa
