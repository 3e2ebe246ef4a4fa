/- append onto a slice of the call's own: the source may be nil, empty or not; elements of one cell. Plain words and laws; no condition. -/
import Derived.Test.YtlnpmanghkeieaaOwn
import Derived.Maps.AppendAt
import Derived.Deep.AppendLies
import Derived.OwnWalk
import Derived.Deep.OwnRows
namespace Go.Proofs.Ytlnpmanghkeieaa
open Go.RowKit

/-- The slice value u holds the values us in w. -/
def Holds (w : World) (u : Value) (us : List Value) : Prop :=
  ∃ (a : Option Addr) (cap : Nat), u = .slice a us.length cap ∧ us.length ≤ cap ∧ (us = [] ∨ ∃ b off, a = some ⟨b, off, none⟩ ∧ ∀ i, i < us.length → w.cell? ⟨b, off + i, none⟩ = us[i]?)
/-- The slice value v is of the call's own, from block base on, with elements of type e, one cell each, and holds vs. -/
def OwnV (w : World) (base : Nat) (e : TypeId) (v : Value) (vs : List Value) : Prop := w.ownsRow base e 1 v vs.length vs
theorem OwnV.nil (w : World) (base : Nat) (e : TypeId) : OwnV w base e (.slice none 0 0) [] := World.ownsRow_nil _ _ _ _
theorem OwnV.lit {w : World} {base n : Nat} (cs : Array Value) (e : TypeId) (hb : base ≤ w.heap.size) (hn : n = cs.size) (hm : n ≤ maxLen) : OwnV (w.alloc (.cells cs e)) base e (.slice (some ⟨w.heap.size, 0, none⟩) n n) cs.toList := by
  subst hn
  have := World.ownsRow_lit (e := e) (size := 1) w cs cs.size hb hm (by simp)
  unfold OwnV
  simpa using this
theorem OwnV.alloc {w : World} {base e : Nat} {v : Value} {vs : List Value} (h : OwnV w base e v vs) (o : Obj) : OwnV (w.alloc o) base e v vs := World.ownsRow.alloc h o
theorem OwnV.drew {w : World} {base e : Nat} {v : Value} {vs : List Value} (h : OwnV w base e v vs) : OwnV w.drew base e v vs := h
theorem OwnV.drewN {w : World} {base e : Nat} {v : Value} {vs : List Value} (h : OwnV w base e v vs) (n : Nat) : OwnV (w.drewN n) base e v vs := h
/-- .. behind writes elsewhere: the block of v, if there is one, is as it was. -/
theorem OwnV.of {w w' : World} {base e : Nat} {v : Value} {vs : List Value} (h : OwnV w base e v vs) (hb : ∀ g, v.ownBlock = some g → w'.heap[g]? = w.heap[g]?) : OwnV w' base e v vs := by
  refine ⟨h.1, ?_⟩
  rcases h.2 with h0 | ⟨g, cap, cur, rfl, h1, h2, h3⟩
  · exact .inl h0
  · exact .inr ⟨g, cap, cur, rfl, h1, (hb g rfl).trans h2, h3⟩
theorem OwnV.lt {w : World} {base e : Nat} {v : Value} {vs : List Value} (h : OwnV w base e v vs) : ∀ k, v.ownBlock = some k → base ≤ k ∧ k < w.heap.size := World.ownsRow.lt h
theorem Ints.holds {w : World} {u : Value} {ys : List Int} (h : Ints w u ys) : Holds w u (ys.map (.int .i64)) := by
  obtain ⟨a, cap, rfl, h1, _, h3⟩ := h
  refine ⟨a, cap, by simp, by simpa using h1, ?_⟩
  rcases h3 with rfl | ⟨b, off, rfl, hc⟩
  · exact .inl rfl
  · refine .inr ⟨b, off, rfl, fun i hi => ?_⟩
    have hi' : i < ys.length := by simpa using hi
    rw [hc i hi', List.getElem?_map, List.getD_eq_getElem?_getD, List.getElem?_eq_getElem hi']
    rfl
theorem Holds.lit (w : World) (cs : Array Value) (e : TypeId) (n c : Nat) (hn : n = cs.size) (hc : n ≤ c) : Holds (w.alloc (.cells cs e)) (.slice (some ⟨w.heap.size, 0, none⟩) n c) cs.toList := by
  subst hn
  refine ⟨_, c, by simp, by simpa using hc, .inr ⟨w.heap.size, 0, rfl, fun i hi => ?_⟩⟩
  rw [Nat.zero_add, World.cell?_alloc_new]
  simp
section
variable {P : Program}
theorem run_app (w : World) (t ty e : TypeId) (i : TypeInfo) (z : Value) (bytes : Nat) (ht : P.underlying t = some (.slice e)) (hi : P.info? e = some i) (hz : i.zero = some z) (hsize : i.size = 1) (hby : i.bytes = bytes) (hzs : z.cells.size = 1)
    (base : Nat) (v u : Value) (vs us : List Value) (hv : OwnV w base e v vs) (hu : Holds w u us) (h1 : ∀ x ∈ us, x.oneCell' = true) (h63 : vs.length + us.length ≤ maxLen) (hbytes : (vs.length + us.length) * bytes ≤ 140737488355328) (hbase : base ≤ w.heap.size) :
    ∃ v' w', (Builtin.append_ #[t, t] ty #[v, u]).run P w = .ok v' w' ∧ OwnV w' base e v' (vs ++ us) ∧ w.grownBy w' v.ownBlock ∧ (v'.ownBlock = v.ownBlock ∨ v'.ownBlock = some w.heap.size) := by
  obtain ⟨a, cap, rfl, _, hcell⟩ := hu
  unfold OwnV at hv ⊢
  rw [List.length_append]
  by_cases hus : us = []
  · subst hus
    rcases a with _ | ad
    · refine ⟨v, w, ?_, by simpa using hv, World.grownBy.refl w _, .inl rfl⟩
      rcases hv.2 with ⟨rfl, _⟩ | ⟨g, c, cur, rfl, _, _, hnc, _⟩
      · simp [Builtin.append_, run_underlying ht, sizeOf, typeInfo, hi, Builtin.lenOf, Builtin.firstCells]
      · simp [Builtin.append_, run_underlying ht, sizeOf, typeInfo, hi, Builtin.lenOf, Builtin.firstCells, hnc, storeCells]
    · obtain ⟨v', w', hr, h2, h3, _, h5⟩ := run_append_own_at (P := P) w base t ty e i z 1 bytes ht hi hz hsize hby hzs (by decide) v vs.length vs hv ad 0 cap [] (by simp) (by simp) (by simp) (by simpa using h63) (by simpa using hbytes) hbase
      exact ⟨v', w', hr, h2, h3, h5⟩
  · rcases hcell with h0 | ⟨b, off, rfl, hc⟩
    · exact absurd h0 hus
    · obtain ⟨v', w', hr, h2, h3, _, h5⟩ := run_append_own_at (P := P) w base t ty e i z 1 bytes ht hi hz hsize hby hzs (by decide) v vs.length vs hv ⟨b, off, none⟩ us.length cap us (by simp)
        (fun j x hj => by
          have hjl : j < us.length := (List.getElem?_eq_some_iff.1 hj).1
          rw [addr_add, hc j hjl]; exact hj) h1 h63 hbytes hbase
      exact ⟨v', w', hr, h2, h3, h5⟩
theorem wp_app {w : World} {ops : Array Oper} {rest : List Oper} {o : Oper} {a : Act} {Q : Exit → Act → World → Prop} (hgd : o.guard = none) (s x : Operand) (t : TypeId)
    (ho : o.op = .call { callee := .builtin .append, args := #[s, x], argTypes := #[t, t] })
    (e : TypeId) (i : TypeInfo) (z : Value) (bytes : Nat) (ht : P.underlying t = some (.slice e)) (hi : P.info? e = some i) (hz : i.zero = some z) (hsize : i.size = 1) (hby : i.bytes = bytes) (hzs : z.cells.size = 1)
    (base : Nat) (v u : Value) (vs us : List Value) (hs : a.eval s = v) (hx : a.eval x = u) (hv : OwnV w base e v vs) (hu : Holds w u us) (h1 : ∀ x ∈ us, x.oneCell' = true) (h63 : vs.length + us.length ≤ maxLen) (hbytes : (vs.length + us.length) * bytes ≤ 140737488355328) (hbase : base ≤ w.heap.size)
    (h : ∀ v' w', OwnV w' base e v' (vs ++ us) → w.grownBy w' v.ownBlock → (v'.ownBlock = v.ownBlock ∨ v'.ownBlock = some w.heap.size) → wpList P ops Q rest (a.put o.dst v') w') : wpList P ops Q (o :: rest) a w := by
  refine wpList_plain hgd fun K hK => ?_
  obtain ⟨v', w', hr, h2, h3, h4⟩ := run_app (P := P) w t o.type e i z bytes ht hi hz hsize hby hzs base v u vs us hv hu h1 h63 hbytes hbase
  unfold Oper.wp execOp
  simp only [ho, resolve, invoke, builtin, Sem.run_bind, Sem.run_pure, Result.andThen_ok, List.map_toArray, List.map_cons, List.map_nil, hs, hx, hr]
  exact hK _ _ (h v' w' h2 h3 h4)
end
theorem ints_one (ys : List Int) : ∀ x ∈ ys.map (Value.int .i64), x.oneCell' = true := by
  intro x hx
  obtain ⟨y, _, rfl⟩ := List.mem_map.1 hx
  rfl
theorem infoInt : (Try.prog.info? 3).map (fun i => (i.zero, i.size, i.bytes)) = some (some (.int .i64 0), 1, 8) := by kernel_rfl
/-- append of integers onto integers. -/
theorem wp_appI {w : World} {ops : Array Oper} {rest : List Oper} {o : Oper} {a : Act} {Q : Exit → Act → World → Prop} (hgd : o.guard = none) (s x : Operand)
    (ho : o.op = .call { callee := .builtin .append, args := #[s, x], argTypes := #[23, 23] })
    (base : Nat) (v u : Value) (xs ys : List Int) (hs : a.eval s = v) (hx : a.eval x = u) (hv : OwnV w base 3 v (xs.map (.int .i64))) (hu : Ints w u ys) (hb : xs.length + ys.length ≤ 1000000000000) (hbase : base ≤ w.heap.size)
    (h : ∀ v' w', OwnV w' base 3 v' ((xs ++ ys).map (.int .i64)) → w.grownBy w' v.ownBlock → (v'.ownBlock = v.ownBlock ∨ v'.ownBlock = some w.heap.size) → wpList Try.prog ops Q rest (a.put o.dst v') w') : wpList Try.prog ops Q (o :: rest) a w := by
  obtain ⟨i, hi, hz, hsz, hby⟩ := info_parts infoInt
  refine wp_app hgd s x 23 ho 3 i _ 8 Try.underlying23 hi hz hsz hby rfl base v u _ _ hs hx hv hu.holds (ints_one _) (by simp; unfold maxLen; omega) (by simp; omega) hbase ?_
  intro v' w' h1
  rw [← List.map_append] at h1
  exact h v' w' h1
theorem below_app {B base e : Nat} {w X Y w' : World} {v : Value} {vs : List Value} (hb : Below B w X) (hg : X.grownBy w' v.ownBlock) (ow : OwnV Y base e v vs) (h1 : B ≤ X.heap.size) (h2 : B ≤ base) : Below B w w' :=
  hb.grown hg h1 fun k hk => Nat.le_trans h2 (World.ownsRow.lt ow k hk).1
theorem ints_lit1 (w : World) (x : Int) (e : TypeId) : Ints (w.alloc (.cells #[.int .i64 x] e)) (.slice (some ⟨w.heap.size, 0, none⟩) 1 1) [x] :=
  ⟨_, 1, rfl, Nat.le_refl _, by decide, .inr ⟨_, 0, rfl, fun i hi => by
    obtain rfl : i = 0 := by simpa using hi
    simp [go_sem]⟩⟩
/-- What is owned so holds the integers. -/
theorem OwnV.own {w : World} {base e : Nat} {v : Value} {xs : List Int} (h : OwnV w base e v (xs.map (.int .i64))) : Own base w.heap.size w v xs := by
  unfold OwnV at h
  rw [List.length_map] at h
  rcases h.2 with ⟨rfl, hn⟩ | ⟨g, cap, cur, rfl, hg, hh, hnc, hcm, hcs, htk⟩
  · have : xs = [] := List.eq_nil_of_length_eq_zero hn
    subst this
    exact ⟨none, 0, rfl, Nat.le_refl _, Nat.zero_le _, .inl rfl⟩
  · refine ⟨_, cap, rfl, hnc, hcm, .inr ⟨g, 0, rfl, hg, ?_, fun i hi => ?_⟩⟩
    · exact (Array.getElem?_eq_some_iff.1 hh).1
    · have hc := h.cellAt i (by omega)
      refine ⟨?_, ?_⟩
      · rw [Nat.zero_add, hc, List.getElem?_map, List.getD_eq_getElem?_getD, List.getElem?_eq_getElem hi]; rfl
      · rw [Nat.zero_add]; exact h.frozenAt i
end Go.Proofs.Ytlnpmanghkeieaa
