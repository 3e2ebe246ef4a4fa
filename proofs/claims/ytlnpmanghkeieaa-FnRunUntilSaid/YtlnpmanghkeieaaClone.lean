/- The walks of the functions that copy rows and memories: the copy is of the call's own. No condition. -/
import Derived.Test.YtlnpmanghkeieaaBuild
import Derived.Deep.RegionHeld3
import Derived.Deep.DeepCutAuto
namespace Go.Proofs.Ytlnpmanghkeieaa
open Go.RowKit
set_option linter.unusedVariables false

theorem grown_below {X w' : World} (hg : X.grownBy w' none) : Below X.heap.size X w' := ⟨hg.os, hg.tape, hg.output, hg.size, fun k hk => hg.block k hk (by simp)⟩
theorem holds_lit1 {W : World} {b e : Nat} {x : Value} (he : b = W.heap.size) : Holds (W.alloc (.cells #[x] e)) (.slice (some ⟨b, 0, none⟩) 1 1) [x] := by
  subst he; exact Holds.lit _ _ _ _ _ rfl (Nat.le_refl _)
theorem holds_drew {W : World} {u : Value} {us : List Value} (h : Holds W u us) : Holds W.drew u us := h
theorem ownV_lit0 {W : World} {base b e : Nat} (hb : base ≤ W.heap.size) (he : b = W.heap.size) : OwnV (W.alloc (.cells #[] e)) base e (.slice (some ⟨b, 0, none⟩) 0 0) [] := by
  subst he; exact OwnV.lit #[] e hb rfl (by decide)
theorem grown_cells {W w1 : World} {b0 n0 c0 : Nat} (hg : W.grownBy w1 (Value.slice (some ⟨b0, 0, none⟩) n0 c0).ownBlock) :
    (∀ b o, b < W.heap.size → b ≠ b0 → w1.cell? ⟨b, o, none⟩ = W.cell? ⟨b, o, none⟩) ∧ (∀ b o, b < W.heap.size → b ≠ b0 → w1.frozen? ⟨b, o, none⟩ = W.frozen? ⟨b, o, none⟩) :=
  ⟨fun b o h1 h2 => hg.cell_far ⟨b, o, none⟩ h1 (by simp [Value.ownBlock]; exact h2), fun b o h1 h2 => hg.frozen_far ⟨b, o, none⟩ h1 (by simp [Value.ownBlock]; exact h2)⟩
theorem below_own0 {B : Nat} {w W w1 : World} {b0 n0 c0 : Nat} (hb : Below B w W) (hg : W.grownBy w1 (Value.slice (some ⟨b0, 0, none⟩) n0 c0).ownBlock) (h1 : B ≤ W.heap.size) (h2 : B ≤ b0) : Below B w w1 :=
  hb.grown hg h1 fun k hk => by
    have : b0 = k := by simpa [Value.ownBlock] using hk
    omega
theorem step_app {P : Program} {w : World} {ops : Array Oper} {o : Oper} {a : Act} {K : Act → World → Prop} {Q : Exit → Act → World → Prop} {E : Prop} (hgd : o.guard = none) (s x : Operand) (t : TypeId)
    (ho : o.op = .call { callee := .builtin .append, args := #[s, x], argTypes := #[t, t] })
    (e : TypeId) (i : TypeInfo) (z : Value) (bytes : Nat) (ht : P.underlying t = some (.slice e)) (hi : P.info? e = some i) (hz : i.zero = some z) (hsize : i.size = 1) (hby : i.bytes = bytes) (hzs : z.cells.size = 1)
    (base : Nat) (v u : Value) (vs us : List Value) (hs : a.eval s = v) (hx : a.eval x = u) (hv : OwnV w base e v vs) (hu : Holds w u us) (h1 : ∀ x ∈ us, x.oneCell' = true) (h63 : vs.length + us.length ≤ maxLen) (hbytes : (vs.length + us.length) * bytes ≤ 140737488355328) (hbase : base ≤ w.heap.size)
    (h : ∀ v' w', OwnV w' base e v' (vs ++ us) → w.grownBy w' v.ownBlock → (v'.ownBlock = v.ownBlock ∨ v'.ownBlock = some w.heap.size) → K (a.put o.dst v') w') :
    if Region.wanted o (yielded ops a.tmps) = true then Oper.wp P o a w K Q else E := by
  have hw : Region.wanted o (yielded ops a.tmps) = true := by simp [Region.wanted, hgd]
  rw [if_pos hw]
  obtain ⟨v', w', hr, h2, h3, h4⟩ := run_app (P := P) w t o.type e i z bytes ht hi hz hsize hby hzs base v u vs us hv hu h1 h63 hbytes hbase
  unfold Oper.wp execOp
  simp only [ho, resolve, invoke, builtin, Sem.run_bind, Sem.run_pure, Result.andThen_ok, List.map_toArray, List.map_cons, List.map_nil, hs, hx, hr]
  exact h v' w' h2 h3 h4
/-- A copy of integers: append onto what is empty and the call's own. -/
theorem step_cloneI {w : World} {ops : Array Oper} {o : Oper} {a : Act} {K : Act → World → Prop} {Q : Exit → Act → World → Prop} {E : Prop} (hgd : o.guard = none) (s x : Operand)
    (ho : o.op = .call { callee := .builtin .append, args := #[s, x], argTypes := #[23, 23] })
    (base : Nat) (v u : Value) (ys : List Int) (hs : a.eval s = v) (hx : a.eval x = u) (hv : OwnV w base 3 v []) (hu : Ints w u ys) (hb : ys.length ≤ 1000000000000) (hbase : base ≤ w.heap.size)
    (h : ∀ v' w', OwnV w' base 3 v' (ys.map (.int .i64)) → w.grownBy w' v.ownBlock → (v'.ownBlock = v.ownBlock ∨ v'.ownBlock = some w.heap.size) → K (a.put o.dst v') w') :
    if Region.wanted o (yielded ops a.tmps) = true then Oper.wp Try.prog o a w K Q else E := by
  obtain ⟨i, hi, hz, hsz, hby⟩ := info_parts infoInt
  refine step_app hgd s x 23 ho 3 i _ 8 Try.underlying23 hi hz hsz hby rfl base v u [] _ hs hx hv hu.holds (ints_one _) (by simp; unfold maxLen; omega) (by simp; omega) hbase ?_
  exact h
theorem ints_agree {lo hi : Nat} {w w' : World} {v : Value} {zs : List Int} (h : Ints w v zs) (hb : Below w.heap.size w w') : Ints w' v zs := h.below hb
theorem row_value {w : World} {u : Value} {zs : List Int} (h : Ints w u zs) : ∃ a c, u = .slice a zs.length c := by
  obtain ⟨a, c, rfl, _⟩ := h
  exact ⟨_, _, rfl⟩
theorem ownV_shape {w : World} {base e : Nat} {v : Value} {vs : List Value} (h : OwnV w base e v vs) : ∃ a c, v = .slice a vs.length c := by
  rcases h.2 with ⟨rfl, h0⟩ | ⟨g, cap, cur, rfl, _⟩
  · exact ⟨none, 0, by rw [h0]⟩
  · exact ⟨_, _, rfl⟩
theorem take_succ_getD {zss : List (List Int)} {k : Nat} (h : k < zss.length) : zss.take (k + 1) = zss.take k ++ [zss.getD k []] := by
  rw [List.take_succ_eq_append_getElem h]
  simp [List.getD_eq_getElem?_getD, h]
theorem rowsV_all {base : Nat} {w : World} {v : Value} {zs zss : List (List Int)} (h : RowsV base w v zs) (e : zs = zss) : OwnMat base w.heap.size w v zss := by subst e; exact h.mat
set_option maxHeartbeats 1048576 in
theorem impl_copyRows {v : Value} {zss : List (List Int)} {w : World} (h : Mat w v zss) (hz : zss.length ≤ 1048576) (hz2 : sumLen zss ≤ 1000000000) : Calls Try.prog 42 #[v] w (MadeM zss w) := by
  obtain ⟨a, ca, rfl, ha1, ha2, ha⟩ := mat_cells h
  obtain ⟨n, hn⟩ : ∃ n, n = zss.length := ⟨_, rfl⟩
  have N := Lib.hid hn
  have A := Lib.hid ha
  rw [← hn] at ha1 ⊢
  clear ha hn h
  have hn1 : (n : Int) ≤ 1048576 := by have := N.out; omega
  go_enter Try.func42, Try.ntmps42
  go_wp2
  go_loopw [3, 8] (fun s3 i wr => ∃ k : Nat, k ≤ n ∧ i = .int .i64 k ∧ Hid (RowsV w.heap.size wr s3 (zss.take k)) ∧ Hid (Below w.heap.size w wr)) (fun _ i _ => n - (intOf i).toNat)
  case atStart => exact ⟨0, Nat.zero_le _, rfl, RowsV.nil _ _, Below.refl _ _⟩
  case round =>
    obtain ⟨k, hk, rfl, hR, hB⟩ := hrel
    by_cases hlt : k < n
    · have hkl : k < zss.length := by have := N.out; omega
      obtain ⟨b, off, u, rfl, hb, hc, hi⟩ := A.out k hkl
      have hs := sumLen_row zss k hkl
      have T : Hid (zss.take (k + 1) = zss.take k ++ [zss.getD k []]) := take_succ_getD hkl
      have I : Hid (Ints wr u (zss.getD k [])) := hi.below ⟨hB.out.os, hB.out.tape, hB.out.output, hB.out.size, hB.out.block⟩
      obtain ⟨us, g, r⟩ := hR.out
      have R := Lib.hid r
      have hlen : us.length ≤ 1048576 := by have := r.len; rw [List.length_take] at this; omega
      have hbs : w.heap.size ≤ wr.heap.size := hB.out.size
      have g0 : wr.cell? ⟨b, off + k, none⟩ = some u := (hB.out.cell (p := ⟨b, off + k, none⟩) hb).trans hc
      generalize zss.getD k [] = z at *
      obtain ⟨ua, uc, rfl⟩ := row_value I.out
      obtain ⟨va, vc, rfl⟩ := ownV_shape r.own
      have hki : (k : Int) < (n : Int) := by omega
      clear hi hc r
      go_wp2_with (first
        | (at_builtin; refine wp_appI rfl _ _ rfl wr.heap.size _ _ [] z rfl rfl (OwnV.nil _ _ _) I.out (by simp; omega) (Nat.le_refl _) ?_; intro v1 w1 ow1 hg1 _; rw [List.nil_append] at ow1; have hb1 : Below wr.heap.size wr w1 := grown_below hg1; have O1 := Lib.hid (OwnV.own ow1); clear ow1 hg1; obtain ⟨a1, c1, rfl⟩ := own_shape O1.out)
        | (at_builtin; refine wp_appR rfl _ _ rfl w.heap.size _ _ us [_] rfl rfl ?_ (Holds.lit _ _ _ _ _ rfl (Nat.le_refl _)) (one_slice _ _ _) (by simp; omega) (by have := hb1.size; simp; omega) ?_; exact ((R.out.agree (fun k _ k2 => hb1.block k k2) hb1.size).own.alloc _); intro v2 w2 ow2 hg2 ha2))
      have hb1' : Below wr.heap.size wr (w1.alloc (.cells #[.slice a1 z.length c1] 23)) := hb1.alloc (by have := hb1.size; omega) _
      have P2 : Hid (RowsV w.heap.size w2 v2 (zss.take (k + 1))) := by
        rw [Hid, T.out]
        exact R.out.push hbs hb1' (O1.out.agree ((Agree.refl _ _ _).alloc (Nat.le_refl _) _) |>.wide (Nat.le_refl _) (by simp)) ow2 hg2 ha2
      have B2 : Hid (Below w.heap.size w w2) := below_app (hB.out.trans (hb1'.mono hbs)) hg2 R.out.own (by have := hb1.size; simp; omega) (Nat.le_refl _)
      clear ow2 hg2 ha2
      go_wp2_with fail
      go_roundw
      case rel => exact ⟨k + 1, by omega, by go_num, P2.out, B2.out⟩
      case measure => simp [intOf]; omega
    · have hki : ¬ (k : Int) < (n : Int) := by omega
      have e : k = n := by omega
      have E : Hid (zss.take k = zss) := by show zss.take k = zss; rw [e, N.out, List.take_length]
      have F := Lib.hid (rowsV_all hR.out E.out)
      go_wp2
      go_ret
      exact ⟨_, rfl, F.out, hB.out⟩
theorem pair_alloc {W : World} {p q : Addr} {a b : Value} (o : Obj) (h : W.cell? p = some a ∧ W.cell? q = some b) : (W.alloc o).cell? p = some a ∧ (W.alloc o).cell? q = some b := ⟨cell_al o h.1, cell_al o h.2⟩
theorem pair_drew {W : World} {p q : Addr} {a b : Value} (h : W.cell? p = some a ∧ W.cell? q = some b) : W.drew.cell? p = some a ∧ W.drew.cell? q = some b := h
theorem pair_below {W w' : World} {p q : Addr} {a b : Value} (hb : Below W.heap.size W w') (h : W.cell? p = some a ∧ W.cell? q = some b) : w'.cell? p = some a ∧ w'.cell? q = some b := ⟨cell_be hb h.1 (block_lt_of_cell h.1), cell_be hb h.2 (block_lt_of_cell h.2)⟩
/-- Three cells to be read; three to be written. -/
def Three (W : World) (p : Nat) (a b c : Value) : Prop := W.cell? ⟨p, 0, none⟩ = some a ∧ W.cell? ⟨p, 1, none⟩ = some b ∧ W.cell? ⟨p, 2, none⟩ = some c
def Six (W : World) (q : Nat) (x y z : Value) : Prop :=
  W.cell? ⟨q, 0, none⟩ = some x ∧ W.cell? ⟨q, 1, none⟩ = some y ∧ W.cell? ⟨q, 2, none⟩ = some z ∧ W.frozen? ⟨q, 0, none⟩ = false ∧ W.frozen? ⟨q, 1, none⟩ = false ∧ W.frozen? ⟨q, 2, none⟩ = false
section
variable {W w' : World} {p q : Nat} {a b c x y z : Value}
theorem three_below (hb : Below W.heap.size W w') (h : Three W p a b c) : Three w' p a b c := by
  obtain ⟨h1, h2, h3⟩ := h
  have lp := block_lt_of_cell h1
  exact ⟨cell_be hb h1 lp, cell_be hb h2 lp, cell_be hb h3 lp⟩
theorem three_alloc (o : Obj) (h : Three W p a b c) : Three (W.alloc o) p a b c := three_below ((Below.refl _ _).alloc (Nat.le_refl _) o) h
theorem three_drew (h : Three W p a b c) : Three W.drew p a b c := h
theorem six_below (hb : Below W.heap.size W w') (h : Six W q x y z) : Six w' q x y z := by
  obtain ⟨h4, h5, h6, h7, h8, h9⟩ := h
  have lq := block_lt_of_cell h4
  exact ⟨cell_be hb h4 lq, cell_be hb h5 lq, cell_be hb h6 lq, frozen_be hb h7 lq, frozen_be hb h8 lq, frozen_be hb h9 lq⟩
theorem six_be {n : Nat} (hb : Below n W w') (h : Six W q x y z) (hq : q < n) : Six w' q x y z := by
  obtain ⟨h4, h5, h6, h7, h8, h9⟩ := h
  exact ⟨cell_be hb h4 hq, cell_be hb h5 hq, cell_be hb h6 hq, frozen_be hb h7 hq, frozen_be hb h8 hq, frozen_be hb h9 hq⟩
theorem six_alloc (o : Obj) (h : Six W q x y z) : Six (W.alloc o) q x y z := six_below ((Below.refl _ _).alloc (Nat.le_refl _) o) h
theorem six_drew (h : Six W q x y z) : Six W.drew q x y z := h
end
theorem ownV_point {w : World} {base b0 n : Nat} {v : Value} {ys : List Int} (h : OwnV w base 3 v (ys.map (.int .i64))) (ha : v.ownBlock = some b0 ∨ v.ownBlock = some n) : ∃ k, (k = b0 ∨ k = n) ∧ k < w.heap.size ∧ Own k (k + 1) w v ys := by
  have ho := h.own
  have hl := h.lt
  rcases h.2 with ⟨rfl, _⟩ | ⟨g, cap, cur, rfl, _⟩
  · rcases ha with e | e <;> simp [Value.ownBlock] at e
  · have hg : (Value.slice (some ⟨g, 0, none⟩) (List.map (Value.int .i64) ys).length cap).ownBlock = some g := rfl
    rw [hg] at ha hl
    refine ⟨g, by rcases ha with e | e <;> (injection e with e; simp [e]), (hl g rfl).2, ?_⟩
    obtain ⟨a, c, e, h1, h2, h3⟩ := ho
    injection e with e1 e2 e3
    subst e1 e3
    refine ⟨_, cap, by rw [List.length_map], h1, h2, ?_⟩
    rcases h3 with h0 | ⟨b, off, e4, _, _, hc⟩
    · exact .inl h0
    · injection e4 with e5
      injection e5 with e6 e7
      subst e6 e7
      exact .inr ⟨g, 0, rfl, Nat.le_refl _, Nat.lt_succ_self _, hc⟩
theorem six_lit {W : World} {b : Nat} {x y z : Value} {e : TypeId} (he : b = W.heap.size) : Six (W.alloc (.cells #[x, y, z] e)) b x y z := by
  subst he
  refine ⟨?_, ?_, ?_, ?_, ?_, ?_⟩ <;> simp [go_sem]
theorem six_set3 {W : World} {q : Nat} {x y z a b c : Value} (h : Six W q x y z) : Six (((W.setCell ⟨q, 0, none⟩ a).setCell ⟨q, 1, none⟩ b).setCell ⟨q, 2, none⟩ c) q a b c := by
  obtain ⟨h1, h2, h3, h4, h5, h6⟩ := h
  have e0 := World.cell?_setCell_same (w := W) (a := ⟨q, 0, none⟩) (v := a) h1
  have k1 : (W.setCell ⟨q, 0, none⟩ a).cell? ⟨q, 1, none⟩ = some y := (World.cell?_setCell_other _ _ _ _ (by simp)).trans h2
  have k2 : ((W.setCell ⟨q, 0, none⟩ a).setCell ⟨q, 1, none⟩ b).cell? ⟨q, 2, none⟩ = some z := (World.cell?_setCell_other _ _ _ _ (by simp)).trans ((World.cell?_setCell_other _ _ _ _ (by simp)).trans h3)
  refine ⟨?_, ?_, World.cell?_setCell_same _ _ _ k2, by simpa [go_sem] using h4, by simpa [go_sem] using h5, by simpa [go_sem] using h6⟩
  · exact (World.cell?_setCell_other _ _ _ _ (by simp)).trans ((World.cell?_setCell_other _ _ _ _ (by simp)).trans e0)
  · exact (World.cell?_setCell_other _ _ _ _ (by simp)).trans (World.cell?_setCell_same _ _ _ k1)
theorem six_set1 {W : World} {q : Nat} {x y z v : Value} (h : Six W q x y z) : Six (W.setCell ⟨q, 1, none⟩ v) q x v z := by
  obtain ⟨h1, h2, h3, h4, h5, h6⟩ := h
  exact ⟨(World.cell?_setCell_other _ _ _ _ (by simp)).trans h1, World.cell?_setCell_same _ _ _ h2, (World.cell?_setCell_other _ _ _ _ (by simp)).trans h3, by simpa [go_sem] using h4, by simpa [go_sem] using h5, by simpa [go_sem] using h6⟩
theorem six_grown {W w' : World} {q : Nat} {x y z : Value} {r : Option Nat} (hg : W.grownBy w' r) (h : Six W q x y z) (hn : r ≠ some q) : Six w' q x y z := by
  obtain ⟨h1, h2, h3, h4, h5, h6⟩ := h
  have lq := block_lt_of_cell h1
  have hn' : some q ≠ r := fun e => hn e.symm
  exact ⟨(hg.cell_far ⟨q, 0, none⟩ lq hn').trans h1, (hg.cell_far ⟨q, 1, none⟩ lq hn').trans h2, (hg.cell_far ⟨q, 2, none⟩ lq hn').trans h3, (hg.frozen_far ⟨q, 0, none⟩ lq hn').trans h4, (hg.frozen_far ⟨q, 1, none⟩ lq hn').trans h5, (hg.frozen_far ⟨q, 2, none⟩ lq hn').trans h6⟩
/-- append of rows, at a step of a region that draws. -/
theorem step_appR {w : World} {ops : Array Oper} {o : Oper} {a : Act} {K : Act → World → Prop} {Q : Exit → Act → World → Prop} {E : Prop} (hgd : o.guard = none) (s x : Operand)
    (ho : o.op = .call { callee := .builtin .append, args := #[s, x], argTypes := #[24, 24] })
    (base : Nat) (v u : Value) (vs us : List Value) (hs : a.eval s = v) (hx : a.eval x = u) (hv : OwnV w base 23 v vs) (hu : Holds w u us) (h1 : ∀ x ∈ us, x.oneCell' = true) (hb : vs.length + us.length ≤ 1000000000) (hbase : base ≤ w.heap.size)
    (h : ∀ v' w', OwnV w' base 23 v' (vs ++ us) → w.grownBy w' v.ownBlock → (v'.ownBlock = v.ownBlock ∨ v'.ownBlock = some w.heap.size) → K (a.put o.dst v') w') :
    if Region.wanted o (yielded ops a.tmps) = true then Oper.wp Try.prog o a w K Q else E := by
  obtain ⟨i, hi, hz, hsz, hby⟩ := info_parts infoInts
  exact step_app hgd s x 24 ho 23 i _ 24 Try.underlying24 hi hz hsz hby rfl base v u vs us hs hx hv hu h1 (by unfold maxLen; omega) (by omega) hbase h
theorem rowsV_shape {base : Nat} {w : World} {v : Value} {zs : List (List Int)} (h : RowsV base w v zs) : ∃ a n c, v = .slice a n c := by
  obtain ⟨us, g, r⟩ := h
  obtain ⟨a, c, rfl⟩ := ownV_shape r.own
  exact ⟨_, _, _, rfl⟩
/-- Behind w, a literal without elements lies in block b; with one element. -/
def Lit0 (w W : World) (b : Nat) : Prop := Below w.heap.size w W ∧ w.heap.size ≤ b ∧ OwnV W w.heap.size 3 (.slice (some ⟨b, 0, none⟩) 0 0) []
def Lit1 (w W : World) (r : Value) (b : Nat) : Prop := Below w.heap.size w W ∧ Holds W (.slice (some ⟨b, 0, none⟩) 1 1) [r]
theorem lit0_new {w W : World} {b : Nat} (h : Below w.heap.size w W) (hb : b = W.heap.size) : Lit0 w (W.alloc (.cells #[] 3)) b :=
  ⟨h.alloc h.size _, by have := h.size; omega, ownV_lit0 h.size hb⟩
theorem lit0_here {w : World} {b : Nat} (hb : b = w.heap.size) : Lit0 w (w.alloc (.cells #[] 3)) b := lit0_new (Below.refl _ _) hb
theorem lit0_drew {w W : World} {b : Nat} (h : Lit0 w W b) : Lit0 w W.drew b := ⟨h.1.drew, h.2.1, h.2.2.drew⟩
theorem lit0_alloc {w W : World} {b : Nat} (o : Obj) (h : Lit0 w W b) : Lit0 w (W.alloc o) b := ⟨h.1.alloc h.1.size o, h.2.1, h.2.2.alloc o⟩
theorem lit0_base {w W : World} {b : Nat} (h : Lit0 w.drew W b) : Lit0 w W b := ⟨⟨h.1.os, h.1.tape, h.1.output, h.1.size, h.1.block⟩, h.2.1, h.2.2⟩
theorem lit1_new {w W : World} {r : Value} {b e : Nat} (h : Below w.heap.size w W) (hb : b = W.heap.size) : Lit1 w (W.alloc (.cells #[r] e)) r b := ⟨h.alloc h.size _, holds_lit1 hb⟩
theorem lit1_here {w : World} {r : Value} {b e : Nat} (hb : b = w.heap.size) : Lit1 w (w.alloc (.cells #[r] e)) r b := lit1_new (Below.refl _ _) hb
theorem lit1_drew {w W : World} {r : Value} {b : Nat} (h : Lit1 w W r b) : Lit1 w W.drew r b := ⟨h.1.drew, holds_drew h.2⟩
theorem step_clone {wr w : World} {ops : Array Oper} {o : Oper} {a : Act} {K : Act → World → Prop} {Q : Exit → Act → World → Prop} {E : Prop} (hgd : o.guard = none) (s x : Operand)
    (ho : o.op = .call { callee := .builtin .append, args := #[s, x], argTypes := #[23, 23] })
    (b : Nat) (u : Value) (z : List Int) (hs : a.eval s = .slice (some ⟨b, 0, none⟩) 0 0) (hx : a.eval x = u) (hL : Lit0 wr w b) (hu : Ints wr u z) (hb : z.length ≤ 1000000000000)
    (h : ∀ v' w', Own wr.heap.size w'.heap.size w' v' z → Below wr.heap.size wr w' → K (a.put o.dst v') w') :
    if Region.wanted o (yielded ops a.tmps) = true then Oper.wp Try.prog o a w K Q else E := by
  obtain ⟨h1, h2, h3⟩ := hL
  refine step_cloneI hgd s x ho wr.heap.size _ u z hs hx h3 (hu.below h1) hb h1.size ?_
  intro v' w' ow hg _
  exact h v' w' ow.own (below_own0 h1 hg h1.size h2)
theorem step_push {wr w1 w : World} {ops : Array Oper} {o : Oper} {a : Act} {K : Act → World → Prop} {Q : Exit → Act → World → Prop} {E : Prop} (hgd : o.guard = none) (s x : Operand)
    (ho : o.op = .call { callee := .builtin .append, args := #[s, x], argTypes := #[24, 24] })
    (b base : Nat) (v r : Value) {zs : List (List Int)} {z : List Int} {us : List Value} {g : Nat → Nat} (hs : a.eval s = v) (hx : a.eval x = .slice (some ⟨b, 0, none⟩) 1 1) (R : RowsAt base wr v zs us g) (hbase : base ≤ wr.heap.size)
    (h1 : Below wr.heap.size wr w1) (hO : Own wr.heap.size w1.heap.size w1 r z) (hL : Lit1 w1 w r b) (hlen : us.length ≤ 1048576)
    (h : ∀ v' w', RowsV base w' v' (zs ++ [z]) → Below base wr w' → K (a.put o.dst v') w') :
    if Region.wanted o (yielded ops a.tmps) = true then Oper.wp Try.prog o a w K Q else E := by
  obtain ⟨k1, k2⟩ := hL
  have hw : Below wr.heap.size wr w := h1.trans (k1.mono h1.size)
  have hw1 := h1.size
  have hw2 := k1.size
  obtain ⟨ra, rc, rfl⟩ := own_shape hO
  refine step_appR hgd s x ho base v _ us [_] hs hx (R.agree (fun k _ k2 => hw.block k k2) hw.size).own k2 (one_slice _ _ _) (by simp; omega) (by omega) ?_
  intro v' w' ow hg ha
  refine h v' w' (R.push hbase hw ((hO.agree (fun k _ k2 => k1.block k k2)).wide (Nat.le_refl _) hw2) ow hg ha) ?_
  exact below_app (hw.mono hbase) hg R.own (by omega) (Nat.le_refl _)
set_option maxHeartbeats 4000000 in
set_option maxRecDepth 20000 in
theorem impl_copyMemory {v : Value} {ram : List Int} {rom : List (List Int)} {bank : Int} {w : World} (h : MemV w v ram rom bank) (z1 : ram.length ≤ 1000000000) (z2 : rom.length ≤ 1048576) (z3 : sumLen rom ≤ 1000000000) :
    Calls Try.prog 28 #[v] w (MadeMem ram rom bank w) := by
  have H := Lib.hid h
  obtain ⟨a, c, b, d, rfl, k1, k2, k3, k4⟩ := memV_shape h
  clear h
  obtain ⟨x1, x2, e0, hi1, hm1⟩ := H.out
  simp only [Value.agg.injEq, Array.mk.injEq, List.cons.injEq, and_true] at e0
  obtain ⟨rfl, rfl⟩ := e0
  have HI := Lib.hid hi1
  have HM := Lib.hid hm1
  clear hi1 hm1 H
  go_enter Try.func28, Try.ntmps28
  go_wp2_with fail
  have hS : Three ((w.alloc (.cells #[.slice a ram.length c, .slice b rom.length d, .int .i64 bank] 26)).alloc (.cells #[.slice none 0 0, .slice none 0 0, .int .i64 0] 26)) w.heap.size (.slice a ram.length c) (.slice b rom.length d) (.int .i64 bank) := by
    refine ⟨?_, ?_, ?_⟩ <;> simp [go_sem]
  have hT : Six ((w.alloc (.cells #[.slice a ram.length c, .slice b rom.length d, .int .i64 bank] 26)).alloc (.cells #[.slice none 0 0, .slice none 0 0, .int .i64 0] 26)) (w.heap.size + 1) (.slice none 0 0) (.slice none 0 0) (.int .i64 0) := by
    refine ⟨?_, ?_, ?_, ?_, ?_, ?_⟩ <;> simp [go_sem]
  have hXs : ((w.alloc (.cells #[.slice a ram.length c, .slice b rom.length d, .int .i64 bank] 26)).alloc (.cells #[.slice none 0 0, .slice none 0 0, .int .i64 0] 26)).heap.size = w.heap.size + 2 := by simp
  have hXb : Hid (Below w.heap.size w ((w.alloc (.cells #[.slice a ram.length c, .slice b rom.length d, .int .i64 bank] 26)).alloc (.cells #[.slice none 0 0, .slice none 0 0, .int .i64 0] 26))) := ((Below.refl _ _).alloc (Nat.le_refl _) _).alloc (by simp) _
  generalize ((w.alloc (.cells #[.slice a ram.length c, .slice b rom.length d, .int .i64 bank] 26)).alloc (.cells #[.slice none 0 0, .slice none 0 0, .int .i64 0] 26)) = X at *
  obtain ⟨s1, s2, s3⟩ := id hS
  obtain ⟨q1, q2, q3, q4, q5, q6⟩ := id hT
  have hXn : w.heap.size ≤ X.heap.size := by omega
  go_region_held3 (fun W => W.cell? ⟨w.heap.size, 0, none⟩ = some (.slice a ram.length c) ∧ W.cell? ⟨w.heap.size, 1, none⟩ = some (.slice b rom.length d) ∧ W.cell? ⟨w.heap.size, 2, none⟩ = some (.int .i64 bank))
    (first | (with_reducible assumption) | exact hS | (refine three_below hb1 ?_; first | assumption | exact hS) | (refine three_below hb2 ?_; first | assumption | exact hS) | go_keep)
    (first
      | (refine step_cloneI rfl _ _ rfl X.heap.size _ _ ram rfl rfl (OwnV.nil _ _ _) (HI.out.below hXb.out.drew) (by omega) (Nat.le_refl _) ?_; intro v1 w1 ow1 hg1 _; have hb1 := grown_below hg1; have hT1 := six_below hb1 hT; obtain ⟨qq1, qq2, qq3, qq4, qq5, qq6⟩ := id hT1; have O1 := Lib.hid (OwnV.own ow1); clear ow1; obtain ⟨a1, c1, rfl⟩ := own_shape O1.out; have hB1 : Hid (Below w.heap.size w w1) := hXb.out.drew.trans (hb1.mono hXn))
      | (go_at_call 42; refine (impl_copyRows (HM.out.below hB1.out) z2 z3).mono ?_; rintro e w2 ⟨v2, rfl, o2, hb2⟩; have hT2 := six_below hb2 hT1; obtain ⟨qr1, qr2, qr3, qr4, qr5, qr6⟩ := id hT2; have O2 := Lib.hid o2; clear o2; obtain ⟨a2, c2, rfl, _, _⟩ := mat_shape O2.out.mat))
  all_goals
    have hs1 : X.heap.size ≤ w1.heap.size := hb1.size
    go_wp2_with fail
    refine bodyPost_ret (v := .agg #[.slice a1 ram.length c1, .slice a2 rom.length c2, .int .i64 bank]) (by simp [results, Try.results28, go_sem, qr1, qr2, qr3]) rfl ⟨_, rfl, ⟨_, _, X.heap.size, w1.heap.size, w1.heap.size, w2.heap.size, rfl, ⟨hXn, by have := hb2.size; simp only [size_set]; omega, by have := hb1.size; simp at this; omega, by simp only [size_set]; exact Nat.le_refl _, .inl (Nat.le_refl _)⟩, ?_, ?_⟩, ?_⟩
    · exact O1.out.agree (by (repeat (first | assumption | with_reducible exact Agree.refl _ _ _ | with_reducible refine agree_below (by assumption) ?_ (by first | omega | go_size) | with_reducible refine agree_within (by assumption) ?_ (by first | omega | go_size) (by omega) | with_reducible refine Agree.alloc ?_ (by first | omega | go_size) _ | with_reducible refine Agree.setCell ?_ (by first | omega | (dsimp only; omega)) _ | with_reducible refine Agree.drew ?_)))
    · exact O2.out.agree (by (repeat (first | assumption | with_reducible exact Agree.refl _ _ _ | with_reducible refine agree_below (by assumption) ?_ (by first | omega | go_size) | with_reducible refine agree_within (by assumption) ?_ (by first | omega | go_size) (by omega) | with_reducible refine Agree.alloc ?_ (by first | omega | go_size) _ | with_reducible refine Agree.setCell ?_ (by first | omega | (dsimp only; omega)) _ | with_reducible refine Agree.drew ?_)))
    · repeat (with_reducible refine Below.setCell ?_ (by show w.heap.size ≤ w.heap.size + 1; omega) _)
      exact hB1.out.trans (hb2.mono (by have := hb1.size; simp at this; omega))
end Go.Proofs.Ytlnpmanghkeieaa
