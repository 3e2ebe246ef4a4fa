/- The walks of impl.branch and of the reference's function for the same: what an instruction that changes the address makes of a machine in place. No condition. -/
import Derived.Test.YtlnpmanghkeieaaMachIn
import Derived.Test.YtlnpmanghkeieaaClone
import Derived.Deep.RegionLaw
import Derived.Deep.RegionWith
namespace Go.Proofs.Ytlnpmanghkeieaa
open Go.RowKit
set_option linter.unusedVariables false

/-- Append of integers onto the call's own, at a step. -/
theorem step_appI {w : World} {ops : Array Oper} {o : Oper} {a : Act} {K : Act → World → Prop} {Q : Exit → Act → World → Prop} {E : Prop} (hgd : o.guard = none) (s x : Operand)
    (ho : o.op = .call { callee := .builtin .append, args := #[s, x], argTypes := #[23, 23] })
    (base : Nat) (v u : Value) (xs ys : List Int) (hs : a.eval s = v) (hx : a.eval x = u) (hv : OwnV w base 3 v (xs.map (.int .i64))) (hu : Ints w u ys) (hb : xs.length + ys.length ≤ 1000000000000) (hbase : base ≤ w.heap.size)
    (h : ∀ v' w', OwnV w' base 3 v' ((xs ++ ys).map (.int .i64)) → w.grownBy w' v.ownBlock → (v'.ownBlock = v.ownBlock ∨ v'.ownBlock = some w.heap.size) → K (a.put o.dst v') w') :
    if Region.wanted o (yielded ops a.tmps) = true then Oper.wp Try.prog o a w K Q else E := by
  obtain ⟨i, hi, hz, hsz, hby⟩ := info_parts infoInt
  refine step_app hgd s x 23 ho 3 i _ 8 Try.underlying23 hi hz hsz hby rfl base v u _ _ hs hx hv hu.holds (ints_one _) (by simp; unfold maxLen; omega) (by simp; omega) hbase ?_
  intro v' w' h1
  rw [← List.map_append] at h1
  exact h v' w' h1
section
variable {m : Mach} {arg op : Int}
theorem goes_10 : m.goes 10 arg = { m with pc := arg } := by simp [Mach.goes]
theorem goes_11 (h : m.a = 0) : m.goes 11 arg = { m with pc := arg } := by simp [Mach.goes, h]
theorem goes_11n (h : m.a ≠ 0) : m.goes 11 arg = m := by simp [Mach.goes, h]
theorem goes_12 (h : m.carry = true) : m.goes 12 arg = { m with pc := arg } := by simp [Mach.goes, h]
theorem goes_12n (h : m.carry = false) : m.goes 12 arg = m := by simp [Mach.goes, h]
theorem goes_13f (h : m.back.length = 8) : m.goes 13 arg = { m with stop := true } := by simp [Mach.goes, h]
theorem goes_13 (h : m.back.length ≠ 8) : m.goes 13 arg = { { m with back := m.back ++ [m.pc] } with pc := arg } := by simp [Mach.goes, h]
theorem goes_14e (h : m.back = []) : m.goes 14 arg = { m with stop := true } := by simp [Mach.goes, h]
theorem goes_14 (h : m.back ≠ []) : m.goes 14 arg = { { m with pc := m.back.getD (m.back.length - 1) 0 } with back := m.back.take (m.back.length - 1) } := by simp [Mach.goes, h]
theorem goes_15 : m.goes 15 arg = { m with stop := true } := by simp [Mach.goes]
theorem goes_no (h0 : op ≠ 10) (h1 : op ≠ 11) (h2 : op ≠ 12) (h3 : op ≠ 13) (h4 : op ≠ 14) (h5 : op ≠ 15) : m.goes op arg = m := by simp [Mach.goes, h0, h1, h2, h3, h4, h5]
end
theorem inM_eq {L : Nat} {w : World} {B : Nat} {m m' : Mach} (h : InM L w B m) (e : m' = m) : InM L w B m' := e ▸ h
theorem MachIn.inM {L : Nat} {w : World} {B : Nat} {m : Mach} {a : Option Addr} {c : Nat} {b : Option Addr} {d l1 t1 l2 t2 : Nat} {v : Value} (h : MachIn L w B m a c b d l1 t1 l2 t2 v) : InM L w B m := ⟨_, _, _, _, _, _, _, _, _, h⟩
theorem grown_cell {X w' : World} {r : Option Nat} (hg : X.grownBy w' r) {p : Addr} {v : Value} (h : X.cell? p = some v) (hn : r ≠ some p.block) : w'.cell? p = some v :=
  (World.cell?_of_block (w := X) (hg.block _ (block_lt_of_cell h) (Ne.symm hn))).trans h
theorem grown_frozen {X w' : World} {r : Option Nat} (hg : X.grownBy w' r) {p : Addr} {f : Bool} (h : X.frozen? p = f) (hl : p.block < X.heap.size) (hn : r ≠ some p.block) : w'.frozen? p = f :=
  (World.frozen?_of_block (w := X) (hg.block _ hl (Ne.symm hn))).trans h
theorem ints_lit1' {W : World} {b : Nat} {x : Int} {e : TypeId} (he : b = W.heap.size) : Ints (W.alloc (.cells #[.int .i64 x] e)) (.slice (some ⟨b, 0, none⟩) 1 1) [x] := by
  subst he; exact ints_lit1 _ _ _
theorem ints_drew {W : World} {v : Value} {zs : List Int} (h : Ints W v zs) : Ints W.drew v zs := h
theorem ownV_shape3 {w : World} {base e : Nat} {v : Value} {vs : List Value} (h : OwnV w base e v vs) : ∃ a n c, v = .slice a n c := by
  obtain ⟨a, c, h⟩ := ownV_shape h
  exact ⟨a, _, c, h⟩
theorem bel_sa {L B i : Nat} {w : World} {v : Value} {o : Obj} (lB : L ≤ B) (hL : L ≤ w.heap.size) : Below L w ((w.setCell ⟨B, i, none⟩ v).alloc o) :=
  ((Below.refl _ _).setCell (p := ⟨B, i, none⟩) lB _).alloc (by rw [size_set]; exact hL) _
theorem bel_ssa {L B i j : Nat} {w : World} {v u : Value} {o : Obj} (lB : L ≤ B) (hL : L ≤ w.heap.size) : Below L w (((w.setCell ⟨B, i, none⟩ v).setCell ⟨B, j, none⟩ u).alloc o) :=
  (((Below.refl _ _).setCell (p := ⟨B, i, none⟩) lB _).setCell (p := ⟨B, j, none⟩) lB _).alloc (by rw [size_set, size_set]; exact hL) _
def Does (L : Nat) (w : World) (B : Nat) (m : Mach) (e : Ending) (w' : World) : Prop := e = .returned (.tuple #[]) ∧ InM L w' B m ∧ Below L w w'
set_option maxHeartbeats 4000000 in
theorem impl_branch {L B : Nat} {m : Mach} {op arg : Int} {w : World} (h : InM L w B m) (hl : m.back.length ≤ 8) (h15 : op ≠ 15) : Calls Try.prog 50 #[.pointer (some ⟨B, 0, none⟩), .agg #[.int .i64 op, .int .i64 arg]] w (Does L w B (m.goes op arg)) := by
  unfold Does
  obtain ⟨a, c, b, d, l1, t1, l2, t2, v, h⟩ := h
  have hB := h.ltB
  have lB := h.mem.lB
  have hL : L ≤ w.heap.size := by omega
  obtain ⟨va, vc, rfl⟩ := ownV_shape h.bk
  simp only [List.length_map] at h
  have hX := h.alloc (.cells #[.int .i64 op, .int .i64 arg] 58)
  have H := Lib.hid hX
  have H0 := Lib.hid h
  have f4 := h.mf 4 (by decide)
  have f6 := h.mf 6 (by decide)
  have f7 := h.mf 7 (by decide)
  obtain ⟨⟨c0, c1, c2⟩, ⟨c3, c4, c5⟩, c6, c7, c8⟩ := h.mc
  have hne : w.heap.size ≠ B := by omega
  have hnb : B ≠ w.heap.size := by omega
  have BX : Hid (Below L w (w.alloc (.cells #[.int .i64 op, .int .i64 arg] 58))) := (Below.refl _ _).alloc hL _
  have OV := Lib.hid h.bk
  have nB : ∀ n, (Value.slice va n vc).ownBlock ≠ some B := fun n e => (h.bs B (by cases va <;> exact e)).2.2 rfl
  have nO : ∀ n, (Value.slice va n vc).ownBlock ≠ some w.heap.size := fun n e => by
    have := (h.bk.lt _ (show (Value.slice va m.back.length vc).ownBlock = some w.heap.size by cases va <;> exact e)).2
    omega
  clear h hX
  by_cases p10 : op = 10
  · subst p10
    have E := Lib.hid (inM_eq ((H0.out.setPc arg).alloc (.cells #[.int .i64 10, .int .i64 arg] 58)).inM goes_10)
    go_enter Try.func50, Try.ntmps50
    go_wp2_with fail
    go_returns
    exact ⟨rfl, E.out, bel_sa lB hL⟩
  by_cases p11 : op = 11
  · subst p11
    by_cases ha : m.a = 0
    · have E := Lib.hid (inM_eq ((H0.out.setPc arg).alloc (.cells #[.int .i64 11, .int .i64 arg] 58)).inM (goes_11 ha))
      have ha' : (m.a == 0) = true := by simpa using ha
      go_enter Try.func50, Try.ntmps50
      go_wp2_with fail
      go_returns
      exact ⟨rfl, E.out, bel_sa lB hL⟩
    · have E := Lib.hid (inM_eq H.out.inM (goes_11n (arg := arg) ha))
      have ha' : (m.a == 0) = false := by simpa using ha
      go_enter Try.func50, Try.ntmps50
      go_wp2_with fail
      go_returns
      exact ⟨rfl, E.out, BX.out⟩
  by_cases p12 : op = 12
  · subst p12
    cases hc : m.carry
    · have E := Lib.hid (inM_eq H.out.inM (goes_12n (arg := arg) hc))
      rw [hc] at c5
      go_enter Try.func50, Try.ntmps50
      go_wp2_with fail
      go_returns
      exact ⟨rfl, E.out, BX.out⟩
    · have E := Lib.hid (inM_eq ((H0.out.setPc arg).alloc (.cells #[.int .i64 12, .int .i64 arg] 58)).inM (goes_12 hc))
      rw [hc] at c5
      go_enter Try.func50, Try.ntmps50
      go_wp2_with fail
      go_returns
      exact ⟨rfl, E.out, bel_sa lB hL⟩
  by_cases p13 : op = 13
  · subst p13
    by_cases h8 : m.back.length = 8
    · have E := Lib.hid (inM_eq ((H0.out.setStop true).alloc (.cells #[.int .i64 13, .int .i64 arg] 58)).inM (goes_13f (arg := arg) h8))
      rw [h8] at c6
      go_enter Try.func50, Try.ntmps50
      go_wp2_with fail
      go_returns
      exact ⟨rfl, E.out, bel_sa lB hL⟩
    · have E := Lib.hid (goes_13 (arg := arg) h8)
      have h8' : ((m.back.length : Int) == 8) = false := by simp; omega
      go_enter Try.func50, Try.ntmps50
      go_wp2_with fail
      go_region_law (refine step_appI rfl _ _ rfl L (.slice va m.back.length vc) _ m.back [m.pc] rfl rfl (by repeat (first | with_reducible exact OV.out | with_reducible refine OwnV.drew ?_ | with_reducible refine OwnV.alloc ?_ _)) (by first | exact ints_lit1' (by simp) | exact ints_drew (ints_lit1' (by simp))) (by simp; omega) (by simp; omega) ?_; intro v' w' ow hg ha; obtain ⟨va2, vn2, vc2, rfl⟩ := ownV_shape3 ow; (have g6 : w'.cell? ⟨B, 6, none⟩ = some (.slice va m.back.length vc) := grown_cell hg (p := ⟨B, 6, none⟩) (by simp [go_sem, c6, hB]) (nB _)); (have g4 : w'.cell? ⟨B, 4, none⟩ = some (.int .i64 m.pc) := grown_cell hg (p := ⟨B, 4, none⟩) (by simp [go_sem, c4, hB]) (nB _)); (have k6 : w'.frozen? ⟨B, 6, none⟩ = false := grown_frozen hg (p := ⟨B, 6, none⟩) (by simp [go_sem, f6, hB]) (by simp; omega) (nB _)); (have k4 : w'.frozen? ⟨B, 4, none⟩ = false := grown_frozen hg (p := ⟨B, 4, none⟩) (by simp [go_sem, f4, hB]) (by simp; omega) (nB _)); (have g1 : w'.cell? ⟨w.heap.size, 1, none⟩ = some (.int .i64 arg) := grown_cell hg (p := ⟨w.heap.size, 1, none⟩) (by simp [go_sem]) (nO _)); (have OW := Lib.hid ow); (have HG := Lib.hid hg); (have HA := Lib.hid ha); clear ow hg ha)
      all_goals
        have K := Lib.hid (MachIn.setBack ((H0.out.alloc (.cells #[.int .i64 13, .int .i64 arg] 58)).alloc (.cells #[.int .i64 m.pc] 3)).drew HG.out.size (fun k q1 q2 => HG.out.block k q1 (Ne.symm q2)) OW.out (fun g q => HA.out.elim (fun q1 => .inl (q1.symm.trans q)) (fun q1 => .inr (by rw [q1] at q; injection q with q; omega))))
        have BK : Hid (Below L w w') := below_app (((Below.refl L w).alloc hL (.cells #[.int .i64 13, .int .i64 arg] 58)).alloc (by simp; omega) (.cells #[.int .i64 m.pc] 3)).drew HG.out OV.out (by simp; omega) (Nat.le_refl _)
        clear OW HG HA
        go_wp2_with fail
        go_returns
        refine ⟨rfl, inM_eq (K.out.setPc arg).inM E.out, (BK.out.setCell (p := ⟨B, 6, none⟩) lB _).setCell (p := ⟨B, 4, none⟩) lB _⟩
  by_cases p14 : op = 14
  · subst p14
    by_cases h0 : m.back = []
    · have E := Lib.hid (inM_eq ((H0.out.setStop true).alloc (.cells #[.int .i64 14, .int .i64 arg] 58)).inM (goes_14e (arg := arg) h0))
      have e0 : m.back.length = 0 := by rw [h0]; rfl
      rw [e0] at c6
      go_enter Try.func50, Try.ntmps50
      go_wp2_with fail
      go_returns
      exact ⟨rfl, E.out, bel_sa lB hL⟩
    · obtain ⟨n, hn⟩ : ∃ n, m.back.length = n + 1 := ⟨m.back.length - 1, by have := List.length_pos_iff.2 h0; omega⟩
      have E := Lib.hid (goes_14 (arg := arg) h0)
      obtain ⟨_, _, _, b', off, rfl, hb', hc'⟩ := ints_at_ OV.out.own.ints (k := n) (by omega)
      have en : m.back.length - 1 = n := by omega
      rw [en] at E
      have K1 := Lib.hid (H0.out.setPc (m.back.getD n 0))
      have K2 := Lib.hid ((MachIn.setBack K1.out (Nat.le_refl _) (fun k _ _ => rfl) (OwnV.cut K1.out.bk n (by omega) (by omega)) (fun g q => .inl q)).alloc (.cells #[.int .i64 14, .int .i64 arg] 58))
      generalize m.back.getD n 0 = x at *
      have N := Lib.hid hn
      rw [hn] at c6 hl
      clear hn
      have hnB : b' ≠ B := fun e => nB 0 (by rw [e]; rfl)
      have e1 : ((n + 1 : Nat) : Int) - 1 = (n : Int) := by omega
      have q0 : ((n : Int) + 1 == 0) = false := by simp; omega
      have q1 : (n : Int) < (n : Int) + 1 := by omega
      have q2 : (n : Int) ≤ 8 := by omega
      have q3 : 0 ≤ (n : Int) := by omega
      go_enter Try.func50, Try.ntmps50
      go_wp2_with fail
      go_returns
      exact ⟨rfl, inM_eq K2.out.inM E.out, bel_ssa lB hL⟩
  · have E := Lib.hid (inM_eq H.out.inM (goes_no (arg := arg) p10 p11 p12 p13 p14 h15))
    have q10 : (op == 10) = false := by simpa using p10
    have q11 : (op == 11) = false := by simpa using p11
    have q12 : (op == 12) = false := by simpa using p12
    have q13 : (op == 13) = false := by simpa using p13
    have q14 : (op == 14) = false := by simpa using p14
    go_enter Try.func50, Try.ntmps50
    go_wp2_with fail
    go_returns
    exact ⟨rfl, E.out, BX.out⟩
end Go.Proofs.Ytlnpmanghkeieaa
