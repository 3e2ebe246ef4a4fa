/- Disassemble, both sides: the texts of the instructions that a list of bytes holds, one behind the other; none if it is not read whole, or holds more than 60. Condition: a list of at most 2^20 numbers. -/
import Derived.Test.YthplgehdgaeapaaDoorOwnS
import Derived.Test.YthplgehdgaeapaaDoorDecode
namespace Go.Proofs.YthplgehdgaeapaaDoor
open Go.RowKit
set_option linter.unusedVariables false
set_option linter.unusedSimpArgs false

/-- append of strings onto strings. -/
theorem wp_appS {w : World} {ops : Array Oper} {rest : List Oper} {o : Oper} {a : Act} {Q : Exit → Act → World → Prop} (hgd : o.guard = none) (s x : Operand)
    (ho : o.op = .call { callee := .builtin .append, args := #[s, x], argTypes := #[22, 22] })
    (base : Nat) (v u : Value) (xs ys : List ByteArray) (hs : a.eval s = v) (hx : a.eval x = u) (hv : OwnV w base 9 v (xs.map Value.string)) (hu : Holds w u (ys.map Value.string)) (hb : xs.length + ys.length ≤ 1000000000) (hbase : base ≤ w.heap.size)
    (h : ∀ v' w', OwnV w' base 9 v' ((xs ++ ys).map Value.string) → w.grownBy w' v.ownBlock → (v'.ownBlock = v.ownBlock ∨ v'.ownBlock = some w.heap.size) → wpList Tryd.prog ops Q rest (a.put o.dst v') w') : wpList Tryd.prog ops Q (o :: rest) a w := by
  obtain ⟨i, hi, hz, hsz, hby⟩ := info_parts infoStr
  refine wp_app hgd s x 22 ho 9 i _ 16 Tryd.underlying22 hi hz hsz hby rfl base v u _ _ hs hx hv hu (fun y hy => by obtain ⟨z, _, rfl⟩ := List.mem_map.1 hy; rfl) (by simp; unfold maxLen; omega) (by simp; omega) hbase ?_
  intro v' w' h1
  rw [← List.map_append] at h1
  exact h v' w' h1
theorem holds_one (w : World) (B : Nat) (s : ByteArray) (e : TypeId) (hB : w.heap.size = B) : Holds (w.alloc (.cells #[.string s] e)) (.slice (some ⟨B, 0, none⟩) 1 1) ([s].map Value.string) := by
  subst hB
  exact Holds.lit w #[.string s] e 1 1 rfl (Nat.le_refl _)
/-- What Disassemble gives: by fuel. -/
def disF (zs : List Int) : Nat → Nat → List ByteArray → Option (List ByteArray)
  | 0, _, _ => none
  | f + 1, p, acc => if p < zs.length then (if dOk zs p = true ∧ acc.length ≠ 60 then disF zs f (p + (olen (dOp zs p)).toNat) (acc ++ [fmtS (dOp zs p) (dArg zs p)]) else none) else some acc
def dis (zs : List Int) : Option (List ByteArray) := disF zs (zs.length + 1) 0 []
theorem dOk_len {zs : List Int} {p : Nat} (h : dOk zs p = true) : 1 ≤ olen (dOp zs p) ∧ (p : Int) + olen (dOp zs p) ≤ zs.length := by
  unfold dOk at h
  rw [Bool.and_eq_true] at h
  have h2 := h.2
  unfold okX at h2
  simp only [Bool.and_eq_true, Bool.or_eq_true, beq_iff_eq, decide_eq_true_eq] at h2
  obtain ⟨h3, (h4 | ⟨h4, _⟩) | ⟨⟨h4, _⟩, _⟩⟩ := h2 <;> rw [h4] at h3 ⊢ <;> omega
theorem disF_end {zs : List Int} {f p : Nat} {acc : List ByteArray} (hf : 0 < f) (hp : ¬ p < zs.length) : disF zs f p acc = some acc := by
  cases f
  · omega
  · rw [disF, if_neg hp]
theorem disF_no {zs : List Int} {f p : Nat} {acc : List ByteArray} (hp : p < zs.length) (h : ¬ (dOk zs p = true ∧ acc.length ≠ 60)) : disF zs f p acc = none := by
  cases f
  · rfl
  · rw [disF, if_pos hp, if_neg h]
theorem disF_yes {zs : List Int} {f p : Nat} {acc : List ByteArray} (hp : p < zs.length) (h1 : dOk zs p = true) (h2 : acc.length ≠ 60) : disF zs (f + 1) p acc = disF zs f (p + (olen (dOp zs p)).toNat) (acc ++ [fmtS (dOp zs p) (dArg zs p)]) := by
  rw [disF, if_pos hp, if_pos ⟨h1, h2⟩]
def MadeDis (zs : List Int) (w : World) (e : Ending) (w' : World) : Prop := ∃ v, e = .returned (.tuple #[v, .bool (dis zs).isSome]) ∧ OwnS w.heap.size w'.heap.size w' v ((dis zs).getD []) ∧ Below w.heap.size w w'
theorem dis_none {zs : List Int} (a : Option Addr) {w w' : World} (h : none = dis zs) (hb : Below w.heap.size w w') : MadeDis zs w (.returned (.tuple #[.slice a 0 0, .bool false])) w' := by
  refine ⟨.slice a 0 0, by rw [← h]; rfl, ?_, hb⟩
  rw [← h]
  exact ⟨a, 0, rfl, Nat.le_refl _, Nat.zero_le _, .inl rfl⟩
theorem dis_some {zs : List Int} {v : Value} {acc : List ByteArray} {w w' : World} (h : some acc = dis zs) (ho : OwnV w' w.heap.size 9 v (acc.map Value.string)) (hb : Below w.heap.size w w') : MadeDis zs w (.returned (.tuple #[v, .bool true])) w' := by
  refine ⟨v, by rw [← h]; rfl, ?_, hb⟩
  rw [← h]
  exact ho.ownS
set_option maxHeartbeats 4000000 in
set_option maxRecDepth 20000 in
theorem impl_Disassemble {v : Value} {zs : List Int} {w : World} (h : Ints w v zs) (hl : zs.length ≤ 1048576) (hT : TabW w) : Calls Tryd.prog 25 #[v] w (MadeDis zs w) := by
  have HI := Lib.hid h
  obtain ⟨a, cap, rfl, hlc, hcap, _⟩ := h
  unfold maxLen at hcap
  have hcap1 : (cap : Int) ≤ 9223372036854775807 := by omega
  have R0 : Hid (disF zs (zs.length + 1) 0 [] = dis zs) := rfl
  obtain ⟨n, hn⟩ : ∃ n, n = zs.length := ⟨_, rfl⟩
  have HN := Lib.hid hn
  rw [← hn] at hlc hl HI R0 ⊢
  clear hn
  go_enter Tryd.func25, Tryd.ntmps25
  go_wp2_with fail
  go_loopw [4, 5] (fun s4 s5 wr => ∃ (p f : Nat) (acc : List ByteArray), p ≤ n ∧ n < p + f ∧ s5 = .int .i64 p ∧ acc.length ≤ 60 ∧ Hid (disF zs f p acc = dis zs) ∧ Hid (OwnV wr w.heap.size 9 s4 (acc.map Value.string)) ∧ Hid (Below w.heap.size w wr)) (fun _ s5 _ => n - (intOf s5).toNat)
  case atStart => exact ⟨0, n + 1, [], Nat.zero_le _, by omega, rfl, Nat.zero_le _, R0.out, OwnV.nil _ _ _, Below.refl _ _⟩
  case round =>
    obtain ⟨p, f, acc, hp, hf, rfl, hacc, hD, hO, hb⟩ := hrel
    by_cases hlt : p < n
    · have hi : (p : Int) < (n : Int) := by omega
      have hltz : p < zs.length := by rw [← HN.out]; exact hlt
      obtain ⟨f, rfl⟩ : ∃ g, f = g + 1 := ⟨f - 1, by omega⟩
      go_wp2_with fail
      refine (impl_DecodeOrder (p : Int) (HI.out.below hb.out)).mono ?_
      rintro e w2 ⟨rfl, hb2⟩
      have hB2 : Hid (Below w.heap.size w w2) := hb.out.trans (hb2.mono hb.out.size)
      have hO2 := Lib.hid (hO.out.of (fun g hg => hb2.block g (hO.out.lt g hg).2))
      have hs2 : w.heap.size ≤ w2.heap.size := hB2.out.size
      clear hO hb hb2
      obtain ⟨sa, sc, rfl⟩ := ownV_shapeA hO2.out
      have hlm : (acc.map Value.string).length = acc.length := List.length_map ..
      rw [hlm] at hO2 ⊢
      clear hlm
      cases hd : dOk zs p
      · have DN := Lib.hid ((disF_no (f := f + 1) (acc := acc) hltz (fun h => by rw [hd] at h; cases h.1)).symm.trans hD.out)
        have hv : decV zs p = noV := by simp [decV, hd]
        rw [hv]
        unfold noV
        clear hv hd
        go_wp2_with fail
        go_ret2
        refine dis_none _ DN.out ?_
        have hBb := hB2.out
        repeat (first | with_reducible exact Below.refl _ _ | with_reducible refine below_via (by assumption) ?_ (by go_size) | with_reducible refine below_within (by assumption) ?_ (by go_size) (by omega) | with_reducible refine Below.alloc ?_ (by go_size) _ | with_reducible refine Below.setCell ?_ (by go_size) _ | with_reducible refine Below.drew ?_)
      · have hv : decV zs p = .tuple #[.agg #[.int .i64 (dOp zs p), .int .i64 (dArg zs p)], .int .i64 (olen (dOp zs p)), .bool true] := by simp [decV, hd]
        rw [hv]
        obtain ⟨g1, g2⟩ := dOk_len hd
        rw [← HN.out] at g2
        by_cases h60 : acc.length = 60
        · have DN := Lib.hid ((disF_no (f := f + 1) (acc := acc) hltz (fun h => h.2 h60)).symm.trans hD.out)
          have h6 : ((acc.length : Int) == 60) = true := by rw [h60]; rfl
          clear hv hd h60
          generalize olen (dOp zs p) = ol at *
          generalize dOp zs p = op at *
          generalize dArg zs p = arg at *
          go_wp2_with fail
          go_ret2
          refine dis_none _ DN.out ?_
          have hBb := hB2.out
          repeat (first | with_reducible exact Below.refl _ _ | with_reducible refine below_via (by assumption) ?_ (by go_size) | with_reducible refine below_within (by assumption) ?_ (by go_size) (by omega) | with_reducible refine Below.alloc ?_ (by go_size) _ | with_reducible refine Below.setCell ?_ (by go_size) _ | with_reducible refine Below.drew ?_)
        · have DY := Lib.hid ((disF_yes hltz hd h60).symm.trans hD.out)
          have h6 : ((acc.length : Int) == 60) = false := by rw [beq_eq_false_iff_ne]; omega
          clear hv hd hD
          generalize olen (dOp zs p) = ol at *
          generalize dOp zs p = op at *
          generalize dArg zs p = arg at *
          have hB3 : Hid (Below w.heap.size w (w2.alloc (.cells #[.int .i64 op, .int .i64 arg] 35))) := hB2.out.alloc hB2.out.size _
          have hO3 := Lib.hid (hO2.out.alloc (.cells #[.int .i64 op, .int .i64 arg] 35))
          have hw : IntKind.i64.wrap ((p : Int) + ol) = p + ol := by rw [IntKind.wrap_i64]; omega
          go_wp2_with fail
          refine (impl_FormatOrder op arg (hT.below hB3.out)).mono ?_
          rintro e w4 ⟨rfl, hb4⟩
          have hO4 := Lib.hid (hO3.out.of (fun g hg => hb4.block g (hO3.out.lt g hg).2))
          have hB4 : Hid (Below w.heap.size w w4) := hB3.out.trans (hb4.mono hB3.out.size)
          have hs4 : w.heap.size ≤ w4.heap.size := hB4.out.size
          have hz4 : w2.heap.size < w4.heap.size := Nat.lt_of_lt_of_le (by go_size) hb4.size
          generalize fmtS op arg = s at *
          have hO5 := Lib.hid (hO4.out.alloc (.cells #[.string s] 9))
          have hB5 : Hid (Below w.heap.size w (w4.alloc (.cells #[.string s] 9))) := hB4.out.alloc hs4 _
          clear hb4 hO2 hO3 hO4 hB2 hB3 hB4
          go_wp2_with (at_builtin; refine wp_appS rfl _ _ rfl w.heap.size _ _ acc [s] rfl rfl hO5.out (holds_one w4 _ s _ rfl) (by simp; omega) hB5.out.size ?_; intro v5 w5 ow5 hg5 _)
          have hB6 : Hid (Below w.heap.size w w5) := hB5.out.grown hg5 hB5.out.size (fun j hj => (hO5.out.lt j hj).1)
          have OW5 := Lib.hid ow5
          clear ow5 hg5 hO5 hB5
          go_wp2_with fail
          go_roundw
          case rel => exact ⟨p + ol.toNat, f, acc ++ [s], by omega, by omega, congrArg (Value.int .i64) (by omega), by simp; omega, DY.out, OW5.out, hB6.out⟩
          case measure => simp [intOf]; omega
    · have hi : ¬ (p : Int) < (n : Int) := by omega
      have DE := Lib.hid ((disF_end (f := f) (acc := acc) (by omega) (by rw [← HN.out]; exact hlt)).symm.trans hD.out)
      go_wp2_with fail
      go_ret2
      exact dis_some DE.out hO.out hb.out
set_option maxHeartbeats 4000000 in
set_option maxRecDepth 20000 in
theorem spec_Disassemble {v : Value} {zs : List Int} {w : World} (h : Ints w v zs) (hl : zs.length ≤ 1048576) : Calls Tryd.prog 23 #[v] w (MadeDis zs w) := by
  have HI := Lib.hid h
  obtain ⟨a, cap, rfl, hlc, hcap, _⟩ := h
  unfold maxLen at hcap
  have hcap1 : (cap : Int) ≤ 9223372036854775807 := by omega
  have R0 : Hid (disF zs (zs.length + 1) 0 [] = dis zs) := rfl
  obtain ⟨n, hn⟩ : ∃ n, n = zs.length := ⟨_, rfl⟩
  have HN := Lib.hid hn
  rw [← hn] at hlc hl HI R0 ⊢
  clear hn
  go_enter Tryd.func23, Tryd.ntmps23
  go_wp2_with fail
  go_loopw [4, 5] (fun s4 s5 wr => ∃ (p f : Nat) (acc : List ByteArray), p ≤ n ∧ n < p + f ∧ s5 = .int .i64 p ∧ acc.length ≤ 60 ∧ Hid (disF zs f p acc = dis zs) ∧ Hid (OwnV wr w.heap.size 9 s4 (acc.map Value.string)) ∧ Hid (Below w.heap.size w wr)) (fun _ s5 _ => n - (intOf s5).toNat)
  case atStart => exact ⟨0, n + 1, [], Nat.zero_le _, by omega, rfl, Nat.zero_le _, R0.out, OwnV.lit #[] _ (Nat.le_refl _) rfl (Nat.zero_le _), (Below.refl _ _).alloc (Nat.le_refl _) _⟩
  case round =>
    obtain ⟨p, f, acc, hp, hf, rfl, hacc, hD, hO, hb⟩ := hrel
    by_cases hlt : p < n
    · have hi : (p : Int) < (n : Int) := by omega
      have hltz : p < zs.length := by rw [← HN.out]; exact hlt
      obtain ⟨f, rfl⟩ : ∃ g, f = g + 1 := ⟨f - 1, by omega⟩
      go_wp2_with fail
      refine (spec_DecodeOrder (p : Int) (HI.out.below hb.out)).mono ?_
      rintro e w2 ⟨rfl, hb2⟩
      have hB2 : Hid (Below w.heap.size w w2) := hb.out.trans (hb2.mono hb.out.size)
      have hO2 := Lib.hid (hO.out.of (fun g hg => hb2.block g (hO.out.lt g hg).2))
      have hs2 : w.heap.size ≤ w2.heap.size := hB2.out.size
      clear hO hb hb2
      obtain ⟨sa, sc, rfl⟩ := ownV_shapeA hO2.out
      have hlm : (acc.map Value.string).length = acc.length := List.length_map ..
      rw [hlm] at hO2 ⊢
      clear hlm
      cases hd : dOk zs p
      · have DN := Lib.hid ((disF_no (f := f + 1) (acc := acc) hltz (fun h => by rw [hd] at h; cases h.1)).symm.trans hD.out)
        have hv : decV zs p = noV := by simp [decV, hd]
        rw [hv]
        unfold noV
        clear hv hd
        go_wp2_with fail
        go_ret2
        refine dis_none _ DN.out ?_
        have hBb := hB2.out
        repeat (first | with_reducible exact Below.refl _ _ | with_reducible refine below_via (by assumption) ?_ (by go_size) | with_reducible refine below_within (by assumption) ?_ (by go_size) (by omega) | with_reducible refine Below.alloc ?_ (by go_size) _ | with_reducible refine Below.setCell ?_ (by go_size) _ | with_reducible refine Below.drew ?_)
      · have hv : decV zs p = .tuple #[.agg #[.int .i64 (dOp zs p), .int .i64 (dArg zs p)], .int .i64 (olen (dOp zs p)), .bool true] := by simp [decV, hd]
        rw [hv]
        obtain ⟨g1, g2⟩ := dOk_len hd
        rw [← HN.out] at g2
        by_cases h60 : acc.length = 60
        · have DN := Lib.hid ((disF_no (f := f + 1) (acc := acc) hltz (fun h => h.2 h60)).symm.trans hD.out)
          have h6 : ((acc.length : Int) == 60) = true := by rw [h60]; rfl
          clear hv hd h60
          generalize olen (dOp zs p) = ol at *
          generalize dOp zs p = op at *
          generalize dArg zs p = arg at *
          go_wp2_with fail
          go_ret2
          refine dis_none _ DN.out ?_
          have hBb := hB2.out
          repeat (first | with_reducible exact Below.refl _ _ | with_reducible refine below_via (by assumption) ?_ (by go_size) | with_reducible refine below_within (by assumption) ?_ (by go_size) (by omega) | with_reducible refine Below.alloc ?_ (by go_size) _ | with_reducible refine Below.setCell ?_ (by go_size) _ | with_reducible refine Below.drew ?_)
        · have DY := Lib.hid ((disF_yes hltz hd h60).symm.trans hD.out)
          have h6 : ((acc.length : Int) == 60) = false := by rw [beq_eq_false_iff_ne]; omega
          clear hv hd hD
          generalize olen (dOp zs p) = ol at *
          generalize dOp zs p = op at *
          generalize dArg zs p = arg at *
          have hB3 : Hid (Below w.heap.size w (w2.alloc (.cells #[.int .i64 op, .int .i64 arg] 35))) := hB2.out.alloc hB2.out.size _
          have hO3 := Lib.hid (hO2.out.alloc (.cells #[.int .i64 op, .int .i64 arg] 35))
          have hw : IntKind.i64.wrap ((p : Int) + ol) = p + ol := by rw [IntKind.wrap_i64]; omega
          go_wp2_with fail
          refine (spec_FormatOrder op arg _).mono ?_
          rintro e w4 ⟨rfl, hb4⟩
          have hO4 := Lib.hid (hO3.out.of (fun g hg => hb4.block g (hO3.out.lt g hg).2))
          have hB4 : Hid (Below w.heap.size w w4) := hB3.out.trans (hb4.mono hB3.out.size)
          have hs4 : w.heap.size ≤ w4.heap.size := hB4.out.size
          have hz4 : w2.heap.size < w4.heap.size := Nat.lt_of_lt_of_le (by go_size) hb4.size
          generalize fmtS op arg = s at *
          have hO5 := Lib.hid (hO4.out.alloc (.cells #[.string s] 9))
          have hB5 : Hid (Below w.heap.size w (w4.alloc (.cells #[.string s] 9))) := hB4.out.alloc hs4 _
          clear hb4 hO2 hO3 hO4 hB2 hB3 hB4
          go_wp2_with (at_builtin; refine wp_appS rfl _ _ rfl w.heap.size _ _ acc [s] rfl rfl hO5.out (holds_one w4 _ s _ rfl) (by simp; omega) hB5.out.size ?_; intro v5 w5 ow5 hg5 _)
          have hB6 : Hid (Below w.heap.size w w5) := hB5.out.grown hg5 hB5.out.size (fun j hj => (hO5.out.lt j hj).1)
          have OW5 := Lib.hid ow5
          clear ow5 hg5 hO5 hB5
          go_wp2_with fail
          go_roundw
          case rel => exact ⟨p + ol.toNat, f, acc ++ [s], by omega, by omega, congrArg (Value.int .i64) (by omega), by simp; omega, DY.out, OW5.out, hB6.out⟩
          case measure => simp [intOf]; omega
    · have hi : ¬ (p : Int) < (n : Int) := by omega
      have DE := Lib.hid ((disF_end (f := f) (acc := acc) (by omega) (by rw [← HN.out]; exact hlt)).symm.trans hD.out)
      go_wp2_with fail
      go_ret2
      exact dis_some DE.out hO.out hb.out
end Go.Proofs.YthplgehdgaeapaaDoor
