/- The law FnAssemble: for every input it answers true, and changes nothing that was there. The listed package-level variables are tied by the card. No condition. -/
import Derived.Test.YthplgehdgaeapaaDoorDrawLines
import Derived.Test.YthplgehdgaeapaaDoorTie
import Derived.Test.YthplgehdgaeapaaDoorCards
import Derived.Stop.Joined
namespace Go.Proofs.YthplgehdgaeapaaDoor
open Go.ChangeShapes Go.WideShapes Go.ChangeAt Go.RowKit
set_option linter.unusedVariables false

theorem sameIntsB {v u : Value} {xs ys : List Int} {w : World} (h : Ints w v xs) (g : Ints w u ys) (e : xs = ys) : Calls Tryd.prog 31 #[v, u] w fun e w' => e = .returned (.bool true) ∧ Below w.heap.size w w' := by
  subst e
  exact (sameInts_b h g).mono fun _ _ ⟨he, q⟩ => ⟨he.trans (by simp), q⟩
theorem sameTextsB {v u : Value} {xs ys : List ByteArray} {w : World} (h : Strs w v xs) (g : Strs w u ys) (e : xs = ys) : Calls Tryd.prog 33 #[v, u] w fun e w' => e = .returned (.bool true) ∧ Below w.heap.size w w' := by
  subst e
  exact (sameTexts_b h g).mono fun _ _ ⟨he, q⟩ => ⟨he.trans (by simp), q⟩
theorem strs_of {w : World} {base : Nat} {v : Value} {ss : List ByteArray} (h : OwnV w base 9 v (ss.map Value.string)) : Strs w v ss := h.ownS.strs
theorem wp_appIg {w : World} {ops : Array Oper} {rest : List Oper} {o : Oper} {a : Act} {Q : Exit → Act → World → Prop} (hw : Region.wanted o (yielded ops a.tmps) = true) (s x : Operand)
    (ho : o.op = .call { callee := .builtin .append, args := #[s, x], argTypes := #[24, 24] })
    (base : Nat) (v u : Value) (xs ys : List Int) (hs : a.eval s = v) (hx : a.eval x = u) (hv : OwnV w base 3 v (xs.map (.int .i64))) (hu : Ints w u ys) (hb : xs.length + ys.length ≤ 1000000000000) (hbase : base ≤ w.heap.size)
    (h : ∀ v' w', OwnV w' base 3 v' ((xs ++ ys).map (.int .i64)) → w.grownBy w' v.ownBlock → (v'.ownBlock = v.ownBlock ∨ v'.ownBlock = some w.heap.size) → wpList Tryd.prog ops Q rest (a.put o.dst v') w') : wpList Tryd.prog ops Q (o :: rest) a w := by
  obtain ⟨i, hi, hz, hsz, hby⟩ := info_parts infoInt
  refine wpList_step fun K hK => ?_
  rw [if_pos hw]
  obtain ⟨v', w', hr, h2, h3, h4⟩ := run_app (P := Tryd.prog) w 24 o.type 3 i _ 8 Tryd.underlying24 hi hz hsz hby rfl base v u _ _ hv hu.holds (ints_one _) (by simp; unfold maxLen; omega) (by simp; omega) hbase
  unfold Oper.wp execOp
  simp only [ho, resolve, invoke, builtin, Sem.run_bind, Sem.run_pure, Result.andThen_ok, List.map_toArray, List.map_cons, List.map_nil, hs, hx, hr]
  rw [← List.map_append] at h2
  exact hK _ _ (h v' w' h2 h3 h4)
set_option maxHeartbeats 60000000 in
set_option maxRecDepth 20000 in
theorem walk_FnAssemble (v0 : Value) (w : World) (y0 : IsBytes w v0) (hL : LaidW w) : Calls Tryd.prog 7 #[v0] w fun e w' => e = .returned (.bool true) ∧ Below w.heap.size w w' := by
  have hY0 := Lib.hid y0
  obtain ⟨a0, len0, cap0, zs0, rfl, _⟩ := y0
  by_cases hl : (1048576 : Int) < (len0 : Int)
  · go_enter Tryd.func7, Tryd.ntmps7
    go_wp2_with fail
    go_ret
    exact ⟨rfl, Below.refl _ _⟩
  go_enter Tryd.func7, Tryd.ntmps7
  go_wp2_with fail
  refine (draw_Assemble hY0.out).mono ?_
  rintro e w1 ⟨v1, ss, rfl, hl61, hshort, hNN, hOV, hb1⟩
  have NN := Lib.hid hNN
  clear hNN
  have hSS := strs_of hOV
  have hsmall := short_small hshort
  have hB1 : Hid (Below w.heap.size w w1) := hb1
  have SH := Lib.hid hshort
  go_wp2_with fail
  refine (impl_Assemble hSS (by omega) hsmall (hL.below hb1)).mono ?_
  rintro e w2 ⟨v2, zs, nb, hA, rfl, o2, hb2⟩
  go_wp2_with fail
  refine (spec_Assemble (hSS.below hb2) (by omega) hsmall).mono ?_
  rintro e w3 ⟨v3, zs', nb', hA', rfl, o3, hb3⟩
  obtain ⟨rfl, rfl⟩ := hA.unique hA'
  have hb13 : Below w1.heap.size w1 w3 := hb2.trans (hb3.mono hb2.size)
  have q2 := o2.agree (agree_below hb3 (Agree.refl _ _ _) (Nat.le_refl _))
  go_wp2_with fail
  refine (sameIntsB q2.ints o3.ints rfl).mono ?_
  rintro e w4 ⟨rfl, hb4⟩
  have hb14 : Below w1.heap.size w1 w4 := hb13.trans (hb4.mono hb13.size)
  have q4 := q2.agree (agree_below hb4 (Agree.refl _ _ _) hb3.size)
  have hB4 : Hid (Below w.heap.size w w4) := hB1.out.trans (hb14.mono hB1.out.size)
  have LW4 := Lib.hid (hL.below hB4.out)
  have Q4 := Lib.hid q4.ints
  obtain ⟨za, zc, rfl⟩ := own_shape q4
  have hOV4 := hOV.of (fun g hg => hb14.block g (hOV.lt g hg).2)
  have HA := Lib.hid hA
  have HSS := Lib.hid hSS
  have HSM := Lib.hid hsmall
  clear hA' o2 o3 q2 q4 hb2 hb3 hb4 hb13 hb1 hL hSS hsmall hshort hOV
  obtain ⟨b, cap, rfl, hlc, hcm, hbl, hcell⟩ := ownV_strs hOV4 NN.out
  clear NN
  unfold maxLen at hcm
  obtain ⟨n, hn⟩ : ∃ n, n = ss.length := ⟨_, rfl⟩
  have HN := Lib.hid hn
  have C := Lib.hid hcell
  have HC := Lib.hid (show ss.length ≤ cap ∧ cap ≤ maxLen from ⟨hlc, by unfold maxLen; exact hcm⟩)
  rw [← hn] at hlc hl61 ⊢
  clear hn hcell hOV4
  have hcap1 : (cap : Int) ≤ 9223372036854775807 := by omega
  rcases hA with ⟨k, h1, h2, h3, rfl, rfl⟩ | ⟨h2, h1, rfl, rfl⟩ | ⟨h2, h1, rfl, hz⟩
  · have g0 := C.out k h1
    rw [← HN.out] at h1
    have hk1 : (k : Int) + 1 ≠ 0 := by omega
    have hmin : min (n : Int) ((k : Int) + 1) = k + 1 := by omega
    have hki : (k : Int) < (n : Int) := by omega
    have hsk := HSM.out k (by rw [← HN.out]; exact h1)
    generalize ss.getD k ByteArray.empty = s at *
    clear h2 HA Q4 HSM
    go_wp2_with fail
    refine (impl_ParseOrder s hsk LW4.out).mono ?_
    rintro e w5 hP
    obtain ⟨rfl, hb5⟩ := parse_of hP
    rw [h3]
    have hB5 : Below w.heap.size w w5 := hB4.out.trans (hb5.mono hB4.out.size)
    generalize (pO s).1 = op at *
    generalize (pO s).2 = arg at *
    clear hP hb5 h3
    by_cases h61 : (k : Int) + 1 = 61
    · have e61 : ((k : Int) + 1 == 61) = true := by rw [h61]; rfl
      have e60 : (60 : Int) < (n : Int) := by omega
      clear h61
      go_wp2_with (go_at_call 32; refine (laws_alive _).mono ?_; rintro e w' ⟨rfl, rfl⟩)
      go_ret
      exact ⟨rfl, hB5.alloc hB5.size _⟩
    · have e61 : ((k : Int) + 1 == 61) = false := by rw [beq_eq_false_iff_ne]; exact h61
      clear h61
      go_wp2_with (go_at_call 32; refine (laws_alive _).mono ?_; rintro e w' ⟨rfl, rfl⟩)
      go_ret
      exact ⟨rfl, hB5.alloc hB5.size _⟩
  · have h60 : 60 < ss.length := h1
    have g0 := C.out 60 h60
    rw [← HN.out] at h1
    have hn61 : n = 61 := by omega
    subst hn61
    have hmin : min ((61 : Nat) : Int) 61 = 61 := by omega
    have hsk := HSM.out 60 h60
    generalize ss.getD 60 ByteArray.empty = s at *
    clear h2 HA Q4 HSM
    go_wp2_with fail
    refine (impl_ParseOrder s hsk LW4.out).mono ?_
    rintro e w5 ⟨op, arg, ok, _, rfl, hb5⟩
    have hB5 : Below w.heap.size w w5 := hB4.out.trans (hb5.mono hB4.out.size)
    clear hb5
    go_wp2_with (go_at_call 32; refine (laws_alive _).mono ?_; rintro e w' ⟨rfl, rfl⟩)
    go_ret
    exact ⟨rfl, hB5.alloc hB5.size _⟩
  · obtain ⟨hf, hh⟩ : ∃ hf : Nat, (n : Int) / 2 = (hf : Int) := ⟨n / 2, by omega⟩
    have hhn : hf ≤ n := by omega
    have hhi : (hf : Int) ≤ (n : Int) := by omega
    have hc2 : (hf : Int) ≤ (cap : Int) := by omega
    have hz2 := hz
    rw [asmAll] at hz2
    have OKS : OkTo ss ss.length := h2
    have L60 : ss.length ≤ 60 := h1
    have hdis : dis zs = some ss := by rw [hz]; exact asm_dis OKS L60
    have OK1 := okTo_take OKS hf
    have OK2 := okTo_drop OKS hf
    have L1 : (ss.take hf).length ≤ 60 := by rw [List.length_take]; omega
    have L2 : (ss.drop hf).length ≤ 60 := by rw [List.length_drop]; omega
    have L1M : (ss.take hf).length ≤ 1048576 := by omega
    have L2M : (ss.drop hf).length ≤ 1048576 := by omega
    have SM1 := short_small (short_take SH.out hf)
    have SM2 := short_small (short_drop SH.out hf)
    have hhs : hf ≤ ss.length := by rw [← HN.out]; exact hhn
    have U1 := strs_take HC.out.1 HC.out.2 C.out hf hhs
    have U2f : ∀ {w5 : World}, Below w4.heap.size w4 w5 → Strs w5 (.slice (some ⟨b, hf, none⟩) (n - hf) (cap - hf)) (ss.drop hf) := fun hb => by
      have := (strs_drop HC.out.1 HC.out.2 C.out hf hhs).below hb
      rw [← HN.out] at this
      exact this
    have HSS4 := Lib.hid (HSS.out.below hb14)
    have hsplit : ss.take hf ++ ss.drop hf = ss := List.take_append_drop hf ss
    have hzl : zs.length ≤ 180 := asm_len HA.out
    have hzs : (ss.map lineB).flatten = zs := hz2.symm
    clear hz hz2 HA HSS HSM OKS C HC h2
    rw [← HN.out] at HSS4
    go_wp2_with fail
    (try rw [hh])
    refine (impl_Assemble U1 L1M SM1 LW4.out).mono ?_
    rintro e w5 ⟨v5, zs5, n5, hA5, rfl, o5, hb5⟩
    obtain ⟨hz5', rfl⟩ := asm_ok hA5 OK1 L1
    have hz5 := Lib.hid hz5'
    clear hz5'
    have U2 := U2f hb5
    have hB5 : Below w.heap.size w w5 := hB4.out.trans (hb5.mono hB4.out.size)
    have LW5 := Lib.hid (LW4.out.below hb5)
    have Q5 := Lib.hid ((Q4.out).below hb5)
    have HSS5 := Lib.hid (HSS4.out.below hb5)
    have O5 := Lib.hid o5.ints
    obtain ⟨xa, xc, rfl⟩ := own_shape o5
    have hl5 : zs5.length ≤ 180 := asm_len hA5
    clear o5 hA5 hb5 LW4 Q4 HSS4 hB4
    go_wp2_with fail
    · have h0 : hf = 0 := by omega
      have U3 : Strs w5 (.slice (some ⟨b, 0, none⟩) (n - hf) 0) (ss.drop hf) := by
        have e1 : cap - hf = 0 := by omega
        have e2 : (⟨b, hf, none⟩ : Addr) = ⟨b, 0, none⟩ := by rw [h0]
        have := U2
        rw [e1, e2] at this
        exact this
      clear h0
      subst h
      refine (impl_Assemble U3 L2M SM2 LW5.out).mono ?_
      rintro e w6 ⟨v6, zs6, n6, hA6, rfl, o6, hb6⟩
      obtain ⟨hz6, rfl⟩ := asm_ok hA6 OK2 L2
      have hB6 : Below w.heap.size w w6 := hB5.trans (hb6.mono hB5.size)
      have LW6 := Lib.hid (LW5.out.below hb6)
      have Q6 := Lib.hid (Q5.out.below hb6)
      have HSS6 := Lib.hid (HSS5.out.below hb6)
      have X6 := Lib.hid (O5.out.below hb6)
      have O6 := Lib.hid o6.ints
      obtain ⟨ya, yc, rfl⟩ := own_shape o6
      have hl6 : zs6.length ≤ 180 := asm_len hA6
      have hall : Hid (zs5 ++ zs6 = zs) := by
        show _ = _
        rw [hz5.out, hz6, ← List.flatten_append, ← List.map_append, hsplit, hzs]
      clear o6 hA6 hb6 LW5 Q5 HSS5 O5 hB5 U2f U1 U2 U3 hz5 hz6 hsplit hzs
      go_wp2_with fail
      have CD := impl_Disassemble Q6.out (by omega) LW6.out.1
      unfold MadeDis at CD
      rw [hdis] at CD
      refine CD.mono ?_
      rintro e w7 ⟨v7, rfl, o7, hb7⟩
      have o7' : OwnS w6.heap.size w7.heap.size w7 v7 ss := o7
      have hB7 : Below w.heap.size w w7 := hB6.trans (hb7.mono hB6.size)
      have Q7 := Lib.hid (Q6.out.below hb7)
      have HSS7 := Lib.hid (HSS6.out.below hb7)
      have X7 := Lib.hid (X6.out.below hb7)
      have Y7 := Lib.hid (O6.out.below hb7)
      have O7 := Lib.hid o7'.strs
      clear o7 o7' hb7 LW6 Q6 HSS6 X6 O6 hB6 CD hdis
      go_wp2_with fail
      refine (sameTextsB O7.out HSS7.out rfl).mono ?_
      rintro e w8 ⟨rfl, hb8⟩
      have hB8 : Below w.heap.size w w8 := hB7.trans (hb8.mono hB7.size)
      have Q8 := Lib.hid (Q7.out.below hb8)
      have X8 := Lib.hid (X7.out.below hb8)
      have Y8 := Lib.hid (Y7.out.below hb8)
      have hV0 : Hid (OwnV (w8.alloc (.cells #[] 3)) w8.heap.size 3 (.slice (some ⟨w8.heap.size, 0, none⟩) 0 0) (([] : List Int).map (.int .i64))) := OwnV.lit #[] _ (Nat.le_refl _) rfl (Nat.zero_le _)
      have hbA : Hid (Below w8.heap.size w8 (w8.alloc (.cells #[] 3))) := (Below.refl _ _).alloc (Nat.le_refl _) _
      have X9 := Lib.hid (X8.out.below hbA.out)
      clear hb8 Q7 X7 Y7 O7 HSS7 hB7
      have tok1 : True := trivial
      go_wp2_with (at_builtin; first | (have _t := tok1; refine wp_appIg (by first | rfl | decide | simp [Region.wanted, yielded]) _ _ rfl w8.heap.size _ _ [] zs5 rfl rfl hV0.out X9.out (by simp; omega) hbA.out.size ?_; intro v9 w9 ow9 hg9 _; have hb89 : Hid (Below w8.heap.size w8 w9) := hbA.out.grown hg9 hbA.out.size (fun j hj => (hV0.out.lt j hj).1); have Y9 := Lib.hid (Y8.out.below hb89.out); have OV9 := Lib.hid ow9; clear _t tok1 ow9 hg9 hV0 hbA X9 X8 Y8) | (refine wp_appIg (by first | rfl | decide | simp [Region.wanted, yielded]) _ _ rfl w8.heap.size _ _ zs5 zs6 rfl rfl OV9.out Y9.out (by omega) hb89.out.size ?_; intro v10 w10 ow10 hg10 _; have hb810 : Hid (Below w8.heap.size w8 w10) := hb89.out.grown hg10 hb89.out.size (fun j hj => (OV9.out.lt j hj).1); have I10 := Lib.hid ow10.own.ints; clear ow10 hg10 OV9 Y9 hb89))
      refine (sameIntsB I10.out (Q8.out.below hb810.out) hall.out).mono ?_
      rintro e w11 ⟨rfl, hb11⟩
      go_wp2_with fail
      go_ret
      exact ⟨rfl, (hB8.trans (hb810.out.mono hB8.size)).trans (hb11.mono (hB8.trans (hb810.out.mono hB8.size)).size)⟩
    · have U3 := U2
      clear h
      refine (impl_Assemble U3 L2M SM2 LW5.out).mono ?_
      rintro e w6 ⟨v6, zs6, n6, hA6, rfl, o6, hb6⟩
      obtain ⟨hz6, rfl⟩ := asm_ok hA6 OK2 L2
      have hB6 : Below w.heap.size w w6 := hB5.trans (hb6.mono hB5.size)
      have LW6 := Lib.hid (LW5.out.below hb6)
      have Q6 := Lib.hid (Q5.out.below hb6)
      have HSS6 := Lib.hid (HSS5.out.below hb6)
      have X6 := Lib.hid (O5.out.below hb6)
      have O6 := Lib.hid o6.ints
      obtain ⟨ya, yc, rfl⟩ := own_shape o6
      have hl6 : zs6.length ≤ 180 := asm_len hA6
      have hall : Hid (zs5 ++ zs6 = zs) := by
        show _ = _
        rw [hz5.out, hz6, ← List.flatten_append, ← List.map_append, hsplit, hzs]
      clear o6 hA6 hb6 LW5 Q5 HSS5 O5 hB5 U2f U1 U2 U3 hz5 hz6 hsplit hzs
      go_wp2_with fail
      have CD := impl_Disassemble Q6.out (by omega) LW6.out.1
      unfold MadeDis at CD
      rw [hdis] at CD
      refine CD.mono ?_
      rintro e w7 ⟨v7, rfl, o7, hb7⟩
      have o7' : OwnS w6.heap.size w7.heap.size w7 v7 ss := o7
      have hB7 : Below w.heap.size w w7 := hB6.trans (hb7.mono hB6.size)
      have Q7 := Lib.hid (Q6.out.below hb7)
      have HSS7 := Lib.hid (HSS6.out.below hb7)
      have X7 := Lib.hid (X6.out.below hb7)
      have Y7 := Lib.hid (O6.out.below hb7)
      have O7 := Lib.hid o7'.strs
      clear o7 o7' hb7 LW6 Q6 HSS6 X6 O6 hB6 CD hdis
      go_wp2_with fail
      refine (sameTextsB O7.out HSS7.out rfl).mono ?_
      rintro e w8 ⟨rfl, hb8⟩
      have hB8 : Below w.heap.size w w8 := hB7.trans (hb8.mono hB7.size)
      have Q8 := Lib.hid (Q7.out.below hb8)
      have X8 := Lib.hid (X7.out.below hb8)
      have Y8 := Lib.hid (Y7.out.below hb8)
      have hV0 : Hid (OwnV (w8.alloc (.cells #[] 3)) w8.heap.size 3 (.slice (some ⟨w8.heap.size, 0, none⟩) 0 0) (([] : List Int).map (.int .i64))) := OwnV.lit #[] _ (Nat.le_refl _) rfl (Nat.zero_le _)
      have hbA : Hid (Below w8.heap.size w8 (w8.alloc (.cells #[] 3))) := (Below.refl _ _).alloc (Nat.le_refl _) _
      have X9 := Lib.hid (X8.out.below hbA.out)
      clear hb8 Q7 X7 Y7 O7 HSS7 hB7
      have tok1 : True := trivial
      go_wp2_with (at_builtin; first | (have _t := tok1; refine wp_appIg (by first | rfl | decide | simp [Region.wanted, yielded]) _ _ rfl w8.heap.size _ _ [] zs5 rfl rfl hV0.out X9.out (by simp; omega) hbA.out.size ?_; intro v9 w9 ow9 hg9 _; have hb89 : Hid (Below w8.heap.size w8 w9) := hbA.out.grown hg9 hbA.out.size (fun j hj => (hV0.out.lt j hj).1); have Y9 := Lib.hid (Y8.out.below hb89.out); have OV9 := Lib.hid ow9; clear _t tok1 ow9 hg9 hV0 hbA X9 X8 Y8) | (refine wp_appIg (by first | rfl | decide | simp [Region.wanted, yielded]) _ _ rfl w8.heap.size _ _ zs5 zs6 rfl rfl OV9.out Y9.out (by omega) hb89.out.size ?_; intro v10 w10 ow10 hg10 _; have hb810 : Hid (Below w8.heap.size w8 w10) := hb89.out.grown hg10 hb89.out.size (fun j hj => (OV9.out.lt j hj).1); have I10 := Lib.hid ow10.own.ints; clear ow10 hg10 OV9 Y9 hb89))
      refine (sameIntsB I10.out (Q8.out.below hb810.out) hall.out).mono ?_
      rintro e w11 ⟨rfl, hb11⟩
      go_wp2_with fail
      go_ret
      exact ⟨rfl, (hB8.trans (hb810.out.mono hB8.size)).trans (hb11.mono (hB8.trans (hb810.out.mono hB8.size)).size)⟩
set_option maxRecDepth 100000 in
theorem lifted_FnAssemble (os : Os) (started : os.Started) (H : Type) (enc : TypeId × Value → H) :
    ReturnsInHanded {} Tryd.checked os 7 .any (fun w args => (Rows.fnAssembleSpec.pre enc Tryd.prog Tryd.f7 Rows.fnAssembleRow.domain false w args ∧ laidMetH Tryd.prog laid5 w) ∧ sizedMet enc Tryd.prog Tryd.f7 (OpenSpec.ofChange Rows.fnAssembleSpec) false w args) (Rows.fnAssembleSpec.post enc Tryd.prog Tryd.f7 false true false false) := by
  refine returnsInHanded_of_change_and (C := Tryd.checked) (X := (fun w _ => laidMetH Tryd.prog laid5 w)) (fun _ _ _ hh h => h.of_heap hh) own started (by kernel_rfl) Tryd.func7
    (ChangeSpec.witness_shaped (enc := enc) (C := Tryd.checked) (os := os) (X := (fun w _ => laidMetH Tryd.prog laid5 w)) false (World.doorLaid Tryd.prog 400 os) #[.slice none 0 0] 8 rfl (door_shaped os _) (by kernel_rfl) (by kernel_rfl) (by kernel_rfl) (door_met5 os _)) ?_
  intro W base args ds gs before hval0 hW _ _ hL _
  have hval : ∀ (j : Nat) t v, Tryd.f7.params[j]? = some t → args[j]? = some v → Value.okWide Tryd.prog W .any base t v := hval0
  have hW' := hW
  obtain ⟨p, q, hA0, hV, rfl, hfz, hnd⟩ := hW
  have hA : DataW.TrodAll enc Tryd.prog W 0 (fun _ => true) true Tryd.f7.params.toList args.toList ds p := hA0
  rw [Tryd.params7] at hA hval
  obtain ⟨v0, vs0, d0, ds0, p0, q0, hargs, rfl, rfl, h0, r0⟩ := trodAll_cons hA
  obtain ⟨rfl, rfl, rfl⟩ := trodAll_nil r0
  obtain rfl : args = #[v0] := by cases args; simp_all
  obtain ⟨rfl, rfl⟩ := trodVars_none hV
  have lt0 : ∀ x ∈ p0, x.block < W.heap.size := by obtain ⟨m, hm⟩ := h0; exact DataW.trod_lt m _ _ _ hm
  have y0 := read_bytes (hval 0 46 v0 rfl rfl) h0
  clear hA0 hval0
  refine (walk_FnAssemble v0 W y0 (laid_of_laid5 hL)).mono fun e W' ⟨he, bel⟩ => ?_
  subst he
  exact ⟨_, rfl, _, _, _, [], _, [], hW', trodAll_mk1 (shut_bool Tryd.underlying4 _), (trodAll_cons_mk (Below.trod laidOut (by kernel_rfl) (of_decide_eq_true (by kernel_rfl)) h0 bel lt0) trodAll_mk0), rfl, bel.frame _, fun h => by cases h⟩
theorem closed_FnAssemble : joinedFacts Tryd.prog 7 Tryd.f7 Rows.fnAssembleSpec Rows.fnAssembleRow = true := by
  unfold joinedFacts
  rw [shared.1, shared.2.1, shared.2.2.1, shared.2.2.2]
  kernel_rfl
theorem FnAssemble_row : Rows.FnAssembleSaid :=
  OpenClaim.holds_of_wide 7 Tryd.f7 rfl rfl rfl rfl rfl rfl rfl ⟨rfl, rfl, rfl, rfl, rfl⟩ rfl rfl rfl rfl rfl (by kernel_rfl) Tryd.func7 closed_FnAssemble
    (of_decide_eq_true (by kernel_rfl)) (by unfold Func.isWrapper; first | (rw [if_pos (by decide +kernel)]; kernel_rfl) | (rw [if_neg (by decide +kernel)]; exact ⟨rfl, rfl⟩))
    (fun os started H enc _ => lifted_FnAssemble os started H enc)
/-- The given statement, a tied card, of FnAssemble. -/
theorem FnAssemble_holds : Rows.FnAssembleCardSaid :=
  Claim7.holds_tied_plain_at .later [] [.data, .data, .data, .sentinel, .sentinel] true Rows.fnAssembleCard.stood.harness true
    FnAssemble_row (fun _ h => by cases h) (by kernel_rfl) (fun _ h => by cases h) fnAssemble_row_tie rfl ⟨rfl, rfl⟩ (by kernel_rfl) rfl
    (fun f fn hf hfn => by
      obtain rfl : f = 7 := Option.some.inj ((show Tryd.prog.funcNamed Rows.fnAssembleRow.func = some 7 by kernel_rfl).symm.trans hf) |>.symm
      obtain rfl : fn = Tryd.f7 := (Option.some.inj (Tryd.func7.symm.trans hfn)).symm
      exact ⟨by kernel_rfl, fun j t ht => by
        rw [Tryd.params7] at ht
        have hm : t ∈ [46] := by simpa using Array.mem_of_getElem? ht
        have hall : ([46].all fun u => !Tryd.prog.wantsStandIn u) = true := by kernel_rfl
        exact (show Tryd.prog.wantsStandIn t = false by simpa using List.all_eq_true.1 hall t hm)⟩)
    (by kernel_rfl)

end Go.Proofs.YthplgehdgaeapaaDoor
