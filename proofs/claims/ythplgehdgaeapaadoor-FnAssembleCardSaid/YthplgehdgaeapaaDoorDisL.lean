/- Plain laws: what Disassemble reads, Assemble gives back, and the other way round. No condition. -/
import Derived.Test.YthplgehdgaeapaaDoorDis
namespace Go.Proofs.YthplgehdgaeapaaDoor
open Go.RowKit
set_option linter.unusedVariables false
/-- The bytes of the instruction that is decoded stand in the list. -/
theorem dec_bytes {zs : List Int} {p : Nat} (h : dOk zs p = true) : obytes (dOp zs p) (dArg zs p) = (zs.drop p).take (olen (dOp zs p)).toNat ∧ p + (olen (dOp zs p)).toNat ≤ zs.length ∧ 1 ≤ olen (dOp zs p) := by
  unfold dOk at h
  rw [Bool.and_eq_true] at h
  obtain ⟨hp, hk⟩ := h
  have hp' := inR_iff.1 hp
  have hov := okX_ov hk
  have hg : ∀ i, (zs.drop p).getD i 0 = zs.getD (p + i) 0 := fun i => by rw [List.getD_eq_getElem?_getD, List.getD_eq_getElem?_getD, List.getElem?_drop]
  have hd : ∀ (ys : List Int) (n : Nat) (a b c : Int), n ≤ ys.length → ys.getD 0 0 = a → ys.getD 1 0 = b → ys.getD 2 0 = c → n ≤ 3 → ys.take n = [a, b, c].take n := fun ys n a b c h1 h2 h3 h4 h5 => by
    apply List.ext_getElem?
    intro i
    by_cases hi : i < n
    · rw [List.getElem?_take_of_lt hi, List.getElem?_take_of_lt hi]
      rcases (show i = 0 ∨ i = 1 ∨ i = 2 by omega) with rfl | rfl | rfl
      · rw [List.getElem?_eq_getElem (by omega), ← h2, List.getD_eq_getElem?_getD, List.getElem?_eq_getElem (by omega)]; rfl
      · rw [List.getElem?_eq_getElem (by omega), ← h3, List.getD_eq_getElem?_getD, List.getElem?_eq_getElem (by omega)]; rfl
      · rw [List.getElem?_eq_getElem (by omega), ← h4, List.getD_eq_getElem?_getD, List.getElem?_eq_getElem (by omega)]; rfl
    · rw [List.getElem?_eq_none (by rw [List.length_take]; omega), List.getElem?_eq_none (by rw [List.length_take]; omega)]
  unfold okX at hk
  rw [Bool.and_eq_true] at hk
  obtain ⟨hn, hk⟩ := hk
  have hn' : (p : Int) + olen (dOp zs p) ≤ zs.length := of_decide_eq_true hn
  unfold dArg at *
  have e0 : (zs.drop p).getD 0 0 = dOp zs p := by rw [hg]; simp [dOp]
  have e1 : (zs.drop p).getD 1 0 = dz1 zs p := by rw [hg]; simp [dz1]
  have e2 : (zs.drop p).getD 2 0 = dz2 zs p := by rw [hg]; simp [dz2]
  have hdl : (zs.drop p).length = zs.length - p := List.length_drop ..
  generalize dOp zs p = x at *
  generalize dz1 zs p = y at *
  generalize dz2 zs p = z at *
  rcases olen_vals x with h | h | h | h
  · simp [h] at hk
  · refine ⟨?_, by omega, by omega⟩
    rw [obytes_1 hov h, h]
    exact (hd _ 1 x y z (by omega) e0 e1 e2 (by omega)).symm
  · refine ⟨?_, by omega, by omega⟩
    rw [obytes_2 hov h, h]
    simp [h] at hk
    have hb := byteB_iff.1 hk
    have ha : argX x y z = y := by simp [argX, h]
    rw [ha, Int.emod_eq_of_lt hb.1 (by omega)]
    exact (hd _ 2 x y z (by omega) e0 e1 e2 (by omega)).symm
  · refine ⟨?_, by omega, by omega⟩
    rw [obytes_3 hov h, h]
    simp [h] at hk
    have hb := byteB_iff.1 hk.1
    have hz := inR_iff.1 hk.2
    have ha : argX x y z = y + 256 * z := by simp [argX, h]
    rw [ha, show (y + 256 * z) % 256 = y by omega, show (y + 256 * z) / 256 = z by omega]
    exact (hd _ 3 x y z (by omega) e0 e1 e2 (by omega)).symm

theorem dec_ov {zs : List Int} {p : Int} (h : dOk zs p = true) : ovB (dOp zs p) (dArg zs p) = true := by
  unfold dOk at h
  rw [Bool.and_eq_true] at h
  exact okX_ov h.2
theorem pK_fmt {o a : Int} (h : ovB o a = true) : pK (fmtS o a) = true ∧ pO (fmtS o a) = (o, a) := by
  obtain ⟨e1, e2, e3⟩ := (parse_yes h rfl).unique (isP (fmtS o a))
  exact ⟨e3.symm, Prod.ext e1.symm e2.symm⟩
theorem line_fmt {o a : Int} (h : ovB o a = true) : lineB (fmtS o a) = obytes o a := by
  unfold lineB
  rw [(pK_fmt h).2]
theorem asmAll (ss : List ByteArray) : asmK ss ss.length = (ss.map lineB).flatten := by
  unfold asmK
  rw [List.take_length]
theorem asmAll_snoc (ss : List ByteArray) (s : ByteArray) : asmK (ss ++ [s]) (ss ++ [s]).length = asmK ss ss.length ++ lineB s := by
  rw [asmAll, asmAll, List.map_append, List.flatten_append]
  simp
theorem okTo_snoc {ss : List ByteArray} {s : ByteArray} (h : OkTo ss ss.length) (hs : pK s = true) : OkTo (ss ++ [s]) (ss ++ [s]).length := fun i hi => by
  rw [List.getD_eq_getElem?_getD]
  rcases Nat.lt_or_ge i ss.length with q | q
  · rw [List.getElem?_append_left q, ← List.getD_eq_getElem?_getD]
    exact h i q
  · have : i = ss.length := by rw [List.length_append] at hi; simp at hi; omega
    subst this
    simpa using hs
theorem disF_asm {zs : List Int} : ∀ (f p : Nat) (acc ss : List ByteArray), disF zs f p acc = some ss → p ≤ zs.length → OkTo acc acc.length → acc.length ≤ 60 → asmK acc acc.length = zs.take p → OkTo ss ss.length ∧ ss.length ≤ 60 ∧ asmK ss ss.length = zs
  | 0, p, acc, ss, h, _, _, _, _ => by cases h
  | f + 1, p, acc, ss, h, hp, hk, hl, ha => by
    unfold disF at h
    split at h
    · rename_i hlt
      split at h
      · rename_i h2
        obtain ⟨hd, h60⟩ := h2
        obtain ⟨b1, b2, b3⟩ := dec_bytes hd
        have hov := dec_ov hd
        refine disF_asm f _ _ ss h b2 (okTo_snoc hk (pK_fmt hov).1) (by rw [List.length_append]; simp; omega) ?_
        rw [asmAll_snoc, ha, line_fmt hov, b1]
        rw [List.take_add]
      · cases h
    · injection h with h
      subst h
      have : p = zs.length := by omega
      subst this
      rw [List.take_length] at ha
      exact ⟨hk, hl, ha⟩
/-- What Disassemble reads, Assemble gives back. -/
theorem dis_asm {zs : List Int} {ss : List ByteArray} (h : dis zs = some ss) : IsAsm ss zs 0 := by
  obtain ⟨h1, h2, h3⟩ := disF_asm _ _ _ _ h (Nat.zero_le _) (fun i hi => absurd hi (Nat.not_lt_zero _)) (Nat.zero_le _) rfl
  exact .inr (.inr ⟨h1, h2, rfl, h3.symm⟩)
theorem getD_mid (pre xs post : List Int) (i : Nat) (hi : i < xs.length) : (pre ++ xs ++ post).getD (pre.length + i) 0 = xs.getD i 0 := by
  rw [List.append_assoc, List.getD_eq_getElem?_getD, List.getElem?_append_right (by omega), Nat.add_sub_cancel_left, List.getElem?_append_left hi, ← List.getD_eq_getElem?_getD]
theorem obytes_len' {o a : Int} (h : ovB o a = true) : ((obytes o a).length : Int) = olen o := by
  rcases olen_vals o with k | k | k | k
  · rw [ovB_0 k] at h; cases h
  · rw [obytes_1 h k, k]; rfl
  · rw [obytes_2 h k, k]; rfl
  · rw [obytes_3 h k, k]; rfl
theorem dec_at {pre post : List Int} {o a : Int} (h : ovB o a = true) : dOk (pre ++ obytes o a ++ post) (pre.length : Int) = true ∧ dOp (pre ++ obytes o a ++ post) (pre.length : Int) = o ∧ dArg (pre ++ obytes o a ++ post) (pre.length : Int) = a := by
  have hlen := obytes_len' h
  have ha := ovB_arg h
  have hL : (pre ++ obytes o a ++ post).length = pre.length + (obytes o a).length + post.length := by rw [List.length_append, List.length_append]
  have g := fun i hi => getD_mid pre (obytes o a) post i hi
  have tn : ((pre.length : Int)).toNat = pre.length := by omega
  have e0 : ∀ x, (obytes o a).getD 0 0 = x → 0 < (obytes o a).length → dOp (pre ++ obytes o a ++ post) (pre.length : Int) = x := fun x hx h0 => by
    unfold dOp; rw [tn]; have := g 0 h0; rw [Nat.add_zero] at this; rw [this]; exact hx
  have e1 : ∀ x, (obytes o a).getD 1 0 = x → 1 < (obytes o a).length → dz1 (pre ++ obytes o a ++ post) (pre.length : Int) = x := fun x hx h0 => by
    unfold dz1; rw [tn, g 1 h0]; exact hx
  have e2 : ∀ x, (obytes o a).getD 2 0 = x → 2 < (obytes o a).length → dz2 (pre ++ obytes o a ++ post) (pre.length : Int) = x := fun x hx h0 => by
    unfold dz2; rw [tn, g 2 h0]; exact hx
  rcases olen_vals o with k | k | k | k
  · rw [ovB_0 k] at h; cases h
  · have hz : a = 0 := by rw [ovB_1 k] at h; simpa using h
    have b := obytes_1 h k
    have q0 := e0 o (by rw [b]; rfl) (by rw [b]; simp)
    refine ⟨?_, q0, ?_⟩
    · unfold dOk okX
      rw [q0, k, Bool.and_eq_true]
      refine ⟨inR_iff.2 (by omega), ?_⟩
      simp; omega
    · unfold dArg argX
      rw [q0, if_pos k, hz]
  · have hb : byteB a = true := by rw [ovB_2 k] at h; exact h
    have hb' := byteB_iff.1 hb
    have b := obytes_2 h k
    have hm : a % 256 = a := Int.emod_eq_of_lt hb'.1 (by omega)
    rw [hm] at b
    have q0 := e0 o (by rw [b]; rfl) (by rw [b]; simp)
    have q1 := e1 a (by rw [b]; rfl) (by rw [b]; simp)
    refine ⟨?_, q0, ?_⟩
    · unfold dOk okX
      rw [q0, q1, k, hb, Bool.and_eq_true]
      refine ⟨inR_iff.2 (by omega), ?_⟩
      simp; omega
    · unfold dArg argX
      rw [q0, q1, if_neg (by omega), if_pos k]
  · have b := obytes_3 h k
    have q0 := e0 o (by rw [b]; rfl) (by rw [b]; simp)
    have q1 := e1 (a % 256) (by rw [b]; rfl) (by rw [b]; simp)
    have q2 := e2 (a / 256) (by rw [b]; rfl) (by rw [b]; simp)
    have hb1 : byteB (a % 256) = true := byteB_iff.2 (by omega)
    have hb2 : inR (a / 256) 0 3 = true := inR_iff.2 (by omega)
    refine ⟨?_, q0, ?_⟩
    · unfold dOk okX
      rw [q0, q1, q2, k, hb1, hb2, Bool.and_eq_true]
      refine ⟨inR_iff.2 (by omega), ?_⟩
      simp; omega
    · unfold dArg argX
      rw [q0, q1, q2, if_neg (by omega), if_neg (by omega)]
      omega
theorem asm_split (ss : List ByteArray) (k : Nat) : asmK ss ss.length = asmK ss k ++ ((ss.drop k).map lineB).flatten := by
  rw [asmAll]
  unfold asmK
  rw [← List.flatten_append, ← List.map_append, List.take_append_drop]
theorem line_ok {s : ByteArray} (h : pK s = true) : ovB (pO s).1 (pO s).2 = true ∧ fmtS (pO s).1 (pO s).2 = s := by
  have := isP s
  rw [h] at this
  exact this
theorem asm_disF {ss : List ByteArray} (hk : OkTo ss ss.length) (hl : ss.length ≤ 60) : ∀ (r k f : Nat), k + r = ss.length → (asmK ss ss.length).length < (asmK ss k).length + f → disF (asmK ss ss.length) f (asmK ss k).length (ss.take k) = some ss
  | 0, k, f, hr, hf => by
    have : k = ss.length := by omega
    subst this
    rw [List.take_length]
    exact disF_end (by omega) (by omega)
  | r + 1, k, f, hr, hf => by
    have hlt : k < ss.length := by omega
    obtain ⟨hov, he⟩ := line_ok (hk k hlt)
    obtain ⟨post, hpost⟩ : ∃ post, asmK ss ss.length = asmK ss k ++ obytes (pO (ss.getD k ByteArray.empty)).1 (pO (ss.getD k ByteArray.empty)).2 ++ post := by
      refine ⟨((ss.drop (k + 1)).map lineB).flatten, ?_⟩
      rw [asm_split ss (k + 1), asmK_succ hlt]
      rfl
    have hsucc := asmK_succ hlt
    have hlb : lineB (ss.getD k ByteArray.empty) = obytes (pO (ss.getD k ByteArray.empty)).1 (pO (ss.getD k ByteArray.empty)).2 := rfl
    rw [hlb] at hsucc
    have hlen := obytes_len' hov
    have hd := dec_at (pre := asmK ss k) (post := post) hov
    rw [← hpost] at hd
    obtain ⟨d1, d2, d3⟩ := hd
    have hdl := dOk_len d1
    have htk : ss.take (k + 1) = ss.take k ++ [ss.getD k ByteArray.empty] := by
      rw [List.take_succ_eq_append_getElem hlt, List.getD_eq_getElem?_getD, List.getElem?_eq_getElem hlt]
      rfl
    obtain ⟨g, rfl⟩ : ∃ g, f = g + 1 := ⟨f - 1, by omega⟩
    rw [disF_yes (by omega) d1 (by rw [List.length_take]; omega), d2, d3, he, ← htk]
    rw [d2] at hdl
    have hpos : (asmK ss k).length + (olen (pO (ss.getD k ByteArray.empty)).1).toNat = (asmK ss (k + 1)).length := by
      rw [hsucc, List.length_append]
      omega
    rw [hpos]
    exact asm_disF hk hl r (k + 1) g (by omega) (by omega)
/-- What Assemble gives, Disassemble reads back. -/
theorem asm_dis {ss : List ByteArray} (hk : OkTo ss ss.length) (hl : ss.length ≤ 60) : dis (asmK ss ss.length) = some ss := by
  have := asm_disF hk hl ss.length 0 ((asmK ss ss.length).length + 1) (by omega) (by omega)
  exact this
end Go.Proofs.YthplgehdgaeapaaDoor
