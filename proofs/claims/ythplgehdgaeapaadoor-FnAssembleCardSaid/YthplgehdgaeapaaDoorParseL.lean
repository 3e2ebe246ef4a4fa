/- Plain laws on texts of instructions: a text is cut at its blank into the name and the digits; the digits are read back; a text belongs to one instruction. No condition. -/
import Derived.Test.YthplgehdgaeapaaDoorStr
import Derived.Lib.AtoiAllCases
import Derived.Lib.IndexMore
namespace Go.Proofs.YthplgehdgaeapaaDoor
open Go.RowKit
set_option linter.unusedVariables false

def nm (op : Int) : List UInt8 := (nameS op).data.toList
def dg4 (l : List UInt8) : Prop := ∀ b ∈ l, 48 ≤ b.toNat ∧ b.toNat ≤ 57
theorem nm_plain {op : Int} (h : inR op 0 15 = true) : ∀ b ∈ nm op, (b == 32) = false ∧ ¬ (48 ≤ b.toNat ∧ b.toNat ≤ 57) := by
  rcases op_cases h with rfl | rfl | rfl | rfl | rfl | rfl | rfl | rfl | rfl | rfl | rfl | rfl | rfl | rfl | rfl | rfl <;> decide
theorem nm_ne {op : Int} (h : inR op 0 15 = true) : nm op ≠ [] := by
  rcases op_cases h with rfl | rfl | rfl | rfl | rfl | rfl | rfl | rfl | rfl | rfl | rfl | rfl | rfl | rfl | rfl | rfl <;> decide
theorem names_apart : ∀ i j : Fin 16, (opNames.getD i.val #[]).toList = (opNames.getD j.val #[]).toList → i = j := by decide +kernel
theorem nm_inj {op op' : Int} (h : inR op 0 15 = true) (h' : inR op' 0 15 = true) (e : nm op = nm op') : op = op' := by
  have a := inR_iff.1 h
  have b := inR_iff.1 h'
  have := names_apart ⟨op.toNat, by omega⟩ ⟨op'.toNat, by omega⟩ e
  have := congrArg Fin.val this
  simp only at this
  omega
theorem data_app (a b : ByteArray) : (a ++ b).data.toList = a.data.toList ++ b.data.toList := by simp
theorem fmt_list {op arg : Int} (h : ovB op arg = true) : (fmtS op arg).data.toList = nm op ++ (if olen op = 1 then [] else 32 :: Lib.decDigits arg.toNat) := by
  by_cases h1 : olen op = 1
  · rw [fmtS_one h h1, if_pos h1, List.append_nil]; rfl
  · rw [fmtS_more h h1, if_neg h1, data_app, data_app]
    simp [nm]
theorem byte_val {n : Nat} (h : n < 10) : (UInt8.ofNat (48 + n)).toNat = 48 + n := by simp; omega
theorem dig_val (n : Int) (h : 0 ≤ n) : (UInt8.ofNat (48 + n % 10).toNat).toNat = 48 + (n % 10).toNat := by
  have e : (48 + n % 10).toNat = 48 + (n % 10).toNat := by omega
  rw [e]
  exact byte_val (by omega)
theorem dig_cases {n : Int} (h0 : 0 ≤ n) (h1 : n ≤ 1023) : ∃ l : List UInt8, Lib.decDigits n.toNat = l ∧ ((n < 10 ∧ l = [UInt8.ofNat (48 + n % 10).toNat]) ∨ (10 ≤ n ∧ n < 100 ∧ l = [UInt8.ofNat (48 + n / 10 % 10).toNat, UInt8.ofNat (48 + n % 10).toNat]) ∨
    (100 ≤ n ∧ n < 1000 ∧ l = [UInt8.ofNat (48 + n / 10 / 10 % 10).toNat, UInt8.ofNat (48 + n / 10 % 10).toNat, UInt8.ofNat (48 + n % 10).toNat]) ∨
    (1000 ≤ n ∧ l = [UInt8.ofNat (48 + n / 10 / 10 / 10 % 10).toNat, UInt8.ofNat (48 + n / 10 / 10 % 10).toNat, UInt8.ofNat (48 + n / 10 % 10).toNat, UInt8.ofNat (48 + n % 10).toNat])) := by
  refine ⟨_, rfl, ?_⟩
  rcases (by omega : n < 10 ∨ (10 ≤ n ∧ n < 100) ∨ (100 ≤ n ∧ n < 1000) ∨ (1000 ≤ n)) with h | ⟨h, h'⟩ | ⟨h, h'⟩ | h
  · exact .inl ⟨h, dig_one h0 h⟩
  · refine .inr (.inl ⟨h, h', ?_⟩)
    rw [dig_split h0 h, dig_one (by omega) (by omega)]; rfl
  · refine .inr (.inr (.inl ⟨h, h', ?_⟩))
    rw [dig_split h0 (by omega), dig_split (n := n / 10) (by omega) (by omega), dig_one (by omega) (by omega)]; rfl
  · refine .inr (.inr (.inr ⟨h, ?_⟩))
    rw [dig_split h0 (by omega), dig_split (n := n / 10) (by omega) (by omega), dig_split (n := n / 10 / 10) (by omega) (by omega), dig_one (by omega) (by omega)]; rfl
theorem pu_step {acc d : Nat} {c : UInt8} {r : List UInt8} (hc : c.toNat = 48 + d) (hd : d < 10) (ha : acc < 100000) : Lib.parseUint10 acc (c :: r) = Lib.parseUint10 (acc * 10 + d) r := by
  rw [Lib.parseUint10, if_pos (by omega), if_neg (by omega), if_neg (by omega), hc]
  congr 1
  omega
theorem atoi_dig {n : Int} (h0 : 0 ≤ n) (h1 : n ≤ 1023) : Lib.atoiAll (Lib.decDigits n.toNat) = .ok n := by
  obtain ⟨l, e, hc⟩ := dig_cases h0 h1
  rw [e]
  have v0 := dig_val n h0
  have v1 := dig_val (n / 10) (by omega)
  have v2 := dig_val (n / 10 / 10) (by omega)
  have v3 := dig_val (n / 10 / 10 / 10) (by omega)
  have fin : ∀ u : Nat, (u : Int) = n → Lib.signless (.ok u) = .ok n := fun u hu => by
    have hlt : ¬ (9223372036854775808 ≤ u) := by omega
    simp only [Lib.signless]
    rw [if_neg hlt, hu]
  rcases hc with ⟨h, rfl⟩ | ⟨h, h', rfl⟩ | ⟨h, h', rfl⟩ | ⟨h, rfl⟩
  · rw [Lib.atoiAll_plain _ _ (by omega) (by omega), Lib.parseMag, if_neg (by simp), pu_step v0 (by omega) (by omega), Lib.parseUint10]
    exact fin _ (by omega)
  · rw [Lib.atoiAll_plain _ _ (by omega) (by omega), Lib.parseMag, if_neg (by simp), pu_step v1 (by omega) (by omega), pu_step v0 (by omega) (by omega), Lib.parseUint10]
    exact fin _ (by omega)
  · rw [Lib.atoiAll_plain _ _ (by omega) (by omega), Lib.parseMag, if_neg (by simp), pu_step v2 (by omega) (by omega), pu_step v1 (by omega) (by omega), pu_step v0 (by omega) (by omega), Lib.parseUint10]
    exact fin _ (by omega)
  · rw [Lib.atoiAll_plain _ _ (by omega) (by omega), Lib.parseMag, if_neg (by simp), pu_step v3 (by omega) (by omega), pu_step v2 (by omega) (by omega), pu_step v1 (by omega) (by omega), pu_step v0 (by omega) (by omega), Lib.parseUint10]
    exact fin _ (by omega)
/-! ### The cut at the first blank -/
theorem index_none : ∀ a : List UInt8, (∀ b ∈ a, (b == 32) = false) → Lib.index a [32] = -1
  | [], _ => rfl
  | b :: l, h => by
    have ih := index_none l (fun x hx => h x (List.mem_cons_of_mem _ hx))
    have hb := h b (List.mem_cons_self ..)
    rw [Lib.index, ih]
    have : ([32] : List UInt8).isPrefixOf (b :: l) = false := by
      simp only [List.isPrefixOf]
      rw [Bool.and_true]
      have : ((32 : UInt8) == b) = (b == 32) := by rw [Bool.beq_comm]
      rw [this, hb]
    rw [this]
    rfl
theorem index_at : ∀ (a r : List UInt8), (∀ b ∈ a, (b == 32) = false) → Lib.index (a ++ 32 :: r) [32] = (a.length : Int)
  | [], r, _ => by
    rw [List.nil_append, Lib.index]
    rfl
  | b :: l, r, h => by
    have ih := index_at l r (fun x hx => h x (List.mem_cons_of_mem _ hx))
    have hb := h b (List.mem_cons_self ..)
    rw [List.cons_append, Lib.index, ih]
    have : ([32] : List UInt8).isPrefixOf (b :: (l ++ 32 :: r)) = false := by
      simp only [List.isPrefixOf]
      rw [Bool.and_true]
      have : ((32 : UInt8) == b) = (b == 32) := by rw [Bool.beq_comm]
      rw [this, hb]
    rw [this]
    have h2 : ((l.length : Int) == -1) = false := by
      rw [beq_eq_false_iff_ne]; omega
    rw [h2]
    simp
theorem cut_fmt {op arg : Int} (h : ovB op arg = true) : Lib.cut (fmtS op arg).data.toList [32] = (nm op, (if olen op = 1 then [] else Lib.decDigits arg.toNat), !(olen op == 1)) := by
  have hp := fun b hb => (nm_plain (ovB_op h) b hb).1
  rw [fmt_list h]
  by_cases h1 : olen op = 1
  · rw [if_pos h1, if_pos h1, List.append_nil, Lib.cut, index_none _ hp, h1]
    rfl
  · rw [if_neg h1, if_neg h1, Lib.cut, index_at _ _ hp, if_pos (by omega)]
    have : (olen op == 1) = false := by simp [h1]
    rw [this]
    simp
theorem dig_ne (n : Int) (h0 : 0 ≤ n) (h1 : n ≤ 1023) : Lib.decDigits n.toNat ≠ [] := by
  intro e
  have := atoi_dig h0 h1
  rw [e] at this
  cases this
/-- A text belongs to one instruction. -/
theorem fmt_inj {op arg op' arg' : Int} (h : ovB op arg = true) (h' : ovB op' arg' = true) (e : fmtS op arg = fmtS op' arg') : op = op' ∧ arg = arg' := by
  have c := cut_fmt h
  rw [e, cut_fmt h'] at c
  injection c with c1 c2
  injection c2 with c2 c3
  have ho : op = op' := nm_inj (ovB_op h) (ovB_op h') c1.symm
  subst ho
  refine ⟨rfl, ?_⟩
  by_cases h1 : olen op = 1
  · rw [ovB_1 h1] at h h'
    have := eq_of_beq h
    have := eq_of_beq h'
    omega
  · rw [if_neg h1, if_neg h1] at c2
    have a := ovB_arg h
    have b := ovB_arg h'
    have e1 := atoi_dig a.1 a.2
    rw [← c2, atoi_dig b.1 b.2] at e1
    injection e1 with e1
    exact e1.symm
theorem fmt_ne {op arg : Int} (h : ovB op arg = true) : fmtS op arg ≠ ⟨#[]⟩ := by
  intro e
  have := fmt_list h
  rw [e] at this
  have h2 := nm_ne (ovB_op h)
  cases hn : nm op
  · exact h2 hn
  · rw [hn] at this; cases this
theorem fmt_len {op arg : Int} (h : ovB op arg = true) : (fmtS op arg).size ≤ 11 := by
  have z1 := nameS_size (ovB_op h)
  have ha := ovB_arg h
  have z2 := dig_len ha.1 ha.2
  by_cases h1 : olen op = 1
  · rw [fmtS_one h h1]; omega
  · rw [fmtS_more h h1]
    rw [ByteArray.size_append, ByteArray.size_append]
    have e1 : (⟨#[32]⟩ : ByteArray).size = 1 := rfl
    have e2 : (⟨(Lib.decDigits arg.toNat).toArray⟩ : ByteArray).size = (Lib.decDigits arg.toNat).length := rfl
    omega
/-- What ParseOrder gives. -/
def IsParse (s : ByteArray) (op arg : Int) (ok : Bool) : Prop := if ok then ovB op arg = true ∧ fmtS op arg = s else op = 0 ∧ arg = 0 ∧ ∀ op' arg', ovB op' arg' = true → fmtS op' arg' ≠ s
theorem IsParse.unique {s : ByteArray} {op arg op' arg' : Int} {ok ok' : Bool} (h : IsParse s op arg ok) (h' : IsParse s op' arg' ok') : op = op' ∧ arg = arg' ∧ ok = ok' := by
  cases ok <;> cases ok'
  · obtain ⟨rfl, rfl, _⟩ := h
    obtain ⟨rfl, rfl, _⟩ := h'
    exact ⟨rfl, rfl, rfl⟩
  · exact absurd h'.2 (h.2.2 _ _ h'.1)
  · exact absurd h.2 (h'.2.2 _ _ h.1)
  · have := fmt_inj h.1 h'.1 (h.2.trans h'.2.symm)
    exact ⟨this.1, this.2, rfl⟩
theorem parse_yes {s : ByteArray} {op arg : Int} (h : ovB op arg = true) (e : fmtS op arg = s) : IsParse s op arg true := ⟨h, e⟩
theorem parse_no {s : ByteArray} (h : ∀ op' arg', ovB op' arg' = true → fmtS op' arg' ≠ s) : IsParse s 0 0 false := ⟨rfl, rfl, h⟩
/-! ### The reference's way: the digits of the whole text -/
def accStep (a : Int) (b : UInt8) : Int := if 48 ≤ b.toNat ∧ b.toNat ≤ 57 ∧ a < 10000 then 10 * a + ((b.toNat : Int) - 48) else a
def accL (l : List UInt8) : Int := l.foldl accStep 0
theorem acc_plain : ∀ (l : List UInt8) (a : Int), (∀ b ∈ l, ¬ (48 ≤ b.toNat ∧ b.toNat ≤ 57)) → l.foldl accStep a = a
  | [], _, _ => rfl
  | b :: l, a, h => by
    rw [List.foldl_cons]
    have hb := h b (List.mem_cons_self ..)
    have : accStep a b = a := by
      unfold accStep
      rw [if_neg (fun k => hb ⟨k.1, k.2.1⟩)]
    rw [this]
    exact acc_plain l a (fun x hx => h x (List.mem_cons_of_mem _ hx))
theorem acc_step {a d : Int} {c : UInt8} (hc : (c.toNat : Int) = 48 + d) (h0 : 0 ≤ d) (hd : d < 10) (ha : a < 10000) : accStep a c = 10 * a + d := by
  unfold accStep
  rw [if_pos (by omega), hc]
  omega
theorem acc_fmt {op arg : Int} (h : ovB op arg = true) : accL (fmtS op arg).data.toList = arg := by
  have hp := fun b hb => (nm_plain (ovB_op h) b hb).2
  rw [fmt_list h]
  unfold accL
  rw [List.foldl_append, acc_plain _ _ hp]
  by_cases h1 : olen op = 1
  · rw [if_pos h1]
    rw [ovB_1 h1] at h
    have := eq_of_beq h
    exact this.symm
  · rw [if_neg h1, List.foldl_cons]
    have hs : accStep 0 32 = 0 := by decide
    rw [hs]
    have ha := ovB_arg h
    obtain ⟨l, e, hc⟩ := dig_cases ha.1 ha.2
    rw [e]
    have v0 := dig_val arg ha.1
    have v1 := dig_val (arg / 10) (by omega)
    have v2 := dig_val (arg / 10 / 10) (by omega)
    have v3 := dig_val (arg / 10 / 10 / 10) (by omega)
    rcases hc with ⟨h, rfl⟩ | ⟨h, h', rfl⟩ | ⟨h, h', rfl⟩ | ⟨h, rfl⟩ <;> simp only [List.foldl_cons, List.foldl_nil]
    · rw [acc_step (a := 0) (d := arg % 10) (by omega) (by omega) (by omega) (by omega)]; omega
    · rw [acc_step (a := 0) (d := arg / 10 % 10) (by omega) (by omega) (by omega) (by omega), acc_step (a := 10 * 0 + arg / 10 % 10) (d := arg % 10) (by omega) (by omega) (by omega) (by omega)]; omega
    · rw [acc_step (a := 0) (d := arg / 10 / 10 % 10) (by omega) (by omega) (by omega) (by omega), acc_step (a := 10 * 0 + arg / 10 / 10 % 10) (d := arg / 10 % 10) (by omega) (by omega) (by omega) (by omega), acc_step (a := 10 * (10 * 0 + arg / 10 / 10 % 10) + arg / 10 % 10) (d := arg % 10) (by omega) (by omega) (by omega) (by omega)]; omega
    · rw [acc_step (a := 0) (d := arg / 10 / 10 / 10 % 10) (by omega) (by omega) (by omega) (by omega), acc_step (a := 10 * 0 + arg / 10 / 10 / 10 % 10) (d := arg / 10 / 10 % 10) (by omega) (by omega) (by omega) (by omega), acc_step (a := 10 * (10 * 0 + arg / 10 / 10 / 10 % 10) + arg / 10 / 10 % 10) (d := arg / 10 % 10) (by omega) (by omega) (by omega) (by omega), acc_step (a := 10 * (10 * (10 * 0 + arg / 10 / 10 / 10 % 10) + arg / 10 / 10 % 10) + arg / 10 % 10) (d := arg % 10) (by omega) (by omega) (by omega) (by omega)]; omega
end Go.Proofs.YthplgehdgaeapaaDoor
