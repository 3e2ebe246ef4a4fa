/- The table of names that the program's ParseOrder lays in a map, as plain data: which names it has, and at which number. No condition. -/
import Derived.Test.YthplgehdgaeapaaDoorParseL
import Derived.Test.YthplgehdgaeapaaDoorCutS
import Derived.Maps.OwnSet
import Derived.Maps.OwnOps
import Derived.Lib.AtoiErrMem
namespace Go.Proofs.YthplgehdgaeapaaDoor
open Go.RowKit Go.Maps Go.WideMaps
set_option linter.unusedVariables false

theorem keyLaw : Keyed Tryd.prog 9 := string_keyed Tryd.underlying9
theorem zeroInt (w : World) : (zeroValue 3).run Tryd.prog w = .ok (.int .i64 0) w := by kernel_rfl
def opStep (m : DataW Unit) (i : Nat) : DataW Unit := m.put (.string (nm i)) (.lit (.int .i64 i))
def opD (k : Nat) : DataW Unit := (List.range k).foldl opStep (.map [])
theorem opD_succ (k : Nat) : opD (k + 1) = (opD k).put (.string (nm k)) (.lit (.int .i64 k)) := by
  unfold opD
  rw [List.range_succ, List.foldl_append]
  rfl
theorem opD_no {l : List UInt8} : ∀ k : Nat, (∀ i : Nat, i < k → l ≠ nm i) → Maps.has (opD k) (.string l) = false
  | 0, _ => rfl
  | k + 1, h => by
    rw [opD_succ, has_put_other (by intro e; injection e with e; exact h k (by omega) e)]
    exact opD_no k (fun i hi => h i (by omega))
theorem opD_has : ∀ i : Fin 16, Maps.has (opD 16) (.string (nm (i.val : Int))) = true := by decide +kernel
theorem opD_yes {op : Int} (h : inR op 0 15 = true) : Maps.has (opD 16) (.string (nm op)) = true := by
  have a := inR_iff.1 h
  have := opD_has ⟨op.toNat, by omega⟩
  rwa [show ((op.toNat : Nat) : Int) = op by omega] at this
theorem opD_get {op : Int} (h : inR op 0 15 = true) : (opD 16).atKey (.string (nm op)) (.lit (.int .i64 0)) = .lit (.int .i64 op) := by
  rcases op_cases h with rfl | rfl | rfl | rfl | rfl | rfl | rfl | rfl | rfl | rfl | rfl | rfl | rfl | rfl | rfl | rfl <;> kernel_rfl
theorem name_key {op : Int} (h : inR op 0 15 = true) : keyOf Tryd.prog 9 (.string (nameS op)) = some (.string (nm op)) :=
  keyOf_string_mk Tryd.underlying9 (by have := nameS_size h; unfold maxLen; omega)
theorem cut_le {s : ByteArray} {na ar : List UInt8} {fo : Bool} (h : Lib.cut s.data.toList [32] = (na, ar, fo)) : na.length ≤ s.size ∧ ar.length ≤ s.size := by
  have e : s.data.toList.length = s.size := Array.length_toList
  unfold Lib.cut at h
  split at h
  · injection h with h1 h2
    injection h2 with h2 h3
    subst h1 h2
    rw [List.length_take, List.length_drop]
    omega
  · injection h with h1 h2
    injection h2 with h2 h3
    subst h1 h2
    exact ⟨by omega, Nat.zero_le _⟩
section
variable {s : ByteArray} {na ar : List UInt8} {fo : Bool}
theorem pn_name (h : Lib.cut s.data.toList [32] = (na, ar, fo)) (hN : ∀ op, inR op 0 15 = true → na ≠ nm op) : ∀ op' arg', ovB op' arg' = true → fmtS op' arg' ≠ s := by
  intro op' arg' hv e
  have c := cut_fmt hv
  rw [e, h] at c
  injection c with c1 c2
  exact hN op' (ovB_op hv) c1
theorem pn_bad (h : Lib.cut s.data.toList [32] = (na, ar, fo)) (ha : ar ≠ []) (hA : ∀ n, Lib.atoiAll ar ≠ .ok n) : ∀ op' arg', ovB op' arg' = true → fmtS op' arg' ≠ s := by
  intro op' arg' hv e
  have c := cut_fmt hv
  rw [e, h] at c
  injection c with c1 c2
  injection c2 with c2 c3
  by_cases h1 : olen op' = 1
  · rw [if_pos h1] at c2; exact ha c2
  · rw [if_neg h1] at c2
    have a := ovB_arg hv
    exact hA arg' (c2 ▸ atoi_dig a.1 a.2)
/-- The number that stands behind the name. -/
def NumIs (ar : List UInt8) (n : Int) : Prop := (ar = [] ∧ n = 0) ∨ (ar ≠ [] ∧ Lib.atoiAll ar = .ok n)
theorem pn_other {op n : Int} (h : Lib.cut s.data.toList [32] = (nm op, ar, fo)) (hop : inR op 0 15 = true) (hn : NumIs ar n) (hs : fmtS op n ≠ s) : ∀ op' arg', ovB op' arg' = true → fmtS op' arg' ≠ s := by
  intro op' arg' hv e
  have c := cut_fmt hv
  rw [e, h] at c
  injection c with c1 c2
  injection c2 with c2 c3
  obtain rfl := nm_inj hop (ovB_op hv) c1
  have a := ovB_arg hv
  have hz : n = arg' := by
    by_cases h1 : olen op = 1
    · rw [if_pos h1] at c2
      rw [ovB_1 h1] at hv
      have hv := eq_of_beq hv
      rcases hn with ⟨_, rfl⟩ | ⟨hne, _⟩
      · exact hv.symm
      · exact absurd c2 hne
    · rw [if_neg h1] at c2
      rcases hn with ⟨h0, _⟩ | ⟨_, hA⟩
      · exact absurd (c2.symm.trans h0) (dig_ne arg' a.1 a.2)
      · rw [c2, atoi_dig a.1 a.2] at hA
        injection hA with hA
        exact hA.symm
  subst hz
  exact hs e
theorem py_valid {op n : Int} (h : Lib.cut s.data.toList [32] = (nm op, ar, fo)) (hop : inR op 0 15 = true) (hs : fmtS op n = s) : ovB op n = true := by
  cases hv : ovB op n
  · rw [fmtS_no hv] at hs
    subst hs
    have c : Lib.cut ([] : List UInt8) [32] = ([], [], false) := by decide
    rw [show ((⟨#[]⟩ : ByteArray).data.toList : List UInt8) = [] from rfl, c] at h
    injection h with h1 h2
    exact absurd h1.symm (nm_ne hop)
  · rfl
end
theorem atoi_ok {ar : List UInt8} (hs : ar.length ≤ 1048576) {n : Int} (h : Lib.atoiAll ar = .ok n) (w : World) : Calls Tryd.prog 50 #[.string ⟨ar.toArray⟩] w fun e w' => e = .returned (.tuple #[.int .i64 n, .nilIface]) ∧ Below w.heap.size w w' := by
  refine (Tryd.strconv_Atoi_ok ⟨ar.toArray⟩ (by show ar.length ≤ _; omega) n h w).mono ?_
  rintro e w' ⟨rfl, rfl | ⟨t, rfl⟩⟩
  · exact ⟨rfl, Below.refl _ _⟩
  · exact ⟨rfl, Lib.bytesWorld_below _ _ _⟩
theorem atoi_bad {ar : List UInt8} (hs : ar.length ≤ 1048576) (h : ∀ n, Lib.atoiAll ar ≠ .ok n) {w : World} (hE : ErrW w) : Calls Tryd.prog 50 #[.string ⟨ar.toArray⟩] w fun e w' => (∃ (m : Int) (t : TypeId) (p : Value), e = .returned (.tuple #[.int .i64 m, .iface t p])) ∧ Below w.heap.size w w' := by
  obtain ⟨⟨t1, p1, h1⟩, ⟨t2, p2, h2⟩⟩ := hE
  cases hc : Lib.atoiAll ar
  · exact absurd hc (h _)
  · refine (Tryd.strconv_Atoi_syntax ⟨ar.toArray⟩ (by show ar.length ≤ _; omega) hc _ w h1 (.inr ⟨_, _, rfl⟩)).mono ?_
    rintro e w' ⟨N, rfl, _, _, hb⟩
    exact ⟨⟨_, _, _, rfl⟩, hb⟩
  · refine (Tryd.strconv_Atoi_range ⟨ar.toArray⟩ (by show ar.length ≤ _; omega) hc _ w h2 (.inr ⟨_, _, rfl⟩)).mono ?_
    rintro e w' ⟨N, rfl, _, _, hb⟩
    exact ⟨⟨_, _, _, rfl⟩, hb⟩
theorem na_key {na : List UInt8} (h : na.length ≤ 1048576) : keyOf Tryd.prog 9 (.string ⟨na.toArray⟩) = some (.string na) :=
  keyOf_string_mk (s := ⟨na.toArray⟩) Tryd.underlying9 (by show na.length ≤ _; unfold maxLen; omega)
theorem str_ne {a b : ByteArray} (h : a ≠ b) : (a.toList == b.toList) = false := by
  rw [beq_eq_false_iff_ne, ByteArray.toList_eq, ByteArray.toList_eq]
  intro e
  exact h (WideShapes.bytes_inj e)
theorem arr_ne {ar : List UInt8} (h : ar ≠ []) : ((⟨ar.toArray⟩ : ByteArray).toList == (⟨#[]⟩ : ByteArray).toList) = false := str_ne (by
  intro e
  have := congrArg (fun b : ByteArray => b.data.toList) e
  exact h this)
end Go.Proofs.YthplgehdgaeapaaDoor
