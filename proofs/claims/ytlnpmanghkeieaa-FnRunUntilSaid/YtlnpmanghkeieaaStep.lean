/- The plain words of a machine: its parts, a step, several steps. No condition. -/
import Derived.Test.YtlnpmanghkeieaaMemLaw
import Derived.Test.YtlnpmanghkeieaaDecode
namespace Go.Proofs.Ytlnpmanghkeieaa
open Go.RowKit
set_option linter.unusedVariables false

structure Mach where
  ram : List Int
  rom : List (List Int)
  bank : Int
  a : Int
  pc : Int
  carry : Bool
  back : List Int
  stop : Bool
  cyc : Int
namespace Mach
def peek (m : Mach) (p : Int) : Int := peekL m.ram m.rom m.bank p
def fetch (m : Mach) : List Int := [m.peek m.pc, m.peek ((m.pc + 1) % 1024), m.peek ((m.pc + 2) % 1024)]
def goes (m : Mach) (op arg : Int) : Mach :=
  if op = 10 then { m with pc := arg }
  else if op = 11 then (if m.a = 0 then { m with pc := arg } else m)
  else if op = 12 then (if m.carry then { m with pc := arg } else m)
  else if op = 13 then (if m.back.length = 8 then { m with stop := true } else { m with back := m.back ++ [m.pc], pc := arg })
  else if op = 14 then (if m.back = [] then { m with stop := true } else { m with pc := m.back.getD (m.back.length - 1) 0, back := m.back.take (m.back.length - 1) })
  else if op = 15 then { m with stop := true }
  else m
def exec (m : Mach) (op arg : Int) : Mach :=
  if op = 1 then { m with a := arg }
  else if op = 2 then { m with a := m.peek arg }
  else if op = 3 then { m with ram := pokeR m.ram arg m.a, bank := pokeB m.rom m.bank arg m.a }
  else if op = 4 then { m with a := add1 m.a (m.peek arg) m.carry, carry := add2 m.a (m.peek arg) m.carry }
  else if op = 5 then { m with a := sub1 m.a (m.peek arg) m.carry, carry := sub2 m.a (m.peek arg) m.carry }
  else if op = 6 then { m with a := bits .and .i64 m.a (m.peek arg) }
  else if op = 7 then { m with a := bits .xor .i64 m.a (m.peek arg) }
  else if op = 8 then { m with a := rotl1 m.a m.carry, carry := rotl2 m.a m.carry }
  else if op = 9 then { m with a := rotr1 m.a m.carry, carry := rotr2 m.a m.carry }
  else m.goes op arg
def ahead (m : Mach) (n : Int) : Mach := { m with pc := (m.pc + n) % 1024, cyc := m.cyc + n }
def step (m : Mach) : Mach :=
  if m.stop then m
  else if dOk m.fetch 0 then (m.ahead (olen (dOp m.fetch 0))).exec (dOp m.fetch 0) (dArg m.fetch 0)
  else { m with stop := true }
def steps : Nat → Mach → Mach
  | 0, m => m
  | n + 1, m => (steps n m).step
/-- What the walks need of a machine. -/
structure Good (m : Mach) (C : Int) : Prop where
  mem : memB m.ram m.rom m.bank = true
  a : byteB m.a = true
  pc : inR m.pc 0 1023 = true
  len : m.back.length ≤ 8
  back : m.back.all (fun x => inR x 0 1023) = true
  c0 : 0 ≤ m.cyc
  c1 : m.cyc ≤ C
theorem bits_byte {x y : Int} (hx : byteB x = true) (hy : byteB y = true) : byteB (bits .and .i64 x y) = true ∧ byteB (bits .xor .i64 x y) = true := by
  obtain ⟨x0, x1⟩ := byteB_iff.1 hx
  obtain ⟨y0, y1⟩ := byteB_iff.1 hy
  obtain ⟨a, rfl⟩ := Int.eq_ofNat_of_zero_le x0
  obtain ⟨b, rfl⟩ := Int.eq_ofNat_of_zero_le y0
  have ha : a < 2 ^ 8 := by omega
  have hb : b < 2 ^ 8 := by omega
  have h1 : (BitVec.ofInt 64 (a : Int)).toNat = a := by
    rw [BitVec.ofInt_natCast, BitVec.toNat_ofNat]; exact Nat.mod_eq_of_lt (by omega)
  have h2 : (BitVec.ofInt 64 (b : Int)).toNat = b := by
    rw [BitVec.ofInt_natCast, BitVec.toNat_ofNat]; exact Nat.mod_eq_of_lt (by omega)
  have l1 : a &&& b < 2 ^ 8 := Nat.and_lt_two_pow _ hb
  have l2 : a ^^^ b < 2 ^ 8 := Nat.xor_lt_two_pow ha hb
  have e1 : bits .and .i64 (a : Int) (b : Int) = ((a &&& b : Nat) : Int) := by
    show IntKind.i64.wrap ((BitVec.ofInt 64 (a : Int) &&& BitVec.ofInt 64 (b : Int)).toNat : Int) = _
    rw [BitVec.toNat_and, h1, h2, IntKind.wrap_i64]
    omega
  have e2 : bits .xor .i64 (a : Int) (b : Int) = ((a ^^^ b : Nat) : Int) := by
    show IntKind.i64.wrap ((BitVec.ofInt 64 (a : Int) ^^^ BitVec.ofInt 64 (b : Int)).toNat : Int) = _
    rw [BitVec.toNat_xor, h1, h2, IntKind.wrap_i64]
    omega
  rw [e1, e2]
  exact ⟨byteB_iff.2 (by omega), byteB_iff.2 (by omega)⟩
theorem byte_if {c : Bool} {x : Int} (h : c = true → 0 ≤ x ∧ x ≤ 255) : byteB (if c then x else 0) = true := by
  cases c
  · rfl
  · exact byteB_iff.2 (h rfl)
theorem add1_byte (x y : Int) (c : Bool) : byteB (add1 x y c) = true := byte_if fun _ => by omega
theorem sub1_byte (x y : Int) (c : Bool) : byteB (sub1 x y c) = true := byte_if fun _ => by omega
theorem rotl1_byte (x : Int) (c : Bool) : byteB (rotl1 x c) = true := byte_if fun _ => by omega
theorem rotr1_byte (x : Int) (c : Bool) : byteB (rotr1 x c) = true := byte_if fun h => by
  obtain ⟨h0, h1⟩ := byteB_iff.1 h
  have := bit_bd c
  omega
variable {m : Mach} {C : Int}
theorem Good.peek_byte (h : m.Good C) (p : Int) : byteB (m.peek p) = true := peekL_byte h.mem p
theorem ov_arg {op arg : Int} (h : ovB op arg = true) : inR arg 0 1023 = true := by
  rcases olen_vals op with k | k | k | k
  · rw [ovB_0 k] at h; cases h
  · rw [ovB_1 k] at h; exact inR_iff.2 (by have : arg = 0 := by simpa using h
                                           omega)
  · rw [ovB_2 k] at h; exact inR_iff.2 (by have := byteB_iff.1 h; omega)
  · rw [ovB_3 k] at h; exact h
theorem Good.goes (h : m.Good C) {op arg : Int} (ha : inR arg 0 1023 = true) : (m.goes op arg).Good C := by
  unfold Mach.goes
  split
  · exact ⟨h.mem, h.a, ha, h.len, h.back, h.c0, h.c1⟩
  split
  · split
    · exact ⟨h.mem, h.a, ha, h.len, h.back, h.c0, h.c1⟩
    · exact h
  split
  · split
    · exact ⟨h.mem, h.a, ha, h.len, h.back, h.c0, h.c1⟩
    · exact h
  split
  · split
    · exact ⟨h.mem, h.a, h.pc, h.len, h.back, h.c0, h.c1⟩
    · refine ⟨h.mem, h.a, ha, ?_, ?_, h.c0, h.c1⟩
      · have := h.len
        show (m.back ++ [m.pc]).length ≤ 8
        rw [List.length_append, List.length_singleton]; omega
      · show (m.back ++ [m.pc]).all _ = true
        rw [List.all_append, h.back]
        simp [h.pc]
  split
  · split
    · exact ⟨h.mem, h.a, h.pc, h.len, h.back, h.c0, h.c1⟩
    · rename_i hne
      have hl : 0 < m.back.length := List.length_pos_iff.2 hne
      have hb := h.back
      rw [List.all_eq_true] at hb
      refine ⟨h.mem, h.a, ?_, ?_, ?_, h.c0, h.c1⟩
      · show inR (m.back.getD (m.back.length - 1) 0) 0 1023 = true
        rw [List.getD_eq_getElem?_getD, List.getElem?_eq_getElem (by omega)]
        exact hb _ (List.getElem_mem _)
      · have := h.len
        show (m.back.take (m.back.length - 1)).length ≤ 8
        rw [List.length_take]; omega
      · show (m.back.take (m.back.length - 1)).all _ = true
        rw [List.all_eq_true]
        intro x hx
        exact hb x (List.mem_of_mem_take hx)
  split
  · exact ⟨h.mem, h.a, h.pc, h.len, h.back, h.c0, h.c1⟩
  · exact h
theorem Good.exec (h : m.Good C) {op arg : Int} (hv : ovB op arg = true) : (m.exec op arg).Good C := by
  have ha := ov_arg hv
  unfold Mach.exec
  split
  · rename_i e
    subst e
    have hb : byteB arg = true := by rw [ovB_2 (by decide)] at hv; exact hv
    exact ⟨h.mem, hb, h.pc, h.len, h.back, h.c0, h.c1⟩
  split
  · exact ⟨h.mem, h.peek_byte _, h.pc, h.len, h.back, h.c0, h.c1⟩
  split
  · exact ⟨poke_valid h.mem h.a, h.a, h.pc, h.len, h.back, h.c0, h.c1⟩
  split
  · exact ⟨h.mem, add1_byte _ _ _, h.pc, h.len, h.back, h.c0, h.c1⟩
  split
  · exact ⟨h.mem, sub1_byte _ _ _, h.pc, h.len, h.back, h.c0, h.c1⟩
  split
  · exact ⟨h.mem, (bits_byte h.a (h.peek_byte _)).1, h.pc, h.len, h.back, h.c0, h.c1⟩
  split
  · exact ⟨h.mem, (bits_byte h.a (h.peek_byte _)).2, h.pc, h.len, h.back, h.c0, h.c1⟩
  split
  · exact ⟨h.mem, rotl1_byte _ _, h.pc, h.len, h.back, h.c0, h.c1⟩
  split
  · exact ⟨h.mem, rotr1_byte _ _, h.pc, h.len, h.back, h.c0, h.c1⟩
  · exact h.goes ha
theorem Good.ahead (h : m.Good C) {n : Int} (h0 : 0 ≤ n) (h1 : n ≤ 3) : (m.ahead n).Good (C + 3) := by
  have := inR_iff.1 h.pc
  have c0 := h.c0
  have c1 := h.c1
  refine ⟨h.mem, h.a, inR_iff.2 ?_, h.len, h.back, ?_, ?_⟩
  · show 0 ≤ (m.pc + n) % 1024 ∧ (m.pc + n) % 1024 ≤ 1023; omega
  · show 0 ≤ m.cyc + n; omega
  · show m.cyc + n ≤ C + 3; omega
theorem Good.more (h : m.Good C) {D : Int} (hD : C ≤ D) : m.Good D := ⟨h.mem, h.a, h.pc, h.len, h.back, h.c0, by have := h.c1; omega⟩
theorem fetch_ov (h : dOk m.fetch 0 = true) : ovB (dOp m.fetch 0) (dArg m.fetch 0) = true := by
  simp only [dOk, Bool.and_eq_true] at h
  exact okX_ov h.2
theorem Good.step (h : m.Good C) : m.step.Good (C + 3) := by
  unfold Mach.step
  split
  · exact h.more (by omega)
  split
  · rename_i hd
    have := olen_bd (dOp m.fetch 0)
    exact (h.ahead this.1 this.2).exec (fetch_ov hd)
  · exact ⟨h.mem, h.a, h.pc, h.len, h.back, h.c0, by have := h.c1; show m.cyc ≤ C + 3; omega⟩
theorem Good.steps (h : m.Good C) (n : Nat) : (steps n m).Good (C + 3 * n) := by
  induction n with
  | zero => exact h.more (by omega)
  | succ n ih => exact (Good.step ih).more (by push_cast; omega)
theorem steps_add (a b : Nat) (m : Mach) : steps a (steps b m) = steps (b + a) m := by
  induction a with
  | zero => rfl
  | succ a ih => show (steps a (steps b m)).step = (steps (b + a) m).step; rw [ih]
theorem step_stop (h : m.stop = true) : m.step = m := by simp [Mach.step, h]
theorem steps_stop (n : Nat) (h : m.stop = true) : steps n m = m := by
  induction n with
  | zero => rfl
  | succ n ih => show (steps n m).step = m; rw [ih]; exact step_stop h
end Mach
end Go.Proofs.Ytlnpmanghkeieaa
