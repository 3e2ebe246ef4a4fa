/- The walks of CopyMemory. No condition. -/
import Derived.Test.YtlnpmanghkeieaaMemFns
import Derived.IntWalk
namespace Go.Proofs.Ytlnpmanghkeieaa
open Go.RowKit
set_option linter.unusedVariables false

/-- What CopyMemory answers. -/
def cpOk (ram : List Int) (rom : List (List Int)) (bank p q n : Int) : Bool := memB ram rom bank && inR p 0 1023 && inR q 0 1023 && inR n 0 256
def cpR (ram : List Int) (rom : List (List Int)) (bank p q n : Int) : List Int := if cpOk ram rom bank p q n then copyN ram rom bank p.toNat q.toNat n.toNat else []
def cpM (ram : List Int) (rom : List (List Int)) (bank p q n : Int) : List (List Int) := if cpOk ram rom bank p q n then rom else []
def cpB (ram : List Int) (rom : List (List Int)) (bank p q n : Int) : Int := if cpOk ram rom bank p q n then bank else 0
theorem cp_no {ram : List Int} {rom : List (List Int)} {bank p q n : Int} (h : cpOk ram rom bank p q n = false) : cpR ram rom bank p q n = [] ∧ cpM ram rom bank p q n = [] ∧ cpB ram rom bank p q n = 0 := by simp [cpR, cpM, cpB, h]
theorem cp_yes {ram : List Int} {rom : List (List Int)} {bank p q n : Int} (h : cpOk ram rom bank p q n = true) : cpR ram rom bank p q n = copyN ram rom bank p.toNat q.toNat n.toNat ∧ cpM ram rom bank p q n = rom ∧ cpB ram rom bank p q n = bank := by simp [cpR, cpM, cpB, h]
theorem copyN_shp {ram : List Int} {rom : List (List Int)} {bank : Int} (h : memB ram rom bank = true) (p q k : Nat) : Shp (copyN ram rom bank p q k) rom bank := shp_of (copyN_valid h p q k)
theorem memAt_drew {w : World} {B : Nat} {ram : List Int} {rom : List (List Int)} {bank : Int} {a b : Option Addr} {c d : Nat} (h : MemAt w B ram rom bank a c b d) : MemAt w.drew B ram rom bank a c b d :=
  ⟨h.c0, h.c1, h.c2, h.i.below ⟨rfl, rfl, rfl, Nat.le_refl _, fun _ _ => rfl⟩, h.m.below ⟨rfl, rfl, rfl, Nat.le_refl _, fun _ _ => rfl⟩⟩
theorem memIn_drew {L B : Nat} {w : World} {ram : List Int} {rom : List (List Int)} {bank : Int} {a b : Option Addr} {c d l1 t1 l2 t2 : Nat} (h : MemIn L w B ram rom bank a c b d l1 t1 l2 t2) : MemIn L w.drew B ram rom bank a c b d l1 t1 l2 t2 := h.below ⟨rfl, rfl, rfl, Nat.le_refl _, fun _ _ => rfl⟩
theorem memIn_drewN {L B : Nat} {w : World} {ram : List Int} {rom : List (List Int)} {bank : Int} {a b : Option Addr} {c d l1 t1 l2 t2 : Nat} (n : Nat) (h : MemIn L w B ram rom bank a c b d l1 t1 l2 t2) : MemIn L (w.drewN n) B ram rom bank a c b d l1 t1 l2 t2 := h.drewN n
theorem below_drewN {B : Nat} {w X : World} (n : Nat) (h : Below B w X) : Below B w (X.drewN n) := ⟨h.os, h.tape, h.output, h.size, h.block⟩
theorem impl_peek_at {B : Nat} {ram : List Int} {rom : List (List Int)} {bank p z : Int} {a b : Option Addr} {c d : Nat} {w : World} (hz : z = p) (h : MemAt w B ram rom bank a c b d) (hs : Shp ram rom bank) (h0 : 0 ≤ p) (h1 : p ≤ 1023) :
    Calls Try.prog 29 #[.pointer (some ⟨B, 0, none⟩), .int .i64 z] w fun e w' => e = .returned (.int .i64 (peekL ram rom bank p)) ∧ Quiet w w' := by subst hz; exact impl_peek h hs h0 h1
end Go.Proofs.Ytlnpmanghkeieaa
