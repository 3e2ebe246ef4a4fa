/- What the listed package-level variables give a walk: the table of strconv's powers of ten, and what the two errors' variables hold; each stays where nothing that was there turns. One start that fits. No condition. -/
import Derived.Test.YthplgehdgaeapaaDoorShelf
import Derived.Test.YthplgehdgaeapaaDoorRows
import Derived.Test.YthplgehdgaeapaaDoorKit
import Derived.Lib.LaidTab
import Derived.Stop.LaidErr
import Derived.LaidHandle
import Derived.LaidMore
import Derived.MakeChecks
namespace Go.Proofs.YthplgehdgaeapaaDoor
open Go.RowKit
set_option linter.unusedVariables false

def TabW (w : World) : Prop := Lib.TabIs Tryd.prog w "internal/strconv.uint64pow10" .u64 Lib.pow10Tab
def ErrW (w : World) : Prop := (∃ t p, w.cell? ⟨1, 0, none⟩ = some (.iface t p)) ∧ (∃ t p, w.cell? ⟨2, 0, none⟩ = some (.iface t p))
def LaidW (w : World) : Prop := TabW w ∧ ErrW w
theorem gPow : Tryd.prog.globalNamed "internal/strconv.uint64pow10" = some 3 := by kernel_rfl
theorem gPowType : (Tryd.prog.globals[3]?).map (·.type) = some 109 := by kernel_rfl
theorem gErrS : Tryd.prog.globalNamed "strconv.ErrSyntax" = some 1 := by kernel_rfl
theorem gErrSType : (Tryd.prog.globals[1]?).map (·.type) = some 70 := by kernel_rfl
theorem gErrR : Tryd.prog.globalNamed "strconv.ErrRange" = some 2 := by kernel_rfl
theorem gErrRType : (Tryd.prog.globals[2]?).map (·.type) = some 70 := by kernel_rfl
theorem cellsErr : Tryd.prog.cellsOf 119 = 1 := by kernel_rfl
theorem cellsStr : Tryd.prog.cellsOf 9 = 1 := by kernel_rfl
theorem cellsU64 : Tryd.prog.cellsOf 95 = 1 := by kernel_rfl
theorem cellsPow : Tryd.prog.cellsOf 109 = 20 := by kernel_rfl
theorem starErr : "*" ++ "errors.errorString" = "*errors.errorString" := by decide
theorem rowErr (u : TypeId) (h : Tryd.prog.typeName? 3 u = some "*errors.errorString") : u = 117 :=
  typeName_ptr_named (nm := "errors.errorString") (by rw [starErr]; kernel_rfl) (by kernel_rfl) (by decide) u (by rw [starErr]; exact h)
theorem TabW.below {w w' : World} (h : TabW w) (hb : Below w.heap.size w w') : TabW w' := by
  unfold TabW Lib.TabIs World.var? at h ⊢
  rw [gPow] at h ⊢
  simp only [Option.bind_some] at h ⊢
  have hlt : 3 < w.heap.size := by
    rcases Nat.lt_or_ge 3 w.heap.size with k | k
    · exact k
    · rw [Array.getElem?_eq_none k] at h; cases h
  rw [hb.block _ hlt]
  exact h
theorem ErrW.below {w w' : World} (h : ErrW w) (hb : Below w.heap.size w w') : ErrW w' := by
  obtain ⟨⟨t, p, h1⟩, ⟨t', p', h2⟩⟩ := h
  exact ⟨⟨t, p, (hb.cell (p := ⟨_, 0, none⟩) (block_lt_of_cell h1)).trans h1⟩, ⟨t', p', (hb.cell (p := ⟨_, 0, none⟩) (block_lt_of_cell h2)).trans h2⟩⟩
theorem LaidW.below {w w' : World} (h : LaidW w) (hb : Below w.heap.size w w') : LaidW w' := ⟨h.1.below hb, h.2.below hb⟩
theorem TabW.drew {w : World} (h : TabW w) : TabW w.drew := h.below (Below.refl _ _).drew
theorem LaidW.drew {w : World} (h : LaidW w) : LaidW w.drew := h.below (Below.refl _ _).drew

def laid3 : List (String × DataW Unit) := [("math/bits.deBruijn32tab", Rows.laid_math_bits_deBruijn32tab), ("math/bits.deBruijn64tab", Rows.laid_math_bits_deBruijn64tab), ("internal/strconv.uint64pow10", Rows.laid_internal_strconv_uint64pow10)]
def laid5 : List (String × DataW Unit) := [("math/bits.deBruijn32tab", Rows.laid_math_bits_deBruijn32tab), ("math/bits.deBruijn64tab", Rows.laid_math_bits_deBruijn64tab), ("internal/strconv.uint64pow10", Rows.laid_internal_strconv_uint64pow10), ("strconv.ErrRange", Rows.laid_strconv_ErrRange), ("strconv.ErrSyntax", Rows.laid_strconv_ErrSyntax)]
theorem powData : (Rows.laid_internal_strconv_uint64pow10 : DataW Unit) = Lib.tabData .u64 Lib.pow10Tab := by kernel_rfl
theorem tab_of_laid3 {w : World} (h : laidMetH Tryd.prog laid3 w) : TabW w := by
  rw [MakeChecks.laidMetH_plain _ _ _ (by kernel_rfl)] at h
  have h2 := h.tail.tail
  rw [powData] at h2
  exact Lib.tabIs_of_head gPow gPowType Tryd.underlying109 Tryd.underlying95 cellsU64 cellsPow h2
theorem laid_of_laid5 {w : World} (h : laidMetH Tryd.prog laid5 w) : LaidW w := by
  rw [MakeChecks.laidMetH_plain _ _ _ (by kernel_rfl)] at h
  have h2 := h.tail.tail
  have h3 := h2.tail
  have h4 := h3.tail
  rw [powData] at h2
  obtain ⟨a0, s0, hv0, -, -, -⟩ := laid_sentinel h4 gErrS gErrSType Tryd.underlying70 rowErr Tryd.underlying117 Tryd.underlying119 rfl rfl Tryd.underlying9 cellsErr cellsStr
  obtain ⟨a1, s1, hv1, -, -, -⟩ := laid_sentinel h3 gErrR gErrRType Tryd.underlying70 rowErr Tryd.underlying117 Tryd.underlying119 rfl rfl Tryd.underlying9 cellsErr cellsStr
  refine ⟨Lib.tabIs_of_head gPow gPowType Tryd.underlying109 Tryd.underlying95 cellsU64 cellsPow h2, ?_, ?_⟩
  · exact ⟨_, _, by have h0 := World.var?_cell gErrS hv0 0; simpa using h0⟩
  · exact ⟨_, _, by have h0 := World.var?_cell gErrR hv1 0; simpa using h0⟩
/-- The door's own heap meets the condition. -/
theorem door_met3 (os : Os) (args : Array Value) : laidMetH Tryd.prog laid3 ((World.doorLaid Tryd.prog 400 os).forCall (fun _ _ => 0) ⟨#[], args, []⟩).memory :=
  laidMetH_of_parts3 (fuel := 8) (laidMet_of_run' 8 (by kernel_rfl) (by kernel_rfl)) (by kernel_rfl) (by kernel_rfl)
theorem door_met5 (os : Os) (args : Array Value) : laidMetH Tryd.prog laid5 ((World.doorLaid Tryd.prog 400 os).forCall (fun _ _ => 0) ⟨#[], args, []⟩).memory :=
  laidMetH_of_parts3 (fuel := 8) (laidMet_of_run' 8 (by kernel_rfl) (by kernel_rfl)) (by kernel_rfl) (by kernel_rfl)
theorem door_shaped (os : Os) (args : Array Value) : ((World.doorLaid Tryd.prog 400 os).forCall (fun _ _ => 0) ⟨#[], args, []⟩).Shaped Tryd.prog := World.shaped_of_RefB (by kernel_rfl) (by kernel_rfl)
end Go.Proofs.YthplgehdgaeapaaDoor
