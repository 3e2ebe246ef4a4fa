/- The walk of strings.Cut at a separator of one byte: the parts are those of the plain cut. No condition but that the text's length is an int's. -/
import Derived.Test.YthplgehdgaeapaaDoorShelfC
import Derived.Test.YthplgehdgaeapaaDoorKit
import Derived.Lib.CutLaws
import Derived.Lib.IndexBytes
import Derived.RegionTactic
import Derived.Deep.Cut
import Derived.Deep.RegionHeld3
namespace Go.Proofs.YthplgehdgaeapaaDoor
open Go.RowKit
set_option linter.unusedVariables false

def CutR (s : ByteArray) (w : World) (e : Ending) (w' : World) : Prop := e = .returned (.tuple #[.string ⟨(Lib.cut s.data.toList [32]).1.toArray⟩, .string ⟨(Lib.cut s.data.toList [32]).2.1.toArray⟩, .bool (Lib.cut s.data.toList [32]).2.2]) ∧ ∃ n, w' = w.drewN n
set_option maxHeartbeats 1000000 in
theorem stringslite_Cut (s : ByteArray) (hs : s.size ≤ 1048576) (w : World) : Calls Tryd.prog 65 #[.string s, .string ⟨#[32]⟩] w (CutR s w) := by
  unfold CutR
  rcases Lib.indexB_cases s ⟨#[32]⟩ with hix | ⟨i, hix, hroom⟩
  · obtain ⟨e1, e2, e3⟩ := Lib.cutB_miss s ⟨#[32]⟩ hix
    rw [show ([32] : List UInt8) = (⟨#[32]⟩ : ByteArray).data.toList from rfl, e1, e2, e3]
    have hi : Lib.indexByte s.data.toList 32 = -1 := by rw [← Lib.index_one]; exact hix
    go_enter Tryd.func65, Tryd.ntmps65
    go_wp2_with (go_at_call 70; refine (Tryd.stringslite_Index_one s 32 _).mono ?_; rintro e w' ⟨rfl, rfl⟩; rw [hi])
    go_ret3
    exact ⟨rfl, 0, rfl⟩
  · obtain ⟨e1, e2, e3⟩ := Lib.cutB_hit s ⟨#[32]⟩ i hix
    rw [show ([32] : List UInt8) = (⟨#[32]⟩ : ByteArray).data.toList from rfl, e1, e2, e3]
    have hi : Lib.indexByte s.data.toList 32 = i := by rw [← Lib.index_one]; exact hix
    have z1 : (⟨#[32]⟩ : ByteArray).size = 1 := rfl
    rw [z1] at hroom ⊢
    have c1 : (0 : Int) ≤ ↑i := by omega
    have c2 : (↑i : Int) ≤ ↑s.size := by omega
    have c3 : (0 : Int) ≤ ↑i + 1 := by omega
    have c4 : (↑i + 1 : Int) ≤ ↑s.size := by omega
    have c5 : ((i : Int) + 1).toNat = i + 1 := by omega
    have c6 : IntKind.i64.wrap ((i : Int) + 1) = i + 1 := by rw [IntKind.wrap_i64]; omega
    go_enter Tryd.func65, Tryd.ntmps65
    go_upto_region 3 with (go_at_call 70; refine (Tryd.stringslite_Index_one s 32 _).mono ?_; rintro e w' ⟨rfl, rfl⟩; rw [hi])
    go_region
    all_goals
      go_wp2_with fail
      go_ret3
      exact ⟨rfl, 1, rfl⟩
theorem strings_Cut1 (s : ByteArray) (hs : s.size ≤ 1048576) (w : World) : Calls Tryd.prog 49 #[.string s, .string ⟨#[32]⟩] w (CutR s w) := by
  unfold CutR
  go_enter Tryd.func49, Tryd.ntmps49
  go_wp2_with (go_at_call 65; refine (stringslite_Cut s hs _).mono ?_; rintro e w' ⟨rfl, n, rfl⟩)
  go_ret3
  exact ⟨rfl, n, rfl⟩
end Go.Proofs.YthplgehdgaeapaaDoor
