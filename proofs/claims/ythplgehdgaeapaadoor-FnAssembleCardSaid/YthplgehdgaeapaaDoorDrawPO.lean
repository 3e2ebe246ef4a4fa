/- The drawn text of ParseOrder's law; a text with a blank behind it is no instruction's. No condition. -/
import Derived.Test.YthplgehdgaeapaaDoorDrawLine
namespace Go.Proofs.YthplgehdgaeapaaDoor
open Go.RowKit
set_option linter.unusedVariables false
theorem draw_ParseOrder {v : Value} {w : World} (h : IsBytes w v) : Calls Tryd.prog 37 #[v] w (Drawn (StrUpTo 40) w) := by
  have H := Lib.hid h
  clear h
  go_enter Tryd.func37, Tryd.ntmps37
  go_wp2_with fail
  refine (l20Open H.out).mono ?_
  rintro e w0 ⟨rb, rfl, hrb, hR0, hB0⟩
  go_wp2_with fail
  refine (l20Line 3 hR0 (by omega)).mono ?_
  rintro e w1 ⟨v, rfl, ⟨s, rfl, hs⟩, hR1, hK1⟩
  go_wp2_with fail
  go_ret
  exact ⟨_, rfl, ⟨s, rfl, hs⟩, hK1.below hB0 hrb⟩
theorem dig_last {n : Int} (h0 : 0 ≤ n) (h1 : n ≤ 1023) : (Lib.decDigits n.toNat).getLast? = some (UInt8.ofNat (48 + n % 10).toNat) := by
  obtain ⟨l, e, hc⟩ := dig_cases h0 h1
  rw [e]
  rcases hc with ⟨_, rfl⟩ | ⟨_, _, rfl⟩ | ⟨_, _, rfl⟩ | ⟨_, rfl⟩ <;> rfl
theorem cut_at (a r : List UInt8) (h : ∀ b ∈ a, (b == 32) = false) : Lib.cut (a ++ 32 :: r) [32] = (a, r, true) := by
  rw [Lib.cut, index_at _ _ h, if_pos (by omega)]
  simp
theorem pn_more {op arg : Int} (hv : ovB op arg = true) : ∀ op' arg', ovB op' arg' = true → fmtS op' arg' ≠ fmtS op arg ++ ⟨#[32]⟩ := by
  intro op' arg' hv' e
  have hp := fun b hb => (nm_plain (ovB_op hv) b hb).1
  have c := cut_fmt hv'
  rw [e, data_app, fmt_list hv] at c
  by_cases h1 : olen op = 1
  · rw [if_pos h1, List.append_nil, show (nm op ++ (⟨#[32]⟩ : ByteArray).data.toList) = nm op ++ 32 :: [] from rfl, cut_at _ _ hp] at c
    injection c with c1 c2
    injection c2 with c2 c3
    obtain rfl := nm_inj (ovB_op hv) (ovB_op hv') c1
    rw [h1] at c3
    cases c3
  · rw [if_neg h1, show (nm op ++ (32 :: Lib.decDigits arg.toNat)) ++ (⟨#[32]⟩ : ByteArray).data.toList = nm op ++ 32 :: (Lib.decDigits arg.toNat ++ [32]) by simp, cut_at _ _ hp] at c
    injection c with c1 c2
    injection c2 with c2 c3
    obtain rfl := nm_inj (ovB_op hv) (ovB_op hv') c1
    rw [if_neg h1] at c2
    have ha := ovB_arg hv'
    have hl := dig_last ha.1 ha.2
    rw [← c2] at hl
    simp only [List.getLast?_concat, Option.some.injEq] at hl
    have hd := dig_val arg' ha.1
    rw [← hl] at hd
    have : (32 : UInt8).toNat = 32 := rfl
    omega
end Go.Proofs.YthplgehdgaeapaaDoor
