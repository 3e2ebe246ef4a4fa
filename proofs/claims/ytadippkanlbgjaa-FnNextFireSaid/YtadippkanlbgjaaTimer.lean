/- The walks of the functions on timers: each returns what its plain word says, and changes nothing that was there. No condition. -/
import Derived.Test.YtadippkanlbgjaaByte
import Derived.RegionTactic
import Derived.ChangeAlike
import Derived.Deep.QuietTactic
import Derived.BigQuiet
namespace Go.Proofs.Ytadippkanlbgjaa
open Go.RowKit

def tvB (l r f : Int) : Bool := inR l 0 1000 && inR r 0 1000 && inR f 0 1000000000
def timerV (l r f : Int) : Value := .agg #[.int .i64 l, .int .i64 r, .int .i64 f]
def zeroTimer : Value := .agg #[.int .i64 0, .int .i64 0, .int .i64 0]

theorem spec_TimerValid (l r f : Int) (w : World) : Calls Try.prog 70 #[.agg #[.int .i64 l, .int .i64 r, .int .i64 f]] w fun e w' => e = .returned (.bool (tvB l r f)) ∧ w.alloc (.cells #[.int .i64 l, .int .i64 r, .int .i64 f] 24) = w' := by
  cases h1 : inR l 0 1000 <;> cases h2 : inR r 0 1000
  all_goals
    go_enter Try.func70, Try.ntmps70
    go_wp2_with (go_at_call 78; refine (spec_l1In _ _ _ _).mono ?_; rintro e w' ⟨rfl, rfl⟩)
    go_ret
    exact ⟨by simp [tvB, h1, h2], rfl⟩
theorem impl_TimerValid (l r f : Int) (w : World) : Calls Try.prog 69 #[.agg #[.int .i64 l, .int .i64 r, .int .i64 f]] w fun e w' => e = .returned (.bool (tvB l r f)) ∧ w.alloc (.cells #[.int .i64 l, .int .i64 r, .int .i64 f] 24) = w' := by
  cases h1 : inR l 0 1000 <;> cases h2 : inR r 0 1000
  all_goals
    go_enter Try.func69, Try.ntmps69
    go_wp2_with (go_at_call 72; refine (impl_within _ _ _ _).mono ?_; rintro e w' ⟨rfl, rfl⟩)
    go_ret
    exact ⟨by simp [tvB, h1, h2], rfl⟩

def skB (l r f c : Int) : Bool := tvB l r f && inR c 0 100000
def sk1 (l r f c : Int) : Int := if skB l r f c then (if c ≤ l then l - c else r - (c - l - 1) % (r + 1)) else 0
def sk2 (l r f c : Int) : Int := if skB l r f c then r else 0
def sk3 (l r f c : Int) : Int := if skB l r f c then (if c ≤ l then f else f + 1 + (c - l - 1) / (r + 1)) else 0
def skV (l r f c : Int) : Value := .agg #[.int .i64 (sk1 l r f c), .int .i64 (sk2 l r f c), .int .i64 (sk3 l r f c)]
theorem skV_no {l r f c : Int} (h : skB l r f c = false) : skV l r f c = .agg #[.int .i64 0, .int .i64 0, .int .i64 0] := by
  unfold skV sk1 sk2 sk3
  rw [h]; rfl
theorem skV_low {l r f c : Int} (h : skB l r f c = true) (h1 : c ≤ l) : skV l r f c = .agg #[.int .i64 (l - c), .int .i64 r, .int .i64 f] := by
  unfold skV sk1 sk2 sk3
  simp [h, h1]
theorem skV_high {l r f c : Int} (h : skB l r f c = true) (h1 : ¬ c ≤ l) : skV l r f c = .agg #[.int .i64 (r - (c - l - 1) % (r + 1)), .int .i64 r, .int .i64 (f + 1 + (c - l - 1) / (r + 1))] := by
  unfold skV sk1 sk2 sk3
  simp [h, h1]
theorem tvB_iff {l r f : Int} : tvB l r f = true ↔ (0 ≤ l ∧ l ≤ 1000) ∧ (0 ≤ r ∧ r ≤ 1000) ∧ (0 ≤ f ∧ f ≤ 1000000000) := by
  simp only [tvB, Bool.and_eq_true, inR_iff, and_assoc]
theorem skB_iff {l r f c : Int} : skB l r f c = true ↔ tvB l r f = true ∧ 0 ≤ c ∧ c ≤ 100000 := by
  simp only [skB, Bool.and_eq_true, inR_iff]
theorem quo_bd (x y : Int) (h0 : 0 ≤ x) (h1 : x ≤ 100000) (hy : 1 ≤ y) : 0 ≤ x / y ∧ x / y ≤ 100000 ∧ 0 ≤ x % y ∧ x % y < y := by
  have e := Int.emod_add_mul_ediv x y
  have m0 := Int.emod_nonneg x (show y ≠ 0 by omega)
  have m1 := Int.emod_lt_of_pos x (show 0 < y by omega)
  have q0 := Int.ediv_nonneg h0 (show 0 ≤ y by omega)
  have q1 : x / y ≤ y * (x / y) := by
    have := Int.mul_le_mul_of_nonneg_right hy q0
    simpa using this
  exact ⟨q0, by omega, m0, m1⟩


theorem impl_skip (l r f c : Int) (w : World) (h : skB l r f c = true) : Calls Try.prog 73 #[.agg #[.int .i64 l, .int .i64 r, .int .i64 f], .int .i64 c] w fun e w' => e = .returned (skV l r f c) ∧ Below w.heap.size w w' := by
  obtain ⟨ht, c0, c1⟩ := skB_iff.1 h
  obtain ⟨⟨l0, l1⟩, ⟨r0, r1⟩, f0, f1⟩ := tvB_iff.1 ht
  by_cases hle : c ≤ l
  · rw [skV_low h hle]
    go_enter Try.func73, Try.ntmps73
    go_wp2
    go_returns
    exact ⟨rfl, by go_grown⟩
  · rw [skV_high h hle, show c - l - 1 = c - (l + 1) by omega]
    obtain ⟨q0, q1, m0, m1⟩ := quo_bd (c - (l + 1)) (r + 1) (by omega) (by omega) (by omega)
    have e3 : f + 1 + (c - (l + 1)) / (r + 1) = f + (1 + (c - (l + 1)) / (r + 1)) := by omega
    rw [e3]
    clear e3
    go_enter Try.func73, Try.ntmps73
    go_wp2
    go_region
    go_wp2
    go_region
    go_wp2
    go_returns
    exact ⟨rfl, by go_grown⟩
theorem impl_SkipTimer (l r f c : Int) (w : World) : Calls Try.prog 22 #[.agg #[.int .i64 l, .int .i64 r, .int .i64 f], .int .i64 c] w fun e w' => e = .returned (skV l r f c) ∧ Below w.heap.size w w' := by
  cases ht : tvB l r f
  · rw [skV_no (by simp [skB, ht])]
    go_enter Try.func22, Try.ntmps22
    go_wp2_with (first | (go_at_call 69; refine (impl_TimerValid _ _ _ _).mono ?_; rintro e w' ⟨rfl, rfl⟩) | (go_at_call 72; refine (impl_within _ _ _ _).mono ?_; rintro e w' ⟨rfl, rfl⟩))
    go_returns
    exact ⟨rfl, by go_grown⟩
  cases hi : inR c 0 100000
  · rw [skV_no (by simp [skB, ht, hi])]
    go_enter Try.func22, Try.ntmps22
    go_wp2_with (first | (go_at_call 69; refine (impl_TimerValid _ _ _ _).mono ?_; rintro e w' ⟨rfl, rfl⟩) | (go_at_call 72; refine (impl_within _ _ _ _).mono ?_; rintro e w' ⟨rfl, rfl⟩))
    go_returns
    exact ⟨rfl, by go_grown⟩
  have hv : skB l r f c = true := by simp [skB, ht, hi]
  go_enter Try.func22, Try.ntmps22
  go_wp2_with (first | (go_at_call 73; refine (impl_skip _ _ _ _ _ hv).mono ?_; rintro e w' ⟨rfl, hb⟩; obtain ⟨hc, hf⟩ := bcell hb; unfold skV) | (go_at_call 69; refine (impl_TimerValid _ _ _ _).mono ?_; rintro e w' ⟨rfl, rfl⟩) | (go_at_call 72; refine (impl_within _ _ _ _).mono ?_; rintro e w' ⟨rfl, rfl⟩))
  refine bodyPost_ret (v := skV l r f c) (by simp [results, Try.results22, go_sem, hc, skV]) rfl ⟨rfl, ?_⟩
  repeat (first | with_reducible exact Below.refl _ _ | with_reducible refine below_via (by assumption) ?_ (by go_size) | with_reducible refine below_within (by assumption) ?_ (by go_size) (by omega) | with_reducible refine Below.alloc ?_ (by go_size) _ | with_reducible refine Below.setCell ?_ (by go_size) _ | with_reducible refine Below.drew ?_)
theorem spec_NextFire (l r f : Int) (w : World) : Calls Try.prog 20 #[.agg #[.int .i64 l, .int .i64 r, .int .i64 f]] w fun e w' => e = .returned (.int .i64 (if tvB l r f then l + 1 else -1)) ∧ Below w.heap.size w w' := by
  cases ht : tvB l r f
  · go_enter Try.func20, Try.ntmps20
    go_wp2_with (first | (go_at_call 70; refine (spec_TimerValid _ _ _ _).mono ?_; rintro e w' ⟨rfl, rfl⟩))
    go_ret
    exact ⟨rfl, by go_grown⟩
  · obtain ⟨⟨l0, l1⟩, _⟩ := tvB_iff.1 ht
    go_enter Try.func20, Try.ntmps20
    go_wp2_with (first | (go_at_call 70; refine (spec_TimerValid _ _ _ _).mono ?_; rintro e w' ⟨rfl, rfl⟩))
    go_ret
    exact ⟨rfl, by go_grown⟩
theorem impl_NextFire (l r f : Int) (w : World) : Calls Try.prog 19 #[.agg #[.int .i64 l, .int .i64 r, .int .i64 f]] w fun e w' => e = .returned (.int .i64 (if tvB l r f then l + 1 else -1)) ∧ Below w.heap.size w w' := by
  cases ht : tvB l r f
  · go_enter Try.func19, Try.ntmps19
    go_wp2_with (first | (go_at_call 69; refine (impl_TimerValid _ _ _ _).mono ?_; rintro e w' ⟨rfl, rfl⟩))
    go_ret
    exact ⟨rfl, by go_grown⟩
  · obtain ⟨⟨l0, l1⟩, _⟩ := tvB_iff.1 ht
    go_enter Try.func19, Try.ntmps19
    go_wp2_with (first | (go_at_call 69; refine (impl_TimerValid _ _ _ _).mono ?_; rintro e w' ⟨rfl, rfl⟩))
    go_ret
    exact ⟨rfl, by go_grown⟩
end Go.Proofs.Ytadippkanlbgjaa
