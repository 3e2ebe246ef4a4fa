/- The reader of the drawn inputs: what 'pick' and 'odd' give, what they change. No condition. -/
import Derived.Test.YtlnpmanghkeieaaOrd
import Derived.Test.YtlnpmanghkeieaaRead
import Derived.RegionTactic
import Derived.ChangeAlike
import Derived.Deep.QuietTactic
import Derived.Deep.RegionWith
import Derived.BigQuiet
import Derived.IntWalk
namespace Go.Proofs.Ytlnpmanghkeieaa
open Go.RowKit

theorem xor64_bd (x y : Int) (hx : 0 ≤ x) (hx2 : x < 4611686018427387904) (hy : 0 ≤ y) (hy2 : y < 4611686018427387904) :
    0 ≤ bits .xor .i64 x y ∧ bits .xor .i64 x y < 4611686018427387904 := by
  obtain ⟨a, rfl⟩ := Int.eq_ofNat_of_zero_le hx
  obtain ⟨b, rfl⟩ := Int.eq_ofNat_of_zero_le hy
  have hlt : a ^^^ b < 2 ^ 62 := Nat.xor_lt_two_pow (by omega) (by omega)
  have h1 : (BitVec.ofInt 64 (a : Int)).toNat = a := by
    rw [BitVec.ofInt_natCast, BitVec.toNat_ofNat]; exact Nat.mod_eq_of_lt (by omega)
  have h2 : (BitVec.ofInt 64 (b : Int)).toNat = b := by
    rw [BitVec.ofInt_natCast, BitVec.toNat_ofNat]; exact Nat.mod_eq_of_lt (by omega)
  have e : bits .xor .i64 (a : Int) (b : Int) = ((a ^^^ b : Nat) : Int) := by
    show IntKind.i64.wrap ((BitVec.ofInt 64 (a : Int) ^^^ BitVec.ofInt 64 (b : Int)).toNat : Int) = _
    rw [BitVec.toNat_xor, h1, h2, IntKind.wrap_i64]
    omega
  rw [e]; omega

/-- The reader lies at the head of block rb: the bytes (some, at most 2000), and the position p. -/
structure Rd (w : World) (rb : Nat) (a : Option Addr) (len cap : Nat) (zs : List Int) (p : Nat) : Prop where
  c0 : w.cell? ⟨rb, 0, none⟩ = some (.slice a len cap)
  c1 : w.cell? ⟨rb, 1, none⟩ = some (.int .i64 (p : Int))
  fz : w.frozen? ⟨rb, 1, none⟩ = false
  len2000 : len ≤ 2000
  code : len = 0 ∨ ∃ b off, a = some ⟨b, off, none⟩ ∧ b < rb ∧ ∀ i, i < len → w.cell? ⟨b, off + i, none⟩ = some (.int .u8 (zs.getD i 0))
  bytes : ∀ i, 0 ≤ zs.getD i 0 ∧ zs.getD i 0 ≤ 255
/-- .. at a position of at most B. -/
def Reader (w : World) (rb B : Nat) : Prop := ∃ a len cap zs p, p ≤ B ∧ Rd w rb a len cap zs p
theorem Reader.mono {w : World} {rb B B' : Nat} (h : Reader w rb B) (hB : B ≤ B') : Reader w rb B' := by
  obtain ⟨a, len, cap, zs, p, hp, r⟩ := h
  exact ⟨a, len, cap, zs, p, by omega, r⟩
theorem Reader.lt {w : World} {rb B : Nat} (h : Reader w rb B) : rb < w.heap.size := by
  obtain ⟨a, len, cap, zs, p, hp, r⟩ := h
  exact block_lt_of_cell r.c0

/-- What is left of a reader's call: a value with Q, the reader one step on, nothing else changed. -/
def Picks (rb B : Nat) (w : World) (Q : Value → Prop) (e : Ending) (w' : World) : Prop := ∃ v, e = .returned v ∧ Q v ∧ Reader w' rb B ∧ Keep rb w w'

theorem Rd.step {w : World} {rb : Nat} {a : Option Addr} {len cap : Nat} {zs : List Int} {p : Nat} (h : Rd w rb a len cap zs p) (k : Nat) : Rd ((w.setCell ⟨rb, 1, none⟩ (.int .i64 ((p : Int) + 1))).drewN k) rb a len cap zs (p + 1) := by
  have e1 : (w.setCell ⟨rb, 1, none⟩ (.int .i64 ((p : Int) + 1))).cell? ⟨rb, 1, none⟩ = some (.int .i64 ((p : Int) + 1)) := by
    have := h.c1
    simp [go_sem, this]
  refine ⟨?_, ?_, ?_, h.len2000, ?_, h.bytes⟩
  · have := h.c0
    simp [go_sem, this]
  · simpa using e1
  · have := h.fz
    simpa [go_sem] using this
  · rcases h.code with h0 | ⟨b, off, rfl, hne, hc⟩
    · exact .inl h0
    · refine .inr ⟨b, off, rfl, hne, fun i hi => ?_⟩
      rw [World.cell?_drewN, World.cell?_setCell_other _ _ _ _ (by intro e; injection e with e1; omega)]
      exact hc i hi

theorem tmod_bd (x n : Int) (h : 0 ≤ x) (hn : 1 ≤ n) : 0 ≤ x.tmod n ∧ x.tmod n < n := by
  rw [Int.tmod_eq_emod_of_nonneg h]
  exact ⟨Int.emod_nonneg x (by omega), Int.emod_lt_of_pos x (by omega)⟩
def InN (n : Int) (v : Value) : Prop := ∃ x : Int, v = .int .i64 x ∧ 0 ≤ x ∧ (x = 0 ∨ x < n)
theorem picks_mk {rb B B' : Nat} {w w' : World} {n x : Int} {a : Option Addr} {len cap : Nat} {zs : List Int} {p : Nat} (hr : Rd w' rb a len cap zs p) (hp : p ≤ B) (hB : B ≤ B') (hk : Keep rb w w') (h0 : 0 ≤ x) (h1 : x = 0 ∨ x < n) :
    Picks rb B' w (InN n) (.returned (.int .i64 x)) w' := ⟨_, rfl, ⟨x, rfl, h0, h1⟩, ⟨a, len, cap, zs, p, by omega, hr⟩, hk⟩

set_option maxHeartbeats 1000000 in
theorem pick_at {rb B : Nat} {w : World} {a : Option Addr} {len cap : Nat} {zs : List Int} {p : Nat} (n : Int) (hR : Rd w rb a len cap zs p) (hp : p ≤ B) (hB : B ≤ 1000000) :
    Calls Try.prog 12 #[.pointer (some ⟨rb, 0, none⟩), .int .i64 n] w (Picks rb (B + 1) w (InN n)) := by
  obtain ⟨c0, c1, fz, l2, code, bytes⟩ := hR
  have hp1 : (0 : Int) ≤ (p : Int) := by omega
  have hp2 : (p : Int) ≤ 1000000 := by omega
  have S : Hid (∀ k, Rd ((w.setCell ⟨rb, 1, none⟩ (.int .i64 ((p : Int) + 1))).drewN k) rb a len cap zs (p + 1)) := fun k => Rd.step ⟨c0, c1, fz, l2, code, bytes⟩ k
  by_cases hn : n < 1
  · go_enter Try.func12, Try.ntmps12
    go_wp2
    go_ret
    exact picks_mk (S.out 0) (by omega) (Nat.le_refl _) (keep_set _ _ _ _) (by omega) (.inl rfl)
  rcases code with rfl | ⟨b, off, rfl, hbr, hcell⟩
  · go_enter Try.func12, Try.ntmps12
    go_wp2
    go_ret
    exact picks_mk (S.out 0) (by omega) (Nat.le_refl _) (keep_set _ _ _ _) (by omega) (.inl rfl)
  by_cases hl : len = 0
  · subst hl
    go_enter Try.func12, Try.ntmps12
    go_wp2
    go_ret
    exact picks_mk (S.out 0) (by omega) (Nat.le_refl _) (keep_set _ _ _ _) (by omega) (.inl rfl)
  have hne : b ≠ rb := by omega
  have hl1 : (1 : Int) ≤ (len : Int) := by omega
  have hl0 : ((len : Int) == 0) = false := by simp; omega
  have hl2 : (len : Int) ≤ 2000 := by omega
  have hC := Lib.hid hcell
  have hBy := Lib.hid bytes
  clear hcell bytes
  by_cases hlt : p < len
  · have g0 := hC.out p hlt
    obtain ⟨y0, y1⟩ := hBy.out p
    have hlt' : (p : Int) < (len : Int) := by omega
    generalize zs.getD p 0 = y at g0 y0 y1
    have m0 := Int.emod_nonneg y (show n ≠ 0 by omega)
    have m1 := Int.emod_lt_of_pos y (show 0 < n by omega)
    go_enter Try.func12, Try.ntmps12
    go_wp2
    go_ret
    exact picks_mk (S.out 0) (by omega) (Nat.le_refl _) (keep_set _ _ _ _) (by omega) (.inr (by omega))
  · have e1 : (p : Int).tmod (len : Int) = ((p % len : Nat) : Int) := by
      rw [Int.tmod_eq_emod_of_nonneg (by omega)]; exact (Int.natCast_emod p len).symm
    have e2 : ((p : Int) * 7 + 3).tmod (len : Int) = (((p * 7 + 3) % len : Nat) : Int) := by
      rw [Int.tmod_eq_emod_of_nonneg (by omega), show (p : Int) * 7 + 3 = ((p * 7 + 3 : Nat) : Int) by omega]; exact (Int.natCast_emod _ len).symm
    have b1 : p % len < len := Nat.mod_lt _ (by omega)
    have b2 : (p * 7 + 3) % len < len := Nat.mod_lt _ (by omega)
    have e3 : (p : Int).tdiv (len : Int) = ((p / len : Nat) : Int) := by
      rw [Int.tdiv_eq_ediv_of_nonneg (by omega)]; exact (Int.natCast_ediv p len).symm
    have b3 : p / len ≤ p := Nat.div_le_self _ _
    have g1 := hC.out _ b1
    have g2 := hC.out _ b2
    obtain ⟨y0, y1⟩ := hBy.out (p % len)
    obtain ⟨z0, z1⟩ := hBy.out ((p * 7 + 3) % len)
    generalize zs.getD (p % len) 0 = y at g1 y0 y1
    generalize zs.getD ((p * 7 + 3) % len) 0 = z at g2 z0 z1
    generalize p % len = q1 at *
    generalize (p * 7 + 3) % len = q2 at *
    generalize p / len = d at *
    have k1 : (0 : Int) ≤ (q1 : Int) := by omega
    have k2 : (q1 : Int) < (len : Int) := by omega
    have k3 : (0 : Int) ≤ (q2 : Int) := by omega
    have k4 : (q2 : Int) < (len : Int) := by omega
    have k5 : (d : Int) ≤ 1000000 := by omega
    have k6 : (0 : Int) ≤ (d : Int) := by omega
    go_enter Try.func12, Try.ntmps12
    go_wp2
    go_quiet (fail)
    go_wp2
    go_ret
    refine picks_mk (S.out _) (by omega) (Nat.le_refl _) ((keep_set _ _ _ _).drewN _) (tmod_bd _ _ ?_ (by omega)).1 (.inr (tmod_bd _ _ ?_ (by omega)).2)
    · exact (xor64_bd _ _ (by omega) (by omega) (by omega) (by omega)).1
    · exact (xor64_bd _ _ (by omega) (by omega) (by omega) (by omega)).1
theorem pick {rb B : Nat} {w : World} (n : Int) (hR : Reader w rb B) (hB : B ≤ 1000000) :
    Calls Try.prog 12 #[.pointer (some ⟨rb, 0, none⟩), .int .i64 n] w (Picks rb (B + 1) w (InN n)) := by
  obtain ⟨a, len, cap, zs, p, hp, r⟩ := hR
  exact pick_at n r hp hB
def AnyBool (v : Value) : Prop := ∃ b : Bool, v = .bool b
theorem odd {rb B : Nat} {w : World} (n : Int) (hR : Reader w rb B) (hB : B ≤ 1000000) :
    Calls Try.prog 26 #[.pointer (some ⟨rb, 0, none⟩), .int .i64 n] w (Picks rb (B + 1) w AnyBool) := by
  by_cases h : 0 < n
  · go_enter Try.func26, Try.ntmps26
    go_wp2_with fail
    refine (pick _ hR hB).mono ?_
    rintro e w1 ⟨v, rfl, ⟨x, rfl, x0, x1⟩, hR1, hK1⟩
    go_wp2_with fail
    go_ret
    exact ⟨_, rfl, ⟨_, rfl⟩, hR1, hK1⟩
  · go_enter Try.func26, Try.ntmps26
    go_wp2_with fail
    go_ret
    exact ⟨_, rfl, ⟨_, rfl⟩, hR.mono (by omega), Keep.refl _ _⟩

theorem Reader.alloc {w : World} {rb B : Nat} (h : Reader w rb B) (o : Obj) : Reader (w.alloc o) rb B := by
  have hlt := h.lt
  obtain ⟨a, len, cap, zs, p, hp, c0, c1, fz, l2, code, bytes⟩ := h
  refine ⟨a, len, cap, zs, p, hp, ?_, ?_, ?_, l2, ?_, bytes⟩
  · rw [World.cell?_alloc_lt _ _ _ hlt]; exact c0
  · rw [World.cell?_alloc_lt _ _ _ hlt]; exact c1
  · rw [World.frozen?_alloc_old _ _ _ (by simp; omega)]; exact fz
  · rcases code with h0 | ⟨b, off, rfl, hne, hc⟩
    · exact .inl h0
    · refine .inr ⟨b, off, rfl, hne, fun i hi => ?_⟩
      have hb : b < w.heap.size := block_lt_of_cell (hc i hi)
      rw [World.cell?_alloc_lt _ _ _ hb]; exact hc i hi
theorem Reader.setNew {w : World} {rb B : Nat} (h : Reader w rb B) {p : Addr} (hp : rb < p.block) (v : Value) : Reader (w.setCell p v) rb B := by
  obtain ⟨a, len, cap, zs, q, hq, c0, c1, fz, l2, code, bytes⟩ := h
  have e : ∀ b o, b ≤ rb → (w.setCell p v).cell? ⟨b, o, none⟩ = w.cell? ⟨b, o, none⟩ := fun b o hb => World.cell?_setCell_other _ _ _ _ (by intro e; subst e; simp at hp; omega)
  refine ⟨a, len, cap, zs, q, hq, ?_, ?_, ?_, l2, ?_, bytes⟩
  · rw [e _ _ (Nat.le_refl _)]; exact c0
  · rw [e _ _ (Nat.le_refl _)]; exact c1
  · simpa [go_sem] using fz
  · rcases code with h0 | ⟨b, off, rfl, hne, hc⟩
    · exact .inl h0
    · exact .inr ⟨b, off, rfl, hne, fun i hi => (e _ _ (by omega)).trans (hc i hi)⟩
theorem Reader.below {w w' : World} {rb B : Nat} (h : Reader w rb B) (hb : Below w.heap.size w w') : Reader w' rb B := by
  have hlt := h.lt
  obtain ⟨a, len, cap, zs, p, hp, c0, c1, fz, l2, code, bytes⟩ := h
  refine ⟨a, len, cap, zs, p, hp, (hb.cell (p := ⟨rb, 0, none⟩) hlt).trans c0, (hb.cell (p := ⟨rb, 1, none⟩) hlt).trans c1, (hb.frozen (p := ⟨rb, 1, none⟩) hlt).trans fz, l2, ?_, bytes⟩
  rcases code with h0 | ⟨b, off, rfl, hne, hc⟩
  · exact .inl h0
  · exact .inr ⟨b, off, rfl, hne, fun i hi => (hb.cell (p := ⟨b, off + i, none⟩) (show b < w.heap.size by omega)).trans (hc i hi)⟩
theorem IsBytes.alloc {w : World} {v : Value} (h : IsBytes w v) (o : Obj) : IsBytes (w.alloc o) v := h.below ((Below.refl _ _).alloc (Nat.le_refl _) o)
def isI64 : Value → Bool | .int .i64 _ => true | _ => false
theorem ints_at {cs : Array Value} (h : cs.toList.all isI64 = true) {k : Nat} (hk : k < cs.size) : ∃ m : Int, cs[k]? = some (.int .i64 m) := by
  have hk' : k < cs.toList.length := by simpa using hk
  have := List.all_eq_true.1 h (cs.toList[k]) (List.getElem_mem hk')
  have e : cs[k]? = some cs.toList[k] := by simp [hk]
  rw [e]
  cases hv : cs.toList[k] with
  | int kd m => cases kd <;> simp [isI64, hv] at this; exact ⟨m, rfl⟩
  | _ => simp [isI64, hv] at this
/-- A number picked out of a literal list, behind the pick. -/
theorem lit_pick {rb : Nat} {w w' : World} {cs : Array Value} {t : TypeId} (hK : Keep rb (w.alloc (.cells cs t)) w') (hr : rb < w.heap.size) (h : cs.toList.all isI64 = true) {k : Nat} (hk : k < cs.size) :
    ∃ m : Int, w'.cell? ⟨w.heap.size, k, none⟩ = some (.int .i64 m) := by
  obtain ⟨m, hm⟩ := ints_at h hk
  refine ⟨m, ?_⟩
  rw [hK.cells.1 _ _ (by simp) (by omega), World.cell?_alloc_new]
  exact hm
def AnyInt (v : Value) : Prop := ∃ n : Int, v = .int .i64 n

/-- A reader that a call has made. -/
def Opens (w : World) (e : Ending) (w' : World) : Prop := ∃ rb, e = .returned (.pointer (some ⟨rb, 0, none⟩)) ∧ w.heap.size ≤ rb ∧ Reader w' rb 0 ∧ Below w.heap.size w w'
theorem l20Open {v : Value} {w : World} (h : IsBytes w v) : Calls Try.prog 10 #[v] w (Opens w) := by
  obtain ⟨a, len, cap, zs, rfl, hlc, hcap, hcode, hby⟩ := h
  unfold maxLen at hcap
  have fin : ∀ l c, l ≤ 2000 → l ≤ len → Opens w (.returned (.pointer (some ⟨w.heap.size, 0, none⟩))) (w.alloc (.cells #[.slice a l c, .int .i64 0] 49)) := by
    intro l c hl hl2
    refine ⟨_, rfl, Nat.le_refl _, ⟨a, l, c, zs, 0, Nat.le_refl _, by simp [go_sem], by simp [go_sem], by simp [go_sem], hl, ?_, hby⟩, (Below.refl _ _).alloc (Nat.le_refl _) _⟩
    rcases hcode with h0 | ⟨b, off, rfl, hc⟩
    · exact .inl (by omega)
    · by_cases h1 : l = 0
      · exact .inl h1
      · have hb : b < w.heap.size := block_lt_of_cell (hc 0 (by omega))
        refine .inr ⟨b, off, rfl, by omega, fun i hi => ?_⟩
        rw [World.cell?_alloc_lt _ _ _ hb]
        exact hc i (by omega)
  have F := Lib.hid fin
  clear fin hcode hby
  by_cases hlt : 2000 < len
  · have h2 : (2000 : Int) < (len : Int) := by omega
    have h3 : (2000 : Int) ≤ (cap : Int) := by omega
    go_enter Try.func10, Try.ntmps10
    go_wp2
    go_ret
    exact F.out _ _ (by omega) (by omega)
  · have h2 : ¬ (2000 : Int) < (len : Int) := by omega
    go_enter Try.func10, Try.ntmps10
    go_wp2
    go_ret
    exact F.out _ _ (by omega) (by omega)
end Go.Proofs.Ytlnpmanghkeieaa
