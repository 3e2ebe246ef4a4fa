/- The walks of NewMemory, WriteMemory and CopyMemory. No condition. -/
import Derived.Test.YtkkgolgmhckgoaaCloneS
import Derived.Test.YtkkgolgmhckgoaaMemRead
import Derived.StillTailTactics
namespace Go.Proofs.Ytkkgolgmhckgoaa
open Go.RowKit
set_option linter.unusedVariables false

/-- What WriteMemory answers. -/
def wrOk (ram : List Int) (rom : List (List Int)) (bank p x : Int) : Bool := memB ram rom bank && inR p 0 1023 && byteB x
def wrR (ram : List Int) (rom : List (List Int)) (bank p x : Int) : List Int := if wrOk ram rom bank p x then pokeR ram p x else []
def wrM (ram : List Int) (rom : List (List Int)) (bank p x : Int) : List (List Int) := if wrOk ram rom bank p x then rom else []
def wrB (ram : List Int) (rom : List (List Int)) (bank p x : Int) : Int := if wrOk ram rom bank p x then pokeB rom bank p x else 0
theorem own_nilV (lo hi : Nat) (w : World) : Own lo hi w (.slice none 0 0) [] := ⟨none, 0, rfl, Nat.le_refl _, Nat.zero_le _, .inl rfl⟩
theorem ownMat_nilV (lo hi : Nat) (w : World) : OwnMat lo hi w (.slice none 0 0) [] := ⟨none, 0, rfl, Nat.le_refl _, Nat.zero_le _, .inl rfl⟩
theorem ownMem_zero {lo hi : Nat} {w : World} (h : lo ≤ hi) : OwnMem lo hi w (.agg #[.slice none 0 0, .slice none 0 0, .int .i64 0]) [] [] 0 :=
  ⟨_, _, lo, lo, lo, lo, rfl, ⟨Nat.le_refl _, h, Nat.le_refl _, h, .inl (Nat.le_refl _)⟩, own_nilV _ _ _, ownMat_nilV _ _ _⟩
theorem madeMem_of {ram ram' : List Int} {rom rom' : List (List Int)} {bank bank' : Int} {w : World} {e : Ending} {w' : World} (h : MadeMem ram rom bank w e w') (h1 : ram = ram') (h2 : rom = rom') (h3 : bank = bank') : MadeMem ram' rom' bank' w e w' := by
  subst h1 h2 h3; exact h
/-- Behind a copy: the box of the variable, the copy in it. -/
theorem memIn_new {w w1 : World} {a b : Option Addr} {c d : Nat} {ram : List Int} {rom : List (List Int)} {bank : Int} {lo : Nat} {e : TypeId} (h : OwnMem lo w1.heap.size w1 (.agg #[.slice a ram.length c, .slice b rom.length d, .int .i64 bank]) ram rom bank) :
    ∃ l1 t1 l2 t2, lo ≤ l1 ∧ lo ≤ l2 ∧ t1 ≤ w1.heap.size ∧ t2 ≤ w1.heap.size ∧ ∀ L, L ≤ lo → L ≤ w1.heap.size → MemIn L (w1.alloc (.cells #[.slice a ram.length c, .slice b rom.length d, .int .i64 bank] e)) w1.heap.size ram rom bank a c b d l1 t1 l2 t2 := by
  obtain ⟨x, y, l1, t1, l2, t2, e0, ⟨a1, b1, a2, b2, sp⟩, o1, o2⟩ := h
  simp only [Value.agg.injEq, Array.mk.injEq, List.cons.injEq, and_true] at e0
  obtain ⟨rfl, rfl⟩ := e0
  refine ⟨l1, t1, l2, t2, a1, a2, b1, b2, fun L hL hL2 => ⟨by simp [go_sem], by simp [go_sem], by simp [go_sem], by simp [go_sem], hL2, by omega, by omega, by simp; omega, by simp; omega, sp, .inr b1, .inr b2, ?_, ?_⟩⟩
  · exact o1.agree ((Agree.refl _ _ _).alloc b1 _)
  · exact o2.agree ((Agree.refl _ _ _).alloc b2 _)
theorem wr_no {ram : List Int} {rom : List (List Int)} {bank p x : Int} (h : wrOk ram rom bank p x = false) : wrR ram rom bank p x = [] ∧ wrM ram rom bank p x = [] ∧ wrB ram rom bank p x = 0 := by simp [wrR, wrM, wrB, h]
theorem wr_yes {ram : List Int} {rom : List (List Int)} {bank p x : Int} (h : wrOk ram rom bank p x = true) : wrR ram rom bank p x = pokeR ram p x ∧ wrM ram rom bank p x = rom ∧ wrB ram rom bank p x = pokeB rom bank p x := by simp [wrR, wrM, wrB, h]
theorem sizes_of {ram : List Int} {rom : List (List Int)} {bank : Int} (h : memB ram rom bank = true) : ram.length ≤ 1000000000 ∧ rom.length ≤ 1048576 ∧ sumLen rom ≤ 1000000000 := by
  have hs := shp_of h
  have h1 := hs.r
  have h4 := hs.n4
  refine ⟨by omega, by omega, ?_⟩
  have key : ∀ zss : List (List Int), (∀ z ∈ zss, z.length = 256) → sumLen zss = 256 * zss.length := by
    intro zss
    induction zss with
    | nil => intro _; rfl
    | cons z r ih =>
      intro hz
      have := ih (fun y hy => hz y (List.mem_cons_of_mem _ hy))
      have h0 := hz z (List.mem_cons_self ..)
      simp only [sumLen, List.map_cons, List.sum_cons, List.length_cons] at this ⊢
      omega
  have := key rom (fun z hz => by
    obtain ⟨i, hi, rfl⟩ := List.getElem_of_mem hz
    have := hs.row i hi
    rwa [List.getD_eq_getElem?_getD, List.getElem?_eq_getElem hi] at this)
  omega
theorem bcellN {n : Nat} {W w1 : World} (hb : Below n W w1) : (∀ b o, b < n → w1.cell? ⟨b, o, none⟩ = W.cell? ⟨b, o, none⟩) ∧ (∀ b o, b < n → w1.frozen? ⟨b, o, none⟩ = W.frozen? ⟨b, o, none⟩) :=
  ⟨fun b o h => hb.cell (p := ⟨b, o, none⟩) h, fun b o h => hb.frozen (p := ⟨b, o, none⟩) h⟩
set_option maxHeartbeats 1048576 in
theorem impl_WriteMemory {v : Value} {ram : List Int} {rom : List (List Int)} {bank : Int} (p x : Int) {w : World} (h : MemV w v ram rom bank) :
    Calls Try.prog 31 #[v, .int .i64 p, .int .i64 x] w (MadeMem (wrR ram rom bank p x) (wrM ram rom bank p x) (wrB ram rom bank p x) w) := by
  have H := Lib.hid h
  obtain ⟨a, c, b, d, rfl, k1, k2, k3, k4⟩ := memV_shape h
  clear h
  cases hv : memB ram rom bank
  · obtain ⟨e1, e2, e3⟩ := wr_no (ram := ram) (rom := rom) (bank := bank) (p := p) (x := x) (by simp [wrOk, hv])
    rw [e1, e2, e3]
    go_enter Try.func31, Try.ntmps31
    go_wp2_with fail
    refine (calls_eqv (impl_MemoryValid (H.out.below (by go_grown))) hv).mono ?_
    rintro e w1 ⟨rfl, hb1⟩
    obtain ⟨hc1, hf1⟩ := bcell hb1
    have hs1 : w.heap.size + 2 ≤ w1.heap.size := Nat.le_trans (by go_size) hb1.size
    have z1_0 : w.heap.size < w1.heap.size := Nat.lt_of_lt_of_le (by go_size) hb1.size
    have z1_1 : w.heap.size + 1 < w1.heap.size := Nat.lt_of_lt_of_le (by go_size) hb1.size
    have hB1 : Hid (Below w.heap.size w w1) := below_via hb1 (by repeat (first | with_reducible exact Below.refl _ _ | with_reducible refine below_via (by assumption) ?_ (by go_size) | with_reducible refine below_within (by assumption) ?_ (by go_size) (by omega) | with_reducible refine Below.alloc ?_ (by go_size) _ | with_reducible refine Below.setCell ?_ (by go_size) _ | with_reducible refine Below.drew ?_)) (by go_size)
    go_wp2_with fail
    obtain ⟨r1, r2, r3, r4, r5, r6⟩ := six_below hb1 (six_lit (x := .slice none 0 0) (y := .slice none 0 0) (z := .int .i64 0) (b := w.heap.size + 1) (by simp))
    refine bodyPost_ret (v := .agg #[.slice none 0 0, .slice none 0 0, .int .i64 0]) (by simp [results, Try.results31, go_sem, r1, r2, r3]) rfl ⟨_, rfl, ownMem_zero (by simp only [size_set]; omega), by repeat (first | with_reducible exact Below.refl _ _ | with_reducible refine below_via (by assumption) ?_ (by go_size) | with_reducible refine below_within (by assumption) ?_ (by go_size) (by omega) | with_reducible refine Below.alloc ?_ (by go_size) _ | with_reducible refine Below.setCell ?_ (by go_size) _ | with_reducible refine Below.drew ?_)⟩
  cases hi : inR p 0 1023
  · obtain ⟨e1, e2, e3⟩ := wr_no (ram := ram) (rom := rom) (bank := bank) (p := p) (x := x) (by simp [wrOk, hi])
    rw [e1, e2, e3]
    go_enter Try.func31, Try.ntmps31
    go_wp2_with fail
    refine (calls_eqv (impl_MemoryValid (H.out.below (by go_grown))) hv).mono ?_
    rintro e w1 ⟨rfl, hb1⟩
    obtain ⟨hc1, hf1⟩ := bcell hb1
    have hs1 : w.heap.size + 2 ≤ w1.heap.size := Nat.le_trans (by go_size) hb1.size
    have z1_0 : w.heap.size < w1.heap.size := Nat.lt_of_lt_of_le (by go_size) hb1.size
    have z1_1 : w.heap.size + 1 < w1.heap.size := Nat.lt_of_lt_of_le (by go_size) hb1.size
    have hB1 : Hid (Below w.heap.size w w1) := below_via hb1 (by repeat (first | with_reducible exact Below.refl _ _ | with_reducible refine below_via (by assumption) ?_ (by go_size) | with_reducible refine below_within (by assumption) ?_ (by go_size) (by omega) | with_reducible refine Below.alloc ?_ (by go_size) _ | with_reducible refine Below.setCell ?_ (by go_size) _ | with_reducible refine Below.drew ?_)) (by go_size)
    go_wp2_with fail
    refine (calls_eqv (impl_within _ _ _ _) hi).mono ?_
    rintro e w' ⟨rfl, rfl⟩
    go_wp2_with fail
    obtain ⟨r1, r2, r3, r4, r5, r6⟩ := six_below hb1 (six_lit (x := .slice none 0 0) (y := .slice none 0 0) (z := .int .i64 0) (b := w.heap.size + 1) (by simp))
    refine bodyPost_ret (v := .agg #[.slice none 0 0, .slice none 0 0, .int .i64 0]) (by simp [results, Try.results31, go_sem, r1, r2, r3]) rfl ⟨_, rfl, ownMem_zero (by simp only [size_set]; omega), by repeat (first | with_reducible exact Below.refl _ _ | with_reducible refine below_via (by assumption) ?_ (by go_size) | with_reducible refine below_within (by assumption) ?_ (by go_size) (by omega) | with_reducible refine Below.alloc ?_ (by go_size) _ | with_reducible refine Below.setCell ?_ (by go_size) _ | with_reducible refine Below.drew ?_)⟩
  cases hx : byteB x
  · obtain ⟨e1, e2, e3⟩ := wr_no (ram := ram) (rom := rom) (bank := bank) (p := p) (x := x) (by simp [wrOk, hx])
    rw [e1, e2, e3]
    go_enter Try.func31, Try.ntmps31
    go_wp2_with fail
    refine (calls_eqv (impl_MemoryValid (H.out.below (by go_grown))) hv).mono ?_
    rintro e w1 ⟨rfl, hb1⟩
    obtain ⟨hc1, hf1⟩ := bcell hb1
    have hs1 : w.heap.size + 2 ≤ w1.heap.size := Nat.le_trans (by go_size) hb1.size
    have z1_0 : w.heap.size < w1.heap.size := Nat.lt_of_lt_of_le (by go_size) hb1.size
    have z1_1 : w.heap.size + 1 < w1.heap.size := Nat.lt_of_lt_of_le (by go_size) hb1.size
    have hB1 : Hid (Below w.heap.size w w1) := below_via hb1 (by repeat (first | with_reducible exact Below.refl _ _ | with_reducible refine below_via (by assumption) ?_ (by go_size) | with_reducible refine below_within (by assumption) ?_ (by go_size) (by omega) | with_reducible refine Below.alloc ?_ (by go_size) _ | with_reducible refine Below.setCell ?_ (by go_size) _ | with_reducible refine Below.drew ?_)) (by go_size)
    go_wp2_with fail
    refine (calls_eqv (impl_within _ _ _ _) hi).mono ?_
    rintro e w' ⟨rfl, rfl⟩
    go_wp2_with fail
    refine (calls_eqv (impl_isByte _ _) hx).mono ?_
    rintro e w' ⟨rfl, rfl⟩
    go_wp2_with fail
    obtain ⟨r1, r2, r3, r4, r5, r6⟩ := six_below hb1 (six_lit (x := .slice none 0 0) (y := .slice none 0 0) (z := .int .i64 0) (b := w.heap.size + 1) (by simp))
    refine bodyPost_ret (v := .agg #[.slice none 0 0, .slice none 0 0, .int .i64 0]) (by simp [results, Try.results31, go_sem, r1, r2, r3]) rfl ⟨_, rfl, ownMem_zero (by simp only [size_set]; omega), by repeat (first | with_reducible exact Below.refl _ _ | with_reducible refine below_via (by assumption) ?_ (by go_size) | with_reducible refine below_within (by assumption) ?_ (by go_size) (by omega) | with_reducible refine Below.alloc ?_ (by go_size) _ | with_reducible refine Below.setCell ?_ (by go_size) _ | with_reducible refine Below.drew ?_)⟩
  · obtain ⟨e1, e2, e3⟩ := wr_yes (ram := ram) (rom := rom) (bank := bank) (p := p) (x := x) (by simp [wrOk, hv, hi, hx])
    rw [e1, e2, e3]
    obtain ⟨i0, i1⟩ := inR_iff.1 hi
    obtain ⟨x0, x1⟩ := byteB_iff.1 hx
    have hs := shp_of hv
    obtain ⟨z1, z2, z3⟩ := sizes_of hv
    go_enter Try.func31, Try.ntmps31
    go_wp2_with fail
    refine (calls_eqv (impl_MemoryValid (H.out.below (by go_grown))) hv).mono ?_
    rintro e w1 ⟨rfl, hb1⟩
    obtain ⟨hc1, hf1⟩ := bcell hb1
    have hs1 : w.heap.size + 2 ≤ w1.heap.size := Nat.le_trans (by go_size) hb1.size
    have z1_0 : w.heap.size < w1.heap.size := Nat.lt_of_lt_of_le (by go_size) hb1.size
    have z1_1 : w.heap.size + 1 < w1.heap.size := Nat.lt_of_lt_of_le (by go_size) hb1.size
    have hB1 : Hid (Below w.heap.size w w1) := below_via hb1 (by repeat (first | with_reducible exact Below.refl _ _ | with_reducible refine below_via (by assumption) ?_ (by go_size) | with_reducible refine below_within (by assumption) ?_ (by go_size) (by omega) | with_reducible refine Below.alloc ?_ (by go_size) _ | with_reducible refine Below.setCell ?_ (by go_size) _ | with_reducible refine Below.drew ?_)) (by go_size)
    go_wp2_with fail
    refine (calls_eqv (impl_within _ _ _ _) hi).mono ?_
    rintro e w' ⟨rfl, rfl⟩
    go_wp2_with fail
    refine (calls_eqv (impl_isByte _ _) hx).mono ?_
    rintro e w' ⟨rfl, rfl⟩
    go_wp2_with fail
    refine (impl_copyMemory (H.out.below hB1.out) z1 z2 z3).mono ?_
    rintro e w2 ⟨v2, rfl, o2, hb2⟩
    obtain ⟨hc2, hf2⟩ := bcell hb2
    have hs2 : w1.heap.size + 0 ≤ w2.heap.size := Nat.le_trans (by go_size) hb2.size
    have z2_0 : w.heap.size < w2.heap.size := Nat.lt_of_lt_of_le (by go_size) hb2.size
    have z2_1 : w.heap.size + 1 < w2.heap.size := Nat.lt_of_lt_of_le (by go_size) hb2.size
    have hB2 : Hid (Below w.heap.size w w2) := below_via hb2 (by repeat (first | with_reducible exact Below.refl _ _ | with_reducible refine below_via (by assumption) ?_ (by go_size) | with_reducible refine below_within (by assumption) ?_ (by go_size) (by omega) | with_reducible refine Below.alloc ?_ (by go_size) _ | with_reducible refine Below.setCell ?_ (by go_size) _ | with_reducible refine Below.drew ?_)) (by go_size)
    have O2 := Lib.hid o2
    obtain ⟨a2, c2, b2, d2, rfl, q1, q2, q3, q4⟩ := memV_shape O2.out.mem
    clear o2
    obtain ⟨l1, t1, l2, t2, m1, m2, m3, m4, hM'⟩ := memIn_new (e := 37) (w := w) O2.out
    have hM := Lib.hid (hM' w1.heap.size (by simp) (by omega))
    clear hM'
    go_wp2_with fail
    refine (impl_poke hM.out hs i0 i1 x0 x1).mono ?_
    rintro e w3 ⟨rfl, hm3, hb3⟩
    obtain ⟨hc3, hf3⟩ := bcellN hb3
    have g0 := hm3.c0
    have g1 := hm3.c1
    have g2 := hm3.c2
    have M3 := Lib.hid hm3
    clear hm3
    have hs3 := hb3.size
    have hlt3 : w.heap.size + 1 < w1.heap.size := by omega
    obtain ⟨r1, r2, r3, r4, r5, r6⟩ := six_be hb3 (six_alloc _ (six_below hb2 (six_below hb1 (six_lit (x := .slice none 0 0) (y := .slice none 0 0) (z := .int .i64 0) (b := w.heap.size + 1) (by simp))))) hlt3
    go_wp2_with fail
    refine bodyPost_ret (v := .agg #[.slice a2 (pokeR ram p x).length c2, .slice b2 rom.length d2, .int .i64 (pokeB rom bank p x)]) (by simp [results, Try.results31, go_sem, r1, r2, r3]) rfl ⟨_, rfl, ?_, ?_⟩
    · exact ((M3.out.ownMem (lo := w1.heap.size) (hi := w3.heap.size) (by omega) (by omega) M3.out.s1 M3.out.s2).agree (by (repeat (first | assumption | with_reducible exact Agree.refl _ _ _ | with_reducible refine agree_below (by assumption) ?_ (by first | omega | go_size) | with_reducible refine agree_within (by assumption) ?_ (by first | omega | go_size) (by omega) | with_reducible refine Agree.alloc ?_ (by first | omega | go_size) _ | with_reducible refine Agree.setCell ?_ (by first | omega | (dsimp only; omega)) _ | with_reducible refine Agree.drew ?_)))).wide (by omega) (by simp only [size_set]; exact Nat.le_refl _)
    · repeat (with_reducible refine Below.setCell ?_ (by show w.heap.size ≤ w.heap.size + 1; omega) _)
      exact (hB2.out.alloc (by omega) _).trans (hb3.mono (by omega))
set_option maxHeartbeats 1048576 in
theorem spec_WriteMemory {v : Value} {ram : List Int} {rom : List (List Int)} {bank : Int} (p x : Int) {w : World} (h : MemV w v ram rom bank) :
    Calls Try.prog 32 #[v, .int .i64 p, .int .i64 x] w (MadeMem (wrR ram rom bank p x) (wrM ram rom bank p x) (wrB ram rom bank p x) w) := by
  have H := Lib.hid h
  obtain ⟨a, c, b, d, rfl, k1, k2, k3, k4⟩ := memV_shape h
  clear h
  cases hv : memB ram rom bank
  · obtain ⟨e1, e2, e3⟩ := wr_no (ram := ram) (rom := rom) (bank := bank) (p := p) (x := x) (by simp [wrOk, hv])
    rw [e1, e2, e3]
    go_enter Try.func32, Try.ntmps32
    go_wp2_with fail
    refine (calls_eqv (spec_MemoryValid (H.out.below (by go_grown))) hv).mono ?_
    rintro e w1 ⟨rfl, hb1⟩
    obtain ⟨hc1, hf1⟩ := bcell hb1
    have hs1 : w.heap.size + 2 ≤ w1.heap.size := Nat.le_trans (by go_size) hb1.size
    have z1_0 : w.heap.size < w1.heap.size := Nat.lt_of_lt_of_le (by go_size) hb1.size
    have z1_1 : w.heap.size + 1 < w1.heap.size := Nat.lt_of_lt_of_le (by go_size) hb1.size
    have hB1 : Hid (Below w.heap.size w w1) := below_via hb1 (by repeat (first | with_reducible exact Below.refl _ _ | with_reducible refine below_via (by assumption) ?_ (by go_size) | with_reducible refine below_within (by assumption) ?_ (by go_size) (by omega) | with_reducible refine Below.alloc ?_ (by go_size) _ | with_reducible refine Below.setCell ?_ (by go_size) _ | with_reducible refine Below.drew ?_)) (by go_size)
    go_wp2_with fail
    obtain ⟨r1, r2, r3, r4, r5, r6⟩ := six_below hb1 (six_lit (x := .slice none 0 0) (y := .slice none 0 0) (z := .int .i64 0) (b := w.heap.size + 1) (by simp))
    refine bodyPost_ret (v := .agg #[.slice none 0 0, .slice none 0 0, .int .i64 0]) (by simp [results, Try.results32, go_sem, r1, r2, r3]) rfl ⟨_, rfl, ownMem_zero (by simp only [size_set]; omega), by repeat (first | with_reducible exact Below.refl _ _ | with_reducible refine below_via (by assumption) ?_ (by go_size) | with_reducible refine below_within (by assumption) ?_ (by go_size) (by omega) | with_reducible refine Below.alloc ?_ (by go_size) _ | with_reducible refine Below.setCell ?_ (by go_size) _ | with_reducible refine Below.drew ?_)⟩
  cases hi : inR p 0 1023
  · obtain ⟨e1, e2, e3⟩ := wr_no (ram := ram) (rom := rom) (bank := bank) (p := p) (x := x) (by simp [wrOk, hi])
    rw [e1, e2, e3]
    go_enter Try.func32, Try.ntmps32
    go_wp2_with fail
    refine (calls_eqv (spec_MemoryValid (H.out.below (by go_grown))) hv).mono ?_
    rintro e w1 ⟨rfl, hb1⟩
    obtain ⟨hc1, hf1⟩ := bcell hb1
    have hs1 : w.heap.size + 2 ≤ w1.heap.size := Nat.le_trans (by go_size) hb1.size
    have z1_0 : w.heap.size < w1.heap.size := Nat.lt_of_lt_of_le (by go_size) hb1.size
    have z1_1 : w.heap.size + 1 < w1.heap.size := Nat.lt_of_lt_of_le (by go_size) hb1.size
    have hB1 : Hid (Below w.heap.size w w1) := below_via hb1 (by repeat (first | with_reducible exact Below.refl _ _ | with_reducible refine below_via (by assumption) ?_ (by go_size) | with_reducible refine below_within (by assumption) ?_ (by go_size) (by omega) | with_reducible refine Below.alloc ?_ (by go_size) _ | with_reducible refine Below.setCell ?_ (by go_size) _ | with_reducible refine Below.drew ?_)) (by go_size)
    go_wp2_with fail
    refine (calls_eqv (spec_l1In _ _ _ _) hi).mono ?_
    rintro e w' ⟨rfl, rfl⟩
    go_wp2_with fail
    obtain ⟨r1, r2, r3, r4, r5, r6⟩ := six_below hb1 (six_lit (x := .slice none 0 0) (y := .slice none 0 0) (z := .int .i64 0) (b := w.heap.size + 1) (by simp))
    refine bodyPost_ret (v := .agg #[.slice none 0 0, .slice none 0 0, .int .i64 0]) (by simp [results, Try.results32, go_sem, r1, r2, r3]) rfl ⟨_, rfl, ownMem_zero (by simp only [size_set]; omega), by repeat (first | with_reducible exact Below.refl _ _ | with_reducible refine below_via (by assumption) ?_ (by go_size) | with_reducible refine below_within (by assumption) ?_ (by go_size) (by omega) | with_reducible refine Below.alloc ?_ (by go_size) _ | with_reducible refine Below.setCell ?_ (by go_size) _ | with_reducible refine Below.drew ?_)⟩
  cases hx : byteB x
  · obtain ⟨e1, e2, e3⟩ := wr_no (ram := ram) (rom := rom) (bank := bank) (p := p) (x := x) (by simp [wrOk, hx])
    rw [e1, e2, e3]
    go_enter Try.func32, Try.ntmps32
    go_wp2_with fail
    refine (calls_eqv (spec_MemoryValid (H.out.below (by go_grown))) hv).mono ?_
    rintro e w1 ⟨rfl, hb1⟩
    obtain ⟨hc1, hf1⟩ := bcell hb1
    have hs1 : w.heap.size + 2 ≤ w1.heap.size := Nat.le_trans (by go_size) hb1.size
    have z1_0 : w.heap.size < w1.heap.size := Nat.lt_of_lt_of_le (by go_size) hb1.size
    have z1_1 : w.heap.size + 1 < w1.heap.size := Nat.lt_of_lt_of_le (by go_size) hb1.size
    have hB1 : Hid (Below w.heap.size w w1) := below_via hb1 (by repeat (first | with_reducible exact Below.refl _ _ | with_reducible refine below_via (by assumption) ?_ (by go_size) | with_reducible refine below_within (by assumption) ?_ (by go_size) (by omega) | with_reducible refine Below.alloc ?_ (by go_size) _ | with_reducible refine Below.setCell ?_ (by go_size) _ | with_reducible refine Below.drew ?_)) (by go_size)
    go_wp2_with fail
    refine (calls_eqv (spec_l1In _ _ _ _) hi).mono ?_
    rintro e w' ⟨rfl, rfl⟩
    go_wp2_with fail
    refine (calls_eqv (spec_l1Byte _ _) hx).mono ?_
    rintro e w' ⟨rfl, rfl⟩
    go_wp2_with fail
    obtain ⟨r1, r2, r3, r4, r5, r6⟩ := six_below hb1 (six_lit (x := .slice none 0 0) (y := .slice none 0 0) (z := .int .i64 0) (b := w.heap.size + 1) (by simp))
    refine bodyPost_ret (v := .agg #[.slice none 0 0, .slice none 0 0, .int .i64 0]) (by simp [results, Try.results32, go_sem, r1, r2, r3]) rfl ⟨_, rfl, ownMem_zero (by simp only [size_set]; omega), by repeat (first | with_reducible exact Below.refl _ _ | with_reducible refine below_via (by assumption) ?_ (by go_size) | with_reducible refine below_within (by assumption) ?_ (by go_size) (by omega) | with_reducible refine Below.alloc ?_ (by go_size) _ | with_reducible refine Below.setCell ?_ (by go_size) _ | with_reducible refine Below.drew ?_)⟩
  · obtain ⟨e1, e2, e3⟩ := wr_yes (ram := ram) (rom := rom) (bank := bank) (p := p) (x := x) (by simp [wrOk, hv, hi, hx])
    rw [e1, e2, e3]
    obtain ⟨i0, i1⟩ := inR_iff.1 hi
    obtain ⟨x0, x1⟩ := byteB_iff.1 hx
    have hs := shp_of hv
    obtain ⟨z1, z2, z3⟩ := sizes_of hv
    go_enter Try.func32, Try.ntmps32
    go_wp2_with fail
    refine (calls_eqv (spec_MemoryValid (H.out.below (by go_grown))) hv).mono ?_
    rintro e w1 ⟨rfl, hb1⟩
    obtain ⟨hc1, hf1⟩ := bcell hb1
    have hs1 : w.heap.size + 2 ≤ w1.heap.size := Nat.le_trans (by go_size) hb1.size
    have z1_0 : w.heap.size < w1.heap.size := Nat.lt_of_lt_of_le (by go_size) hb1.size
    have z1_1 : w.heap.size + 1 < w1.heap.size := Nat.lt_of_lt_of_le (by go_size) hb1.size
    have hB1 : Hid (Below w.heap.size w w1) := below_via hb1 (by repeat (first | with_reducible exact Below.refl _ _ | with_reducible refine below_via (by assumption) ?_ (by go_size) | with_reducible refine below_within (by assumption) ?_ (by go_size) (by omega) | with_reducible refine Below.alloc ?_ (by go_size) _ | with_reducible refine Below.setCell ?_ (by go_size) _ | with_reducible refine Below.drew ?_)) (by go_size)
    go_wp2_with fail
    refine (calls_eqv (spec_l1In _ _ _ _) hi).mono ?_
    rintro e w' ⟨rfl, rfl⟩
    go_wp2_with fail
    refine (calls_eqv (spec_l1Byte _ _) hx).mono ?_
    rintro e w' ⟨rfl, rfl⟩
    go_wp2_with fail
    refine (spec_l2Copy (H.out.below hB1.out) z1 z2 z3).mono ?_
    rintro e w2 ⟨v2, rfl, o2, hb2⟩
    obtain ⟨hc2, hf2⟩ := bcell hb2
    have hs2 : w1.heap.size + 0 ≤ w2.heap.size := Nat.le_trans (by go_size) hb2.size
    have z2_0 : w.heap.size < w2.heap.size := Nat.lt_of_lt_of_le (by go_size) hb2.size
    have z2_1 : w.heap.size + 1 < w2.heap.size := Nat.lt_of_lt_of_le (by go_size) hb2.size
    have hB2 : Hid (Below w.heap.size w w2) := below_via hb2 (by repeat (first | with_reducible exact Below.refl _ _ | with_reducible refine below_via (by assumption) ?_ (by go_size) | with_reducible refine below_within (by assumption) ?_ (by go_size) (by omega) | with_reducible refine Below.alloc ?_ (by go_size) _ | with_reducible refine Below.setCell ?_ (by go_size) _ | with_reducible refine Below.drew ?_)) (by go_size)
    have O2 := Lib.hid o2
    obtain ⟨a2, c2, b2, d2, rfl, q1, q2, q3, q4⟩ := memV_shape O2.out.mem
    clear o2
    obtain ⟨l1, t1, l2, t2, m1, m2, m3, m4, hM'⟩ := memIn_new (e := 37) (w := w) O2.out
    have hM := Lib.hid (hM' w1.heap.size (by simp) (by omega))
    clear hM'
    go_wp2_with fail
    refine (spec_l2Write hM.out hs i0 i1 x0 x1).mono ?_
    rintro e w3 ⟨rfl, hm3, hb3⟩
    obtain ⟨hc3, hf3⟩ := bcellN hb3
    have g0 := hm3.c0
    have g1 := hm3.c1
    have g2 := hm3.c2
    have M3 := Lib.hid hm3
    clear hm3
    have hs3 := hb3.size
    have hlt3 : w.heap.size + 1 < w1.heap.size := by omega
    obtain ⟨r1, r2, r3, r4, r5, r6⟩ := six_be hb3 (six_alloc _ (six_below hb2 (six_below hb1 (six_lit (x := .slice none 0 0) (y := .slice none 0 0) (z := .int .i64 0) (b := w.heap.size + 1) (by simp))))) hlt3
    go_wp2_with fail
    refine bodyPost_ret (v := .agg #[.slice a2 (pokeR ram p x).length c2, .slice b2 rom.length d2, .int .i64 (pokeB rom bank p x)]) (by simp [results, Try.results32, go_sem, r1, r2, r3]) rfl ⟨_, rfl, ?_, ?_⟩
    · exact ((M3.out.ownMem (lo := w1.heap.size) (hi := w3.heap.size) (by omega) (by omega) M3.out.s1 M3.out.s2).agree (by (repeat (first | assumption | with_reducible exact Agree.refl _ _ _ | with_reducible refine agree_below (by assumption) ?_ (by first | omega | go_size) | with_reducible refine agree_within (by assumption) ?_ (by first | omega | go_size) (by omega) | with_reducible refine Agree.alloc ?_ (by first | omega | go_size) _ | with_reducible refine Agree.setCell ?_ (by first | omega | (dsimp only; omega)) _ | with_reducible refine Agree.drew ?_)))).wide (by omega) (by simp only [size_set]; exact Nat.le_refl _)
    · repeat (with_reducible refine Below.setCell ?_ (by show w.heap.size ≤ w.heap.size + 1; omega) _)
      exact (hB2.out.alloc (by omega) _).trans (hb3.mono (by omega))
/-- What NewMemory answers. -/
def zeros : List Int := List.replicate 256 0
def nwOk (rom : List (List Int)) : Bool := memB zeros rom 0
def nwR (rom : List (List Int)) : List Int := if nwOk rom then zeros else []
def nwM (rom : List (List Int)) : List (List Int) := if nwOk rom then rom else []
theorem zeros_len : zeros.length = 256 := List.length_replicate ..
theorem zeros_at (i : Nat) : zeros.getD i 0 = 0 := by
  unfold zeros
  rw [List.getD_eq_getElem?_getD, List.getElem?_replicate]
  split <;> rfl
theorem own_made {w : World} {b : Nat} (h : w.rowIs b 3 256 (fun _ => .int .i64 0)) : Own b (b + 1) w (.slice (some ⟨b, 0, none⟩) 256 256) zeros :=
  ⟨_, 256, by rw [zeros_len], by rw [zeros_len]; exact Nat.le_refl _, by decide, .inr ⟨b, 0, rfl, Nat.le_refl _, Nat.lt_succ_self _, fun i hi => by
    rw [zeros_len] at hi
    rw [Nat.zero_add]
    exact ⟨by rw [h.cell hi, zeros_at], h.frozen i⟩⟩⟩
theorem rowIs_new {W : World} {b : Nat} (he : b = W.heap.size) : (W.alloc (.cells (madeCells #[.int .i64 0] 256) 3)).rowIs b 3 256 (fun _ => .int .i64 0) := by
  subst he; exact World.rowIs_made W (.int .i64 0) 256 3
theorem rowIs_below {W w' : World} {b e n : Nat} {f : Nat → Value} (hb : Below W.heap.size W w') (h : W.rowIs b e n f) : w'.rowIs b e n f := h.of_block (hb.block b h.lt)
theorem rowIs_sc {W : World} {b e n q i : Nat} {f : Nat → Value} {v : Value} (h : W.rowIs b e n f) (hn : b ≠ q) : (W.setCell ⟨q, i, none⟩ v).rowIs b e n f := h.setOther hn v
theorem rowIs_alloc {W : World} {b e n : Nat} {f : Nat → Value} (o : Obj) (h : W.rowIs b e n f) : (W.alloc o).rowIs b e n f := h.alloc o
theorem rowIs_drew {W : World} {b e n : Nat} {f : Nat → Value} (h : W.rowIs b e n f) : W.drew.rowIs b e n f := h
structure BegunN (X wx : World) (O : Nat) (a1 : Option Addr) (c1 : Nat) (b1 : Option Addr) (d1 : Nat) (rom : List (List Int)) (l1 t1 l2 t2 : Nat) : Prop where
  box : Six wx O (.slice a1 256 c1) (.slice b1 rom.length d1) (.int .i64 0)
  o : Own l1 t1 wx (.slice a1 256 c1) zeros
  m : OwnMat l2 t2 wx (.slice b1 rom.length d1) rom
  p1 : X.heap.size ≤ l1
  p2 : X.heap.size ≤ l2
  q1 : t1 ≤ wx.heap.size
  q2 : t2 ≤ wx.heap.size
  sep : t1 ≤ l2 ∨ t2 ≤ l1
  lt : X.heap.size ≤ O
  be : Below X.heap.size X wx
theorem begunN_mk {X wx : World} {O m : Nat} {b1 : Option Addr} {d1 l2 t2 : Nat} {rom : List (List Int)} (box : Six wx O (.slice (some ⟨m, 0, none⟩) 256 256) (.slice b1 rom.length d1) (.int .i64 0)) (row : wx.rowIs m 3 256 (fun _ => .int .i64 0)) (mat : OwnMat l2 t2 wx (.slice b1 rom.length d1) rom)
    (p1 : X.heap.size ≤ m) (p2 : X.heap.size ≤ l2) (q2 : t2 ≤ wx.heap.size) (sep : m + 1 ≤ l2 ∨ t2 ≤ m) (lt : X.heap.size ≤ O) (be : Below X.heap.size X wx) :
    ∃ O' a1 c1 b1 d1 l1 t1 l2 t2, Value.pointer (some ⟨O, 0, none⟩) = .pointer (some ⟨O', 0, none⟩) ∧ BegunN X wx O' a1 c1 b1 d1 rom l1 t1 l2 t2 :=
  ⟨_, _, _, _, _, m, m + 1, _, _, rfl, box, own_made row, mat, p1, p2, row.lt, q2, sep, lt, be⟩
/-- .. and the zero value where there is no such memory. -/
def MadeMemZ (rom : List (List Int)) (w : World) (e : Ending) (w' : World) : Prop := ∃ v, e = .returned v ∧ OwnMem w.heap.size w'.heap.size w' v (nwR rom) (nwM rom) 0 ∧ Below w.heap.size w w' ∧ (nwOk rom = false → v = .agg #[.slice none 0 0, .slice none 0 0, .int .i64 0])
set_option maxHeartbeats 4000000 in
set_option maxRecDepth 20000 in
theorem impl_NewMemoryZ {v : Value} {rom : List (List Int)} {w : World} (h : Mat w v rom) (z2 : rom.length ≤ 1048576) (z3 : sumLen rom ≤ 1000000000) :
    Calls Try.prog 81 #[v] w (MadeMemZ rom w) := by
  have H := Lib.hid h
  obtain ⟨a, c, rfl, k1, k2⟩ := mat_shape h
  clear h
  have hmk : ∀ W : World, (Instr.makeSlice 23 (.int .i64 256) (.int .i64 256)).run Try.prog W = .ok (.slice (some ⟨W.heap.size, 0, none⟩) 256 256) (W.alloc (.cells (madeCells #[.int .i64 0] 256) 3)) := fun W => run_make_row' (P := Try.prog) 23 3 (.int .i64 0) 8 Try.underlying23 infoInt rfl .i64 .i64 256 (by omega) (by omega) W
  go_enter Try.func81, Try.ntmps81
  go_upto_region 1 with fail
  have hT : Six (w.alloc (.cells #[.slice none 0 0, .slice none 0 0, .int .i64 0] 37)) w.heap.size (.slice none 0 0) (.slice none 0 0) (.int .i64 0) := six_lit rfl
  have hXb : Hid (Below w.heap.size w (w.alloc (.cells #[.slice none 0 0, .slice none 0 0, .int .i64 0] 37))) := (Below.refl _ _).alloc (Nat.le_refl _) _
  have hXs : (w.alloc (.cells #[.slice none 0 0, .slice none 0 0, .int .i64 0] 37)).heap.size = w.heap.size + 1 := by simp
  generalize w.alloc (.cells #[.slice none 0 0, .slice none 0 0, .int .i64 0] 37) = X at *
  have hXl : w.heap.size < X.heap.size := by omega
  clear hXs
  go_cut [3] (fun s3 wx => ∃ O a1 c1 b1 d1 l1 t1 l2 t2, s3 = .pointer (some ⟨O, 0, none⟩) ∧ BegunN X wx O a1 c1 b1 d1 rom l1 t1 l2 t2)
  case first =>
    go_region_with (first
      | (go_at_call 98; refine (impl_copyRows (H.out.below (hXb.out.trans ((show Below X.heap.size X _ from by repeat (first | with_reducible exact Below.refl _ _ | with_reducible refine below_via (by assumption) ?_ (by go_size) | with_reducible refine below_within (by assumption) ?_ (by go_size) (by omega) | with_reducible refine Below.alloc ?_ (by go_size) _ | with_reducible refine Below.setCell ?_ (by go_size) _ | with_reducible refine Below.drew ?_)).mono (Nat.le_of_lt hXl)))) z2 z3).mono ?_; rintro e w2 ⟨v2, rfl, o2, hb2⟩; obtain ⟨hc2, hf2⟩ := bcell hb2; have O2 := Lib.hid o2; clear o2; obtain ⟨a2, c2, rfl, _, _⟩ := mat_shape O2.out.mat; (have hz2 := hb2.size); (try simp only [World.size_alloc, World.size_drew] at hz2); (try (rcases Nat.lt_or_ge (X.heap.size) (w2.heap.size) with q0 | q0; rotate_left; (exfalso; omega))); (try (rcases Nat.lt_or_ge (X.heap.size + 1) (w2.heap.size) with q1 | q1; rotate_left; (exfalso; omega)))))
    all_goals
      go_wp2_with fail
      go_meet
    · exact begunN_mk (m := X.heap.size) (six_lit rfl) (rowIs_alloc _ (rowIs_below hb2 (rowIs_drew (rowIs_new rfl)))) (O2.out.agree (by (repeat (first | assumption | with_reducible exact Agree.refl _ _ _ | with_reducible refine agree_below (by assumption) ?_ (by first | omega | go_size) | with_reducible refine agree_within (by assumption) ?_ (by first | omega | go_size) (by omega) | with_reducible refine Agree.alloc ?_ (by first | omega | go_size) _ | with_reducible refine Agree.setCell ?_ (by first | omega | (dsimp only; omega)) _ | with_reducible refine Agree.drew ?_)))) (by first | omega | (simp; done) | (simp; omega)) (by first | omega | (simp; done) | (simp; omega)) (by first | omega | (simp; done) | (simp; omega)) (by first | omega | (simp; done) | (simp; omega)) (by first | omega | (simp; done) | (simp; omega)) (by repeat (first | with_reducible exact Below.refl _ _ | with_reducible refine below_via (by assumption) ?_ (by go_size) | with_reducible refine below_within (by assumption) ?_ (by go_size) (by omega) | with_reducible refine Below.alloc ?_ (by go_size) _ | with_reducible refine Below.setCell ?_ (by go_size) _ | with_reducible refine Below.drew ?_))
    · exact begunN_mk (m := X.heap.size) (six_set3 (six_below hb2 (six_drew (six_lit (by simp))))) (rowIs_sc (rowIs_sc (rowIs_sc (rowIs_below hb2 (rowIs_drew (rowIs_alloc _ (rowIs_new rfl)))) (by omega)) (by omega)) (by omega)) (O2.out.agree (by refine Agree.setCell (Agree.setCell (Agree.setCell (Agree.refl _ _ _) ?_ _) ?_ _) ?_ _ <;> (left; show _ < _; simp only [World.size_alloc, World.size_drew]; omega))) (by first | omega | (simp; done) | (simp; omega)) (by first | omega | (simp; done) | (simp; omega)) (by first | omega | (simp; done) | (simp; omega)) (by first | omega | (simp; done) | (simp; omega)) (by first | omega | (simp; done) | (simp; omega)) (by repeat (first | with_reducible exact Below.refl _ _ | with_reducible refine below_via (by assumption) ?_ (by go_size) | with_reducible refine below_within (by assumption) ?_ (by go_size) (by omega) | with_reducible refine Below.alloc ?_ (by go_size) _ | with_reducible refine Below.setCell ?_ (by go_size) _ | with_reducible refine Below.drew ?_))
    · exact begunN_mk (m := w2.heap.size) (six_lit (by simp)) (rowIs_alloc _ (rowIs_new rfl)) (O2.out.agree (by (repeat (first | assumption | with_reducible exact Agree.refl _ _ _ | with_reducible refine agree_below (by assumption) ?_ (by first | omega | go_size) | with_reducible refine agree_within (by assumption) ?_ (by first | omega | go_size) (by omega) | with_reducible refine Agree.alloc ?_ (by first | omega | go_size) _ | with_reducible refine Agree.setCell ?_ (by first | omega | (dsimp only; omega)) _ | with_reducible refine Agree.drew ?_)))) (by first | omega | (simp; done) | (simp; omega)) (by first | omega | (simp; done) | (simp; omega)) (by first | omega | (simp; done) | (simp; omega)) (by first | omega | (simp; done) | (simp; omega)) (by first | omega | (simp; done) | (simp; omega)) (by repeat (first | with_reducible exact Below.refl _ _ | with_reducible refine below_via (by assumption) ?_ (by go_size) | with_reducible refine below_within (by assumption) ?_ (by go_size) (by omega) | with_reducible refine Below.alloc ?_ (by go_size) _ | with_reducible refine Below.setCell ?_ (by go_size) _ | with_reducible refine Below.drew ?_))
    · exact begunN_mk (m := w2.heap.size + 1) (six_alloc _ (six_lit rfl)) (rowIs_new (by simp)) (O2.out.agree (by (repeat (first | assumption | with_reducible exact Agree.refl _ _ _ | with_reducible refine agree_below (by assumption) ?_ (by first | omega | go_size) | with_reducible refine agree_within (by assumption) ?_ (by first | omega | go_size) (by omega) | with_reducible refine Agree.alloc ?_ (by first | omega | go_size) _ | with_reducible refine Agree.setCell ?_ (by first | omega | (dsimp only; omega)) _ | with_reducible refine Agree.drew ?_)))) (by first | omega | (simp; done) | (simp; omega)) (by first | omega | (simp; done) | (simp; omega)) (by first | omega | (simp; done) | (simp; omega)) (by first | omega | (simp; done) | (simp; omega)) (by first | omega | (simp; done) | (simp; omega)) (by repeat (first | with_reducible exact Below.refl _ _ | with_reducible refine below_via (by assumption) ?_ (by go_size) | with_reducible refine below_within (by assumption) ?_ (by go_size) (by omega) | with_reducible refine Below.alloc ?_ (by go_size) _ | with_reducible refine Below.setCell ?_ (by go_size) _ | with_reducible refine Below.drew ?_))
    · exact begunN_mk (m := X.heap.size + 1) (six_set3 (six_below hb2 (six_drew (six_alloc _ (six_lit rfl))))) (rowIs_sc (rowIs_sc (rowIs_sc (rowIs_below hb2 (rowIs_drew (rowIs_new (by simp)))) (by omega)) (by omega)) (by omega)) (O2.out.agree (by refine Agree.setCell (Agree.setCell (Agree.setCell (Agree.refl _ _ _) ?_ _) ?_ _) ?_ _ <;> (left; show _ < _; simp only [World.size_alloc, World.size_drew]; omega))) (by first | omega | (simp; done) | (simp; omega)) (by first | omega | (simp; done) | (simp; omega)) (by first | omega | (simp; done) | (simp; omega)) (by first | omega | (simp; done) | (simp; omega)) (by first | omega | (simp; done) | (simp; omega)) (by repeat (first | with_reducible exact Below.refl _ _ | with_reducible refine below_via (by assumption) ?_ (by go_size) | with_reducible refine below_within (by assumption) ?_ (by go_size) (by omega) | with_reducible refine Below.alloc ?_ (by go_size) _ | with_reducible refine Below.setCell ?_ (by go_size) _ | with_reducible refine Below.drew ?_))
    · exact begunN_mk (m := w2.heap.size) (six_alloc _ (six_set3 (six_below hb2 (six_drew (six_lit rfl))))) (rowIs_new (by simp)) (O2.out.agree (by refine Agree.alloc (Agree.setCell (Agree.setCell (Agree.setCell (Agree.refl _ _ _) ?_ _) ?_ _) ?_ _) (by simp only [size_set]; exact Nat.le_refl _) _ <;> (left; show _ < _; simp only [World.size_alloc, World.size_drew]; omega))) (by first | omega | (simp; done) | (simp; omega)) (by first | omega | (simp; done) | (simp; omega)) (by first | omega | (simp; done) | (simp; omega)) (by first | omega | (simp; done) | (simp; omega)) (by first | omega | (simp; done) | (simp; omega)) (by repeat (first | with_reducible exact Below.refl _ _ | with_reducible refine below_via (by assumption) ?_ (by go_size) | with_reducible refine below_within (by assumption) ?_ (by go_size) (by omega) | with_reducible refine Below.alloc ?_ (by go_size) _ | with_reducible refine Below.setCell ?_ (by go_size) _ | with_reducible refine Below.drew ?_))
  case rest =>
    obtain ⟨O, a1, c1, b1, d1, l1, t1, l2, t2, rfl, hG⟩ := hcut
    have G := Lib.hid hG
    obtain ⟨q1, q2, q3, q4, q5, q6⟩ := hG.box
    have hM : Hid (MemV wc (.agg #[.slice a1 256 c1, .slice b1 rom.length d1, .int .i64 0]) zeros rom 0) := ⟨_, _, rfl, hG.o.ints, hG.m.mat⟩
    have hlt := hG.lt
    have hp1 := hG.p1
    have hp2 := hG.p2
    have hq1 := hG.q1
    have hq2 := hG.q2
    have hbs := hG.be.size
    have hBw : Hid (Below w.heap.size w wc) := hXb.out.trans (hG.be.mono (Nat.le_of_lt hXl))
    have hT2 := six_below hG.be hT
    have hOc : O < wc.heap.size := block_lt_of_cell q1
    clear hG hT
    cases hv : memB zeros rom 0
    · have e1 : nwR rom = [] := by simp [nwR, nwOk, hv]
      have e2 : nwM rom = [] := by simp [nwM, nwOk, hv]
      go_wp2_with fail
      refine (calls_eqv (impl_MemoryValid hM.out) hv).mono ?_
      rintro e w3 ⟨rfl, hb3⟩
      obtain ⟨r1, r2, r3, r4, r5, r6⟩ := six_below hb3 hT2
      have hs3 := hb3.size
      go_wp2_with fail
      refine bodyPost_ret (v := .agg #[.slice none 0 0, .slice none 0 0, .int .i64 0]) (by simp [results, Try.results81, go_sem, r1, r2, r3]) rfl ⟨_, rfl, (by rw [e1, e2]; exact ownMem_zero (by simp only [size_set]; omega)), ?_, fun _ => rfl⟩
      repeat (with_reducible refine Below.setCell ?_ (by show w.heap.size ≤ w.heap.size; omega) _)
      exact hBw.out.trans (hb3.mono (by omega))
    · have e1 : nwR rom = zeros := by simp [nwR, nwOk, hv]
      have e2 : nwM rom = rom := by simp [nwM, nwOk, hv]
      go_wp2_with fail
      refine (calls_eqv (impl_MemoryValid hM.out) hv).mono ?_
      rintro e w3 ⟨rfl, hb3⟩
      obtain ⟨r1, r2, r3, r4, r5, r6⟩ := six_below hb3 hT2
      obtain ⟨y1, y2, y3, y4, y5, y6⟩ := six_below hb3 G.out.box
      have hs3 := hb3.size
      go_wp2_with fail
      refine bodyPost_ret (v := .agg #[.slice a1 256 c1, .slice b1 rom.length d1, .int .i64 0]) (by simp [results, Try.results81, go_sem, r1, r2, r3]) rfl ⟨_, rfl, (by rw [e1, e2]; exact ⟨_, _, l1, t1, l2, t2, rfl, ⟨by omega, by simp only [size_set]; omega, by omega, by simp only [size_set]; omega, G.out.sep⟩, G.out.o.agree (by (repeat (first | assumption | with_reducible exact Agree.refl _ _ _ | with_reducible refine agree_below (by assumption) ?_ (by first | omega | go_size) | with_reducible refine agree_within (by assumption) ?_ (by first | omega | go_size) (by omega) | with_reducible refine Agree.alloc ?_ (by first | omega | go_size) _ | with_reducible refine Agree.setCell ?_ (by first | omega | (dsimp only; omega)) _ | with_reducible refine Agree.drew ?_))), G.out.m.agree (by (repeat (first | assumption | with_reducible exact Agree.refl _ _ _ | with_reducible refine agree_below (by assumption) ?_ (by first | omega | go_size) | with_reducible refine agree_within (by assumption) ?_ (by first | omega | go_size) (by omega) | with_reducible refine Agree.alloc ?_ (by first | omega | go_size) _ | with_reducible refine Agree.setCell ?_ (by first | omega | (dsimp only; omega)) _ | with_reducible refine Agree.drew ?_)))⟩), ?_, fun hz => by rw [nwOk, hv] at hz; cases hz⟩
      repeat (with_reducible refine Below.setCell ?_ (by show w.heap.size ≤ w.heap.size; omega) _)
      exact hBw.out.trans (hb3.mono (by omega))
theorem impl_NewMemory {v : Value} {rom : List (List Int)} {w : World} (h : Mat w v rom) (z2 : rom.length ≤ 1048576) (z3 : sumLen rom ≤ 1000000000) :
    Calls Try.prog 81 #[v] w (MadeMem (nwR rom) (nwM rom) 0 w) := (impl_NewMemoryZ h z2 z3).mono fun _ _ ⟨v, h1, h2, h3, _⟩ => ⟨v, h1, h2, h3⟩
theorem three_lit {W : World} {b : Nat} {x y z : Value} {e : TypeId} (he : b = W.heap.size) : Three (W.alloc (.cells #[x, y, z] e)) b x y z := by
  subst he
  refine ⟨?_, ?_, ?_⟩ <;> simp [go_sem]
theorem three_within {l h : Nat} {W w' : World} {p : Nat} {a b c : Value} (hw : Within l h W w') (t : Three W p a b c) (hd : p < l ∨ h ≤ p) : Three w' p a b c := by
  obtain ⟨h1, h2, h3⟩ := t
  have lp := block_lt_of_cell h1
  exact ⟨(World.cell?_of_block (a := ⟨p, 0, none⟩) (hw.block p lp hd)).trans h1, (World.cell?_of_block (a := ⟨p, 1, none⟩) (hw.block p lp hd)).trans h2, (World.cell?_of_block (a := ⟨p, 2, none⟩) (hw.block p lp hd)).trans h3⟩
theorem mem_old {W w' : World} {v : Value} {ram : List Int} {rom : List (List Int)} {bank : Int} (h : MemV W v ram rom bank) (hb : Below W.heap.size W w') : MemV w' v ram rom bank := h.below hb
theorem below_from {n : Nat} {a b c : World} (h : Below n a b) (k : Below b.heap.size b c) (hn : n ≤ b.heap.size) : Below n a c := h.trans (k.mono hn)
end Go.Proofs.Ytkkgolgmhckgoaa
