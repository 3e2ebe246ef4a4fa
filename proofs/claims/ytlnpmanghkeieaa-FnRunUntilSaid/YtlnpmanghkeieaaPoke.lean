/- The walks of the functions that write a byte to a memory in place. No condition. -/
import Derived.Test.YtlnpmanghkeieaaMemLaw
namespace Go.Proofs.Ytlnpmanghkeieaa
open Go.RowKit
set_option linter.unusedVariables false

/-- One element of a slice of the call's own is written. -/
theorem Own.set {lo hi : Nat} {w : World} {a : Option Addr} {n c k : Nat} {zs : List Int} (h : Own lo hi w (.slice a n c) zs) (hk : k < zs.length) :
    n ≤ c ∧ (c : Int) ≤ 9223372036854775807 ∧ ∃ b off, a = some ⟨b, off, none⟩ ∧ lo ≤ b ∧ b < hi ∧ b < w.heap.size ∧ w.cell? ⟨b, off + k, none⟩ = some (.int .i64 (zs.getD k 0)) ∧ w.frozen? ⟨b, off + k, none⟩ = false ∧
      ∀ x : Int, Own lo hi (w.setCell ⟨b, off + k, none⟩ (.int .i64 x)) (.slice a n c) (zs.set k x) := by
  obtain ⟨a', c', e, h1, h2, h3⟩ := h
  injection e with e1 e2 e3
  subst e1 e2 e3
  unfold maxLen at h2
  rcases h3 with h0 | ⟨b, off, rfl, k1, k2, hc⟩
  · rw [h0] at hk; simp at hk
  · obtain ⟨g0, g1⟩ := hc k hk
    refine ⟨h1, by omega, b, off, rfl, k1, k2, block_lt_of_cell g0, g0, g1, fun x => ⟨_, c, by simp, by simpa using h1, by unfold maxLen; omega, .inr ⟨b, off, rfl, k1, k2, fun i hi => ?_⟩⟩⟩
    rw [List.length_set] at hi
    obtain ⟨q0, q1⟩ := hc i hi
    refine ⟨?_, by simpa [go_sem] using q1⟩
    by_cases e : i = k
    · subst e
      rw [World.cell?_setCell_same (w := w) (a := ⟨b, off + i, none⟩) (v := .int .i64 x) g0, List.getD_eq_getElem?_getD, List.getElem?_set_self hk]; rfl
    · rw [World.cell?_setCell_other _ _ _ _ (by intro e2; injection e2 with _ e3; omega), q0, List.getD_eq_getElem?_getD, List.getD_eq_getElem?_getD, List.getElem?_set_ne (by omega)]
/-- The memory lies in block B in place, of the call's own from block L on. -/
structure MemIn (L : Nat) (w : World) (B : Nat) (ram : List Int) (rom : List (List Int)) (bank : Int) (a : Option Addr) (c : Nat) (b : Option Addr) (d l1 t1 l2 t2 : Nat) : Prop where
  c0 : w.cell? ⟨B, 0, none⟩ = some (.slice a ram.length c)
  c1 : w.cell? ⟨B, 1, none⟩ = some (.slice b rom.length d)
  c2 : w.cell? ⟨B, 2, none⟩ = some (.int .i64 bank)
  fz : w.frozen? ⟨B, 2, none⟩ = false
  lB : L ≤ B
  a1 : L ≤ l1
  a2 : L ≤ l2
  s1 : t1 ≤ w.heap.size
  s2 : t2 ≤ w.heap.size
  sep : t1 ≤ l2 ∨ t2 ≤ l1
  sB1 : B < l1 ∨ t1 ≤ B
  sB2 : B < l2 ∨ t2 ≤ B
  o : Own l1 t1 w (.slice a ram.length c) ram
  m : OwnMat l2 t2 w (.slice b rom.length d) rom
section
variable {L : Nat} {w w' : World} {B : Nat} {ram : List Int} {rom : List (List Int)} {bank : Int} {a : Option Addr} {c : Nat} {b : Option Addr} {d l1 t1 l2 t2 : Nat}
theorem MemIn.memAt (h : MemIn L w B ram rom bank a c b d l1 t1 l2 t2) : MemAt w B ram rom bank a c b d := ⟨h.c0, h.c1, h.c2, h.o.ints, h.m.mat⟩
theorem MemIn.ltB (h : MemIn L w B ram rom bank a c b d l1 t1 l2 t2) : B < w.heap.size := block_lt_of_cell h.c0
theorem MemIn.ownMem {lo hi : Nat} (h : MemIn L w B ram rom bank a c b d l1 t1 l2 t2) (k1 : lo ≤ l1) (k2 : lo ≤ l2) (k3 : t1 ≤ hi) (k4 : t2 ≤ hi) : OwnMem lo hi w (.agg #[.slice a ram.length c, .slice b rom.length d, .int .i64 bank]) ram rom bank :=
  ⟨_, _, l1, t1, l2, t2, rfl, ⟨k1, k3, k2, k4, h.sep⟩, h.o, h.m⟩
theorem MemIn.below (h : MemIn L w B ram rom bank a c b d l1 t1 l2 t2) (hb : Below w.heap.size w w') : MemIn L w' B ram rom bank a c b d l1 t1 l2 t2 := by
  have hB := h.ltB
  have s1 := h.s1
  have s2 := h.s2
  exact ⟨(hb.cell (p := ⟨B, 0, none⟩) hB).trans h.c0, (hb.cell (p := ⟨B, 1, none⟩) hB).trans h.c1, (hb.cell (p := ⟨B, 2, none⟩) hB).trans h.c2, (hb.frozen (p := ⟨B, 2, none⟩) hB).trans h.fz, h.lB, h.a1, h.a2,
    Nat.le_trans h.s1 hb.size, Nat.le_trans h.s2 hb.size, h.sep, h.sB1, h.sB2, h.o.agree (fun k _ k2 => hb.block k (by omega)), h.m.agree (fun k _ k2 => hb.block k (by omega))⟩
theorem MemIn.alloc (h : MemIn L w B ram rom bank a c b d l1 t1 l2 t2) (o : Obj) : MemIn L (w.alloc o) B ram rom bank a c b d l1 t1 l2 t2 := h.below ((Below.refl _ _).alloc (Nat.le_refl _) o)
theorem MemIn.drewN (h : MemIn L w B ram rom bank a c b d l1 t1 l2 t2) (n : Nat) : MemIn L (w.drewN n) B ram rom bank a c b d l1 t1 l2 t2 := h.below ⟨rfl, rfl, rfl, Nat.le_refl _, fun _ _ => rfl⟩
theorem MemIn.setRam (h : MemIn L w B ram rom bank a c b d l1 t1 l2 t2) {b' i : Nat} {ram' : List Int} (v : Value) (hl : ram'.length = ram.length) (k1 : l1 ≤ b') (k2 : b' < t1) (ho : Own l1 t1 (w.setCell ⟨b', i, none⟩ v) (.slice a ram'.length c) ram') :
    MemIn L (w.setCell ⟨b', i, none⟩ v) B ram' rom bank a c b d l1 t1 l2 t2 := by
  have hs := h.sB1
  have hp := h.sep
  have hne : B ≠ b' := by omega
  have e : ∀ o, (w.setCell ⟨b', i, none⟩ v).cell? ⟨B, o, none⟩ = w.cell? ⟨B, o, none⟩ := fun o => World.cell?_setCell_other _ _ _ _ (by intro e; injection e with e1; exact hne e1.symm)
  have hf := h.fz
  exact ⟨by rw [e, hl]; exact h.c0, (e 1).trans h.c1, (e 2).trans h.c2, by simpa [go_sem] using hf, h.lB, h.a1, h.a2, by rw [size_set]; exact h.s1, by rw [size_set]; exact h.s2, h.sep, h.sB1, h.sB2, ho, h.m.agree ((Agree.refl _ _ w).setCell (by show b' < l2 ∨ t2 ≤ b'; omega) _)⟩
theorem MemIn.setBank (h : MemIn L w B ram rom bank a c b d l1 t1 l2 t2) (x : Int) : MemIn L (w.setCell ⟨B, 2, none⟩ (.int .i64 x)) B ram rom x a c b d l1 t1 l2 t2 := by
  have hs := h.sB1
  have ht := h.sB2
  have e : ∀ o, o ≠ 2 → (w.setCell ⟨B, 2, none⟩ (.int .i64 x)).cell? ⟨B, o, none⟩ = w.cell? ⟨B, o, none⟩ := fun o ho => World.cell?_setCell_other _ _ _ _ (by intro e; injection e with _ e1; exact ho e1.symm)
  have hf := h.fz
  exact ⟨(e 0 (by decide)).trans h.c0, (e 1 (by decide)).trans h.c1, World.cell?_setCell_same _ _ _ h.c2, by simpa [go_sem] using hf, h.lB, h.a1, h.a2, by rw [size_set]; exact h.s1, by rw [size_set]; exact h.s2, h.sep, h.sB1, h.sB2,
    h.o.agree ((Agree.refl _ _ w).setCell (by show B < l1 ∨ t1 ≤ B; omega) _), h.m.agree ((Agree.refl _ _ w).setCell (by show B < l2 ∨ t2 ≤ B; omega) _)⟩
end
/-- What a write to a memory in block B leaves: the blocks but B and those from l on below t; B's cells but the number of the bank. -/
def Other (l t B : Nat) (w w' : World) : Prop := (∀ k, k ≠ B → (k < l ∨ t ≤ k) → w'.heap[k]? = w.heap[k]?) ∧ (∀ i, i ≠ 2 → w'.cell? ⟨B, i, none⟩ = w.cell? ⟨B, i, none⟩) ∧ (∀ i, w'.frozen? ⟨B, i, none⟩ = w.frozen? ⟨B, i, none⟩)
theorem other_refl {l t B : Nat} {w : World} : Other l t B w w := ⟨fun _ _ _ => rfl, fun _ _ => rfl, fun _ => rfl⟩
theorem other_ram {l t B b i : Nat} {w : World} {v : Value} (h1 : l ≤ b) (h2 : b < t) (hn : b ≠ B) : Other l t B w (w.setCell ⟨b, i, none⟩ v) :=
  ⟨fun k hk hs => Below.heap_setCell _ _ _ _ (by show k ≠ b; omega), fun i _ => World.cell?_setCell_other _ _ _ _ (by intro e; injection e with e1; exact hn e1), fun i => by simp [go_sem]⟩
theorem other_bank {l t B : Nat} {w : World} {v : Value} : Other l t B w (w.setCell ⟨B, 2, none⟩ v) :=
  ⟨fun k hk hs => Below.heap_setCell _ _ _ _ (by show k ≠ B; omega), fun i hi => World.cell?_setCell_other _ _ _ _ (by intro e; injection e with e1 e2; exact hi e2.symm), fun i => by simp [go_sem]⟩
set_option maxHeartbeats 1000000 in
theorem impl_pokeO {L B : Nat} {ram : List Int} {rom : List (List Int)} {bank p x : Int} {a b : Option Addr} {c d l1 t1 l2 t2 : Nat} {w : World} (h : MemIn L w B ram rom bank a c b d l1 t1 l2 t2) (hs : Shp ram rom bank) (h0 : 0 ≤ p) (h1 : p ≤ 1023) (x0 : 0 ≤ x) (x1 : x ≤ 255) :
    Calls Try.prog 45 #[.pointer (some ⟨B, 0, none⟩), .int .i64 p, .int .i64 x] w fun e w' => e = .returned (.tuple #[]) ∧ MemIn L w' B (pokeR ram p x) rom (pokeB rom bank p x) a c b d l1 t1 l2 t2 ∧ Below L w w' ∧ Other l1 t1 B w w' := by
  have H := Lib.hid h
  obtain ⟨c0, c1, c2, fz, lB, a1, a2, s1, s2, sep, sB1, sB2, ho, hm⟩ := h
  obtain ⟨j, rfl⟩ := Int.eq_ofNat_of_zero_le h0
  have hr := hs.r
  have hn := hs.n
  have hn4 := hs.n4
  by_cases p1 : (j : Int) < 512
  · obtain ⟨k2, k3, b', off, rfl, hb1, hb2, hb3, hc, hf, hS⟩ := ho.set (k := j % 256) (by omega)
    have E : Hid (MemIn L (w.setCell ⟨b', off + j % 256, none⟩ (.int .i64 x)) B (pokeR ram j x) rom (pokeB rom bank j x) (some ⟨b', off, none⟩) c b d l1 t1 l2 t2) := by
      have e1 : pokeR ram j x = ram.set (j % 256) x := by unfold pokeR; rw [if_pos p1, Int.toNat_natCast]
      have e2 : pokeB rom bank j x = bank := by unfold pokeB; rw [if_pos (by omega)]
      rw [e1, e2]
      exact H.out.setRam _ (by simp) hb1 hb2 (by rw [List.length_set]; exact hS x)
    generalize ram.getD (j % 256) 0 = y at *
    rw [hr] at c0 k2
    have hnB : b' ≠ B := by omega
    have hk : j % 256 < 256 := by omega
    have hk' : ((j % 256 : Nat) : Int) < 256 := by omega
    have hk0 : 0 ≤ ((j % 256 : Nat) : Int) := by omega
    have e1 : (j : Int).tmod 256 = ((j % 256 : Nat) : Int) := by rw [Int.tmod_eq_emod_of_nonneg h0]; omega
    have e2 : (j : Int) % 256 = ((j % 256 : Nat) : Int) := by omega
    generalize j % 256 = q at *
    clear ho hm hr c1 c2 hs H hS
    go_enter Try.func45, Try.ntmps45
    go_wp2
    go_returns
    exact ⟨rfl, E.out, (Below.refl _ _).setCell (p := ⟨b', off + q, none⟩) (show L ≤ b' by omega) _, other_ram hb1 hb2 hnB⟩
  by_cases p2 : (j : Int) < 768
  · have E : Hid (MemIn L w B (pokeR ram j x) rom (pokeB rom bank j x) a c b d l1 t1 l2 t2) := by
      have e1 : pokeR ram j x = ram := by unfold pokeR; rw [if_neg p1]
      have e2 : pokeB rom bank j x = bank := by unfold pokeB; rw [if_pos p2]
      rw [e1, e2]
      exact H.out
    have p2' : ¬ (768 : Int) ≤ (j : Int) := by omega
    clear ho hm hr c0 c1 c2 hs H
    go_enter Try.func45, Try.ntmps45
    go_wp2
    go_returns
    exact ⟨rfl, E.out, Below.refl _ _, other_refl⟩
  · have E : Hid (MemIn L (w.setCell ⟨B, 2, none⟩ (.int .i64 (x % (rom.length : Int)))) B (pokeR ram j x) rom (pokeB rom bank j x) a c b d l1 t1 l2 t2) := by
      have e1 : pokeR ram j x = ram := by unfold pokeR; rw [if_neg p1]
      have e2 : pokeB rom bank j x = x % (rom.length : Int) := by unfold pokeB; rw [if_neg p2]
      rw [e1, e2]
      exact H.out.setBank _
    have p2' : (768 : Int) ≤ (j : Int) := by omega
    obtain ⟨b'', d', e, h1d, h2d, _⟩ := hm
    unfold maxLen at h2d
    injection e with e1 e2 e3
    subst e1 e3
    clear e2
    generalize rom.length = n at *
    have hn0 : (n : Int) ≠ 0 := by omega
    have hn1 : 0 < (n : Int) := by omega
    have hn2 : (n : Int) ≤ 9223372036854775807 := by omega
    clear ho hr c0 hs H
    go_enter Try.func45, Try.ntmps45
    go_wp2
    go_returns
    exact ⟨rfl, E.out, (Below.refl _ _).setCell (p := ⟨B, 2, none⟩) lB _, other_bank⟩
theorem impl_poke {L B : Nat} {ram : List Int} {rom : List (List Int)} {bank p x : Int} {a b : Option Addr} {c d l1 t1 l2 t2 : Nat} {w : World} (h : MemIn L w B ram rom bank a c b d l1 t1 l2 t2) (hs : Shp ram rom bank) (h0 : 0 ≤ p) (h1 : p ≤ 1023) (x0 : 0 ≤ x) (x1 : x ≤ 255) :
    Calls Try.prog 45 #[.pointer (some ⟨B, 0, none⟩), .int .i64 p, .int .i64 x] w fun e w' => e = .returned (.tuple #[]) ∧ MemIn L w' B (pokeR ram p x) rom (pokeB rom bank p x) a c b d l1 t1 l2 t2 ∧ Below L w w' := (impl_pokeO h hs h0 h1 x0 x1).mono fun _ _ ⟨q1, q2, q3, _⟩ => ⟨q1, q2, q3⟩
set_option maxHeartbeats 1000000 in
theorem spec_l2WriteO {L B : Nat} {ram : List Int} {rom : List (List Int)} {bank p x : Int} {a b : Option Addr} {c d l1 t1 l2 t2 : Nat} {w : World} (h : MemIn L w B ram rom bank a c b d l1 t1 l2 t2) (hs : Shp ram rom bank) (h0 : 0 ≤ p) (h1 : p ≤ 1023) (x0 : 0 ≤ x) (x1 : x ≤ 255) :
    Calls Try.prog 55 #[.pointer (some ⟨B, 0, none⟩), .int .i64 p, .int .i64 x] w fun e w' => e = .returned (.tuple #[]) ∧ MemIn L w' B (pokeR ram p x) rom (pokeB rom bank p x) a c b d l1 t1 l2 t2 ∧ Below L w w' ∧ Other l1 t1 B w w' := by
  have H := Lib.hid h
  obtain ⟨c0, c1, c2, fz, lB, a1, a2, s1, s2, sep, sB1, sB2, ho, hm⟩ := h
  obtain ⟨j, rfl⟩ := Int.eq_ofNat_of_zero_le h0
  have hr := hs.r
  have hn := hs.n
  have hn4 := hs.n4
  by_cases p1 : (j : Int) < 512
  · obtain ⟨k2, k3, b', off, rfl, hb1, hb2, hb3, hc, hf, hS⟩ := ho.set (k := j % 256) (by omega)
    have E : Hid (MemIn L (w.setCell ⟨b', off + j % 256, none⟩ (.int .i64 x)) B (pokeR ram j x) rom (pokeB rom bank j x) (some ⟨b', off, none⟩) c b d l1 t1 l2 t2) := by
      have e1 : pokeR ram j x = ram.set (j % 256) x := by unfold pokeR; rw [if_pos p1, Int.toNat_natCast]
      have e2 : pokeB rom bank j x = bank := by unfold pokeB; rw [if_pos (by omega)]
      rw [e1, e2]
      exact H.out.setRam _ (by simp) hb1 hb2 (by rw [List.length_set]; exact hS x)
    generalize ram.getD (j % 256) 0 = y at *
    rw [hr] at c0 k2
    have hnB : b' ≠ B := by omega
    have hk : j % 256 < 256 := by omega
    have hk' : ((j % 256 : Nat) : Int) < 256 := by omega
    have hk0 : 0 ≤ ((j % 256 : Nat) : Int) := by omega
    have e1 : (j : Int).tmod 256 = ((j % 256 : Nat) : Int) := by rw [Int.tmod_eq_emod_of_nonneg h0]; omega
    have e2 : (j : Int) % 256 = ((j % 256 : Nat) : Int) := by omega
    generalize j % 256 = q at *
    clear ho hm hr c1 c2 hs H hS
    go_enter Try.func55, Try.ntmps55
    go_wp2
    go_returns
    exact ⟨rfl, E.out, (Below.refl _ _).setCell (p := ⟨b', off + q, none⟩) (show L ≤ b' by omega) _, other_ram hb1 hb2 hnB⟩
  by_cases p2 : (j : Int) < 768
  · have E : Hid (MemIn L w B (pokeR ram j x) rom (pokeB rom bank j x) a c b d l1 t1 l2 t2) := by
      have e1 : pokeR ram j x = ram := by unfold pokeR; rw [if_neg p1]
      have e2 : pokeB rom bank j x = bank := by unfold pokeB; rw [if_pos p2]
      rw [e1, e2]
      exact H.out
    have p2' : ¬ (768 : Int) ≤ (j : Int) := by omega
    clear ho hm hr c0 c1 c2 hs H
    go_enter Try.func55, Try.ntmps55
    go_wp2
    go_returns
    exact ⟨rfl, E.out, Below.refl _ _, other_refl⟩
  · have E : Hid (MemIn L (w.setCell ⟨B, 2, none⟩ (.int .i64 (x % (rom.length : Int)))) B (pokeR ram j x) rom (pokeB rom bank j x) a c b d l1 t1 l2 t2) := by
      have e1 : pokeR ram j x = ram := by unfold pokeR; rw [if_neg p1]
      have e2 : pokeB rom bank j x = x % (rom.length : Int) := by unfold pokeB; rw [if_neg p2]
      rw [e1, e2]
      exact H.out.setBank _
    have p2' : (768 : Int) ≤ (j : Int) := by omega
    obtain ⟨b'', d', e, h1d, h2d, _⟩ := hm
    unfold maxLen at h2d
    injection e with e1 e2 e3
    subst e1 e3
    clear e2
    generalize rom.length = n at *
    have hn0 : (n : Int) ≠ 0 := by omega
    have hn1 : 0 < (n : Int) := by omega
    have hn2 : (n : Int) ≤ 9223372036854775807 := by omega
    clear ho hr c0 hs H
    go_enter Try.func55, Try.ntmps55
    go_wp2
    go_returns
    exact ⟨rfl, E.out, (Below.refl _ _).setCell (p := ⟨B, 2, none⟩) lB _, other_bank⟩
theorem spec_l2Write {L B : Nat} {ram : List Int} {rom : List (List Int)} {bank p x : Int} {a b : Option Addr} {c d l1 t1 l2 t2 : Nat} {w : World} (h : MemIn L w B ram rom bank a c b d l1 t1 l2 t2) (hs : Shp ram rom bank) (h0 : 0 ≤ p) (h1 : p ≤ 1023) (x0 : 0 ≤ x) (x1 : x ≤ 255) :
    Calls Try.prog 55 #[.pointer (some ⟨B, 0, none⟩), .int .i64 p, .int .i64 x] w fun e w' => e = .returned (.tuple #[]) ∧ MemIn L w' B (pokeR ram p x) rom (pokeB rom bank p x) a c b d l1 t1 l2 t2 ∧ Below L w w' := (spec_l2WriteO h hs h0 h1 x0 x1).mono fun _ _ ⟨q1, q2, q3, _⟩ => ⟨q1, q2, q3⟩
end Go.Proofs.Ytlnpmanghkeieaa
