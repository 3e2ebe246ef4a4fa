/- The drawn banks: whatever the code, one to three banks of 256 bytes, of the call's own. No condition. -/
import Derived.Test.YthplgehdgaeapaaDoorDrawOrd
import Derived.Test.YthplgehdgaeapaaDoorCodec
import Derived.Test.YthplgehdgaeapaaDoorClone
import Derived.Test.YthplgehdgaeapaaDoorMemLaw
namespace Go.Proofs.YthplgehdgaeapaaDoor
open Go.RowKit
set_option linter.unusedVariables false

theorem obytes_byte (o a : Int) : (obytes o a).all byteB = true := by
  cases hv : ovB o a
  · rw [obytes_no hv]; rfl
  · have hb := ovB_bd hv
    have ho : byteB o = true := by
      cases h : inR o 0 15
      · rw [ovB_0 (olen_no h)] at hv; cases hv
      · have := inR_iff.1 h
        exact byteB_iff.2 (by omega)
    have h1 : byteB (a % 256) = true := byteB_iff.2 (by omega)
    have h2 : byteB (a / 256) = true := byteB_iff.2 (by omega)
    rcases olen_vals o with k | k | k | k
    · rw [ovB_0 k] at hv; cases hv
    · rw [obytes_1 hv k]; simp [ho]
    · rw [obytes_2 hv k]; simp [ho, h1]
    · rw [obytes_3 hv k]; simp [ho, h1, h2]
theorem OwnV.keep {rb base e : Nat} {w w' : World} {v : Value} {vs : List Value} (h : OwnV w base e v vs) (hK : Keep rb w w') (hr : rb < base) : OwnV w' base e v vs :=
  h.of fun k hk => hK.block k (h.lt k hk).2 (by have := (h.lt k hk).1; omega)
theorem RowsV.keep {rb base : Nat} {w w' : World} {v : Value} {zss : List (List Int)} (h : RowsV base w v zss) (hK : Keep rb w w') (hr : rb < base) : RowsV base w' v zss :=
  h.agree (fun k k1 k2 => hK.block k k2 (by omega)) hK.size
theorem Reader.grown {w w' : World} {rb B base : Nat} {r : Option Nat} (h : Reader w rb B) (hg : w.grownBy w' r) (hr : ∀ k, r = some k → base ≤ k) (hb : rb < base) : Reader w' rb B := by
  have hlt := h.lt
  obtain ⟨a, len, cap, zs, p, hp, c0, c1, fz, l2, code, bytes⟩ := h
  have hn : ∀ b, b < base → some b ≠ r := fun b hb e => by have := hr b e.symm; omega
  have ce : ∀ b o, b < base → b < w.heap.size → w'.cell? ⟨b, o, none⟩ = w.cell? ⟨b, o, none⟩ := fun b o h1 h2 => World.cell?_of_block (a := ⟨b, o, none⟩) (hg.block b h2 (hn b h1))
  refine ⟨a, len, cap, zs, p, hp, (ce _ _ hb hlt).trans c0, (ce _ _ hb hlt).trans c1, (World.frozen?_of_block (a := ⟨rb, 1, none⟩) (hg.block rb hlt (hn rb hb))).trans fz, l2, ?_, bytes⟩
  rcases code with h0 | ⟨b, off, rfl, hne, hc⟩
  · exact .inl h0
  · exact .inr ⟨b, off, rfl, hne, fun i hi => (ce b (off + i) (by omega) (block_lt_of_cell (hc i hi))).trans (hc i hi)⟩
theorem Keep.grown {w X w' : World} {rb : Nat} {r : Option Nat} (h : Keep rb w X) (hg : X.grownBy w' r) (hr : ∀ k, r = some k → w.heap.size ≤ k) : Keep rb w w' :=
  ⟨hg.os.trans h.os, hg.tape.trans h.tape, hg.output.trans h.output, Nat.le_trans h.size hg.size, fun k hk hn => (hg.block k (Nat.lt_of_lt_of_le hk h.size) (fun e => by have := hr k e.symm; omega)).trans (h.block k hk hn)⟩
def sliceN : Value → Nat | .slice _ n _ => n | _ => 0
theorem rows_lit0 {w : World} {b : Nat} (hb : b = w.heap.size) {base : Nat} (h : base ≤ w.heap.size) : RowsV base (w.alloc (.cells #[] 24)) (.slice (some ⟨b, 0, none⟩) 0 0) [] := by
  subst hb
  exact ⟨[], fun _ => 0, OwnV.lit #[] _ h rfl (by decide), rfl, fun i hi => by simp at hi, fun i hi => by simp at hi, fun i j hi => by simp at hi⟩
/-- One more row. -/
theorem RowsAt.pushA {base : Nat} {w w' W : World} {v v' u : Value} {zss : List (List Int)} {z : List Int} {us : List Value} {g : Nat → Nat} (h : RowsAt base w v zss us g) (hbase : base ≤ w.heap.size) (hA : Agree base w.heap.size w W) (hs : w.heap.size ≤ W.heap.size) (ho : Own w.heap.size W.heap.size W u z)
    (h' : OwnV w' base 24 v' (us ++ [u])) (hg : W.grownBy w' v.ownBlock) (hn : v'.ownBlock = v.ownBlock ∨ v'.ownBlock = some W.heap.size) : RowsV base w' v' (zss ++ [z]) := by
  obtain ⟨k, ok, hk⟩ := own_point ho
  have hs' := hg.size
  refine ⟨us ++ [u], fun i => if i = zss.length then k else g i, h', by simp [h.len], fun i hi => ?_, fun i hi h0 => ?_, fun i j hi hj hne hi0 hj0 => ?_⟩
  · have hi' : i < zss.length ∨ i = zss.length := by simp at hi; omega
    rcases hi' with hi' | rfl
    · rw [if_neg (by omega), getD_left _ _ _ hi', getD_left _ _ _ (by rw [h.len]; exact hi')]
      by_cases h0 : zss.getD i [] = []
      · have := h.row i hi'
        rw [h0] at this ⊢
        exact own_nil this _ _
      · obtain ⟨k1, k2, k3⟩ := h.at_ i hi' h0
        refine (h.row i hi').agree fun j j1 j2 => ?_
        obtain rfl : j = g i := by omega
        rw [hg.block _ (by omega) (fun e => k3 e.symm), hA _ k1 k2]
    · rw [if_pos rfl, getD_right, ← h.len, getD_right]
      by_cases h0 : z = []
      · rw [h0] at ok ⊢
        exact own_nil ok _ _
      · obtain ⟨k1, k2⟩ := hk h0
        refine ok.agree fun j j1 j2 => ?_
        obtain rfl : j = k := by omega
        exact hg.block _ k2 (fun e => by have := (h.own.lt j e.symm).2; omega)
  · have hi' : i < zss.length ∨ i = zss.length := by simp at hi; omega
    rcases hi' with hi' | rfl
    · rw [getD_left _ _ _ hi'] at h0
      rw [if_neg (by omega)]
      obtain ⟨k1, k2, k3⟩ := h.at_ i hi' h0
      refine ⟨k1, by omega, ?_⟩
      rcases hn with e | e
      · rw [e]; exact k3
      · rw [e]; intro e2; injection e2 with e3; omega
    · rw [getD_right] at h0
      rw [if_pos rfl]
      obtain ⟨k1, k2⟩ := hk h0
      refine ⟨by omega, by omega, ?_⟩
      rcases hn with e | e
      · rw [e]; intro e2; have := (h.own.lt _ e2).2; omega
      · rw [e]; intro e2; injection e2 with e3; omega
  · have hi' : i < zss.length ∨ i = zss.length := by simp at hi; omega
    have hj' : j < zss.length ∨ j = zss.length := by simp at hj; omega
    rcases hi' with hi' | rfl
    · rw [getD_left _ _ _ hi'] at hi0
      rw [if_neg (by omega)]
      obtain ⟨k1, k2, k3⟩ := h.at_ i hi' hi0
      rcases hj' with hj' | rfl
      · rw [getD_left _ _ _ hj'] at hj0
        rw [if_neg (by omega)]
        exact h.apart i j hi' hj' hne hi0 hj0
      · rw [getD_right] at hj0
        rw [if_pos rfl]
        have := (hk hj0).1
        omega
    · rw [getD_right] at hi0
      rw [if_pos rfl]
      have := (hk hi0).1
      rcases hj' with hj' | rfl
      · rw [getD_left _ _ _ hj'] at hj0
        rw [if_neg (by omega)]
        obtain ⟨k1, k2, k3⟩ := h.at_ j hj' hj0
        omega
      · exact absurd rfl hne
theorem lit_pickB {rb : Nat} {w w' : World} {x : Int} {t : TypeId} {k : Nat} (hK : Keep rb (w.alloc (.cells #[.int .i64 0, .int .i64 x, .int .i64 15] t)) w') (hr : rb < w.heap.size) (hx : byteB x = true) (hk : k < 3) :
    ∃ m : Int, w'.cell? ⟨w.heap.size, k, none⟩ = some (.int .i64 m) ∧ byteB m = true := by
  have e : w'.cell? ⟨w.heap.size, k, none⟩ = (#[.int .i64 0, .int .i64 x, .int .i64 15] : Array Value)[k]? := by
    rw [hK.cells.1 _ _ (by simp) (by omega), World.cell?_alloc_new]
  rcases (show k = 0 ∨ k = 1 ∨ k = 2 by omega) with rfl | rfl | rfl
  · exact ⟨0, e, rfl⟩
  · exact ⟨x, e, hx⟩
  · exact ⟨15, e, rfl⟩
/-- One to three banks of 256 bytes. -/
def Banks (zss : List (List Int)) (n : Nat) : Prop := zss.length = n ∧ zss.all bankB = true
def PicksRom (rb B : Nat) (w : World) (e : Ending) (w' : World) : Prop := ∃ v zss, e = .returned v ∧ RowsV w.heap.size w' v zss ∧ banksB zss = true ∧ zss.length ≤ 3 ∧ Reader w' rb (B + 1000) ∧ Keep rb w w'
/-- What is left of the round's part that picks instructions. -/
structure Row (rb : Nat) (W wr : World) (v : Value) (zs : List Int) (B : Nat) : Prop where
  own : OwnV wr W.heap.size 3 v (zs.map (.int .i64))
  byte : zs.all byteB = true
  rd : Reader wr rb B
  keep : Keep rb W wr
end Go.Proofs.YthplgehdgaeapaaDoor
