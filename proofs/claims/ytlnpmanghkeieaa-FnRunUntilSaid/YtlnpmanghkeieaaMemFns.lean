/- The walks of NewMemory, WriteMemory and CopyMemory. No condition. -/
import Derived.Test.YtlnpmanghkeieaaCloneS
import Derived.Test.YtlnpmanghkeieaaMemRead
import Derived.StillTailTactics
namespace Go.Proofs.Ytlnpmanghkeieaa
open Go.RowKit
set_option linter.unusedVariables false

/-- What WriteMemory answers. -/
def wrOk (ram : List Int) (rom : List (List Int)) (bank p x : Int) : Bool := memB ram rom bank && inR p 0 1023 && byteB x
def wrR (ram : List Int) (rom : List (List Int)) (bank p x : Int) : List Int := if wrOk ram rom bank p x then pokeR ram p x else []
def wrM (ram : List Int) (rom : List (List Int)) (bank p x : Int) : List (List Int) := if wrOk ram rom bank p x then rom else []
def wrB (ram : List Int) (rom : List (List Int)) (bank p x : Int) : Int := if wrOk ram rom bank p x then pokeB rom bank p x else 0
theorem own_nilV (lo hi : Nat) (w : World) : Own lo hi w (.slice none 0 0) [] := ⟨none, 0, rfl, Nat.le_refl _, Nat.zero_le _, .inl rfl⟩
theorem ownMat_nilV (lo hi : Nat) (w : World) : OwnMat lo hi w (.slice none 0 0) [] := ⟨none, 0, rfl, Nat.le_refl _, Nat.zero_le _, .inl rfl⟩
theorem ownMem_zero {lo hi : Nat} {w : World} (h : lo ≤ hi) : OwnMem lo hi w (.agg #[.slice none 0 0, .slice none 0 0, .int .i64 0]) [] [] 0 :=
  ⟨_, _, lo, lo, lo, lo, rfl, ⟨Nat.le_refl _, h, Nat.le_refl _, h, .inl (Nat.le_refl _)⟩, own_nilV _ _ _, ownMat_nilV _ _ _⟩
theorem madeMem_of {ram ram' : List Int} {rom rom' : List (List Int)} {bank bank' : Int} {w : World} {e : Ending} {w' : World} (h : MadeMem ram rom bank w e w') (h1 : ram = ram') (h2 : rom = rom') (h3 : bank = bank') : MadeMem ram' rom' bank' w e w' := by
  subst h1 h2 h3; exact h
/-- Behind a copy: the box of the variable, the copy in it. -/
theorem memIn_new {w w1 : World} {a b : Option Addr} {c d : Nat} {ram : List Int} {rom : List (List Int)} {bank : Int} {lo : Nat} {e : TypeId} (h : OwnMem lo w1.heap.size w1 (.agg #[.slice a ram.length c, .slice b rom.length d, .int .i64 bank]) ram rom bank) :
    ∃ l1 t1 l2 t2, lo ≤ l1 ∧ lo ≤ l2 ∧ t1 ≤ w1.heap.size ∧ t2 ≤ w1.heap.size ∧ ∀ L, L ≤ lo → L ≤ w1.heap.size → MemIn L (w1.alloc (.cells #[.slice a ram.length c, .slice b rom.length d, .int .i64 bank] e)) w1.heap.size ram rom bank a c b d l1 t1 l2 t2 := by
  obtain ⟨x, y, l1, t1, l2, t2, e0, ⟨a1, b1, a2, b2, sp⟩, o1, o2⟩ := h
  simp only [Value.agg.injEq, Array.mk.injEq, List.cons.injEq, and_true] at e0
  obtain ⟨rfl, rfl⟩ := e0
  refine ⟨l1, t1, l2, t2, a1, a2, b1, b2, fun L hL hL2 => ⟨by simp [go_sem], by simp [go_sem], by simp [go_sem], by simp [go_sem], hL2, by omega, by omega, by simp; omega, by simp; omega, sp, .inr b1, .inr b2, ?_, ?_⟩⟩
  · exact o1.agree ((Agree.refl _ _ _).alloc b1 _)
  · exact o2.agree ((Agree.refl _ _ _).alloc b2 _)
theorem wr_no {ram : List Int} {rom : List (List Int)} {bank p x : Int} (h : wrOk ram rom bank p x = false) : wrR ram rom bank p x = [] ∧ wrM ram rom bank p x = [] ∧ wrB ram rom bank p x = 0 := by simp [wrR, wrM, wrB, h]
theorem wr_yes {ram : List Int} {rom : List (List Int)} {bank p x : Int} (h : wrOk ram rom bank p x = true) : wrR ram rom bank p x = pokeR ram p x ∧ wrM ram rom bank p x = rom ∧ wrB ram rom bank p x = pokeB rom bank p x := by simp [wrR, wrM, wrB, h]
theorem sizes_of {ram : List Int} {rom : List (List Int)} {bank : Int} (h : memB ram rom bank = true) : ram.length ≤ 1000000000 ∧ rom.length ≤ 1048576 ∧ sumLen rom ≤ 1000000000 := by
  have hs := shp_of h
  have h1 := hs.r
  have h4 := hs.n4
  refine ⟨by omega, by omega, ?_⟩
  have key : ∀ zss : List (List Int), (∀ z ∈ zss, z.length = 256) → sumLen zss = 256 * zss.length := by
    intro zss
    induction zss with
    | nil => intro _; rfl
    | cons z r ih =>
      intro hz
      have := ih (fun y hy => hz y (List.mem_cons_of_mem _ hy))
      have h0 := hz z (List.mem_cons_self ..)
      simp only [sumLen, List.map_cons, List.sum_cons, List.length_cons] at this ⊢
      omega
  have := key rom (fun z hz => by
    obtain ⟨i, hi, rfl⟩ := List.getElem_of_mem hz
    have := hs.row i hi
    rwa [List.getD_eq_getElem?_getD, List.getElem?_eq_getElem hi] at this)
  omega
theorem bcellN {n : Nat} {W w1 : World} (hb : Below n W w1) : (∀ b o, b < n → w1.cell? ⟨b, o, none⟩ = W.cell? ⟨b, o, none⟩) ∧ (∀ b o, b < n → w1.frozen? ⟨b, o, none⟩ = W.frozen? ⟨b, o, none⟩) :=
  ⟨fun b o h => hb.cell (p := ⟨b, o, none⟩) h, fun b o h => hb.frozen (p := ⟨b, o, none⟩) h⟩
/-- What NewMemory answers. -/
def zeros : List Int := List.replicate 256 0
def nwOk (rom : List (List Int)) : Bool := memB zeros rom 0
def nwR (rom : List (List Int)) : List Int := if nwOk rom then zeros else []
def nwM (rom : List (List Int)) : List (List Int) := if nwOk rom then rom else []
theorem zeros_len : zeros.length = 256 := List.length_replicate ..
theorem zeros_at (i : Nat) : zeros.getD i 0 = 0 := by
  unfold zeros
  rw [List.getD_eq_getElem?_getD, List.getElem?_replicate]
  split <;> rfl
theorem own_made {w : World} {b : Nat} (h : w.rowIs b 3 256 (fun _ => .int .i64 0)) : Own b (b + 1) w (.slice (some ⟨b, 0, none⟩) 256 256) zeros :=
  ⟨_, 256, by rw [zeros_len], by rw [zeros_len]; exact Nat.le_refl _, by decide, .inr ⟨b, 0, rfl, Nat.le_refl _, Nat.lt_succ_self _, fun i hi => by
    rw [zeros_len] at hi
    rw [Nat.zero_add]
    exact ⟨by rw [h.cell hi, zeros_at], h.frozen i⟩⟩⟩
theorem rowIs_new {W : World} {b : Nat} (he : b = W.heap.size) : (W.alloc (.cells (madeCells #[.int .i64 0] 256) 3)).rowIs b 3 256 (fun _ => .int .i64 0) := by
  subst he; exact World.rowIs_made W (.int .i64 0) 256 3
theorem rowIs_below {W w' : World} {b e n : Nat} {f : Nat → Value} (hb : Below W.heap.size W w') (h : W.rowIs b e n f) : w'.rowIs b e n f := h.of_block (hb.block b h.lt)
theorem rowIs_sc {W : World} {b e n q i : Nat} {f : Nat → Value} {v : Value} (h : W.rowIs b e n f) (hn : b ≠ q) : (W.setCell ⟨q, i, none⟩ v).rowIs b e n f := h.setOther hn v
theorem rowIs_alloc {W : World} {b e n : Nat} {f : Nat → Value} (o : Obj) (h : W.rowIs b e n f) : (W.alloc o).rowIs b e n f := h.alloc o
theorem rowIs_drew {W : World} {b e n : Nat} {f : Nat → Value} (h : W.rowIs b e n f) : W.drew.rowIs b e n f := h
structure BegunN (X wx : World) (O : Nat) (a1 : Option Addr) (c1 : Nat) (b1 : Option Addr) (d1 : Nat) (rom : List (List Int)) (l1 t1 l2 t2 : Nat) : Prop where
  box : Six wx O (.slice a1 256 c1) (.slice b1 rom.length d1) (.int .i64 0)
  o : Own l1 t1 wx (.slice a1 256 c1) zeros
  m : OwnMat l2 t2 wx (.slice b1 rom.length d1) rom
  p1 : X.heap.size ≤ l1
  p2 : X.heap.size ≤ l2
  q1 : t1 ≤ wx.heap.size
  q2 : t2 ≤ wx.heap.size
  sep : t1 ≤ l2 ∨ t2 ≤ l1
  lt : X.heap.size ≤ O
  be : Below X.heap.size X wx
theorem begunN_mk {X wx : World} {O m : Nat} {b1 : Option Addr} {d1 l2 t2 : Nat} {rom : List (List Int)} (box : Six wx O (.slice (some ⟨m, 0, none⟩) 256 256) (.slice b1 rom.length d1) (.int .i64 0)) (row : wx.rowIs m 3 256 (fun _ => .int .i64 0)) (mat : OwnMat l2 t2 wx (.slice b1 rom.length d1) rom)
    (p1 : X.heap.size ≤ m) (p2 : X.heap.size ≤ l2) (q2 : t2 ≤ wx.heap.size) (sep : m + 1 ≤ l2 ∨ t2 ≤ m) (lt : X.heap.size ≤ O) (be : Below X.heap.size X wx) :
    ∃ O' a1 c1 b1 d1 l1 t1 l2 t2, Value.pointer (some ⟨O, 0, none⟩) = .pointer (some ⟨O', 0, none⟩) ∧ BegunN X wx O' a1 c1 b1 d1 rom l1 t1 l2 t2 :=
  ⟨_, _, _, _, _, m, m + 1, _, _, rfl, box, own_made row, mat, p1, p2, row.lt, q2, sep, lt, be⟩
/-- .. and the zero value where there is no such memory. -/
def MadeMemZ (rom : List (List Int)) (w : World) (e : Ending) (w' : World) : Prop := ∃ v, e = .returned v ∧ OwnMem w.heap.size w'.heap.size w' v (nwR rom) (nwM rom) 0 ∧ Below w.heap.size w w' ∧ (nwOk rom = false → v = .agg #[.slice none 0 0, .slice none 0 0, .int .i64 0])
theorem three_lit {W : World} {b : Nat} {x y z : Value} {e : TypeId} (he : b = W.heap.size) : Three (W.alloc (.cells #[x, y, z] e)) b x y z := by
  subst he
  refine ⟨?_, ?_, ?_⟩ <;> simp [go_sem]
theorem three_within {l h : Nat} {W w' : World} {p : Nat} {a b c : Value} (hw : Within l h W w') (t : Three W p a b c) (hd : p < l ∨ h ≤ p) : Three w' p a b c := by
  obtain ⟨h1, h2, h3⟩ := t
  have lp := block_lt_of_cell h1
  exact ⟨(World.cell?_of_block (a := ⟨p, 0, none⟩) (hw.block p lp hd)).trans h1, (World.cell?_of_block (a := ⟨p, 1, none⟩) (hw.block p lp hd)).trans h2, (World.cell?_of_block (a := ⟨p, 2, none⟩) (hw.block p lp hd)).trans h3⟩
theorem mem_old {W w' : World} {v : Value} {ram : List Int} {rom : List (List Int)} {bank : Int} (h : MemV W v ram rom bank) (hb : Below W.heap.size W w') : MemV w' v ram rom bank := h.below hb
theorem below_from {n : Nat} {a b c : World} (h : Below n a b) (k : Below b.heap.size b c) (hn : n ≤ b.heap.size) : Below n a c := h.trans (k.mono hn)
end Go.Proofs.Ytlnpmanghkeieaa
