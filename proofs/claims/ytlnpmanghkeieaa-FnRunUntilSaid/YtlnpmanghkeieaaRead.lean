/- What an argument of a law reads as: a value of each parameter type that can be read as data has the plain form that its word says. No condition. -/
import Derived.Test.YtlnpmanghkeieaaRows
import Derived.Test.YtlnpmanghkeieaaKit
import Derived.ShutString
import Derived.ChangeOld
import Derived.Lib.SmallJoins
import Derived.Deep.Matrix
namespace Go.Proofs.Ytlnpmanghkeieaa
open Go.ChangeShapes Go.WideShapes Go.ChangeAt Go.RowKit Go.Joins
open Go.ChangeMaps (open_string shut_string)

theorem own : ownKnob Try.prog.godebug = none := by kernel_rfl
theorem laidOut : laidOutB Try.prog = true := by kernel_rfl

/-- The head of the translation, word by word, each sign by its number. -/
def init1 : List Char := [104, 97, 114, 110, 101, 115, 115].map Char.ofNat
def init2 : List Char := [53, 52, 52, 49, 55, 50, 53, 54, 97, 49, 56, 48, 100, 102, 52, 97, 56, 101, 54, 53, 48, 98, 50, 56, 52, 57, 56, 101, 98, 54, 52, 49, 54, 101, 51, 56, 50, 100, 48, 51, 54, 51, 51, 98, 99, 56, 102, 50, 51, 50, 52, 98, 97, 53, 100, 97, 100, 100, 97, 98, 98, 97, 101, 53].map Char.ofNat
def init3 : List Char := [99, 117, 116].map Char.ofNat
def initR : List Char := [97, 116, 32, 108, 111, 111, 112, 46, 101, 120, 97, 109, 112, 108, 101, 47, 104, 111, 109, 101, 99, 111, 110, 115, 111, 108, 101, 47, 108, 97, 119, 115, 46, 70, 110, 82, 117, 110, 85, 110, 116, 105, 108].map Char.ofNat
theorem words_word (r : List Char) : ∀ w : List Char, (∀ c ∈ w, c ≠ Char.ofNat 32) → wordsSigns (w ++ Char.ofNat 32 :: r) = w :: wordsSigns r
  | [], _ => rfl
  | c :: w, h => by
    have ih := words_word r w (fun x hx => h x (List.mem_cons_of_mem _ hx))
    have hc := h c (List.mem_cons_self ..)
    rw [List.cons_append]
    conv => lhs; unfold wordsSigns
    split
    · rename_i e; cases e
    · rename_i e; injection e with e1 _; exact absurd e1 hc
    · rename_i e; injection e with e1 e2; subst e1 e2; rw [ih]
set_option maxRecDepth 100000 in
theorem init_list : Try.prog.initOrder.toList = init1 ++ Char.ofNat 32 :: (init2 ++ Char.ofNat 32 :: (init3 ++ Char.ofNat 32 :: initR)) := by
  have h : Try.prog.initOrder = String.ofList (init1 ++ Char.ofNat 32 :: (init2 ++ Char.ofNat 32 :: (init3 ++ Char.ofNat 32 :: initR))) := by kernel_rfl
  rw [h, String.toList_ofList]
theorem behind_of (X : List (List Char)) : behindMainWord (init1 :: init2 :: init3 :: X) = init3 :: X := by kernel_rfl
theorem init_words : wordsSigns (init1 ++ Char.ofNat 32 :: (init2 ++ Char.ofNat 32 :: (init3 ++ Char.ofNat 32 :: initR))) = init1 :: init2 :: init3 :: wordsSigns initR := by
  rw [words_word _ _ (by decide +kernel), words_word _ _ (by decide +kernel), words_word _ _ (by decide +kernel)]
theorem init_behind : behindMainWord (wordsSigns Try.prog.initOrder.toList) = init3 :: wordsSigns initR := by rw [init_list, init_words, behind_of]
theorem strip_of (X : List (List Char)) : stripLifts liftWords (init3 :: X) = ([], init3 :: X) := by kernel_rfl
theorem enter_of (P : Program) (X : List (List Char)) (h : behindMainWord (wordsSigns P.initOrder.toList) = init3 :: X) (h1 : P.laysLater = false) (h2 : P.bearsReflect = false) (h3 : P.doorFits [] = true) : P.mayEnter = true := by
  unfold Program.mayEnter
  rw [h]
  simp only [strip_of, h1, h2, h3]
  kernel_rfl
theorem lifts_of (P : Program) (X : List (List Char)) (h : behindMainWord (wordsSigns P.initOrder.toList) = init3 :: X) : P.liftsFinal = false := by
  unfold Program.liftsFinal Program.headLifts
  rw [h]
  simp only [strip_of]
  kernel_rfl
theorem make_of (P : Program) (X : List (List Char)) (h : behindMainWord (wordsSigns P.initOrder.toList) = init3 :: X) : P.make = some .cut := by
  unfold Program.make
  rw [h]
  kernel_rfl
theorem shared1 : Try.prog.mayEnter = true := enter_of _ _ init_behind (by kernel_rfl) (by kernel_rfl) (by kernel_rfl)
theorem shared2 : Try.prog.liftsFinal = false := lifts_of _ _ init_behind
theorem shared3 : Try.prog.make = some .cut := make_of _ _ init_behind
/-- Four facts on the whole program, which every row asks. -/
theorem shared : Try.prog.stopsHeard = true ∧ Try.prog.mayEnter = true ∧ Try.prog.liftsFinal = false ∧ Try.prog.make = some .cut := ⟨by kernel_rfl, shared1, shared2, shared3⟩

set_option maxRecDepth 100000
section
variable {H : Type} {enc : TypeId × Value → H} {W : World} {base : Nat} {v : Value} {d : DataW H} {p : List MemPlace}

def IsInt (_ : World) (v : Value) : Prop := ∃ n : Int, v = .int .i64 n
theorem read_int (hv : Value.okWide Try.prog W .any base 3 v) (h : DataW.Trod enc Try.prog W 0 (fun _ => true) true 3 v d p) : IsInt W v := by
  obtain ⟨a, rfl, rfl, rfl, wa⟩ := open_int Try.underlying3 hv h
  exact ⟨a, rfl⟩
def IsBool (_ : World) (v : Value) : Prop := ∃ b : Bool, v = .bool b
theorem read_bool (hv : Value.okWide Try.prog W .any base 4 v) (h : DataW.Trod enc Try.prog W 0 (fun _ => true) true 4 v d p) : IsBool W v := by
  obtain ⟨b, rfl, rfl, rfl⟩ := open_bool Try.underlying4 hv h
  exact ⟨b, rfl⟩
theorem addr_add (b off i : Nat) : (⟨b, off, none⟩ : Addr).add i = ⟨b, off + i, none⟩ := by
  by_cases h : i = 0
  · subst h; simp [Addr.add]
  · simp [Addr.add, h]
/-- What a law is handed: a list of bytes. -/
def IsBytes (w : World) (v : Value) : Prop := ∃ (a : Option Addr) (len cap : Nat) (zs : List Int), v = .slice a len cap ∧ len ≤ cap ∧ cap ≤ maxLen ∧ (len = 0 ∨ ∃ b off, a = some ⟨b, off, none⟩ ∧ ∀ i, i < len → w.cell? ⟨b, off + i, none⟩ = some (.int .u8 (zs.getD i 0))) ∧ ∀ i, 0 ≤ zs.getD i 0 ∧ zs.getD i 0 ≤ 255
theorem IsBytes.below {w w' : World} {v : Value} (h : IsBytes w v) (hb : Below w.heap.size w w') : IsBytes w' v := by
  obtain ⟨a, len, cap, zs, rfl, h1, h2, hc, hy⟩ := h
  refine ⟨a, len, cap, zs, rfl, h1, h2, ?_, hy⟩
  rcases hc with h0 | ⟨b, off, rfl, hc⟩
  · exact .inl h0
  · exact .inr ⟨b, off, rfl, fun i hi => (hb.cell (p := ⟨b, off + i, none⟩) (block_lt_of_cell (hc i hi))).trans (hc i hi)⟩
theorem read_bytes (hv : Value.okWide Try.prog W .any base 22 v) (h : DataW.Trod enc Try.prog W 0 (fun _ => true) true 22 v d p) : IsBytes W v := by
  obtain ⟨a, len, cap, rfl⟩ := okWide_slice Try.underlying22 hv
  obtain ⟨fuel, hf⟩ := h
  rcases open_ints Try.underlying22 Try.underlying5 (by kernel_rfl) hf with ⟨hcs, _⟩ | ⟨x, l, c, zs, hcs, _, hl, hm, hz, _, hcell, hwz⟩
  · simp [Value.cells] at hcs
    obtain ⟨rfl, rfl, rfl⟩ := hcs
    exact ⟨_, _, _, [], rfl, Nat.le_refl _, Nat.zero_le _, .inl rfl, fun i => by simp⟩
  · simp [Value.cells] at hcs
    obtain ⟨rfl, rfl, rfl⟩ := hcs
    simp only [if_true] at hz
    refine ⟨_, _, _, zs, rfl, hl, hm, ?_, fun i => ?_⟩
    · by_cases h0 : len = 0
      · exact .inl h0
      · obtain ⟨b, off, spot⟩ := x
        have hc := hcell 0 (by omega)
        have hspot : spot = none := by simpa [Addr.add] using World.cell?_spot hc
        subst hspot
        exact .inr ⟨b, off, rfl, fun i hi => by rw [← addr_add b off i]; exact hcell i (by omega)⟩
    · by_cases hi : i < zs.length
      · have hm := hwz (zs.getD i 0) (by rw [List.getD_eq_getElem?_getD, List.getElem?_eq_getElem hi]; exact List.getElem_mem hi)
        simpa [Lit.wf, IntKind.min, IntKind.max, IntKind.signed, IntKind.bits] using hm
      · rw [List.getD_eq_getElem?_getD, List.getElem?_eq_none (by omega)]; simp
end
end Go.Proofs.Ytlnpmanghkeieaa
