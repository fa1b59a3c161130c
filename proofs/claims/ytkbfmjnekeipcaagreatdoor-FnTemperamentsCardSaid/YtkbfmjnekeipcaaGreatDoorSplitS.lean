/- Contracts of a text divided at each byte of one kind: the reference's loop, and the library's Split. -/
import Derived.Test.YtkbfmjnekeipcaaGreatDoorSplitP
namespace Go.Proofs.YtkbfmjnekeipcaaGreatDoor
open Go.ChangeShapes Go.WideShapes Go.ChangeAt Go.RowKit
set_option maxRecDepth 100000

def StrsAt (w : World) (A : Option Addr) (n : Nat) (xs : List ByteArray) : Prop := CellsAt w A n 1 (xs.map Value.string)
section
variable {w w' : World} {A : Option Addr} {n : Nat} {xs : List ByteArray}
theorem StrsAt.len (h : StrsAt w A n xs) : xs.length = n := by have := h.1; simpa using this
theorem StrsAt.at_ (h : StrsAt w A n xs) {k : Nat} (hk : k < n) : ∃ b off x, A = some ⟨b, off, none⟩ ∧ b < w.heap.size ∧ xs[k]? = some x ∧ w.cell? ⟨b, off + k, none⟩ = some (.string x) := by
  obtain ⟨b, off, e, hlt, hc⟩ := h.2 (by omega)
  have hl := h.len
  have hz : xs[k]? = some (xs[k]'(by omega)) := List.getElem?_eq_getElem (by omega)
  exact ⟨b, off, _, e, hlt, hz, hc k _ (by rw [List.getElem?_map, hz]; rfl)⟩
theorem StrsAt.below (h : StrsAt w A n xs) (hb : Below w.heap.size w w') : StrsAt w' A n xs := CellsAt.below h hb
theorem StrsAt.alloc (h : StrsAt w A n xs) (o : Obj) : StrsAt (w.alloc o) A n xs := h.below ((Below.refl _ _).alloc (Nat.le_refl _) o)
theorem StrsAt.of_own {base : Nat} {e : TypeId} {c : Nat} (h : w.ownsRow base e 1 (.slice A n c) n (xs.map Value.string)) : StrsAt w A n xs := CellsAt.of_own h
theorem StrsAt.grown {row : Option Nat} (h : StrsAt w A n xs) (hb : w.grownBy w' row) (hne : ∀ a, A = some a → row ≠ some a.block) : StrsAt w' A n xs := CellsAt.grown h hb hne
end
/-- New memory of the call's own that holds these texts. -/
def NewStrs (w : World) (xs : List ByteArray) (e : Ending) (w' : World) : Prop :=
  ∃ A c, e = .returned (.slice A xs.length c) ∧ w'.ownsRow w.heap.size 9 1 (.slice A xs.length c) xs.length (xs.map Value.string) ∧ Below w.heap.size w w'
theorem infoStrS : (Tryz.prog.info? 9).map (fun i => (i.zero, i.size, i.bytes)) = some (some (.string ⟨#[]⟩), 1, 16) := by kernel_rfl
theorem sV_new (w : World) (base g : Nat) (hg : g = w.heap.size) (hb : base ≤ g) : (w.alloc (.cells #[] 9)).ownsRow base 9 1 (.slice (some ⟨g, 0, none⟩) 0 0) 0 ([] : List Value) := by
  subst hg
  exact ⟨by simp, .inr ⟨w.heap.size, 0, #[], rfl, hb, heap_alloc_new w _, Nat.le_refl _, by unfold maxLen; omega, by simp, by simp⟩⟩
theorem mapS_snoc (os : List ByteArray) (x : ByteArray) : os.map Value.string ++ [.string x] = (os ++ [x]).map Value.string := by simp
theorem len_snoc (os : List ByteArray) (x : ByteArray) : os.length + 1 = (os ++ [x]).length := by simp
theorem row_snoc {w : World} {base : Nat} {A : Option Addr} {c : Nat} {os : List ByteArray} {x : ByteArray} (h : w.ownsRow base 9 1 (.slice A (os.length + 1) c) (os.length + 1) (os.map Value.string ++ [.string x])) :
    w.ownsRow base 9 1 (.slice A (os ++ [x]).length c) (os ++ [x]).length ((os ++ [x]).map Value.string) := by
  rw [← mapS_snoc, ← len_snoc]
  exact h
theorem row_snocV {w : World} {base : Nat} {v : Value} {os : List ByteArray} {x : ByteArray} (h : w.ownsRow base 9 1 v (os.length + 1) (os.map Value.string ++ [.string x])) :
    w.ownsRow base 9 1 v (os ++ [x]).length ((os ++ [x]).map Value.string) := by
  rw [← mapS_snoc, ← len_snoc]
  exact h
theorem sp_lens {c : UInt8} {s : ByteArray} {f : Nat} {os : List ByteArray} (h : splitS c s = os ++ [s.extract f s.size]) : (splitS c s).length = os.length + 1 := by rw [h]; simp
theorem split_call (c : UInt8) (s : ByteArray) (w : World) (hm : ∃ m, w.cell? ⟨0, 0, none⟩ = some (.int .i64 m)) (hs : s.size ≤ 1048576) : Calls Tryz.prog 50 #[.string s, .string ⟨#[c]⟩] w fun e w' =>
    ∃ n, e = .returned (.slice (some ⟨w.heap.size, 0, none⟩) n n) ∧ n ≤ 1048577 ∧ StrsAt w' (some ⟨w.heap.size, 0, none⟩) n (splitS c s) ∧ Below w.heap.size w w' := by
  obtain ⟨m, hm⟩ := hm
  refine (Tryz.strings_Split s ⟨#[c]⟩ m w (by omega) hm (Nat.le_refl _)).mono ?_
  rintro e w' ⟨rfl, rfl⟩
  rw [split_is, count_is]
  have hl := splitS_len c s
  refine ⟨_, rfl, by omega, ?_, (Below.refl _ _).alloc (Nat.le_refl _) _⟩
  exact CellsAt.of_block (heap_alloc_new w _) (by simp) (by simp)
/-- The library's variable holds some number: carried from the first world. -/
def MaxLenIs (w : World) : Prop := ∃ m, w.cell? ⟨0, 0, none⟩ = some (.int .i64 m)
theorem MaxLenIs.below {w w' : World} (h : MaxLenIs w) (hb : Below w.heap.size w w') : MaxLenIs w' := by
  obtain ⟨m, hm⟩ := h
  refine ⟨m, ?_⟩
  have hlt : 0 < w.heap.size := by
    rcases Nat.lt_or_ge 0 w.heap.size with h' | h'
    · exact h'
    · unfold World.cell? at hm
      simp only at hm
      rw [Array.getElem?_eq_none h'] at hm
      cases hm
  exact (hb.cell (p := ⟨0, 0, none⟩) hlt).trans hm
end Go.Proofs.YtkbfmjnekeipcaaGreatDoor
