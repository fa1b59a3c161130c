/- Contracts: whether a text is a name, in the program and in the reference: one and the same test. No condition but that the text is one that memory holds. -/
import Derived.Test.YtapogcdihapjjaaNum
import Derived.Laws.IdiomStrings
import Derived.Laws.Rows
import Derived.Lib.Strings
namespace Go.Proofs.Ytapogcdihapjjaa
open Go.ChangeShapes Go.WideShapes Go.ChangeAt Go.RowKit

def letterP (c : UInt8) : Prop := 97 ≤ (c.toNat : Int) ∧ (c.toNat : Int) ≤ 122
def digitP (c : UInt8) : Prop := 48 ≤ (c.toNat : Int) ∧ (c.toNat : Int) ≤ 57
instance (c : UInt8) : Decidable (letterP c) := by unfold letterP; infer_instance
instance (c : UInt8) : Decidable (digitP c) := by unfold digitP; infer_instance
/-- The byte at k fits a name. -/
def goodAt (s : ByteArray) (k : Nat) : Prop := ∀ h : k < s.size, letterP s[k] ∨ (0 < k ∧ digitP s[k])
def nameP (s : ByteArray) : Prop := 1 ≤ s.size ∧ s.size ≤ 10 ∧ ∀ k, k < s.size → goodAt s k
/-- s is a name. -/
noncomputable def nameB (s : ByteArray) : Bool := @decide (nameP s) (Classical.propDecidable _)
theorem nameB_true {s : ByteArray} (h : nameP s) : nameB s = true := @decide_eq_true _ (Classical.propDecidable _) h
theorem nameB_false {s : ByteArray} (h : ¬ nameP s) : nameB s = false := @decide_eq_false _ (Classical.propDecidable _) h

theorem good_letter {s : ByteArray} {k : Nat} {h : k < s.size} (hl : 97 ≤ (s[k].toNat : Int)) (hh : (s[k].toNat : Int) ≤ 122) : goodAt s k := fun _ => .inl ⟨hl, hh⟩
theorem good_digit {s : ByteArray} {k : Nat} {h : k < s.size} (hk : 0 < k) (hl : 48 ≤ (s[k].toNat : Int)) (hh : (s[k].toNat : Int) ≤ 57) : goodAt s k := fun _ => .inr ⟨hk, hl, hh⟩
theorem bad_other {s : ByteArray} {k : Nat} {h : k < s.size} (h1 : ¬ letterP s[k]) (h2 : ¬ digitP s[k]) : ¬ nameP s := fun hn => by
  rcases hn.2.2 k h h with h3 | h3
  · exact h1 h3
  · exact h2 h3.2
theorem bad_first {s : ByteArray} {h : 0 < s.size} (h1 : ¬ letterP s[0]) : ¬ nameP s := fun hn => by
  rcases hn.2.2 0 h h with h3 | h3
  · exact h1 h3
  · omega
theorem all_succ {s : ByteArray} {k : Nat} (h : ∀ j, j < k → goodAt s j) (hk : goodAt s k) : ∀ j, j < k + 1 → goodAt s j := fun j hj => by
  rcases Nat.lt_or_eq_of_le (Nat.le_of_lt_succ hj) with h1 | rfl
  · exact h j h1
  · exact hk

/-- The bytes of a string, made a slice. -/
theorem conv_bytes (s : ByteArray) (w : World) : ∃ cap wc, (convert 9 41 (.string s)).run Try.prog w = .ok (.slice (some ⟨w.heap.size, 0, none⟩) s.size cap) wc ∧
    (∀ k (h : k < s.size), wc.cell? ⟨w.heap.size, k, none⟩ = some (.int .u8 (s[k].toNat : Int))) ∧ Below w.heap.size w wc := by
  refine ⟨_, _, run_bytes_of_string w 9 41 5 s Try.underlying9 Try.underlying41 Try.underlying5, ?_, ?_⟩
  · intro k h
    rw [cell_of_row _ w.heap.size k _ _ _ (heap_alloc_new w.drew _)]
    exact bytesRow_at s _ k h
  · exact (Below.refl _ _).drew.alloc (Nat.le_refl _) _

end Go.Proofs.Ytapogcdihapjjaa
