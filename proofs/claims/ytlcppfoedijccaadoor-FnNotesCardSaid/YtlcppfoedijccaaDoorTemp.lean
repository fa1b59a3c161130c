/- Contracts on temperaments: the law's copy, comparison and measure; whether one is valid; whether two are the same. -/
import Derived.Test.YtlcppfoedijccaaDoorOwn
import Derived.Test.YtlcppfoedijccaaDoorName
namespace Go.Proofs.YtlcppfoedijccaaDoor
open Go.ChangeShapes Go.WideShapes Go.ChangeAt Go.RowKit
set_option maxRecDepth 100000

theorem eq_no {xs ys : List Int} {k : Nat} {x y : Int} (hx : xs[k]? = some x) (hy : ys[k]? = some y) (h : x ≠ y) : decide (xs = ys) = false :=
  decide_eq_false fun e => by subst e; rw [hx] at hy; cases hy; exact h rfl
theorem eq_succ {xs ys : List Int} {k : Nat} {x y : Int} (hall : ∀ j, j < k → xs[j]? = ys[j]?) (hx : xs[k]? = some x) (hy : ys[k]? = some y) (h : x = y) : ∀ j, j < k + 1 → xs[j]? = ys[j]? := by
  intro j hj
  rcases Nat.lt_or_eq_of_le (Nat.le_of_lt_succ hj) with h1 | rfl
  · exact hall j h1
  · rw [hx, hy, h]
theorem eq_yes {xs ys : List Int} {n : Nat} (hx : xs.length = n) (hy : ys.length = n) (hall : ∀ j, j < n → xs[j]? = ys[j]?) : decide (xs = ys) = true := by
  apply decide_eq_true
  apply List.ext_getElem?
  intro j
  by_cases h : j < n
  · exact hall j h
  · rw [List.getElem?_eq_none (by omega), List.getElem?_eq_none (by omega)]
/-- A new temperament with these offsets. -/
def NewTemp (w : World) (s : ByteArray) (n : Nat) (zs : List Int) (e : Ending) (w' : World) : Prop :=
  ∃ g c, e = .returned (.agg #[.string s, .slice (some ⟨g, 0, none⟩) n c]) ∧ w.heap.size ≤ g ∧ w'.ownsRow w.heap.size 2 1 (.slice (some ⟨g, 0, none⟩) n c) n (zs.map (Value.int .i64)) ∧ Below w.heap.size w w'
def sameT (s s' : ByteArray) (xs ys : List Int) : Bool := decide (s = s') && decide (xs = ys)
end Go.Proofs.YtlcppfoedijccaaDoor
