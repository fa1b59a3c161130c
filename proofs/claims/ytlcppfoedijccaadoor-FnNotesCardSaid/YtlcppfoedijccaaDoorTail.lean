/- What the laws on functions that return a list of integers share: the list is new memory, written and found again. -/
import Derived.Test.YtlcppfoedijccaaDoorMark
namespace Go.Proofs.YtlcppfoedijccaaDoor
open Go.ChangeShapes Go.WideShapes Go.ChangeAt Go.RowKit
set_option maxRecDepth 100000

/-- A call returns a new list of numbers and a code. -/
def IntsRet (w : World) (zs : List Int) (code : Int) (e : Ending) (w' : World) : Prop :=
  ∃ A n c, e = .returned (.tuple #[.slice A n c, .int .i64 code]) ∧ w'.ownsRow w.heap.size 2 1 (.slice A n c) n (zs.map (Value.int .i64)) ∧ Below w.heap.size w w'
theorem IntsRet.none_ (w : World) (code : Int) {w' : World} (hb : Below w.heap.size w w') : IntsRet w [] code (.returned (.tuple #[.slice none 0 0, .int .i64 code])) w' :=
  ⟨none, 0, 0, rfl, World.ownsRow_nil _ _ _ _, hb⟩
theorem other_row {w1 w2 : World} {b1 : Nat} {e : TypeId} {A1 A2 : Option Addr} {n1 c1 n2 c2 : Nat} {xs1 xs2 : List Value} (ho1 : w1.ownsRow b1 e 1 (.slice A1 n1 c1) n1 xs1) (ho2 : w2.ownsRow w1.heap.size e 1 (.slice A2 n2 c2) n2 xs2) :
    ∀ a, A1 = some a → (Value.slice A2 n2 c2).ownBlock ≠ some a.block := by
  intro a ha he
  subst ha
  have h1 := (ho1.lt a.block rfl).2
  have h2 := (ho2.lt a.block he).1
  omega
theorem below_own {w w2 w3 : World} {b : Nat} {e : TypeId} {A : Option Addr} {n c : Nat} {xs : List Value} (hb : Below w.heap.size w w2) (hle : w.heap.size ≤ b) (ho : w2.ownsRow b e 1 (.slice A n c) n xs) (hg : w2.grownBy w3 (Value.slice A n c).ownBlock) : Below w.heap.size w w3 :=
  hb.grown hg hb.size (fun k hk => Nat.le_trans hle (ho.lt k hk).1)
end Go.Proofs.YtlcppfoedijccaaDoor
