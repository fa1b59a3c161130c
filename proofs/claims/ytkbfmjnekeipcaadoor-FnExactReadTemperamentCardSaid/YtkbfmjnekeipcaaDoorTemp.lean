/- Contracts on temperaments: the law's copy, comparison and measure; whether one is valid; whether two are the same. -/
import Derived.Test.YtkbfmjnekeipcaaDoorOwn
import Derived.Test.YtkbfmjnekeipcaaDoorName
namespace Go.Proofs.YtkbfmjnekeipcaaDoor
open Go.ChangeShapes Go.WideShapes Go.ChangeAt Go.RowKit
set_option maxRecDepth 100000

/-- A new temperament with these offsets. -/
def NewTemp (w : World) (s : ByteArray) (n : Nat) (zs : List Int) (e : Ending) (w' : World) : Prop :=
  ∃ g c, e = .returned (.agg #[.string s, .slice (some ⟨g, 0, none⟩) n c]) ∧ w.heap.size ≤ g ∧ w'.ownsRow w.heap.size 2 1 (.slice (some ⟨g, 0, none⟩) n c) n (zs.map (Value.int .i64)) ∧ Below w.heap.size w w'
theorem eqTemp_same (s : ByteArray) (A B : Option Addr) (n m c d : Nat) (zs : List Int) (w : World) (ha : IntsAt w A n zs) (hb : IntsAt w B m zs) (hn : n ≤ 1048576) (hm : m ≤ 1048576) :
    Calls Tryd.prog 32 #[.agg #[.string s, .slice A n c], .agg #[.string s, .slice B m d]] w fun e w' => e = .returned (.bool true) ∧ Below w.heap.size w w' := by
  have h1 := Lib.hid ha
  have h2 := Lib.hid hb
  clear ha hb
  go_enter Tryd.func32, Tryd.ntmps32
  go_wp2_with fail
  refine (eqInt64S_any _ _ _ _ _ _ zs zs _ (by repeat (first | exact h1.out | refine IntsAt.alloc ?_ _)) (by repeat (first | exact h2.out | refine IntsAt.alloc ?_ _)) (by omega) (by omega)).mono ?_
  rintro e w' ⟨rfl, k, rfl⟩
  rw [decide_eq_true (rfl : zs = zs)]
  go_wp2
  go_ret
  exact ⟨rfl, below_drewN (by repeat (first | exact Below.refl _ _ | refine Below.alloc ?_ (by first | omega | (simp; omega) | simp) _)) k⟩
def sameT (s s' : ByteArray) (xs ys : List Int) : Bool := decide (s = s') && decide (xs = ys)
end Go.Proofs.YtkbfmjnekeipcaaDoor
