/- Contracts of the law's marks on a temperament of its own: written, and found again. -/
import Derived.Test.YtkbfmjnekeipcaaDoorNamed
namespace Go.Proofs.YtkbfmjnekeipcaaDoor
open Go.ChangeShapes Go.WideShapes Go.ChangeAt Go.RowKit
set_option maxRecDepth 100000

theorem markTemp_any (s : ByteArray) (A : Option Addr) (n c base : Nat) (xs : List Int) (m : Int) (w : World) (ho : w.ownsRow base 2 1 (.slice A n c) n (xs.map (Value.int .i64))) (hn : n ≤ 1099511627776) (h0 : 0 ≤ m) (h1 : m ≤ 1099511627776) :
    Calls Tryd.prog 33 #[.agg #[.string s, .slice A n c], .int .i64 m] w fun e w' => e = .returned (.int .i64 (m + n)) ∧ w'.ownsRow base 2 1 (.slice A n c) n ((marks m n).map (Value.int .i64)) ∧ (w.alloc (.cells #[.string s, .slice A n c] 41)).grownBy w' (Value.slice A n c).ownBlock := by
  have H := Lib.hid (mark_any A n c base xs m _ (ho.alloc (.cells #[.string s, .slice A n c] 41)) hn h0 h1)
  clear ho
  go_enter Tryd.func33, Tryd.ntmps33
  go_wp2_with fail
  refine H.out.mono ?_
  rintro e w1 ⟨rfl, o2, hg2⟩
  go_wp2
  go_ret
  exact ⟨rfl, o2, hg2⟩
theorem heldTemp_any (s : ByteArray) (A : Option Addr) (n c : Nat) (m : Int) (w : World) (h : IntsAt w A n (marks m n)) (hn : n ≤ 1099511627776) (h0 : 0 ≤ m) (h1 : m ≤ 1099511627776) :
    Calls Tryd.prog 34 #[.agg #[.string s, .slice A n c], .int .i64 m] w fun e w' => e = .returned (.int .i64 (m + n)) ∧ Below w.heap.size w w' := by
  have H := Lib.hid (held_any A n c m _ (h.alloc (.cells #[.string s, .slice A n c] 41)) hn h0 h1)
  clear h
  go_enter Tryd.func34, Tryd.ntmps34
  go_wp2_with fail
  refine H.out.mono ?_
  rintro e w' ⟨rfl, rfl⟩
  go_wp2
  go_ret
  exact ⟨rfl, (Below.refl _ _).alloc (Nat.le_refl _) _⟩
/-- A box that the call has made and the marks have not met. -/
theorem cells2_grown {w w' : World} {g : Nat} {a b : Value} {row : Option Nat} (hg : w.grownBy w' row) (hne : some g ≠ row) (c0 : w.cell? ⟨g, 0, none⟩ = some a) (c1 : w.cell? ⟨g, 1, none⟩ = some b) :
    w'.cell? ⟨g, 0, none⟩ = some a ∧ w'.cell? ⟨g, 1, none⟩ = some b := ⟨hg.cell c0 hne, hg.cell c1 hne⟩
end Go.Proofs.YtkbfmjnekeipcaaDoor
