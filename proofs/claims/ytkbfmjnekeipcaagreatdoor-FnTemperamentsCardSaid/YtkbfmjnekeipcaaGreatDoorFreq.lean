/- Contracts of the functions on frequencies and quotients: beats, ratios, rounded division within bounds, lines through two points; in the program and in the reference. -/
import Derived.Test.YtkbfmjnekeipcaaGreatDoorDiv
import Derived.Test.YtkbfmjnekeipcaaGreatDoorSlice
namespace Go.Proofs.YtkbfmjnekeipcaaGreatDoor
open Go.ChangeShapes Go.WideShapes Go.ChangeAt Go.RowKit
set_option maxRecDepth 100000

theorem IntsAt.new2 (w : World) (x y : Int) (t : TypeId) : IntsAt (w.alloc (.cells #[.int .i64 x, .int .i64 y] t)) (some ⟨w.heap.size, 0, none⟩) 2 [x, y] := IntsAt.new w [x, y] t
theorem allF2 {x y : Int} (hx : inB x 10000 20000000 = true) (hy : inB y 10000 20000000 = true) : allF [x, y] = true := by simp [allF, hx, hy]
theorem allF2_no {x y : Int} (h : inB x 10000 20000000 = false ∨ inB y 10000 20000000 = false) : allF [x, y] = false := by rcases h with h | h <;> simp [allF, h]
theorem areFreq_is {A : Option Addr} {n c : Nat} {zs : List Int} {r : Bool} (hr : allF zs = r) (w : World) (h : IntsAt w A n zs) (hn : n ≤ 4611686018427387904) :
    Calls Tryz.prog 63 #[.slice A n c] w fun e w' => e = .returned (.bool r) ∧ w = w' := hr ▸ areFreq_any A n c zs w h hn
theorem inB_bd {n lo hi : Int} (h : inB n lo hi = true) : lo ≤ n ∧ n ≤ hi := inB_iff.1 h

theorem isValue_is {a : Int} {r : Bool} (h : inB a (-1000000000000) 1000000000000 = r) (w : World) : Calls Tryz.prog 73 #[.int .i64 a] w fun e w' => e = .returned (.bool r) ∧ w = w' := by
  go_enter Tryz.func73, Tryz.ntmps73
  go_wp2_with (go_at_call 71; refine (within_is h _).mono ?_; rintro e w' ⟨rfl, rfl⟩)
  go_ret
  exact ⟨rfl, rfl⟩

end Go.Proofs.YtkbfmjnekeipcaaGreatDoor
