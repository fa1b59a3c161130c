/- Contracts of the functions on frequencies and quotients: beats, ratios, rounded division within bounds, lines through two points; in the program and in the reference. -/
import Derived.Test.YtlcppfoedijccaaDoorDiv
import Derived.Test.YtlcppfoedijccaaDoorSlice
namespace Go.Proofs.YtlcppfoedijccaaDoor
open Go.ChangeShapes Go.WideShapes Go.ChangeAt Go.RowKit
set_option maxRecDepth 100000

theorem IntsAt.new2 (w : World) (x y : Int) (t : TypeId) : IntsAt (w.alloc (.cells #[.int .i64 x, .int .i64 y] t)) (some ⟨w.heap.size, 0, none⟩) 2 [x, y] := IntsAt.new w [x, y] t
theorem allF2 {x y : Int} (hx : inB x 10000 20000000 = true) (hy : inB y 10000 20000000 = true) : allF [x, y] = true := by simp [allF, hx, hy]
theorem allF2_no {x y : Int} (h : inB x 10000 20000000 = false ∨ inB y 10000 20000000 = false) : allF [x, y] = false := by rcases h with h | h <;> simp [allF, h]
theorem areFreq_is {A : Option Addr} {n c : Nat} {zs : List Int} {r : Bool} (hr : allF zs = r) (w : World) (h : IntsAt w A n zs) (hn : n ≤ 4611686018427387904) :
    Calls Tryd.prog 23 #[.slice A n c] w fun e w' => e = .returned (.bool r) ∧ w = w' := hr ▸ areFreq_any A n c zs w h hn
theorem inB_bd {n lo hi : Int} (h : inB n lo hi = true) : lo ≤ n ∧ n ≤ hi := inB_iff.1 h


end Go.Proofs.YtlcppfoedijccaaDoor
