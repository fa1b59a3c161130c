/- Contracts of the functions on frequencies and quotients: beats, ratios, rounded division within bounds, lines through two points; in the program and in the reference. -/
import Derived.Test.YtkbfmjnekeipcaaDoorDiv
import Derived.Test.YtkbfmjnekeipcaaDoorSlice
namespace Go.Proofs.YtkbfmjnekeipcaaDoor
open Go.ChangeShapes Go.WideShapes Go.ChangeAt Go.RowKit
set_option maxRecDepth 100000

theorem IntsAt.new2 (w : World) (x y : Int) (t : TypeId) : IntsAt (w.alloc (.cells #[.int .i64 x, .int .i64 y] t)) (some ⟨w.heap.size, 0, none⟩) 2 [x, y] := IntsAt.new w [x, y] t
theorem allF2 {x y : Int} (hx : inB x 10000 20000000 = true) (hy : inB y 10000 20000000 = true) : allF [x, y] = true := by simp [allF, hx, hy]
theorem allF2_no {x y : Int} (h : inB x 10000 20000000 = false ∨ inB y 10000 20000000 = false) : allF [x, y] = false := by rcases h with h | h <;> simp [allF, h]
theorem areFreq_is {A : Option Addr} {n c : Nat} {zs : List Int} {r : Bool} (hr : allF zs = r) (w : World) (h : IntsAt w A n zs) (hn : n ≤ 4611686018427387904) :
    Calls Tryd.prog 80 #[.slice A n c] w fun e w' => e = .returned (.bool r) ∧ w = w' := hr ▸ areFreq_any A n c zs w h hn
theorem inB_bd {n lo hi : Int} (h : inB n lo hi = true) : lo ≤ n ∧ n ≤ hi := inB_iff.1 h

theorem isValue_is {a : Int} {r : Bool} (h : inB a (-1000000000000) 1000000000000 = r) (w : World) : Calls Tryd.prog 58 #[.int .i64 a] w fun e w' => e = .returned (.bool r) ∧ w = w' := by
  go_enter Tryd.func58, Tryd.ntmps58
  go_wp2_with (go_at_call 50; refine (within_is h _).mono ?_; rintro e w' ⟨rfl, rfl⟩)
  go_ret
  exact ⟨rfl, rfl⟩
theorem divRound_ok (a b : Int) (w : World) (hb : b ≠ 0) (h1 : inB a (-1000000000000) 1000000000000 = true) (h2 : inB b (-1000000000000) 1000000000000 = true) :
    Calls Tryd.prog 22 #[.int .i64 a, .int .i64 b] w fun e w' => e = .returned (.int .i64 (nearI a b)) ∧ Below w.heap.size w w' := by
  obtain ⟨a1, a2⟩ := inB_bd h1
  obtain ⟨b1, b2⟩ := inB_bd h2
  have hz : (b == 0) = false := by rw [beq_eq_false_iff_ne]; exact hb
  go_enter Tryd.func22, Tryd.ntmps22
  go_wp2_with (first
    | (go_at_call 58; refine (isValue_is (by assumption) _).mono ?_; rintro e w' ⟨rfl, rfl⟩)
    | (go_at_call 59; refine (nearest_any _ _ hb (by omega) (by omega) (by omega) (by omega) _).mono ?_; rintro e w' ⟨rfl, nq, rfl⟩))
  go_ret
  exact ⟨rfl, below_drewN (Below.refl _ _) _⟩
theorem divRound_no (a b : Int) (w : World) (h : b = 0 ∨ inB a (-1000000000000) 1000000000000 = false ∨ inB b (-1000000000000) 1000000000000 = false) :
    Calls Tryd.prog 22 #[.int .i64 a, .int .i64 b] w fun e w' => e = .returned (.int .i64 0) ∧ w = w' := by
  by_cases hb : b = 0
  · subst hb
    clear h
    go_enter Tryd.func22, Tryd.ntmps22
    go_wp2
    go_ret
    exact ⟨rfl, rfl⟩
  · have hz : (b == 0) = false := by rw [beq_eq_false_iff_ne]; exact hb
    replace h := h.resolve_left hb
    cases h1 : inB a (-1000000000000) 1000000000000
    · clear h
      go_enter Tryd.func22, Tryd.ntmps22
      go_wp2_with (go_at_call 58; refine (isValue_is (by assumption) _).mono ?_; rintro e w' ⟨rfl, rfl⟩)
      go_ret
      exact ⟨rfl, rfl⟩
    · have h2 := h.resolve_left (by simp [h1])
      clear h
      go_enter Tryd.func22, Tryd.ntmps22
      go_wp2_with (go_at_call 58; refine (isValue_is (by assumption) _).mono ?_; rintro e w' ⟨rfl, rfl⟩)
      go_ret
      exact ⟨rfl, rfl⟩

end Go.Proofs.YtkbfmjnekeipcaaDoor
