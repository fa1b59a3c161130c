/- Contract of the reference's reader of a decimal number. -/
import Derived.Test.YtkbfmjnekeipcaaGreatDoorNumP
import Derived.Test.YtkbfmjnekeipcaaGreatDoorName
namespace Go.Proofs.YtkbfmjnekeipcaaGreatDoor
open Go.ChangeShapes Go.WideShapes Go.ChangeAt Go.RowKit
set_option maxRecDepth 100000

theorem ret_ivb {a c : Int} {b d : Bool} (h : a = c) (h' : b = d) : Ending.returned (.tuple #[.int .i64 a, .bool b]) = .returned (.tuple #[.int .i64 c, .bool d]) := by rw [h, h']
theorem numV_at {s : ByteArray} {a : Nat} (ha : numAt s = a) (h : numOK s a) : numB s = true ∧ numV s = if a = 1 then -(valTo s a s.size : Int) else (valTo s a s.size : Int) := by
  subst ha
  refine ⟨numB_yes h, ?_⟩
  unfold numV
  rw [numB_yes h, if_pos rfl]
theorem numV_bad {s : ByteArray} {a : Nat} (ha : numAt s = a) (h : ¬ numOK s a) : numV s = 0 ∧ numB s = false := by
  subst ha
  exact numV_no h
theorem valTo_big {s : ByteArray} {a : Nat} (h : digTo s a s.size) (h18 : s.size ≤ a + 18) : valTo s a s.size < 1000000000000000000 := by
  have h1 := valTo_lt h (Nat.le_refl _)
  have h2 : 10 ^ (s.size - a) ≤ 10 ^ 18 := Nat.pow_le_pow_right (by omega) (by omega)
  have h3 : (10 : Nat) ^ 18 = 1000000000000000000 := rfl
  omega
end Go.Proofs.YtkbfmjnekeipcaaGreatDoor
