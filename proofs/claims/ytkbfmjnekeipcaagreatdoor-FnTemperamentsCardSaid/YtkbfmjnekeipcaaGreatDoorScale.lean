/- Contracts of the notes of a scale, in the program and in the reference. -/
import Derived.Test.YtkbfmjnekeipcaaGreatDoorOwn
namespace Go.Proofs.YtkbfmjnekeipcaaGreatDoor
open Go.ChangeShapes Go.WideShapes Go.ChangeAt Go.RowKit
set_option maxRecDepth 100000

/-- The semitones of a kind of scales. -/
def stepsL (kind : Int) : List Int := if kind = 1 then [0, 2, 4, 5, 7, 9, 11, 12] else if kind = 2 then [0, 2, 3, 5, 7, 8, 10, 12] else if kind = 4 then [0, 2, 4, 7, 9, 12] else [0, 1, 2, 3, 4, 5, 6, 7, 8, 9, 10, 11, 12]
/-- The first k notes. -/
def scaleU (root : Int) (L : List Int) (k : Nat) : List Int := (L.take k).map (root + ·)
theorem scaleU_succ {root z : Int} {L : List Int} {k : Nat} (hz : L[k]? = some z) : (scaleU root L k).map (Value.int .i64) ++ [.int .i64 (root + z)] = (scaleU root L (k + 1)).map (Value.int .i64) := by
  obtain ⟨hlt, rfl⟩ := List.getElem?_eq_some_iff.1 hz
  unfold scaleU
  rw [List.take_succ_eq_append_getElem hlt, List.map_append, List.map_append]
  rfl
theorem scaleU_all {root : Int} {L : List Int} {n : Nat} (h : L.length = n) : scaleU root L n = L.map (root + ·) := by
  unfold scaleU
  rw [List.take_of_length_le (by omega)]
theorem scaleU_zero (root : Int) (L : List Int) : scaleU root L 0 = [] := by simp [scaleU]
theorem four_cases {k : Int} (h : inB k 1 4 = true) : k = 1 ∨ k = 2 ∨ k = 3 ∨ k = 4 := by
  have := inB_iff.1 h
  omega
theorem steps_bd {kind : Int} {k : Nat} {z : Int} (hz : (stepsL kind)[k]? = some z) : 0 ≤ z ∧ z ≤ 12 := by
  have hall : ∀ x ∈ stepsL kind, 0 ≤ x ∧ x ≤ 12 := by
    unfold stepsL
    split
    · decide
    · split
      · decide
      · split <;> decide
  exact hall z (List.mem_of_getElem? hz)

theorem isNote_is {k : Int} {r : Bool} (h : inB k 0 127 = r) (w : World) : Calls Tryz.prog 66 #[.int .i64 k] w fun x w' => x = .returned (.bool r) ∧ w = w' := by
  go_enter Tryz.func66, Tryz.ntmps66
  go_wp2_with (go_at_call 71; refine (within_is h _).mono ?_; rintro e w' ⟨rfl, rfl⟩)
  go_ret
  exact ⟨rfl, rfl⟩
end Go.Proofs.YtkbfmjnekeipcaaGreatDoor
