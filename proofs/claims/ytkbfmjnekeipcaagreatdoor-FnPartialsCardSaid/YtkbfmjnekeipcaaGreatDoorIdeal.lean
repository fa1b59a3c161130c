/- Contracts of the ideal offsets, in the program and in the reference. -/
import Derived.Test.YtkbfmjnekeipcaaGreatDoorTail
import Derived.Test.YtkbfmjnekeipcaaGreatDoorSound
namespace Go.Proofs.YtkbfmjnekeipcaaGreatDoor
open Go.ChangeShapes Go.WideShapes Go.ChangeAt Go.RowKit
set_option maxRecDepth 100000

/-- The intervals of the partials of a kind. -/
def idealL (kind : Int) : List Int := if kind = 2 then [-12000, 0, 4000, 7000, 12000] else [-12000, 0, 3000, 7000, 12000]
theorem idealL_len (kind : Int) : (idealL kind).length = 5 := by unfold idealL; split <;> rfl
theorem idealOffsets_any (kind : Int) (w : World) : Calls Tryz.prog 45 #[.int .i64 kind] w fun x w' => NewInts w 5 (idealL kind) x w' := by
  by_cases h : kind = 2
  · subst h
    go_enter Tryz.func45, Tryz.ntmps45
    go_wp2
    go_ret
    exact newInts_of w w (idealL 2) 5 _ rfl (by omega) rfl (Below.refl _ _)
  · have e : [-12000, 0, 3000, 7000, 12000] = idealL kind := (if_neg h).symm
    have E := Lib.hid e
    have hd : (kind == 2) = false := by rw [beq_eq_false_iff_ne]; exact h
    clear e
    go_enter Tryz.func45, Tryz.ntmps45
    go_wp2
    go_ret
    rw [← E.out]
    exact newInts_of w w [-12000, 0, 3000, 7000, 12000] 5 _ rfl (by omega) rfl (Below.refl _ _)
theorem l04Offsets_any (kind : Int) (w : World) : Calls Tryz.prog 104 #[.int .i64 kind] w fun x w' => NewInts w 5 (idealL kind) x w' := by
  by_cases h : kind = 2
  · subst h
    go_enter Tryz.func104, Tryz.ntmps104
    go_wp2
    go_ret
    exact newInts_of w w (idealL 2) 5 _ rfl (by omega) rfl (Below.refl _ _)
  · have e : [-12000, 0, 3000, 7000, 12000] = idealL kind := (if_neg h).symm
    have E := Lib.hid e
    have hd : (kind == 2) = false := by rw [beq_eq_false_iff_ne]; exact h
    clear e
    go_enter Tryz.func104, Tryz.ntmps104
    go_wp2
    go_ret
    rw [← E.out]
    exact newInts_of w w [-12000, 0, 3000, 7000, 12000] 5 _ rfl (by omega) rfl (Below.refl _ _)
theorem isKind_is {k : Int} {r : Bool} (h : inB k 1 2 = r) (w : World) : Calls Tryz.prog 42 #[.int .i64 k] w fun x w' => x = .returned (.bool r) ∧ w = w' := by
  go_enter Tryz.func42, Tryz.ntmps42
  go_wp2_with (go_at_call 71; refine (within_is h _).mono ?_; rintro e w' ⟨rfl, rfl⟩)
  go_ret
  exact ⟨rfl, rfl⟩
end Go.Proofs.YtkbfmjnekeipcaaGreatDoor
