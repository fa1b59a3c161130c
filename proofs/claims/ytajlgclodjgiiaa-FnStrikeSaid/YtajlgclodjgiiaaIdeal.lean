/- Contracts of the ideal offsets, in the program and in the reference. -/
import Derived.Test.YtajlgclodjgiiaaTail
import Derived.Test.YtajlgclodjgiiaaSound
namespace Go.Proofs.Ytajlgclodjgiiaa
open Go.ChangeShapes Go.WideShapes Go.ChangeAt Go.RowKit

/-- The intervals of the partials of a kind. -/
def idealL (kind : Int) : List Int := if kind = 2 then [-12000, 0, 4000, 7000, 12000] else [-12000, 0, 3000, 7000, 12000]
theorem idealL_len (kind : Int) : (idealL kind).length = 5 := by unfold idealL; split <;> rfl
theorem idealOffsets_any (kind : Int) (w : World) : Calls Try.prog 58 #[.int .i64 kind] w fun x w' => NewInts w 5 (idealL kind) x w' := by
  by_cases h : kind = 2
  · subst h
    go_enter Try.func58, Try.ntmps58
    go_wp2
    go_ret
    exact newInts_of w w (idealL 2) 5 _ rfl (by omega) rfl (Below.refl _ _)
  · have e : [-12000, 0, 3000, 7000, 12000] = idealL kind := (if_neg h).symm
    have E := Lib.hid e
    have hd : (kind == 2) = false := by rw [beq_eq_false_iff_ne]; exact h
    clear e
    go_enter Try.func58, Try.ntmps58
    go_wp2
    go_ret
    rw [← E.out]
    exact newInts_of w w [-12000, 0, 3000, 7000, 12000] 5 _ rfl (by omega) rfl (Below.refl _ _)
theorem l04Offsets_any (kind : Int) (w : World) : Calls Try.prog 56 #[.int .i64 kind] w fun x w' => NewInts w 5 (idealL kind) x w' := by
  by_cases h : kind = 2
  · subst h
    go_enter Try.func56, Try.ntmps56
    go_wp2
    go_ret
    exact newInts_of w w (idealL 2) 5 _ rfl (by omega) rfl (Below.refl _ _)
  · have e : [-12000, 0, 3000, 7000, 12000] = idealL kind := (if_neg h).symm
    have E := Lib.hid e
    have hd : (kind == 2) = false := by rw [beq_eq_false_iff_ne]; exact h
    clear e
    go_enter Try.func56, Try.ntmps56
    go_wp2
    go_ret
    rw [← E.out]
    exact newInts_of w w [-12000, 0, 3000, 7000, 12000] 5 _ rfl (by omega) rfl (Below.refl _ _)
theorem isKind_is {k : Int} {r : Bool} (h : inB k 1 2 = r) (w : World) : Calls Try.prog 57 #[.int .i64 k] w fun x w' => x = .returned (.bool r) ∧ w = w' := by
  go_enter Try.func57, Try.ntmps57
  go_wp2_with (go_at_call 90; refine (within_is h _).mono ?_; rintro e w' ⟨rfl, rfl⟩)
  go_ret
  exact ⟨rfl, rfl⟩
theorem l04Kind_is {k : Int} {r : Bool} (h : inB k 1 2 = r) (w : World) : Calls Try.prog 55 #[.int .i64 k] w fun x w' => x = .returned (.bool r) ∧ w = w' := by
  cases r
  · have h3 := inB_not.1 h
    have e1 : (k == 1) = false := by rw [beq_eq_false_iff_ne]; omega
    have e2 : (k == 2) = false := by rw [beq_eq_false_iff_ne]; omega
    go_enter Try.func55, Try.ntmps55
    go_wp2
    go_ret
    exact ⟨rfl, rfl⟩
  · have h3 := inB_iff.1 h
    rcases (show k = 1 ∨ k = 2 from by omega) with rfl | rfl
    all_goals
      clear h h3
      go_enter Try.func55, Try.ntmps55
      go_wp2
      go_ret
      exact ⟨rfl, rfl⟩
theorem Ideal_no (k : Int) (w : World) (h : inB k 1 2 = false) : Calls Try.prog 19 #[.int .i64 k] w fun x w' => IntsRet w [] 2 x w' := by
  go_enter Try.func19, Try.ntmps19
  go_wp2_with (go_at_call 57; refine (isKind_is h _).mono ?_; rintro e w' ⟨rfl, rfl⟩)
  go_ret2
  exact IntsRet.none_ w 2 (Below.refl _ _)
theorem Ideal_ok (k : Int) (w : World) (h : inB k 1 2 = true) : Calls Try.prog 19 #[.int .i64 k] w fun x w' => IntsRet w (idealL k) 0 x w' := by
  go_enter Try.func19, Try.ntmps19
  go_wp2_with (first
    | (go_at_call 57; refine (isKind_is h _).mono ?_; rintro e w' ⟨rfl, rfl⟩)
    | (go_at_call 58; refine (idealOffsets_any _ _).mono ?_; rintro e w1 ⟨g1, c1, rfl, hg1, ho1, hb1⟩))
  go_ret2
  exact ⟨_, _, _, rfl, ho1, hb1⟩
theorem Ideal_spec_no (k : Int) (w : World) (h : inB k 1 2 = false) : Calls Try.prog 18 #[.int .i64 k] w fun x w' => IntsRet w [] 2 x w' := by
  go_enter Try.func18, Try.ntmps18
  go_wp2_with (go_at_call 55; refine (l04Kind_is h _).mono ?_; rintro e w' ⟨rfl, rfl⟩)
  go_ret2
  exact IntsRet.none_ w 2 (Below.refl _ _)
theorem Ideal_spec_ok (k : Int) (w : World) (h : inB k 1 2 = true) : Calls Try.prog 18 #[.int .i64 k] w fun x w' => IntsRet w (idealL k) 0 x w' := by
  go_enter Try.func18, Try.ntmps18
  go_wp2_with (first
    | (go_at_call 55; refine (l04Kind_is h _).mono ?_; rintro e w' ⟨rfl, rfl⟩)
    | (go_at_call 56; refine (l04Offsets_any _ _).mono ?_; rintro e w1 ⟨g1, c1, rfl, hg1, ho1, hb1⟩))
  go_ret2
  exact ⟨_, _, _, rfl, ho1, hb1⟩
end Go.Proofs.Ytajlgclodjgiiaa
