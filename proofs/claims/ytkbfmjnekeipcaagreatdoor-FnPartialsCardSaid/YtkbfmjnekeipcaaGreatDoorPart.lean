/- Contracts of the partials of a sound and of its strike note, in the program and in the reference. -/
import Derived.Test.YtkbfmjnekeipcaaGreatDoorSoundV
namespace Go.Proofs.YtkbfmjnekeipcaaGreatDoor
open Go.Joins Go.ChangeShapes Go.WideShapes Go.ChangeAt Go.RowKit
set_option maxRecDepth 100000

def nth5 (a b c d e k : Int) : Int := if k = 1 then a else if k = 2 then b else if k = 3 then c else if k = 4 then d else e
theorem five_cases {k : Int} (h : inB k 1 5 = true) : k = 1 ∨ k = 2 ∨ k = 3 ∨ k = 4 ∨ k = 5 := by
  have := inB_iff.1 h
  omega
/-- A sound's box stays, and what is laid behind it. -/
theorem box_below {a b c d e : Int} {t : TypeId} {w w1 : World} (h : Below (w.alloc (.cells #[.int .i64 a, .int .i64 b, .int .i64 c, .int .i64 d, .int .i64 e] t)).heap.size (w.alloc (.cells #[.int .i64 a, .int .i64 b, .int .i64 c, .int .i64 d, .int .i64 e] t)) w1) : Below w.heap.size w w1 :=
  ((Below.refl _ _).alloc (Nat.le_refl _) _).trans (h.mono (by simp))

theorem isPartial_is {k : Int} {r : Bool} (h : inB k 1 5 = r) (w : World) : Calls Tryz.prog 60 #[.int .i64 k] w fun x w' => x = .returned (.bool r) ∧ w = w' := by
  go_enter Tryz.func60, Tryz.ntmps60
  go_wp2_with (go_at_call 71; refine (within_is h _).mono ?_; rintro e w' ⟨rfl, rfl⟩)
  go_ret
  exact ⟨rfl, rfl⟩
theorem l04Partial_is {k : Int} {r : Bool} (h : inB k 1 5 = r) (w : World) : Calls Tryz.prog 57 #[.int .i64 k] w fun x w' => x = .returned (.bool r) ∧ w = w' := by
  go_enter Tryz.func57, Tryz.ntmps57
  go_wp2_with (go_at_call 88; refine (l00In_is h _).mono ?_; rintro e w' ⟨rfl, rfl⟩)
  go_ret
  exact ⟨rfl, rfl⟩
theorem partialOf_inv {a b c d e k : Int} (w : World) (h : sB a b c d e = false) : Calls Tryz.prog 25 #[.agg #[.int .i64 a, .int .i64 b, .int .i64 c, .int .i64 d, .int .i64 e], .int .i64 k] w fun x w' => x = .returned (.tuple #[.int .i64 0, .int .i64 1]) ∧ Below w.heap.size w w' := by
  have H := Lib.hid h
  clear h
  go_enter Tryz.func25, Tryz.ntmps25
  go_wp2_with (go_at_call 48; refine (valid_is H.out _).mono ?_; rintro x w1 ⟨rfl, hb1⟩)
  go_ret2
  exact ⟨rfl, box_below hb1⟩
theorem partialOf_rng {a b c d e k : Int} (w : World) (h : sB a b c d e = true) (hk : inB k 1 5 = false) : Calls Tryz.prog 25 #[.agg #[.int .i64 a, .int .i64 b, .int .i64 c, .int .i64 d, .int .i64 e], .int .i64 k] w fun x w' => x = .returned (.tuple #[.int .i64 0, .int .i64 2]) ∧ Below w.heap.size w w' := by
  have H := Lib.hid h
  clear h
  go_enter Tryz.func25, Tryz.ntmps25
  go_wp2_with (first
    | (go_at_call 48; refine (valid_is H.out _).mono ?_; rintro x w1 ⟨rfl, hb1⟩)
    | (go_at_call 60; refine (isPartial_is hk _).mono ?_; rintro x w' ⟨rfl, rfl⟩))
  go_ret2
  exact ⟨rfl, box_below hb1⟩
set_option maxHeartbeats 2000000 in
theorem partialOf_ok {a b c d e k : Int} (w : World) (h : sB a b c d e = true) (hk : inB k 1 5 = true) : Calls Tryz.prog 25 #[.agg #[.int .i64 a, .int .i64 b, .int .i64 c, .int .i64 d, .int .i64 e], .int .i64 k] w fun x w' => x = .returned (.tuple #[.int .i64 (nth5 a b c d e k), .int .i64 0]) ∧ Below w.heap.size w w' := by
  have H := Lib.hid h
  clear h
  rcases five_cases hk with rfl | rfl | rfl | rfl | rfl
  all_goals
    have HK := Lib.hid hk
    clear hk
    go_enter Tryz.func25, Tryz.ntmps25
    go_wp2_with (first
      | (go_at_call 48; refine (valid_is H.out _).mono ?_; rintro x w1 ⟨rfl, hb1⟩; obtain ⟨hcc, hff⟩ := bcell hb1)
      | (go_at_call 60; refine (isPartial_is HK.out _).mono ?_; rintro x w' ⟨rfl, rfl⟩)
      | (go_at_call 52; refine (listOf_any _ _ _ _ _ _).mono ?_; rintro x w2 ⟨g2, c2, rfl, hg2, ho2, hb2⟩; have q0 : w2.cell? ⟨g2, 0, none⟩ = some (.int .i64 a) := ho2.cellAt 0 (by omega); have q1 : w2.cell? ⟨g2, 1, none⟩ = some (.int .i64 b) := ho2.cellAt 1 (by omega); have q2 : w2.cell? ⟨g2, 2, none⟩ = some (.int .i64 c) := ho2.cellAt 2 (by omega); have q3 : w2.cell? ⟨g2, 3, none⟩ = some (.int .i64 d) := ho2.cellAt 3 (by omega); have q4 : w2.cell? ⟨g2, 4, none⟩ = some (.int .i64 e) := ho2.cellAt 4 (by omega)))
    go_ret2
    exact ⟨rfl, (box_below hb1).trans (hb2.mono (box_below hb1).size)⟩
end Go.Proofs.YtkbfmjnekeipcaaGreatDoor
