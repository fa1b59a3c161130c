/- Contracts: the law's copy of a ring, and whether a ring is valid, in the program and in the reference. No condition. -/
import Derived.Test.YtdpahmkcipfdaaaNum
namespace Go.Proofs.Ytdpahmkcipfdaaa
open Go.ChangeShapes Go.WideShapes Go.ChangeAt Go.RowKit
set_option maxRecDepth 100000

/-- A valid ring. -/
def ringB (x y z : Int) : Bool := inB x 500 150000 && inB y 0 (x - 100) && inB z 10 300000

theorem toRing_any (x y z : Int) (w : World) : Calls Try.prog 90 #[.agg #[.int .i64 x, .int .i64 y, .int .i64 z]] w fun e w' => e = .returned (.agg #[.int .i64 x, .int .i64 y, .int .i64 z]) ∧ Below w.heap.size w w' := by
  go_enter Try.func90, Try.ntmps90
  go_wp2
  refine bodyPost_ret (v := .agg #[.int .i64 x, .int .i64 y, .int .i64 z]) (by simp [results, Try.results90, go_sem]) rfl ⟨rfl, ?_⟩
  repeat (first | exact Below.refl _ _ | refine Below.alloc ?_ (by simp; try omega) _)

theorem ring_impl (x y z : Int) (w : World) : Calls Try.prog 81 #[.agg #[.int .i64 x, .int .i64 y, .int .i64 z]] w fun e w' => e = .returned (.bool (ringB x y z)) ∧ Below w.heap.size w w' := by
  unfold ringB
  cases h1 : inB x 500 150000
  · go_enter Try.func81, Try.ntmps81
    go_wp2_with (first
      | (go_at_call 60; refine (within_any _ _ _ _).mono ?_; rintro e w' ⟨rfl, rfl⟩)
      | go_in)
    go_ret
    refine ⟨by simp, ?_⟩
    repeat (first | exact Below.refl _ _ | refine Below.alloc ?_ (by simp; try omega) _)
  · have hx := (inB_iff.1 h1)
    cases h2 : inB y 0 (x - 100) <;> cases h3 : inB z 10 300000
    all_goals
      go_enter Try.func81, Try.ntmps81
      go_wp2_with (first
        | (go_at_call 60; refine (within_any _ _ _ _).mono ?_; rintro e w' ⟨rfl, rfl⟩)
        | go_in)
      go_ret
      refine ⟨by simp, ?_⟩
      repeat (first | exact Below.refl _ _ | refine Below.alloc ?_ (by simp; try omega) _)

theorem l05Ring_any (x y z : Int) (b off : Nat) (w : World) (c0 : w.cell? ⟨b, off, none⟩ = some (.int .i64 x)) (c1 : w.cell? ⟨b, off + 1, none⟩ = some (.int .i64 y)) (c2 : w.cell? ⟨b, off + 2, none⟩ = some (.int .i64 z)) :
    Calls Try.prog 96 #[.pointer (some ⟨b, off, none⟩)] w fun e w' => e = .returned (.bool (ringB x y z)) ∧ ∃ n, w' = w.drewN n := by
  unfold ringB
  cases h1 : inB x 500 150000
  · go_enter Try.func96, Try.ntmps96
    go_wp2
    go_quiet ((go_at_call 57; with_reducible exact quietA (l00In_is h1 _)))
    go_wp2
    go_ret
    exact ⟨by simp, _, rfl⟩
  · have hx := (inB_iff.1 h1)
    have hw : IntKind.i64.wrap (x - 100) = x - 100 := IntWalk.i64_in _ (by omega)
    cases h2 : inB y 0 (x - 100) <;> cases h3 : inB z 10 300000
    all_goals
      go_enter Try.func96, Try.ntmps96
      go_wp2
      go_quiet ((go_at_call 57; first | with_reducible exact quietA (l00In_is h1 _) | with_reducible exact quietA (l00In_is h2 _) | with_reducible exact quietA (l00In_is h3 _)))
      go_wp2
      go_ret
      exact ⟨by simp, _, rfl⟩

end Go.Proofs.Ytdpahmkcipfdaaa
