/- Contracts of the smallest functions: a number within bounds, in the program and in the reference. No condition. -/
import Derived.Test.YtlcppfoedijccaaDoorBase
namespace Go.Proofs.YtlcppfoedijccaaDoor
open Go.ChangeShapes Go.WideShapes Go.ChangeAt Go.RowKit
set_option maxRecDepth 100000

/-- n is lo to hi. -/
def inB (n lo hi : Int) : Bool := decide (lo ≤ n) && decide (n ≤ hi)
theorem inB_true {n lo hi : Int} (h1 : lo ≤ n) (h2 : n ≤ hi) : inB n lo hi = true := by simp [inB, h1, h2]
theorem inB_low {n lo hi : Int} (h : n < lo) : inB n lo hi = false := by simp [inB]; omega
theorem inB_high {n lo hi : Int} (h : hi < n) : inB n lo hi = false := by simp [inB]; omega
theorem inB_iff {n lo hi : Int} : inB n lo hi = true ↔ lo ≤ n ∧ n ≤ hi := by simp [inB]
theorem inB_not {n lo hi : Int} : inB n lo hi = false ↔ ¬ (lo ≤ n ∧ n ≤ hi) := by rw [← Bool.not_eq_true, inB_iff]

theorem not_both {a b : Bool} (h : ¬ (a = true ∧ b = true)) : a = false ∨ b = false := by
  cases a <;> cases b <;> simp at h ⊢
theorem not_three {P : Prop} {a b : Bool} (h : ¬ (¬ P ∧ a = true ∧ b = true)) : P ∨ a = false ∨ b = false := by
  by_cases hP : P
  · exact .inl hP
  · exact .inr (not_both fun hh => h ⟨hP, hh⟩)
theorem wf_lo {a : Int} (h : (Lit.int .i64 a).wf = true) : -9223372036854775808 ≤ a ∧ a ≤ 9223372036854775807 := by
  have h1 : IntKind.i64.min = -9223372036854775808 := rfl
  have h2 : IntKind.i64.max = 9223372036854775807 := rfl
  simp only [Lit.wf, Bool.and_eq_true, decide_eq_true_eq] at h
  omega

theorem within_any (n lo hi : Int) (w : World) : Calls Tryd.prog 15 #[.int .i64 n, .int .i64 lo, .int .i64 hi] w fun e w' => e = .returned (.bool (inB n lo hi)) ∧ w = w' := by
  by_cases h1 : lo ≤ n
  all_goals by_cases h2 : n ≤ hi
  all_goals
    go_enter Tryd.func15, Tryd.ntmps15
    go_wp2
    go_ret
    exact ⟨by simp [inB, h1, h2], rfl⟩
theorem within_is {n lo hi : Int} {r : Bool} (h : inB n lo hi = r) (w : World) : Calls Tryd.prog 15 #[.int .i64 n, .int .i64 lo, .int .i64 hi] w fun e w' => e = .returned (.bool r) ∧ w = w' := h ▸ within_any n lo hi w
end Go.Proofs.YtlcppfoedijccaaDoor
