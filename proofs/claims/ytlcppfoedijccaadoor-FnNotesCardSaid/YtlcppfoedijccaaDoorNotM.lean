/- An octave is one in every temperament; a scale's steps rise within an octave. Plain mathematics. -/
import Derived.Test.YtlcppfoedijccaaDoorNoteI
import Derived.Test.YtlcppfoedijccaaDoorScale
namespace Go.Proofs.YtlcppfoedijccaaDoor

theorem octave_is (zs : List Int) (n : Int) : intervalV zs n (n + 12) = 12000 := by
  unfold intervalV
  rw [show (n + 12) % 12 = n % 12 by omega]
  omega
/-- Each step is greater than the one before; the first is 0, the last 12. -/
theorem steps_rise : ∀ k : Fin 5, 1 ≤ k.val → (stepsL k.val)[0]? = some 0 ∧ (stepsL k.val)[(stepsL k.val).length - 1]? = some 12 ∧ 2 ≤ (stepsL k.val).length ∧ (stepsL k.val).length ≤ 13 := by decide
theorem steps_up : ∀ k : Fin 5, ∀ i : Fin 12, i.val + 1 < (stepsL k.val).length → (stepsL k.val).getD i.val 0 < (stepsL k.val).getD (i.val + 1) 0 := by decide
theorem scale_law {n kind : Int} (h : inB kind 1 4 = true) : ∃ m : Nat, ((stepsL kind).map (n + ·)).length = m + 2 ∧ m + 2 ≤ 13 ∧ ((stepsL kind).map (n + ·))[0]? = some n ∧ ((stepsL kind).map (n + ·))[m + 1]? = some (n + 12) ∧
    ∀ i, i + 1 < m + 2 → ∃ a b, ((stepsL kind).map (n + ·))[i]? = some a ∧ ((stepsL kind).map (n + ·))[i + 1]? = some b ∧ a < b := by
  have hb := inB_iff.1 h
  obtain ⟨k, hk⟩ : ∃ k : Fin 5, kind = (k.val : Int) := ⟨⟨kind.toNat, by omega⟩, by show kind = (kind.toNat : Int); omega⟩
  have h1 : 1 ≤ k.val := by omega
  obtain ⟨s1, s2, s3, s4⟩ := steps_rise k h1
  subst hk
  refine ⟨(stepsL k.val).length - 2, by rw [List.length_map]; omega, by omega, ?_, ?_, ?_⟩
  · rw [List.getElem?_map, s1]
    simp
  · rw [List.getElem?_map, show (stepsL k.val).length - 2 + 1 = (stepsL k.val).length - 1 by omega, s2]
    rfl
  · intro i hi
    have hi2 : i + 1 < (stepsL k.val).length := by omega
    have hu : (stepsL k.val).getD i 0 < (stepsL k.val).getD (i + 1) 0 := steps_up k ⟨i, by omega⟩ hi2
    refine ⟨n + (stepsL k.val).getD i 0, n + (stepsL k.val).getD (i + 1) 0, ?_, ?_, by omega⟩
    · rw [List.getElem?_map, List.getElem?_eq_getElem (show i < (stepsL k.val).length by omega), List.getD_eq_getElem?_getD, List.getElem?_eq_getElem (show i < (stepsL k.val).length by omega)]
      rfl
    · rw [List.getElem?_map, List.getElem?_eq_getElem hi2, List.getD_eq_getElem?_getD, List.getElem?_eq_getElem hi2]
      rfl
end Go.Proofs.YtlcppfoedijccaaDoor
