/- Contracts of the worst deviation: the first number of the greatest absolute value, in the program and in the reference. -/
import Derived.Test.YtkbfmjnekeipcaaGreatDoorFreq
namespace Go.Proofs.YtkbfmjnekeipcaaGreatDoor
open Go.ChangeShapes Go.WideShapes Go.ChangeAt Go.RowKit
set_option maxRecDepth 100000

/-- Of the first k numbers the first one of the greatest absolute value: its index. -/
def worstN (zs : List Int) : Nat → Nat
  | 0 => 0
  | k + 1 => if absI (zs.getD (worstN zs k) 0) < absI (zs.getD k 0) then k else worstN zs k
theorem worstN_le (zs : List Int) : ∀ k, worstN zs k ≤ k
  | 0 => Nat.le_refl _
  | k + 1 => by
    have := worstN_le zs k
    unfold worstN
    split <;> omega
theorem worstN_lt (zs : List Int) {n : Nat} : ∀ k, k ≤ n → 0 < n → worstN zs k < n
  | 0, _, h => h
  | k + 1, hk, h => by
    have := worstN_lt zs k (by omega) h
    unfold worstN
    split <;> omega
theorem worstN_yes {zs : List Int} {k : Nat} {x y : Int} (hx : zs[k]? = some x) (hy : zs[worstN zs k]? = some y) (h : absI y < absI x) : k = worstN zs (k + 1) := by
  rw [show worstN zs (k + 1) = if absI (zs.getD (worstN zs k) 0) < absI (zs.getD k 0) then k else worstN zs k from rfl, List.getD_eq_getElem?_getD, List.getD_eq_getElem?_getD, hx, hy]
  exact (if_pos h).symm
theorem worstN_no {zs : List Int} {k : Nat} {x y : Int} (hx : zs[k]? = some x) (hy : zs[worstN zs k]? = some y) (h : ¬ absI y < absI x) : worstN zs k = worstN zs (k + 1) := by
  rw [show worstN zs (k + 1) = if absI (zs.getD (worstN zs k) 0) < absI (zs.getD k 0) then k else worstN zs k from rfl, List.getD_eq_getElem?_getD, List.getD_eq_getElem?_getD, hx, hy]
  exact (if_neg h).symm
theorem worstN_one (zs : List Int) : worstN zs 1 = 0 := by
  unfold worstN
  unfold worstN
  simp
/-- All numbers are small. -/
def smallL (zs : List Int) : Prop := ∀ (k : Nat) (z : Int), zs[k]? = some z → -1000000000 ≤ z ∧ z ≤ 1000000000
theorem absI_small {z : Int} (h : -1000000000 ≤ z ∧ z ≤ 1000000000) : 0 ≤ absI z ∧ absI z ≤ 1000000000 := by
  rcases absI_cases z with ⟨_, e⟩ | ⟨_, e⟩ <;> omega


/-- All are intervals. -/
def allI (zs : List Int) : Bool := zs.all fun z => inB z (-120000) 120000
theorem allI_false {zs : List Int} {k : Nat} {z : Int} (h : zs[k]? = some z) (hz : inB z (-120000) 120000 = false) : allI zs = false := by
  unfold allI
  rw [List.all_eq_false]
  exact ⟨z, List.mem_of_getElem? h, by simp [hz]⟩
theorem allI_true {zs : List Int} {n : Nat} (hl : zs.length = n) (h : ∀ j z, j < n → zs[j]? = some z → inB z (-120000) 120000 = true) : allI zs = true := by
  unfold allI
  rw [List.all_eq_true]
  intro z hz
  obtain ⟨j, hj, rfl⟩ := List.getElem_of_mem hz
  exact h j _ (by omega) (List.getElem?_eq_getElem hj)
theorem allI_succ {zs : List Int} {k : Nat} {z : Int} (h : ∀ j z, j < k → zs[j]? = some z → inB z (-120000) 120000 = true) (hz : zs[k]? = some z) (hB : inB z (-120000) 120000 = true) :
    ∀ j z, j < k + 1 → zs[j]? = some z → inB z (-120000) 120000 = true := by
  intro j y hj hy
  rcases Nat.lt_or_eq_of_le (Nat.le_of_lt_succ hj) with h1 | rfl
  · exact h j y h1 hy
  · rw [hz] at hy; cases hy; exact hB
theorem allI_small {zs : List Int} (h : allI zs = true) : smallL zs := by
  intro k z hz
  unfold allI at h
  rw [List.all_eq_true] at h
  have := inB_iff.1 (h z (List.mem_of_getElem? hz))
  omega
/-- What the worst deviation is: the partial, the number, a code. -/
def worstP (zs : List Int) : Int := if zs.length = 5 ∧ allI zs = true then (worstN zs 5 : Nat) + 1 else 0
def worstV (zs : List Int) : Int := if zs.length = 5 ∧ allI zs = true then zs.getD (worstN zs 5) 0 else 0
def worstC (zs : List Int) : Int := if zs.length = 5 ∧ allI zs = true then 0 else 2
theorem worst_neg {zs : List Int} (h : ¬ (zs.length = 5 ∧ allI zs = true)) : worstP zs = 0 ∧ worstV zs = 0 ∧ worstC zs = 2 := by
  unfold worstP worstV worstC
  rw [if_neg h, if_neg h, if_neg h]
  exact ⟨rfl, rfl, rfl⟩
theorem worst_pos {zs : List Int} {z : Int} (h : zs.length = 5) (hA : allI zs = true) (hz : zs[worstN zs 5]? = some z) : worstP zs = (worstN zs 5 : Nat) + 1 ∧ worstV zs = z ∧ worstC zs = 0 := by
  unfold worstP worstV worstC
  rw [if_pos ⟨h, hA⟩, if_pos ⟨h, hA⟩, if_pos ⟨h, hA⟩, List.getD_eq_getElem?_getD, hz]
  exact ⟨rfl, rfl, rfl⟩
theorem ret_three {k : IntKind} {a b c a' b' c' : Int} (h : a = a' ∧ b = b' ∧ c = c') : Ending.returned (.tuple #[.int k a, .int k b, .int k c]) = .returned (.tuple #[.int k a', .int k b', .int k c']) := by
  obtain ⟨rfl, rfl, rfl⟩ := h
  rfl

end Go.Proofs.YtkbfmjnekeipcaaGreatDoor
