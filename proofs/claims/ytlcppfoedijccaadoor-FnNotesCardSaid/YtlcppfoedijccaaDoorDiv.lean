/- Contracts of rounded division: the program's (quotient and rest) and the reference's (one division) return the same number, wherever no sum runs over. -/
import Derived.Test.YtlcppfoedijccaaDoorNum
namespace Go.Proofs.YtlcppfoedijccaaDoor
open Go.ChangeShapes Go.WideShapes Go.ChangeAt Go.RowKit
set_option maxRecDepth 100000

def absI (n : Int) : Int := if n < 0 then -n else n
theorem absI_neg {n : Int} (h : n < 0) : absI n = -n := by simp [absI, h]
theorem absI_pos {n : Int} (h : 0 ≤ n) : absI n = n := by unfold absI; rw [if_neg (by omega)]
theorem absI_nonneg (n : Int) : 0 ≤ absI n := by unfold absI; split <;> omega
theorem absI_cases (n : Int) : (0 ≤ n ∧ absI n = n) ∨ (n < 0 ∧ absI n = -n) := by unfold absI; split <;> omega


/-- The integer nearest to x / y, x not negative, y positive. -/
def nearP (x y : Int) : Int := (2 * x + y) / (2 * y)
/-- The integer nearest to a / b, halves away from 0. -/
def nearI (a b : Int) : Int := if (a < 0) = (b < 0) then nearP (absI a) (absI b) else -nearP (absI a) (absI b)

theorem ediv_eq {n c q : Int} (hc : 0 < c) (h1 : c * q ≤ n) (h2 : n < c * q + c) : n / c = q := by
  have a1 : q ≤ n / c := (Int.le_ediv_iff_mul_le hc).2 (by rw [Int.mul_comm]; exact h1)
  have a2 : n / c < q + 1 := (Int.ediv_lt_iff_lt_mul hc).2 (by rw [Int.mul_comm, Int.mul_add]; omega)
  omega
theorem nearP_up {x y : Int} (hy : 0 < y) (h : y - x % y ≤ x % y) : nearP x y = x / y + 1 := by
  have e := Int.mul_ediv_add_emod x y
  have h1 := Int.emod_lt_of_pos x hy
  unfold nearP
  apply ediv_eq (by omega)
  · rw [Int.mul_add, Int.mul_assoc]; omega
  · rw [Int.mul_add, Int.mul_assoc]; omega
theorem nearP_down {x y : Int} (hy : 0 < y) (h : x % y < y - x % y) : nearP x y = x / y := by
  have e := Int.mul_ediv_add_emod x y
  have h1 := Int.emod_nonneg x (by omega : y ≠ 0)
  unfold nearP
  apply ediv_eq (by omega)
  · rw [Int.mul_assoc]; omega
  · rw [Int.mul_assoc]; omega
theorem tdiv_cases (a b : Int) (hb : b ≠ 0) : absI (a.tmod b) = absI a % absI b ∧ ((a < 0) = (b < 0) ∧ a.tdiv b = absI a / absI b ∨ ¬ (a < 0) = (b < 0) ∧ a.tdiv b = -(absI a / absI b)) := by
  rcases absI_cases a with ⟨ha, ea⟩ | ⟨ha, ea⟩ <;> rcases absI_cases b with ⟨hb', eb⟩ | ⟨hb', eb⟩ <;> rw [ea, eb]
  · refine ⟨?_, .inl ⟨by simp; omega, Int.tdiv_eq_ediv_of_nonneg ha⟩⟩
    rw [Int.tmod_eq_emod_of_nonneg ha]; exact absI_pos (Int.emod_nonneg _ hb)
  · refine ⟨?_, .inr ⟨by simp; omega, ?_⟩⟩
    · rw [Int.tmod_eq_emod_of_nonneg ha, Int.emod_neg]; exact absI_pos (Int.emod_nonneg _ hb)
    · rw [Int.tdiv_eq_ediv_of_nonneg ha, Int.ediv_neg, Int.neg_neg]
  · obtain ⟨x, rfl⟩ : ∃ x, a = -x := ⟨-a, by omega⟩
    rw [Int.neg_neg, Int.neg_tmod, Int.neg_tdiv, Int.tmod_eq_emod_of_nonneg (by omega), Int.tdiv_eq_ediv_of_nonneg (by omega)]
    refine ⟨?_, .inr ⟨by simp; omega, rfl⟩⟩
    have := Int.emod_nonneg x hb
    rcases absI_cases (-(x % b)) with ⟨_, e⟩ | ⟨_, e⟩ <;> rw [e] <;> omega
  · obtain ⟨x, rfl⟩ : ∃ x, a = -x := ⟨-a, by omega⟩
    obtain ⟨y, rfl⟩ : ∃ y, b = -y := ⟨-b, by omega⟩
    rw [Int.neg_neg, Int.neg_neg, Int.neg_tmod, Int.neg_tdiv, Int.tdiv_neg, Int.neg_neg, Int.tmod_neg, Int.tmod_eq_emod_of_nonneg (by omega), Int.tdiv_eq_ediv_of_nonneg (by omega)]
    refine ⟨?_, .inl ⟨by simp; omega, rfl⟩⟩
    have := Int.emod_nonneg x (by omega : y ≠ 0)
    rcases absI_cases (-(x % y)) with ⟨_, e⟩ | ⟨_, e⟩ <;> rw [e] <;> omega

/-- What the program computes of quotient and rest. -/
theorem nearI_of {a b : Int} (hb : b ≠ 0) : (absI b - absI (a.tmod b) ≤ absI (a.tmod b) → nearI a b = if (a < 0) = (b < 0) then a.tdiv b + 1 else a.tdiv b - 1) ∧ (¬ absI b - absI (a.tmod b) ≤ absI (a.tmod b) → nearI a b = a.tdiv b) := by
  obtain ⟨e1, e2⟩ := tdiv_cases a b hb
  have hB : 0 < absI b := by rcases absI_cases b with ⟨_, e⟩ | ⟨_, e⟩ <;> omega
  rw [e1]
  constructor
  · intro h
    have h3 := nearP_up hB h
    unfold nearI
    rcases e2 with ⟨e2, e3⟩ | ⟨e2, e3⟩
    · rw [if_pos e2, if_pos e2, e3, h3]
    · rw [if_neg e2, if_neg e2, e3, h3]; omega
  · intro h
    have h3 := nearP_down hB (Int.not_le.1 h)
    unfold nearI
    rcases e2 with ⟨e2, e3⟩ | ⟨e2, e3⟩
    · rw [if_pos e2, e3, h3]
    · rw [if_neg e2, e3, h3]

theorem tdiv_bound (a b : Int) : absI (a.tdiv b) ≤ absI a := by
  have h := Int.natAbs_tdiv_le_natAbs a b
  rcases absI_cases (a.tdiv b) with ⟨_, e⟩ | ⟨_, e⟩ <;> rcases absI_cases a with ⟨_, e'⟩ | ⟨_, e'⟩ <;> omega


theorem ediv_le_self' {x y : Int} (hx : 0 ≤ x) (hy : 1 ≤ y) : 0 ≤ x / y ∧ x / y ≤ x :=
  ⟨Int.ediv_nonneg hx (by omega), Int.ediv_le_self y hx⟩
end Go.Proofs.YtlcppfoedijccaaDoor
