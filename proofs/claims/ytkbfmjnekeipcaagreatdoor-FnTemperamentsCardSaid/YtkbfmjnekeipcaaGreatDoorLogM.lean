/- The integer logarithm as plain mathematics: its steps, bounds. No program. -/
import Derived.Test.YtkbfmjnekeipcaaGreatDoorNum
import Derived.Lib.ItoaNum
namespace Go.Proofs.YtkbfmjnekeipcaaGreatDoor

def stepL (p : Int × Int) : Int × Int :=
  if 2147483648 ≤ p.1 * p.1 / 1073741824 then (p.1 * p.1 / 1073741824 / 2, p.2 * 2 + 1) else (p.1 * p.1 / 1073741824, p.2 * 2)
def iterL : Nat → Int × Int → Int × Int
  | 0, p => p
  | k + 1, p => stepL (iterL k p)
def startX (n : Int) (e : Nat) : Int := if e ≤ 30 then n * 2 ^ (30 - e) else n / 2 ^ (e - 30)
/-- 2^24 times the logarithm, e the greatest power's exponent. -/
def fineE (n : Int) (e : Nat) : Int := (e : Int) * 16777216 + (iterL 24 (startX n e, 0)).2
def fineV (n : Int) : Int := fineE n (Nat.log2 n.toNat)

/-- 2^e is the greatest power of two that is at most n. -/
def isLog (n : Int) (e : Nat) : Prop := (2 : Int) ^ e ≤ n ∧ n < (2 : Int) ^ (e + 1)
theorem isLog_nat {n : Int} {e : Nat} (h : isLog n e) : 0 < n ∧ 2 ^ e ≤ n.toNat ∧ n.toNat < 2 ^ (e + 1) := by
  obtain ⟨h1, h2⟩ := h
  have h0 : (0 : Int) < 2 ^ e := Int.pow_pos (by omega)
  have c1 : ((2 ^ e : Nat) : Int) = (2 : Int) ^ e := by rw [Int.natCast_pow]; rfl
  have c2 : ((2 ^ (e + 1) : Nat) : Int) = (2 : Int) ^ (e + 1) := by rw [Int.natCast_pow]; rfl
  omega
theorem isLog_log2 {n : Int} {e : Nat} (h : isLog n e) : Nat.log2 n.toNat = e := by
  obtain ⟨h0, h1, h2⟩ := isLog_nat h
  exact (Nat.log2_eq_iff (by omega)).2 ⟨h1, h2⟩
theorem isLog_of_log2 {n : Int} (h : 1 ≤ n) : isLog n (Nat.log2 n.toNat) := by
  have h3 := (Nat.log2_eq_iff (n := n.toNat) (k := Nat.log2 n.toNat) (by omega)).1 rfl
  have c1 : ((2 ^ Nat.log2 n.toNat : Nat) : Int) = (2 : Int) ^ Nat.log2 n.toNat := by rw [Int.natCast_pow]; rfl
  have c2 : ((2 ^ (Nat.log2 n.toNat + 1) : Nat) : Int) = (2 : Int) ^ (Nat.log2 n.toNat + 1) := by rw [Int.natCast_pow]; rfl
  exact ⟨by omega, by omega⟩
theorem isLog_fine {n : Int} {e : Nat} (h : isLog n e) : fineE n e = fineV n := by unfold fineV; rw [isLog_log2 h]
theorem isLog_bitLen {n : Int} (h : 1 ≤ n) (h2 : n ≤ 18446744073709551615) : ∃ e : Nat, isLog n e ∧ ((Lib.bitLen n.toNat : Nat) : Int) = e + 1 := by
  obtain ⟨a, b, c⟩ := Lib.bitLenAux_bounds 64 n.toNat (by omega) (by omega)
  refine ⟨Lib.bitLenAux 64 n.toNat - 1, ⟨?_, ?_⟩, ?_⟩
  · have c1 : ((2 ^ (Lib.bitLenAux 64 n.toNat - 1) : Nat) : Int) = (2 : Int) ^ (Lib.bitLenAux 64 n.toNat - 1) := by rw [Int.natCast_pow]; rfl
    omega
  · rw [Nat.sub_add_cancel a]
    have c1 : ((2 ^ (Lib.bitLenAux 64 n.toNat) : Nat) : Int) = (2 : Int) ^ (Lib.bitLenAux 64 n.toNat) := by rw [Int.natCast_pow]; rfl
    omega
  · unfold Lib.bitLen
    omega
theorem isLog_le {n : Int} {e : Nat} (h : isLog n e) (hn : n ≤ 1000000000000) : e ≤ 39 := by
  apply Nat.le_of_lt_succ
  apply Nat.lt_of_not_le
  intro hle
  have h1 : (2 : Int) ^ 40 ≤ 2 ^ e := by
    have := Nat.pow_le_pow_right (n := 2) (by omega) hle
    have c1 : ((2 ^ e : Nat) : Int) = (2 : Int) ^ e := by rw [Int.natCast_pow]; rfl
    have c2 : ((2 ^ 40 : Nat) : Int) = (2 : Int) ^ 40 := by decide
    omega
  have c3 : (2 : Int) ^ 40 = 1099511627776 := by decide
  have := h.1
  omega
theorem startX_bd {n : Int} {e : Nat} (h : isLog n e) : 1073741824 ≤ startX n e ∧ startX n e < 2147483648 := by
  obtain ⟨h1, h2⟩ := h
  unfold startX
  by_cases he : e ≤ 30
  · rw [if_pos he]
    have hp : (0 : Int) < 2 ^ (30 - e) := Int.pow_pos (by omega)
    have e1 : (2 : Int) ^ e * 2 ^ (30 - e) = 1073741824 := by rw [← Int.pow_add, Nat.add_sub_cancel' he]; decide
    have e2 : (2 : Int) ^ (e + 1) * 2 ^ (30 - e) = 2147483648 := by rw [Int.pow_succ, Int.mul_assoc, Int.mul_comm 2, ← Int.mul_assoc, e1]; decide
    have m1 := Int.mul_le_mul_of_nonneg_right h1 (Int.le_of_lt hp)
    have m2 := Int.mul_lt_mul_of_pos_right h2 hp
    omega
  · rw [if_neg he]
    have hp : (0 : Int) < 2 ^ (e - 30) := Int.pow_pos (by omega)
    have e1 : (1073741824 : Int) * 2 ^ (e - 30) = 2 ^ e := by
      rw [show (1073741824 : Int) = 2 ^ 30 from by decide, ← Int.pow_add, Nat.add_sub_cancel' (by omega)]
    have e2 : (2147483648 : Int) * 2 ^ (e - 30) = 2 ^ (e + 1) := by
      rw [show (2147483648 : Int) = 2 ^ 31 from by decide, ← Int.pow_add]
      congr 1
      omega
    exact ⟨(Int.le_ediv_iff_mul_le hp).2 (by omega), (Int.ediv_lt_iff_lt_mul hp).2 (by omega)⟩

/-- What holds of x and r behind k of the 24 steps. -/
def logRel (n : Int) (e k : Nat) (x r : Int) : Prop := iterL k (startX n e, 0) = (x, r) ∧ 1073741824 ≤ x ∧ x < 2147483648 ∧ 0 ≤ r ∧ r + 1 ≤ 2 ^ k
theorem logRel_start {n : Int} {e : Nat} (h : isLog n e) : logRel n e 0 (startX n e) 0 := ⟨rfl, (startX_bd h).1, (startX_bd h).2, by omega, by decide⟩
theorem logRel_bd {n : Int} {e k : Nat} {x r : Int} (h : logRel n e k x r) (hk : k ≤ 24) : 1073741824 ≤ x ∧ x < 2147483648 ∧ 0 ≤ r ∧ r < 16777216 ∧ 1152921504606846976 ≤ x * x ∧ x * x < 4611686018427387904 ∧
    1073741824 ≤ x * x / 1073741824 ∧ x * x / 1073741824 < 4294967296 := by
  obtain ⟨_, h1, h2, h3, h4⟩ := h
  have hp : (2 : Int) ^ k ≤ 16777216 := by
    have := Nat.pow_le_pow_right (n := 2) (by omega) hk
    have c1 : ((2 ^ k : Nat) : Int) = (2 : Int) ^ k := by rw [Int.natCast_pow]; rfl
    have c2 : (2 ^ 24 : Nat) = 16777216 := by decide
    omega
  have m1 : (1073741824 : Int) * 1073741824 ≤ x * x := Int.mul_le_mul h1 h1 (by omega) (by omega)
  have m2 : x * x ≤ 2147483647 * 2147483647 := Int.mul_le_mul (by omega) (by omega) (by omega) (by omega)
  omega
theorem logRel_yes {n : Int} {e k : Nat} {x r : Int} (h : logRel n e k x r) (hk : k ≤ 24) (hy : 2147483648 ≤ x * x / 1073741824) : logRel n e (k + 1) (x * x / 1073741824 / 2) (r * 2 + 1) := by
  have hb := logRel_bd h hk
  obtain ⟨h0, _, _, h3, h4⟩ := h
  refine ⟨?_, by omega, by omega, by omega, by rw [Int.pow_succ]; omega⟩
  show stepL (iterL k (startX n e, 0)) = _
  rw [h0]
  exact if_pos hy
theorem logRel_no {n : Int} {e k : Nat} {x r : Int} (h : logRel n e k x r) (hk : k ≤ 24) (hy : ¬ 2147483648 ≤ x * x / 1073741824) : logRel n e (k + 1) (x * x / 1073741824) (r * 2) := by
  have hb := logRel_bd h hk
  obtain ⟨h0, _, _, h3, h4⟩ := h
  refine ⟨?_, by omega, by omega, by omega, by rw [Int.pow_succ]; omega⟩
  show stepL (iterL k (startX n e, 0)) = _
  rw [h0]
  exact if_neg hy
theorem logRel_end {n : Int} {e : Nat} {x r : Int} (h : logRel n e 24 x r) (hl : isLog n e) : (e : Int) * 16777216 + r = fineV n := by
  rw [← isLog_fine hl]
  unfold fineE
  rw [h.1]
theorem fineV_bd {n : Int} (h1 : 1 ≤ n) (h2 : n ≤ 1000000000000) : 0 ≤ fineV n ∧ fineV n < 671088640 := by
  have hl := isLog_of_log2 h1
  have he := isLog_le hl h2
  have key : ∀ k, k ≤ 24 → ∃ x r, logRel n (Nat.log2 n.toNat) k x r := by
    intro k
    induction k with
    | zero => exact fun _ => ⟨_, _, logRel_start hl⟩
    | succ k ih =>
      intro hk
      obtain ⟨x, r, h⟩ := ih (by omega)
      by_cases hy : 2147483648 ≤ x * x / 1073741824
      · exact ⟨_, _, logRel_yes h (by omega) hy⟩
      · exact ⟨_, _, logRel_no h (by omega) hy⟩
  obtain ⟨x, r, h⟩ := key 24 (by omega)
  have hb := logRel_bd h (by omega)
  rw [← logRel_end h hl]
  omega
/-- The reference's search for the greatest power: one round. -/
def powLe (n : Int) (k : Nat) : Prop := (2 : Int) ^ k ≤ n
theorem powLe_le {n : Int} {e : Nat} (h : powLe n e) (hn : n ≤ 1000000000000) : e ≤ 39 := by
  apply Nat.le_of_lt_succ
  apply Nat.lt_of_not_le
  intro hle
  have h1 : (2 : Int) ^ 40 ≤ 2 ^ e := by
    have := Nat.pow_le_pow_right (n := 2) (by omega) hle
    have c1 : ((2 ^ e : Nat) : Int) = (2 : Int) ^ e := by rw [Int.natCast_pow]; rfl
    have c2 : ((2 ^ 40 : Nat) : Int) = (2 : Int) ^ 40 := by decide
    omega
  have c3 : (2 : Int) ^ 40 = 1099511627776 := by decide
  unfold powLe at h
  omega
theorem powLe_yes {n : Int} {k : Nat} (h : 0 < n / 2 ^ (k + 1)) : powLe n (k + 1) := by
  have hp : (0 : Int) < 2 ^ (k + 1) := Int.pow_pos (by omega)
  have := (Int.le_ediv_iff_mul_le hp).1 (show 1 ≤ n / 2 ^ (k + 1) from h)
  unfold powLe
  omega
theorem powLe_no {n : Int} {k : Nat} (hk : powLe n k) (h : ¬ 0 < n / 2 ^ (k + 1)) : isLog n k := by
  have hp : (0 : Int) < 2 ^ (k + 1) := Int.pow_pos (by omega)
  refine ⟨hk, (Int.not_le.1 fun hle => h ((Int.le_ediv_iff_mul_le hp).2 (by omega)))⟩
end Go.Proofs.YtkbfmjnekeipcaaGreatDoor
