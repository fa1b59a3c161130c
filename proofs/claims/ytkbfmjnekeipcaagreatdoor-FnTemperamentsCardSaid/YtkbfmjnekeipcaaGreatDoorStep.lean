/- The integer logarithm against the powers themselves: an octave is one, a step above ten thousand is small; what is raised lies at its interval. Plain mathematics, no program. -/
import Derived.Test.YtkbfmjnekeipcaaGreatDoorRaise
namespace Go.Proofs.YtkbfmjnekeipcaaGreatDoor

theorem bern (Q : Nat) (hQ : 1 ≤ Q) : ∀ M, M ≤ Q → Q ^ M * (Q - M) ≤ (Q - 1) ^ M * Q := by
  intro M
  induction M with
  | zero => intro _; simp
  | succ M ih =>
    intro hM
    have h := ih (by omega)
    obtain ⟨a, ha⟩ : ∃ a, Q = M + 1 + a := ⟨Q - (M + 1), by omega⟩
    have e1 : Q - M = a + 1 := by omega
    have e2 : Q - (M + 1) = a := by omega
    rw [e1] at h
    rw [e2, Nat.pow_succ, Nat.pow_succ]
    generalize Q ^ M = X at *
    generalize (Q - 1) ^ M = Y at *
    have h2 := Nat.mul_le_mul_right (Q - 1) h
    have h3 : X * Q * a ≤ X * (a + 1) * (Q - 1) := by
      rw [Nat.mul_assoc, Nat.mul_assoc]
      apply Nat.mul_le_mul_left
      obtain ⟨q, rfl⟩ : ∃ q, Q = q + 1 := ⟨Q - 1, by omega⟩
      have e3 : (q + 1) * a = q * a + a := by rw [Nat.add_mul, Nat.one_mul]
      have e4 : (a + 1) * q = q * a + q := by rw [Nat.add_mul, Nat.one_mul, Nat.mul_comm]
      simp only [Nat.add_sub_cancel]
      omega
    have e5 : Y * Q * (Q - 1) = Y * (Q - 1) * Q := by ac_rfl
    omega
theorem bern2 {Q M : Nat} (h : 2 * M ≤ Q) (hQ : 1 ≤ Q) : Q ^ M ≤ 2 * (Q - 1) ^ M := by
  have h1 := bern Q hQ M (by omega)
  have h2 : Q ^ M * Q ≤ Q ^ M * (2 * (Q - M)) := Nat.mul_le_mul_left _ (by omega)
  have h3 : Q ^ M * (2 * (Q - M)) = 2 * (Q ^ M * (Q - M)) := by ac_rfl
  have h4 : 2 * ((Q - 1) ^ M * Q) = 2 * (Q - 1) ^ M * Q := by ac_rfl
  exact Nat.le_of_mul_le_mul_right (by omega) (show 0 < Q by omega)

/-- One step keeps both bounds. A: the number's power, B, C: those of 2^30 and of 2^30 + 1. -/
theorem step_lower {X R A B y : Nat} {X' R' : Nat} (h : X * 2 ^ R * B ≤ A * 1073741824) (hy : y = X * X / 1073741824)
    (hc : (2147483648 ≤ y ∧ X' = y / 2 ∧ R' = R * 2 + 1) ∨ (X' = y ∧ R' = R * 2)) : X' * 2 ^ R' * (B * B) ≤ A * A * 1073741824 := by
  have h2 := Nat.mul_le_mul h h
  have e1 : X * 2 ^ R * B * (X * 2 ^ R * B) = (X * X) * (2 ^ R * 2 ^ R * (B * B)) := by ac_rfl
  have e2 : A * 1073741824 * (A * 1073741824) = (A * A * 1073741824) * 1073741824 := by ac_rfl
  rw [e1, e2] at h2
  have key : X' * 2 ^ R' ≤ y * (2 ^ R * 2 ^ R) := by
    rcases hc with ⟨_, rfl, rfl⟩ | ⟨rfl, rfl⟩
    · rw [Nat.pow_succ, show R * 2 = R + R by omega, Nat.pow_add]
      have : y / 2 * 2 ≤ y := by omega
      have := Nat.mul_le_mul_right (2 ^ R * 2 ^ R) this
      calc y / 2 * (2 ^ R * 2 ^ R * 2) = y / 2 * 2 * (2 ^ R * 2 ^ R) := by ac_rfl
        _ ≤ _ := this
    · rw [show R * 2 = R + R by omega, Nat.pow_add]
      exact Nat.le_refl _
  have hyx : y * 1073741824 ≤ X * X := by omega
  have k2 := Nat.mul_le_mul_right (2 ^ R * 2 ^ R * (B * B)) hyx
  have k3 := Nat.mul_le_mul_right (B * B * 1073741824) key
  have e3 : y * (2 ^ R * 2 ^ R) * (B * B * 1073741824) = y * 1073741824 * (2 ^ R * 2 ^ R * (B * B)) := by ac_rfl
  have e4 : X' * 2 ^ R' * (B * B * 1073741824) = X' * 2 ^ R' * (B * B) * 1073741824 := by ac_rfl
  rw [e3, e4] at k3
  exact Nat.le_of_mul_le_mul_right (Nat.le_trans k3 (Nat.le_trans k2 h2)) (by decide : 0 < 1073741824)
theorem core_one {S y : Nat} (h : 1152921504606846976 ≤ S) (hy : y = S / 1073741824) : S * 1073741824 ≤ y * 1152921506754330625 := by
  have a1 : S + 1 ≤ (y + 1) * 1073741824 := by omega
  have a3 : 1073741824 ≤ y := by omega
  clear hy h
  omega
theorem core_two {S y : Nat} (hy : y = S / 1073741824) (h2 : 2147483648 ≤ y) : S * 1073741824 ≤ y / 2 * 2 * 1152921506754330625 := by
  have a1 : S + 1 ≤ (y + 1) * 1073741824 := by omega
  have a3 : 1073741824 ≤ y / 2 := by omega
  have a4 : y ≤ y / 2 * 2 + 1 := by omega
  clear hy h2
  generalize y / 2 = z at *
  omega
theorem step_upper {X R A B C y : Nat} {X' R' : Nat} (h : A * B * 1152921506754330625 ≤ X * 2 ^ R * (C * C) * 1073741824) (hX : 1073741824 ≤ X) (hy : y = X * X / 1073741824)
    (hc : (2147483648 ≤ y ∧ X' = y / 2 ∧ R' = R * 2 + 1) ∨ (X' = y ∧ R' = R * 2)) : A * A * (B * B) * 1152921506754330625 ≤ X' * 2 ^ R' * (C * C * (C * C)) * 1073741824 := by
  have hXX : 1152921504606846976 ≤ X * X := Nat.mul_le_mul hX hX
  have h2 := Nat.mul_le_mul h h
  have e1 : A * B * 1152921506754330625 * (A * B * 1152921506754330625) = A * A * (B * B) * 1152921506754330625 * 1152921506754330625 := by ac_rfl
  have e2 : X * 2 ^ R * (C * C) * 1073741824 * (X * 2 ^ R * (C * C) * 1073741824) = X * X * 1073741824 * (2 ^ R * 2 ^ R * (C * C * (C * C)) * 1073741824) := by ac_rfl
  rw [e1, e2] at h2
  have key : X * X * 1073741824 * (2 ^ R * 2 ^ R) ≤ X' * 2 ^ R' * 1152921506754330625 := by
    rcases hc with ⟨h2y, rfl, rfl⟩ | ⟨rfl, rfl⟩
    · rw [Nat.pow_succ, show R * 2 = R + R by omega, Nat.pow_add]
      have : X * X * 1073741824 ≤ y / 2 * 2 * 1152921506754330625 := core_two hy h2y
      have := Nat.mul_le_mul_right (2 ^ R * 2 ^ R) this
      calc X * X * 1073741824 * (2 ^ R * 2 ^ R) ≤ y / 2 * 2 * 1152921506754330625 * (2 ^ R * 2 ^ R) := this
        _ = _ := by ac_rfl
    · rw [show R * 2 = R + R by omega, Nat.pow_add]
      have : X * X * 1073741824 ≤ X' * 1152921506754330625 := core_one hXX hy
      have := Nat.mul_le_mul_right (2 ^ R * 2 ^ R) this
      calc X * X * 1073741824 * (2 ^ R * 2 ^ R) ≤ X' * 1152921506754330625 * (2 ^ R * 2 ^ R) := this
        _ = _ := by ac_rfl
  have k := Nat.mul_le_mul_right (C * C * (C * C) * 1073741824) key
  have e3 : X * X * 1073741824 * (2 ^ R * 2 ^ R) * (C * C * (C * C) * 1073741824) = X * X * 1073741824 * (2 ^ R * 2 ^ R * (C * C * (C * C)) * 1073741824) := by ac_rfl
  have e4 : X' * 2 ^ R' * 1152921506754330625 * (C * C * (C * C) * 1073741824) = X' * 2 ^ R' * (C * C * (C * C)) * 1073741824 * 1152921506754330625 := by ac_rfl
  rw [e3, e4] at k
  exact Nat.le_of_mul_le_mul_right (Nat.le_trans h2 k) (by decide : 0 < 1152921506754330625)
theorem ten_step : 10001 ^ 6931 ≤ 2 * 10000 ^ 6931 := by decide +kernel
theorem pow_two_add (a k : Nat) : a ^ 2 ^ (k + 1) = a ^ 2 ^ k * a ^ 2 ^ k := by
  rw [Nat.pow_succ 2, Nat.mul_two, Nat.pow_add]
theorem iter_pow {S : Nat} (h1 : 1073741824 ≤ S) (h2 : S < 2147483648) : ∀ k, ∃ X R : Nat, iterL k ((S : Int), 0) = ((X : Int), (R : Int)) ∧ 1073741824 ≤ X ∧ X < 2147483648 ∧
    X * 2 ^ R * 1073741824 ^ 2 ^ k ≤ S ^ 2 ^ k * 1073741824 ∧ S ^ 2 ^ k * 1073741824 ^ 2 ^ k * 1152921506754330625 ≤ X * 2 ^ R * (1073741825 ^ 2 ^ k * 1073741825 ^ 2 ^ k) * 1073741824 := by
  intro k
  induction k with
  | zero => 
    rw [show (2 : Nat) ^ 0 = 1 from rfl, Nat.pow_one, Nat.pow_one, Nat.pow_one]
    exact ⟨S, 0, rfl, h1, h2, by omega, by omega⟩
  | succ k ih =>
    obtain ⟨X, R, hi, hX, hX2, hlo, hup⟩ := ih
    have hS : iterL (k + 1) ((S : Int), 0) = stepL ((X : Int), (R : Int)) := by
      show stepL (iterL k ((S : Int), 0)) = _
      rw [hi]
    have hq : (X : Int) * X / 1073741824 = ((X * X / 1073741824 : Nat) : Int) := by omega
    have hXX : 1073741824 * 1073741824 ≤ X * X := Nat.mul_le_mul hX hX
    have hXY : X * X ≤ 2147483647 * 2147483647 := Nat.mul_le_mul (by omega) (by omega)
    have hy1 : 1073741824 ≤ X * X / 1073741824 := by omega
    have hy2 : X * X / 1073741824 < 4294967296 := by omega
    obtain ⟨y, hy⟩ : ∃ y, y = X * X / 1073741824 := ⟨_, rfl⟩
    rw [← hy] at hq hy1 hy2
    rw [hS]
    rw [pow_two_add S, pow_two_add 1073741824, pow_two_add 1073741825]
    by_cases hc : 2147483648 ≤ y
    · refine ⟨y / 2, R * 2 + 1, ?_, by omega, by omega, step_lower hlo hy (.inl ⟨hc, rfl, rfl⟩), step_upper hup hX hy (.inl ⟨hc, rfl, rfl⟩)⟩
      unfold stepL
      simp only [hq]
      rw [if_pos (by omega)]
      refine Prod.ext ?_ ?_ <;> simp only <;> omega
    · refine ⟨y, R * 2, ?_, by omega, by omega, step_lower hlo hy (.inr ⟨rfl, rfl⟩), step_upper hup hX hy (.inr ⟨rfl, rfl⟩)⟩
      unfold stepL
      simp only [hq]
      rw [if_neg (by omega)]
      refine Prod.ext ?_ ?_ <;> simp only <;> omega
/-- N: 2^24. -/
theorem fine_pows {n : Int} {e : Nat} (hl : isLog n e) (he : e ≤ 30) {N : Nat} (hN : N = 2 ^ 24) : 2 ^ (fineV n).toNat ≤ n.toNat ^ N ∧ n.toNat ^ N ≤ 4 * 2 ^ (fineV n).toNat := by
  have hs := startX_bd hl
  obtain ⟨h0, _, _⟩ := isLog_nat hl
  obtain ⟨S, hS⟩ : ∃ S : Nat, startX n e = (S : Int) := ⟨(startX n e).toNat, by omega⟩
  obtain ⟨m, rfl⟩ : ∃ m : Nat, n = (m : Int) := ⟨n.toNat, by omega⟩
  have hS2 : S = m * 2 ^ (30 - e) := by
    have : startX (m : Int) e = ((m * 2 ^ (30 - e) : Nat) : Int) := by
      unfold startX
      rw [if_pos he]
      simp [Int.natCast_mul, Int.natCast_pow]
    rw [this] at hS
    exact (Int.ofNat.inj hS).symm
  obtain ⟨X, R, hi, hX, hX2, hlo, hup⟩ := iter_pow (S := S) (by omega) (by omega) 24
  rw [← hN] at hlo hup
  have hv : fineV (m : Int) = ((e * 16777216 + R : Nat) : Int) := by
    rw [← isLog_fine hl]
    unfold fineE
    rw [hS, hi]
    omega
  have hv2 : (fineV (m : Int)).toNat = R + e * N := by
    rw [hv, hN, Int.toNat_natCast]
    omega
  rw [hv2, Int.toNat_natCast]
  have eP : 1073741824 ^ N = 2 ^ (e * N) * 2 ^ ((30 - e) * N) := by
    rw [← Nat.pow_add, ← Nat.add_mul, Nat.add_sub_cancel' he, Nat.pow_mul]
  have eS : S ^ N = m ^ N * 2 ^ ((30 - e) * N) := by rw [hS2, Nat.mul_pow, ← Nat.pow_mul]
  have hp : 0 < 2 ^ ((30 - e) * N) := Nat.pow_pos (by decide)
  have hpP : 0 < 1073741824 ^ N := Nat.pow_pos (by decide)
  have hb : 1073741825 ^ (N + N) ≤ 2 * 1073741824 ^ (N + N) := bern2 (Q := 1073741825) (by omega) (by omega)
  rw [Nat.pow_add, Nat.pow_add] at hb
  clear hN hv hv2 hi hs hl
  constructor
  · have k1 : 1073741824 * (2 ^ R * 1073741824 ^ N) ≤ S ^ N * 1073741824 := by
      rw [← Nat.mul_assoc]
      exact Nat.le_trans (Nat.mul_le_mul_right _ (Nat.mul_le_mul_right _ hX)) hlo
    have k2 : 2 ^ R * 1073741824 ^ N ≤ S ^ N := by omega
    rw [eP, eS, ← Nat.mul_assoc, ← Nat.pow_add] at k2
    exact Nat.le_of_mul_le_mul_right k2 hp
  · generalize 1073741825 ^ N * 1073741825 ^ N = C at *
    have k1 : S ^ N * 1073741824 ^ N * 1152921506754330625 ≤ 2147483648 * 2 ^ R * (2 * (1073741824 ^ N * 1073741824 ^ N)) * 1073741824 := by
      refine Nat.le_trans hup (Nat.mul_le_mul_right _ (Nat.mul_le_mul (Nat.mul_le_mul_right _ (by omega)) hb))
    have k2 : S ^ N * 1073741824 ^ N * 1152921504606846976 ≤ S ^ N * 1073741824 ^ N * 1152921506754330625 := Nat.mul_le_mul_left _ (by omega)
    have e2 : 2147483648 * 2 ^ R * (2 * (1073741824 ^ N * 1073741824 ^ N)) * 1073741824 = 4 * 2 ^ R * 1073741824 ^ N * 1073741824 ^ N * 1152921504606846976 := by
      generalize 1073741824 ^ N = B
      generalize 2 ^ R = T
      rw [show (2147483648 : Nat) = 2 * 1073741824 from rfl, show (1152921504606846976 : Nat) = 1073741824 * 1073741824 from rfl, show (4 : Nat) = 2 * 2 from rfl]
      ac_rfl
    have k3 : S ^ N * 1073741824 ^ N ≤ 4 * 2 ^ R * 1073741824 ^ N * 1073741824 ^ N := Nat.le_of_mul_le_mul_right (by rw [← e2]; exact Nat.le_trans k2 k1) (by omega : 0 < 1152921504606846976)
    have k4 : S ^ N ≤ 4 * 2 ^ R * 1073741824 ^ N := Nat.le_of_mul_le_mul_right k3 hpP
    rw [eP, eS, ← Nat.mul_assoc] at k4
    have k5 := Nat.le_of_mul_le_mul_right k4 hp
    rw [Nat.mul_assoc, ← Nat.pow_add] at k5
    exact k5
theorem ten_pow {N T : Nat} (hN : N = 2 ^ 24) (hT : T = 2421) : 10001 ^ N ≤ 2 ^ T * 10000 ^ N := by
  obtain ⟨K, hK, hs⟩ : ∃ K : Nat, K = 6931 ∧ 10001 ^ K ≤ 2 * 10000 ^ K := ⟨_, rfl, ten_step⟩
  have h1 : (10001 ^ K) ^ T ≤ (2 * 10000 ^ K) ^ T := Nat.pow_le_pow_left hs T
  rw [Nat.mul_pow, ← Nat.pow_mul, ← Nat.pow_mul] at h1
  obtain ⟨d, hd⟩ : ∃ d, K * T = N + d := ⟨K * T - N, by subst hK hT hN; decide⟩
  rw [hd, Nat.pow_add, Nat.pow_add] at h1
  have h2 : 10000 ^ d ≤ 10001 ^ d := Nat.pow_le_pow_left (by omega) d
  have hp : 0 < 10000 ^ d := Nat.pow_pos (by decide)
  clear hN hd hT
  generalize 2 ^ T = T at *
  generalize 10001 ^ N = X at *
  generalize 10000 ^ N = Y at *
  generalize 10001 ^ d = U at *
  generalize 10000 ^ d = V at *
  have h3 : X * V ≤ T * Y * V := Nat.le_trans (Nat.mul_le_mul_left _ h2) (by rw [Nat.mul_assoc]; exact h1)
  exact Nat.le_of_mul_le_mul_right h3 hp
/-- One step above ten thousand: at most 2423 of 2^24. -/
theorem fine_step {n : Int} (h1 : 10000 ≤ n) (h2 : n ≤ 1000000000) : fineV (n + 1) ≤ fineV n + 2423 := by
  obtain ⟨N, hN⟩ : ∃ N : Nat, N = 2 ^ 24 := ⟨_, rfl⟩
  have he : ∀ x : Int, 1 ≤ x → x ≤ 1000000001 → ∃ e, isLog x e ∧ e ≤ 30 := by
    intro x hx hx2
    have hl := isLog_of_log2 hx
    refine ⟨_, hl, ?_⟩
    apply Nat.le_of_lt_succ
    apply Nat.lt_of_not_le
    intro hle
    have h1 := Nat.pow_le_pow_right (n := 2) (by omega) hle
    have h2 := (isLog_nat hl).2.1
    have h3 : (2 : Nat) ^ Nat.succ 30 = 2147483648 := by decide
    omega
  obtain ⟨e, hl, he1⟩ := he n (by omega) (by omega)
  obtain ⟨e', hl', he1'⟩ := he (n + 1) (by omega) (by omega)
  have hu := (fine_pows hl he1 hN).2
  have hw := (fine_pows hl' he1' hN).1
  have hb0 := (fineV_bd (show 1 ≤ n by omega) (by omega)).1
  have hb1 := (fineV_bd (show 1 ≤ n + 1 by omega) (by omega)).1
  obtain ⟨T, hT⟩ : ∃ T : Nat, T = 2421 := ⟨_, rfl⟩
  have ht := ten_pow hN hT
  have hn : (n + 1).toNat * 10000 ≤ n.toNat * 10001 := by omega
  have hn2 := Nat.pow_le_pow_left hn N
  rw [Nat.mul_pow, Nat.mul_pow] at hn2
  obtain ⟨a, ha⟩ : ∃ a : Nat, fineV n = (a : Int) := ⟨_, (Int.toNat_of_nonneg hb0).symm⟩
  obtain ⟨b, hb⟩ : ∃ b : Nat, fineV (n + 1) = (b : Int) := ⟨_, (Int.toNat_of_nonneg hb1).symm⟩
  rw [ha, Int.toNat_natCast] at hu
  rw [hb, Int.toNat_natCast] at hw
  rw [ha, hb]
  have hp : 0 < 10000 ^ N := Nat.pow_pos (by decide)
  clear hN
  have k : 2 ^ b * 10000 ^ N ≤ 4 * 2 ^ a * 2 ^ T * 10000 ^ N := by
    refine Nat.le_trans (Nat.mul_le_mul_right _ hw) (Nat.le_trans hn2 (Nat.le_trans (Nat.mul_le_mul hu ht) ?_))
    rw [← Nat.mul_assoc]
    exact Nat.le_refl _
  have k2 := Nat.le_of_mul_le_mul_right k hp
  rw [show (4 : Nat) = 2 ^ 2 from rfl, ← Nat.pow_add, ← Nat.pow_add] at k2
  have := (Nat.pow_le_pow_iff_right (a := 2) (by omega)).1 k2
  omega
/-- An octave is 2^24. -/
theorem fine_double {n : Int} (h1 : 1 ≤ n) (h2 : n ≤ 1000000000) : fineV (2 * n) = fineV n + 16777216 := by
  have hl := isLog_of_log2 h1
  have hl2 : isLog (2 * n) (Nat.log2 n.toNat + 1) := by
    obtain ⟨a, b⟩ := hl
    unfold isLog
    rw [Int.pow_succ] at b ⊢
    rw [Int.pow_succ, Int.pow_succ]
    constructor <;> omega
  have he : Nat.log2 n.toNat ≤ 29 := by
    apply Nat.le_of_lt_succ
    apply Nat.lt_of_not_le
    intro hle
    have h1 := Nat.pow_le_pow_right (n := 2) (by omega) hle
    have h2 := (isLog_nat hl).2.1
    have h3 : (2 : Nat) ^ Nat.succ 29 = 1073741824 := by decide
    omega
  rw [← isLog_fine hl, ← isLog_fine hl2]
  have hs : startX (2 * n) (Nat.log2 n.toNat + 1) = startX n (Nat.log2 n.toNat) := by
    unfold startX
    rw [if_pos (by omega), if_pos (by omega)]
    rw [show 30 - Nat.log2 n.toNat = 30 - (Nat.log2 n.toNat + 1) + 1 by omega, Int.pow_succ]
    rw [Int.mul_comm 2 n, Int.mul_assoc, Int.mul_comm 2]
  unfold fineE
  rw [hs]
  omega
/-- What is raised by an interval lies at it, up to two tenths of a cent. -/
theorem raise_step {f t : Int} (ht : inB t (-120000) 120000 = true) (hok : raiseOk (goalV f t) = true) {g : Int} (hg : raiseV (goalV f t) = g) :
    10000 ≤ g ∧ g ≤ 20000000 ∧ t * 16777216 ≤ 12000 * (fineV g - fineV f) ∧ 12000 * (fineV g - fineV f) ≤ t * 16777216 + 12000 * 2423 ∧ (g = 10000 ∨ 12000 * (fineV (g - 1) - fineV f) < t * 16777216 + 12000) := by
  obtain ⟨t1, t2⟩ := inB_iff.1 ht
  have hr := raiseV_is hok
  rw [hg] at hr
  obtain ⟨a, b, c, d⟩ := hr
  obtain ⟨u1, u2, u3, u4⟩ := upV_bd t1 t2
  have hlo := (raiseOk_bd hok).1
  unfold goalV at *
  refine ⟨a, b, by omega, ?_, ?_⟩
  · rcases d with rfl | d
    · have : fineLo = fineV 10000 := rfl
      omega
    · have hn : 10000 ≤ g - 1 ∨ g = 10000 := by omega
      rcases hn with hn | rfl
      · have hs := fine_step hn (by omega)
        rw [Int.sub_add_cancel] at hs
        omega
      · have : fineLo = fineV 10000 := rfl
        omega
  · rcases d with rfl | d
    · exact .inl rfl
    · exact .inr (by omega)
theorem raise_cents {f t : Int} (ht : inB t (-120000) 120000 = true) (hok : raiseOk (goalV f t) = true) {g : Int} (hg : raiseV (goalV f t) = g) :
    t ≤ tenthsV g - tenthsV f ∧ tenthsV g - tenthsV f ≤ t + 2 := by
  obtain ⟨_, _, h3, h4, _⟩ := raise_step ht hok hg
  unfold tenthsV
  omega
theorem tenths_mono {a b : Int} (h1 : 1 ≤ a) (h : a ≤ b) : tenthsV a ≤ tenthsV b := by
  have := fineV_mono h1 h
  unfold tenthsV
  omega
theorem tenths_octave {a : Int} (h1 : 1 ≤ a) (h : a ≤ 1000000000) : tenthsV (2 * a) - tenthsV a = 12000 := by
  have := fine_double h1 h
  unfold tenthsV
  omega
end Go.Proofs.YtkbfmjnekeipcaaGreatDoor
