/- A frequency that is moved by octaves: its interval is as many octaves, nearly. Plain mathematics, no program. -/
import Derived.Test.YtajlgclodjgiiaaStep
import Derived.Test.YtajlgclodjgiiaaOctave
namespace Go.Proofs.Ytajlgclodjgiiaa

theorem half_pow (f : Int) : ∀ k, halfK f k * 2 ^ k ≤ f := by
  intro k
  induction k with
  | zero => show f * 2 ^ 0 ≤ f; omega
  | succ k ih =>
    show halfK f k / 2 * 2 ^ (k + 1) ≤ f
    have hp : (0 : Int) < 2 ^ k := Int.pow_pos (by omega)
    have h2 : halfK f k / 2 * 2 ≤ halfK f k := by omega
    have h3 := Int.mul_le_mul_of_nonneg_right h2 (Int.le_of_lt hp)
    rw [Int.pow_succ, Int.mul_comm (2 ^ k) 2, ← Int.mul_assoc]
    omega
theorem half_few {f : Int} {k : Nat} (hf : f ≤ 20000000) (h : 10000 ≤ halfK f k) : k ≤ 10 := by
  apply Nat.le_of_lt_succ
  apply Nat.lt_of_not_le
  intro hle
  have h1 : (2 : Int) ^ 11 ≤ 2 ^ k := by
    have := Nat.pow_le_pow_right (n := 2) (by omega) hle
    have c1 : ((2 ^ k : Nat) : Int) = (2 : Int) ^ k := by rw [Int.natCast_pow]; rfl
    have c2 : ((2 ^ 11 : Nat) : Int) = (2 : Int) ^ 11 := by decide
    omega
  have c3 : (2 : Int) ^ 11 = 2048 := by decide
  have h2 := half_pow f k
  have h3 := Int.mul_le_mul h (show 2048 ≤ (2 : Int) ^ k by omega) (by omega) (by omega)
  omega
theorem fine_half {f : Int} (hf : f ≤ 20000000) : ∀ k, (∀ i, i ≤ k → 10000 ≤ halfK f i) → fineV (halfK f k) + 16777216 * k ≤ fineV f ∧ fineV f ≤ fineV (halfK f k) + 16777216 * k + 2423 * k ∧ halfK f k ≤ 20000000 := by
  intro k
  induction k with
  | zero => intro _; show fineV f + 16777216 * (0 : Nat) ≤ fineV f ∧ fineV f ≤ fineV f + 16777216 * (0 : Nat) + 2423 * (0 : Nat) ∧ f ≤ 20000000; omega
  | succ k ih =>
    intro h
    obtain ⟨h1, h2, h4⟩ := ih (fun i hi => h i (by omega))
    have h3 := h (k + 1) (Nat.le_refl _)
    have e : halfK f (k + 1) = halfK f k / 2 := rfl
    rw [e] at h3 ⊢
    generalize halfK f k = x at *
    obtain ⟨y, hy⟩ : ∃ y, y = x / 2 := ⟨_, rfl⟩
    rw [← hy] at h3 ⊢
    have hd := fine_double (n := y) (by omega) (by omega)
    have hm := fineV_mono (a := 2 * y) (b := x) (by omega) (by omega)
    have hu := fineV_mono (a := x) (b := 2 * y + 1) (by omega) (by omega)
    have hs := fine_step (n := 2 * y) (by omega) (by omega)
    omega
theorem fine_dbl {g : Int} (hg : 1 ≤ g) : ∀ j, dblJ g j ≤ 1000000000 → fineV (dblJ g j) = fineV g + 16777216 * j ∧ 1 ≤ dblJ g j := by
  intro j
  induction j with
  | zero => intro _; exact ⟨by show fineV g = _; omega, hg⟩
  | succ j ih =>
    intro h
    have e : dblJ g (j + 1) = dblJ g j * 2 := rfl
    rw [e] at h ⊢
    by_cases h1 : 1 ≤ dblJ g j
    · obtain ⟨h2, h3⟩ := ih (by omega)
      have hd := fine_double (n := dblJ g j) h1 (by omega)
      rw [Int.mul_comm] at hd
      omega
    · obtain ⟨h2, h3⟩ := ih (by omega)
      exact absurd h3 h1
theorem near_octaves {A B C k j : Int} (k1 : k ≤ 10) (h1 : C + 16777216 * k ≤ A) (h2 : A ≤ C + 16777216 * k + 2423 * k) (h3 : B = C + 16777216 * j) :
    -40 ≤ 12000 * B / 16777216 - 12000 * A / 16777216 + 12000 * (k - j) ∧ 12000 * B / 16777216 - 12000 * A / 16777216 + 12000 * (k - j) ≤ 40 := by
  subst h3
  have e1 : 12000 * (C + 16777216 * j) / 16777216 = 12000 * C / 16777216 + 12000 * j := by omega
  obtain ⟨d, hd⟩ : ∃ d, A = C + 16777216 * k + d := ⟨A - (C + 16777216 * k), by omega⟩
  subst hd
  have e2 : 12000 * (C + 16777216 * k + d) / 16777216 = (12000 * C + 12000 * d) / 16777216 + 12000 * k := by omega
  rw [e1, e2]
  have d0 : 0 ≤ d := by omega
  have d1 : d ≤ 24230 := by omega
  clear h1 h2 e1 e2 k1
  omega
/-- What ReduceOctave returns lies in the octave of its base; the interval is as many octaves, up to two cents. -/
theorem reduce_law {f base : Int} {k j : Nat} (h1 : inB f 10000 20000000 = true) (h2 : inB base 10000 20000000 = true) (h : redRel f base k j) (hi : inB (dblJ (halfK f k) j) 10000 20000000 = true) :
    base ≤ dblJ (halfK f k) j ∧ dblJ (halfK f k) j < 2 * base ∧ -40 ≤ tenthsV (dblJ (halfK f k) j) - tenthsV f + 12000 * ((k : Int) - j) ∧ tenthsV (dblJ (halfK f k) j) - tenthsV f + 12000 * ((k : Int) - j) ≤ 40 := by
  obtain ⟨f1, f2⟩ := inB_iff.1 h1
  obtain ⟨b1, b2⟩ := inB_iff.1 h2
  obtain ⟨i1, i2⟩ := inB_iff.1 hi
  obtain ⟨r1, r2, r3, r4⟩ := h
  have r5 : dblJ (halfK f k) j < 2 * base := by
    cases j with
    | zero => exact r2
    | succ j =>
      have := r3 j (by omega)
      show dblJ (halfK f k) j * 2 < 2 * base
      omega
  have hh : ∀ i, i ≤ k → 10000 ≤ halfK f i := by
    intro i hle
    match i, hle with
    | 0, _ => exact f1
    | i + 1, hle =>
      have := r1 i (by omega)
      show 10000 ≤ halfK f i / 2
      omega
  obtain ⟨a1, a2, a3⟩ := fine_half f2 k hh
  have hk := half_few f2 (hh k (Nat.le_refl _))
  have hd := (fine_dbl (g := halfK f k) (by have := hh k (Nat.le_refl _); omega) j (by omega)).1
  refine ⟨r4, ?_, ?_⟩
  · exact r5
  · exact near_octaves (by omega) a1 a2 hd
end Go.Proofs.Ytajlgclodjgiiaa
