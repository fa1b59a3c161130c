/- Rounded quotients against products; the mean of two frequencies lies between. Plain mathematics, and contracts said anew in its words. -/
import Derived.Test.YtajlgclodjgiiaaMean
import Derived.Test.YtajlgclodjgiiaaDrawN
import Derived.Test.YtajlgclodjgiiaaStepO
namespace Go.Proofs.Ytajlgclodjgiiaa
open Go.ChangeShapes Go.WideShapes Go.ChangeAt Go.RowKit

theorem near_pos {a b : Int} (ha : 0 ≤ a) (hb : 0 < b) : nearI a b = (2 * a + b) / (2 * b) := by
  unfold nearI nearP
  rw [if_pos (by rw [eq_iff_iff]; omega), absI_pos ha, absI_pos (Int.le_of_lt hb)]
theorem near_bd {a b : Int} (ha : 0 ≤ a) (hb : 0 < b) : 2 * a - b ≤ 2 * (nearI a b * b) ∧ 2 * (nearI a b * b) ≤ 2 * a + b ∧ 0 ≤ nearI a b ∧ nearI a b ≤ a + 1 := by
  rw [near_pos ha hb]
  obtain ⟨q, hq⟩ : ∃ q, q = (2 * a + b) / (2 * b) := ⟨_, rfl⟩
  rw [← hq]
  have h1 : q * (2 * b) ≤ 2 * a + b := by rw [hq]; exact Int.ediv_mul_le _ (by omega)
  have h2 : 2 * a + b < (q + 1) * (2 * b) := by rw [hq]; exact Int.lt_ediv_add_one_mul_self _ (by omega)
  have h0 : 0 ≤ q := by rw [hq]; exact Int.ediv_nonneg (by omega) (by omega)
  have h3 : q ≤ q * b := by
    have := Int.mul_le_mul_of_nonneg_left (show 1 ≤ b by omega) h0
    omega
  have e1 : q * (2 * b) = 2 * (q * b) := by rw [← Int.mul_assoc, Int.mul_comm q 2, Int.mul_assoc]
  have e2 : (q + 1) * (2 * b) = 2 * (q * b) + 2 * b := by rw [Int.add_mul, e1, Int.one_mul]
  rw [e1] at h1
  rw [e2] at h2
  refine ⟨by omega, by omega, h0, ?_⟩
  apply Int.not_lt.1
  intro hlt
  have h4 : (a + 2) * b ≤ q * b := Int.mul_le_mul_of_nonneg_right (by omega) (by omega)
  rw [Int.add_mul] at h4
  have h5 : a * 1 ≤ a * b := Int.mul_le_mul_of_nonneg_left (by omega) ha
  omega
/-- A beat's time. -/
theorem time_law {a : Int} (h1 : 1 ≤ a) (h2 : a ≤ 20000000) : 0 ≤ nearI 1000000 a ∧ nearI 1000000 a ≤ 1000001 ∧ 0 ≤ nearI 1000000 a * a ∧ nearI 1000000 a * a ≤ 20000000 ∧ absI (nearI 1000000 a * a - 1000000) ≤ a := by
  obtain ⟨b1, b2, b3, b4⟩ := near_bd (a := 1000000) (b := a) (by omega) (by omega)
  have h0 : 0 ≤ nearI 1000000 a * a := Int.mul_nonneg b3 (by omega)
  refine ⟨b3, by omega, h0, by omega, ?_⟩
  rcases absI_cases (nearI 1000000 a * a - 1000000) with ⟨_, e⟩ | ⟨_, e⟩ <;> omega
def midI (f g : Int) : Int := (f + g + 1) / 2
theorem mean2 (A : Option Addr) (c : Nat) (f g : Int) (w : World) (h : IntsAt w A 2 [f, g]) (hf : inB f 10000 20000000 = true) (hg : inB g 10000 20000000 = true) :
    Calls Try.prog 49 #[.slice A 2 c] w fun e w' => e = .returned (.tuple #[.int .i64 (midI f g), .int .i64 0]) ∧ ∃ k, w' = w.drewN k := by
  have hm := mean_impl A 2 c [f, g] w h (by omega)
  have e : meanR [f, g] = (midI f g, 0) := by
    unfold meanR
    rw [if_pos (allF2 hf hg), if_neg (by simp), if_neg (by simp)]
    have f1 := inB_iff.1 hf
    have g1 := inB_iff.1 hg
    have e2 : sumL [f, g] = f + g := by simp [sumL]
    rw [e2]
    show (nearI (f + g) 2, (0 : Int)) = _
    rw [near_pos (by omega) (by omega)]
    unfold midI
    congr 1
    omega
  rw [e] at hm
  exact hm
theorem mid_bd (f g : Int) : (f ≤ g → f ≤ midI f g ∧ midI f g ≤ g) ∧ (g ≤ f → g ≤ midI f g ∧ midI f g ≤ f) := by
  unfold midI
  omega
end Go.Proofs.Ytajlgclodjgiiaa
