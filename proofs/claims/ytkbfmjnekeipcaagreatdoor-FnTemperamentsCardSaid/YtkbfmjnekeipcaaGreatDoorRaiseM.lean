/- The logarithm rises; the least frequency at a logarithm is one alone: plain mathematics. No program. -/
import Derived.Test.YtkbfmjnekeipcaaGreatDoorLogM
import Derived.Test.YtkbfmjnekeipcaaGreatDoorDiv
namespace Go.Proofs.YtkbfmjnekeipcaaGreatDoor

theorem iterL_mono {x x' : Int} (h0 : 0 ≤ x) (h : x ≤ x') : ∀ k, 0 ≤ (iterL k (x, 0)).1 ∧ ((iterL k (x, 0)).2 < (iterL k (x', 0)).2 ∨ ((iterL k (x, 0)).2 = (iterL k (x', 0)).2 ∧ (iterL k (x, 0)).1 ≤ (iterL k (x', 0)).1)) := by
  intro k
  induction k with
  | zero => exact ⟨h0, .inr ⟨rfl, h⟩⟩
  | succ k ih =>
    show 0 ≤ (stepL (iterL k (x, 0))).1 ∧ ((stepL (iterL k (x, 0))).2 < (stepL (iterL k (x', 0))).2 ∨ ((stepL (iterL k (x, 0))).2 = (stepL (iterL k (x', 0))).2 ∧ (stepL (iterL k (x, 0))).1 ≤ (stepL (iterL k (x', 0))).1))
    revert ih
    generalize iterL k (x, 0) = p
    generalize iterL k (x', 0) = q
    obtain ⟨y, r⟩ := p
    obtain ⟨y', r'⟩ := q
    intro ih
    simp only at ih
    obtain ⟨hy, hc⟩ := ih
    have hyy : 0 ≤ y * y := Int.mul_nonneg hy hy
    unfold stepL
    simp only
    refine ⟨by split <;> (simp only; omega), ?_⟩
    rcases hc with hc | ⟨hc, hm⟩
    · left
      split <;> split <;> (simp only; omega)
    · subst hc
      have hmm : y * y ≤ y' * y' := Int.mul_le_mul hm hm hy (by omega)
      have hd : y * y / 1073741824 ≤ y' * y' / 1073741824 := by omega
      split <;> split <;> first | (right; exact ⟨rfl, by simp only; omega⟩) | (simp only; omega)

theorem fineV_mono {a b : Int} (h1 : 1 ≤ a) (h : a ≤ b) : fineV a ≤ fineV b := by
  have la := isLog_of_log2 h1
  have lb := isLog_of_log2 (show 1 ≤ b by omega)
  rw [← isLog_fine la, ← isLog_fine lb]
  generalize Nat.log2 a.toNat = e at la
  generalize Nat.log2 b.toNat = e' at lb
  have he : e ≤ e' := by
    apply Nat.le_of_lt_succ
    apply Nat.lt_of_not_le
    intro hle
    have h2 : (2 : Int) ^ (e' + 1) ≤ 2 ^ e := by
      have := Nat.pow_le_pow_right (n := 2) (by omega) hle
      have c1 : ((2 ^ e : Nat) : Int) = (2 : Int) ^ e := by rw [Int.natCast_pow]; rfl
      have c2 : ((2 ^ (e' + 1) : Nat) : Int) = (2 : Int) ^ (e' + 1) := by rw [Int.natCast_pow]; rfl
      omega
    have := la.1
    have := lb.2
    omega
  have key : ∀ n (e : Nat), isLog n e → 0 ≤ (iterL 24 (startX n e, 0)).2 ∧ (iterL 24 (startX n e, 0)).2 < 16777216 := by
    intro n e hl
    have hk : ∀ k, k ≤ 24 → ∃ x r, logRel n e k x r := by
      intro k
      induction k with
      | zero => exact fun _ => ⟨_, _, logRel_start hl⟩
      | succ k ih =>
        intro hk
        obtain ⟨x, r, h⟩ := ih (by omega)
        by_cases hy : 2147483648 ≤ x * x / 1073741824
        · exact ⟨_, _, logRel_yes h (by omega) hy⟩
        · exact ⟨_, _, logRel_no h (by omega) hy⟩
    obtain ⟨x, r, h⟩ := hk 24 (by omega)
    have hb := logRel_bd h (by omega)
    rw [h.1]
    exact ⟨hb.2.2.1, hb.2.2.2.1⟩
  have ka := key a e la
  have kb := key b e' lb
  unfold fineE
  rcases Nat.lt_or_eq_of_le he with hlt | rfl
  · omega
  · have hs : startX a e ≤ startX b e := by
      unfold startX
      split
      · exact Int.mul_le_mul_of_nonneg_right h (Int.le_of_lt (Int.pow_pos (by omega)))
      · exact Int.ediv_le_ediv (Int.pow_pos (by omega)) h
    have := (iterL_mono (by have := startX_bd la; omega) hs 24).2
    omega

/-- 2^24 t / 12000, rounded up. -/
def upV (t : Int) : Int := -(-t * 16777216 / 12000)
theorem upV_bd {t : Int} (h1 : -120000 ≤ t) (h2 : t ≤ 120000) : -167772160 ≤ upV t ∧ upV t ≤ 167772160 ∧ t * 16777216 ≤ 12000 * upV t ∧ 12000 * upV t < t * 16777216 + 12000 := by
  unfold upV
  omega
/-- The logarithm that is asked for. -/
def goalV (f t : Int) : Int := fineV f + upV t
/-- g is the least frequency that is high enough. -/
def isRaise (G g : Int) : Prop := 10000 ≤ g ∧ g ≤ 20000000 ∧ G ≤ fineV g ∧ (g = 10000 ∨ fineV (g - 1) < G)
theorem isRaise_unique {G a b : Int} (h : isRaise G a) (k : isRaise G b) : a = b := by
  have key : ∀ a b, isRaise G a → isRaise G b → b ≤ a := by
    intro a b h k
    apply Int.not_lt.1
    intro hlt
    rcases k.2.2.2 with h4 | h4
    · have := h.1; omega
    · have := fineV_mono (by have := h.1; omega) (show a ≤ b - 1 by omega)
      have := h.2.2.1
      omega
  have := key a b h k
  have := key b a k h
  omega
/-- The logarithms of the least and of the greatest frequency. -/
def fineLo : Int := fineV 10000
def fineHi : Int := fineV 20000000
def raiseOk (G : Int) : Bool := decide (fineLo ≤ G) && decide (G ≤ fineHi)
/-- The relation of the search. -/
def seekRel (G l h : Int) : Prop := 10000 ≤ l ∧ l ≤ h ∧ h ≤ 20000000 ∧ G ≤ fineV h ∧ (l = 10000 ∨ fineV (l - 1) < G)
theorem seekRel_start {G : Int} (h : raiseOk G = true) : seekRel G 10000 20000000 := by
  simp only [raiseOk, Bool.and_eq_true, decide_eq_true_eq] at h
  exact ⟨by omega, by omega, by omega, h.2, .inl rfl⟩
theorem seekRel_yes {G l h m : Int} (hr : seekRel G l h) (h1 : l ≤ m) (h2 : m < h) (hy : G ≤ fineV m) : seekRel G l m :=
  ⟨hr.1, h1, by have := hr.2.2.1; omega, hy, hr.2.2.2.2⟩
theorem seekRel_no {G l h m : Int} (hr : seekRel G l h) (h1 : l ≤ m) (h2 : m < h) (hy : ¬ G ≤ fineV m) : seekRel G (m + 1) h :=
  ⟨by have := hr.1; omega, by omega, hr.2.2.1, hr.2.2.2.1, .inr (by rw [Int.add_sub_cancel]; omega)⟩
theorem seekRel_end {G l h : Int} (hr : seekRel G l h) (he : ¬ l < h) : isRaise G l := by
  obtain ⟨a, b, c, d, e⟩ := hr
  obtain rfl : l = h := by omega
  exact ⟨a, c, d, e⟩
/-- The least frequency that is high enough, if there is one. -/
noncomputable def raiseV (G : Int) : Int := @dite Int (∃ g, isRaise G g) (Classical.propDecidable _) (fun h => Classical.choose h) (fun _ => 0)
theorem raiseV_eq {G g : Int} (h : isRaise G g) : g = raiseV G := by
  have hex : ∃ g, isRaise G g := ⟨g, h⟩
  have e : raiseV G = Classical.choose hex := by unfold raiseV; exact dif_pos hex
  rw [e]
  exact isRaise_unique h (Classical.choose_spec hex)
theorem seek_ex {G : Int} (h : raiseOk G = true) : ∃ g, isRaise G g := by
  have key : ∀ (n : Nat) (l h : Int), (h - l).toNat ≤ n → seekRel G l h → ∃ g, isRaise G g := by
    intro n
    induction n with
    | zero => exact fun l h hn hr => ⟨l, seekRel_end hr (by omega)⟩
    | succ n ih =>
      intro l h hn hr
      by_cases hlt : l < h
      · by_cases hy : G ≤ fineV l
        · exact ih l l (by omega) (seekRel_yes hr (by omega) hlt hy)
        · exact ih (l + 1) h (by omega) (seekRel_no hr (by omega) hlt hy)
      · exact ⟨l, seekRel_end hr hlt⟩
  exact key _ _ _ (Nat.le_refl _) (seekRel_start h)
theorem raiseV_is {G : Int} (h : raiseOk G = true) : isRaise G (raiseV G) := by
  obtain ⟨g, hg⟩ := seek_ex h
  rw [← raiseV_eq hg]
  exact hg

theorem floor_no {a b : Int} (hb : 0 < b) (h : a.tmod b < 0) : a.tdiv b - 1 = a / b := by
  have e1 := Int.tmod_add_mul_tdiv a b
  have h2 : -b < a.tmod b := by
    have h3 := (tdiv_cases a b (by omega)).1
    have h4 := Int.emod_lt_of_pos (absI a) (show 0 < absI b by rw [absI_pos (by omega)]; omega)
    rw [← h3, absI_neg h, absI_pos (by omega)] at h4
    omega
  symm
  apply ediv_eq hb
  · rw [Int.mul_sub]; omega
  · rw [Int.mul_sub]; omega
theorem floor_yes {a b : Int} (hb : 0 < b) (h : ¬ a.tmod b < 0) : a.tdiv b = a / b := by
  have e1 := Int.tmod_add_mul_tdiv a b
  have h2 : a.tmod b < b := Int.tmod_lt_of_pos a hb
  symm
  apply ediv_eq hb
  · omega
  · omega
end Go.Proofs.YtkbfmjnekeipcaaGreatDoor
