/- Contracts of the square roots: the program's (bit by bit) and the reference's (by halving) return the greatest number whose square is at most n, 0 for a negative n. No condition. -/
import Derived.Test.YtkbfmjnekeipcaaDoorNum
namespace Go.Proofs.YtkbfmjnekeipcaaDoor
open Go.ChangeShapes Go.WideShapes Go.ChangeAt Go.RowKit
set_option maxRecDepth 100000

/-- r is the root of n, rounded down; 0 if n is negative. -/
def isRoot (n r : Int) : Prop := 0 ≤ r ∧ (r = 0 ∨ r * r ≤ n) ∧ n < (r + 1) * (r + 1)
theorem isRoot_unique {n r s : Int} (h : isRoot n r) (k : isRoot n s) : r = s := by
  obtain ⟨h0, h1, h2⟩ := h
  obtain ⟨k0, k1, k2⟩ := k
  have key : ∀ a b : Int, 0 ≤ a → 0 ≤ b → (a = 0 ∨ a * a ≤ n) → n < (b + 1) * (b + 1) → a ≤ b := by
    intro a b ha hb h1 h2
    rcases h1 with rfl | h1
    · exact hb
    · apply Int.not_lt.1
      intro hlt
      have : (b + 1) * (b + 1) ≤ a * a := Int.mul_le_mul (by omega) (by omega) (by omega) (by omega)
      omega
  have := key r s h0 k0 h1 k2
  have := key s r k0 h0 k1 h2
  omega
theorem isRoot_le {n r : Int} (h : isRoot n r) (hn : n ≤ 9223372036854775807) : r ≤ 3037000499 := by
  obtain ⟨h0, h1, _⟩ := h
  apply Int.not_lt.1
  intro hlt
  have : 3037000500 * 3037000500 ≤ r * r := Int.mul_le_mul (by omega) (by omega) (by omega) (by omega)
  omega

/-- The relation of the program's loop: the bit that comes next is 2 ^ k, halved. -/
def rootRel (n r b : Int) (k : Nat) : Prop :=
  0 ≤ r ∧ (r = 0 ∨ r * r ≤ n) ∧ n < (r + 2 ^ k) * (r + 2 ^ k) ∧ r + 2 ^ k ≤ 4294967296 ∧ b = 2 ^ k / 2
theorem rootRel_start {n : Int} (hn : n ≤ 9223372036854775807) : rootRel n 0 2147483648 32 := by
  refine ⟨by omega, .inl rfl, ?_, by decide, by decide⟩
  have : ((0 : Int) + 2 ^ 32) * (0 + 2 ^ 32) = 18446744073709551616 := by decide
  omega
theorem rootRel_bounds {n r b : Int} {k : Nat} (h : rootRel n r b k) : 0 ≤ b ∧ b ≤ 2147483648 ∧ 0 ≤ r ∧ r + b ≤ 4294967296 := by
  obtain ⟨h0, _, _, h3, rfl⟩ := h
  have : (0 : Int) < 2 ^ k := Int.pow_pos (by omega)
  omega
theorem rootRel_zero {n r b : Int} (h : rootRel n r b 0) : b = 0 ∧ isRoot n r := by
  obtain ⟨h0, h1, h2, _, rfl⟩ := h
  exact ⟨by decide, h0, h1, by simpa using h2⟩
theorem rootRel_succ {n r b : Int} {k : Nat} (h : rootRel n r b (k + 1)) : 1 ≤ b ∧ b = 2 ^ k := by
  obtain ⟨_, _, _, _, rfl⟩ := h
  have : (0 : Int) < 2 ^ k := Int.pow_pos (by omega)
  rw [Int.pow_succ]
  omega
theorem rootRel_yes {n r b : Int} {k : Nat} (h : rootRel n r b (k + 1)) (hy : r + b ≤ n / (r + b)) : rootRel n (r + b) (b / 2) k := by
  obtain ⟨h1b, hb⟩ := rootRel_succ h
  obtain ⟨h0, h1, h2, h3, _⟩ := h
  rw [Int.pow_succ] at h2 h3
  have hm := (Int.le_ediv_iff_mul_le (by omega : (0 : Int) < r + b)).1 hy
  refine ⟨by omega, .inr hm, ?_, by omega, by rw [hb]⟩
  rw [← hb] at h2 ⊢
  rw [show r + b + b = r + b * 2 from by omega]
  exact h2
theorem rootRel_no {n r b : Int} {k : Nat} (h : rootRel n r b (k + 1)) (hy : ¬ r + b ≤ n / (r + b)) : rootRel n r (b / 2) k := by
  obtain ⟨h1b, hb⟩ := rootRel_succ h
  obtain ⟨h0, h1, h2, h3, _⟩ := h
  rw [Int.pow_succ] at h2 h3
  have hm : ¬ (r + b) * (r + b) ≤ n := fun hh => hy ((Int.le_ediv_iff_mul_le (by omega : (0 : Int) < r + b)).2 hh)
  rw [← hb] at h3
  refine ⟨h0, h1, ?_, by rw [← hb]; omega, by rw [hb]⟩
  rw [← hb]
  omega

set_option maxHeartbeats 400000 in
theorem rootOf_impl (n : Int) (w : World) (hn : n ≤ 9223372036854775807) : Calls Tryd.prog 21 #[.int .i64 n] w fun e w' => (∃ r, e = .returned (.int .i64 r) ∧ isRoot n r) ∧ w = w' := by
  by_cases h0 : n ≤ 0
  · go_enter Tryd.func21, Tryd.ntmps21
    go_wp2
    go_ret
    exact ⟨⟨0, rfl, by omega, .inl rfl, by omega⟩, rfl⟩
  · go_enter Tryd.func21, Tryd.ntmps21
    go_wp2
    go_loop [3, 4, 5] (fun r b _ => ∃ (k : Nat) (r' b' : Int), r = .int .i64 r' ∧ b = .int .i64 b' ∧ rootRel n r' b' k) (fun _ b _ => (intOf b).toNat)
    case atStart => exact ⟨32, 0, 2147483648, rfl, rfl, rootRel_start hn⟩
    case round =>
      obtain ⟨k, r, b, rfl, rfl, hr⟩ := hrel
      have hb := rootRel_bounds hr
      match k, hr with
      | 0, hr =>
        obtain ⟨hb0, hroot⟩ := rootRel_zero hr
        have hb1 : ¬ 0 < b := by omega
        clear hb0
        go_wp2
        go_ret
        exact ⟨⟨r, rfl, hroot⟩, rfl⟩
      | k + 1, hr =>
        obtain ⟨hb1, hb2⟩ := rootRel_succ hr
        clear hb2
        by_cases hy : r + b ≤ n / (r + b)
        · have hy2 := rootRel_yes hr hy
          go_wp2
          go_round
          case rel => exact ⟨k, _, _, rfl, rfl, hy2⟩
          case measure => simp [intOf]; omega
        · have hy2 := rootRel_no hr hy
          go_wp2
          go_round
          case rel => exact ⟨k, _, _, rfl, rfl, hy2⟩
          case measure => simp [intOf]; omega

theorem half_sq {l h : Int} (h0 : 0 ≤ l) (hlt : l < h) (hh : h ≤ 3037000499) : 0 ≤ (l + h + 1) / 2 * ((l + h + 1) / 2) ∧ (l + h + 1) / 2 * ((l + h + 1) / 2) ≤ 9223372036854775807 ∧ l < (l + h + 1) / 2 ∧ (l + h + 1) / 2 ≤ h := by
  have h1 : (l + h + 1) / 2 ≤ 3037000499 := by omega
  have h2 : 0 ≤ (l + h + 1) / 2 := by omega
  have h3 : (l + h + 1) / 2 * ((l + h + 1) / 2) ≤ 3037000499 * 3037000499 := Int.mul_le_mul h1 h1 h2 (by omega)
  exact ⟨Int.mul_nonneg h2 h2, by omega, by omega, by omega⟩

/-- The relation of the reference's loop. -/
def halfRel (n l h : Int) : Prop := 0 ≤ l ∧ l ≤ h ∧ h ≤ 3037000499 ∧ (l = 0 ∨ l * l ≤ n) ∧ n < (h + 1) * (h + 1)
theorem halfRel_start {n : Int} (hn : n ≤ 9223372036854775807) : halfRel n 0 3037000499 := ⟨by omega, by omega, by omega, .inl rfl, by omega⟩
theorem halfRel_yes {n l h m : Int} (hr : halfRel n l h) (h1 : l < m) (h2 : m ≤ h) (h3 : m * m ≤ n) : halfRel n m h := by
  obtain ⟨a, b, c, d, e⟩ := hr
  exact ⟨by omega, h2, c, .inr h3, e⟩
theorem halfRel_no {n l h m : Int} (hr : halfRel n l h) (h1 : l < m) (h2 : m ≤ h) (h3 : ¬ m * m ≤ n) : halfRel n l (m - 1) := by
  obtain ⟨a, b, c, d, e⟩ := hr
  exact ⟨a, by omega, by omega, d, by rw [Int.sub_add_cancel]; omega⟩
theorem halfRel_end {n l h : Int} (hr : halfRel n l h) (he : ¬ l < h) : isRoot n l := by
  obtain ⟨a, b, c, d, e⟩ := hr
  obtain rfl : l = h := by omega
  exact ⟨a, d, e⟩

end Go.Proofs.YtkbfmjnekeipcaaDoor
