/- Contracts of the mean of frequencies, in the program and in the reference. -/
import Derived.Test.YtajlgclodjgiiaaFreq
namespace Go.Proofs.Ytajlgclodjgiiaa
open Go.ChangeShapes Go.WideShapes Go.ChangeAt Go.RowKit

theorem allF_get {zs : List Int} (h : allF zs = true) : ∀ (k : Nat) (z : Int), zs[k]? = some z → 10000 ≤ z ∧ z ≤ 20000000 := by
  intro k z hz
  unfold allF at h
  rw [List.all_eq_true] at h
  exact inB_iff.1 (h z (List.mem_of_getElem? hz))
theorem sumL_bd {zs : List Int} {n : Nat} (hl : zs.length = n) (hF : ∀ (k : Nat) (z : Int), zs[k]? = some z → 10000 ≤ z ∧ z ≤ 20000000) : ∀ k, k ≤ n → 0 ≤ sumL (zs.take k) ∧ sumL (zs.take k) ≤ 20000000 * k := by
  intro k
  induction k with
  | zero => intro _; exact ⟨by simp [sumL], by simp [sumL]⟩
  | succ k ih =>
    intro hk
    have hz : zs[k]? = some (zs[k]'(by omega)) := List.getElem?_eq_getElem (by omega)
    have h1 := ih (by omega)
    have h2 := hF k _ hz
    rw [← sum_succ hz]
    omega
/-- What MeanFrequency returns. -/
def meanR (zs : List Int) : Int × Int := if allF zs = true then (if 64 < zs.length then (0, 5) else if zs.length = 0 then (0, 6) else (nearI (sumL zs) zs.length, 0)) else (0, 2)

theorem size_any (A : Option Addr) (n c : Nat) (w : World) : Calls Try.prog 87 #[.slice A n c] w fun e w' => e = .returned (.int .i64 (n : Int)) ∧ w = w' := by
  go_enter Try.func87, Try.ntmps87
  go_wp2
  go_ret
  exact ⟨rfl, rfl⟩

set_option maxHeartbeats 1000000 in
theorem mean_impl (A : Option Addr) (n c : Nat) (zs : List Int) (w : World) (h : IntsAt w A n zs) (hn : n ≤ 1048576) :
    Calls Try.prog 49 #[.slice A n c] w fun e w' => e = .returned (.tuple #[.int .i64 (meanR zs).1, .int .i64 (meanR zs).2]) ∧ ∃ k, w' = w.drewN k := by
  have hl := h.len
  cases hF : allF zs
  · have e : meanR zs = (0, 2) := by unfold meanR; rw [if_neg (by simp [hF])]
    have E := Lib.hid e
    clear e
    go_enter Try.func49, Try.ntmps49
    go_wp2_with (go_at_call 53; refine (areFreq_is hF _ h (by omega)).mono ?_; rintro e w' ⟨rfl, rfl⟩)
    go_ret2
    exact ⟨by rw [E.out]; rfl, 0, rfl⟩
  · by_cases h1 : 64 < n
    · have e : meanR zs = (0, 5) := by unfold meanR; rw [if_pos hF, if_pos (by omega)]
      have E := Lib.hid e
      clear e
      go_enter Try.func49, Try.ntmps49
      go_wp2_with (go_at_call 53; refine (areFreq_is hF _ h (by omega)).mono ?_; rintro e w' ⟨rfl, rfl⟩)
      go_ret2
      exact ⟨by rw [E.out]; rfl, 0, rfl⟩
    · by_cases h2 : n = 0
      · have e : meanR zs = (0, 6) := by unfold meanR; rw [if_pos hF, if_neg (by omega), if_pos (by omega)]
        have E := Lib.hid e
        have hz : ((n : Int) == 0) = true := by rw [beq_iff_eq]; omega
        have d1 : decide (64 < (n : Int)) = false := decide_eq_false (by omega)
        clear e h2
        go_enter Try.func49, Try.ntmps49
        go_wp2_with (go_at_call 53; refine (areFreq_is hF _ h (by omega)).mono ?_; rintro e w' ⟨rfl, rfl⟩)
        go_ret2
        exact ⟨by rw [E.out]; rfl, 0, rfl⟩
      · have e : meanR zs = (nearI (sumL zs) n, 0) := by unfold meanR; rw [if_pos hF, if_neg (by omega), if_neg (by omega), hl]
        have E := Lib.hid e
        have hz : ((n : Int) == 0) = false := by rw [beq_eq_false_iff_ne]; omega
        have d1 : decide (64 < (n : Int)) = false := decide_eq_false (by omega)
        have hG := allF_get hF
        obtain ⟨s1, s2⟩ := sumL_bd hl hG n (Nat.le_refl _)
        rw [sum_end hl] at s1 s2
        clear e hG
        have HG := Lib.hid (allF_get hF)
        go_enter Try.func49, Try.ntmps49
        go_wp2_with (first
          | (go_at_call 53; refine (areFreq_is hF _ h (by omega)).mono ?_; rintro e w' ⟨rfl, rfl⟩)
          | (go_at_call 86; refine (sumOf_any _ _ _ zs _ h (by omega) HG.out).mono ?_; rintro e w' ⟨rfl, rfl⟩)
          | (go_at_call 87; refine (size_any _ _ _ _).mono ?_; rintro e w' ⟨rfl, rfl⟩)
          | (go_at_call 68; refine (nearest_any _ _ (by omega) (by omega) (by omega) (by omega) (by omega) _).mono ?_; rintro e w' ⟨rfl, nq, rfl⟩))
        go_ret2
        exact ⟨by rw [E.out]; rfl, nq, rfl⟩

end Go.Proofs.Ytajlgclodjgiiaa
