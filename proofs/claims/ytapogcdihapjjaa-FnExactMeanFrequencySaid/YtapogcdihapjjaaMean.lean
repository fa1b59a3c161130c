/- Contracts of the mean of frequencies, in the program and in the reference. -/
import Derived.Test.YtapogcdihapjjaaFreq
namespace Go.Proofs.Ytapogcdihapjjaa
open Go.ChangeShapes Go.WideShapes Go.ChangeAt Go.RowKit

theorem allF_get {zs : List Int} (h : allF zs = true) : ∀ (k : Nat) (z : Int), zs[k]? = some z → 10000 ≤ z ∧ z ≤ 20000000 := by
  intro k z hz
  unfold allF at h
  rw [List.all_eq_true] at h
  exact inB_iff.1 (h z (List.mem_of_getElem? hz))
theorem sumL_bd {zs : List Int} {n : Nat} (hl : zs.length = n) (hF : ∀ (k : Nat) (z : Int), zs[k]? = some z → 10000 ≤ z ∧ z ≤ 20000000) : ∀ k, k ≤ n → 0 ≤ sumL (zs.take k) ∧ sumL (zs.take k) ≤ 20000000 * k := by
  intro k
  induction k with
  | zero => intro _; exact ⟨by simp [sumL], by simp [sumL]⟩
  | succ k ih =>
    intro hk
    have hz : zs[k]? = some (zs[k]'(by omega)) := List.getElem?_eq_getElem (by omega)
    have h1 := ih (by omega)
    have h2 := hF k _ hz
    rw [← sum_succ hz]
    omega
/-- What MeanFrequency returns. -/
def meanR (zs : List Int) : Int × Int := if allF zs = true then (if 64 < zs.length then (0, 5) else if zs.length = 0 then (0, 6) else (nearI (sumL zs) zs.length, 0)) else (0, 2)

theorem size_any (A : Option Addr) (n c : Nat) (w : World) : Calls Try.prog 61 #[.slice A n c] w fun e w' => e = .returned (.int .i64 (n : Int)) ∧ w = w' := by
  go_enter Try.func61, Try.ntmps61
  go_wp2
  go_ret
  exact ⟨rfl, rfl⟩

set_option maxHeartbeats 1000000 in
theorem mean_impl (A : Option Addr) (n c : Nat) (zs : List Int) (w : World) (h : IntsAt w A n zs) (hn : n ≤ 1048576) :
    Calls Try.prog 37 #[.slice A n c] w fun e w' => e = .returned (.tuple #[.int .i64 (meanR zs).1, .int .i64 (meanR zs).2]) ∧ ∃ k, w' = w.drewN k := by
  have hl := h.len
  cases hF : allF zs
  · have e : meanR zs = (0, 2) := by unfold meanR; rw [if_neg (by simp [hF])]
    have E := Lib.hid e
    clear e
    go_enter Try.func37, Try.ntmps37
    go_wp2_with (go_at_call 46; refine (areFreq_is hF _ h (by omega)).mono ?_; rintro e w' ⟨rfl, rfl⟩)
    go_ret2
    exact ⟨by rw [E.out]; rfl, 0, rfl⟩
  · by_cases h1 : 64 < n
    · have e : meanR zs = (0, 5) := by unfold meanR; rw [if_pos hF, if_pos (by omega)]
      have E := Lib.hid e
      clear e
      go_enter Try.func37, Try.ntmps37
      go_wp2_with (go_at_call 46; refine (areFreq_is hF _ h (by omega)).mono ?_; rintro e w' ⟨rfl, rfl⟩)
      go_ret2
      exact ⟨by rw [E.out]; rfl, 0, rfl⟩
    · by_cases h2 : n = 0
      · have e : meanR zs = (0, 6) := by unfold meanR; rw [if_pos hF, if_neg (by omega), if_pos (by omega)]
        have E := Lib.hid e
        have hz : ((n : Int) == 0) = true := by rw [beq_iff_eq]; omega
        have d1 : decide (64 < (n : Int)) = false := decide_eq_false (by omega)
        clear e h2
        go_enter Try.func37, Try.ntmps37
        go_wp2_with (go_at_call 46; refine (areFreq_is hF _ h (by omega)).mono ?_; rintro e w' ⟨rfl, rfl⟩)
        go_ret2
        exact ⟨by rw [E.out]; rfl, 0, rfl⟩
      · have e : meanR zs = (nearI (sumL zs) n, 0) := by unfold meanR; rw [if_pos hF, if_neg (by omega), if_neg (by omega), hl]
        have E := Lib.hid e
        have hz : ((n : Int) == 0) = false := by rw [beq_eq_false_iff_ne]; omega
        have d1 : decide (64 < (n : Int)) = false := decide_eq_false (by omega)
        have hG := allF_get hF
        obtain ⟨s1, s2⟩ := sumL_bd hl hG n (Nat.le_refl _)
        rw [sum_end hl] at s1 s2
        clear e hG
        have HG := Lib.hid (allF_get hF)
        go_enter Try.func37, Try.ntmps37
        go_wp2_with (first
          | (go_at_call 46; refine (areFreq_is hF _ h (by omega)).mono ?_; rintro e w' ⟨rfl, rfl⟩)
          | (go_at_call 60; refine (sumOf_any _ _ _ zs _ h (by omega) HG.out).mono ?_; rintro e w' ⟨rfl, rfl⟩)
          | (go_at_call 61; refine (size_any _ _ _ _).mono ?_; rintro e w' ⟨rfl, rfl⟩)
          | (go_at_call 50; refine (nearest_any _ _ (by omega) (by omega) (by omega) (by omega) (by omega) _).mono ?_; rintro e w' ⟨rfl, nq, rfl⟩))
        go_ret2
        exact ⟨by rw [E.out]; rfl, nq, rfl⟩

set_option maxHeartbeats 2000000 in
theorem mean_spec (A : Option Addr) (n c : Nat) (zs : List Int) (w : World) (h : IntsAt w A n zs) (hn : n ≤ 1048576) :
    Calls Try.prog 35 #[.slice A n c] w fun e w' => e = .returned (.tuple #[.int .i64 (meanR zs).1, .int .i64 (meanR zs).2]) ∧ w = w' := by
  have hl := h.len
  go_enter Try.func35, Try.ntmps35
  go_wp2
  go_loop [4, 5] (fun s i => ∃ (k : Nat) (s' : Int), k ≤ n ∧ i = .int .i64 k ∧ s = .int .i64 s' ∧ s' = sumL (zs.take k) ∧ 0 ≤ s' ∧ s' ≤ 20000000 * k ∧ ∀ j z, j < k → zs[j]? = some z → inB z 10000 20000000 = true) (fun _ i => n - (intOf i).toNat)
  case atStart => exact ⟨0, 0, Nat.zero_le _, rfl, rfl, rfl, by omega, by omega, fun j z hj => by omega⟩
  case round =>
    obtain ⟨k, s, hk, rfl, rfl, hs, s1, s2, hall⟩ := hrel
    by_cases hlt : k < n
    · obtain ⟨b, off, z, rfl, hb, hz, hc⟩ := h.at_ hlt
      cases hB : inB z 10000 20000000
      · have e : meanR zs = (0, 2) := by unfold meanR; rw [if_neg (by simp [allF_false hz hB])]
        have E := Lib.hid e
        clear e hs hall hz
        go_wp2_with (go_at_call 44; refine (l02Ok_is hB _).mono ?_; rintro e w' ⟨rfl, rfl⟩)
        go_ret2
        exact ⟨by rw [E.out]; rfl, rfl⟩
      · obtain ⟨z1, z2⟩ := inB_bd hB
        have H := Lib.hid (allF_succ hall hz hB)
        have HS : Hid (s + z = sumL (zs.take (k + 1))) := by
          have := sum_succ hz
          rw [← hs] at this
          exact this
        clear hs hall hz
        go_wp2_with (go_at_call 44; refine (l02Ok_is hB _).mono ?_; rintro e w' ⟨rfl, rfl⟩)
        go_round
        case rel => exact ⟨k + 1, _, by omega, by go_num, rfl, HS.out, by omega, by omega, H.out⟩
        case measure => simp [intOf]; omega
    · obtain rfl : k = n := by omega
      have hF := allF_true hl (fun j z hj => hall j z (by omega))
      have HS := Lib.hid (hs.trans (sum_end hl))
      clear hs hall
      by_cases h1 : 64 < k
      · have e : meanR zs = (0, 5) := by unfold meanR; rw [if_pos hF, if_pos (by omega)]
        have E := Lib.hid e
        clear e hF
        go_wp2
        go_ret2
        exact ⟨by rw [E.out]; rfl, rfl⟩
      · by_cases h2 : k = 0
        · have e : meanR zs = (0, 6) := by unfold meanR; rw [if_pos hF, if_neg (by omega), if_pos (by omega)]
          have E := Lib.hid e
          have hz : ((k : Int) == 0) = true := by rw [beq_iff_eq]; omega
          clear e hF h2
          go_wp2
          go_ret2
          exact ⟨by rw [E.out]; rfl, rfl⟩
        · have e : meanR zs = (nearI s k, 0) := by unfold meanR; rw [if_pos hF, if_neg (by omega), if_neg (by omega), hl, ← HS.out]
          have E := Lib.hid e
          have hz : ((k : Int) == 0) = false := by rw [beq_eq_false_iff_ne]; omega
          clear e hF
          go_wp2_with (go_at_call 48; refine (l01Div_any _ _ (by omega) (by omega) (by omega) (by omega) (by omega) _).mono ?_; rintro e w' ⟨rfl, rfl⟩)
          go_ret2
          exact ⟨by rw [E.out]; rfl, rfl⟩
end Go.Proofs.Ytapogcdihapjjaa
