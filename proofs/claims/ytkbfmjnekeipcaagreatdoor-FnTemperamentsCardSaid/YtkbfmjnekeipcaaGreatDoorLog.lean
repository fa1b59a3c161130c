/- Contracts of the integer logarithm, in the program and in the reference: the same number. -/
import Derived.Test.YtkbfmjnekeipcaaGreatDoorFreq
import Derived.Test.YtkbfmjnekeipcaaGreatDoorLogM
import Derived.Test.YtkbfmjnekeipcaaGreatDoorShelf
import Derived.Deep.RegionWith
namespace Go.Proofs.YtkbfmjnekeipcaaGreatDoor
open Go.ChangeShapes Go.WideShapes Go.ChangeAt Go.RowKit
set_option maxRecDepth 100000

set_option maxHeartbeats 1000000 in
theorem fineLog_any (n : Int) (w : World) (h1 : 1 ≤ n) (h2 : n ≤ 1000000000000) : Calls Tryz.prog 94 #[.int .i64 n] w fun e w' => e = .returned (.int .i64 (fineV n)) ∧ w = w' := by
  have hc : n % 18446744073709551616 = n := by omega
  obtain ⟨e, hl, hbl⟩ := isLog_bitLen h1 (by omega)
  have he := isLog_le hl h2
  have hS := startX_bd hl
  by_cases h3 : e ≤ 30
  · have hX : startX n e = n * 2 ^ (30 - e) := if_pos h3
    rw [hX] at hS
    have hst := logRel_start hl
    rw [hX] at hst
    clear hX
    obtain ⟨s1, s2⟩ := hS
    go_enter Tryz.func94, Tryz.ntmps94
    go_wp2_with (go_at_call 114; refine (Tryz.bits_Len64 _ _ (by omega) (by omega)).mono ?_; rintro e w' ⟨rfl, rfl⟩)
    go_loop [4, 5, 21] (fun x r i => ∃ (k : Nat) (x' r' : Int), k ≤ 24 ∧ i = .int .i64 k ∧ x = .int .i64 x' ∧ r = .int .i64 r' ∧ logRel n e k x' r') (fun _ _ i => 24 - (intOf i).toNat)
    case atStart => exact ⟨0, _, _, by omega, rfl, rfl, rfl, hst⟩
    case round =>
      clear hst s1 s2
      obtain ⟨k, x, r, hk, rfl, rfl, rfl, hr⟩ := hrel
      obtain ⟨b1, b2, b3, b4, b5, b6, b7, b8⟩ := logRel_bd hr hk
      by_cases hlt : k < 24
      · by_cases hy : 2147483648 ≤ x * x / 1073741824
        · have H := Lib.hid (logRel_yes hr hk hy)
          clear hr
          go_wp2
          go_round
          case rel => exact ⟨k + 1, _, _, by omega, by go_num, rfl, rfl, H.out⟩
          case measure => simp [intOf]; omega
        · have H := Lib.hid (logRel_no hr hk hy)
          clear hr
          go_wp2
          go_round
          case rel => exact ⟨k + 1, _, _, by omega, by go_num, rfl, rfl, H.out⟩
          case measure => simp [intOf]; omega
      · obtain rfl : k = 24 := by omega
        have H := Lib.hid (logRel_end hr hl)
        clear hr
        go_wp2
        go_ret
        exact ⟨ret_int H.out, rfl⟩
  · have hX : startX n e = n / 2 ^ (e - 30) := if_neg h3
    rw [hX] at hS
    have hst := logRel_start hl
    rw [hX] at hst
    clear hX
    obtain ⟨s1, s2⟩ := hS
    go_enter Tryz.func94, Tryz.ntmps94
    go_wp2_with (go_at_call 114; refine (Tryz.bits_Len64 _ _ (by omega) (by omega)).mono ?_; rintro e w' ⟨rfl, rfl⟩)
    go_loop [4, 5, 21] (fun x r i => ∃ (k : Nat) (x' r' : Int), k ≤ 24 ∧ i = .int .i64 k ∧ x = .int .i64 x' ∧ r = .int .i64 r' ∧ logRel n e k x' r') (fun _ _ i => 24 - (intOf i).toNat)
    case atStart => exact ⟨0, _, _, by omega, rfl, rfl, rfl, hst⟩
    case round =>
      clear hst s1 s2
      obtain ⟨k, x, r, hk, rfl, rfl, rfl, hr⟩ := hrel
      obtain ⟨b1, b2, b3, b4, b5, b6, b7, b8⟩ := logRel_bd hr hk
      by_cases hlt : k < 24
      · by_cases hy : 2147483648 ≤ x * x / 1073741824
        · have H := Lib.hid (logRel_yes hr hk hy)
          clear hr
          go_wp2
          go_round
          case rel => exact ⟨k + 1, _, _, by omega, by go_num, rfl, rfl, H.out⟩
          case measure => simp [intOf]; omega
        · have H := Lib.hid (logRel_no hr hk hy)
          clear hr
          go_wp2
          go_round
          case rel => exact ⟨k + 1, _, _, by omega, by go_num, rfl, rfl, H.out⟩
          case measure => simp [intOf]; omega
      · obtain rfl : k = 24 := by omega
        have H := Lib.hid (logRel_end hr hl)
        clear hr
        go_wp2
        go_ret
        exact ⟨ret_int H.out, rfl⟩

set_option maxHeartbeats 1000000 in
theorem l02Fine_any (n : Int) (w : World) (h1 : 1 ≤ n) (h2 : n ≤ 1000000000000) : Calls Tryz.prog 139 #[.int .i64 n] w fun e w' => e = .returned (.int .i64 (fineV n)) ∧ w = w' := by
  go_enter Tryz.func139, Tryz.ntmps139
  go_wp2
  go_loop [3] (fun x => ∃ k : Nat, x = .int .i64 k ∧ powLe n k) (fun x => 40 - (intOf x).toNat)
  case atStart => exact ⟨0, rfl, by unfold powLe; simpa using h1⟩
  case round =>
    obtain ⟨k, rfl, hp⟩ := hrel
    have hk := powLe_le hp h2
    by_cases ht : 0 < n / 2 ^ (k + 1)
    · have H := Lib.hid (powLe_yes ht)
      clear hp
      go_wp2
      go_round
      case rel => exact ⟨k + 1, by go_num, H.out⟩
      case measure => simp [intOf]; omega
    · have hl := powLe_no hp ht
      have HL := Lib.hid hl
      have hS := startX_bd hl
      have hst := Lib.hid (logRel_start hl)
      clear hp
      have hX : startX n k = if k ≤ 30 then n * 2 ^ (30 - k) else n / 2 ^ (k - 30) := rfl
      rw [hX] at hS
      have hst2 : Hid (logRel n k 0 (if k ≤ 30 then n * 2 ^ (30 - k) else n / 2 ^ (k - 30)) 0) := hst
      clear hX hst
      by_cases h3 : k ≤ 30
      · rw [if_pos h3] at hS hst2
        obtain ⟨s1, s2⟩ := hS
        clear hl
        go_wp2
        go_loop [4, 5, 6] (fun x r i => ∃ (j : Nat) (x' r' : Int), j ≤ 24 ∧ i = .int .i64 j ∧ x = .int .i64 x' ∧ r = .int .i64 r' ∧ logRel n k j x' r') (fun _ _ i => 24 - (intOf i).toNat)
        case atStart => exact ⟨0, _, _, by omega, rfl, rfl, rfl, hst2.out⟩
        case round =>
          clear hst2 s1 s2
          obtain ⟨j, x, r, hj, rfl, rfl, rfl, hr⟩ := hrel
          obtain ⟨b1, b2, b3, b4, b5, b6, b7, b8⟩ := logRel_bd hr hj
          by_cases hlt : j < 24
          · by_cases hy : 2147483648 ≤ x * x / 1073741824
            · have H := Lib.hid (logRel_yes hr hj hy)
              clear hr
              go_wp2
              go_round
              case rel => exact ⟨j + 1, _, _, by omega, by go_num, rfl, rfl, H.out⟩
              case measure => simp [intOf]; omega
            · have H := Lib.hid (logRel_no hr hj hy)
              clear hr
              go_wp2
              go_round
              case rel => exact ⟨j + 1, _, _, by omega, by go_num, rfl, rfl, H.out⟩
              case measure => simp [intOf]; omega
          · obtain rfl : j = 24 := by omega
            have H := Lib.hid (logRel_end hr HL.out)
            clear hr
            go_wp2
            go_ret
            exact ⟨ret_int H.out, rfl⟩
      · rw [if_neg h3] at hS hst2
        obtain ⟨s1, s2⟩ := hS
        clear hl
        go_wp2
        go_loop [4, 5, 6] (fun x r i => ∃ (j : Nat) (x' r' : Int), j ≤ 24 ∧ i = .int .i64 j ∧ x = .int .i64 x' ∧ r = .int .i64 r' ∧ logRel n k j x' r') (fun _ _ i => 24 - (intOf i).toNat)
        case atStart => exact ⟨0, _, _, by omega, rfl, rfl, rfl, hst2.out⟩
        case round =>
          clear hst2 s1 s2
          obtain ⟨j, x, r, hj, rfl, rfl, rfl, hr⟩ := hrel
          obtain ⟨b1, b2, b3, b4, b5, b6, b7, b8⟩ := logRel_bd hr hj
          by_cases hlt : j < 24
          · by_cases hy : 2147483648 ≤ x * x / 1073741824
            · have H := Lib.hid (logRel_yes hr hj hy)
              clear hr
              go_wp2
              go_round
              case rel => exact ⟨j + 1, _, _, by omega, by go_num, rfl, rfl, H.out⟩
              case measure => simp [intOf]; omega
            · have H := Lib.hid (logRel_no hr hj hy)
              clear hr
              go_wp2
              go_round
              case rel => exact ⟨j + 1, _, _, by omega, by go_num, rfl, rfl, H.out⟩
              case measure => simp [intOf]; omega
          · obtain rfl : j = 24 := by omega
            have H := Lib.hid (logRel_end hr HL.out)
            clear hr
            go_wp2
            go_ret
            exact ⟨ret_int H.out, rfl⟩

/-- The interval from 1 to n. -/
def tenthsV (n : Int) : Int := 12000 * fineV n / 16777216
theorem tenthsV_bd {n : Int} (h1 : 1 ≤ n) (h2 : n ≤ 1000000000000) : 0 ≤ tenthsV n ∧ tenthsV n ≤ 480000 := by
  have := fineV_bd h1 h2
  unfold tenthsV
  omega

theorem logTenths_any (n : Int) (w : World) (h1 : 1 ≤ n) (h2 : n ≤ 1000000000000) : Calls Tryz.prog 96 #[.int .i64 n] w fun e w' => e = .returned (.int .i64 (tenthsV n)) ∧ w = w' := by
  obtain ⟨b1, b2⟩ := fineV_bd h1 h2
  go_enter Tryz.func96, Tryz.ntmps96
  go_wp2_with (go_at_call 94; refine (fineLog_any _ _ h1 h2).mono ?_; rintro e w' ⟨rfl, rfl⟩)
  go_ret
  exact ⟨rfl, rfl⟩
theorem cents_any (f g : Int) (w : World) (h1 : 1 ≤ f) (h2 : f ≤ 1000000000000) (h3 : 1 ≤ g) (h4 : g ≤ 1000000000000) : Calls Tryz.prog 77 #[.int .i64 f, .int .i64 g] w fun e w' => e = .returned (.int .i64 (tenthsV g - tenthsV f)) ∧ w = w' := by
  obtain ⟨b1, b2⟩ := tenthsV_bd h1 h2
  obtain ⟨b3, b4⟩ := tenthsV_bd h3 h4
  go_enter Tryz.func77, Tryz.ntmps77
  go_wp2_with (go_at_call 96; refine (logTenths_any _ _ (by omega) (by omega)).mono ?_; rintro e w' ⟨rfl, rfl⟩)
  go_ret
  exact ⟨rfl, rfl⟩
end Go.Proofs.YtkbfmjnekeipcaaGreatDoor
