/- Contracts of the integer logarithm, in the program and in the reference: the same number. -/
import Derived.Test.YtajlgclodjgiiaaFreq
import Derived.Test.YtajlgclodjgiiaaLogM
import Derived.Test.YtajlgclodjgiiaaShelf
import Derived.Deep.RegionWith
namespace Go.Proofs.Ytajlgclodjgiiaa
open Go.ChangeShapes Go.WideShapes Go.ChangeAt Go.RowKit

set_option maxHeartbeats 1000000 in
theorem fineLog_any (n : Int) (w : World) (h1 : 1 ≤ n) (h2 : n ≤ 1000000000000) : Calls Try.prog 103 #[.int .i64 n] w fun e w' => e = .returned (.int .i64 (fineV n)) ∧ w = w' := by
  have hc : n % 18446744073709551616 = n := by omega
  obtain ⟨e, hl, hbl⟩ := isLog_bitLen h1 (by omega)
  have he := isLog_le hl h2
  have hS := startX_bd hl
  by_cases h3 : e ≤ 30
  · have hX : startX n e = n * 2 ^ (30 - e) := if_pos h3
    rw [hX] at hS
    have hst := logRel_start hl
    rw [hX] at hst
    clear hX
    obtain ⟨s1, s2⟩ := hS
    go_enter Try.func103, Try.ntmps103
    go_wp2_with (go_at_call 105; refine (Try.bits_Len64 _ _ (by omega) (by omega)).mono ?_; rintro e w' ⟨rfl, rfl⟩)
    go_loop [4, 5, 21] (fun x r i => ∃ (k : Nat) (x' r' : Int), k ≤ 24 ∧ i = .int .i64 k ∧ x = .int .i64 x' ∧ r = .int .i64 r' ∧ logRel n e k x' r') (fun _ _ i => 24 - (intOf i).toNat)
    case atStart => exact ⟨0, _, _, by omega, rfl, rfl, rfl, hst⟩
    case round =>
      clear hst s1 s2
      obtain ⟨k, x, r, hk, rfl, rfl, rfl, hr⟩ := hrel
      obtain ⟨b1, b2, b3, b4, b5, b6, b7, b8⟩ := logRel_bd hr hk
      by_cases hlt : k < 24
      · by_cases hy : 2147483648 ≤ x * x / 1073741824
        · have H := Lib.hid (logRel_yes hr hk hy)
          clear hr
          go_wp2
          go_round
          case rel => exact ⟨k + 1, _, _, by omega, by go_num, rfl, rfl, H.out⟩
          case measure => simp [intOf]; omega
        · have H := Lib.hid (logRel_no hr hk hy)
          clear hr
          go_wp2
          go_round
          case rel => exact ⟨k + 1, _, _, by omega, by go_num, rfl, rfl, H.out⟩
          case measure => simp [intOf]; omega
      · obtain rfl : k = 24 := by omega
        have H := Lib.hid (logRel_end hr hl)
        clear hr
        go_wp2
        go_ret
        exact ⟨ret_int H.out, rfl⟩
  · have hX : startX n e = n / 2 ^ (e - 30) := if_neg h3
    rw [hX] at hS
    have hst := logRel_start hl
    rw [hX] at hst
    clear hX
    obtain ⟨s1, s2⟩ := hS
    go_enter Try.func103, Try.ntmps103
    go_wp2_with (go_at_call 105; refine (Try.bits_Len64 _ _ (by omega) (by omega)).mono ?_; rintro e w' ⟨rfl, rfl⟩)
    go_loop [4, 5, 21] (fun x r i => ∃ (k : Nat) (x' r' : Int), k ≤ 24 ∧ i = .int .i64 k ∧ x = .int .i64 x' ∧ r = .int .i64 r' ∧ logRel n e k x' r') (fun _ _ i => 24 - (intOf i).toNat)
    case atStart => exact ⟨0, _, _, by omega, rfl, rfl, rfl, hst⟩
    case round =>
      clear hst s1 s2
      obtain ⟨k, x, r, hk, rfl, rfl, rfl, hr⟩ := hrel
      obtain ⟨b1, b2, b3, b4, b5, b6, b7, b8⟩ := logRel_bd hr hk
      by_cases hlt : k < 24
      · by_cases hy : 2147483648 ≤ x * x / 1073741824
        · have H := Lib.hid (logRel_yes hr hk hy)
          clear hr
          go_wp2
          go_round
          case rel => exact ⟨k + 1, _, _, by omega, by go_num, rfl, rfl, H.out⟩
          case measure => simp [intOf]; omega
        · have H := Lib.hid (logRel_no hr hk hy)
          clear hr
          go_wp2
          go_round
          case rel => exact ⟨k + 1, _, _, by omega, by go_num, rfl, rfl, H.out⟩
          case measure => simp [intOf]; omega
      · obtain rfl : k = 24 := by omega
        have H := Lib.hid (logRel_end hr hl)
        clear hr
        go_wp2
        go_ret
        exact ⟨ret_int H.out, rfl⟩

set_option maxHeartbeats 1000000 in
theorem l02Fine_any (n : Int) (w : World) (h1 : 1 ≤ n) (h2 : n ≤ 1000000000000) : Calls Try.prog 101 #[.int .i64 n] w fun e w' => e = .returned (.int .i64 (fineV n)) ∧ w = w' := by
  go_enter Try.func101, Try.ntmps101
  go_wp2
  go_loop [3] (fun x => ∃ k : Nat, x = .int .i64 k ∧ powLe n k) (fun x => 40 - (intOf x).toNat)
  case atStart => exact ⟨0, rfl, by unfold powLe; simpa using h1⟩
  case round =>
    obtain ⟨k, rfl, hp⟩ := hrel
    have hk := powLe_le hp h2
    by_cases ht : 0 < n / 2 ^ (k + 1)
    · have H := Lib.hid (powLe_yes ht)
      clear hp
      go_wp2
      go_round
      case rel => exact ⟨k + 1, by go_num, H.out⟩
      case measure => simp [intOf]; omega
    · have hl := powLe_no hp ht
      have HL := Lib.hid hl
      have hS := startX_bd hl
      have hst := Lib.hid (logRel_start hl)
      clear hp
      have hX : startX n k = if k ≤ 30 then n * 2 ^ (30 - k) else n / 2 ^ (k - 30) := rfl
      rw [hX] at hS
      have hst2 : Hid (logRel n k 0 (if k ≤ 30 then n * 2 ^ (30 - k) else n / 2 ^ (k - 30)) 0) := hst
      clear hX hst
      by_cases h3 : k ≤ 30
      · rw [if_pos h3] at hS hst2
        obtain ⟨s1, s2⟩ := hS
        clear hl
        go_wp2
        go_loop [4, 5, 6] (fun x r i => ∃ (j : Nat) (x' r' : Int), j ≤ 24 ∧ i = .int .i64 j ∧ x = .int .i64 x' ∧ r = .int .i64 r' ∧ logRel n k j x' r') (fun _ _ i => 24 - (intOf i).toNat)
        case atStart => exact ⟨0, _, _, by omega, rfl, rfl, rfl, hst2.out⟩
        case round =>
          clear hst2 s1 s2
          obtain ⟨j, x, r, hj, rfl, rfl, rfl, hr⟩ := hrel
          obtain ⟨b1, b2, b3, b4, b5, b6, b7, b8⟩ := logRel_bd hr hj
          by_cases hlt : j < 24
          · by_cases hy : 2147483648 ≤ x * x / 1073741824
            · have H := Lib.hid (logRel_yes hr hj hy)
              clear hr
              go_wp2
              go_round
              case rel => exact ⟨j + 1, _, _, by omega, by go_num, rfl, rfl, H.out⟩
              case measure => simp [intOf]; omega
            · have H := Lib.hid (logRel_no hr hj hy)
              clear hr
              go_wp2
              go_round
              case rel => exact ⟨j + 1, _, _, by omega, by go_num, rfl, rfl, H.out⟩
              case measure => simp [intOf]; omega
          · obtain rfl : j = 24 := by omega
            have H := Lib.hid (logRel_end hr HL.out)
            clear hr
            go_wp2
            go_ret
            exact ⟨ret_int H.out, rfl⟩
      · rw [if_neg h3] at hS hst2
        obtain ⟨s1, s2⟩ := hS
        clear hl
        go_wp2
        go_loop [4, 5, 6] (fun x r i => ∃ (j : Nat) (x' r' : Int), j ≤ 24 ∧ i = .int .i64 j ∧ x = .int .i64 x' ∧ r = .int .i64 r' ∧ logRel n k j x' r') (fun _ _ i => 24 - (intOf i).toNat)
        case atStart => exact ⟨0, _, _, by omega, rfl, rfl, rfl, hst2.out⟩
        case round =>
          clear hst2 s1 s2
          obtain ⟨j, x, r, hj, rfl, rfl, rfl, hr⟩ := hrel
          obtain ⟨b1, b2, b3, b4, b5, b6, b7, b8⟩ := logRel_bd hr hj
          by_cases hlt : j < 24
          · by_cases hy : 2147483648 ≤ x * x / 1073741824
            · have H := Lib.hid (logRel_yes hr hj hy)
              clear hr
              go_wp2
              go_round
              case rel => exact ⟨j + 1, _, _, by omega, by go_num, rfl, rfl, H.out⟩
              case measure => simp [intOf]; omega
            · have H := Lib.hid (logRel_no hr hj hy)
              clear hr
              go_wp2
              go_round
              case rel => exact ⟨j + 1, _, _, by omega, by go_num, rfl, rfl, H.out⟩
              case measure => simp [intOf]; omega
          · obtain rfl : j = 24 := by omega
            have H := Lib.hid (logRel_end hr HL.out)
            clear hr
            go_wp2
            go_ret
            exact ⟨ret_int H.out, rfl⟩

/-- The interval from 1 to n. -/
def tenthsV (n : Int) : Int := 12000 * fineV n / 16777216
theorem tenthsV_bd {n : Int} (h1 : 1 ≤ n) (h2 : n ≤ 1000000000000) : 0 ≤ tenthsV n ∧ tenthsV n ≤ 480000 := by
  have := fineV_bd h1 h2
  unfold tenthsV
  omega

theorem logTenths_any (n : Int) (w : World) (h1 : 1 ≤ n) (h2 : n ≤ 1000000000000) : Calls Try.prog 97 #[.int .i64 n] w fun e w' => e = .returned (.int .i64 (tenthsV n)) ∧ w = w' := by
  obtain ⟨b1, b2⟩ := fineV_bd h1 h2
  go_enter Try.func97, Try.ntmps97
  go_wp2_with (go_at_call 103; refine (fineLog_any _ _ h1 h2).mono ?_; rintro e w' ⟨rfl, rfl⟩)
  go_ret
  exact ⟨rfl, rfl⟩
theorem l02Log_any (n : Int) (w : World) (h1 : 1 ≤ n) (h2 : n ≤ 1000000000000) : Calls Try.prog 100 #[.int .i64 n] w fun e w' => e = .returned (.int .i64 (tenthsV n)) ∧ w = w' := by
  obtain ⟨b1, b2⟩ := fineV_bd h1 h2
  go_enter Try.func100, Try.ntmps100
  go_wp2_with (go_at_call 101; refine (l02Fine_any _ _ h1 h2).mono ?_; rintro e w' ⟨rfl, rfl⟩)
  go_ret
  exact ⟨rfl, rfl⟩
theorem cents_any (f g : Int) (w : World) (h1 : 1 ≤ f) (h2 : f ≤ 1000000000000) (h3 : 1 ≤ g) (h4 : g ≤ 1000000000000) : Calls Try.prog 82 #[.int .i64 f, .int .i64 g] w fun e w' => e = .returned (.int .i64 (tenthsV g - tenthsV f)) ∧ w = w' := by
  obtain ⟨b1, b2⟩ := tenthsV_bd h1 h2
  obtain ⟨b3, b4⟩ := tenthsV_bd h3 h4
  go_enter Try.func82, Try.ntmps82
  go_wp2_with (go_at_call 97; refine (logTenths_any _ _ (by omega) (by omega)).mono ?_; rintro e w' ⟨rfl, rfl⟩)
  go_ret
  exact ⟨rfl, rfl⟩
theorem l02Between_any (f g : Int) (w : World) (h1 : 1 ≤ f) (h2 : f ≤ 1000000000000) (h3 : 1 ≤ g) (h4 : g ≤ 1000000000000) : Calls Try.prog 92 #[.int .i64 f, .int .i64 g] w fun e w' => e = .returned (.int .i64 (tenthsV g - tenthsV f)) ∧ w = w' := by
  obtain ⟨b1, b2⟩ := tenthsV_bd h1 h2
  obtain ⟨b3, b4⟩ := tenthsV_bd h3 h4
  go_enter Try.func92, Try.ntmps92
  go_wp2_with (go_at_call 100; refine (l02Log_any _ _ (by omega) (by omega)).mono ?_; rintro e w' ⟨rfl, rfl⟩)
  go_ret
  exact ⟨rfl, rfl⟩
theorem centsBetween_ok (f g : Int) (w : World) (hf : inB f 10000 20000000 = true) (hg : inB g 10000 20000000 = true) :
    Calls Try.prog 43 #[.int .i64 f, .int .i64 g] w fun e w' => e = .returned (.tuple #[.int .i64 (tenthsV g - tenthsV f), .int .i64 0]) ∧ Below w.heap.size w w' := by
  obtain ⟨f1, f2⟩ := inB_bd hf
  obtain ⟨g1, g2⟩ := inB_bd hg
  have hA := Lib.hid (allF2 hf hg)
  clear hf hg
  go_enter Try.func43, Try.ntmps43
  go_wp2_with (first
    | (go_at_call 53; refine (areFreq_is hA.out _ (IntsAt.new2 _ _ _ _) (by omega)).mono ?_; rintro e w' ⟨rfl, rfl⟩)
    | (go_at_call 82; refine (cents_any _ _ _ (by omega) (by omega) (by omega) (by omega)).mono ?_; rintro e w' ⟨rfl, rfl⟩))
  go_ret2
  exact ⟨rfl, (Below.refl _ _).alloc (Nat.le_refl _) _⟩
theorem centsBetween_no (f g : Int) (w : World) (h : inB f 10000 20000000 = false ∨ inB g 10000 20000000 = false) :
    Calls Try.prog 43 #[.int .i64 f, .int .i64 g] w fun e w' => e = .returned (.tuple #[.int .i64 0, .int .i64 2]) ∧ Below w.heap.size w w' := by
  have hA := Lib.hid (allF2_no h)
  clear h
  go_enter Try.func43, Try.ntmps43
  go_wp2_with (go_at_call 53; refine (areFreq_is hA.out _ (IntsAt.new2 _ _ _ _) (by omega)).mono ?_; rintro e w' ⟨rfl, rfl⟩)
  go_ret2
  exact ⟨rfl, (Below.refl _ _).alloc (Nat.le_refl _) _⟩
end Go.Proofs.Ytajlgclodjgiiaa
