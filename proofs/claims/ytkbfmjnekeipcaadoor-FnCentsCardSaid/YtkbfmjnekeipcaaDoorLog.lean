/- Contracts of the integer logarithm, in the program and in the reference: the same number. -/
import Derived.Test.YtkbfmjnekeipcaaDoorFreq
import Derived.Test.YtkbfmjnekeipcaaDoorLogM
import Derived.Test.YtkbfmjnekeipcaaDoorShelf
import Derived.Deep.RegionWith
namespace Go.Proofs.YtkbfmjnekeipcaaDoor
open Go.ChangeShapes Go.WideShapes Go.ChangeAt Go.RowKit
set_option maxRecDepth 100000

set_option maxHeartbeats 1000000 in
theorem fineLog_any (n : Int) (w : World) (h1 : 1 ≤ n) (h2 : n ≤ 1000000000000) : Calls Tryd.prog 82 #[.int .i64 n] w fun e w' => e = .returned (.int .i64 (fineV n)) ∧ w = w' := by
  have hc : n % 18446744073709551616 = n := by omega
  obtain ⟨e, hl, hbl⟩ := isLog_bitLen h1 (by omega)
  have he := isLog_le hl h2
  have hS := startX_bd hl
  by_cases h3 : e ≤ 30
  · have hX : startX n e = n * 2 ^ (30 - e) := if_pos h3
    rw [hX] at hS
    have hst := logRel_start hl
    rw [hX] at hst
    clear hX
    obtain ⟨s1, s2⟩ := hS
    go_enter Tryd.func82, Tryd.ntmps82
    go_wp2_with (go_at_call 109; refine (Tryd.bits_Len64 _ _ (by omega) (by omega)).mono ?_; rintro e w' ⟨rfl, rfl⟩)
    go_loop [4, 5, 21] (fun x r i => ∃ (k : Nat) (x' r' : Int), k ≤ 24 ∧ i = .int .i64 k ∧ x = .int .i64 x' ∧ r = .int .i64 r' ∧ logRel n e k x' r') (fun _ _ i => 24 - (intOf i).toNat)
    case atStart => exact ⟨0, _, _, by omega, rfl, rfl, rfl, hst⟩
    case round =>
      clear hst s1 s2
      obtain ⟨k, x, r, hk, rfl, rfl, rfl, hr⟩ := hrel
      obtain ⟨b1, b2, b3, b4, b5, b6, b7, b8⟩ := logRel_bd hr hk
      by_cases hlt : k < 24
      · by_cases hy : 2147483648 ≤ x * x / 1073741824
        · have H := Lib.hid (logRel_yes hr hk hy)
          clear hr
          go_wp2
          go_round
          case rel => exact ⟨k + 1, _, _, by omega, by go_num, rfl, rfl, H.out⟩
          case measure => simp [intOf]; omega
        · have H := Lib.hid (logRel_no hr hk hy)
          clear hr
          go_wp2
          go_round
          case rel => exact ⟨k + 1, _, _, by omega, by go_num, rfl, rfl, H.out⟩
          case measure => simp [intOf]; omega
      · obtain rfl : k = 24 := by omega
        have H := Lib.hid (logRel_end hr hl)
        clear hr
        go_wp2
        go_ret
        exact ⟨ret_int H.out, rfl⟩
  · have hX : startX n e = n / 2 ^ (e - 30) := if_neg h3
    rw [hX] at hS
    have hst := logRel_start hl
    rw [hX] at hst
    clear hX
    obtain ⟨s1, s2⟩ := hS
    go_enter Tryd.func82, Tryd.ntmps82
    go_wp2_with (go_at_call 109; refine (Tryd.bits_Len64 _ _ (by omega) (by omega)).mono ?_; rintro e w' ⟨rfl, rfl⟩)
    go_loop [4, 5, 21] (fun x r i => ∃ (k : Nat) (x' r' : Int), k ≤ 24 ∧ i = .int .i64 k ∧ x = .int .i64 x' ∧ r = .int .i64 r' ∧ logRel n e k x' r') (fun _ _ i => 24 - (intOf i).toNat)
    case atStart => exact ⟨0, _, _, by omega, rfl, rfl, rfl, hst⟩
    case round =>
      clear hst s1 s2
      obtain ⟨k, x, r, hk, rfl, rfl, rfl, hr⟩ := hrel
      obtain ⟨b1, b2, b3, b4, b5, b6, b7, b8⟩ := logRel_bd hr hk
      by_cases hlt : k < 24
      · by_cases hy : 2147483648 ≤ x * x / 1073741824
        · have H := Lib.hid (logRel_yes hr hk hy)
          clear hr
          go_wp2
          go_round
          case rel => exact ⟨k + 1, _, _, by omega, by go_num, rfl, rfl, H.out⟩
          case measure => simp [intOf]; omega
        · have H := Lib.hid (logRel_no hr hk hy)
          clear hr
          go_wp2
          go_round
          case rel => exact ⟨k + 1, _, _, by omega, by go_num, rfl, rfl, H.out⟩
          case measure => simp [intOf]; omega
      · obtain rfl : k = 24 := by omega
        have H := Lib.hid (logRel_end hr hl)
        clear hr
        go_wp2
        go_ret
        exact ⟨ret_int H.out, rfl⟩

def tenthsV (n : Int) : Int := 12000 * fineV n / 16777216
theorem tenthsV_bd {n : Int} (h1 : 1 ≤ n) (h2 : n ≤ 1000000000000) : 0 ≤ tenthsV n ∧ tenthsV n ≤ 480000 := by
  have := fineV_bd h1 h2
  unfold tenthsV
  omega

theorem logTenths_any (n : Int) (w : World) (h1 : 1 ≤ n) (h2 : n ≤ 1000000000000) : Calls Tryd.prog 108 #[.int .i64 n] w fun e w' => e = .returned (.int .i64 (tenthsV n)) ∧ w = w' := by
  obtain ⟨b1, b2⟩ := fineV_bd h1 h2
  go_enter Tryd.func108, Tryd.ntmps108
  go_wp2_with (go_at_call 82; refine (fineLog_any _ _ h1 h2).mono ?_; rintro e w' ⟨rfl, rfl⟩)
  go_ret
  exact ⟨rfl, rfl⟩
theorem cents_any (f g : Int) (w : World) (h1 : 1 ≤ f) (h2 : f ≤ 1000000000000) (h3 : 1 ≤ g) (h4 : g ≤ 1000000000000) : Calls Tryd.prog 81 #[.int .i64 f, .int .i64 g] w fun e w' => e = .returned (.int .i64 (tenthsV g - tenthsV f)) ∧ w = w' := by
  obtain ⟨b1, b2⟩ := tenthsV_bd h1 h2
  obtain ⟨b3, b4⟩ := tenthsV_bd h3 h4
  go_enter Tryd.func81, Tryd.ntmps81
  go_wp2_with (go_at_call 108; refine (logTenths_any _ _ (by omega) (by omega)).mono ?_; rintro e w' ⟨rfl, rfl⟩)
  go_ret
  exact ⟨rfl, rfl⟩
theorem fineLog_ok (n : Int) (w : World) (h : inB n 1 1000000000000 = true) : Calls Tryd.prog 42 #[.int .i64 n] w fun e w' => e = .returned (.tuple #[.int .i64 (fineV n), .int .i64 0]) ∧ w = w' := by
  obtain ⟨h1, h2⟩ := inB_bd h
  go_enter Tryd.func42, Tryd.ntmps42
  go_wp2_with (first
    | (go_at_call 50; refine (within_is h _).mono ?_; rintro e w' ⟨rfl, rfl⟩)
    | (go_at_call 82; refine (fineLog_any _ _ h1 h2).mono ?_; rintro e w' ⟨rfl, rfl⟩))
  go_ret2
  exact ⟨rfl, rfl⟩
theorem fineLog_no (n : Int) (w : World) (h : inB n 1 1000000000000 = false) : Calls Tryd.prog 42 #[.int .i64 n] w fun e w' => e = .returned (.tuple #[.int .i64 0, .int .i64 2]) ∧ w = w' := by
  go_enter Tryd.func42, Tryd.ntmps42
  go_wp2_with (go_at_call 50; refine (within_is h _).mono ?_; rintro e w' ⟨rfl, rfl⟩)
  go_ret2
  exact ⟨rfl, rfl⟩
theorem centsBetween_ok (f g : Int) (w : World) (hf : inB f 10000 20000000 = true) (hg : inB g 10000 20000000 = true) :
    Calls Tryd.prog 41 #[.int .i64 f, .int .i64 g] w fun e w' => e = .returned (.tuple #[.int .i64 (tenthsV g - tenthsV f), .int .i64 0]) ∧ Below w.heap.size w w' := by
  obtain ⟨f1, f2⟩ := inB_bd hf
  obtain ⟨g1, g2⟩ := inB_bd hg
  have hA := Lib.hid (allF2 hf hg)
  clear hf hg
  go_enter Tryd.func41, Tryd.ntmps41
  go_wp2_with (first
    | (go_at_call 80; refine (areFreq_is hA.out _ (IntsAt.new2 _ _ _ _) (by omega)).mono ?_; rintro e w' ⟨rfl, rfl⟩)
    | (go_at_call 81; refine (cents_any _ _ _ (by omega) (by omega) (by omega) (by omega)).mono ?_; rintro e w' ⟨rfl, rfl⟩))
  go_ret2
  exact ⟨rfl, (Below.refl _ _).alloc (Nat.le_refl _) _⟩
theorem centsBetween_no (f g : Int) (w : World) (h : inB f 10000 20000000 = false ∨ inB g 10000 20000000 = false) :
    Calls Tryd.prog 41 #[.int .i64 f, .int .i64 g] w fun e w' => e = .returned (.tuple #[.int .i64 0, .int .i64 2]) ∧ Below w.heap.size w w' := by
  have hA := Lib.hid (allF2_no h)
  clear h
  go_enter Tryd.func41, Tryd.ntmps41
  go_wp2_with (go_at_call 80; refine (areFreq_is hA.out _ (IntsAt.new2 _ _ _ _) (by omega)).mono ?_; rintro e w' ⟨rfl, rfl⟩)
  go_ret2
  exact ⟨rfl, (Below.refl _ _).alloc (Nat.le_refl _) _⟩
end Go.Proofs.YtkbfmjnekeipcaaDoor
