/- Contracts of the check value, in the program and in the reference: the same steps. -/
import Derived.Test.YtapogcdihapjjaaName
namespace Go.Proofs.Ytapogcdihapjjaa
open Go.ChangeShapes Go.WideShapes Go.ChangeAt Go.RowKit

def crcIn (x : Int) (c : UInt8) : Int := bits .xor .i64 x (wrap64 (wrap64 (c.toNat : Int) * 256))
def crcBit (y : Int) : Int := if 65535 < wrap64 (y * 2) then bits .xor .i64 (bits .and .i64 (wrap64 (y * 2)) 65535) 4129 else wrap64 (y * 2)
def crcBits : Nat → Int → Int
  | 0, y => y
  | k + 1, y => crcBit (crcBits k y)
def crcL (l : List UInt8) (n : Int) : Int := l.foldl (fun x c => crcBits 8 (crcIn x c)) n
theorem crc_succ (s : ByteArray) (n : Int) (k : Nat) (h : k < s.size) : crcBits 8 (crcIn (crcL (s.data.toList.take k) n) s[k]) = crcL (s.data.toList.take (k + 1)) n := by
  rw [List.take_succ_eq_append_getElem (by simpa using h)]
  unfold crcL
  rw [List.foldl_append]
  rfl
theorem crc_end (s : ByteArray) (n : Int) (k : Nat) (h : ¬ k < s.size) : crcL (s.data.toList.take k) n = crcL s.data.toList n := by
  rw [List.take_of_length_le (by simpa using h)]
theorem crcBit_yes {y z : Int} {i : Nat} (hz : y = crcBits i z) (h : 65535 < wrap64 (y * 2)) : bits .xor .i64 (bits .and .i64 (wrap64 (y * 2)) 65535) 4129 = crcBits (i + 1) z := by
  show _ = crcBit (crcBits i z)
  rw [← hz]
  unfold crcBit
  rw [if_pos h]
theorem crcBit_no {y z : Int} {i : Nat} (hz : y = crcBits i z) (h : ¬ 65535 < wrap64 (y * 2)) : wrap64 (y * 2) = crcBits (i + 1) z := by
  show _ = crcBit (crcBits i z)
  rw [← hz]
  unfold crcBit
  rw [if_neg h]

set_option maxHeartbeats 1000000 in
theorem l01Crc_any (s : ByteArray) (n : Int) (w : World) (hs : s.size ≤ maxLen) : Calls Try.prog 42 #[.string s, .int .i64 n] w fun e w' => e = .returned (.int .i64 (crcL s.data.toList n)) ∧ w = w' := by
  unfold maxLen at hs
  go_enter Try.func42, Try.ntmps42
  go_wp2
  go_loop [1, 5, 6] (fun x i _ => ∃ (k : Nat) (x' : Int), k ≤ s.size ∧ i = .int .i64 k ∧ x = .int .i64 x' ∧ x' = crcL (s.data.toList.take k) n) (fun _ i _ => s.size - (intOf i).toNat)
  case atStart => exact ⟨0, n, Nat.zero_le _, rfl, rfl, rfl⟩
  case round =>
    obtain ⟨k, x, hk, rfl, rfl, hx⟩ := hrel
    have HX := Lib.hid hx
    clear hx
    by_cases hlt : k < s.size
    · have HS : Hid (crcBits 8 (crcIn x s[k]) = crcL (s.data.toList.take (k + 1)) n) := by
        have := crc_succ s n k hlt
        rw [← HX.out] at this
        exact this
      go_wp2
      go_loop [1, 6] (fun y j => ∃ (i : Nat) (y' : Int), i ≤ 8 ∧ j = .int .i64 i ∧ y = .int .i64 y' ∧ y' = crcBits i (crcIn x s[k])) (fun _ j => 8 - (intOf j).toNat)
      case atStart => exact ⟨0, _, by omega, rfl, rfl, rfl⟩
      case round =>
        obtain ⟨i, y, hi, rfl, rfl, hy⟩ := hrel
        by_cases hlt2 : i < 8
        · by_cases ht : 65535 < wrap64 (y * 2)
          · have H := Lib.hid (crcBit_yes hy ht)
            clear hy
            go_wp2
            go_round
            case rel => exact ⟨i + 1, _, by omega, by go_num, rfl, H.out⟩
            case measure => simp [intOf]; omega
          · have H := Lib.hid (crcBit_no hy ht)
            clear hy
            go_wp2
            go_round
            case rel => exact ⟨i + 1, _, by omega, by go_num, rfl, H.out⟩
            case measure => simp [intOf]; omega
        · obtain rfl : i = 8 := by omega
          have H := Lib.hid (hy.trans HS.out)
          clear hy
          go_wp2
          go_round
          case rel => exact ⟨k + 1, _, by omega, by go_num, rfl, H.out⟩
          case measure => simp [intOf]; omega
    · have H := Lib.hid (HX.out.trans (crc_end s n k hlt))
      go_wp2
      go_ret
      exact ⟨ret_int H.out, rfl⟩

set_option maxRecDepth 100000 in
set_option maxHeartbeats 1000000 in
theorem Crc_impl (s : ByteArray) (n : Int) (w : World) (hs : s.size ≤ maxLen) (hB : inB n 0 65535 = true) : Calls Try.prog 16 #[.string s, .int .i64 n] w fun e w' => e = .returned (.int .i64 (crcL s.data.toList n)) ∧ Below w.heap.size w w' := by
  unfold maxLen at hs
  obtain ⟨cap, wc, hconv, hcells, hbel⟩ := conv_bytes s w
  go_enter Try.func16, Try.ntmps16
  go_wp2_with (go_at_call 43; refine (within_is hB _).mono ?_; rintro e w' ⟨rfl, rfl⟩)
  go_loop [5, 7, 15, 24] (fun x _ i _ => ∃ (k : Nat) (x' : Int), k ≤ s.size ∧ i = .int .i64 k ∧ x = .int .i64 x' ∧ x' = crcL (s.data.toList.take k) n) (fun _ _ i _ => s.size - (intOf i).toNat)
  case atStart => exact ⟨0, n, Nat.zero_le _, rfl, rfl, rfl⟩
  case round =>
    obtain ⟨k, x, hk, rfl, rfl, hx⟩ := hrel
    have HX := Lib.hid hx
    clear hx
    by_cases hlt : k < s.size
    · have HS : Hid (crcBits 8 (crcIn x s[k]) = crcL (s.data.toList.take (k + 1)) n) := by
        have := crc_succ s n k hlt
        rw [← HX.out] at this
        exact this
      have hcell := hcells k hlt
      clear hcells
      go_wp2
      go_loop [5, 24] (fun y j => ∃ (i : Nat) (y' : Int), i ≤ 8 ∧ j = .int .i64 i ∧ y = .int .i64 y' ∧ y' = crcBits i (crcIn x s[k])) (fun _ j => 8 - (intOf j).toNat)
      case atStart => exact ⟨0, _, by omega, rfl, rfl, rfl⟩
      case round =>
        obtain ⟨i, y, hi, rfl, rfl, hy⟩ := hrel
        by_cases hlt2 : i < 8
        · by_cases ht : 65535 < wrap64 (y * 2)
          · have H := Lib.hid (crcBit_yes hy ht)
            clear hy
            go_wp2
            go_round
            case rel => exact ⟨i + 1, _, by omega, by go_num, rfl, H.out⟩
            case measure => simp [intOf]; omega
          · have H := Lib.hid (crcBit_no hy ht)
            clear hy
            go_wp2
            go_round
            case rel => exact ⟨i + 1, _, by omega, by go_num, rfl, H.out⟩
            case measure => simp [intOf]; omega
        · obtain rfl : i = 8 := by omega
          have H := Lib.hid (hy.trans HS.out)
          clear hy
          go_wp2
          go_round
          case rel => exact ⟨k + 1, _, by omega, by go_num, rfl, H.out⟩
          case measure => simp [intOf]; omega
    · have H := Lib.hid (HX.out.trans (crc_end s n k hlt))
      clear hcells
      go_wp2
      go_ret
      exact ⟨ret_int H.out, hbel⟩
end Go.Proofs.Ytapogcdihapjjaa
