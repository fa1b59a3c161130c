/- Contract of the reference's reader of a decimal number. -/
import Derived.Test.YtkbfmjnekeipcaaDoorNumP
import Derived.Test.YtkbfmjnekeipcaaDoorName
namespace Go.Proofs.YtkbfmjnekeipcaaDoor
open Go.ChangeShapes Go.WideShapes Go.ChangeAt Go.RowKit
set_option maxRecDepth 100000

theorem ret_ivb {a c : Int} {b d : Bool} (h : a = c) (h' : b = d) : Ending.returned (.tuple #[.int .i64 a, .bool b]) = .returned (.tuple #[.int .i64 c, .bool d]) := by rw [h, h']
theorem numV_at {s : ByteArray} {a : Nat} (ha : numAt s = a) (h : numOK s a) : numB s = true ∧ numV s = if a = 1 then -(valTo s a s.size : Int) else (valTo s a s.size : Int) := by
  subst ha
  refine ⟨numB_yes h, ?_⟩
  unfold numV
  rw [numB_yes h, if_pos rfl]
theorem numV_bad {s : ByteArray} {a : Nat} (ha : numAt s = a) (h : ¬ numOK s a) : numV s = 0 ∧ numB s = false := by
  subst ha
  exact numV_no h
theorem valTo_big {s : ByteArray} {a : Nat} (h : digTo s a s.size) (h18 : s.size ≤ a + 18) : valTo s a s.size < 1000000000000000000 := by
  have h1 := valTo_lt h (Nat.le_refl _)
  have h2 : 10 ^ (s.size - a) ≤ 10 ^ 18 := Nat.pow_le_pow_right (by omega) (by omega)
  have h3 : (10 : Nat) ^ 18 = 1000000000000000000 := rfl
  omega
theorem l01Num_none (s : ByteArray) (w : World) (h0 : s.size = 0) : Calls Tryd.prog 53 #[.string s] w fun e w' => e = .returned (.tuple #[.int .i64 (numV s), .bool (numB s)]) ∧ w = w' := by
  have HV := Lib.hid (numV_no (s := s) (fun h => by have := h.1; omega))
  go_enter Tryd.func53, Tryd.ntmps53
  go_wp2
  go_ret2
  exact ⟨ret_ivb HV.out.1.symm HV.out.2.symm, rfl⟩
set_option maxHeartbeats 2000000 in
theorem l01Num_neg (s : ByteArray) (w : World) (hs : s.size ≤ maxLen) (hp : 0 < s.size) (hneg : bt s 0 = 45) : Calls Tryd.prog 53 #[.string s] w fun e w' => e = .returned (.tuple #[.int .i64 (numV s), .bool (numB s)]) ∧ w = w' := by
  unfold maxLen at hs
  have ha : numAt s = 1 := if_pos hneg
  have h45 : (s[0].toNat : Int) = 45 := by rw [bt_eq hp, hneg]; rfl
  have hp0 : (0 : Int) < (s.size : Int) := by omega
  by_cases h1 : s.size = 1
  · have h1' : (s.size : Int) = 1 := by omega
    have HV := Lib.hid (numV_bad ha (fun h => by have := h.1; omega))
    go_enter Tryd.func53, Tryd.ntmps53
    go_wp2
    go_ret2
    exact ⟨ret_ivb HV.out.1.symm HV.out.2.symm, rfl⟩
  · have hq : 1 < s.size := by omega
    have hq1 : (1 : Int) < (s.size : Int) := by omega
    have hne1 : ((s.size : Int) == 1) = false := by rw [beq_eq_false_iff_ne]; omega
    by_cases h18 : s.size ≤ 1 + 18
    · have h18' : ¬ (18 : Int) < (s.size : Int) - 1 := by omega
      have hb1 := bt_eq hq
      by_cases h48 : bt s 1 = 48
      · have h48' : (s[1].toNat : Int) = 48 := by rw [hb1, h48]; rfl
        clear hb1
        have HV := Lib.hid (numV_bad ha (fun h => by exact h.2.2.1 ⟨h48, hq⟩))
        go_enter Tryd.func53, Tryd.ntmps53
        go_wp2
        go_ret2
        exact ⟨ret_ivb HV.out.1.symm HV.out.2.symm, rfl⟩
      · have h48' : ((s[1].toNat : Int) == 48) = false := by rw [beq_eq_false_iff_ne, hb1]; omega
        clear hb1
        go_enter Tryd.func53, Tryd.ntmps53
        go_wp2
        go_loop [5, 6] (fun v x => ∃ k : Nat, 1 ≤ k ∧ k ≤ s.size ∧ x = .int .i64 k ∧ v = .int .i64 (valTo s 1 k : Nat) ∧ digTo s 1 k) (fun _ x => s.size - (intOf x).toNat)
        case atStart => exact ⟨1, Nat.le_refl _, by omega, rfl, by rw [valTo_self]; rfl, fun j hj hk => by omega⟩
        case round =>
          obtain ⟨k, hka, hk, rfl, rfl, hall⟩ := hrel
          by_cases hlt : k < s.size
          · have hbk := bt_eq hlt
            by_cases hd : digitP s[k]
            · have hd1 := hd.1
              have hd2 := hd.2
              have HD := Lib.hid (digTo_succ hall (by omega) (by omega))
              have hvl := valTo_le hall hlt h18
              have HS : Hid (10 * (valTo s 1 k : Int) + ((s[k].toNat : Int) - 48) = (valTo s 1 (k + 1) : Nat)) := by show _ = _; rw [valTo_succ hka hlt, hbk]; omega
              clear hall hbk
              generalize valTo s 1 k = v at *
              have hv0 : (0 : Int) ≤ (v : Int) := Int.natCast_nonneg _
              have hv1 : (v : Int) ≤ 100000000000000000 := by omega
              go_wp2_with (go_at_call 87; refine (l01Digit_is (decide_eq_true hd) _).mono ?_; rintro e w' ⟨rfl, rfl⟩)
              go_round
              case rel => exact ⟨k + 1, by omega, by omega, by go_num, by rw [HS.out], HD.out⟩
              case measure => simp [intOf]; omega
            · have HV := Lib.hid (numV_bad ha (fun h => by have h5 := h.2.2.2 k hka hlt; apply hd; unfold digitP; omega))
              clear hall hbk
              go_wp2_with (go_at_call 87; refine (l01Digit_is (decide_eq_false hd) _).mono ?_; rintro e w' ⟨rfl, rfl⟩)
              go_ret2
              exact ⟨ret_ivb HV.out.1.symm HV.out.2.symm, rfl⟩
          · obtain rfl : k = s.size := by omega
            have HV := Lib.hid (numV_at ha ⟨by omega, by omega, by omega, hall⟩)
            have hvb := valTo_big hall h18
            clear hall
            generalize valTo s 1 s.size = v at *
            have hv0 : (0 : Int) ≤ (v : Int) := Int.natCast_nonneg _
            have hv1 : (v : Int) < 1000000000000000000 := by omega
            go_wp2
            go_ret2
            exact ⟨ret_ivb (by rw [HV.out.2]; rfl) HV.out.1.symm, rfl⟩
    · have h18' : (18 : Int) < (s.size : Int) - 1 := by omega
      have HV := Lib.hid (numV_bad ha (fun h => by have := h.2.1; omega))
      go_enter Tryd.func53, Tryd.ntmps53
      go_wp2
      go_ret2
      exact ⟨ret_ivb HV.out.1.symm HV.out.2.symm, rfl⟩
set_option maxHeartbeats 2000000 in
theorem l01Num_pos (s : ByteArray) (w : World) (hs : s.size ≤ maxLen) (hp : 0 < s.size) (hneg : ¬ bt s 0 = 45) : Calls Tryd.prog 53 #[.string s] w fun e w' => e = .returned (.tuple #[.int .i64 (numV s), .bool (numB s)]) ∧ w = w' := by
  unfold maxLen at hs
  have ha : numAt s = 0 := if_neg hneg
  have hb0 := bt_eq hp
  have h45 : ((s[0].toNat : Int) == 45) = false := by rw [beq_eq_false_iff_ne, hb0]; omega
  have hp0 : (0 : Int) < (s.size : Int) := by omega
  have hne0 : ((s.size : Int) == 0) = false := by rw [beq_eq_false_iff_ne]; omega
  by_cases h18 : s.size ≤ 0 + 18
  · have h18' : ¬ (18 : Int) < (s.size : Int) := by omega
    by_cases h48 : bt s 0 = 48
    · have h48' : (s[0].toNat : Int) = 48 := by rw [hb0, h48]; rfl
      clear hb0
      by_cases hq : 1 < s.size
      · have hq1 : (1 : Int) < (s.size : Int) := by omega
        have HV := Lib.hid (numV_bad ha (fun h => by exact h.2.2.1 ⟨h48, hq⟩))
        go_enter Tryd.func53, Tryd.ntmps53
        go_wp2
        go_ret2
        exact ⟨ret_ivb HV.out.1.symm HV.out.2.symm, rfl⟩
      · have hq1 : ¬ (1 : Int) < (s.size : Int) := by omega
        go_enter Tryd.func53, Tryd.ntmps53
        go_wp2
        go_loop [5, 6] (fun v x => ∃ k : Nat, 0 ≤ k ∧ k ≤ s.size ∧ x = .int .i64 k ∧ v = .int .i64 (valTo s 0 k : Nat) ∧ digTo s 0 k) (fun _ x => s.size - (intOf x).toNat)
        case atStart => exact ⟨0, Nat.le_refl _, by omega, rfl, by rw [valTo_self]; rfl, fun j hj hk => by omega⟩
        case round =>
          obtain ⟨k, hka, hk, rfl, rfl, hall⟩ := hrel
          by_cases hlt : k < s.size
          · have hbk := bt_eq hlt
            by_cases hd : digitP s[k]
            · have hd1 := hd.1
              have hd2 := hd.2
              have HD := Lib.hid (digTo_succ hall (by omega) (by omega))
              have hvl := valTo_le hall hlt h18
              have HS : Hid (10 * (valTo s 0 k : Int) + ((s[k].toNat : Int) - 48) = (valTo s 0 (k + 1) : Nat)) := by show _ = _; rw [valTo_succ hka hlt, hbk]; omega
              clear hall hbk
              generalize valTo s 0 k = v at *
              have hv0 : (0 : Int) ≤ (v : Int) := Int.natCast_nonneg _
              have hv1 : (v : Int) ≤ 100000000000000000 := by omega
              go_wp2_with (go_at_call 87; refine (l01Digit_is (decide_eq_true hd) _).mono ?_; rintro e w' ⟨rfl, rfl⟩)
              go_round
              case rel => exact ⟨k + 1, by omega, by omega, by go_num, by rw [HS.out], HD.out⟩
              case measure => simp [intOf]; omega
            · have HV := Lib.hid (numV_bad ha (fun h => by have h5 := h.2.2.2 k hka hlt; apply hd; unfold digitP; omega))
              clear hall hbk
              go_wp2_with (go_at_call 87; refine (l01Digit_is (decide_eq_false hd) _).mono ?_; rintro e w' ⟨rfl, rfl⟩)
              go_ret2
              exact ⟨ret_ivb HV.out.1.symm HV.out.2.symm, rfl⟩
          · obtain rfl : k = s.size := by omega
            have HV := Lib.hid (numV_at ha ⟨by omega, by omega, by omega, hall⟩)
            have hvb := valTo_big hall h18
            clear hall
            generalize valTo s 0 s.size = v at *
            have hv0 : (0 : Int) ≤ (v : Int) := Int.natCast_nonneg _
            have hv1 : (v : Int) < 1000000000000000000 := by omega
            go_wp2
            go_ret2
            exact ⟨ret_ivb (by rw [HV.out.2]; rfl) HV.out.1.symm, rfl⟩
    · have h48' : ((s[0].toNat : Int) == 48) = false := by rw [beq_eq_false_iff_ne, hb0]; omega
      clear hb0
      go_enter Tryd.func53, Tryd.ntmps53
      go_wp2
      go_loop [5, 6] (fun v x => ∃ k : Nat, 0 ≤ k ∧ k ≤ s.size ∧ x = .int .i64 k ∧ v = .int .i64 (valTo s 0 k : Nat) ∧ digTo s 0 k) (fun _ x => s.size - (intOf x).toNat)
      case atStart => exact ⟨0, Nat.le_refl _, by omega, rfl, by rw [valTo_self]; rfl, fun j hj hk => by omega⟩
      case round =>
        obtain ⟨k, hka, hk, rfl, rfl, hall⟩ := hrel
        by_cases hlt : k < s.size
        · have hbk := bt_eq hlt
          by_cases hd : digitP s[k]
          · have hd1 := hd.1
            have hd2 := hd.2
            have HD := Lib.hid (digTo_succ hall (by omega) (by omega))
            have hvl := valTo_le hall hlt h18
            have HS : Hid (10 * (valTo s 0 k : Int) + ((s[k].toNat : Int) - 48) = (valTo s 0 (k + 1) : Nat)) := by show _ = _; rw [valTo_succ hka hlt, hbk]; omega
            clear hall hbk
            generalize valTo s 0 k = v at *
            have hv0 : (0 : Int) ≤ (v : Int) := Int.natCast_nonneg _
            have hv1 : (v : Int) ≤ 100000000000000000 := by omega
            go_wp2_with (go_at_call 87; refine (l01Digit_is (decide_eq_true hd) _).mono ?_; rintro e w' ⟨rfl, rfl⟩)
            go_round
            case rel => exact ⟨k + 1, by omega, by omega, by go_num, by rw [HS.out], HD.out⟩
            case measure => simp [intOf]; omega
          · have HV := Lib.hid (numV_bad ha (fun h => by have h5 := h.2.2.2 k hka hlt; apply hd; unfold digitP; omega))
            clear hall hbk
            go_wp2_with (go_at_call 87; refine (l01Digit_is (decide_eq_false hd) _).mono ?_; rintro e w' ⟨rfl, rfl⟩)
            go_ret2
            exact ⟨ret_ivb HV.out.1.symm HV.out.2.symm, rfl⟩
        · obtain rfl : k = s.size := by omega
          have HV := Lib.hid (numV_at ha ⟨by omega, by omega, by omega, hall⟩)
          have hvb := valTo_big hall h18
          clear hall
          generalize valTo s 0 s.size = v at *
          have hv0 : (0 : Int) ≤ (v : Int) := Int.natCast_nonneg _
          have hv1 : (v : Int) < 1000000000000000000 := by omega
          go_wp2
          go_ret2
          exact ⟨ret_ivb (by rw [HV.out.2]; rfl) HV.out.1.symm, rfl⟩
  · have h18' : (18 : Int) < (s.size : Int) := by omega
    have HV := Lib.hid (numV_bad ha (fun h => by have := h.2.1; omega))
    go_enter Tryd.func53, Tryd.ntmps53
    go_wp2
    go_ret2
    exact ⟨ret_ivb HV.out.1.symm HV.out.2.symm, rfl⟩
theorem l01Number_is (s : ByteArray) (w : World) (hs : s.size ≤ maxLen) : Calls Tryd.prog 53 #[.string s] w fun e w' => e = .returned (.tuple #[.int .i64 (numV s), .bool (numB s)]) ∧ w = w' := by
  by_cases h0 : s.size = 0
  · exact l01Num_none s w h0
  · by_cases hneg : bt s 0 = 45
    · exact l01Num_neg s w hs (by omega) hneg
    · exact l01Num_pos s w hs (by omega) hneg
end Go.Proofs.YtkbfmjnekeipcaaDoor
