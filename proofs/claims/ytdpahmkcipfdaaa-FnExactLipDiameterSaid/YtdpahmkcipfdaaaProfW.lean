/- Contracts: whether a profile is valid, its height and its lip, in the reference; heights and lips. -/
import Derived.Test.YtdpahmkcipfdaaaProfV
namespace Go.Proofs.Ytdpahmkcipfdaaa
open Go.ChangeShapes Go.WideShapes Go.ChangeAt Go.RowKit
set_option maxRecDepth 100000

set_option maxHeartbeats 2000000 in
theorem l05Height_any (A : Option Addr) (n c : Nat) (rs : List R3) (g : Nat) (w : World) (h : RingsAt w A n rs) (hn : n ≤ 32) (hR : allR rs = true) (c1 : w.cell? ⟨g, 1, none⟩ = some (.slice A n c)) :
    Calls Try.prog 83 #[.pointer (some ⟨g, 0, none⟩)] w fun e w' => e = .returned (.int .i64 (heightU rs n)) ∧ w = w' := by
  have hl := h.1
  have hbd := heightU_bd hR
  have HR := Lib.hid (fun (k : Nat) (x y z : Int) (hr : rs[k]? = some (x, y, z)) => ringB_bd (allR_ring hR hr))
  go_enter Try.func83, Try.ntmps83
  go_wp2
  go_loop [3, 4] (fun t i => ∃ (k : Nat) (t' : Int), k ≤ n ∧ i = .int .i64 k ∧ t = .int .i64 t' ∧ t' = heightU rs k) (fun _ i => n - (intOf i).toNat)
  case atStart => exact ⟨0, 0, Nat.zero_le _, rfl, rfl, by simp [heightU]⟩
  case round =>
    obtain ⟨k, t, hk, rfl, rfl, ht⟩ := hrel
    have b0 := hbd k
    rw [← ht] at b0
    by_cases hlt : k < n
    · obtain ⟨b, off, x, y, z, rfl, hb, hr, d0, d1, d2⟩ := h.at_ hlt
      have rb := HR.out _ _ _ _ hr
      have H : Hid (t + z = heightU rs (k + 1)) := by
        have := heightU_succ hr
        rw [← ht] at this
        exact this
      have hltI : (k : Int) < (n : Int) := by omega
      clear hr ht hbd h
      go_wp2
      go_round
      case rel => exact ⟨k + 1, _, by omega, by go_num, rfl, H.out⟩
      case measure => simp [intOf]; omega
    · obtain rfl : k = n := by omega
      have H := Lib.hid ht
      clear ht hbd h
      go_wp2
      go_ret
      exact ⟨ret_int H.out, rfl⟩
theorem l05Joined_any (x y x' y' : Int) (b off off' : Nat) (w : World) (c0 : w.cell? ⟨b, off, none⟩ = some (.int .i64 x)) (c1 : w.cell? ⟨b, off + 1, none⟩ = some (.int .i64 y)) (d0 : w.cell? ⟨b, off', none⟩ = some (.int .i64 x')) (d1 : w.cell? ⟨b, off' + 1, none⟩ = some (.int .i64 y')) {r : Bool} (hr : (decide (y < x') && decide (y' < x)) = r) :
    Calls Try.prog 97 #[.pointer (some ⟨b, off, none⟩), .pointer (some ⟨b, off', none⟩)] w fun e w' => e = .returned (.bool r) ∧ ∃ q, w' = w.drewN q := by
  subst hr
  by_cases ja : y < x'
  · have ha : decide (y < x') = true := decide_eq_true ja
    by_cases jb : y' < x
    · have hb : decide (y' < x) = true := decide_eq_true jb
      go_enter Try.func97, Try.ntmps97
      go_wp2
      go_quiet (fail)
      go_wp2
      go_ret
      exact ⟨by rw [ha, hb]; rfl, nq, rfl⟩
    · have hb : decide (y' < x) = false := decide_eq_false jb
      go_enter Try.func97, Try.ntmps97
      go_wp2
      go_quiet (fail)
      go_wp2
      go_ret
      exact ⟨by rw [ha, hb]; rfl, nq, rfl⟩
  · have ha : decide (y < x') = false := decide_eq_false ja
    go_enter Try.func97, Try.ntmps97
    go_wp2
    go_quiet (fail)
    go_wp2
    go_ret
    exact ⟨by rw [ha]; rfl, nq, rfl⟩
set_option maxHeartbeats 8000000 in
theorem l05Ok_any (s : ByteArray) (A : Option Addr) (n c : Nat) (rs : List R3) (g : Nat) (w : World) (h : RingsAt w A n rs) (hn : n ≤ 1048576) (hs : s.size ≤ maxLen)
    (g0 : w.cell? ⟨g, 0, none⟩ = some (.string s)) (g1 : w.cell? ⟨g, 1, none⟩ = some (.slice A n c)) :
    Calls Try.prog 78 #[.pointer (some ⟨g, 0, none⟩)] w fun e w' => e = .returned (.bool (profB s rs)) ∧ ∃ q, w' = w.drewN q := by
  have hl := h.1
  have HN := Lib.hid (fun w1 => l01Name_any s w1 hs)
  cases hN : nameB s
  · have H := Lib.hid (profB_no (s := s) (rs := rs) (fun hp => by have := hp.1; rw [hN] at this; cases this))
    rw [hN] at HN
    clear hN
    go_enter Try.func78, Try.ntmps78
    go_wp2_with (go_at_call 92; refine (HN.out _).mono ?_; rintro e w' ⟨rfl, rfl⟩)
    go_ret
    exact ⟨ret_bool H.out.symm, 0, rfl⟩
  by_cases h1 : 1 ≤ n
  case neg =>
    have H := Lib.hid (profB_no (s := s) (rs := rs) (fun hp => by have := hp.2.1; omega))
    rw [hN] at HN
    clear hN
    have hd : decide ((n : Int) < 1) = true := decide_eq_true (by omega)
    go_enter Try.func78, Try.ntmps78
    go_wp2_with (go_at_call 92; refine (HN.out _).mono ?_; rintro e w' ⟨rfl, rfl⟩)
    go_ret
    exact ⟨ret_bool H.out.symm, 0, rfl⟩
  by_cases h2 : n ≤ 32
  case neg =>
    have H := Lib.hid (profB_no (s := s) (rs := rs) (fun hp => by have := hp.2.2.1; omega))
    rw [hN] at HN
    clear hN
    have hd : decide ((n : Int) < 1) = false := decide_eq_false (by omega)
    have hd2 : decide ((32 : Int) < n) = true := decide_eq_true (by omega)
    go_enter Try.func78, Try.ntmps78
    go_wp2_with (go_at_call 92; refine (HN.out _).mono ?_; rintro e w' ⟨rfl, rfl⟩)
    go_ret
    exact ⟨ret_bool H.out.symm, 0, rfl⟩
  have HNN := Lib.hid hN
  rw [hN] at HN
  clear hN
  have hd : decide ((n : Int) < 1) = false := decide_eq_false (by omega)
  have hd2 : decide ((32 : Int) < n) = false := decide_eq_false (by omega)
  have HH := Lib.hid (fun w1 (hh : RingsAt w1 A n rs) (hR : allR rs = true) (c1 : w1.cell? ⟨g, 1, none⟩ = some (.slice A n c)) => l05Height_any A n c rs g w1 hh h2 hR c1)
  go_enter Try.func78, Try.ntmps78
  go_wp2_with (go_at_call 92; refine (HN.out _).mono ?_; rintro e w' ⟨rfl, rfl⟩)
  go_loopw [3] (fun i wr => ∃ k q : Nat, k ≤ n ∧ i = .int .i64 k ∧ wr = w.drewN q ∧ (∀ j x y z, j < k → rs[j]? = some (x, y, z) → ringB x y z = true) ∧ joinTo rs k) (fun i _ => n - (intOf i).toNat)
  case atStart => exact ⟨0, 0, Nat.zero_le _, rfl, rfl, fun j x y z hj => by omega, fun j x y z x' y' z' hj => by omega⟩
  case round =>
    obtain ⟨k, q, hk, rfl, rfl, hall, hj⟩ := hrel
    by_cases hlt : k < n
    · obtain ⟨b, off, x, y, z, rfl, hb, hr, c0, c1, c2⟩ := h.at_ hlt
      have hltI : (k : Int) < (n : Int) := by omega
      have hk0 : (0 : Int) ≤ (k : Int) := by omega
      cases hB : ringB x y z
      · have H := Lib.hid (profB_no (s := s) (rs := rs) (fun hp => by have := allR_any hr hB; rw [hp.2.2.2.1] at this; cases this))
        have HB := Lib.hid (fun w1 (e0 : w1.cell? ⟨b, off + k * 3, none⟩ = some (.int .i64 x)) (e1 : w1.cell? ⟨b, off + k * 3 + 1, none⟩ = some (.int .i64 y)) (e2 : w1.cell? ⟨b, off + k * 3 + 2, none⟩ = some (.int .i64 z)) => hB ▸ l05Ring_any x y z b (off + k * 3) w1 e0 e1 e2)
        clear hall hj hr hB h
        go_wp2
        go_quiet ((go_at_call 96; first | exact quietD (HB.out _ c0 c1 c2) | exact quietC (HB.out _ c0 c1 c2)))
        go_wp2
        go_ret
        exact ⟨ret_bool H.out.symm, q + nq, by first | rfl | rw [World.drewN_drewN]⟩
      · have HA := Lib.hid (allR_succ hall hr hB)
        have HB := Lib.hid (fun w1 (e0 : w1.cell? ⟨b, off + k * 3, none⟩ = some (.int .i64 x)) (e1 : w1.cell? ⟨b, off + k * 3 + 1, none⟩ = some (.int .i64 y)) (e2 : w1.cell? ⟨b, off + k * 3 + 2, none⟩ = some (.int .i64 z)) => hB ▸ l05Ring_any x y z b (off + k * 3) w1 e0 e1 e2)
        by_cases h0 : k = 0
        · have HJ : Hid (joinTo rs (k + 1)) := fun j x y z x' y' z' hj => by omega
          have d0 : decide (0 < k) = false := decide_eq_false (by omega)
          have h0' : k ≤ 0 := by omega
          clear hall hj hr hB h h0
          go_wp2
          go_quiet ((go_at_call 96; first | exact quietD (HB.out _ c0 c1 c2) | exact quietC (HB.out _ c0 c1 c2)))
          go_wp2
          go_roundw
          case rel => exact ⟨k + 1, q + nq, by omega, by go_num, by first | rfl | rw [World.drewN_drewN], HA.out, HJ.out⟩
          case measure => simp [intOf]; omega
        · obtain ⟨j, hkj⟩ : ∃ j, k = j + 1 := ⟨k - 1, by omega⟩
          obtain ⟨b', off', x', y', z', he, hb', hr', e0, e1, e2⟩ := h.at_ (show j < n by omega)
          simp only [Option.some.injEq, Addr.mk.injEq, and_true] at he
          obtain ⟨rfl, rfl⟩ := he
          have d0 : decide (0 < k) = true := decide_eq_true (by omega)
          have hw1 : IntKind.i64.wrap ((k : Int) - 1) = (j : Int) := (IntWalk.i64_in _ (by omega)).trans (by omega)
          have hw3 : (0 : Int) ≤ (j : Int) := by omega
          have hw4 : (j : Int) < (n : Int) := by omega
          by_cases hjj : y' < x ∧ y < x'
          · have HJ : Hid (joinTo rs (k + 1)) := by show joinTo _ _; rw [hkj] at hj hr ⊢; exact joinTo_succ hj hr' hr hjj.1 hjj.2
            have HD := Lib.hid (show (decide (y' < x) && decide (y < x')) = true by simp [hjj.1, hjj.2])
            have HJJ := Lib.hid (fun w1 (a0 : w1.cell? ⟨b, off + j * 3, none⟩ = some (.int .i64 x')) (a1 : w1.cell? ⟨b, off + j * 3 + 1, none⟩ = some (.int .i64 y')) (a2 : w1.cell? ⟨b, off + k * 3, none⟩ = some (.int .i64 x)) (a3 : w1.cell? ⟨b, off + k * 3 + 1, none⟩ = some (.int .i64 y)) => l05Joined_any x' y' x y b (off + j * 3) (off + k * 3) w1 a0 a1 a2 a3 HD.out)
            clear hall hj hr hr' hB h h0 hkj hjj
            go_wp2
            go_quiet (first
              | (go_at_call 96; first | exact quietD (HB.out _ c0 c1 c2) | exact quietC (HB.out _ c0 c1 c2))
              | (go_at_call 97; first | exact quietD (HJJ.out _ e0 e1 c0 c1) | exact quietC (HJJ.out _ e0 e1 c0 c1)))
            clear hw1
            go_wp2
            go_roundw
            case rel => exact ⟨k + 1, q + nq, by omega, by go_num, by first | rfl | rw [World.drewN_drewN], HA.out, HJ.out⟩
            case measure => simp [intOf]; omega
          · have H := Lib.hid (profB_no (s := s) (rs := rs) (fun hp => by
              have h5 := hp.2.2.2.2.1
              rw [hkj] at hr hlt
              exact hjj (h5 j x' y' z' x y z (by omega) hr' hr)))
            have HD := Lib.hid (show (decide (y' < x) && decide (y < x')) = false by
              rw [Bool.and_eq_false_iff, decide_eq_false_iff_not, decide_eq_false_iff_not]
              exact Decidable.not_and_iff_or_not.1 hjj)
            have HJJ := Lib.hid (fun w1 (a0 : w1.cell? ⟨b, off + j * 3, none⟩ = some (.int .i64 x')) (a1 : w1.cell? ⟨b, off + j * 3 + 1, none⟩ = some (.int .i64 y')) (a2 : w1.cell? ⟨b, off + k * 3, none⟩ = some (.int .i64 x)) (a3 : w1.cell? ⟨b, off + k * 3 + 1, none⟩ = some (.int .i64 y)) => l05Joined_any x' y' x y b (off + j * 3) (off + k * 3) w1 a0 a1 a2 a3 HD.out)
            clear hall hj hr hr' hB h h0 hkj hjj
            go_wp2
            go_quiet (first
              | (go_at_call 96; first | exact quietD (HB.out _ c0 c1 c2) | exact quietC (HB.out _ c0 c1 c2))
              | (go_at_call 97; first | exact quietD (HJJ.out _ e0 e1 c0 c1) | exact quietC (HJJ.out _ e0 e1 c0 c1)))
            clear hw1
            go_wp2
            go_ret
            exact ⟨ret_bool H.out.symm, q + nq, by first | rfl | rw [World.drewN_drewN]⟩
    · obtain rfl : k = n := by omega
      have hR := allR_all hl hall
      have HHH : Hid (profB s rs = decide (heightU rs k ≤ 300000)) := by
        show _ = _
        by_cases hh : heightU rs k ≤ 300000
        · rw [decide_eq_true hh]
          exact profB_yes ⟨HNN.out, by omega, by omega, hR, by rw [hl]; exact hj, by rw [hl]; exact hh⟩
        · rw [decide_eq_false hh]
          exact profB_no (fun hp => hh (by have := hp.2.2.2.2.2; rw [hl] at this; exact this))
      have HX := Lib.hid (HH.out (w.drewN q) h hR g1)
      clear hall hj hR h
      go_wp2_with fail
      refine HX.out.mono ?_
      rintro e w' ⟨rfl, rfl⟩
      go_wp2
      go_ret
      exact ⟨ret_bool HHH.out.symm, q, rfl⟩
end Go.Proofs.Ytdpahmkcipfdaaa
