/- Contracts of reading a number with a point: the reference's reader, and the program's two. -/
import Derived.Test.YtkbfmjnekeipcaaDoorPointP
import Derived.Test.YtkbfmjnekeipcaaDoorSplitS
import Derived.Test.YtkbfmjnekeipcaaDoorNumS
import Derived.Test.YtkbfmjnekeipcaaDoorNumI
namespace Go.Proofs.YtkbfmjnekeipcaaDoor
open Go.ChangeShapes Go.WideShapes Go.ChangeAt Go.RowKit
set_option maxRecDepth 100000

theorem ret_pvb {a c : Int} {b d : Bool} (h : a = c) (h' : b = d) : Ending.returned (.tuple #[.int .i64 a, .bool b]) = .returned (.tuple #[.int .i64 c, .bool d]) := by rw [h, h']
theorem two_strs {w : World} {A : Option Addr} {p0 p1 : ByteArray} (h : StrsAt w A 2 [p0, p1]) : ∃ b off, A = some ⟨b, off, none⟩ ∧ b < w.heap.size ∧ w.cell? ⟨b, off, none⟩ = some (.string p0) ∧ w.cell? ⟨b, off + 1, none⟩ = some (.string p1) := by
  obtain ⟨b, off, x, e, hb, hx, hc⟩ := h.at_ (k := 0) (by omega)
  obtain ⟨b', off', x', e', hb', hx', hc'⟩ := h.at_ (k := 1) (by omega)
  rw [e] at e'
  cases e'
  cases hx
  cases hx'
  exact ⟨b, off, e, hb, hc, hc'⟩
theorem ptM_zero (p1 : ByteArray) (N : Int) : N * 10 ^ 0 + (valTo p1 0 0 : Int) = N := by rw [valTo_self]; omega
theorem ptM_succ {p1 : ByteArray} {k : Nat} {N : Int} (hk : k < p1.size) (h48 : 48 ≤ bt p1 k) : 10 * (N * 10 ^ k + (valTo p1 0 k : Int)) + ((bt p1 k : Int) - 48) = N * 10 ^ (k + 1) + (valTo p1 0 (k + 1) : Int) := by
  rw [valTo_succ (Nat.zero_le _) hk, Int.pow_succ]
  have h1 : N * (10 ^ k * 10) = 10 * (N * 10 ^ k) := by rw [← Int.mul_assoc, Int.mul_comm]
  rw [h1]
  omega
theorem ptM_bd {p1 : ByteArray} {k : Nat} {N : Int} (h0 : 0 ≤ N) (h1 : N ≤ 1000000) (hd : digTo p1 0 k) (hk : k ≤ p1.size) (h3 : k ≤ 3) : 0 ≤ N * 10 ^ k + (valTo p1 0 k : Int) ∧ N * 10 ^ k + (valTo p1 0 k : Int) ≤ 2000000000 := by
  have hv := valTo_lt hd hk
  rw [Nat.sub_zero] at hv
  have e0 : (10 : Int) ^ 0 = 1 := rfl
  have e1 : (10 : Int) ^ 1 = 10 := rfl
  have e2 : (10 : Int) ^ 2 = 100 := rfl
  have e3 : (10 : Int) ^ 3 = 1000 := rfl
  have f0 : (10 : Nat) ^ 0 = 1 := rfl
  have f1 : (10 : Nat) ^ 1 = 10 := rfl
  have f2 : (10 : Nat) ^ 2 = 100 := rfl
  have f3 : (10 : Nat) ^ 3 = 1000 := rfl
  rcases (show k = 0 ∨ k = 1 ∨ k = 2 ∨ k = 3 from by omega) with rfl | rfl | rfl | rfl <;> omega
attribute [local go_sem ↓] Go.wp_at_zero Go.wp_at_succ
set_option maxHeartbeats 8000000 in
theorem l02Point_is (s : ByteArray) (D : Nat) (dn : Int) (hdn : dn = (D : Int)) (hD : D ≤ 3) (w : World) (hs : s.size ≤ 1048576) : Calls Tryd.prog 47 #[.string s, .int .i64 dn] w fun e w' => e = .returned (.tuple #[.int .i64 (pointV s D), .bool (pointB s D)]) ∧ Below w.heap.size w w' := by
  subst hdn
  have HSP := Lib.hid (fun w1 => l01Split_is 46 46 rfl s w1 hs)
  have hlen := splitS_len 46 s
  by_cases h2 : (splitS 46 s).length = 2
  · obtain ⟨p0, p1, hp⟩ : ∃ p0 p1, splitS 46 s = [p0, p1] := by
      match hx : splitS 46 s, h2 with
      | [x, y], _ => exact ⟨x, y, rfl⟩
    have e0 : pt0 s = p0 := by unfold pt0; rw [hp]; rfl
    have e1 : pt1 s = p1 := by unfold pt1; rw [hp]; rfl
    have hOK : pointOK s D ↔ (p1.size = D ∧ numB p0 = true ∧ 0 ≤ numV p0 ∧ numV p0 ≤ 1000000 ∧ digTo p1 0 D) := by
      unfold pointOK
      rw [e0, e1]
      exact ⟨fun h => h.2, fun h => ⟨h2, h⟩⟩
    have HY : Hid (pointOK s D → pointB s D = true ∧ pointV s D = numV p0 * 10 ^ D + (valTo p1 0 D : Int)) := fun h => by
      have := point_yes h
      rwa [e0, e1] at this
    have HN : Hid (¬ pointOK s D → pointV s D = 0 ∧ pointB s D = false) := point_no
    have HSZ : Hid (p0.size ≤ maxLen) := by
      show p0.size ≤ maxLen
      have h5 : ofB s = ofB p0 ++ 46 :: ofB p1 := pieces_pair (by rw [← splitS_ofB, hp]; rfl)
      have h6 := congrArg List.length h5
      rw [List.length_append, List.length_cons] at h6
      have h7 : (ofB p0).length = p0.size := rfl
      have h8 : (ofB s).length = s.size := rfl
      unfold maxLen
      omega
    rw [hp] at HSP
    have HNUM := Lib.hid (fun w1 => l01Number_is p0 w1 HSZ.out)
    clear hp e0 e1 h2 hlen
    by_cases hsz : p1.size = D
    · cases hnb : numB p0 with
      | false =>
        have HV := Lib.hid (HN.out (fun h => by have := (hOK.1 h).2.1; rw [hnb] at this; cases this))
        rw [hnb] at HNUM
        clear hOK hnb
        generalize numV p0 = N at *
        subst hsz
        go_enter Tryd.func47, Tryd.ntmps47
        go_wp2_with fail
        refine (HSP.out _).mono ?_
        rintro e w1 ⟨A1, c1, rfl, ho1, hb1⟩
        obtain ⟨b, off, rfl, hbl, q0, q1⟩ := two_strs (StrsAt.of_own ho1)
        have HB1 := Lib.hid hb1
        clear ho1 hb1
        go_wp2_with (go_at_call 53; refine (HNUM.out _).mono ?_; rintro e w' ⟨rfl, rfl⟩)
        go_ret2
        exact ⟨ret_pvb HV.out.1.symm HV.out.2.symm, HB1.out⟩
      | true =>
        rw [hnb] at HNUM
        by_cases hlo : 0 ≤ numV p0
        · by_cases hhi : numV p0 ≤ 1000000
          · have HOK2 : Hid (digTo p1 0 D → pointOK s D) := fun h => hOK.2 ⟨hsz, hnb, hlo, hhi, h⟩
            have HNO2 : Hid (¬ digTo p1 0 D → ¬ pointOK s D) := fun h h' => h (hOK.1 h').2.2.2.2
            clear hOK hnb
            generalize numV p0 = N at *
            have hlo' : ¬ N < 0 := by omega
            have hhi' : ¬ (1000000 : Int) < N := by omega
            subst hsz
            go_enter Tryd.func47, Tryd.ntmps47
            go_wp2_with fail
            refine (HSP.out _).mono ?_
            rintro e w1 ⟨A1, c1, rfl, ho1, hb1⟩
            obtain ⟨b, off, rfl, hbl, q0, q1⟩ := two_strs (StrsAt.of_own ho1)
            have HB1 := Lib.hid hb1
            clear ho1 hb1
            go_wp2_with (go_at_call 53; refine (HNUM.out _).mono ?_; rintro e w' ⟨rfl, rfl⟩)
            go_loopw [7, 9] (fun v x wr => ∃ k : Nat, k ≤ p1.size ∧ x = .int .i64 k ∧ v = .int .i64 (N * 10 ^ k + (valTo p1 0 k : Int)) ∧ digTo p1 0 k ∧ wr = w1) (fun _ x _ => p1.size - (intOf x).toNat)
            case atStart => exact ⟨0, Nat.zero_le _, rfl, by rw [ptM_zero], fun j _ hj => by omega, rfl⟩
            case round =>
              obtain ⟨k, hk, rfl, rfl, hall, rfl⟩ := hrel
              by_cases hlt : k < p1.size
              · have hbk := bt_eq hlt
                have hbd := ptM_bd hlo hhi hall hk (by omega)
                have hkI : (k : Int) < (p1.size : Int) := by omega
                by_cases hd1 : (p1[k].toNat : Int) < 48
                · have HV := Lib.hid (HN.out (HNO2.out (fun h => by have := h k (Nat.zero_le _) hlt; omega)))
                  clear hall hbk
                  generalize N * 10 ^ k + (valTo p1 0 k : Int) = m at *
                  go_wp2
                  go_ret2
                  exact ⟨ret_pvb HV.out.1.symm HV.out.2.symm, HB1.out⟩
                · by_cases hd2 : (57 : Int) < (p1[k].toNat : Int)
                  · have HV := Lib.hid (HN.out (HNO2.out (fun h => by have := h k (Nat.zero_le _) hlt; omega)))
                    clear hall hbk
                    generalize N * 10 ^ k + (valTo p1 0 k : Int) = m at *
                    go_wp2
                    go_ret2
                    exact ⟨ret_pvb HV.out.1.symm HV.out.2.symm, HB1.out⟩
                  · have HD := Lib.hid (digTo_succ hall (by omega) (by omega))
                    have HM := Lib.hid (ptM_succ (N := N) hlt (by omega))
                    have HM2 : Hid (10 * (N * 10 ^ k + (valTo p1 0 k : Int)) + ((p1[k].toNat : Int) - 48) = N * 10 ^ (k + 1) + (valTo p1 0 (k + 1) : Int)) := by show _ = _; rw [hbk]; exact HM.out
                    clear HM hall hbk
                    generalize N * 10 ^ k + (valTo p1 0 k : Int) = m at *
                    obtain ⟨m0, m1⟩ := hbd
                    have hd3 : (48 : Int) ≤ (p1[k].toNat : Int) := by omega
                    have hd4 : (p1[k].toNat : Int) ≤ 57 := by omega
                    go_wp2
                    go_roundw
                    case rel => exact ⟨k + 1, by omega, by go_num, by rw [HM2.out], HD.out, trivial⟩
                    case measure => simp [intOf]; omega
              · obtain rfl : k = p1.size := by omega
                have HV := Lib.hid (HY.out (HOK2.out hall))
                clear hall
                generalize N * 10 ^ p1.size + (valTo p1 0 p1.size : Int) = m at *
                go_wp2
                go_ret2
                exact ⟨ret_pvb HV.out.2.symm HV.out.1.symm, HB1.out⟩
          · have HV := Lib.hid (HN.out (fun h => hhi (hOK.1 h).2.2.2.1))
            clear hOK hnb
            generalize numV p0 = N at *
            have hlo' : ¬ N < 0 := by omega
            have hhi' : (1000000 : Int) < N := by omega
            subst hsz
            go_enter Tryd.func47, Tryd.ntmps47
            go_wp2_with fail
            refine (HSP.out _).mono ?_
            rintro e w1 ⟨A1, c1, rfl, ho1, hb1⟩
            obtain ⟨b, off, rfl, hbl, q0, q1⟩ := two_strs (StrsAt.of_own ho1)
            have HB1 := Lib.hid hb1
            clear ho1 hb1
            go_wp2_with (go_at_call 53; refine (HNUM.out _).mono ?_; rintro e w' ⟨rfl, rfl⟩)
            go_ret2
            exact ⟨ret_pvb HV.out.1.symm HV.out.2.symm, HB1.out⟩
        · have HV := Lib.hid (HN.out (fun h => hlo (hOK.1 h).2.2.1))
          clear hOK hnb
          generalize numV p0 = N at *
          have hlo' : N < 0 := by omega
          subst hsz
          go_enter Tryd.func47, Tryd.ntmps47
          go_wp2_with fail
          refine (HSP.out _).mono ?_
          rintro e w1 ⟨A1, c1, rfl, ho1, hb1⟩
          obtain ⟨b, off, rfl, hbl, q0, q1⟩ := two_strs (StrsAt.of_own ho1)
          have HB1 := Lib.hid hb1
          clear ho1 hb1
          go_wp2_with (go_at_call 53; refine (HNUM.out _).mono ?_; rintro e w' ⟨rfl, rfl⟩)
          go_ret2
          exact ⟨ret_pvb HV.out.1.symm HV.out.2.symm, HB1.out⟩
    · have HV := Lib.hid (HN.out (fun h => hsz (hOK.1 h).1))
      have hne : ((p1.size : Int) == (D : Int)) = false := by rw [beq_eq_false_iff_ne]; omega
      clear hOK HNUM
      go_enter Tryd.func47, Tryd.ntmps47
      go_wp2_with fail
      refine (HSP.out _).mono ?_
      rintro e w1 ⟨A1, c1, rfl, ho1, hb1⟩
      obtain ⟨b, off, rfl, hbl, q0, q1⟩ := two_strs (StrsAt.of_own ho1)
      have HB1 := Lib.hid hb1
      clear ho1 hb1
      go_wp2
      go_ret2
      exact ⟨ret_pvb HV.out.1.symm HV.out.2.symm, HB1.out⟩
  · have HV := Lib.hid (point_no (s := s) (D := D) (fun h => h2 h.1))
    obtain ⟨n, hn⟩ : ∃ n, n = (splitS 46 s).length := ⟨_, rfl⟩
    have HSP2 := Lib.hid (show ∀ w1, Calls Tryd.prog 52 #[.string s, .int .u8 46] w1 fun e w' => ∃ A c, e = .returned (.slice A n c) ∧ w'.ownsRow w1.heap.size 9 1 (.slice A n c) n ((splitS 46 s).map Value.string) ∧ Below w1.heap.size w1 w' from by
      rw [hn]; exact fun w1 => l01Split_is 46 46 rfl s w1 hs)
    rw [← hn] at h2 hlen
    have hne : ((n : Int) == 2) = false := by rw [beq_eq_false_iff_ne]; omega
    clear hn HSP
    go_enter Tryd.func47, Tryd.ntmps47
    go_wp2_with fail
    refine (HSP2.out _).mono ?_
    rintro e w1 ⟨A1, c1, rfl, ho1, hb1⟩
    have HB1 := Lib.hid hb1
    clear ho1 hb1
    go_wp2
    go_ret2
    exact ⟨ret_pvb HV.out.1.symm HV.out.2.symm, HB1.out⟩
end Go.Proofs.YtkbfmjnekeipcaaDoor
