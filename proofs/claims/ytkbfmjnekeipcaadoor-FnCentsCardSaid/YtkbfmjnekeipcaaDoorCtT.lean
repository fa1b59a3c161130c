/- Contracts of the interval with a text, in the program and in the reference. -/
import Derived.Test.YtkbfmjnekeipcaaDoorCtP
namespace Go.Proofs.YtkbfmjnekeipcaaDoor
open Go.ChangeShapes Go.WideShapes Go.ChangeAt Go.RowKit
set_option maxRecDepth 100000

theorem numV_bd (s : ByteArray) : -1000000000000000000 < numV s ∧ numV s < 1000000000000000000 := by
  cases h : numB s with
  | true => exact (num_sound h).2
  | false =>
    have : numV s = 0 := by unfold numV; rw [h]; rfl
    omega
theorem tail_size (s : ByteArray) : (tailS s).size ≤ s.size := by
  have h1 : ofB (tailS s) = (ofB s).drop 1 := Lib.extract_to_end s 1
  have h2 := congrArg List.length h1
  rw [List.length_drop] at h2
  have h3 : (ofB (tailS s)).length = (tailS s).size := rfl
  have h4 : (ofB s).length = s.size := rfl
  omega
set_option maxHeartbeats 2000000 in
theorem rdCt_spec (s : ByteArray) (w : World) (hs : s.size ≤ 1048576) : Calls Tryd.prog 10 #[.string s] w fun e w' => e = .returned (.tuple #[.int .i64 (ctV s), .bool (ctB s)]) ∧ Below w.heap.size w w' := by
  by_cases h2 : s.size < 2
  · have HV := Lib.hid (ct_no (s := s) fun t ht => by have := (ct_parts ht).2.1; omega)
    have h2' : (s.size : Int) < 2 := by omega
    go_enter Tryd.func10, Tryd.ntmps10
    go_wp2
    go_ret2
    exact ⟨ret_pvb HV.out.1.symm HV.out.2.symm, Below.refl _ _⟩
  have h2' : ¬ (s.size : Int) < 2 := by omega
  have hp : 0 < s.size := by omega
  have hb0 := bt_eq hp
  have h1I : (1 : Int) ≤ (s.size : Int) := by omega
  have HP := Lib.hid (show ∀ w1, Calls Tryd.prog 47 #[.string (s.extract 1 s.size), .int .i64 1] w1 fun e w' => e = .returned (.tuple #[.int .i64 (pointV (tailS s) 1), .bool (pointB (tailS s) 1)]) ∧ Below w1.heap.size w1 w' from
    fun w1 => l02Point_is (tailS s) 1 1 rfl (by omega) w1 (Nat.le_trans (tail_size s) hs))
  by_cases hc : bt s 0 = 43
  · have h0 : (s[0].toNat : Int) = 43 := by rw [hb0, hc]; rfl
    have h0n : ¬ bt s 0 = 45 := by omega
    clear hb0
    cases hpt : pointB (tailS s) 1 with
    | false =>
      have HV := Lib.hid (ct_no (s := s) fun t ht => by have := (point_yes (ct_parts ht).2.2.1).1; rw [hpt] at this; cases this)
      rw [hpt] at HP
      clear hpt
      generalize pointV (tailS s) 1 = f at *
      go_enter Tryd.func10, Tryd.ntmps10
      go_wp2_with (go_at_call 47; refine (HP.out _).mono ?_; rintro e w1 ⟨rfl, hb1⟩)
      go_ret2
      exact ⟨ret_pvb HV.out.1.symm HV.out.2.symm, hb1⟩
    | true =>
      have hbd := pt1_bd hpt
      have hm : ctMag s (pointV (tailS s) 1) = pointV (tailS s) 1 := if_neg h0n
      cases hi : inB (pointV (tailS s) 1) (-120000) 120000 with
      | false =>
        have HV := Lib.hid (ct_no (s := s) fun t ht => by have h4 := (ct_parts ht).2.2.2.1; rw [hm] at h4; rw [h4, ht.1] at hi; cases hi)
        rw [hpt] at HP
        clear hpt hm
        generalize pointV (tailS s) 1 = f at *
        go_enter Tryd.func10, Tryd.ntmps10
        go_wp2_with first
          | (go_at_call 47; refine (HP.out _).mono ?_; rintro e w1 ⟨rfl, hb1⟩)
          | (go_at_call 48; refine (l02Intv hi _).mono ?_; rintro e w' ⟨rfl, rfl⟩)
        go_ret2
        exact ⟨ret_pvb HV.out.1.symm HV.out.2.symm, hb1⟩
      | true =>
        have HV := Lib.hid (ct_yes (ct_spec (.inl hc) (by omega) hpt (fun h => h0n h.1) (by rw [hm]; exact hi)))
        rw [hm] at HV
        rw [hpt] at HP
        clear hpt hm
        generalize pointV (tailS s) 1 = f at *
        go_enter Tryd.func10, Tryd.ntmps10
        go_wp2_with first
          | (go_at_call 47; refine (HP.out _).mono ?_; rintro e w1 ⟨rfl, hb1⟩)
          | (go_at_call 48; refine (l02Intv hi _).mono ?_; rintro e w' ⟨rfl, rfl⟩)
        go_ret2
        exact ⟨ret_pvb HV.out.1.symm HV.out.2.symm, hb1⟩
  by_cases hc' : bt s 0 = 45
  · have h0 : (s[0].toNat : Int) = 45 := by rw [hb0, hc']; rfl
    have h0n : ¬ bt s 0 = 43 := by omega
    clear hb0
    cases hpt : pointB (tailS s) 1 with
    | false =>
      have HV := Lib.hid (ct_no (s := s) fun t ht => by have := (point_yes (ct_parts ht).2.2.1).1; rw [hpt] at this; cases this)
      rw [hpt] at HP
      clear hpt
      generalize pointV (tailS s) 1 = f at *
      go_enter Tryd.func10, Tryd.ntmps10
      go_wp2_with (go_at_call 47; refine (HP.out _).mono ?_; rintro e w1 ⟨rfl, hb1⟩)
      go_ret2
      exact ⟨ret_pvb HV.out.1.symm HV.out.2.symm, hb1⟩
    | true =>
      have hbd := pt1_bd hpt
      by_cases hz : pointV (tailS s) 1 = 0
      · have HV := Lib.hid (ct_no (s := s) fun t ht => (ct_parts ht).2.2.2.2.1 ⟨hc', hz⟩)
        rw [hpt] at HP
        clear hpt hbd
        generalize pointV (tailS s) 1 = f at *
        subst hz
        go_enter Tryd.func10, Tryd.ntmps10
        go_wp2_with (go_at_call 47; refine (HP.out _).mono ?_; rintro e w1 ⟨rfl, hb1⟩)
        go_ret2
        exact ⟨ret_pvb HV.out.1.symm HV.out.2.symm, hb1⟩
      · have hm : ctMag s (pointV (tailS s) 1) = -(pointV (tailS s) 1) := if_pos hc'
        have hzz : (pointV (tailS s) 1 == 0) = false := by rw [beq_eq_false_iff_ne]; exact hz
        cases hi : inB (-(pointV (tailS s) 1)) (-120000) 120000 with
        | false =>
          have HV := Lib.hid (ct_no (s := s) fun t ht => by have h4 := (ct_parts ht).2.2.2.1; rw [hm] at h4; rw [h4, ht.1] at hi; cases hi)
          rw [hpt] at HP
          clear hpt hm
          generalize pointV (tailS s) 1 = f at *
          go_enter Tryd.func10, Tryd.ntmps10
          go_wp2_with first
            | (go_at_call 47; refine (HP.out _).mono ?_; rintro e w1 ⟨rfl, hb1⟩)
            | (go_at_call 48; refine (l02Intv hi _).mono ?_; rintro e w' ⟨rfl, rfl⟩)
          go_ret2
          exact ⟨ret_pvb HV.out.1.symm HV.out.2.symm, hb1⟩
        | true =>
          have HV := Lib.hid (ct_yes (ct_spec (.inr hc') (by omega) hpt (fun h => hz h.2) (by rw [hm]; exact hi)))
          rw [hm] at HV
          rw [hpt] at HP
          clear hpt hm
          generalize pointV (tailS s) 1 = f at *
          go_enter Tryd.func10, Tryd.ntmps10
          go_wp2_with first
            | (go_at_call 47; refine (HP.out _).mono ?_; rintro e w1 ⟨rfl, hb1⟩)
            | (go_at_call 48; refine (l02Intv hi _).mono ?_; rintro e w' ⟨rfl, rfl⟩)
          go_ret2
          exact ⟨ret_pvb HV.out.1.symm HV.out.2.symm, hb1⟩
  have HV := Lib.hid (ct_no (s := s) fun t ht => by have := (ct_parts ht).1; omega)
  have h43 : ((s[0].toNat : Int) != 43) = true := by rw [bne_iff_ne, hb0]; omega
  have h45 : ((s[0].toNat : Int) != 45) = true := by rw [bne_iff_ne, hb0]; omega
  clear hb0
  go_enter Tryd.func10, Tryd.ntmps10
  go_wp2
  go_ret2
  exact ⟨ret_pvb HV.out.1.symm HV.out.2.symm, Below.refl _ _⟩
theorem cut_tail (s : ByteArray) (w : World) (hm : MaxLenIn w) (hs : s.size ≤ 1048576) :
    Calls Tryd.prog 49 #[.string (s.extract 1 s.size), .string ⟨#[46]⟩] w fun e w' => ∃ (f : Bool) (q : Nat), e = .returned (.tuple #[.string (cutA (tailS s)), .string (cutZ (tailS s)), .bool f]) ∧ w' = w.drewN q :=
  cut_call (tailS s) w hm (Nat.le_trans (tail_size s) hs)
set_option maxHeartbeats 2000000 in
theorem rdCt_impl (s : ByteArray) (w : World) (hs : s.size ≤ 1048576) (he : Errs w) (hm : MaxLenIn w) : Calls Tryd.prog 11 #[.string s] w fun e w' => e = .returned (.tuple #[.int .i64 (ctV s), .bool (ctB s)]) ∧ Below w.heap.size w w' := by
  by_cases h4 : s.size < 4
  · have HV := Lib.hid (ct_no (s := s) fun t ht => by have := (ct_parts ht).2.1; omega)
    have h4' : (s.size : Int) < 4 := by omega
    go_enter Tryd.func11, Tryd.ntmps11
    go_wp2
    go_ret2
    exact ⟨ret_pvb HV.out.1.symm HV.out.2.symm, Below.refl _ _⟩
  have h4' : ¬ (s.size : Int) < 4 := by omega
  have hp : 0 < s.size := by omega
  have hb0 := bt_eq hp
  have h1I : (1 : Int) ≤ (s.size : Int) := by omega
  have HC := Lib.hid (cut_tail s w hm hs)
  have HE := Lib.hid he
  have HA := Lib.hid (fun w1 h1 => read_impl (cutA (tailS s)) w1 h1)
  have HZ := Lib.hid (fun w1 h1 => read_impl (cutZ (tailS s)) w1 h1)
  have hbA := numV_bd (cutA (tailS s))
  have hbZ := numV_bd (cutZ (tailS s))
  clear he hm
  cases hw : inB (numV (cutA (tailS s))) 0 120000 with
  | false =>
    have HV := Lib.hid (ct_no (s := s) fun t ht => by
      have h5 := (ct_parts ht).2.2.2.2.2.1
      rw [inB_iff.2 h5] at hw
      cases hw)
    generalize numV (cutA (tailS s)) = n at *
    generalize numB (cutA (tailS s)) = nb at *
    generalize numV (cutZ (tailS s)) = z at *
    generalize numB (cutZ (tailS s)) = zb at *
    generalize cutA (tailS s) = a at *
    generalize cutZ (tailS s) = b at *
    clear hb0
    go_enter Tryd.func11, Tryd.ntmps11
    go_wp2_with fail
    refine HC.out.mono ?_
    rintro e w' ⟨fl, q, rfl, rfl⟩
    go_wp2_with fail
    refine (HA.out _ (errs_drewN HE.out q)).mono ?_
    rintro e w1 ⟨rfl, hb1⟩
    have HB1 := Lib.hid (below_two (below_drewN (Below.refl w.heap.size w) q) hb1 (Nat.le_refl _))
    clear hb1
    go_wp2_with fail
    refine (HZ.out _ (HE.out.below HB1.out)).mono ?_
    rintro e w2 ⟨rfl, hb2⟩
    have HB2 := Lib.hid (below_two HB1.out hb2 (Nat.le_refl _))
    clear hb2
    go_wp2_with (go_at_call 50; refine (within_is hw _).mono ?_; rintro e w' ⟨rfl, rfl⟩)
    go_ret2
    exact ⟨ret_pvb HV.out.1.symm HV.out.2.symm, HB2.out⟩
  | true =>
    have hwb := inB_iff.1 hw
    by_cases hc : bt s 0 = 45
    · have h0 : (s[0].toNat : Int) = 45 := by rw [hb0, hc]; rfl
      have hmg : ctMag s (10 * numV (cutA (tailS s)) + numV (cutZ (tailS s))) = -(10 * numV (cutA (tailS s)) + numV (cutZ (tailS s))) := if_pos hc
      clear hb0
      by_cases hq : centsS (-(10 * numV (cutA (tailS s)) + numV (cutZ (tailS s)))) = s
      · have HV := Lib.hid (ct_yes (ct_impl (by omega) hq))
        have hss : ((centsS (-(10 * numV (cutA (tailS s)) + numV (cutZ (tailS s))))).toList == s.toList) = true := by rw [hq]; simp
        have HT := Lib.hid (fun w1 h1 => cents_impl (-(10 * numV (cutA (tailS s)) + numV (cutZ (tailS s)))) w1 h1)
        clear hmg hq
        generalize hcs : centsS (-(10 * numV (cutA (tailS s)) + numV (cutZ (tailS s)))) = t at *
        clear hcs
        generalize numV (cutA (tailS s)) = n at *
        generalize numB (cutA (tailS s)) = nb at *
        generalize numV (cutZ (tailS s)) = z at *
        generalize numB (cutZ (tailS s)) = zb at *
        generalize cutA (tailS s) = a at *
        generalize cutZ (tailS s) = b at *
        obtain ⟨n0, n1⟩ := hwb
        obtain ⟨z0, z1⟩ := hbZ
        go_enter Tryd.func11, Tryd.ntmps11
        go_wp2_with fail
        refine HC.out.mono ?_
        rintro e w' ⟨fl, q, rfl, rfl⟩
        go_wp2_with fail
        refine (HA.out _ (errs_drewN HE.out q)).mono ?_
        rintro e w1 ⟨rfl, hb1⟩
        have HB1 := Lib.hid (below_two (below_drewN (Below.refl w.heap.size w) q) hb1 (Nat.le_refl _))
        clear hb1
        go_wp2_with fail
        refine (HZ.out _ (HE.out.below HB1.out)).mono ?_
        rintro e w2 ⟨rfl, hb2⟩
        have HB2 := Lib.hid (below_two HB1.out hb2 (Nat.le_refl _))
        clear hb2
        go_wp2_with (go_at_call 50; refine (within_is hw _).mono ?_; rintro e w' ⟨rfl, rfl⟩)
        refine (HT.out _ (HE.out.below HB2.out).tab).mono ?_
        rintro e w3 ⟨rfl, hb3⟩
        have HB3 := Lib.hid (below_two HB2.out hb3 (Nat.le_refl _))
        clear hb3
        go_wp2
        go_ret2
        exact ⟨ret_pvb HV.out.1.symm HV.out.2.symm, HB3.out⟩
      · have HV := Lib.hid (ct_no (s := s) fun t ht => by
          have h5 := (ct_parts ht).2.2.2.2.2.2
          rw [hmg] at h5
          rw [h5] at hq
          exact hq ht.2)
        have hss : ((centsS (-(10 * numV (cutA (tailS s)) + numV (cutZ (tailS s))))).toList == s.toList) = false := str_ne hq
        have HT := Lib.hid (fun w1 h1 => cents_impl (-(10 * numV (cutA (tailS s)) + numV (cutZ (tailS s)))) w1 h1)
        clear hmg hq
        generalize hcs : centsS (-(10 * numV (cutA (tailS s)) + numV (cutZ (tailS s)))) = t at *
        clear hcs
        generalize numV (cutA (tailS s)) = n at *
        generalize numB (cutA (tailS s)) = nb at *
        generalize numV (cutZ (tailS s)) = z at *
        generalize numB (cutZ (tailS s)) = zb at *
        generalize cutA (tailS s) = a at *
        generalize cutZ (tailS s) = b at *
        obtain ⟨n0, n1⟩ := hwb
        obtain ⟨z0, z1⟩ := hbZ
        go_enter Tryd.func11, Tryd.ntmps11
        go_wp2_with fail
        refine HC.out.mono ?_
        rintro e w' ⟨fl, q, rfl, rfl⟩
        go_wp2_with fail
        refine (HA.out _ (errs_drewN HE.out q)).mono ?_
        rintro e w1 ⟨rfl, hb1⟩
        have HB1 := Lib.hid (below_two (below_drewN (Below.refl w.heap.size w) q) hb1 (Nat.le_refl _))
        clear hb1
        go_wp2_with fail
        refine (HZ.out _ (HE.out.below HB1.out)).mono ?_
        rintro e w2 ⟨rfl, hb2⟩
        have HB2 := Lib.hid (below_two HB1.out hb2 (Nat.le_refl _))
        clear hb2
        go_wp2_with (go_at_call 50; refine (within_is hw _).mono ?_; rintro e w' ⟨rfl, rfl⟩)
        refine (HT.out _ (HE.out.below HB2.out).tab).mono ?_
        rintro e w3 ⟨rfl, hb3⟩
        have HB3 := Lib.hid (below_two HB2.out hb3 (Nat.le_refl _))
        clear hb3
        go_wp2
        go_ret2
        exact ⟨ret_pvb HV.out.1.symm HV.out.2.symm, HB3.out⟩
    · have h0 : ((s[0].toNat : Int) == 45) = false := by rw [beq_eq_false_iff_ne, hb0]; omega
      have hmg : ctMag s (10 * numV (cutA (tailS s)) + numV (cutZ (tailS s))) = 10 * numV (cutA (tailS s)) + numV (cutZ (tailS s)) := if_neg hc
      clear hb0
      by_cases hq : centsS (10 * numV (cutA (tailS s)) + numV (cutZ (tailS s))) = s
      · have HV := Lib.hid (ct_yes (ct_impl (by omega) hq))
        have hss : ((centsS (10 * numV (cutA (tailS s)) + numV (cutZ (tailS s)))).toList == s.toList) = true := by rw [hq]; simp
        have HT := Lib.hid (fun w1 h1 => cents_impl (10 * numV (cutA (tailS s)) + numV (cutZ (tailS s))) w1 h1)
        clear hmg hq
        generalize hcs : centsS (10 * numV (cutA (tailS s)) + numV (cutZ (tailS s))) = t at *
        clear hcs
        generalize numV (cutA (tailS s)) = n at *
        generalize numB (cutA (tailS s)) = nb at *
        generalize numV (cutZ (tailS s)) = z at *
        generalize numB (cutZ (tailS s)) = zb at *
        generalize cutA (tailS s) = a at *
        generalize cutZ (tailS s) = b at *
        obtain ⟨n0, n1⟩ := hwb
        obtain ⟨z0, z1⟩ := hbZ
        go_enter Tryd.func11, Tryd.ntmps11
        go_wp2_with fail
        refine HC.out.mono ?_
        rintro e w' ⟨fl, q, rfl, rfl⟩
        go_wp2_with fail
        refine (HA.out _ (errs_drewN HE.out q)).mono ?_
        rintro e w1 ⟨rfl, hb1⟩
        have HB1 := Lib.hid (below_two (below_drewN (Below.refl w.heap.size w) q) hb1 (Nat.le_refl _))
        clear hb1
        go_wp2_with fail
        refine (HZ.out _ (HE.out.below HB1.out)).mono ?_
        rintro e w2 ⟨rfl, hb2⟩
        have HB2 := Lib.hid (below_two HB1.out hb2 (Nat.le_refl _))
        clear hb2
        go_wp2_with (go_at_call 50; refine (within_is hw _).mono ?_; rintro e w' ⟨rfl, rfl⟩)
        refine (HT.out _ (HE.out.below HB2.out).tab).mono ?_
        rintro e w3 ⟨rfl, hb3⟩
        have HB3 := Lib.hid (below_two HB2.out hb3 (Nat.le_refl _))
        clear hb3
        go_wp2
        go_ret2
        exact ⟨ret_pvb HV.out.1.symm HV.out.2.symm, HB3.out⟩
      · have HV := Lib.hid (ct_no (s := s) fun t ht => by
          have h5 := (ct_parts ht).2.2.2.2.2.2
          rw [hmg] at h5
          rw [h5] at hq
          exact hq ht.2)
        have hss : ((centsS (10 * numV (cutA (tailS s)) + numV (cutZ (tailS s)))).toList == s.toList) = false := str_ne hq
        have HT := Lib.hid (fun w1 h1 => cents_impl (10 * numV (cutA (tailS s)) + numV (cutZ (tailS s))) w1 h1)
        clear hmg hq
        generalize hcs : centsS (10 * numV (cutA (tailS s)) + numV (cutZ (tailS s))) = t at *
        clear hcs
        generalize numV (cutA (tailS s)) = n at *
        generalize numB (cutA (tailS s)) = nb at *
        generalize numV (cutZ (tailS s)) = z at *
        generalize numB (cutZ (tailS s)) = zb at *
        generalize cutA (tailS s) = a at *
        generalize cutZ (tailS s) = b at *
        obtain ⟨n0, n1⟩ := hwb
        obtain ⟨z0, z1⟩ := hbZ
        go_enter Tryd.func11, Tryd.ntmps11
        go_wp2_with fail
        refine HC.out.mono ?_
        rintro e w' ⟨fl, q, rfl, rfl⟩
        go_wp2_with fail
        refine (HA.out _ (errs_drewN HE.out q)).mono ?_
        rintro e w1 ⟨rfl, hb1⟩
        have HB1 := Lib.hid (below_two (below_drewN (Below.refl w.heap.size w) q) hb1 (Nat.le_refl _))
        clear hb1
        go_wp2_with fail
        refine (HZ.out _ (HE.out.below HB1.out)).mono ?_
        rintro e w2 ⟨rfl, hb2⟩
        have HB2 := Lib.hid (below_two HB1.out hb2 (Nat.le_refl _))
        clear hb2
        go_wp2_with (go_at_call 50; refine (within_is hw _).mono ?_; rintro e w' ⟨rfl, rfl⟩)
        refine (HT.out _ (HE.out.below HB2.out).tab).mono ?_
        rintro e w3 ⟨rfl, hb3⟩
        have HB3 := Lib.hid (below_two HB2.out hb3 (Nat.le_refl _))
        clear hb3
        go_wp2
        go_ret2
        exact ⟨ret_pvb HV.out.1.symm HV.out.2.symm, HB3.out⟩
end Go.Proofs.YtkbfmjnekeipcaaDoor
