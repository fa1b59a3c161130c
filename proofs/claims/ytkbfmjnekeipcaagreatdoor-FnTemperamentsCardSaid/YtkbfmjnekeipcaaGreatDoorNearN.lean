/- Contracts of the nearest note, in the program and in the reference. -/
import Derived.Test.YtkbfmjnekeipcaaGreatDoorDevN
import Derived.Test.YtkbfmjnekeipcaaGreatDoorWorst
namespace Go.Proofs.YtkbfmjnekeipcaaGreatDoor
open Go.ChangeShapes Go.WideShapes Go.ChangeAt Go.RowKit
set_option maxRecDepth 100000

/-- The first of the first k notes of the least absolute deviation. -/
def bestU (d : Int → Int) : Nat → Nat
  | 0 => 0
  | k + 1 => if absI (d k) < absI (d (bestU d k)) then k else bestU d k
theorem bestU_le (d : Int → Int) : ∀ k, bestU d k ≤ k
  | 0 => Nat.le_refl _
  | k + 1 => by
    have := bestU_le d k
    unfold bestU
    split <;> omega
theorem bestU_lt (d : Int → Int) {n : Nat} : ∀ k, k ≤ n → 0 < n → bestU d k < n
  | 0, _, h => h
  | k + 1, hk, h => by
    have := bestU_lt d k (by omega) h
    unfold bestU
    split <;> omega
theorem bestU_first {d : Int → Int} {k : Nat} (h : k = 0) : (k : Int) = (bestU d (k + 1) : Nat) := by
  subst h
  unfold bestU
  unfold bestU
  split <;> rfl
theorem bestU_yes {d : Int → Int} {k : Nat} {m : Int} (hm : m = (bestU d k : Nat)) (h : absI (d k) < absI (d m)) : (k : Int) = (bestU d (k + 1) : Nat) := by
  subst hm
  rw [show bestU d (k + 1) = if absI (d k) < absI (d (bestU d k)) then k else bestU d k from rfl, if_pos h]
theorem bestU_no {d : Int → Int} {k : Nat} {m : Int} (hm : m = (bestU d k : Nat)) (h : ¬ absI (d k) < absI (d m)) : m = (bestU d (k + 1) : Nat) := by
  subst hm
  rw [show bestU d (k + 1) = if absI (d k) < absI (d (bestU d k)) then k else bestU d k from rfl, if_neg h]
def nnB (p f : Int) : Bool := inB p 10000 20000000 && inB f 10000 20000000
noncomputable def nnV (s : ByteArray) (zs : List Int) (p f : Int) : Int := if (tempB s zs && nnB p f) = true then (bestU (fun k => devV zs p k f) 128 : Nat) else 0
noncomputable def nnC (s : ByteArray) (zs : List Int) (p f : Int) : Int := if tempB s zs = true then (if nnB p f = true then 0 else 2) else 1
theorem nn_code {p f : Int} : (allF [p, f] && allN []) = nnB p f := by
  simp [allF, allN, nnB]
theorem small_abs {x : Int} (h : -1000000 ≤ x ∧ x ≤ 1000000) : 0 ≤ absI x ∧ absI x ≤ 1000000 := by
  rcases absI_cases x with ⟨_, e⟩ | ⟨_, e⟩ <;> omega

attribute [local go_sem ↓] Go.wp_at_zero Go.wp_at_succ
set_option maxHeartbeats 8000000 in
theorem nearN_ok (s : ByteArray) (A : Option Addr) (n c : Nat) (zs : List Int) (p f : Int) (w : World) (h : IntsAt w A n zs) (hn : n ≤ 1048576) (hs : s.size ≤ maxLen) (hT : tempB s zs = true) (hp : inB p 10000 20000000 = true) (hf : inB f 10000 20000000 = true) :
    Calls Tryz.prog 15 #[.agg #[.string s, .slice A n c], .int .i64 p, .int .i64 f] w fun e w' => e = .returned (.tuple #[.int .i64 (bestU (fun k => devV zs p k f) 128 : Nat), .int .i64 0]) ∧ Below w.heap.size w w' := by
  have h0 := h.alloc (.cells #[.string s, .slice A n c] 26)
  have HA : Hid ((if (allF [p, f] && allN []) = true then 0 else 2) = (0 : Int)) := by show _ = _; rw [nn_code]; simp [nnB, hp, hf]
  obtain ⟨_, h12, hbd⟩ := tempB_parts hT
  have DB := Lib.hid (fun note (hk : inB note 0 127 = true) => devV_bd hbd hp hf hk)
  have HD := Lib.hid (fun note w1 (h1 : IntsAt w1 A n zs) (hk : inB note 0 127 = true) => deviation_any s A n c zs p note f w1 h1 hT hp hf hk)
  have HT := Lib.hid hT
  clear hT hp hf hbd h12
  go_enter Tryz.func15, Tryz.ntmps15
  go_wp2_with fail
  refine (tempered_val s A _ _ n c _ _ _ _ zs [] [p, f] 0 _ (h0.alloc _) hn hs HT.out CellsAt.nil (IntsAt.new_at _ [p, f] 2 _ 2 (by simp) rfl) (by omega) (by omega) HA.out).mono ?_
  rintro e w1 ⟨rfl, hb1⟩
  have hb2 := ((Below.refl _ (w.alloc (.cells #[.string s, .slice A n c] 26))).alloc (Nat.le_refl _) _).trans (hb1.mono (by simp))
  have hsz : (w.alloc (.cells #[.string s, .slice A n c] 26)).heap.size = w.heap.size + 1 := by simp
  obtain ⟨W, hW⟩ : ∃ W, W = w.alloc (.cells #[.string s, .slice A n c] 26) := ⟨_, rfl⟩
  have q0 : W.cell? ⟨w.heap.size, 0, none⟩ = some (.string s) := by rw [hW]; go_simp
  have q1 : W.cell? ⟨w.heap.size, 1, none⟩ = some (.slice A n c) := by rw [hW]; go_simp
  have HWB : Hid (Below w.heap.size w W) := by show Below _ _ _; rw [hW]; exact tbox_below _ _ _ _ _ _
  rw [← hW] at hb2 h0 hsz
  clear hW hb1
  have HB2 := Lib.hid hb2
  clear hb2
  go_wp2
  go_loopw [9, 10, 19] (fun b _ i wr => ∃ (k : Nat) (m : Int), k ≤ 128 ∧ i = .int .i64 k ∧ b = .int .i64 m ∧ m = (bestU (fun k => devV zs p k f) k : Nat) ∧ Below W.heap.size W wr) (fun _ _ i _ => 128 - (intOf i).toNat)
  case atStart => exact ⟨0, 0, by omega, rfl, rfl, rfl, HB2.out⟩
  case round =>
    obtain ⟨k, m, hk, rfl, rfl, hm, hbr⟩ := hrel
    have HBR := Lib.hid hbr
    by_cases hlt : k < 128
    · have hmb := bestU_lt (fun k => devV zs p k f) (n := 128) k (by omega) (by omega)
      have m0 : 0 ≤ m := by omega
      have m1 : m < 128 := by omega
      obtain ⟨kk, hkk⟩ : ∃ kk : Int, kk = (k : Int) := ⟨_, rfl⟩
      have k0 : 0 ≤ kk := by omega
      have k1 : kk < 128 := by omega
      have HK : Hid (inB kk 0 127 = true) := by show _ = _; exact inB_iff.2 ⟨by omega, by omega⟩
      have HM : Hid (inB m 0 127 = true) := by show _ = _; exact inB_iff.2 ⟨by omega, by omega⟩
      have sk := DB.out kk HK.out
      have sm := DB.out m HM.out
      obtain ⟨p0, p1⟩ := cells2 (w := W) hbr (by omega) q0 q1
      have hI : IntsAt wr.drew A n zs := (show IntsAt wr A n zs from h0.below hbr)
      have hz : w.heap.size < wr.heap.size := by have := hbr.size; omega
      have HMM := Lib.hid hm
      have HKK := Lib.hid hkk
      rw [← hkk]
      clear hm hmb hbr hkk q0 q1
      by_cases hxy : absI (devV zs p kk f) < absI (devV zs p m f)
      · have hd : decide (absI (devV zs p kk f) < absI (devV zs p m f)) = true := by simp [hxy]
        have HXY := Lib.hid hxy
        clear hxy
        go_wp2
        go_region_held3 (fun w' => w'.cell? ⟨w.heap.size, 0, none⟩ = some (.string s) ∧ w'.cell? ⟨w.heap.size, 1, none⟩ = some (.slice A n c))
          (first
            | (exact ⟨(hbB.cell (p := ⟨w.heap.size, 0, none⟩) hzA).trans qA.1, (hbB.cell (p := ⟨w.heap.size, 1, none⟩) hzA).trans qA.2⟩)
            | (exact qA)
            | go_keep)
          (first
            | (go_at_call_of 37 kk; refine (HD.out kk _ hI HK.out).mono ?_; rintro x wA ⟨rfl, hbA⟩; have hzA : w.heap.size < wA.heap.size := Nat.lt_of_lt_of_le hz hbA.size; have qA := cells2 (w := wr.drew) hbA hz p0 p1)
            | (go_at_call 37; refine (HD.out m _ (hI.below hbA) HM.out).mono ?_; rintro x wB ⟨rfl, hbB⟩)
            | (go_at_call 38; refine (abs_any _ _ (by omega) (by omega)).mono ?_; rintro x w' ⟨rfl, rfl⟩))
        all_goals
          have HB4 := Lib.hid (below_two (below_two (HBR.out.drew) hbA (Nat.le_refl _)) hbB (Nat.le_refl _))
          clear qA hbA hbB p0 p1
          go_wp2
          go_roundw
          case rel =>
            have e1 := HKK.out
            refine ⟨k + 1, kk, by omega, by rw [e1]; go_num, rfl, ?_, HB4.out⟩
            have := HXY.out
            rw [e1] at this ⊢
            exact bestU_yes HMM.out this
          case measure => have e1 := HKK.out; simp [intOf]; omega
      · have hd : decide (absI (devV zs p kk f) < absI (devV zs p m f)) = false := by simp [hxy]
        have HXY := Lib.hid hxy
        clear hxy
        go_wp2
        go_region_held3 (fun w' => w'.cell? ⟨w.heap.size, 0, none⟩ = some (.string s) ∧ w'.cell? ⟨w.heap.size, 1, none⟩ = some (.slice A n c))
          (first
            | (exact ⟨(hbB.cell (p := ⟨w.heap.size, 0, none⟩) hzA).trans qA.1, (hbB.cell (p := ⟨w.heap.size, 1, none⟩) hzA).trans qA.2⟩)
            | (exact qA)
            | go_keep)
          (first
            | (go_at_call_of 37 kk; refine (HD.out kk _ hI HK.out).mono ?_; rintro x wA ⟨rfl, hbA⟩; have hzA : w.heap.size < wA.heap.size := Nat.lt_of_lt_of_le hz hbA.size; have qA := cells2 (w := wr.drew) hbA hz p0 p1)
            | (go_at_call 37; refine (HD.out m _ (hI.below hbA) HM.out).mono ?_; rintro x wB ⟨rfl, hbB⟩)
            | (go_at_call 38; refine (abs_any _ _ (by omega) (by omega)).mono ?_; rintro x w' ⟨rfl, rfl⟩))
        all_goals
          have HB4 := Lib.hid (below_two (below_two (HBR.out.drew) hbA (Nat.le_refl _)) hbB (Nat.le_refl _))
          clear qA hbA hbB p0 p1
          go_wp2
          go_roundw
          case rel =>
            have e1 := HKK.out
            refine ⟨k + 1, m, by omega, by rw [e1]; go_num, rfl, ?_, HB4.out⟩
            have := HXY.out
            rw [e1] at this
            exact bestU_no HMM.out (by omega)
          case measure => have e1 := HKK.out; simp [intOf]; omega
    · obtain rfl : k = 128 := by omega
      have HM : Hid (m = (bestU (fun k => devV zs p k f) 128 : Nat)) := hm
      clear hm hbr q0 q1
      go_wp2
      go_ret2
      exact ⟨ret_two HM.out rfl, HWB.out.trans (HBR.out.mono HWB.out.size)⟩
set_option maxHeartbeats 1000000 in
theorem nearN_impl (s : ByteArray) (A : Option Addr) (n c : Nat) (zs : List Int) (p f : Int) (w : World) (h : IntsAt w A n zs) (hn : n ≤ 1048576) (hs : s.size ≤ maxLen) :
    Calls Tryz.prog 15 #[.agg #[.string s, .slice A n c], .int .i64 p, .int .i64 f] w fun e w' => e = .returned (.tuple #[.int .i64 (nnV s zs p f), .int .i64 (nnC s zs p f)]) ∧ Below w.heap.size w w' := by
  have h0 := h.alloc (.cells #[.string s, .slice A n c] 26)
  cases hT : tempB s zs
  · have HV : Hid (nnV s zs p f = 0 ∧ nnC s zs p f = 1) := by show _ ∧ _; simp [nnV, nnC, hT]
    have HT := Lib.hid hT
    clear hT
    go_enter Tryz.func15, Tryz.ntmps15
    go_wp2_with fail
    refine (tempered_inv s A _ _ n c _ _ _ _ zs _ (h0.alloc _) hn hs HT.out).mono ?_
    rintro e w1 ⟨rfl, hb1⟩
    go_wp2
    go_ret2
    exact ⟨ret_two HV.out.1.symm HV.out.2.symm, tbox_two (((Below.refl _ _).alloc (Nat.le_refl _) _).trans (hb1.mono (by simp)))⟩
  · cases hab : nnB p f
    · have HV : Hid (nnV s zs p f = 0 ∧ nnC s zs p f = 2) := by show _ ∧ _; simp [nnV, nnC, hT, hab]
      have HT := Lib.hid hT
      have HA : Hid ((if (allF [p, f] && allN []) = true then 0 else 2) = (2 : Int)) := by show _ = _; rw [nn_code, hab]; simp
      clear hT hab
      go_enter Tryz.func15, Tryz.ntmps15
      go_wp2_with fail
      refine (tempered_val s A _ _ n c _ _ _ _ zs [] [p, f] 2 _ (h0.alloc _) hn hs HT.out CellsAt.nil (IntsAt.new_at _ [p, f] 2 _ 2 (by simp) rfl) (by omega) (by omega) HA.out).mono ?_
      rintro e w1 ⟨rfl, hb1⟩
      go_wp2
      go_ret2
      exact ⟨ret_two HV.out.1.symm HV.out.2.symm, tbox_two (((Below.refl _ _).alloc (Nat.le_refl _) _).trans (hb1.mono (by simp)))⟩
    · have HV : nnV s zs p f = (bestU (fun k => devV zs p k f) 128 : Nat) ∧ nnC s zs p f = 0 := by simp [nnV, nnC, hT, hab]
      simp only [nnB, Bool.and_eq_true] at hab
      rw [HV.1, HV.2]
      exact nearN_ok s A n c zs p f w h hn hs hT hab.1 hab.2
end Go.Proofs.YtkbfmjnekeipcaaGreatDoor
