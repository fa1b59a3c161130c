/- Contracts of the text of a frequency. -/
import Derived.Test.YtkbfmjnekeipcaaGreatDoorCents
import Derived.Test.YtkbfmjnekeipcaaGreatDoorFreq
namespace Go.Proofs.YtkbfmjnekeipcaaGreatDoor
open Go.ChangeShapes Go.WideShapes Go.ChangeAt Go.RowKit
set_option maxRecDepth 100000

def pad3 (r : Int) : ByteArray := ⟨(Lib.repeatL [48] (3 - (decS r).size)).toArray⟩ ++ decS r
def hertzT (f : Int) : ByteArray := decS (f.tdiv 1000) ++ ⟨#[46]⟩ ++ pad3 (f % 1000)
def hertzS (f : Int) : ByteArray := if inB f 10000 20000000 then hertzT f else ⟨#[]⟩
theorem dec1 {u : Nat} (h : u < 10) : Lib.decDigits u = [UInt8.ofNat (48 + u)] := by rw [Lib.decDigits, dif_pos h]
theorem decM {u : Nat} (h : ¬ u < 10) : Lib.decDigits u = Lib.decDigits (u / 10) ++ [UInt8.ofNat (48 + u % 10)] := by rw [Lib.decDigits, dif_neg h]
theorem dec4 {u : Nat} (h : u < 1000) : Lib.decDigits (u + 1000) = [49, UInt8.ofNat (48 + u / 100), UInt8.ofNat (48 + u / 10 % 10), UInt8.ofNat (48 + u % 10)] := by
  rw [decM (by omega), decM (by omega), decM (by omega), dec1 (by omega)]
  rw [show (u + 1000) / 10 / 10 / 10 = 1 by omega, show (u + 1000) / 10 / 10 % 10 = u / 100 by omega, show (u + 1000) / 10 % 10 = u / 10 % 10 by omega, show (u + 1000) % 10 = u % 10 by omega]
  rfl
theorem dec_three {u : Nat} (h : u < 1000) : Lib.repeatL [48] (3 - (Lib.decDigits u).length) ++ Lib.decDigits u = [UInt8.ofNat (48 + u / 100), UInt8.ofNat (48 + u / 10 % 10), UInt8.ofNat (48 + u % 10)] := by
  by_cases h1 : u < 10
  · rw [dec1 h1, show u / 100 = 0 by omega, show u / 10 % 10 = 0 by omega, show u % 10 = u by omega]
    rfl
  · by_cases h2 : u < 100
    · rw [decM h1, dec1 (by omega), show u / 100 = 0 by omega, show u / 10 % 10 = u / 10 by omega]
      rfl
    · rw [decM h1, decM (by omega), dec1 (by omega), show u / 10 / 10 = u / 100 by omega]
      rfl
theorem dec_len3 {u : Nat} (h : u < 1000) : (Lib.decDigits u).length = 1 ∨ (Lib.decDigits u).length = 2 ∨ (Lib.decDigits u).length = 3 := by
  by_cases h1 : u < 10
  · left; rw [dec1 h1]; rfl
  · by_cases h2 : u < 100
    · right; left; rw [decM h1, dec1 (by omega)]; rfl
    · right; right; rw [decM h1, decM (by omega), dec1 (by omega)]; rfl
theorem decS_nat {r : Int} (h : 0 ≤ r) : decS r = ⟨(Lib.decDigits r.toNat).toArray⟩ := by
  unfold decS Lib.itoa
  rw [if_neg (by omega)]
theorem decS_small {r : Int} (h0 : 0 ≤ r) (h1 : r ≤ 999) : (decS r).size = 1 ∨ (decS r).size = 2 ∨ (decS r).size = 3 := by
  rw [decS_nat h0]
  exact dec_len3 (u := r.toNat) (by omega)
theorem decS_four {r : Int} (h0 : 0 ≤ r) (h1 : r ≤ 999) : (decS (r + 1000)).size = 4 := by
  rw [decS_nat (by omega), show (r + 1000).toNat = r.toNat + 1000 by omega, dec4 (by omega)]
  rfl
theorem pad3_list {r : Int} (h0 : 0 ≤ r) (h1 : r ≤ 999) : pad3 r = ⟨#[UInt8.ofNat (48 + r.toNat / 100), UInt8.ofNat (48 + r.toNat / 10 % 10), UInt8.ofNat (48 + r.toNat % 10)]⟩ := by
  unfold pad3
  rw [decS_nat h0]
  have := dec_three (u := r.toNat) (by omega)
  apply ByteArray.ext
  rw [ByteArray.data_append]
  apply Array.toList_inj.1
  rw [Array.toList_append]
  exact this
theorem pad3_size {r : Int} (h0 : 0 ≤ r) (h1 : r ≤ 999) : (pad3 r).size = 3 := by rw [pad3_list h0 h1]; rfl
theorem parts1000 {f : Int} (h : inB f 10000 20000000 = true) : (Lit.int .i64 (f.tdiv 1000)).wf = true ∧ (Lit.int .i64 (f % 1000)).wf = true ∧ (Lit.int .i64 (f % 1000 + 1000)).wf = true ∧ (0 ≤ f.tdiv 1000 ∧ f.tdiv 1000 ≤ 20000) ∧ 0 ≤ f % 1000 ∧ f % 1000 ≤ 999 ∧ f.tmod 1000 = f % 1000 := by
  have hb := inB_iff.1 h
  have h2 : f.tdiv 1000 = f / 1000 := Int.tdiv_eq_ediv_of_nonneg (by omega)
  have h3 : f.tmod 1000 = f % 1000 := Int.tmod_eq_emod_of_nonneg (by omega)
  exact ⟨wf_of (by omega), wf_of (by omega), wf_of (by omega), by omega, by omega, by omega, h3⟩
theorem rep_at (c : Nat) (ci : Int) (hc : ci = (c : Int)) (h3 : c ≤ 3) (w : World) : Calls Tryz.prog 100 #[.string ⟨#[48]⟩, .int .i64 ci] w fun e w' => e = .returned (.string ⟨(Lib.repeatL [48] c).toArray⟩) ∧ Below w.heap.size w w' := by
  subst hc
  exact Tryz.strings_Repeat ⟨#[48]⟩ c w (by omega) (by show 1 * c ≤ _; omega)
theorem rep_size {c : Nat} (h : c ≤ 3) : (⟨(Lib.repeatL [48] c).toArray⟩ : ByteArray).size ≤ 3 := by
  show (Lib.repeatL [48] c).toArray.size ≤ 3
  have := Lib.repeatL_length [48] c
  simp at this ⊢
  omega
theorem rest_is {r : Int} (h0 : 0 ≤ r) (h1 : r ≤ 999) : (decS (r + 1000)).extract 1 4 = pad3 r := by
  rw [pad3_list h0 h1, decS_nat (by omega), show (r + 1000).toNat = r.toNat + 1000 by omega, dec4 (by omega)]
  rfl
theorem padded_is (r : Int) (h0 : 0 ≤ r) (h1 : r ≤ 999) (w : World) (ht : Tab w) : Calls Tryz.prog 82 #[.int .i64 r, .int .i64 3] w fun e w' => e = .returned (.string (pad3 r)) ∧ Below w.heap.size w w' := by
  have HT := Lib.hid ht
  clear ht
  have wr : (Lit.int .i64 r).wf = true := wf_of (by omega)
  have HP := Lib.hid (show pad3 r = ⟨(Lib.repeatL [48] (3 - (decS r).size)).toArray⟩ ++ decS r from rfl)
  rcases decS_small h0 h1 with hz | hz | hz
  · have HP := Lib.hid (show pad3 r = ⟨(Lib.repeatL [48] 2).toArray⟩ ++ decS r by unfold pad3; rw [hz])
    have hq := rep_size (c := 2) (by omega)
    go_enter Tryz.func82, Tryz.ntmps82
    go_wp2_with fail
    refine (decimal_impl _ wr _ HT.out).mono ?_
    rintro e w1 ⟨rfl, hb1⟩
    have HB1 := Lib.hid hb1
    clear hb1
    go_wp2_with fail
    refine (rep_at 2 _ (by omega) (by omega) _).mono ?_
    rintro e w2 ⟨rfl, hb2⟩
    have HB2 := Lib.hid hb2
    clear hb2
    generalize (⟨(Lib.repeatL [48] 2).toArray⟩ : ByteArray) = q at *
    go_wp2
    go_ret
    refine ⟨?_, below_two HB1.out HB2.out (Nat.le_refl _)⟩
    rw [HP.out]
    rfl
  · have HP := Lib.hid (show pad3 r = ⟨(Lib.repeatL [48] 1).toArray⟩ ++ decS r by unfold pad3; rw [hz])
    have hq := rep_size (c := 1) (by omega)
    go_enter Tryz.func82, Tryz.ntmps82
    go_wp2_with fail
    refine (decimal_impl _ wr _ HT.out).mono ?_
    rintro e w1 ⟨rfl, hb1⟩
    have HB1 := Lib.hid hb1
    clear hb1
    go_wp2_with fail
    refine (rep_at 1 _ (by omega) (by omega) _).mono ?_
    rintro e w2 ⟨rfl, hb2⟩
    have HB2 := Lib.hid hb2
    clear hb2
    generalize (⟨(Lib.repeatL [48] 1).toArray⟩ : ByteArray) = q at *
    go_wp2
    go_ret
    refine ⟨?_, below_two HB1.out HB2.out (Nat.le_refl _)⟩
    rw [HP.out]
    rfl
  · have HP := Lib.hid (show pad3 r = ⟨(Lib.repeatL [48] 0).toArray⟩ ++ decS r by unfold pad3; rw [hz])
    have hq := rep_size (c := 0) (by omega)
    go_enter Tryz.func82, Tryz.ntmps82
    go_wp2_with fail
    refine (decimal_impl _ wr _ HT.out).mono ?_
    rintro e w1 ⟨rfl, hb1⟩
    have HB1 := Lib.hid hb1
    clear hb1
    go_wp2_with fail
    refine (rep_at 0 _ (by omega) (by omega) _).mono ?_
    rintro e w2 ⟨rfl, hb2⟩
    have HB2 := Lib.hid hb2
    clear hb2
    generalize (⟨(Lib.repeatL [48] 0).toArray⟩ : ByteArray) = q at *
    go_wp2
    go_ret
    refine ⟨?_, below_two HB1.out HB2.out (Nat.le_refl _)⟩
    rw [HP.out]
    rfl
theorem hertz_impl (f : Int) (w : World) (ht : Tab w) : Calls Tryz.prog 53 #[.int .i64 f] w fun e w' => e = .returned (.string (hertzS f)) ∧ Below w.heap.size w w' := by
  have HT := Lib.hid ht
  clear ht
  cases h : inB f 10000 20000000 with
  | false =>
    have HC := Lib.hid (show (⟨#[]⟩ : ByteArray) = hertzS f by unfold hertzS; rw [h]; rfl)
    go_enter Tryz.func53, Tryz.ntmps53
    go_wp2_with (go_at_call 41; refine (isFreq_is h _).mono ?_; rintro e w' ⟨rfl, rfl⟩)
    go_ret
    refine ⟨?_, Below.refl _ _⟩
    rw [← HC.out]
    rfl
  | true =>
    obtain ⟨p1, p2, p3, b1, b2, b3, hm⟩ := parts1000 h
    have hb := inB_iff.1 h
    have hf0 : 0 ≤ f := by omega
    have z1 := decS_size (wf_lo p1)
    have z2 := pad3_size b2 b3
    have HC := Lib.hid (show decS (f.tdiv 1000) ++ ⟨#[46]⟩ ++ pad3 (f % 1000) = hertzS f by unfold hertzS; rw [h]; rfl)
    go_enter Tryz.func53, Tryz.ntmps53
    go_wp2_with (go_at_call 41; refine (isFreq_is h _).mono ?_; rintro e w' ⟨rfl, rfl⟩)
    refine (decimal_impl _ p1 _ HT.out).mono ?_
    rintro e w1 ⟨rfl, hb1⟩
    have HB1 := Lib.hid hb1
    clear hb1
    go_wp2_with fail
    refine (padded_is _ b2 b3 _ (HT.out.below HB1.out)).mono ?_
    rintro e w2 ⟨rfl, hb2⟩
    have HB2 := Lib.hid hb2
    clear hb2
    generalize pad3 (f % 1000) = q at *
    go_wp2
    go_ret
    refine ⟨?_, below_two HB1.out HB2.out (Nat.le_refl _)⟩
    rw [← HC.out]
    rfl
end Go.Proofs.YtkbfmjnekeipcaaGreatDoor
