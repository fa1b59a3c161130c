/- Contracts of the text of an interval: both sides. -/
import Derived.Test.YtkbfmjnekeipcaaDoorCents
namespace Go.Proofs.YtkbfmjnekeipcaaDoor
open Go.ChangeShapes Go.WideShapes Go.ChangeAt Go.RowKit
set_option maxRecDepth 100000

set_option maxHeartbeats 400000 in
theorem cents_impl (t : Int) (w : World) (ht : Tab w) : Calls Tryd.prog 44 #[.int .i64 t] w fun e w' => e = .returned (.string (centsS t)) ∧ Below w.heap.size w w' := by
  have HT := Lib.hid ht
  clear ht
  cases h : inB t (-120000) 120000 with
  | false =>
    have HC := Lib.hid (show (⟨#[]⟩ : ByteArray) = centsS t by unfold centsS; rw [h]; rfl)
    go_enter Tryd.func44, Tryd.ntmps44
    go_wp2_with (go_at_call 78; refine (isIntv h _).mono ?_; rintro e w' ⟨rfl, rfl⟩)
    go_ret
    refine ⟨?_, Below.refl _ _⟩
    rw [← HC.out]
    rfl
  | true =>
    have hb := inB_iff.1 h
    by_cases hn : t < 0
    · obtain ⟨u, rfl⟩ : ∃ u, t = -u := ⟨-t, by omega⟩
      have HC := Lib.hid (show centsT ⟨#[45]⟩ u = centsS (-u) by unfold centsS; rw [if_pos h, if_pos hn, Int.neg_neg])
      obtain ⟨p1, p2, b1, b2⟩ := parts10 (m := u) (by omega) (by omega)
      have hu0 : 0 < u := by omega
      have z1 := decS_size (wf_lo p1)
      have z2 := decS_size (wf_lo p2)
      have ha : absI (-u) = u := by unfold absI; omega
      go_enter Tryd.func44, Tryd.ntmps44
      go_wp2_with first
        | (go_at_call 78; refine (isIntv h _).mono ?_; rintro e w' ⟨rfl, rfl⟩)
        | (go_at_call 84; refine (abs_is ha (by omega) _).mono ?_; rintro e w' ⟨rfl, rfl⟩)
      refine (decimal_impl _ p1 _ HT.out).mono ?_
      rintro e w1 ⟨rfl, hb1⟩
      have HB1 := Lib.hid hb1
      clear hb1
      go_wp2_with fail
      refine (decimal_impl _ p2 _ (HT.out.below HB1.out)).mono ?_
      rintro e w2 ⟨rfl, hb2⟩
      have HB2 := Lib.hid hb2
      clear hb2
      go_wp2
      go_ret
      refine ⟨?_, below_two HB1.out HB2.out (Nat.le_refl _)⟩
      rw [← HC.out]
      unfold centsT
      rfl
    · have HC := Lib.hid (show centsT ⟨#[43]⟩ t = centsS t by unfold centsS; rw [if_pos h, if_neg hn])
      obtain ⟨p1, p2, b1, b2⟩ := parts10 (m := t) (by omega) (by omega)
      have z1 := decS_size (wf_lo p1)
      have z2 := decS_size (wf_lo p2)
      have ha : absI t = t := by unfold absI; omega
      go_enter Tryd.func44, Tryd.ntmps44
      go_wp2_with first
        | (go_at_call 78; refine (isIntv h _).mono ?_; rintro e w' ⟨rfl, rfl⟩)
        | (go_at_call 84; refine (abs_is ha (by omega) _).mono ?_; rintro e w' ⟨rfl, rfl⟩)
      refine (decimal_impl _ p1 _ HT.out).mono ?_
      rintro e w1 ⟨rfl, hb1⟩
      have HB1 := Lib.hid hb1
      clear hb1
      go_wp2_with fail
      refine (decimal_impl _ p2 _ (HT.out.below HB1.out)).mono ?_
      rintro e w2 ⟨rfl, hb2⟩
      have HB2 := Lib.hid hb2
      clear hb2
      go_wp2
      go_ret
      refine ⟨?_, below_two HB1.out HB2.out (Nat.le_refl _)⟩
      rw [← HC.out]
      unfold centsT
      rfl
end Go.Proofs.YtkbfmjnekeipcaaDoor
