/- Contracts of the frequency with a text. -/
import Derived.Test.YtkbfmjnekeipcaaGreatDoorPointS
namespace Go.Proofs.YtkbfmjnekeipcaaGreatDoor
open Go.ChangeShapes Go.WideShapes Go.ChangeAt Go.RowKit
set_option maxRecDepth 100000

theorem cut_sizes (s : ByteArray) : (cutA s).size ≤ s.size ∧ (cutZ s).size ≤ s.size := by
  rcases Lib.indexB_cases s ⟨#[46]⟩ with h | ⟨i, h, hi⟩
  · obtain ⟨h1, h2, _⟩ := Lib.cutB_miss s ⟨#[46]⟩ h
    have e1 : cutA s = s := h1
    have e2 : cutZ s = ByteArray.empty := h2
    rw [e1, e2]
    exact ⟨Nat.le_refl _, Nat.zero_le _⟩
  · obtain ⟨h1, h2, _⟩ := Lib.cutB_hit s ⟨#[46]⟩ i h
    have e1 : cutA s = s.extract 0 i := h1
    have e2 : cutZ s = s.extract (i + 1) s.size := h2
    rw [e1, e2]
    constructor
    · have : (ofB (s.extract 0 i)).length ≤ (ofB s).length := by rw [ext_ofB, List.length_take, List.length_drop]; omega
      exact this
    · have : (ofB (s.extract (i + 1) s.size)).length ≤ (ofB s).length := by rw [ext_ofB, List.length_take, List.length_drop]; omega
      exact this
theorem cut_call (s : ByteArray) (w : World) (hm : ∃ m, w.cell? ⟨0, 0, none⟩ = some (.int .i64 m)) (hs : s.size ≤ 1048576) :
    Calls Tryz.prog 31 #[.string s, .string ⟨#[46]⟩] w fun e w' => ∃ (f : Bool) (q : Nat), e = .returned (.tuple #[.string (cutA s), .string (cutZ s), .bool f]) ∧ w' = w.drewN q := by
  obtain ⟨m, hm⟩ := hm
  refine (Tryz.strings_Cut s ⟨#[46]⟩ m w (by omega) hm).mono ?_
  rintro e w' ⟨rfl, q, rfl⟩
  exact ⟨_, q, rfl, rfl⟩
def MaxLenIn (w : World) : Prop := ∃ m, w.cell? ⟨0, 0, none⟩ = some (.int .i64 m)
theorem MaxLenIn.below {w w' : World} (h : MaxLenIn w) (hb : Below w.heap.size w w') : MaxLenIn w' := by
  obtain ⟨m, hm⟩ := h
  refine ⟨m, ?_⟩
  have hlt : 0 < w.heap.size := by
    rcases Nat.lt_or_ge 0 w.heap.size with h' | h'
    · exact h'
    · unfold World.cell? at hm
      simp only at hm
      rw [Array.getElem?_eq_none h'] at hm
      cases hm
  exact (hb.cell (p := ⟨0, 0, none⟩) hlt).trans hm
theorem hz_neither {s : ByteArray} (h : numB (cutA s ++ cutZ s) = false) : hzV s = 0 ∧ hzB s = false :=
  hz_no fun f hf => by have := (hz_parts hf).2.2.1; rw [h] at this; cases this
theorem hz_other {s : ByteArray} (h : hertzS (numV (cutA s ++ cutZ s)) ≠ s) : hzV s = 0 ∧ hzB s = false :=
  hz_no fun f hf => by
    have h1 := (hz_parts hf).2.2.2
    rw [h1] at h
    apply h
    unfold hertzS
    rw [hf.1, if_pos rfl]
    exact hf.2
theorem hz_same {s : ByteArray} (hn : numB (cutA s ++ cutZ s) = true) (h : hertzS (numV (cutA s ++ cutZ s)) = s) : hzV s = numV (cutA s ++ cutZ s) ∧ hzB s = true := by
  have := hz_yes (hz_impl hn h)
  exact ⟨this.2, this.1⟩
theorem hz_of_spec {s : ByteArray} (h : pointB s 3 = true) (hf : inB (pointV s 3) 10000 20000000 = true) : hzV s = pointV s 3 ∧ hzB s = true := by
  have := hz_yes (hz_spec h hf)
  exact ⟨this.2, this.1⟩
theorem hz_spec_no {s : ByteArray} (h : pointB s 3 = false ∨ inB (pointV s 3) 10000 20000000 = false) : hzV s = 0 ∧ hzB s = false :=
  hz_no fun f hf => by
    obtain ⟨ok, hv, _, _⟩ := hz_parts hf
    rcases h with h | h
    · rw [(point_yes ok).1] at h; cases h
    · rw [hv, hf.1] at h; cases h
theorem errs_drewN {w : World} (h : Errs w) (q : Nat) : Errs (w.drewN q) := h.below (below_drewN (Below.refl _ _) q)
set_option maxHeartbeats 1000000 in
theorem rdHz_impl (s : ByteArray) (w : World) (hs : s.size ≤ 1048576) (he : Errs w) (hm : MaxLenIn w) : Calls Tryz.prog 51 #[.string s] w fun e w' => e = .returned (.tuple #[.int .i64 (hzV s), .bool (hzB s)]) ∧ Below w.heap.size w w' := by
  obtain ⟨z1, z2⟩ := cut_sizes s
  have HC := Lib.hid (cut_call s w hm hs)
  have HE := Lib.hid he
  have HR := Lib.hid (fun w1 h1 => read_impl (cutA s ++ cutZ s) w1 h1)
  have HZ := Lib.hid (fun w1 h1 => hertz_impl (numV (cutA s ++ cutZ s)) w1 h1)
  clear hm he
  cases hn : numB (cutA s ++ cutZ s) with
  | false =>
    have HV := Lib.hid (hz_neither hn)
    rw [hn] at HR
    clear hn HZ
    generalize numV (cutA s ++ cutZ s) = f at *
    generalize cutA s = a at *
    generalize cutZ s = b at *
    go_enter Tryz.func51, Tryz.ntmps51
    go_wp2_with fail
    refine HC.out.mono ?_
    rintro e w' ⟨fl, q, rfl, rfl⟩
    go_wp2_with fail
    refine (HR.out _ (errs_drewN HE.out q)).mono ?_
    rintro e w1 ⟨rfl, hb1⟩
    have HB1 := Lib.hid (below_two (below_drewN (Below.refl w.heap.size w) q) hb1 (Nat.le_refl _))
    clear hb1
    go_wp2
    go_ret2
    exact ⟨ret_pvb HV.out.1.symm HV.out.2.symm, HB1.out⟩
  | true =>
    by_cases hq : hertzS (numV (cutA s ++ cutZ s)) = s
    · have HV := Lib.hid (hz_same hn hq)
      have hss : ((hertzS (numV (cutA s ++ cutZ s))).toList == s.toList) = true := by rw [hq]; simp
      rw [hn] at HR
      clear hn hq
      generalize hertzS (numV (cutA s ++ cutZ s)) = t at *
      generalize numV (cutA s ++ cutZ s) = f at *
      generalize cutA s = a at *
      generalize cutZ s = b at *
      go_enter Tryz.func51, Tryz.ntmps51
      go_wp2_with fail
      refine HC.out.mono ?_
      rintro e w' ⟨fl, q, rfl, rfl⟩
      go_wp2_with fail
      refine (HR.out _ (errs_drewN HE.out q)).mono ?_
      rintro e w1 ⟨rfl, hb1⟩
      have HB1 := Lib.hid (below_two (below_drewN (Below.refl w.heap.size w) q) hb1 (Nat.le_refl _))
      clear hb1
      go_wp2_with fail
      refine (HZ.out _ (HE.out.below HB1.out).tab).mono ?_
      rintro e w2 ⟨rfl, hb2⟩
      have HB2 := Lib.hid (below_two HB1.out hb2 (Nat.le_refl _))
      clear hb2
      go_wp2
      go_ret2
      exact ⟨ret_pvb HV.out.1.symm HV.out.2.symm, HB2.out⟩
    · have HV := Lib.hid (hz_other hq)
      have hss : ((hertzS (numV (cutA s ++ cutZ s))).toList == s.toList) = false := str_ne hq
      rw [hn] at HR
      clear hn hq
      generalize hertzS (numV (cutA s ++ cutZ s)) = t at *
      generalize numV (cutA s ++ cutZ s) = f at *
      generalize cutA s = a at *
      generalize cutZ s = b at *
      go_enter Tryz.func51, Tryz.ntmps51
      go_wp2_with fail
      refine HC.out.mono ?_
      rintro e w' ⟨fl, q, rfl, rfl⟩
      go_wp2_with fail
      refine (HR.out _ (errs_drewN HE.out q)).mono ?_
      rintro e w1 ⟨rfl, hb1⟩
      have HB1 := Lib.hid (below_two (below_drewN (Below.refl w.heap.size w) q) hb1 (Nat.le_refl _))
      clear hb1
      go_wp2_with fail
      refine (HZ.out _ (HE.out.below HB1.out).tab).mono ?_
      rintro e w2 ⟨rfl, hb2⟩
      have HB2 := Lib.hid (below_two HB1.out hb2 (Nat.le_refl _))
      clear hb2
      go_wp2
      go_ret2
      exact ⟨ret_pvb HV.out.1.symm HV.out.2.symm, HB2.out⟩
end Go.Proofs.YtkbfmjnekeipcaaGreatDoor
