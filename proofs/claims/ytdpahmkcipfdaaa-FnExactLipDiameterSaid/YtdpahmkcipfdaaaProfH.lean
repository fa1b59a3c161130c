/- Contracts: whether a profile is valid; its height and its lip; in the program and in the reference. -/
import Derived.Test.YtdpahmkcipfdaaaProfW
namespace Go.Proofs.Ytdpahmkcipfdaaa
open Go.ChangeShapes Go.WideShapes Go.ChangeAt Go.RowKit
set_option maxRecDepth 100000

theorem validP_spec (s : ByteArray) (A : Option Addr) (n c : Nat) (rs : List R3) (w : World) (h : RingsAt w A n rs) (hn : n ≤ 1048576) (hs : s.size ≤ maxLen) :
    Calls Try.prog 43 #[.agg #[.string s, .slice A n c]] w fun e w' => e = .returned (.bool (profB s rs)) ∧ Below w.heap.size w w' := by
  have H := Lib.hid (h.alloc (.cells #[.string s, .slice A n c] 51))
  go_enter Try.func43, Try.ntmps43
  go_wp2_with fail
  refine (l05Ok_any s A n c rs _ _ H.out hn hs (by go_simp) (by go_simp)).mono ?_
  rintro e w' ⟨rfl, q, rfl⟩
  go_wp2
  go_ret
  exact ⟨rfl, below_drewN (pbox_below _ _ _ _ _ _) q⟩
noncomputable def hoV (s : ByteArray) (rs : List R3) : Int := if profB s rs = true then heightU rs rs.length else 0
noncomputable def hoC (s : ByteArray) (rs : List R3) : Int := if profB s rs = true then 0 else 1
noncomputable def lipV (s : ByteArray) (rs : List R3) : Int := if profB s rs = true then 2 * (rs.getD 0 (0, 0, 0)).1 else 0
theorem heightOf_impl (s : ByteArray) (A : Option Addr) (n c : Nat) (rs : List R3) (w : World) (h : RingsAt w A n rs) (hn : n ≤ 1048576) (hs : s.size ≤ maxLen) :
    Calls Try.prog 46 #[.agg #[.string s, .slice A n c]] w fun e w' => e = .returned (.tuple #[.int .i64 (hoV s rs), .int .i64 (hoC s rs)]) ∧ Below w.heap.size w w' := by
  have h0 := h.alloc (.cells #[.string s, .slice A n c] 51)
  have HV := Lib.hid (fun w1 (hh : RingsAt w1 A n rs) => validP_impl s A n c rs w1 hh hn hs)
  cases hP : profB s rs
  · have H : Hid (hoV s rs = 0 ∧ hoC s rs = 1) := by show _ ∧ _; simp [hoV, hoC, hP]
    rw [hP] at HV
    clear hP
    go_enter Try.func46, Try.ntmps46
    go_wp2_with fail
    refine (HV.out _ h0).mono ?_
    rintro e w1 ⟨rfl, hb1⟩
    go_wp2
    go_ret2
    exact ⟨ret_two H.out.1.symm H.out.2.symm, pbox_two hb1⟩
  · have hp := profB_iff hP
    have hl := h.1
    have H : Hid (hoV s rs = heightU rs rs.length ∧ hoC s rs = 0) := by show _ ∧ _; simp [hoV, hoC, hP]
    have HH := Lib.hid (fun w1 (hh : RingsAt w1 A n rs) => height_any s A n c rs w1 hh (by have := hp.2.2.1; omega) hp.2.2.2.1)
    rw [hP] at HV
    clear hP hp hl
    go_enter Try.func46, Try.ntmps46
    go_wp2_with fail
    refine (HV.out _ h0).mono ?_
    rintro e w1 ⟨rfl, hb1⟩
    obtain ⟨p0, p1⟩ := cells2 (g := w.heap.size) (a := .string s) (b := .slice A n c) hb1 (by simp) (by go_simp) (by go_simp)
    go_wp2_with fail
    refine (HH.out _ (h0.below hb1)).mono ?_
    rintro e w2 ⟨rfl, hb2⟩
    go_wp2
    go_ret2
    exact ⟨ret_two H.out.1.symm H.out.2.symm, pbox_two (below_two hb1 hb2 (Nat.le_refl _))⟩
theorem heightOf_spec (s : ByteArray) (A : Option Addr) (n c : Nat) (rs : List R3) (w : World) (h : RingsAt w A n rs) (hn : n ≤ 1048576) (hs : s.size ≤ maxLen) :
    Calls Try.prog 45 #[.agg #[.string s, .slice A n c]] w fun e w' => e = .returned (.tuple #[.int .i64 (hoV s rs), .int .i64 (hoC s rs)]) ∧ Below w.heap.size w w' := by
  have h0 := Lib.hid (h.alloc (.cells #[.string s, .slice A n c] 51))
  have HV := Lib.hid (fun w1 (hh : RingsAt w1 A n rs) => l05Ok_any s A n c rs w.heap.size w1 hh hn hs)
  cases hP : profB s rs
  · have H : Hid (hoV s rs = 0 ∧ hoC s rs = 1) := by show _ ∧ _; simp [hoV, hoC, hP]
    rw [hP] at HV
    clear hP
    go_enter Try.func45, Try.ntmps45
    go_wp2_with fail
    refine (HV.out _ h0.out (by go_simp) (by go_simp)).mono ?_
    rintro e w' ⟨rfl, q, rfl⟩
    go_wp2
    go_ret2
    exact ⟨ret_two H.out.1.symm H.out.2.symm, below_drewN (pbox_below _ _ _ _ _ _) q⟩
  · have hp := profB_iff hP
    have hl := h.1
    have H : Hid (hoV s rs = heightU rs n ∧ hoC s rs = 0) := by show _ ∧ _; rw [← hl]; simp [hoV, hoC, hP]
    have HH := Lib.hid (fun w1 (hh : RingsAt w1 A n rs) => l05Height_any A n c rs w.heap.size w1 hh (by have := hp.2.2.1; omega) hp.2.2.2.1)
    rw [hP] at HV
    clear hP hp hl
    go_enter Try.func45, Try.ntmps45
    go_wp2_with fail
    refine (HV.out _ h0.out (by go_simp) (by go_simp)).mono ?_
    rintro e w' ⟨rfl, q, rfl⟩
    go_wp2_with fail
    refine (HH.out ((w.alloc (.cells #[.string s, .slice A n c] 51)).drewN q) h0.out (by go_simp)).mono ?_
    rintro e w' ⟨rfl, rfl⟩
    go_wp2
    go_ret2
    exact ⟨ret_two H.out.1.symm H.out.2.symm, below_drewN (pbox_below _ _ _ _ _ _) q⟩
theorem lip_any (s : ByteArray) (A : Option Addr) (n c : Nat) (rs : List R3) (w : World) (h : RingsAt w A n rs) (h1 : 1 ≤ n) (hR : allR rs = true) :
    Calls Try.prog 84 #[.agg #[.string s, .slice A n c]] w fun e w' => e = .returned (.int .i64 (2 * (rs.getD 0 (0, 0, 0)).1)) ∧ Below w.heap.size w w' := by
  obtain ⟨b, off, x, y, z, rfl, hb, hr, c0, c1, c2⟩ := (h.alloc (.cells #[.string s, .slice A n c] 51)).at_ (show 0 < n by omega)
  have rb := ringB_bd (allR_ring hR hr)
  have H : Hid (2 * x = 2 * (rs.getD 0 (0, 0, 0)).1) := by show _ = _; rw [List.getD_eq_getElem?_getD, hr]; rfl
  rw [Nat.zero_mul, Nat.add_zero] at c0
  have hnI : (0 : Int) < (n : Int) := by omega
  clear hr h c1 c2
  go_enter Try.func84, Try.ntmps84
  go_wp2
  go_ret
  exact ⟨ret_int H.out, pbox_below _ _ _ _ _ _⟩
theorem lipD_impl (s : ByteArray) (A : Option Addr) (n c : Nat) (rs : List R3) (w : World) (h : RingsAt w A n rs) (hn : n ≤ 1048576) (hs : s.size ≤ maxLen) :
    Calls Try.prog 48 #[.agg #[.string s, .slice A n c]] w fun e w' => e = .returned (.tuple #[.int .i64 (lipV s rs), .int .i64 (hoC s rs)]) ∧ Below w.heap.size w w' := by
  have h0 := h.alloc (.cells #[.string s, .slice A n c] 51)
  have HV := Lib.hid (fun w1 (hh : RingsAt w1 A n rs) => validP_impl s A n c rs w1 hh hn hs)
  cases hP : profB s rs
  · have H : Hid (lipV s rs = 0 ∧ hoC s rs = 1) := by show _ ∧ _; simp [lipV, hoC, hP]
    rw [hP] at HV
    clear hP
    go_enter Try.func48, Try.ntmps48
    go_wp2_with fail
    refine (HV.out _ h0).mono ?_
    rintro e w1 ⟨rfl, hb1⟩
    go_wp2
    go_ret2
    exact ⟨ret_two H.out.1.symm H.out.2.symm, pbox_two hb1⟩
  · have hp := profB_iff hP
    have hl := h.1
    have H : Hid (lipV s rs = 2 * (rs.getD 0 (0, 0, 0)).1 ∧ hoC s rs = 0) := by show _ ∧ _; unfold lipV hoC; rw [if_pos hP, if_pos hP]; exact ⟨rfl, rfl⟩
    have HH := Lib.hid (fun w1 (hh : RingsAt w1 A n rs) => lip_any s A n c rs w1 hh (by have := hp.2.1; omega) hp.2.2.2.1)
    rw [hP] at HV
    clear hP hp hl
    go_enter Try.func48, Try.ntmps48
    go_wp2_with fail
    refine (HV.out _ h0).mono ?_
    rintro e w1 ⟨rfl, hb1⟩
    obtain ⟨p0, p1⟩ := cells2 (g := w.heap.size) (a := .string s) (b := .slice A n c) hb1 (by simp) (by go_simp) (by go_simp)
    go_wp2_with fail
    refine (HH.out _ (h0.below hb1)).mono ?_
    rintro e w2 ⟨rfl, hb2⟩
    go_wp2
    go_ret2
    exact ⟨ret_two H.out.1.symm H.out.2.symm, pbox_two (below_two hb1 hb2 (Nat.le_refl _))⟩
theorem lipD_spec (s : ByteArray) (A : Option Addr) (n c : Nat) (rs : List R3) (w : World) (h : RingsAt w A n rs) (hn : n ≤ 1048576) (hs : s.size ≤ maxLen) :
    Calls Try.prog 47 #[.agg #[.string s, .slice A n c]] w fun e w' => e = .returned (.tuple #[.int .i64 (lipV s rs), .int .i64 (hoC s rs)]) ∧ Below w.heap.size w w' := by
  have h0 := Lib.hid (h.alloc (.cells #[.string s, .slice A n c] 51))
  have HV := Lib.hid (fun w1 (hh : RingsAt w1 A n rs) => l05Ok_any s A n c rs w.heap.size w1 hh hn hs)
  cases hP : profB s rs
  · have H : Hid (lipV s rs = 0 ∧ hoC s rs = 1) := by show _ ∧ _; simp [lipV, hoC, hP]
    rw [hP] at HV
    clear hP
    go_enter Try.func47, Try.ntmps47
    go_wp2_with fail
    refine (HV.out _ h0.out (by go_simp) (by go_simp)).mono ?_
    rintro e w' ⟨rfl, q, rfl⟩
    go_wp2
    go_ret2
    exact ⟨ret_two H.out.1.symm H.out.2.symm, below_drewN (pbox_below _ _ _ _ _ _) q⟩
  · have hp := profB_iff hP
    have hl := h.1
    obtain ⟨b, off, x, y, z, rfl, hb, hr, c0, c1, c2⟩ := h0.out.at_ (show 0 < n by have := hp.2.1; omega)
    have rb := ringB_bd (allR_ring hp.2.2.2.1 hr)
    have H : Hid (lipV s rs = 2 * x ∧ hoC s rs = 0) := by show _ ∧ _; unfold lipV hoC; rw [if_pos hP, if_pos hP, List.getD_eq_getElem?_getD, hr]; exact ⟨rfl, rfl⟩
    rw [Nat.zero_mul, Nat.add_zero] at c0
    have hnI : (0 : Int) < (n : Int) := by have := hp.2.1; omega
    rw [hP] at HV
    clear hP hp hl hr h c1 c2
    go_enter Try.func47, Try.ntmps47
    go_wp2_with fail
    refine (HV.out _ h0.out (by go_simp) (by go_simp)).mono ?_
    rintro e w' ⟨rfl, q, rfl⟩
    go_wp2
    go_ret2
    exact ⟨ret_two H.out.1.symm H.out.2.symm, below_drewN (pbox_below _ _ _ _ _ _) q⟩
end Go.Proofs.Ytdpahmkcipfdaaa
