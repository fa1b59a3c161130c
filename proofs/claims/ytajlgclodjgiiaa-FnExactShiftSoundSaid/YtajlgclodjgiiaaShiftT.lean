/- Contracts of the shifted sounds, in the reference. -/
import Derived.Test.YtajlgclodjgiiaaShiftS
import Derived.Test.YtajlgclodjgiiaaWorst
namespace Go.Proofs.Ytajlgclodjgiiaa
open Go.Joins Go.ChangeShapes Go.WideShapes Go.ChangeAt Go.RowKit

theorem ShiftS_spec_inv {a b c d e t : Int} (w : World) (h : sB a b c d e = false) : Calls Try.prog 39 #[.agg #[.int .i64 a, .int .i64 b, .int .i64 c, .int .i64 d, .int .i64 e], .int .i64 t] w fun x w' => x = .returned (.tuple #[.agg #[.int .i64 0, .int .i64 0, .int .i64 0, .int .i64 0, .int .i64 0], .int .i64 1]) ∧ Below w.heap.size w w' := by
  have H := Lib.hid h
  clear h
  go_enter Try.func39, Try.ntmps39
  go_wp2_with (go_at_call 52; refine (l04Ok_is H.out _ _ _ (by go_simp) (by go_simp) (by go_simp) (by go_simp) (by go_simp)).mono ?_; rintro x w1 ⟨rfl, hb1⟩; obtain ⟨hcc, hff⟩ := bcell hb1)
  refine bodyPost_ret (v := .tuple #[.agg #[.int .i64 0, .int .i64 0, .int .i64 0, .int .i64 0, .int .i64 0], .int .i64 1]) (by simp [results, Try.results39, go_sem, hcc]) rfl ⟨rfl, ?_⟩
  have hB := (sbox_below a b c d e w).trans (hb1.mono (sbox_below a b c d e w).size)
  have hz := hb1.size
  simp only [World.size_alloc] at hz
  repeat (first | exact hB | refine Below.setCell ?_ (by first | omega | (simp; omega) | simp) _)
theorem ShiftS_spec_rng {a b c d e t : Int} (w : World) (h : sB a b c d e = true) (ht : inB t (-120000) 120000 = false) : Calls Try.prog 39 #[.agg #[.int .i64 a, .int .i64 b, .int .i64 c, .int .i64 d, .int .i64 e], .int .i64 t] w fun x w' => x = .returned (.tuple #[.agg #[.int .i64 0, .int .i64 0, .int .i64 0, .int .i64 0, .int .i64 0], .int .i64 2]) ∧ Below w.heap.size w w' := by
  have H := Lib.hid h
  clear h
  go_enter Try.func39, Try.ntmps39
  go_wp2_with (first
    | (go_at_call 52; refine (l04Ok_is H.out _ _ _ (by go_simp) (by go_simp) (by go_simp) (by go_simp) (by go_simp)).mono ?_; rintro x w1 ⟨rfl, hb1⟩; obtain ⟨hcc, hff⟩ := bcell hb1)
    | (go_at_call 62; refine (l02Interval_is ht _).mono ?_; rintro x w' ⟨rfl, rfl⟩))
  refine bodyPost_ret (v := .tuple #[.agg #[.int .i64 0, .int .i64 0, .int .i64 0, .int .i64 0, .int .i64 0], .int .i64 2]) (by simp [results, Try.results39, go_sem, hcc]) rfl ⟨rfl, ?_⟩
  have hB := (sbox_below a b c d e w).trans (hb1.mono (sbox_below a b c d e w).size)
  have hz := hb1.size
  simp only [World.size_alloc] at hz
  repeat (first | exact hB | refine Below.setCell ?_ (by first | omega | (simp; omega) | simp) _)
set_option maxHeartbeats 1000000 in
theorem ShiftS_spec_out {a b c d e t : Int} (w : World) (h : sB a b c d e = true) (ht : inB t (-120000) 120000 = true) (hr : raisedB [a, b, c, d, e] [t, t, t, t, t] 5 = false) : Calls Try.prog 39 #[.agg #[.int .i64 a, .int .i64 b, .int .i64 c, .int .i64 d, .int .i64 e], .int .i64 t] w fun x w' => x = .returned (.tuple #[.agg #[.int .i64 0, .int .i64 0, .int .i64 0, .int .i64 0, .int .i64 0], .int .i64 2]) ∧ Below w.heap.size w w' := by
  have H := Lib.hid h
  have HR := Lib.hid hr
  have H5 := Lib.hid (sound5 h)
  have T5 := Lib.hid (shift5 ht)
  clear h hr
  go_enter Try.func39, Try.ntmps39
  go_wp2_with fail
  refine (l04Ok_is H.out _ _ _ (by go_simp) (by go_simp) (by go_simp) (by go_simp) (by go_simp)).mono ?_
  rintro x w1 ⟨rfl, hb1⟩
  obtain ⟨hcc, hff⟩ := bcell hb1
  go_wp2_with fail
  refine (l02Interval_is ht _).mono ?_
  rintro x w' ⟨rfl, rfl⟩
  go_wp2_with fail
  refine (l04List_any a b c d e _ _ _ (by go_simp) (by go_simp) (by go_simp) (by go_simp) (by go_simp)).mono ?_
  rintro x w2 ⟨g2, c2, rfl, hg2, ho2, hb2⟩
  have hA := (IntsAt.of_own ho2).below (((Below.refl _ _).alloc (Nat.le_refl _) (.cells #[.int .i64 t, .int .i64 t, .int .i64 t, .int .i64 t, .int .i64 t] 2)))
  have hB : IntsAt (w2.alloc (.cells #[.int .i64 t, .int .i64 t, .int .i64 t, .int .i64 t, .int .i64 t] 2)) _ 5 [t, t, t, t, t] := IntsAt.new w2 [t, t, t, t, t] 2
  go_wp2_with fail
  refine (l04Raised_any _ _ _ _ _ _ _ hA hB H5.out T5.out).mono ?_
  intro x w4 hx
  rcases hx with ⟨hn, _⟩ | ⟨_, rfl, hb4⟩
  · have := HR.out; rw [hn] at this; cases this
  have hbb := below_two (((below_two hb1 hb2 (Nat.le_refl _))).alloc (Nat.le_trans hb1.size hb2.size) _) hb4 (Nat.le_refl _)
  clear hcc hff hA hB hb1 hb2 hb4 ho2 hg2
  obtain ⟨hcc, hff⟩ := bcell hbb
  have hz3 := hbb.size
  simp only [World.size_alloc] at hz3
  have hz0 : w.heap.size < w4.heap.size := by omega
  have hz1 : w.heap.size + 1 < w4.heap.size := by omega
  have hB3 := Lib.hid ((sbox_below a b c d e w).trans (hbb.mono (sbox_below a b c d e w).size))
  clear hbb
  go_wp2
  refine bodyPost_ret (v := .tuple #[.agg #[.int .i64 0, .int .i64 0, .int .i64 0, .int .i64 0, .int .i64 0], .int .i64 2]) (by simp [results, Try.results39, go_sem, hcc, hz1]) rfl ⟨rfl, ?_⟩
  repeat (first | exact hB3.out | refine Below.setCell ?_ (by first | omega | (simp; omega) | simp) _ | refine Below.alloc ?_ (by first | omega | (simp; omega) | simp) _)
set_option maxHeartbeats 1000000 in
theorem ShiftS_spec_state {a b c d e t : Int} {fs ts : List Int} (w : World) (h : sB a b c d e = true) (ht : inB t (-120000) 120000 = true) (hfs : [a, b, c, d, e] = fs) (hts : [t, t, t, t, t] = ts) (hr : raisedB fs ts 5 = true) (hn : sB (rG fs ts 0) (rG fs ts 1) (rG fs ts 2) (rG fs ts 3) (rG fs ts 4) = false) :
    Calls Try.prog 39 #[.agg #[.int .i64 a, .int .i64 b, .int .i64 c, .int .i64 d, .int .i64 e], .int .i64 t] w fun x w' => x = .returned (.tuple #[.agg #[.int .i64 0, .int .i64 0, .int .i64 0, .int .i64 0, .int .i64 0], .int .i64 6]) ∧ Below w.heap.size w w' := by
  have H := Lib.hid h
  have HR := Lib.hid hr
  have HF := Lib.hid hfs
  have HT := Lib.hid hts
  have HN := Lib.hid hn
  have h5 := sound5 h
  have t5 := shift5 ht
  rw [hfs] at h5
  rw [hts] at t5
  have H5 := Lib.hid h5
  have T5 := Lib.hid t5
  clear h hr hfs hts hn h5 t5
  go_enter Try.func39, Try.ntmps39
  go_wp2_with fail
  refine (l04Ok_is H.out _ _ _ (by go_simp) (by go_simp) (by go_simp) (by go_simp) (by go_simp)).mono ?_
  rintro x w1 ⟨rfl, hb1⟩
  obtain ⟨hcc, hff⟩ := bcell hb1
  go_wp2_with fail
  refine (l02Interval_is ht _).mono ?_
  rintro x w' ⟨rfl, rfl⟩
  go_wp2_with fail
  refine (l04List_any a b c d e _ _ _ (by go_simp) (by go_simp) (by go_simp) (by go_simp) (by go_simp)).mono ?_
  rintro x w2 ⟨g2, c2, rfl, hg2, ho2, hb2⟩
  have hA := (IntsAt.of_own ho2).below (((Below.refl _ _).alloc (Nat.le_refl _) (.cells #[.int .i64 t, .int .i64 t, .int .i64 t, .int .i64 t, .int .i64 t] 2)))
  have hB : IntsAt (w2.alloc (.cells #[.int .i64 t, .int .i64 t, .int .i64 t, .int .i64 t, .int .i64 t] 2)) _ 5 [t, t, t, t, t] := IntsAt.new w2 [t, t, t, t, t] 2
  rw [HF.out] at hA
  rw [HT.out] at hB
  go_wp2_with fail
  refine (l04Raised_any _ _ _ _ _ _ _ hA hB H5.out T5.out).mono ?_
  intro x w4 hx
  rcases hx with ⟨_, rfl, hb4⟩ | ⟨hn, _⟩
  case' inr => have := HR.out; rw [hn] at this; cases this
  have hbb := below_two (((below_two hb1 hb2 (Nat.le_refl _))).alloc (Nat.le_trans hb1.size hb2.size) _) hb4 (Nat.le_refl _)
  clear hcc hff hA hB hb1 hb2 hb4 ho2 hg2
  obtain ⟨hcc, hff⟩ := bcell hbb
  have hz3 := hbb.size
  simp only [World.size_alloc] at hz3
  have hz0 : w.heap.size < w4.heap.size := by omega
  have hz1 : w.heap.size + 1 < w4.heap.size := by omega
  have hB3 := Lib.hid ((sbox_below a b c d e w).trans (hbb.mono (sbox_below a b c d e w).size))
  clear hbb
  go_wp2_with fail
  refine (l04Ok_is HN.out _ _ _ (by go_simp) (by go_simp) (by go_simp) (by go_simp) (by go_simp)).mono ?_
  rintro x w5 ⟨rfl, hb5⟩
  have hz5 := hb5.size
  obtain ⟨hcc5, hff5⟩ := bcell hb5
  have hC5 := Lib.hid hb5
  clear hb5
  go_wp2
  refine bodyPost_ret (v := .tuple #[.agg #[.int .i64 0, .int .i64 0, .int .i64 0, .int .i64 0, .int .i64 0], .int .i64 6]) (by simp [results, Try.results39, go_sem, hcc, hcc5, hz0, hz1]) rfl ⟨rfl, ?_⟩
  have hD : Below w.heap.size w w5 := by
    refine Below.trans ?_ (hC5.out.mono (by simp; omega))
    repeat (first | exact hB3.out | refine Below.setCell ?_ (by first | omega | (simp; omega) | simp) _ | refine Below.alloc ?_ (by first | omega | (simp; omega) | simp) _)
  have hz6 := hD.size
  repeat (first | exact hD | refine Below.setCell ?_ (by first | omega | (simp; omega) | simp) _ | refine Below.alloc ?_ (by first | omega | (simp; omega) | simp) _)
set_option maxHeartbeats 1000000 in
theorem ShiftS_spec_ok {a b c d e t : Int} {fs ts : List Int} (w : World) (h : sB a b c d e = true) (ht : inB t (-120000) 120000 = true) (hfs : [a, b, c, d, e] = fs) (hts : [t, t, t, t, t] = ts) (hr : raisedB fs ts 5 = true) (hn : sB (rG fs ts 0) (rG fs ts 1) (rG fs ts 2) (rG fs ts 3) (rG fs ts 4) = true) :
    Calls Try.prog 39 #[.agg #[.int .i64 a, .int .i64 b, .int .i64 c, .int .i64 d, .int .i64 e], .int .i64 t] w fun x w' => x = .returned (.tuple #[.agg #[.int .i64 (rG fs ts 0), .int .i64 (rG fs ts 1), .int .i64 (rG fs ts 2), .int .i64 (rG fs ts 3), .int .i64 (rG fs ts 4)], .int .i64 0]) ∧ Below w.heap.size w w' := by
  have H := Lib.hid h
  have HR := Lib.hid hr
  have HF := Lib.hid hfs
  have HT := Lib.hid hts
  have HN := Lib.hid hn
  have h5 := sound5 h
  have t5 := shift5 ht
  rw [hfs] at h5
  rw [hts] at t5
  have H5 := Lib.hid h5
  have T5 := Lib.hid t5
  clear h hr hfs hts hn h5 t5
  go_enter Try.func39, Try.ntmps39
  go_wp2_with fail
  refine (l04Ok_is H.out _ _ _ (by go_simp) (by go_simp) (by go_simp) (by go_simp) (by go_simp)).mono ?_
  rintro x w1 ⟨rfl, hb1⟩
  obtain ⟨hcc, hff⟩ := bcell hb1
  go_wp2_with fail
  refine (l02Interval_is ht _).mono ?_
  rintro x w' ⟨rfl, rfl⟩
  go_wp2_with fail
  refine (l04List_any a b c d e _ _ _ (by go_simp) (by go_simp) (by go_simp) (by go_simp) (by go_simp)).mono ?_
  rintro x w2 ⟨g2, c2, rfl, hg2, ho2, hb2⟩
  have hA := (IntsAt.of_own ho2).below (((Below.refl _ _).alloc (Nat.le_refl _) (.cells #[.int .i64 t, .int .i64 t, .int .i64 t, .int .i64 t, .int .i64 t] 2)))
  have hB : IntsAt (w2.alloc (.cells #[.int .i64 t, .int .i64 t, .int .i64 t, .int .i64 t, .int .i64 t] 2)) _ 5 [t, t, t, t, t] := IntsAt.new w2 [t, t, t, t, t] 2
  rw [HF.out] at hA
  rw [HT.out] at hB
  go_wp2_with fail
  refine (l04Raised_any _ _ _ _ _ _ _ hA hB H5.out T5.out).mono ?_
  intro x w4 hx
  rcases hx with ⟨_, rfl, hb4⟩ | ⟨hn, _⟩
  case' inr => have := HR.out; rw [hn] at this; cases this
  have hbb := below_two (((below_two hb1 hb2 (Nat.le_refl _))).alloc (Nat.le_trans hb1.size hb2.size) _) hb4 (Nat.le_refl _)
  clear hcc hff hA hB hb1 hb2 hb4 ho2 hg2
  obtain ⟨hcc, hff⟩ := bcell hbb
  have hz3 := hbb.size
  simp only [World.size_alloc] at hz3
  have hz0 : w.heap.size < w4.heap.size := by omega
  have hz1 : w.heap.size + 1 < w4.heap.size := by omega
  have hB3 := Lib.hid ((sbox_below a b c d e w).trans (hbb.mono (sbox_below a b c d e w).size))
  clear hbb
  go_wp2_with fail
  refine (l04Ok_is HN.out _ _ _ (by go_simp) (by go_simp) (by go_simp) (by go_simp) (by go_simp)).mono ?_
  rintro x w5 ⟨rfl, hb5⟩
  have hz5 := hb5.size
  obtain ⟨hcc5, hff5⟩ := bcell hb5
  have hC5 := Lib.hid hb5
  clear hb5
  go_wp2
  refine bodyPost_ret (v := .tuple #[.agg #[.int .i64 (rG fs ts 0), .int .i64 (rG fs ts 1), .int .i64 (rG fs ts 2), .int .i64 (rG fs ts 3), .int .i64 (rG fs ts 4)], .int .i64 0]) (by simp [results, Try.results39, go_sem, hcc, hcc5, hz0, hz1]) rfl ⟨rfl, ?_⟩
  have hD : Below w.heap.size w w5 := by
    refine Below.trans ?_ (hC5.out.mono (by simp; omega))
    repeat (first | exact hB3.out | refine Below.setCell ?_ (by first | omega | (simp; omega) | simp) _ | refine Below.alloc ?_ (by first | omega | (simp; omega) | simp) _)
  have hz6 := hD.size
  repeat (first | exact hD | refine Below.setCell ?_ (by first | omega | (simp; omega) | simp) _ | refine Below.alloc ?_ (by first | omega | (simp; omega) | simp) _)
end Go.Proofs.Ytajlgclodjgiiaa
