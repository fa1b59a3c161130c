/- Contracts of the shifted sounds, in the program and in the reference. -/
import Derived.Test.YtajlgclodjgiiaaRaised
namespace Go.Proofs.Ytajlgclodjgiiaa
open Go.Joins Go.ChangeShapes Go.WideShapes Go.ChangeAt Go.RowKit

theorem sound5 {a b c d e : Int} (h : sB a b c d e = true) : ∀ (k : Nat) (f : Int), [a, b, c, d, e][k]? = some f → inB f 10000 20000000 = true := by
  have h0 := (sB_parts h).1
  simp only [allF, List.all_cons, List.all_nil, Bool.and_true, Bool.and_eq_true] at h0
  obtain ⟨h1, h2, h3, h4, h5⟩ := h0
  intro k f hf
  match k, hf with
  | 0, hf => cases hf; exact h1
  | 1, hf => cases hf; exact h2
  | 2, hf => cases hf; exact h3
  | 3, hf => cases hf; exact h4
  | 4, hf => cases hf; exact h5
theorem shift5 {t : Int} (h : inB t (-120000) 120000 = true) : ∀ (k : Nat) (f : Int), [t, t, t, t, t][k]? = some f → inB f (-120000) 120000 = true := by
  intro k f hf
  match k, hf with
  | 0, hf => cases hf; exact h
  | 1, hf => cases hf; exact h
  | 2, hf => cases hf; exact h
  | 3, hf => cases hf; exact h
  | 4, hf => cases hf; exact h
theorem shift_out {a b c d e t : Int} (h : inB t (-120000) 120000 = false) : raisedB [a, b, c, d, e] [t, t, t, t, t] 5 = false :=
  raisedB_no (k := 0) (f := a) (t := t) rfl rfl (by omega) (by simp [raiseB, h])
theorem sbox_below (a b c d e : Int) (w : World) : Below w.heap.size w ((w.alloc (.cells #[.int .i64 a, .int .i64 b, .int .i64 c, .int .i64 d, .int .i64 e] 25)).alloc (.cells #[.int .i64 0, .int .i64 0, .int .i64 0, .int .i64 0, .int .i64 0] 25)) :=
  ((Below.refl _ _).alloc (Nat.le_refl _) _).alloc (by simp) _
theorem sbox_size (a b c d e : Int) (w : World) : ((w.alloc (.cells #[.int .i64 a, .int .i64 b, .int .i64 c, .int .i64 d, .int .i64 e] 25)).alloc (.cells #[.int .i64 0, .int .i64 0, .int .i64 0, .int .i64 0, .int .i64 0] 25)).heap.size = w.heap.size + 2 := by simp

theorem ShiftS_inv {a b c d e t : Int} (w : World) (h : sB a b c d e = false) : Calls Try.prog 40 #[.agg #[.int .i64 a, .int .i64 b, .int .i64 c, .int .i64 d, .int .i64 e], .int .i64 t] w fun x w' => x = .returned (.tuple #[.agg #[.int .i64 0, .int .i64 0, .int .i64 0, .int .i64 0, .int .i64 0], .int .i64 1]) ∧ Below w.heap.size w w' := by
  have H := Lib.hid h
  clear h
  go_enter Try.func40, Try.ntmps40
  go_wp2_with (go_at_call 17; refine (valid_is H.out _).mono ?_; rintro x w1 ⟨rfl, hb1⟩; obtain ⟨hcc, hff⟩ := bcell hb1)
  refine bodyPost_ret (v := .tuple #[.agg #[.int .i64 0, .int .i64 0, .int .i64 0, .int .i64 0, .int .i64 0], .int .i64 1]) (by simp [results, Try.results40, go_sem, hcc]) rfl ⟨rfl, ?_⟩
  have hB := (sbox_below a b c d e w).trans (hb1.mono (sbox_below a b c d e w).size)
  have hz := hb1.size
  simp only [World.size_alloc] at hz
  repeat (first | exact hB | refine Below.setCell ?_ (by simp; try omega) _)
set_option maxHeartbeats 1000000 in
theorem ShiftS_out {a b c d e t : Int} (w : World) (h : sB a b c d e = true) (hr : raisedB [a, b, c, d, e] [t, t, t, t, t] 5 = false) : Calls Try.prog 40 #[.agg #[.int .i64 a, .int .i64 b, .int .i64 c, .int .i64 d, .int .i64 e], .int .i64 t] w fun x w' => x = .returned (.tuple #[.agg #[.int .i64 0, .int .i64 0, .int .i64 0, .int .i64 0, .int .i64 0], .int .i64 2]) ∧ Below w.heap.size w w' := by
  have H := Lib.hid h
  have HR := Lib.hid hr
  clear h hr
  go_enter Try.func40, Try.ntmps40
  go_wp2_with fail
  refine (valid_is H.out _).mono ?_
  rintro x w1 ⟨rfl, hb1⟩
  obtain ⟨hcc, hff⟩ := bcell hb1
  go_wp2_with fail
  refine (listOf_any _ _ _ _ _ _).mono ?_
  rintro x w2 ⟨g2, c2, rfl, hg2, ho2, hb2⟩
  go_wp2_with fail
  refine (fiveTimes_any _ _).mono ?_
  rintro x w3 ⟨g3, c3, rfl, hg3, ho3, hb3⟩
  have hA := (IntsAt.of_own ho2).below hb3
  have hB := IntsAt.of_own ho3
  go_wp2_with fail
  refine (raised_any _ _ _ _ _ _ _ hA hB).mono ?_
  intro x w4 hx
  obtain ⟨rfl, hb4⟩ := raised_not HR.out hx
  have hbb := below_two (below_two (below_two hb1 hb2 (Nat.le_refl _)) hb3 (Nat.le_refl _)) hb4 (Nat.le_refl _)
  clear hcc hff hA hB hx hb1 hb2 hb3 hb4 ho2 ho3 hg2 hg3
  obtain ⟨hcc, hff⟩ := bcell hbb
  have hz3 := hbb.size
  simp only [World.size_alloc] at hz3
  have hB3 := Lib.hid ((sbox_below a b c d e w).trans (hbb.mono (sbox_below a b c d e w).size))
  clear hbb
  go_wp2
  refine bodyPost_ret (v := .tuple #[.agg #[.int .i64 0, .int .i64 0, .int .i64 0, .int .i64 0, .int .i64 0], .int .i64 2]) (by simp [results, Try.results40, go_sem, hcc]) rfl ⟨rfl, ?_⟩
  repeat (first | exact hB3.out | refine Below.setCell ?_ (by simp; try omega) _)
set_option maxHeartbeats 1000000 in
theorem ShiftS_state {a b c d e t : Int} {fs ts : List Int} (w : World) (h : sB a b c d e = true) (hfs : [a, b, c, d, e] = fs) (hts : [t, t, t, t, t] = ts) (hr : raisedB fs ts 5 = true) (hn : sB (rG fs ts 0) (rG fs ts 1) (rG fs ts 2) (rG fs ts 3) (rG fs ts 4) = false) :
    Calls Try.prog 40 #[.agg #[.int .i64 a, .int .i64 b, .int .i64 c, .int .i64 d, .int .i64 e], .int .i64 t] w fun x w' => x = .returned (.tuple #[.agg #[.int .i64 0, .int .i64 0, .int .i64 0, .int .i64 0, .int .i64 0], .int .i64 6]) ∧ Below w.heap.size w w' := by
  have H := Lib.hid h
  have HR := Lib.hid hr
  have HF := Lib.hid hfs
  have HT := Lib.hid hts
  have HN := Lib.hid hn
  clear h hr hfs hts hn
  go_enter Try.func40, Try.ntmps40
  go_wp2_with fail
  refine (valid_is H.out _).mono ?_
  rintro x w1 ⟨rfl, hb1⟩
  obtain ⟨hcc, hff⟩ := bcell hb1
  go_wp2_with fail
  refine (listOf_any _ _ _ _ _ _).mono ?_
  rintro x w2 ⟨g2, c2, rfl, hg2, ho2, hb2⟩
  go_wp2_with fail
  refine (fiveTimes_any _ _).mono ?_
  rintro x w3 ⟨g3, c3, rfl, hg3, ho3, hb3⟩
  have hA := (IntsAt.of_own ho2).below hb3
  have hB := IntsAt.of_own ho3
  rw [HF.out] at hA
  rw [HT.out] at hB
  go_wp2_with fail
  refine (raised_any _ _ _ _ _ _ _ hA hB).mono ?_
  intro x w4 hx
  obtain ⟨A4, c4, rfl, hi4, hb4⟩ := raised_yes HR.out hx
  have hbb := below_two (below_two (below_two hb1 hb2 (Nat.le_refl _)) hb3 (Nat.le_refl _)) hb4 (Nat.le_refl _)
  clear hcc hff hA hB hx hb1 hb2 hb3 hb4 ho2 ho3 hg2 hg3
  go_wp2_with fail
  refine (soundOf_any _ _ _ _ _ _ _ _ hi4).mono ?_
  rintro x w5 ⟨rfl, hb5⟩
  go_wp2_with fail
  refine (valid_is HN.out _).mono ?_
  rintro x w6 ⟨rfl, hb6⟩
  have hbc := below_two (below_two hbb hb5 (Nat.le_refl _)) hb6 (Nat.le_refl _)
  clear hbb hb5 hb6 hi4
  obtain ⟨hcc, hff⟩ := bcell hbc
  have hz3 := hbc.size
  simp only [World.size_alloc] at hz3
  have hB3 := Lib.hid ((sbox_below a b c d e w).trans (hbc.mono (sbox_below a b c d e w).size))
  clear hbc
  go_wp2
  refine bodyPost_ret (v := .tuple #[.agg #[.int .i64 0, .int .i64 0, .int .i64 0, .int .i64 0, .int .i64 0], .int .i64 6]) (by simp [results, Try.results40, go_sem, hcc]) rfl ⟨rfl, ?_⟩
  repeat (first | exact hB3.out | refine Below.setCell ?_ (by simp; try omega) _)
set_option maxHeartbeats 1000000 in
theorem ShiftS_ok {a b c d e t : Int} {fs ts : List Int} (w : World) (h : sB a b c d e = true) (hfs : [a, b, c, d, e] = fs) (hts : [t, t, t, t, t] = ts) (hr : raisedB fs ts 5 = true) (hn : sB (rG fs ts 0) (rG fs ts 1) (rG fs ts 2) (rG fs ts 3) (rG fs ts 4) = true) :
    Calls Try.prog 40 #[.agg #[.int .i64 a, .int .i64 b, .int .i64 c, .int .i64 d, .int .i64 e], .int .i64 t] w fun x w' => x = .returned (.tuple #[.agg #[.int .i64 (rG fs ts 0), .int .i64 (rG fs ts 1), .int .i64 (rG fs ts 2), .int .i64 (rG fs ts 3), .int .i64 (rG fs ts 4)], .int .i64 0]) ∧ Below w.heap.size w w' := by
  have H := Lib.hid h
  have HR := Lib.hid hr
  have HF := Lib.hid hfs
  have HT := Lib.hid hts
  have HN := Lib.hid hn
  clear h hr hfs hts hn
  go_enter Try.func40, Try.ntmps40
  go_wp2_with fail
  refine (valid_is H.out _).mono ?_
  rintro x w1 ⟨rfl, hb1⟩
  obtain ⟨hcc, hff⟩ := bcell hb1
  go_wp2_with fail
  refine (listOf_any _ _ _ _ _ _).mono ?_
  rintro x w2 ⟨g2, c2, rfl, hg2, ho2, hb2⟩
  go_wp2_with fail
  refine (fiveTimes_any _ _).mono ?_
  rintro x w3 ⟨g3, c3, rfl, hg3, ho3, hb3⟩
  have hA := (IntsAt.of_own ho2).below hb3
  have hB := IntsAt.of_own ho3
  rw [HF.out] at hA
  rw [HT.out] at hB
  go_wp2_with fail
  refine (raised_any _ _ _ _ _ _ _ hA hB).mono ?_
  intro x w4 hx
  obtain ⟨A4, c4, rfl, hi4, hb4⟩ := raised_yes HR.out hx
  have hbb := below_two (below_two (below_two hb1 hb2 (Nat.le_refl _)) hb3 (Nat.le_refl _)) hb4 (Nat.le_refl _)
  clear hcc hff hA hB hx hb1 hb2 hb3 hb4 ho2 ho3 hg2 hg3
  go_wp2_with fail
  refine (soundOf_any _ _ _ _ _ _ _ _ hi4).mono ?_
  rintro x w5 ⟨rfl, hb5⟩
  go_wp2_with fail
  refine (valid_is HN.out _).mono ?_
  rintro x w6 ⟨rfl, hb6⟩
  have hi6 := (hi4.below hb5).below hb6
  go_wp2_with fail
  refine (soundOf_any _ _ _ _ _ _ _ _ hi6).mono ?_
  rintro x w7 ⟨rfl, hb7⟩
  have hbc := below_two (below_two (below_two hbb hb5 (Nat.le_refl _)) hb6 (Nat.le_refl _)) hb7 (Nat.le_refl _)
  clear hbb hb5 hb6 hb7 hi4 hi6
  obtain ⟨hcc, hff⟩ := bcell hbc
  have hz3 := hbc.size
  simp only [World.size_alloc] at hz3
  have hB3 := Lib.hid ((sbox_below a b c d e w).trans (hbc.mono (sbox_below a b c d e w).size))
  clear hbc
  go_wp2
  refine bodyPost_ret (v := .tuple #[.agg #[.int .i64 (rG fs ts 0), .int .i64 (rG fs ts 1), .int .i64 (rG fs ts 2), .int .i64 (rG fs ts 3), .int .i64 (rG fs ts 4)], .int .i64 0]) (by simp [results, Try.results40, go_sem, hcc]) rfl ⟨rfl, ?_⟩
  repeat (first | exact hB3.out | refine Below.setCell ?_ (by simp; try omega) _)
end Go.Proofs.Ytajlgclodjgiiaa
