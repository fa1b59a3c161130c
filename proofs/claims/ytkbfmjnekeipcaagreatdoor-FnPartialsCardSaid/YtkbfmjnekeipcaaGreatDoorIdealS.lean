/- Contracts of the ideal sounds, in the program and in the reference. -/
import Derived.Test.YtkbfmjnekeipcaaGreatDoorRaised
namespace Go.Proofs.YtkbfmjnekeipcaaGreatDoor
open Go.Joins Go.ChangeShapes Go.WideShapes Go.ChangeAt Go.RowKit
set_option maxRecDepth 100000

theorem raised5 {s : Int} (h : inB s 10000 20000000 = true) : ∀ (k : Nat) (f : Int), [s, s, s, s, s][k]? = some f → inB f 10000 20000000 = true := by
  intro k f hf
  match k, hf with
  | 0, hf => cases hf; exact h
  | 1, hf => cases hf; exact h
  | 2, hf => cases hf; exact h
  | 3, hf => cases hf; exact h
  | 4, hf => cases hf; exact h
theorem idealI {kind : Int} : ∀ (k : Nat) (t : Int), (idealL kind)[k]? = some t → inB t (-120000) 120000 = true := by
  intro k f hf
  unfold idealL at hf
  split at hf
  all_goals
    match k, hf with
    | 0, hf => cases hf; rfl
    | 1, hf => cases hf; rfl
    | 2, hf => cases hf; rfl
    | 3, hf => cases hf; rfl
    | 4, hf => cases hf; rfl
theorem zbox_below (w : World) (t : TypeId) : Below w.heap.size w (w.alloc (.cells #[.int .i64 0, .int .i64 0, .int .i64 0, .int .i64 0, .int .i64 0] t)) := (Below.refl _ _).alloc (Nat.le_refl _) _
theorem zbox_size (w : World) (t : TypeId) : (w.alloc (.cells #[.int .i64 0, .int .i64 0, .int .i64 0, .int .i64 0, .int .i64 0] t)).heap.size = w.heap.size + 1 := by simp

theorem IdealS_no {s k : Int} (w : World) (hk : inB s 10000 20000000 = false ∨ (inB s 10000 20000000 = true ∧ inB k 1 2 = false)) : Calls Tryz.prog 18 #[.int .i64 s, .int .i64 k] w fun x w' => x = .returned (.tuple #[.agg #[.int .i64 0, .int .i64 0, .int .i64 0, .int .i64 0, .int .i64 0], .int .i64 2]) ∧ Below w.heap.size w w' := by
  rcases hk with h1 | ⟨h1, h2⟩
  · go_enter Tryz.func18, Tryz.ntmps18
    go_wp2_with (go_at_call 41; refine (isFreq_is h1 _).mono ?_; rintro x w' ⟨rfl, rfl⟩)
    refine bodyPost_ret (v := .tuple #[.agg #[.int .i64 0, .int .i64 0, .int .i64 0, .int .i64 0, .int .i64 0], .int .i64 2]) (by simp [results, Tryz.results18, go_sem]) rfl ⟨rfl, ?_⟩
    have hB := zbox_below w 39
    repeat (first | exact hB | refine Below.setCell ?_ (by simp; try omega) _)
  · go_enter Tryz.func18, Tryz.ntmps18
    go_wp2_with (first
      | (go_at_call 41; refine (isFreq_is h1 _).mono ?_; rintro x w' ⟨rfl, rfl⟩)
      | (go_at_call 42; refine (isKind_is h2 _).mono ?_; rintro x w' ⟨rfl, rfl⟩))
    refine bodyPost_ret (v := .tuple #[.agg #[.int .i64 0, .int .i64 0, .int .i64 0, .int .i64 0, .int .i64 0], .int .i64 2]) (by simp [results, Tryz.results18, go_sem]) rfl ⟨rfl, ?_⟩
    have hB := zbox_below w 39
    repeat (first | exact hB | refine Below.setCell ?_ (by simp; try omega) _)
theorem IdealS_out {s k : Int} (w : World) (h1 : inB s 10000 20000000 = true) (h2 : inB k 1 2 = true) (hr : raisedB [s, s, s, s, s] (idealL k) 5 = false) : Calls Tryz.prog 18 #[.int .i64 s, .int .i64 k] w fun x w' => x = .returned (.tuple #[.agg #[.int .i64 0, .int .i64 0, .int .i64 0, .int .i64 0, .int .i64 0], .int .i64 2]) ∧ Below w.heap.size w w' := by
  have HR := Lib.hid hr
  clear hr
  go_enter Tryz.func18, Tryz.ntmps18
  go_wp2_with (first
    | (go_at_call 41; refine (isFreq_is h1 _).mono ?_; rintro x w' ⟨rfl, rfl⟩)
    | (go_at_call 42; refine (isKind_is h2 _).mono ?_; rintro x w' ⟨rfl, rfl⟩)
    | (go_at_call 44; refine (fiveTimes_any _ _).mono ?_; rintro x w1 ⟨g1, c1, rfl, hg1, ho1, hb1⟩)
    | (go_at_call 45; refine (idealOffsets_any _ _).mono ?_; rintro x w2 ⟨g2, c2, rfl, hg2, ho2, hb2⟩))
  have hA := (IntsAt.of_own ho1).below hb2
  have hB := IntsAt.of_own ho2
  refine (raised_any _ _ _ _ _ _ _ hA hB).mono ?_
  intro x w3 hx
  obtain ⟨rfl, hb3⟩ := raised_not HR.out hx
  have hbb := below_two (below_two hb1 hb2 (Nat.le_refl _)) hb3 (Nat.le_refl _)
  clear hA hB hx hb1 hb2 hb3 ho1 ho2 hg1 hg2
  obtain ⟨hcc, hff⟩ := bcell hbb
  have hz3 := hbb.size
  simp only [World.size_alloc] at hz3
  have hB3 := Lib.hid ((zbox_below w 39).trans (hbb.mono (by simp)))
  clear hbb
  go_wp2
  refine bodyPost_ret (v := .tuple #[.agg #[.int .i64 0, .int .i64 0, .int .i64 0, .int .i64 0, .int .i64 0], .int .i64 2]) (by simp [results, Tryz.results18, go_sem, hcc]) rfl ⟨rfl, ?_⟩
  repeat (first | exact hB3.out | refine Below.setCell ?_ (by simp; try omega) _)
set_option maxHeartbeats 1000000 in
theorem IdealS_ok {s k : Int} {fs ts : List Int} (w : World) (h1 : inB s 10000 20000000 = true) (h2 : inB k 1 2 = true) (hfs : [s, s, s, s, s] = fs) (hts : idealL k = ts) (hr : raisedB fs ts 5 = true) : Calls Tryz.prog 18 #[.int .i64 s, .int .i64 k] w fun x w' => x = .returned (.tuple #[.agg #[.int .i64 (rG fs ts 0), .int .i64 (rG fs ts 1), .int .i64 (rG fs ts 2), .int .i64 (rG fs ts 3), .int .i64 (rG fs ts 4)], .int .i64 0]) ∧ Below w.heap.size w w' := by
  have HR := Lib.hid hr
  have HF := Lib.hid hfs
  have HT := Lib.hid hts
  clear hr hfs hts
  go_enter Tryz.func18, Tryz.ntmps18
  go_wp2_with (first
    | (go_at_call 41; refine (isFreq_is h1 _).mono ?_; rintro x w' ⟨rfl, rfl⟩)
    | (go_at_call 42; refine (isKind_is h2 _).mono ?_; rintro x w' ⟨rfl, rfl⟩)
    | (go_at_call 44; refine (fiveTimes_any _ _).mono ?_; rintro x w1 ⟨g1, c1, rfl, hg1, ho1, hb1⟩)
    | (go_at_call 45; refine (idealOffsets_any _ _).mono ?_; rintro x w2 ⟨g2, c2, rfl, hg2, ho2, hb2⟩))
  have hA := (IntsAt.of_own ho1).below hb2
  have hB := IntsAt.of_own ho2
  rw [HF.out] at hA
  rw [HT.out] at hB
  refine (raised_any _ _ _ _ _ _ _ hA hB).mono ?_
  intro x w3 hx
  obtain ⟨A3, c3, rfl, hi3, hb3⟩ := raised_yes HR.out hx
  have hbb := below_two (below_two hb1 hb2 (Nat.le_refl _)) hb3 (Nat.le_refl _)
  clear hA hB hx hb1 hb2 hb3 ho1 ho2 hg1 hg2
  go_wp2_with fail
  refine (soundOf_any _ _ _ _ _ _ _ _ hi3).mono ?_
  rintro x w4 ⟨rfl, hb4⟩
  have hbc := below_two hbb hb4 (Nat.le_refl _)
  clear hbb hb4 hi3
  obtain ⟨hcc, hff⟩ := bcell hbc
  have hz3 := hbc.size
  simp only [World.size_alloc] at hz3
  have hB3 := Lib.hid ((zbox_below w 39).trans (hbc.mono (by simp)))
  clear hbc
  go_wp2
  refine bodyPost_ret (v := .tuple #[.agg #[.int .i64 (rG fs ts 0), .int .i64 (rG fs ts 1), .int .i64 (rG fs ts 2), .int .i64 (rG fs ts 3), .int .i64 (rG fs ts 4)], .int .i64 0]) (by simp [results, Tryz.results18, go_sem, hcc]) rfl ⟨rfl, ?_⟩
  repeat (first | exact hB3.out | refine Below.setCell ?_ (by simp; try omega) _)
end Go.Proofs.YtkbfmjnekeipcaaGreatDoor
