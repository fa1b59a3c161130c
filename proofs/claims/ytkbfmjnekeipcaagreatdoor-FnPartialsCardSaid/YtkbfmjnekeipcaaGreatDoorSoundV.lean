/- Contracts: whether a sound is valid, in the program and in the reference; a sound as an argument opened. -/
import Derived.Test.YtkbfmjnekeipcaaGreatDoorSound
import Derived.Test.YtkbfmjnekeipcaaGreatDoorOpen
namespace Go.Proofs.YtkbfmjnekeipcaaGreatDoor
open Go.Joins Go.ChangeShapes Go.WideShapes Go.ChangeAt Go.RowKit
set_option maxRecDepth 100000

theorem sB_parts {a b c d e : Int} (h : sB a b c d e = true) : allF [a, b, c, d, e] = true ∧ a < b ∧ b < c ∧ c < d ∧ d < e := by
  simpa [sB] using h
theorem sB_no {a b c d e : Int} (h : ¬ (allF [a, b, c, d, e] = true ∧ a < b ∧ b < c ∧ c < d ∧ d < e)) : sB a b c d e = false := by
  rw [← Bool.not_eq_true]
  exact fun hh => h (sB_parts hh)
theorem sB_yes {a b c d e : Int} (h : allF [a, b, c, d, e] = true) (h1 : a < b) (h2 : b < c) (h3 : c < d) (h4 : d < e) : sB a b c d e = true := by simp [sB, h, h1, h2, h3, h4]
theorem sB_bd {a b c d e : Int} (h : sB a b c d e = true) : (10000 ≤ a ∧ a < b ∧ b < c ∧ c < d ∧ d < e ∧ e ≤ 20000000) := by
  obtain ⟨h0, h1, h2, h3, h4⟩ := sB_parts h
  simp only [allF, List.all_cons, List.all_nil, Bool.and_true, Bool.and_eq_true] at h0
  have := inB_iff.1 h0.1
  have := inB_iff.1 h0.2.2.2.2
  omega

set_option maxHeartbeats 2000000 in
theorem valid_impl (a b c d e : Int) (w : World) : Calls Tryz.prog 48 #[.agg #[.int .i64 a, .int .i64 b, .int .i64 c, .int .i64 d, .int .i64 e]] w fun x w' => x = .returned (.bool (sB a b c d e)) ∧ Below w.heap.size w w' := by
  have fin : ∀ w1 : World, Below (w.alloc (.cells #[.int .i64 a, .int .i64 b, .int .i64 c, .int .i64 d, .int .i64 e] 39)).heap.size (w.alloc (.cells #[.int .i64 a, .int .i64 b, .int .i64 c, .int .i64 d, .int .i64 e] 39)) w1 → Below w.heap.size w w1 :=
    fun w1 h => ((Below.refl _ _).alloc (Nat.le_refl _) _).trans (h.mono (by simp))
  have FIN := Lib.hid fin
  clear fin
  cases hF : allF [a, b, c, d, e]
  · have H := Lib.hid (sB_no (a := a) (b := b) (c := c) (d := d) (e := e) (fun h => by rw [hF] at h; cases h.1))
    have HF := Lib.hid hF
    clear hF
    go_enter Tryz.func48, Tryz.ntmps48
    go_wp2_with (first
      | (go_at_call 52; refine (listOf_any _ _ _ _ _ _).mono ?_; rintro x w1 ⟨g1, c1, rfl, hg1, ho1, hb1⟩; have hi1 := IntsAt.of_own ho1; obtain ⟨hcc, hff⟩ := bcell hb1)
      | (go_at_call 63; refine (areFreq_is HF.out _ hi1 (by omega)).mono ?_; rintro x w' ⟨rfl, rfl⟩))
    go_ret
    exact ⟨ret_bool H.out.symm, FIN.out _ hb1⟩
  · have HF := Lib.hid hF
    by_cases h1 : a < b
    case neg =>
      have H := Lib.hid (sB_no (a := a) (b := b) (c := c) (d := d) (e := e) (fun h => h1 h.2.1))
      have d1 : decide (a < b) = false := decide_eq_false h1
      clear hF
      go_enter Tryz.func48, Tryz.ntmps48
      go_wp2_with (first
        | (go_at_call 52; refine (listOf_any _ _ _ _ _ _).mono ?_; rintro x w1 ⟨g1, c1, rfl, hg1, ho1, hb1⟩; have hi1 := IntsAt.of_own ho1; obtain ⟨hcc, hff⟩ := bcell hb1)
        | (go_at_call 63; refine (areFreq_is HF.out _ hi1 (by omega)).mono ?_; rintro x w' ⟨rfl, rfl⟩))
      go_ret
      exact ⟨ret_bool H.out.symm, FIN.out _ hb1⟩
    by_cases h2 : b < c
    case neg =>
      have H := Lib.hid (sB_no (a := a) (b := b) (c := c) (d := d) (e := e) (fun h => h2 h.2.2.1))
      have d2 : decide (b < c) = false := decide_eq_false h2
      clear hF
      go_enter Tryz.func48, Tryz.ntmps48
      go_wp2_with (first
        | (go_at_call 52; refine (listOf_any _ _ _ _ _ _).mono ?_; rintro x w1 ⟨g1, c1, rfl, hg1, ho1, hb1⟩; have hi1 := IntsAt.of_own ho1; obtain ⟨hcc, hff⟩ := bcell hb1)
        | (go_at_call 63; refine (areFreq_is HF.out _ hi1 (by omega)).mono ?_; rintro x w' ⟨rfl, rfl⟩))
      go_ret
      exact ⟨ret_bool H.out.symm, FIN.out _ hb1⟩
    by_cases h3 : c < d
    case neg =>
      have H := Lib.hid (sB_no (a := a) (b := b) (c := c) (d := d) (e := e) (fun h => h3 h.2.2.2.1))
      have d3 : decide (c < d) = false := decide_eq_false h3
      clear hF
      go_enter Tryz.func48, Tryz.ntmps48
      go_wp2_with (first
        | (go_at_call 52; refine (listOf_any _ _ _ _ _ _).mono ?_; rintro x w1 ⟨g1, c1, rfl, hg1, ho1, hb1⟩; have hi1 := IntsAt.of_own ho1; obtain ⟨hcc, hff⟩ := bcell hb1)
        | (go_at_call 63; refine (areFreq_is HF.out _ hi1 (by omega)).mono ?_; rintro x w' ⟨rfl, rfl⟩))
      go_ret
      exact ⟨ret_bool H.out.symm, FIN.out _ hb1⟩
    by_cases h4 : d < e
    case neg =>
      have H := Lib.hid (sB_no (a := a) (b := b) (c := c) (d := d) (e := e) (fun h => h4 h.2.2.2.2))
      have d4 : decide (d < e) = false := decide_eq_false h4
      clear hF
      go_enter Tryz.func48, Tryz.ntmps48
      go_wp2_with (first
        | (go_at_call 52; refine (listOf_any _ _ _ _ _ _).mono ?_; rintro x w1 ⟨g1, c1, rfl, hg1, ho1, hb1⟩; have hi1 := IntsAt.of_own ho1; obtain ⟨hcc, hff⟩ := bcell hb1)
        | (go_at_call 63; refine (areFreq_is HF.out _ hi1 (by omega)).mono ?_; rintro x w' ⟨rfl, rfl⟩))
      go_ret
      exact ⟨ret_bool H.out.symm, FIN.out _ hb1⟩
    · have H := Lib.hid (sB_yes hF h1 h2 h3 h4)
      clear hF
      go_enter Tryz.func48, Tryz.ntmps48
      go_wp2_with (first
        | (go_at_call 52; refine (listOf_any _ _ _ _ _ _).mono ?_; rintro x w1 ⟨g1, c1, rfl, hg1, ho1, hb1⟩; have hi1 := IntsAt.of_own ho1; obtain ⟨hcc, hff⟩ := bcell hb1)
        | (go_at_call 63; refine (areFreq_is HF.out _ hi1 (by omega)).mono ?_; rintro x w' ⟨rfl, rfl⟩))
      go_ret
      exact ⟨ret_bool H.out.symm, FIN.out _ hb1⟩
theorem valid_is {a b c d e : Int} {r : Bool} (h : sB a b c d e = r) (w : World) : Calls Tryz.prog 48 #[.agg #[.int .i64 a, .int .i64 b, .int .i64 c, .int .i64 d, .int .i64 e]] w fun x w' => x = .returned (.bool r) ∧ Below w.heap.size w w' := h ▸ valid_impl a b c d e w

theorem l04Ok_is {a b c d e : Int} {r : Bool} (h : sB a b c d e = r) (g off : Nat) (w : World) (c0 : w.cell? ⟨g, off, none⟩ = some (.int .i64 a)) (c1 : w.cell? ⟨g, off + 1, none⟩ = some (.int .i64 b)) (c2 : w.cell? ⟨g, off + 2, none⟩ = some (.int .i64 c)) (c3 : w.cell? ⟨g, off + 3, none⟩ = some (.int .i64 d)) (c4 : w.cell? ⟨g, off + 4, none⟩ = some (.int .i64 e)) :
    Calls Tryz.prog 47 #[.pointer (some ⟨g, off, none⟩)] w fun x w' => x = .returned (.bool r) ∧ Below w.heap.size w w' := by
  have H := Lib.hid ((rises_five a b c d e).trans h)
  clear h
  go_enter Tryz.func47, Tryz.ntmps47
  go_wp2_with (first
    | (go_at_call 59; refine (l04List_any a b c d e _ _ _ (by go_simp) (by go_simp) (by go_simp) (by go_simp) (by go_simp)).mono ?_; rintro x w1 ⟨g1, c1', rfl, hg1, ho1, hb1⟩; have hi1 := IntsAt.of_own ho1)
    | (go_at_call 80; refine (l00Rises_any _ _ _ _ _ _ _ hi1 (by omega)).mono ?_; rintro x w' ⟨rfl, q, rfl⟩))
  go_ret
  exact ⟨ret_bool H.out, below_drewN hb1 q⟩
theorem valid_spec {a b c d e : Int} {r : Bool} (h : sB a b c d e = r) (w : World) : Calls Tryz.prog 19 #[.agg #[.int .i64 a, .int .i64 b, .int .i64 c, .int .i64 d, .int .i64 e]] w fun x w' => x = .returned (.bool r) ∧ Below w.heap.size w w' := by
  go_enter Tryz.func19, Tryz.ntmps19
  go_wp2_with (go_at_call 47; refine (l04Ok_is h _ _ _ (by go_simp) (by go_simp) (by go_simp) (by go_simp) (by go_simp)).mono ?_; rintro x w1 ⟨rfl, hb1⟩)
  go_ret
  exact ⟨rfl, ((Below.refl _ _).alloc (Nat.le_refl _) _).trans (hb1.mono (by simp))⟩
end Go.Proofs.YtkbfmjnekeipcaaGreatDoor
