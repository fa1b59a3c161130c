/- Contracts of changing one partial of a sound, in the program and in the reference. -/
import Derived.Test.YtkbfmjnekeipcaaGreatDoorPart
namespace Go.Proofs.YtkbfmjnekeipcaaGreatDoor
open Go.Joins Go.ChangeShapes Go.WideShapes Go.ChangeAt Go.RowKit
set_option maxRecDepth 100000

/-- The numbers with the one at k replaced. -/
def upd5 (a b c d e k f a' b' c' d' e' : Int) : Prop :=
  (k = 1 ∧ a' = f ∧ b' = b ∧ c' = c ∧ d' = d ∧ e' = e) ∨ (k = 2 ∧ a' = a ∧ b' = f ∧ c' = c ∧ d' = d ∧ e' = e) ∨ (k = 3 ∧ a' = a ∧ b' = b ∧ c' = f ∧ d' = d ∧ e' = e) ∨
  (k = 4 ∧ a' = a ∧ b' = b ∧ c' = c ∧ d' = f ∧ e' = e) ∨ (k = 5 ∧ a' = a ∧ b' = b ∧ c' = c ∧ d' = d ∧ e' = f)
theorem upd5_ex {a b c d e k f : Int} (h : inB k 1 5 = true) : ∃ a' b' c' d' e', upd5 a b c d e k f a' b' c' d' e' := by
  rcases five_cases h with rfl | rfl | rfl | rfl | rfl
  · exact ⟨_, _, _, _, _, .inl ⟨rfl, rfl, rfl, rfl, rfl, rfl⟩⟩
  · exact ⟨_, _, _, _, _, .inr (.inl ⟨rfl, rfl, rfl, rfl, rfl, rfl⟩)⟩
  · exact ⟨_, _, _, _, _, .inr (.inr (.inl ⟨rfl, rfl, rfl, rfl, rfl, rfl⟩))⟩
  · exact ⟨_, _, _, _, _, .inr (.inr (.inr (.inl ⟨rfl, rfl, rfl, rfl, rfl, rfl⟩)))⟩
  · exact ⟨_, _, _, _, _, .inr (.inr (.inr (.inr ⟨rfl, rfl, rfl, rfl, rfl, rfl⟩)))⟩

/-- What lay before the function's own boxes is as it was behind a call, too. -/
theorem below_after {w w0 w1 : World} (h0 : Below w.heap.size w w0) (h : Below w0.heap.size w0 w1) : Below w.heap.size w w1 := h0.trans (h.mono h0.size)
theorem with_inv {a b c d e k f : Int} (w : World) (h : sB a b c d e = false) : Calls Tryz.prog 24 #[.agg #[.int .i64 a, .int .i64 b, .int .i64 c, .int .i64 d, .int .i64 e], .int .i64 k, .int .i64 f] w fun x w' => x = .returned (.tuple #[.agg #[.int .i64 0, .int .i64 0, .int .i64 0, .int .i64 0, .int .i64 0], .int .i64 1]) ∧ Below w.heap.size w w' := by
  have H := Lib.hid h
  clear h
  go_enter Tryz.func24, Tryz.ntmps24
  go_wp2_with (go_at_call 48; refine (valid_is H.out _).mono ?_; rintro x w1 ⟨rfl, hb1⟩; obtain ⟨hcc, hff⟩ := bcell hb1)
  refine bodyPost_ret (v := .tuple #[.agg #[.int .i64 0, .int .i64 0, .int .i64 0, .int .i64 0, .int .i64 0], .int .i64 1]) (by simp [results, Tryz.results24, go_sem, hcc]) rfl ⟨rfl, ?_⟩
  have hz := hb1.size
  simp only [World.size_alloc] at hz
  have hB : Below w.heap.size w w1 := below_after (by repeat (first | exact Below.refl _ _ | refine Below.alloc ?_ (by simp; try omega) _)) hb1
  repeat (first | exact hB | refine Below.setCell ?_ (by simp; try omega) _)
theorem with_rng {a b c d e k f : Int} (w : World) (h : sB a b c d e = true) (hk : inB k 1 5 = false) : Calls Tryz.prog 24 #[.agg #[.int .i64 a, .int .i64 b, .int .i64 c, .int .i64 d, .int .i64 e], .int .i64 k, .int .i64 f] w fun x w' => x = .returned (.tuple #[.agg #[.int .i64 0, .int .i64 0, .int .i64 0, .int .i64 0, .int .i64 0], .int .i64 2]) ∧ Below w.heap.size w w' := by
  have H := Lib.hid h
  clear h
  go_enter Tryz.func24, Tryz.ntmps24
  go_wp2_with (first
    | (go_at_call 48; refine (valid_is H.out _).mono ?_; rintro x w1 ⟨rfl, hb1⟩; obtain ⟨hcc, hff⟩ := bcell hb1)
    | (go_at_call 60; refine (isPartial_is hk _).mono ?_; rintro x w' ⟨rfl, rfl⟩))
  refine bodyPost_ret (v := .tuple #[.agg #[.int .i64 0, .int .i64 0, .int .i64 0, .int .i64 0, .int .i64 0], .int .i64 2]) (by simp [results, Tryz.results24, go_sem, hcc]) rfl ⟨rfl, ?_⟩
  have hz := hb1.size
  simp only [World.size_alloc] at hz
  have hB : Below w.heap.size w w1 := below_after (by repeat (first | exact Below.refl _ _ | refine Below.alloc ?_ (by simp; try omega) _)) hb1
  repeat (first | exact hB | refine Below.setCell ?_ (by simp; try omega) _)

set_option maxRecDepth 100000 in
set_option maxHeartbeats 8000000 in
theorem with_state {a b c d e k f a' b' c' d' e' : Int} (w : World) (h : sB a b c d e = true) (hk : inB k 1 5 = true) (hu : upd5 a b c d e k f a' b' c' d' e') (hn : sB a' b' c' d' e' = false) :
    Calls Tryz.prog 24 #[.agg #[.int .i64 a, .int .i64 b, .int .i64 c, .int .i64 d, .int .i64 e], .int .i64 k, .int .i64 f] w fun x w' => x = .returned (.tuple #[.agg #[.int .i64 0, .int .i64 0, .int .i64 0, .int .i64 0, .int .i64 0], .int .i64 6]) ∧ Below w.heap.size w w' := by
  have H := Lib.hid h
  have HN := Lib.hid hn
  clear h hn
  rcases hu with ⟨rfl, rfl, rfl, rfl, rfl, rfl⟩ | ⟨rfl, rfl, rfl, rfl, rfl, rfl⟩ | ⟨rfl, rfl, rfl, rfl, rfl, rfl⟩ | ⟨rfl, rfl, rfl, rfl, rfl, rfl⟩ | ⟨rfl, rfl, rfl, rfl, rfl, rfl⟩
  · have HK := Lib.hid hk
    clear hk
    go_enter Tryz.func24, Tryz.ntmps24
    go_wp2_with fail
    refine (valid_is H.out _).mono ?_
    rintro x w1 ⟨rfl, hb1⟩
    obtain ⟨hcc, hff⟩ := bcell hb1
    go_wp2_with fail
    refine (isPartial_is HK.out _).mono ?_
    rintro x w' ⟨rfl, rfl⟩
    go_wp2_with fail
    refine (listOf_any _ _ _ _ _ _).mono ?_
    rintro x w2 ⟨g2, c2, rfl, hg2, ho2, hb2⟩
    have q0 : w2.cell? ⟨g2, 0, none⟩ = some (.int .i64 a) := ho2.cellAt 0 (by omega)
    have z0 := ho2.frozenAt 0
    have hi2 := IntsAt.of_own (zs := [a', b', c', d', e']) (ho2.stored 0 (.int .i64 a')).1
    have hC2 := (below_two hb1 hb2 (Nat.le_refl _)).setCell (p := ⟨g2, 0, none⟩) (Nat.le_trans hb1.size hg2) (.int .i64 a')
    go_wp2_with fail
    refine (soundOf_any _ _ a' b' c' d' e' _ hi2).mono ?_
    rintro x w3 ⟨rfl, hb3⟩
    have hC3 := below_two hC2 hb3 (Nat.le_refl _)
    clear hcc hff
    go_wp2_with fail
    refine (valid_is HN.out _).mono ?_
    rintro x w4 ⟨rfl, hb4⟩
    have hC4 := below_two hC3 hb4 (Nat.le_refl _)
    obtain ⟨hcc, hff⟩ := bcell hC4
    go_wp2
    refine bodyPost_ret (v := .tuple #[.agg #[.int .i64 0, .int .i64 0, .int .i64 0, .int .i64 0, .int .i64 0], .int .i64 6]) (by simp [results, Tryz.results24, go_sem, hcc]) rfl ⟨rfl, ?_⟩
    have hz := hC4.size
    simp only [World.size_alloc] at hz
    have hB := ((Below.refl w.heap.size w).alloc (Nat.le_refl _) (.cells #[.int .i64 a, .int .i64 b', .int .i64 c', .int .i64 d', .int .i64 e'] 39)).alloc (by simp) (.cells #[.int .i64 0, .int .i64 0, .int .i64 0, .int .i64 0, .int .i64 0] 39)
    have hD := hB.trans (hC4.mono hB.size)
    repeat (first | exact hD | refine Below.setCell ?_ (by simp; try omega) _)
  · have HK := Lib.hid hk
    clear hk
    go_enter Tryz.func24, Tryz.ntmps24
    go_wp2_with fail
    refine (valid_is H.out _).mono ?_
    rintro x w1 ⟨rfl, hb1⟩
    obtain ⟨hcc, hff⟩ := bcell hb1
    go_wp2_with fail
    refine (isPartial_is HK.out _).mono ?_
    rintro x w' ⟨rfl, rfl⟩
    go_wp2_with fail
    refine (listOf_any _ _ _ _ _ _).mono ?_
    rintro x w2 ⟨g2, c2, rfl, hg2, ho2, hb2⟩
    have q0 : w2.cell? ⟨g2, 1, none⟩ = some (.int .i64 b) := ho2.cellAt 1 (by omega)
    have z0 := ho2.frozenAt 1
    have hi2 := IntsAt.of_own (zs := [a', b', c', d', e']) (ho2.stored 1 (.int .i64 b')).1
    have hC2 := (below_two hb1 hb2 (Nat.le_refl _)).setCell (p := ⟨g2, 1, none⟩) (Nat.le_trans hb1.size hg2) (.int .i64 b')
    go_wp2_with fail
    refine (soundOf_any _ _ a' b' c' d' e' _ hi2).mono ?_
    rintro x w3 ⟨rfl, hb3⟩
    have hC3 := below_two hC2 hb3 (Nat.le_refl _)
    clear hcc hff
    go_wp2_with fail
    refine (valid_is HN.out _).mono ?_
    rintro x w4 ⟨rfl, hb4⟩
    have hC4 := below_two hC3 hb4 (Nat.le_refl _)
    obtain ⟨hcc, hff⟩ := bcell hC4
    go_wp2
    refine bodyPost_ret (v := .tuple #[.agg #[.int .i64 0, .int .i64 0, .int .i64 0, .int .i64 0, .int .i64 0], .int .i64 6]) (by simp [results, Tryz.results24, go_sem, hcc]) rfl ⟨rfl, ?_⟩
    have hz := hC4.size
    simp only [World.size_alloc] at hz
    have hB := ((Below.refl w.heap.size w).alloc (Nat.le_refl _) (.cells #[.int .i64 a', .int .i64 b, .int .i64 c', .int .i64 d', .int .i64 e'] 39)).alloc (by simp) (.cells #[.int .i64 0, .int .i64 0, .int .i64 0, .int .i64 0, .int .i64 0] 39)
    have hD := hB.trans (hC4.mono hB.size)
    repeat (first | exact hD | refine Below.setCell ?_ (by simp; try omega) _)
  · have HK := Lib.hid hk
    clear hk
    go_enter Tryz.func24, Tryz.ntmps24
    go_wp2_with fail
    refine (valid_is H.out _).mono ?_
    rintro x w1 ⟨rfl, hb1⟩
    obtain ⟨hcc, hff⟩ := bcell hb1
    go_wp2_with fail
    refine (isPartial_is HK.out _).mono ?_
    rintro x w' ⟨rfl, rfl⟩
    go_wp2_with fail
    refine (listOf_any _ _ _ _ _ _).mono ?_
    rintro x w2 ⟨g2, c2, rfl, hg2, ho2, hb2⟩
    have q0 : w2.cell? ⟨g2, 2, none⟩ = some (.int .i64 c) := ho2.cellAt 2 (by omega)
    have z0 := ho2.frozenAt 2
    have hi2 := IntsAt.of_own (zs := [a', b', c', d', e']) (ho2.stored 2 (.int .i64 c')).1
    have hC2 := (below_two hb1 hb2 (Nat.le_refl _)).setCell (p := ⟨g2, 2, none⟩) (Nat.le_trans hb1.size hg2) (.int .i64 c')
    go_wp2_with fail
    refine (soundOf_any _ _ a' b' c' d' e' _ hi2).mono ?_
    rintro x w3 ⟨rfl, hb3⟩
    have hC3 := below_two hC2 hb3 (Nat.le_refl _)
    clear hcc hff
    go_wp2_with fail
    refine (valid_is HN.out _).mono ?_
    rintro x w4 ⟨rfl, hb4⟩
    have hC4 := below_two hC3 hb4 (Nat.le_refl _)
    obtain ⟨hcc, hff⟩ := bcell hC4
    go_wp2
    refine bodyPost_ret (v := .tuple #[.agg #[.int .i64 0, .int .i64 0, .int .i64 0, .int .i64 0, .int .i64 0], .int .i64 6]) (by simp [results, Tryz.results24, go_sem, hcc]) rfl ⟨rfl, ?_⟩
    have hz := hC4.size
    simp only [World.size_alloc] at hz
    have hB := ((Below.refl w.heap.size w).alloc (Nat.le_refl _) (.cells #[.int .i64 a', .int .i64 b', .int .i64 c, .int .i64 d', .int .i64 e'] 39)).alloc (by simp) (.cells #[.int .i64 0, .int .i64 0, .int .i64 0, .int .i64 0, .int .i64 0] 39)
    have hD := hB.trans (hC4.mono hB.size)
    repeat (first | exact hD | refine Below.setCell ?_ (by simp; try omega) _)
  · have HK := Lib.hid hk
    clear hk
    go_enter Tryz.func24, Tryz.ntmps24
    go_wp2_with fail
    refine (valid_is H.out _).mono ?_
    rintro x w1 ⟨rfl, hb1⟩
    obtain ⟨hcc, hff⟩ := bcell hb1
    go_wp2_with fail
    refine (isPartial_is HK.out _).mono ?_
    rintro x w' ⟨rfl, rfl⟩
    go_wp2_with fail
    refine (listOf_any _ _ _ _ _ _).mono ?_
    rintro x w2 ⟨g2, c2, rfl, hg2, ho2, hb2⟩
    have q0 : w2.cell? ⟨g2, 3, none⟩ = some (.int .i64 d) := ho2.cellAt 3 (by omega)
    have z0 := ho2.frozenAt 3
    have hi2 := IntsAt.of_own (zs := [a', b', c', d', e']) (ho2.stored 3 (.int .i64 d')).1
    have hC2 := (below_two hb1 hb2 (Nat.le_refl _)).setCell (p := ⟨g2, 3, none⟩) (Nat.le_trans hb1.size hg2) (.int .i64 d')
    go_wp2_with fail
    refine (soundOf_any _ _ a' b' c' d' e' _ hi2).mono ?_
    rintro x w3 ⟨rfl, hb3⟩
    have hC3 := below_two hC2 hb3 (Nat.le_refl _)
    clear hcc hff
    go_wp2_with fail
    refine (valid_is HN.out _).mono ?_
    rintro x w4 ⟨rfl, hb4⟩
    have hC4 := below_two hC3 hb4 (Nat.le_refl _)
    obtain ⟨hcc, hff⟩ := bcell hC4
    go_wp2
    refine bodyPost_ret (v := .tuple #[.agg #[.int .i64 0, .int .i64 0, .int .i64 0, .int .i64 0, .int .i64 0], .int .i64 6]) (by simp [results, Tryz.results24, go_sem, hcc]) rfl ⟨rfl, ?_⟩
    have hz := hC4.size
    simp only [World.size_alloc] at hz
    have hB := ((Below.refl w.heap.size w).alloc (Nat.le_refl _) (.cells #[.int .i64 a', .int .i64 b', .int .i64 c', .int .i64 d, .int .i64 e'] 39)).alloc (by simp) (.cells #[.int .i64 0, .int .i64 0, .int .i64 0, .int .i64 0, .int .i64 0] 39)
    have hD := hB.trans (hC4.mono hB.size)
    repeat (first | exact hD | refine Below.setCell ?_ (by simp; try omega) _)
  · have HK := Lib.hid hk
    clear hk
    go_enter Tryz.func24, Tryz.ntmps24
    go_wp2_with fail
    refine (valid_is H.out _).mono ?_
    rintro x w1 ⟨rfl, hb1⟩
    obtain ⟨hcc, hff⟩ := bcell hb1
    go_wp2_with fail
    refine (isPartial_is HK.out _).mono ?_
    rintro x w' ⟨rfl, rfl⟩
    go_wp2_with fail
    refine (listOf_any _ _ _ _ _ _).mono ?_
    rintro x w2 ⟨g2, c2, rfl, hg2, ho2, hb2⟩
    have q0 : w2.cell? ⟨g2, 4, none⟩ = some (.int .i64 e) := ho2.cellAt 4 (by omega)
    have z0 := ho2.frozenAt 4
    have hi2 := IntsAt.of_own (zs := [a', b', c', d', e']) (ho2.stored 4 (.int .i64 e')).1
    have hC2 := (below_two hb1 hb2 (Nat.le_refl _)).setCell (p := ⟨g2, 4, none⟩) (Nat.le_trans hb1.size hg2) (.int .i64 e')
    go_wp2_with fail
    refine (soundOf_any _ _ a' b' c' d' e' _ hi2).mono ?_
    rintro x w3 ⟨rfl, hb3⟩
    have hC3 := below_two hC2 hb3 (Nat.le_refl _)
    clear hcc hff
    go_wp2_with fail
    refine (valid_is HN.out _).mono ?_
    rintro x w4 ⟨rfl, hb4⟩
    have hC4 := below_two hC3 hb4 (Nat.le_refl _)
    obtain ⟨hcc, hff⟩ := bcell hC4
    go_wp2
    refine bodyPost_ret (v := .tuple #[.agg #[.int .i64 0, .int .i64 0, .int .i64 0, .int .i64 0, .int .i64 0], .int .i64 6]) (by simp [results, Tryz.results24, go_sem, hcc]) rfl ⟨rfl, ?_⟩
    have hz := hC4.size
    simp only [World.size_alloc] at hz
    have hB := ((Below.refl w.heap.size w).alloc (Nat.le_refl _) (.cells #[.int .i64 a', .int .i64 b', .int .i64 c', .int .i64 d', .int .i64 e] 39)).alloc (by simp) (.cells #[.int .i64 0, .int .i64 0, .int .i64 0, .int .i64 0, .int .i64 0] 39)
    have hD := hB.trans (hC4.mono hB.size)
    repeat (first | exact hD | refine Below.setCell ?_ (by simp; try omega) _)
set_option maxRecDepth 100000 in
set_option maxHeartbeats 8000000 in
theorem with_ok {a b c d e k f a' b' c' d' e' : Int} (w : World) (h : sB a b c d e = true) (hk : inB k 1 5 = true) (hu : upd5 a b c d e k f a' b' c' d' e') (hn : sB a' b' c' d' e' = true) :
    Calls Tryz.prog 24 #[.agg #[.int .i64 a, .int .i64 b, .int .i64 c, .int .i64 d, .int .i64 e], .int .i64 k, .int .i64 f] w fun x w' => x = .returned (.tuple #[.agg #[.int .i64 a', .int .i64 b', .int .i64 c', .int .i64 d', .int .i64 e'], .int .i64 0]) ∧ Below w.heap.size w w' := by
  have H := Lib.hid h
  have HN := Lib.hid hn
  clear h hn
  rcases hu with ⟨rfl, rfl, rfl, rfl, rfl, rfl⟩ | ⟨rfl, rfl, rfl, rfl, rfl, rfl⟩ | ⟨rfl, rfl, rfl, rfl, rfl, rfl⟩ | ⟨rfl, rfl, rfl, rfl, rfl, rfl⟩ | ⟨rfl, rfl, rfl, rfl, rfl, rfl⟩
  · have HK := Lib.hid hk
    clear hk
    go_enter Tryz.func24, Tryz.ntmps24
    go_wp2_with fail
    refine (valid_is H.out _).mono ?_
    rintro x w1 ⟨rfl, hb1⟩
    obtain ⟨hcc, hff⟩ := bcell hb1
    go_wp2_with fail
    refine (isPartial_is HK.out _).mono ?_
    rintro x w' ⟨rfl, rfl⟩
    go_wp2_with fail
    refine (listOf_any _ _ _ _ _ _).mono ?_
    rintro x w2 ⟨g2, c2, rfl, hg2, ho2, hb2⟩
    have q0 : w2.cell? ⟨g2, 0, none⟩ = some (.int .i64 a) := ho2.cellAt 0 (by omega)
    have z0 := ho2.frozenAt 0
    have hi2 := IntsAt.of_own (zs := [a', b', c', d', e']) (ho2.stored 0 (.int .i64 a')).1
    have hC2 := (below_two hb1 hb2 (Nat.le_refl _)).setCell (p := ⟨g2, 0, none⟩) (Nat.le_trans hb1.size hg2) (.int .i64 a')
    go_wp2_with fail
    refine (soundOf_any _ _ a' b' c' d' e' _ hi2).mono ?_
    rintro x w3 ⟨rfl, hb3⟩
    have hC3 := below_two hC2 hb3 (Nat.le_refl _)
    clear hcc hff
    go_wp2_with fail
    refine (valid_is HN.out _).mono ?_
    rintro x w4 ⟨rfl, hb4⟩
    have hC4 := below_two hC3 hb4 (Nat.le_refl _)
    have hi4 : IntsAt w4 (some ⟨g2, 0, none⟩) 5 [a', b', c', d', e'] := (hi2.below hb3).below hb4
    obtain ⟨hcc, hff⟩ := bcell hC4
    go_wp2_with fail
    refine (soundOf_any _ _ a' b' c' d' e' _ hi4).mono ?_
    rintro x w5 ⟨rfl, hb5⟩
    have hC5 := below_two hC4 hb5 (Nat.le_refl _)
    clear hcc hff
    obtain ⟨hcc, hff⟩ := bcell hC5
    go_wp2
    refine bodyPost_ret (v := .tuple #[.agg #[.int .i64 a', .int .i64 b', .int .i64 c', .int .i64 d', .int .i64 e'], .int .i64 0]) (by simp [results, Tryz.results24, go_sem, hcc]) rfl ⟨rfl, ?_⟩
    have hz := hC5.size
    simp only [World.size_alloc] at hz
    have hB := ((Below.refl w.heap.size w).alloc (Nat.le_refl _) (.cells #[.int .i64 a, .int .i64 b', .int .i64 c', .int .i64 d', .int .i64 e'] 39)).alloc (by simp) (.cells #[.int .i64 0, .int .i64 0, .int .i64 0, .int .i64 0, .int .i64 0] 39)
    have hD := hB.trans (hC5.mono hB.size)
    repeat (first | exact hD | refine Below.setCell ?_ (by simp; try omega) _)
  · have HK := Lib.hid hk
    clear hk
    go_enter Tryz.func24, Tryz.ntmps24
    go_wp2_with fail
    refine (valid_is H.out _).mono ?_
    rintro x w1 ⟨rfl, hb1⟩
    obtain ⟨hcc, hff⟩ := bcell hb1
    go_wp2_with fail
    refine (isPartial_is HK.out _).mono ?_
    rintro x w' ⟨rfl, rfl⟩
    go_wp2_with fail
    refine (listOf_any _ _ _ _ _ _).mono ?_
    rintro x w2 ⟨g2, c2, rfl, hg2, ho2, hb2⟩
    have q0 : w2.cell? ⟨g2, 1, none⟩ = some (.int .i64 b) := ho2.cellAt 1 (by omega)
    have z0 := ho2.frozenAt 1
    have hi2 := IntsAt.of_own (zs := [a', b', c', d', e']) (ho2.stored 1 (.int .i64 b')).1
    have hC2 := (below_two hb1 hb2 (Nat.le_refl _)).setCell (p := ⟨g2, 1, none⟩) (Nat.le_trans hb1.size hg2) (.int .i64 b')
    go_wp2_with fail
    refine (soundOf_any _ _ a' b' c' d' e' _ hi2).mono ?_
    rintro x w3 ⟨rfl, hb3⟩
    have hC3 := below_two hC2 hb3 (Nat.le_refl _)
    clear hcc hff
    go_wp2_with fail
    refine (valid_is HN.out _).mono ?_
    rintro x w4 ⟨rfl, hb4⟩
    have hC4 := below_two hC3 hb4 (Nat.le_refl _)
    have hi4 : IntsAt w4 (some ⟨g2, 0, none⟩) 5 [a', b', c', d', e'] := (hi2.below hb3).below hb4
    obtain ⟨hcc, hff⟩ := bcell hC4
    go_wp2_with fail
    refine (soundOf_any _ _ a' b' c' d' e' _ hi4).mono ?_
    rintro x w5 ⟨rfl, hb5⟩
    have hC5 := below_two hC4 hb5 (Nat.le_refl _)
    clear hcc hff
    obtain ⟨hcc, hff⟩ := bcell hC5
    go_wp2
    refine bodyPost_ret (v := .tuple #[.agg #[.int .i64 a', .int .i64 b', .int .i64 c', .int .i64 d', .int .i64 e'], .int .i64 0]) (by simp [results, Tryz.results24, go_sem, hcc]) rfl ⟨rfl, ?_⟩
    have hz := hC5.size
    simp only [World.size_alloc] at hz
    have hB := ((Below.refl w.heap.size w).alloc (Nat.le_refl _) (.cells #[.int .i64 a', .int .i64 b, .int .i64 c', .int .i64 d', .int .i64 e'] 39)).alloc (by simp) (.cells #[.int .i64 0, .int .i64 0, .int .i64 0, .int .i64 0, .int .i64 0] 39)
    have hD := hB.trans (hC5.mono hB.size)
    repeat (first | exact hD | refine Below.setCell ?_ (by simp; try omega) _)
  · have HK := Lib.hid hk
    clear hk
    go_enter Tryz.func24, Tryz.ntmps24
    go_wp2_with fail
    refine (valid_is H.out _).mono ?_
    rintro x w1 ⟨rfl, hb1⟩
    obtain ⟨hcc, hff⟩ := bcell hb1
    go_wp2_with fail
    refine (isPartial_is HK.out _).mono ?_
    rintro x w' ⟨rfl, rfl⟩
    go_wp2_with fail
    refine (listOf_any _ _ _ _ _ _).mono ?_
    rintro x w2 ⟨g2, c2, rfl, hg2, ho2, hb2⟩
    have q0 : w2.cell? ⟨g2, 2, none⟩ = some (.int .i64 c) := ho2.cellAt 2 (by omega)
    have z0 := ho2.frozenAt 2
    have hi2 := IntsAt.of_own (zs := [a', b', c', d', e']) (ho2.stored 2 (.int .i64 c')).1
    have hC2 := (below_two hb1 hb2 (Nat.le_refl _)).setCell (p := ⟨g2, 2, none⟩) (Nat.le_trans hb1.size hg2) (.int .i64 c')
    go_wp2_with fail
    refine (soundOf_any _ _ a' b' c' d' e' _ hi2).mono ?_
    rintro x w3 ⟨rfl, hb3⟩
    have hC3 := below_two hC2 hb3 (Nat.le_refl _)
    clear hcc hff
    go_wp2_with fail
    refine (valid_is HN.out _).mono ?_
    rintro x w4 ⟨rfl, hb4⟩
    have hC4 := below_two hC3 hb4 (Nat.le_refl _)
    have hi4 : IntsAt w4 (some ⟨g2, 0, none⟩) 5 [a', b', c', d', e'] := (hi2.below hb3).below hb4
    obtain ⟨hcc, hff⟩ := bcell hC4
    go_wp2_with fail
    refine (soundOf_any _ _ a' b' c' d' e' _ hi4).mono ?_
    rintro x w5 ⟨rfl, hb5⟩
    have hC5 := below_two hC4 hb5 (Nat.le_refl _)
    clear hcc hff
    obtain ⟨hcc, hff⟩ := bcell hC5
    go_wp2
    refine bodyPost_ret (v := .tuple #[.agg #[.int .i64 a', .int .i64 b', .int .i64 c', .int .i64 d', .int .i64 e'], .int .i64 0]) (by simp [results, Tryz.results24, go_sem, hcc]) rfl ⟨rfl, ?_⟩
    have hz := hC5.size
    simp only [World.size_alloc] at hz
    have hB := ((Below.refl w.heap.size w).alloc (Nat.le_refl _) (.cells #[.int .i64 a', .int .i64 b', .int .i64 c, .int .i64 d', .int .i64 e'] 39)).alloc (by simp) (.cells #[.int .i64 0, .int .i64 0, .int .i64 0, .int .i64 0, .int .i64 0] 39)
    have hD := hB.trans (hC5.mono hB.size)
    repeat (first | exact hD | refine Below.setCell ?_ (by simp; try omega) _)
  · have HK := Lib.hid hk
    clear hk
    go_enter Tryz.func24, Tryz.ntmps24
    go_wp2_with fail
    refine (valid_is H.out _).mono ?_
    rintro x w1 ⟨rfl, hb1⟩
    obtain ⟨hcc, hff⟩ := bcell hb1
    go_wp2_with fail
    refine (isPartial_is HK.out _).mono ?_
    rintro x w' ⟨rfl, rfl⟩
    go_wp2_with fail
    refine (listOf_any _ _ _ _ _ _).mono ?_
    rintro x w2 ⟨g2, c2, rfl, hg2, ho2, hb2⟩
    have q0 : w2.cell? ⟨g2, 3, none⟩ = some (.int .i64 d) := ho2.cellAt 3 (by omega)
    have z0 := ho2.frozenAt 3
    have hi2 := IntsAt.of_own (zs := [a', b', c', d', e']) (ho2.stored 3 (.int .i64 d')).1
    have hC2 := (below_two hb1 hb2 (Nat.le_refl _)).setCell (p := ⟨g2, 3, none⟩) (Nat.le_trans hb1.size hg2) (.int .i64 d')
    go_wp2_with fail
    refine (soundOf_any _ _ a' b' c' d' e' _ hi2).mono ?_
    rintro x w3 ⟨rfl, hb3⟩
    have hC3 := below_two hC2 hb3 (Nat.le_refl _)
    clear hcc hff
    go_wp2_with fail
    refine (valid_is HN.out _).mono ?_
    rintro x w4 ⟨rfl, hb4⟩
    have hC4 := below_two hC3 hb4 (Nat.le_refl _)
    have hi4 : IntsAt w4 (some ⟨g2, 0, none⟩) 5 [a', b', c', d', e'] := (hi2.below hb3).below hb4
    obtain ⟨hcc, hff⟩ := bcell hC4
    go_wp2_with fail
    refine (soundOf_any _ _ a' b' c' d' e' _ hi4).mono ?_
    rintro x w5 ⟨rfl, hb5⟩
    have hC5 := below_two hC4 hb5 (Nat.le_refl _)
    clear hcc hff
    obtain ⟨hcc, hff⟩ := bcell hC5
    go_wp2
    refine bodyPost_ret (v := .tuple #[.agg #[.int .i64 a', .int .i64 b', .int .i64 c', .int .i64 d', .int .i64 e'], .int .i64 0]) (by simp [results, Tryz.results24, go_sem, hcc]) rfl ⟨rfl, ?_⟩
    have hz := hC5.size
    simp only [World.size_alloc] at hz
    have hB := ((Below.refl w.heap.size w).alloc (Nat.le_refl _) (.cells #[.int .i64 a', .int .i64 b', .int .i64 c', .int .i64 d, .int .i64 e'] 39)).alloc (by simp) (.cells #[.int .i64 0, .int .i64 0, .int .i64 0, .int .i64 0, .int .i64 0] 39)
    have hD := hB.trans (hC5.mono hB.size)
    repeat (first | exact hD | refine Below.setCell ?_ (by simp; try omega) _)
  · have HK := Lib.hid hk
    clear hk
    go_enter Tryz.func24, Tryz.ntmps24
    go_wp2_with fail
    refine (valid_is H.out _).mono ?_
    rintro x w1 ⟨rfl, hb1⟩
    obtain ⟨hcc, hff⟩ := bcell hb1
    go_wp2_with fail
    refine (isPartial_is HK.out _).mono ?_
    rintro x w' ⟨rfl, rfl⟩
    go_wp2_with fail
    refine (listOf_any _ _ _ _ _ _).mono ?_
    rintro x w2 ⟨g2, c2, rfl, hg2, ho2, hb2⟩
    have q0 : w2.cell? ⟨g2, 4, none⟩ = some (.int .i64 e) := ho2.cellAt 4 (by omega)
    have z0 := ho2.frozenAt 4
    have hi2 := IntsAt.of_own (zs := [a', b', c', d', e']) (ho2.stored 4 (.int .i64 e')).1
    have hC2 := (below_two hb1 hb2 (Nat.le_refl _)).setCell (p := ⟨g2, 4, none⟩) (Nat.le_trans hb1.size hg2) (.int .i64 e')
    go_wp2_with fail
    refine (soundOf_any _ _ a' b' c' d' e' _ hi2).mono ?_
    rintro x w3 ⟨rfl, hb3⟩
    have hC3 := below_two hC2 hb3 (Nat.le_refl _)
    clear hcc hff
    go_wp2_with fail
    refine (valid_is HN.out _).mono ?_
    rintro x w4 ⟨rfl, hb4⟩
    have hC4 := below_two hC3 hb4 (Nat.le_refl _)
    have hi4 : IntsAt w4 (some ⟨g2, 0, none⟩) 5 [a', b', c', d', e'] := (hi2.below hb3).below hb4
    obtain ⟨hcc, hff⟩ := bcell hC4
    go_wp2_with fail
    refine (soundOf_any _ _ a' b' c' d' e' _ hi4).mono ?_
    rintro x w5 ⟨rfl, hb5⟩
    have hC5 := below_two hC4 hb5 (Nat.le_refl _)
    clear hcc hff
    obtain ⟨hcc, hff⟩ := bcell hC5
    go_wp2
    refine bodyPost_ret (v := .tuple #[.agg #[.int .i64 a', .int .i64 b', .int .i64 c', .int .i64 d', .int .i64 e'], .int .i64 0]) (by simp [results, Tryz.results24, go_sem, hcc]) rfl ⟨rfl, ?_⟩
    have hz := hC5.size
    simp only [World.size_alloc] at hz
    have hB := ((Below.refl w.heap.size w).alloc (Nat.le_refl _) (.cells #[.int .i64 a', .int .i64 b', .int .i64 c', .int .i64 d', .int .i64 e] 39)).alloc (by simp) (.cells #[.int .i64 0, .int .i64 0, .int .i64 0, .int .i64 0, .int .i64 0] 39)
    have hD := hB.trans (hC5.mono hB.size)
    repeat (first | exact hD | refine Below.setCell ?_ (by simp; try omega) _)
end Go.Proofs.YtkbfmjnekeipcaaGreatDoor
