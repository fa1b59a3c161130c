/- Contracts of the reference's drawn sounds that are seldom bent, and of what is drawn beside them. -/
import Derived.Test.YtkbfmjnekeipcaaGreatDoorDrawS
namespace Go.Proofs.YtkbfmjnekeipcaaGreatDoor
open Go.ChangeShapes Go.WideShapes Go.ChangeAt Go.RowKit
set_option maxRecDepth 100000

set_option maxRecDepth 100000 in
set_option maxHeartbeats 4000000 in
theorem drawSoundS (g K : Nat) (w : World) (h : Src w g K) (hK : K ≤ 50000) :
    Calls Tryz.prog 55 #[.pointer (some ⟨g, 0, none⟩)] w fun x w' => ∃ a b c d e : Int, x = .returned (.agg #[.int .i64 a, .int .i64 b, .int .i64 c, .int .i64 d, .int .i64 e]) ∧ Src w' g (K + 30) ∧ w.grownBy w' (some g) := by
  have hg := h.lt
  have HD := Lib.hid (drawSoundOkS g K (w.alloc (.cells #[.int .i64 0, .int .i64 0, .int .i64 0, .int .i64 0, .int .i64 0] 39)) (h.alloc _) (by omega))
  have HG0 := Lib.hid (World.grownBy_alloc w (.cells #[.int .i64 0, .int .i64 0, .int .i64 0, .int .i64 0, .int .i64 0] 39) (some g))
  have HX0 := Lib.hid (SBox.new w 0 0 0 0 0 39)
  clear h
  go_enter Tryz.func55, Tryz.ntmps55
  go_wp2_with fail
  refine HD.out.mono ?_
  rintro x w1 ⟨a, b, c, d, e, rfl, hS1, hG1⟩
  have hX1 := HX0.out.grown hG1 (by omega)
  have hlt1 : w.heap.size < w1.heap.size := hX1.lt
  have hb1 : Below w1.heap.size w1 (w1.alloc (.cells #[.int .i64 a, .int .i64 b, .int .i64 c, .int .i64 d, .int .i64 e] 39)) := (Below.refl _ _).alloc (Nat.le_refl _) _
  have HX2 := Lib.hid (hX1.below hb1)
  have HY2 := Lib.hid (SBox.new w1 a b c d e 39)
  have HG2 := Lib.hid (grown_below (HG0.out.trans hG1) (hb1.mono (HG0.out.trans hG1).size))
  have HP := Lib.hid (pickS g (K + 24) 18 _ (hS1.below hb1) (by omega) (by omega) (by omega))
  clear hS1 hG1 hX1 HX0 HG0 HD hb1
  go_wp2_with fail
  refine HP.out.mono ?_
  rintro x w3 ⟨r, rfl, r0, r1, hS3, hG3⟩
  have hX3 := HX2.out.grown hG3 (by omega)
  have hY3 := HY2.out.grown hG3 (by omega)
  have HG3 := Lib.hid (HG2.out.trans hG3)
  have HS3 := Lib.hid hS3
  have hz3 : w1.heap.size < w3.heap.size := hY3.lt
  have hne : w.heap.size ≠ w1.heap.size := by omega
  clear hS3 hG3 HX2 HY2 HG2 HP
  rcases (by omega : r = 0 ∨ r = 1 ∨ r = 2 ∨ 3 ≤ r) with rfl | rfl | rfl | hr3
  · have HX3 := Lib.hid hX3
    have HY3 := Lib.hid hY3
    clear hX3 hY3
    go_wp2_with fail
    refine (amongS g (K + 26) _ 3 3 [10000, 9999, 0] _ (HS3.out.alloc _) (by omega) (IntsAt.new _ [10000, 9999, 0] _) (fun p hp e0 => by cases hp; simp at e0; omega) (by omega) (by omega)).mono ?_
    rintro x w4 ⟨y, rfl, _, hS4, hG4⟩
    have hb3 : Below w3.heap.size w3 (w3.alloc (.cells (([10000, 9999, 0] : List Int).map (Value.int .i64)).toArray 2)) := (Below.refl _ _).alloc (Nat.le_refl _) _
    obtain ⟨q0', q1', q2', q3', q4', qf, qlt⟩ := (HX3.out.below hb3).grown hG4 (by omega)
    obtain ⟨y0', y1', y2', y3', y4', yf, ylt⟩ := (HY3.out.below hb3).grown hG4 (by omega)
    have HS4 := Lib.hid hS4
    have HG4 := Lib.hid ((grown_below HG3.out (hb3.mono HG3.out.size)).trans hG4)
    clear hS4 hG4 hb3 HX3 HY3 HS3 HG3
    go_wp2
    refine bodyPost_ret (v := .agg #[.int .i64 y, .int .i64 b, .int .i64 c, .int .i64 d, .int .i64 e]) (by simp [results, Tryz.results55, go_sem, q0', q1', q2', q3', q4']) rfl ⟨y, b, c, d, e, rfl, ?_, ?_⟩
    · (repeat (refine Src.set ?_ _ _ (by simp; omega))); exact HS4.out.mono (by omega)
    · (repeat (refine grown_setNew ?_ _ _ (by simp; try omega))); exact HG4.out
  · have HX3 := Lib.hid hX3
    have HY3 := Lib.hid hY3
    have y3 := hY3.c3
    clear hX3 hY3
    go_wp2_with fail
    refine (amongS g (K + 26) _ 3 3 [20000000, 20000001, d] _ (HS3.out.alloc _) (by omega) (IntsAt.new _ [20000000, 20000001, d] _) (fun p hp e0 => by cases hp; simp at e0; omega) (by omega) (by omega)).mono ?_
    rintro x w4 ⟨y, rfl, _, hS4, hG4⟩
    have hb3 : Below w3.heap.size w3 (w3.alloc (.cells (([20000000, 20000001, d] : List Int).map (Value.int .i64)).toArray 2)) := (Below.refl _ _).alloc (Nat.le_refl _) _
    obtain ⟨q0', q1', q2', q3', q4', qf, qlt⟩ := (HX3.out.below hb3).grown hG4 (by omega)
    obtain ⟨y0', y1', y2', y3', y4', yf, ylt⟩ := (HY3.out.below hb3).grown hG4 (by omega)
    have HS4 := Lib.hid hS4
    have HG4 := Lib.hid ((grown_below HG3.out (hb3.mono HG3.out.size)).trans hG4)
    clear hS4 hG4 hb3 HX3 HY3 HS3 HG3 y3
    go_wp2
    refine bodyPost_ret (v := .agg #[.int .i64 a, .int .i64 b, .int .i64 c, .int .i64 d, .int .i64 y]) (by simp [results, Tryz.results55, go_sem, q0', q1', q2', q3', q4']) rfl ⟨a, b, c, d, y, rfl, ?_, ?_⟩
    · (repeat (refine Src.set ?_ _ _ (by simp; omega))); exact HS4.out.mono (by omega)
    · (repeat (refine grown_setNew ?_ _ _ (by simp; try omega))); exact HG4.out
  · obtain ⟨q0', q1', q2', q3', q4', qf, qlt⟩ := hX3
    obtain ⟨y0', y1', y2', y3', y4', yf, ylt⟩ := hY3
    go_wp2
    refine bodyPost_ret (v := .agg #[.int .i64 a, .int .i64 b, .int .i64 b, .int .i64 d, .int .i64 e]) (by simp [results, Tryz.results55, go_sem, q0', q1', q2', q3', q4']) rfl ⟨a, b, b, d, e, rfl, ?_, ?_⟩
    · (repeat (refine Src.set ?_ _ _ (by simp; omega))); exact HS3.out.mono (by omega)
    · (repeat (refine grown_setNew ?_ _ _ (by simp; try omega))); exact HG3.out
  · obtain ⟨q0', q1', q2', q3', q4', qf, qlt⟩ := hX3
    obtain ⟨y0', y1', y2', y3', y4', yf, ylt⟩ := hY3
    have n0 : (r == 0) = false := by rw [beq_eq_false_iff_ne]; omega
    have n1 : (r == 1) = false := by rw [beq_eq_false_iff_ne]; omega
    have n2 : (r == 2) = false := by rw [beq_eq_false_iff_ne]; omega
    go_wp2
    refine bodyPost_ret (v := .agg #[.int .i64 a, .int .i64 b, .int .i64 c, .int .i64 d, .int .i64 e]) (by simp [results, Tryz.results55, go_sem, q0', q1', q2', q3', q4']) rfl ⟨a, b, c, d, e, rfl, ?_, ?_⟩
    · (repeat (refine Src.set ?_ _ _ (by simp; omega))); exact HS3.out.mono (by omega)
    · (repeat (refine grown_setNew ?_ _ _ (by simp; try omega))); exact HG3.out
end Go.Proofs.YtkbfmjnekeipcaaGreatDoor
