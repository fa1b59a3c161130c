/- Contracts of the reference's drawn pairs of a sound and an interval. -/
import Derived.Test.YtajlgclodjgiiaaDrawT
namespace Go.Proofs.Ytajlgclodjgiiaa
open Go.ChangeShapes Go.WideShapes Go.ChangeAt Go.RowKit

/-- The five cells are written anew. -/
theorem Box5.fill {w : World} {q : Nat} {x0 x1 x2 x3 x4 : Int} (h : Box5 w q x0 x1 x2 x3 x4) (a b c d e : Int) :
    Box5 (((((w.setCell ⟨q, 0, none⟩ (.int .i64 a)).setCell ⟨q, 1, none⟩ (.int .i64 b)).setCell ⟨q, 2, none⟩ (.int .i64 c)).setCell ⟨q, 3, none⟩ (.int .i64 d)).setCell ⟨q, 4, none⟩ (.int .i64 e)) q a b c d e := by
  obtain ⟨q0', q1', q2', q3', q4', qf, qlt⟩ := h
  exact ⟨by go_simp, by go_simp, by go_simp, by go_simp, by go_simp, fun o => by simpa using qf o, by simpa using qlt⟩
set_option maxRecDepth 100000 in
set_option maxHeartbeats 4000000 in
theorem drawShift (A : Option Addr) (n cc : Nat) (xs : List UInt8) (w : World) (hb : BytesAt w A n xs) :
    Calls Try.prog 42 #[.slice A n cc] w fun x w' => ∃ a b c d e t : Int, x = .returned (.tuple #[.agg #[.int .i64 a, .int .i64 b, .int .i64 c, .int .i64 d, .int .i64 e], .int .i64 t]) ∧ -120001 ≤ t ∧ t ≤ 120001 ∧ Below w.heap.size w w' := by
  have hbA : Below w.heap.size w (w.alloc (.cells #[.int .i64 0, .int .i64 0, .int .i64 0, .int .i64 0, .int .i64 0] 25)) := (Below.refl _ _).alloc (Nat.le_refl _) _
  have HF := Lib.hid (fromS A n cc xs _ (CellsAt.below hb hbA))
  have HX0 := Lib.hid (Box5.new w 0 0 0 0 0 25)
  have HB0 := Lib.hid hbA
  clear hb hbA
  go_enter Try.func42, Try.ntmps42
  go_wp2_with fail
  refine HF.out.mono ?_
  rintro x w1 ⟨g, rfl, hg, hS1, hb1⟩
  simp only [World.size_alloc] at hg
  have HX1 := Lib.hid (HX0.out.below hb1)
  have HB1 := Lib.hid (HB0.out.trans (hb1.mono HB0.out.size))
  have HD := Lib.hid (drawSoundS g 0 w1 hS1 (by omega))
  clear hb1 hS1 HF HX0 HB0
  go_wp2_with fail
  refine HD.out.mono ?_
  rintro x w2 ⟨a, b, c, d, e, rfl, hS2, hG2⟩
  have hX2 := HX1.out.grown hG2 (by omega)
  have hlt2 : w.heap.size < w2.heap.size := hX2.lt
  have hg2 : g < w2.heap.size := hS2.lt
  have hb2 : Below w2.heap.size w2 (w2.alloc (.cells #[.int .i64 a, .int .i64 b, .int .i64 c, .int .i64 d, .int .i64 e] 25)) := (Below.refl _ _).alloc (Nat.le_refl _) _
  have hX3 := hX2.below hb2
  have hY3 := Box5.new w2 a b c d e 25
  have HB3 := Lib.hid ((below_grown HB1.out hG2 (by omega) HB1.out.size).alloc (Nat.le_of_lt hlt2) (.cells #[.int .i64 a, .int .i64 b, .int .i64 c, .int .i64 d, .int .i64 e] 25))
  have HS3 := Lib.hid (hS2.below hb2)
  have HX3 := Lib.hid hX3
  have HY3 := Lib.hid hY3
  clear hS2 hG2 hX2 hb2 HX1 HB1 HD
  clear hX3 hY3
  obtain ⟨W3, hW3⟩ : ∃ W, W = w2.alloc (.cells #[.int .i64 a, .int .i64 b, .int .i64 c, .int .i64 d, .int .i64 e] 25) := ⟨_, rfl⟩
  obtain ⟨s2, hs2⟩ : ∃ s, s = w2.heap.size := ⟨_, rfl⟩
  rw [← hW3] at HX3 HY3 HB3 HS3
  rw [← hs2] at hlt2 hg2 HY3
  have HW3 := Lib.hid hW3
  have Hs2 := Lib.hid hs2
  clear hW3 hs2
  have HI := Lib.hid (drawIntervalS g (0 + 30) W3.drew (HS3.out.drewN 1) (by omega))
  have hgt : w.heap.size < g := by omega
  go_wp2
  rw [← HW3.out, ← Hs2.out]
  clear HW3 Hs2
  obtain ⟨q0', q1', q2', q3', q4', qf, qlt⟩ := HX3.out
  obtain ⟨y0', y1', y2', y3', y4', yf, ylt⟩ := HY3.out
  have HX3d := Lib.hid (show Box5 W3.drew w.heap.size 0 0 0 0 0 from ⟨q0', q1', q2', q3', q4', qf, qlt⟩)
  have HY3d := Lib.hid (show Box5 W3.drew s2 a b c d e from ⟨y0', y1', y2', y3', y4', yf, ylt⟩)
  clear HX3 HY3
  go_region_with (go_at_call 81; refine HI.out.mono ?_; rintro x w5 ⟨t, rfl, t0, t1, hS5, hG5⟩; have HX5 := Lib.hid (HX3d.out.grown hG5 (by omega)); have HY5 := Lib.hid (HY3d.out.grown hG5 (by omega)); have HG5 := Lib.hid hG5; obtain ⟨v0', v1', v2', v3', v4', vf, vlt⟩ := HX5.out; obtain ⟨z0', z1', z2', z3', z4', zf, zlt⟩ := HY5.out; clear hS5 hG5)
  all_goals
    clear HX3d HY3d HI
    go_wp2
    refine bodyPost_ret (v := .tuple #[.agg #[.int .i64 a, .int .i64 b, .int .i64 c, .int .i64 d, .int .i64 e], .int .i64 t]) (by simp [results, Try.results42, go_sem, v0', v1', v2', v3', v4']) rfl ⟨a, b, c, d, e, t, rfl, t0, t1, ?_⟩
    (repeat (refine Below.setCell ?_ (by simp) _)); exact below_grown (below_drewN HB3.out 1) HG5.out (by omega) (below_drewN HB3.out 1).size
end Go.Proofs.Ytajlgclodjgiiaa
