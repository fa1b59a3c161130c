/- Contracts of the reference's drawn kinds, and of a drawn sound with a partial and a frequency. -/
import Derived.Test.YtkbfmjnekeipcaaGreatDoorDrawT
import Derived.Test.YtkbfmjnekeipcaaGreatDoorPart
namespace Go.Proofs.YtkbfmjnekeipcaaGreatDoor
open Go.ChangeShapes Go.WideShapes Go.ChangeAt Go.RowKit
set_option maxRecDepth 100000

set_option maxHeartbeats 1000000 in
theorem drawKindS (g K : Nat) (w : World) (h : Src w g K) (hK : K ≤ 800000) :
    Calls Tryz.prog 40 #[.pointer (some ⟨g, 0, none⟩)] w fun e w' => ∃ x : Int, e = .returned (.int .i64 x) ∧ 0 ≤ x ∧ x ≤ 3 ∧ Src w' g (K + 4) ∧ w.grownBy w' (some g) := by
  have HP := Lib.hid (oneS g K 9 w h (by omega) (by omega) (by omega))
  clear h
  go_enter Tryz.func40, Tryz.ntmps40
  go_wp2_with fail
  refine HP.out.mono ?_
  rintro e w1 ⟨b, rfl, hS, hG⟩
  have HG := Lib.hid hG
  have hl1 := hS.lt
  cases b
  · have HD := Lib.hid (pickS g (K + 2) 2 w1 hS (by omega) (by omega) (by omega))
    clear hS hG
    go_wp2_with fail
    refine HD.out.mono ?_
    rintro e w2 ⟨x, rfl, x0, x1, hS2, hG2⟩
    have HS2 := Lib.hid hS2
    have HG2 := Lib.hid (HG.out.trans hG2)
    clear hS2 hG2
    go_wp2
    go_ret
    exact ⟨_, rfl, by omega, by omega, HS2.out, HG2.out⟩
  · have HS := Lib.hid hS
    clear hS hG
    go_wp2_with fail
    refine (amongS g (K + 2) _ 2 2 [0, 3] _ (HS.out.alloc _) (by omega) (IntsAt.new _ [0, 3] _) (fun a ha e => by cases ha; simp at e; omega) (by omega) (by omega)).mono ?_
    rintro e w2 ⟨x, rfl, hx, hS2, hG2⟩
    have HS2 := Lib.hid hS2
    have HG2 := Lib.hid ((HG.out.trans (World.grownBy_alloc w1 _ _)).trans hG2)
    have HX : 0 ≤ x ∧ x ≤ 3 := by
      simp only [List.mem_cons, List.mem_nil_iff, or_false] at hx
      omega
    clear hS2 hG2 hx
    go_wp2
    go_ret
    exact ⟨_, rfl, HX.1, HX.2, HS2.out, HG2.out⟩
theorem drawIdeal (A : Option Addr) (n c : Nat) (xs : List UInt8) (w : World) (hb : BytesAt w A n xs) :
    Calls Tryz.prog 17 #[.slice A n c] w fun e w' => PairRet w e w' := by
  have HF := Lib.hid (fromS A n c xs w hb)
  clear hb
  go_enter Tryz.func17, Tryz.ntmps17
  go_wp2_with fail
  refine HF.out.mono ?_
  rintro e w1 ⟨g, rfl, hg, hS, hb1⟩
  have HB1 := Lib.hid hb1
  have HD := Lib.hid (drawS g 0 w1 hS (by omega))
  have hl1 := hb1.size
  clear hb1 hS
  go_wp2_with fail
  refine HD.out.mono ?_
  rintro e w2 ⟨x, rfl, x0, x1, hS, hG⟩
  have HG2 := Lib.hid hG
  have HD2 := Lib.hid (drawKindS g (0 + 6) w2 hS (by omega))
  clear hG hS
  go_wp2_with fail
  refine HD2.out.mono ?_
  rintro e w3 ⟨y, rfl, y0, y1, _, hG⟩
  have HB3 := Lib.hid (below_grown HB1.out (HG2.out.trans hG) hg hl1)
  clear hG
  go_wp2
  go_ret2
  exact ⟨x, y, rfl, by omega, by omega, HB3.out⟩
theorem SBox.drewN {w : World} {q : Nat} {x0 x1 x2 x3 x4 : Int} (h : SBox w q x0 x1 x2 x3 x4) (k : Nat) : SBox (w.drewN k) q x0 x1 x2 x3 x4 := ⟨h.c0, h.c1, h.c2, h.c3, h.c4, h.f, h.lt⟩
theorem nth_row {w : World} {base L cL : Nat} {a b c d e k : Int} (h : w.ownsRow base 2 1 (.slice (some ⟨L, 0, none⟩) 5 cL) 5 ([a, b, c, d, e].map (Value.int .i64))) (hk : inB k 1 5 = true) (j : Nat) (hj : (j : Int) = k - 1) :
    w.cell? ⟨L, j, none⟩ = some (.int .i64 (nth5 a b c d e k)) := by
  have hb := inB_iff.1 hk
  rw [h.cellAt j (by omega)]
  rcases five_cases hk with rfl | rfl | rfl | rfl | rfl
  · obtain rfl : j = 0 := by omega
    rfl
  · obtain rfl : j = 1 := by omega
    rfl
  · obtain rfl : j = 2 := by omega
    rfl
  · obtain rfl : j = 3 := by omega
    rfl
  · obtain rfl : j = 4 := by omega
    rfl
/-- A sound, a number and a frequency, whatever they are. -/
def WithRet (w : World) (x : Ending) (w' : World) : Prop := ∃ a b c d e k f : Int, x = .returned (.tuple #[.agg #[.int .i64 a, .int .i64 b, .int .i64 c, .int .i64 d, .int .i64 e], .int .i64 k, .int .i64 f]) ∧ Below w.heap.size w w'
set_option maxRecDepth 100000 in
set_option maxHeartbeats 8000000 in
theorem drawWith (A : Option Addr) (n cc : Nat) (xs : List UInt8) (w : World) (hb : BytesAt w A n xs) :
    Calls Tryz.prog 23 #[.slice A n cc] w fun x w' => WithRet w x w' := by
  have hbA : Below w.heap.size w (w.alloc (.cells #[.int .i64 0, .int .i64 0, .int .i64 0, .int .i64 0, .int .i64 0] 39)) := (Below.refl _ _).alloc (Nat.le_refl _) _
  have HF := Lib.hid (fromS A n cc xs _ (CellsAt.below hb hbA))
  have HX0 := Lib.hid (SBox.new w 0 0 0 0 0 39)
  have HB0 := Lib.hid hbA
  clear hb hbA
  go_enter Tryz.func23, Tryz.ntmps23
  go_wp2_with fail
  refine HF.out.mono ?_
  rintro x w1 ⟨g, rfl, hg, hS1, hb1⟩
  simp only [World.size_alloc] at hg
  have HX1 := Lib.hid (HX0.out.below hb1)
  have HB1 := Lib.hid (HB0.out.trans (hb1.mono HB0.out.size))
  have HD := Lib.hid (drawSoundS g 0 w1 hS1 (by omega))
  clear hb1 hS1 HF HX0 HB0
  go_wp2_with fail
  refine HD.out.mono ?_
  rintro x w2 ⟨a, b, c, d, e, rfl, hS2, hG2⟩
  have hX2 := HX1.out.grown hG2 (by omega)
  have hlt2 : w.heap.size < w2.heap.size := hX2.lt
  have hg2 : g < w2.heap.size := hS2.lt
  have hb2 : Below w2.heap.size w2 (w2.alloc (.cells #[.int .i64 a, .int .i64 b, .int .i64 c, .int .i64 d, .int .i64 e] 39)) := (Below.refl _ _).alloc (Nat.le_refl _) _
  have HX3 := Lib.hid (hX2.below hb2)
  have HY3 := Lib.hid (SBox.new w2 a b c d e 39)
  have HB3 := Lib.hid ((below_grown HB1.out hG2 (by omega) HB1.out.size).alloc (Nat.le_of_lt hlt2) (.cells #[.int .i64 a, .int .i64 b, .int .i64 c, .int .i64 d, .int .i64 e] 39))
  have HP := Lib.hid (pickS g (0 + 30) 7 _ (hS2.below hb2) (by omega) (by omega) (by omega))
  clear hS2 hG2 hX2 hb2 HX1 HB1 HD
  go_wp2_with fail
  refine HP.out.mono ?_
  rintro x w4 ⟨k, rfl, k0, k1, hS4, hG4⟩
  have HX4 := Lib.hid (HX3.out.grown hG4 (by omega))
  have HY4 := Lib.hid (HY3.out.grown hG4 (by omega))
  have HB4 := Lib.hid (below_grown HB3.out hG4 (by omega) HB3.out.size)
  have HD := Lib.hid (drawS g (0 + 30 + 2) w4 hS4 (by omega))
  clear hS4 hG4 HX3 HY3 HB3 HP
  go_wp2_with fail
  refine HD.out.mono ?_
  rintro x w5 ⟨f, rfl, f0, f1, hS5, hG5⟩
  have HX5 := Lib.hid (HX4.out.grown hG5 (by omega))
  have HY5 := Lib.hid (HY4.out.grown hG5 (by omega))
  have HB5 := Lib.hid (below_grown HB4.out hG5 (by omega) HB4.out.size)
  have HS5 := Lib.hid hS5
  have HO := Lib.hid (oneS g (0 + 30 + 2 + 6) 2 w5 hS5 (by omega) (by omega) (by omega))
  clear hS5 hG5 HX4 HY4 HB4 HD
  cases hk : inB k 1 5
  · obtain ⟨q0', q1', q2', q3', q4', qf, qlt⟩ := HX5.out
    obtain ⟨y0', y1', y2', y3', y4', yf, ylt⟩ := HY5.out
    go_wp2_with (go_at_call 57; refine (l04Partial_is hk _).mono ?_; rintro x w' ⟨rfl, rfl⟩)
    refine bodyPost_ret (v := .tuple #[.agg #[.int .i64 a, .int .i64 b, .int .i64 c, .int .i64 d, .int .i64 e], .int .i64 k, .int .i64 (f)]) (by simp [results, Tryz.results23, go_sem, q0', q1', q2', q3', q4']) rfl ⟨a, b, c, d, e, k, f, rfl, ?_⟩
    (repeat (refine Below.setCell ?_ (by simp) _)); exact HB5.out
  · go_wp2_with (go_at_call 57; refine (l04Partial_is hk _).mono ?_; rintro x w' ⟨rfl, rfl⟩)
    refine HO.out.mono ?_
    rintro x w6 ⟨bb, rfl, hS6, hG6⟩
    have HX6 := Lib.hid (HX5.out.grown hG6 (by omega))
    have HY6 := Lib.hid (HY5.out.grown hG6 (by omega))
    have HB6 := Lib.hid (below_grown HB5.out hG6 (by omega) HB5.out.size)
    have HK := Lib.hid hk
    obtain ⟨j, hj⟩ : ∃ j : Nat, k = (j : Int) + 1 := ⟨(k - 1).toNat, by have := inB_iff.1 hk; omega⟩
    have hkb := inB_iff.1 hk
    cases bb
    · obtain ⟨q0', q1', q2', q3', q4', qf, qlt⟩ := HX6.out
      obtain ⟨y0', y1', y2', y3', y4', yf, ylt⟩ := HY6.out
      clear hS6 hG6 HX5 HY5 HB5 HS5 HO hj hkb hk
      go_wp2
      refine bodyPost_ret (v := .tuple #[.agg #[.int .i64 a, .int .i64 b, .int .i64 c, .int .i64 d, .int .i64 e], .int .i64 k, .int .i64 (f)]) (by simp [results, Tryz.results23, go_sem, q0', q1', q2', q3', q4']) rfl ⟨a, b, c, d, e, k, f, rfl, ?_⟩
      (repeat (refine Below.setCell ?_ (by simp) _)); exact HB6.out
    · have HS6 := Lib.hid (hS6.drewN 1)
      have HX6d := Lib.hid (HX6.out.drewN 1)
      have HY6d := Lib.hid (HY6.out.drewN 1)
      have hsz6 : w2.heap.size < w6.heap.size := HY6.out.lt
      have HJ := Lib.hid hj
      have hj0 : (0 : Int) ≤ (j : Int) := Int.natCast_nonneg _
      have hj5 : (j : Int) < 5 := by omega
      have hkw : IntKind.i64.wrap (k - 1) = (j : Int) := by rw [hj, Int.add_sub_cancel]; exact IntWalk.i64_in _ (by omega)
      have hgs : g < w6.heap.size := by omega
      clear hS6 hG6 HX5 HY5 HB5 HS5 HO hk hkb
      subst hj
      clear HJ
      have hkw2 : IntKind.i64.wrap (j : Int) = (j : Int) := IntWalk.i64_in _ (by omega)
      have hj4 : ¬ (5 : Int) ≤ (j : Int) := by omega
      have hjn : j < 5 := by omega
      go_wp2
      go_region_with (first
        | (go_at_call 59; first
            | (refine (l04List_any a b c d e w2.heap.size 0 _ HYP.out.c0 HYP.out.c1 HYP.out.c2 HYP.out.c3 HYP.out.c4).mono ?_; rintro x wL ⟨L, cL, rfl, hL, hoL, hbL⟩; have cZ := nth_row hoL HK.out j (by omega); have HXF := Lib.hid (HXP.out.below hbL); have HYF := Lib.hid (HYP.out.below hbL); have HBF := Lib.hid (HBP.out.trans (hbL.mono HBP.out.size)))
            | (refine (l04List_any a b c d e w2.heap.size 0 _ HY6d.out.c0 HY6d.out.c1 HY6d.out.c2 HY6d.out.c3 HY6d.out.c4).mono ?_; rintro x wL ⟨L, cL, rfl, hL, hoL, hbL⟩; have cZ := nth_row hoL HK.out j (by omega); have HSL := Lib.hid (HS6.out.below hbL); have HXL := Lib.hid (HX6d.out.below hbL); have HYL := Lib.hid (HY6d.out.below hbL); have HBL := Lib.hid ((below_drewN HB6.out 1).trans (hbL.mono (below_drewN HB6.out 1).size))))
        | (go_at_call 56; first
            | (refine (pickS g _ 5000 _ HSL.out (by omega) (by omega) (by omega)).mono ?_; rintro x wP ⟨r, rfl, r0, r1, hSP, hGP⟩; have cZ' := hGP.cell cZ (fun e0 => by have h' : L = g := Option.some.inj e0; have : w6.heap.size ≤ L := hL; omega); have HXF := Lib.hid (HXL.out.grown hGP (by omega)); have HYF := Lib.hid (HYL.out.grown hGP (by omega)); have HBF := Lib.hid (below_grown HBL.out hGP (by omega) HBL.out.size))
            | (refine (pickS g _ 5000 _ HS6.out (by omega) (by omega) (by omega)).mono ?_; rintro x wP ⟨r, rfl, r0, r1, hSP, hGP⟩; have HXP := Lib.hid (HX6d.out.grown hGP (by omega)); have HYP := Lib.hid (HY6d.out.grown hGP (by omega)); have HBP := Lib.hid (below_grown (below_drewN HB6.out 1) hGP (by omega) (below_drewN HB6.out 1).size))))
      all_goals
        obtain ⟨q0', q1', q2', q3', q4', qf, qlt⟩ := HXF.out
        obtain ⟨y0', y1', y2', y3', y4', yf, ylt⟩ := HYF.out
        clear HX6 HY6 HB6 HS6 HX6d HY6d hkw hkw2 hj4 cZ
        go_wp2
        refine bodyPost_ret (v := .tuple #[.agg #[.int .i64 a, .int .i64 b, .int .i64 c, .int .i64 d, .int .i64 e], .int .i64 ((j : Int) + 1), .int .i64 (wrap64 (wrap64 (nth5 a b c d e ((j : Int) + 1) + r) - 2000))]) (by simp [results, Tryz.results23, go_sem, q0', q1', q2', q3', q4']) rfl ⟨a, b, c, d, e, _, _, rfl, ?_⟩
        (repeat (refine Below.setCell ?_ (by simp) _)); exact HBF.out
end Go.Proofs.YtkbfmjnekeipcaaGreatDoor
