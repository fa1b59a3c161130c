/- The law FnStrike of the given program holds: for every input it returns true, and its arguments read afterwards as before. No condition. -/
import Derived.Test.YtajlgclodjgiiaaBase
import Derived.Test.YtajlgclodjgiiaaStrM
import Derived.Test.YtajlgclodjgiiaaDrawW
import Derived.Test.YtajlgclodjgiiaaOpen
namespace Go.Proofs.Ytajlgclodjgiiaa.fnStrike
open Go.ChangeShapes Go.WideShapes Go.ChangeAt Go.RowKit
set_option linter.unusedVariables false

set_option maxRecDepth 100000 in
set_option maxHeartbeats 16000000 in
theorem walk {A : Option Addr} {n cc : Nat} {xs : List UInt8} {B : Option Addr} {m cd : Nat} {ys : List UInt8} (w : World) (hx : BytesAt w A n xs) (hy : BytesAt w B m ys) :
    Calls Try.prog 13 #[.slice A n cc, .slice B m cd] w fun e w' => e = .returned (.bool true) ∧ Below w.heap.size w w' := by
  have HD1 := Lib.hid (drawShift A n cc xs w hx)
  have HD2 := Lib.hid (fun w1 (hb : Below w.heap.size w w1) => drawWorst B m cd ys w1 (CellsAt.below hy hb))
  clear hx hy
  by_cases hn : 1048576 < n
  · have d1 : decide (1048576 < (n : Int)) = true := decide_eq_true (by omega)
    clear hn
    go_enter Try.func13, Try.ntmps13
    go_wp2_with (go_at_call 41; refine (b10Long_is _ _ _ _).mono ?_; rintro e w' ⟨rfl, rfl⟩)
    go_ret
    exact ⟨rfl, Below.refl _ _⟩
  by_cases hm : 1048576 < m
  · have d1 : decide (1048576 < (n : Int)) = false := decide_eq_false (by omega)
    have d2 : decide (1048576 < (m : Int)) = true := decide_eq_true (by omega)
    clear hn hm
    go_enter Try.func13, Try.ntmps13
    go_wp2_with (go_at_call 41; refine (b10Long_is _ _ _ _).mono ?_; rintro e w' ⟨rfl, rfl⟩)
    go_ret
    exact ⟨rfl, Below.refl _ _⟩
  have d1 : decide (1048576 < (n : Int)) = false := decide_eq_false (by omega)
  have d2 : decide (1048576 < (m : Int)) = false := decide_eq_false (by omega)
  clear hn hm
  go_enter Try.func13, Try.ntmps13
  go_wp2_with (go_at_call 41; refine (b10Long_is _ _ _ _).mono ?_; rintro e w' ⟨rfl, rfl⟩)
  refine HD1.out.mono ?_
  rintro x w1 ⟨a, b, c, d, e, t, rfl, t0, t1, hb1⟩
  have HB1 := Lib.hid (hb1.alloc hb1.size (.cells #[.int .i64 a, .int .i64 b, .int .i64 c, .int .i64 d, .int .i64 e] 25))
  have hl1 := hb1.size
  clear hb1 HD1
  have HBx := Lib.hid (Box5.new w1 a b c d e 25)
  by_cases hs : sB a b c d e = true
  · have HS := Lib.hid hs
    cases hr : raisedB [a, b, c, d, e] [t, t, t, t, t] 5
    · have HR := Lib.hid hr
      clear hs hr HBx
      go_wp2_with fail
      refine (ShiftS_out _ HS.out HR.out).mono ?_
      rintro x w2 ⟨rfl, hb2⟩
      have HBW := Lib.hid ((HB1.out.trans (hb2.mono HB1.out.size)).alloc (HB1.out.trans (hb2.mono HB1.out.size)).size (.cells #[.int .i64 0, .int .i64 0, .int .i64 0, .int .i64 0, .int .i64 0] 25))
      clear hb2
      go_wp2_with fail
      refine (HD2.out _ HBW.out).mono ?_
      rintro x w7 ⟨A', n', c', zs, rfl, hn5, hI, hb7⟩
      have HB7 := Lib.hid (HBW.out.trans (hb7.mono HBW.out.size))
      have HW := Lib.hid (worstDev_impl A' n' c' zs w7 hI (by omega))
      clear hb7 HD2
      by_cases hz : zs.length = 5 ∧ allI zs = true
      · obtain rfl : n' = 5 := by rw [← hI.len]; exact hz.1
        have hmx := worst_max zs 5
        have hm5 : worstN zs 5 < 5 := worstN_lt zs 5 (Nat.le_refl _) (by omega)
        have hsm := allI_small hz.2
        have hzm : zs[worstN zs 5]? = some (zs[worstN zs 5]'(by omega)) := List.getElem?_eq_getElem _
        generalize zs[worstN zs 5]'_ = v at hzm
        obtain ⟨e1, e2, e3⟩ := worst_pos hz.1 hz.2 hzm
        rw [e1, e2, e3] at HW
        rw [show zs.getD (worstN zs 5) 0 = v by rw [List.getD_eq_getElem?_getD, hzm]; rfl] at hmx
        have hv := hsm _ _ hzm
        have HI := Lib.hid hI
        have HM := Lib.hid hmx
        have HS := Lib.hid hsm
        have HZ := Lib.hid hzm
        clear e1 e2 e3 hz hsm hmx hzm hI
        generalize worstN zs 5 = m at *
        go_wp2_with fail
        refine HW.out.mono ?_
        rintro x w8 ⟨rfl, q, rfl⟩
        have hI8 : IntsAt (w7.drewN q) A' 5 zs := CellsAt.drewN HI.out q
        obtain ⟨b, off, y, rfl, hlt, hy, hc⟩ := hI8.at_ hm5
        have HI8 := Lib.hid hI8
        clear hI8
        obtain rfl : y = v := Option.some.inj (hy.symm.trans HZ.out)
        have HB8 := Lib.hid (below_drewN HB7.out q)
        have hm0 : (0 : Int) ≤ (m : Int) := Int.natCast_nonneg _
        have hm4 : (m : Int) < 5 := by omega
        clear HB7 HW HZ hy
        generalize hW8 : w7.drewN q = W8 at *
        go_wp2
        go_loopw [20] (fun i wr => ∃ k : Nat, k ≤ 5 ∧ i = .int .i64 k ∧ wr = W8) (fun i _ => 5 - (intOf i).toNat)
        case atStart => exact ⟨0, Nat.zero_le _, rfl, rfl⟩
        case round =>
          obtain ⟨k, hk, rfl, rfl⟩ := hrel
          by_cases h5 : k < 5
          · obtain ⟨b2, off2, z, eA, _, hz, hc2⟩ := (show IntsAt wr _ 5 zs by rw [← hW8]; exact CellsAt.drewN HI.out q).at_ h5
            simp only [Option.some.injEq, Addr.mk.injEq, and_true] at eA
            obtain ⟨rfl, rfl⟩ := eA
            have hzb := HS.out _ _ hz
            have hle : absI z ≤ absI y := by have := HM.out k h5; rw [List.getD_eq_getElem?_getD, hz] at this; exact this
            have hkI : (k : Int) < 5 := by omega
            have hk0 : (0 : Int) ≤ (k : Int) := Int.natCast_nonneg _
            have hgt : ¬ absI y < absI z := by omega
            clear hz hc hW8
            go_wp2_with (go_at_call 45; refine (b10Abs_is _ _ (by omega) (by omega)).mono ?_; rintro x w' ⟨rfl, rfl⟩)
            go_roundw
            case rel => exact ⟨k + 1, by omega, by go_num, by first | trivial | rfl⟩
            case measure => simp [intOf]; omega
          · obtain rfl : k = 5 := by omega
            clear hc hW8
            go_wp2
            go_ret
            exact ⟨rfl, HB8.out⟩
      · obtain ⟨e1, e2, e3⟩ := worst_neg hz
        rw [e1, e2, e3] at HW
        clear e1 e2 e3 hz hI
        go_wp2_with fail
        refine HW.out.mono ?_
        rintro x w8 ⟨rfl, q, rfl⟩
        go_wp2
        go_ret
        exact ⟨rfl, below_drewN HB7.out q⟩
    · obtain ⟨fs, hfs⟩ : ∃ fs, [a, b, c, d, e] = fs := ⟨_, rfl⟩
      obtain ⟨ts, hts⟩ : ∃ ts, [t, t, t, t, t] = ts := ⟨_, rfl⟩
      have hr' : raisedB fs ts 5 = true := by rw [← hfs, ← hts]; exact hr
      have HR := Lib.hid hr'
      have HF := Lib.hid hfs
      have HT := Lib.hid hts
      have HL := Lib.hid (fun k (hk : inB k 1 5 = true) => shift_law HF.out HT.out HR.out hk)
      clear hs hr hr' hfs hts
      cases hn : sB (rG fs ts 0) (rG fs ts 1) (rG fs ts 2) (rG fs ts 3) (rG fs ts 4)
      · have HN := Lib.hid hn
        clear hn HBx HL
        have HC := Lib.hid (fun w => ShiftS_state (t := t) w HS.out HF.out HT.out HR.out HN.out)
        go_wp2_with fail
        refine (HC.out _).mono ?_
        rintro x w2 ⟨rfl, hb2⟩
        have HBW := Lib.hid ((HB1.out.trans (hb2.mono HB1.out.size)).alloc (HB1.out.trans (hb2.mono HB1.out.size)).size (.cells #[.int .i64 0, .int .i64 0, .int .i64 0, .int .i64 0, .int .i64 0] 25))
        clear hb2
        go_wp2_with fail
        refine (HD2.out _ HBW.out).mono ?_
        rintro x w7 ⟨A', n', c', zs, rfl, hn5, hI, hb7⟩
        have HB7 := Lib.hid (HBW.out.trans (hb7.mono HBW.out.size))
        have HW := Lib.hid (worstDev_impl A' n' c' zs w7 hI (by omega))
        clear hb7 HD2
        by_cases hz : zs.length = 5 ∧ allI zs = true
        · obtain rfl : n' = 5 := by rw [← hI.len]; exact hz.1
          have hmx := worst_max zs 5
          have hm5 : worstN zs 5 < 5 := worstN_lt zs 5 (Nat.le_refl _) (by omega)
          have hsm := allI_small hz.2
          have hzm : zs[worstN zs 5]? = some (zs[worstN zs 5]'(by omega)) := List.getElem?_eq_getElem _
          generalize zs[worstN zs 5]'_ = v at hzm
          obtain ⟨e1, e2, e3⟩ := worst_pos hz.1 hz.2 hzm
          rw [e1, e2, e3] at HW
          rw [show zs.getD (worstN zs 5) 0 = v by rw [List.getD_eq_getElem?_getD, hzm]; rfl] at hmx
          have hv := hsm _ _ hzm
          have HI := Lib.hid hI
          have HM := Lib.hid hmx
          have HS := Lib.hid hsm
          have HZ := Lib.hid hzm
          clear e1 e2 e3 hz hsm hmx hzm hI
          generalize worstN zs 5 = m at *
          go_wp2_with fail
          refine HW.out.mono ?_
          rintro x w8 ⟨rfl, q, rfl⟩
          have hI8 : IntsAt (w7.drewN q) A' 5 zs := CellsAt.drewN HI.out q
          obtain ⟨b, off, y, rfl, hlt, hy, hc⟩ := hI8.at_ hm5
          have HI8 := Lib.hid hI8
          clear hI8
          obtain rfl : y = v := Option.some.inj (hy.symm.trans HZ.out)
          have HB8 := Lib.hid (below_drewN HB7.out q)
          have hm0 : (0 : Int) ≤ (m : Int) := Int.natCast_nonneg _
          have hm4 : (m : Int) < 5 := by omega
          clear HB7 HW HZ hy
          generalize hW8 : w7.drewN q = W8 at *
          go_wp2
          go_loopw [20] (fun i wr => ∃ k : Nat, k ≤ 5 ∧ i = .int .i64 k ∧ wr = W8) (fun i _ => 5 - (intOf i).toNat)
          case atStart => exact ⟨0, Nat.zero_le _, rfl, rfl⟩
          case round =>
            obtain ⟨k, hk, rfl, rfl⟩ := hrel
            by_cases h5 : k < 5
            · obtain ⟨b2, off2, z, eA, _, hz, hc2⟩ := (show IntsAt wr _ 5 zs by rw [← hW8]; exact CellsAt.drewN HI.out q).at_ h5
              simp only [Option.some.injEq, Addr.mk.injEq, and_true] at eA
              obtain ⟨rfl, rfl⟩ := eA
              have hzb := HS.out _ _ hz
              have hle : absI z ≤ absI y := by have := HM.out k h5; rw [List.getD_eq_getElem?_getD, hz] at this; exact this
              have hkI : (k : Int) < 5 := by omega
              have hk0 : (0 : Int) ≤ (k : Int) := Int.natCast_nonneg _
              have hgt : ¬ absI y < absI z := by omega
              clear hz hc hW8
              go_wp2_with (go_at_call 45; refine (b10Abs_is _ _ (by omega) (by omega)).mono ?_; rintro x w' ⟨rfl, rfl⟩)
              go_roundw
              case rel => exact ⟨k + 1, by omega, by go_num, by first | trivial | rfl⟩
              case measure => simp [intOf]; omega
            · obtain rfl : k = 5 := by omega
              clear hc hW8
              go_wp2
              go_ret
              exact ⟨rfl, HB8.out⟩
        · obtain ⟨e1, e2, e3⟩ := worst_neg hz
          rw [e1, e2, e3] at HW
          clear e1 e2 e3 hz hI
          go_wp2_with fail
          refine HW.out.mono ?_
          rintro x w8 ⟨rfl, q, rfl⟩
          go_wp2
          go_ret
          exact ⟨rfl, below_drewN HB7.out q⟩
      · have HN := Lib.hid hn
        clear hn
        have HC := Lib.hid (fun w => ShiftS_ok (t := t) w HS.out HF.out HT.out HR.out HN.out)
        have HN' := Lib.hid HN.out
        generalize rG fs ts 0 = r0 at *
        generalize rG fs ts 1 = r1 at *
        generalize rG fs ts 2 = r2 at *
        generalize rG fs ts 3 = r3 at *
        generalize rG fs ts 4 = r4 at *
        go_wp2_with fail
        refine (HC.out _).mono ?_
        rintro x w2 ⟨rfl, hb2⟩
        have hb12 := HB1.out.trans (hb2.mono HB1.out.size)
        have HB2 := Lib.hid (hb12.alloc hb12.size (.cells #[.int .i64 r0, .int .i64 r1, .int .i64 r2, .int .i64 r3, .int .i64 r4] 25))
        have HX1 := Lib.hid ((HBx.out.below hb2).below ((Below.refl _ _).alloc (Nat.le_refl _) (.cells #[.int .i64 r0, .int .i64 r1, .int .i64 r2, .int .i64 r3, .int .i64 r4] 25)))
        have HX2 := Lib.hid (Box5.new w2 r0 r1 r2 r3 r4 25)
        clear hb2 hb12 HC HBx
        obtain ⟨W3, hW3⟩ : ∃ W, W = w2.alloc (.cells #[.int .i64 r0, .int .i64 r1, .int .i64 r2, .int .i64 r3, .int .i64 r4] 25) := ⟨_, rfl⟩
        obtain ⟨s1, hs1⟩ : ∃ s, s = w1.heap.size := ⟨_, rfl⟩
        obtain ⟨s2, hs2⟩ : ∃ s, s = w2.heap.size := ⟨_, rfl⟩
        rw [← hW3] at HX1 HX2 HB2
        rw [← hs1] at HX1
        rw [← hs2] at HX2
        have HW3 := Lib.hid hW3
        have Hs1 := Lib.hid hs1
        have Hs2 := Lib.hid hs2
        clear hW3 hs1 hs2
        go_wp2
        rw [← HW3.out, ← Hs1.out, ← Hs2.out]
        have HSr := Lib.hid (show sB r0 r1 r2 r3 r4 = true from HN'.out)
        clear HW3 Hs1 Hs2 HB1 HF HT HR HN HN'
        go_loopw [9] (fun i wr => ∃ k : Int, 1 ≤ k ∧ k ≤ 6 ∧ i = .int .i64 k ∧ Below W3.heap.size W3 wr) (fun i _ => (6 - intOf i).toNat)
        case atStart => exact ⟨1, by omega, by omega, rfl, Below.refl _ _⟩
        case round =>
          obtain ⟨k, hk1, hk6, rfl, hbr⟩ := hrel
          have HBR := Lib.hid hbr
          by_cases h5 : k ≤ 5
          · have hk : inB k 1 5 = true := inB_true hk1 h5
            obtain ⟨l1, l2, l3, l4⟩ := HL.out k hk
            have HP1 := Lib.hid (fun w => partialOf_ok (a := a) (b := b) (c := c) (d := d) (e := e) w HS.out hk)
            have HP2 := Lib.hid (fun w => partialOf_ok (a := r0) (b := r1) (c := r2) (d := r3) (e := r4) w HSr.out hk)
            generalize nth5 a b c d e k = p at *
            generalize nth5 r0 r1 r2 r3 r4 k = p' at *
            have HCB := Lib.hid (fun w => centsBetween_ok p p' w l1 l2)
            generalize tenthsV p' - tenthsV p = dd at *
            have x1 := HX1.out.below hbr
            have X2 := Lib.hid (HX2.out.below hbr)
            obtain ⟨y0', y1', y2', y3', y4', yf, ylt⟩ := x1
            have n1 : ¬ dd < t := by omega
            have n2 : ¬ t + 3 < dd := by omega
            clear hk l1 l2 hbr yf ylt
            go_wp2_with fail
            refine (HP1.out _).mono ?_
            rintro x w4 ⟨rfl, hb4⟩
            have HB4 := Lib.hid (HBR.out.trans (hb4.mono HBR.out.size))
            obtain ⟨z0', z1', z2', z3', z4', zf, zlt⟩ := X2.out.below hb4
            clear hb4 y0' y1' y2' y3' y4' zf zlt
            go_wp2_with fail
            refine (HP2.out _).mono ?_
            rintro x w5 ⟨rfl, hb5⟩
            have HB5 := Lib.hid (HB4.out.trans (hb5.mono HB4.out.size))
            clear hb5 z0' z1' z2' z3' z4'
            go_wp2_with fail
            refine (HCB.out _).mono ?_
            rintro x w6 ⟨rfl, hb6⟩
            have HB6 := Lib.hid (HB5.out.trans (hb6.mono HB5.out.size))
            clear hb6
            go_wp2
            go_roundw
            case rel => exact ⟨k + 1, by omega, by omega, by go_num, HB6.out⟩
            case measure => simp [intOf]; omega
          · obtain rfl : k = 6 := by omega
            have HBW := Lib.hid (HB2.out.trans (hbr.mono HB2.out.size))
            clear hbr HBR HX1 HX2 HL HS HSr
            go_wp2_with fail
            refine (HD2.out _ HBW.out).mono ?_
            rintro x w7 ⟨A', n', c', zs, rfl, hn5, hI, hb7⟩
            have HB7 := Lib.hid (HBW.out.trans (hb7.mono HBW.out.size))
            have HW := Lib.hid (worstDev_impl A' n' c' zs w7 hI (by omega))
            clear hb7 HD2
            by_cases hz : zs.length = 5 ∧ allI zs = true
            · obtain rfl : n' = 5 := by rw [← hI.len]; exact hz.1
              have hmx := worst_max zs 5
              have hm5 : worstN zs 5 < 5 := worstN_lt zs 5 (Nat.le_refl _) (by omega)
              have hsm := allI_small hz.2
              have hzm : zs[worstN zs 5]? = some (zs[worstN zs 5]'(by omega)) := List.getElem?_eq_getElem _
              generalize zs[worstN zs 5]'_ = v at hzm
              obtain ⟨e1, e2, e3⟩ := worst_pos hz.1 hz.2 hzm
              rw [e1, e2, e3] at HW
              rw [show zs.getD (worstN zs 5) 0 = v by rw [List.getD_eq_getElem?_getD, hzm]; rfl] at hmx
              have hv := hsm _ _ hzm
              have HI := Lib.hid hI
              have HM := Lib.hid hmx
              have HS := Lib.hid hsm
              have HZ := Lib.hid hzm
              clear e1 e2 e3 hz hsm hmx hzm hI
              generalize worstN zs 5 = m at *
              go_wp2_with fail
              refine HW.out.mono ?_
              rintro x w8 ⟨rfl, q, rfl⟩
              have hI8 : IntsAt (w7.drewN q) A' 5 zs := CellsAt.drewN HI.out q
              obtain ⟨b, off, y, rfl, hlt, hy, hc⟩ := hI8.at_ hm5
              have HI8 := Lib.hid hI8
              clear hI8
              obtain rfl : y = v := Option.some.inj (hy.symm.trans HZ.out)
              have HB8 := Lib.hid (below_drewN HB7.out q)
              have hm0 : (0 : Int) ≤ (m : Int) := Int.natCast_nonneg _
              have hm4 : (m : Int) < 5 := by omega
              clear HB7 HW HZ hy
              generalize hW8 : w7.drewN q = W8 at *
              go_wp2
              go_loopw [20] (fun i wr => ∃ k : Nat, k ≤ 5 ∧ i = .int .i64 k ∧ wr = W8) (fun i _ => 5 - (intOf i).toNat)
              case atStart => exact ⟨0, Nat.zero_le _, rfl, rfl⟩
              case round =>
                obtain ⟨k, hk, rfl, rfl⟩ := hrel
                by_cases h5 : k < 5
                · obtain ⟨b2, off2, z, eA, _, hz, hc2⟩ := (show IntsAt wr _ 5 zs by rw [← hW8]; exact CellsAt.drewN HI.out q).at_ h5
                  simp only [Option.some.injEq, Addr.mk.injEq, and_true] at eA
                  obtain ⟨rfl, rfl⟩ := eA
                  have hzb := HS.out _ _ hz
                  have hle : absI z ≤ absI y := by have := HM.out k h5; rw [List.getD_eq_getElem?_getD, hz] at this; exact this
                  have hkI : (k : Int) < 5 := by omega
                  have hk0 : (0 : Int) ≤ (k : Int) := Int.natCast_nonneg _
                  have hgt : ¬ absI y < absI z := by omega
                  clear hz hc hW8
                  go_wp2_with (go_at_call 45; refine (b10Abs_is _ _ (by omega) (by omega)).mono ?_; rintro x w' ⟨rfl, rfl⟩)
                  go_roundw
                  case rel => exact ⟨k + 1, by omega, by go_num, by first | trivial | rfl⟩
                  case measure => simp [intOf]; omega
                · obtain rfl : k = 5 := by omega
                  clear hc hW8
                  go_wp2
                  go_ret
                  exact ⟨rfl, HB8.out⟩
            · obtain ⟨e1, e2, e3⟩ := worst_neg hz
              rw [e1, e2, e3] at HW
              clear e1 e2 e3 hz hI
              go_wp2_with fail
              refine HW.out.mono ?_
              rintro x w8 ⟨rfl, q, rfl⟩
              go_wp2
              go_ret
              exact ⟨rfl, below_drewN HB7.out q⟩
  · have HS := Lib.hid (Bool.not_eq_true _ ▸ hs)
    clear hs HBx
    go_wp2_with fail
    refine (ShiftS_inv _ HS.out).mono ?_
    rintro x w2 ⟨rfl, hb2⟩
    have HBW := Lib.hid ((HB1.out.trans (hb2.mono HB1.out.size)).alloc (HB1.out.trans (hb2.mono HB1.out.size)).size (.cells #[.int .i64 0, .int .i64 0, .int .i64 0, .int .i64 0, .int .i64 0] 25))
    clear hb2
    go_wp2_with fail
    refine (HD2.out _ HBW.out).mono ?_
    rintro x w7 ⟨A', n', c', zs, rfl, hn5, hI, hb7⟩
    have HB7 := Lib.hid (HBW.out.trans (hb7.mono HBW.out.size))
    have HW := Lib.hid (worstDev_impl A' n' c' zs w7 hI (by omega))
    clear hb7 HD2
    by_cases hz : zs.length = 5 ∧ allI zs = true
    · obtain rfl : n' = 5 := by rw [← hI.len]; exact hz.1
      have hmx := worst_max zs 5
      have hm5 : worstN zs 5 < 5 := worstN_lt zs 5 (Nat.le_refl _) (by omega)
      have hsm := allI_small hz.2
      have hzm : zs[worstN zs 5]? = some (zs[worstN zs 5]'(by omega)) := List.getElem?_eq_getElem _
      generalize zs[worstN zs 5]'_ = v at hzm
      obtain ⟨e1, e2, e3⟩ := worst_pos hz.1 hz.2 hzm
      rw [e1, e2, e3] at HW
      rw [show zs.getD (worstN zs 5) 0 = v by rw [List.getD_eq_getElem?_getD, hzm]; rfl] at hmx
      have hv := hsm _ _ hzm
      have HI := Lib.hid hI
      have HM := Lib.hid hmx
      have HS := Lib.hid hsm
      have HZ := Lib.hid hzm
      clear e1 e2 e3 hz hsm hmx hzm hI
      generalize worstN zs 5 = m at *
      go_wp2_with fail
      refine HW.out.mono ?_
      rintro x w8 ⟨rfl, q, rfl⟩
      have hI8 : IntsAt (w7.drewN q) A' 5 zs := CellsAt.drewN HI.out q
      obtain ⟨b, off, y, rfl, hlt, hy, hc⟩ := hI8.at_ hm5
      have HI8 := Lib.hid hI8
      clear hI8
      obtain rfl : y = v := Option.some.inj (hy.symm.trans HZ.out)
      have HB8 := Lib.hid (below_drewN HB7.out q)
      have hm0 : (0 : Int) ≤ (m : Int) := Int.natCast_nonneg _
      have hm4 : (m : Int) < 5 := by omega
      clear HB7 HW HZ hy
      generalize hW8 : w7.drewN q = W8 at *
      go_wp2
      go_loopw [20] (fun i wr => ∃ k : Nat, k ≤ 5 ∧ i = .int .i64 k ∧ wr = W8) (fun i _ => 5 - (intOf i).toNat)
      case atStart => exact ⟨0, Nat.zero_le _, rfl, rfl⟩
      case round =>
        obtain ⟨k, hk, rfl, rfl⟩ := hrel
        by_cases h5 : k < 5
        · obtain ⟨b2, off2, z, eA, _, hz, hc2⟩ := (show IntsAt wr _ 5 zs by rw [← hW8]; exact CellsAt.drewN HI.out q).at_ h5
          simp only [Option.some.injEq, Addr.mk.injEq, and_true] at eA
          obtain ⟨rfl, rfl⟩ := eA
          have hzb := HS.out _ _ hz
          have hle : absI z ≤ absI y := by have := HM.out k h5; rw [List.getD_eq_getElem?_getD, hz] at this; exact this
          have hkI : (k : Int) < 5 := by omega
          have hk0 : (0 : Int) ≤ (k : Int) := Int.natCast_nonneg _
          have hgt : ¬ absI y < absI z := by omega
          clear hz hc hW8
          go_wp2_with (go_at_call 45; refine (b10Abs_is _ _ (by omega) (by omega)).mono ?_; rintro x w' ⟨rfl, rfl⟩)
          go_roundw
          case rel => exact ⟨k + 1, by omega, by go_num, by first | trivial | rfl⟩
          case measure => simp [intOf]; omega
        · obtain rfl : k = 5 := by omega
          clear hc hW8
          go_wp2
          go_ret
          exact ⟨rfl, HB8.out⟩
    · obtain ⟨e1, e2, e3⟩ := worst_neg hz
      rw [e1, e2, e3] at HW
      clear e1 e2 e3 hz hI
      go_wp2_with fail
      refine HW.out.mono ?_
      rintro x w8 ⟨rfl, q, rfl⟩
      go_wp2
      go_ret
      exact ⟨rfl, below_drewN HB7.out q⟩

set_option maxRecDepth 100000 in
theorem lifted (os : Os) (started : os.Started) (H : Type) (enc : TypeId × Value → H) :
    ReturnsInHanded {} Try.checked os 13 .any (Rows.fnStrikeSpec.pre6 enc Try.prog Try.f13 Rows.fnStrikeRow.domain false) (Rows.fnStrikeSpec.post enc Try.prog Try.f13 false true false false) := by
  refine returnsInHanded_of_change_shaped (C := Try.checked) own started (by kernel_rfl) Try.func13
    (ChangeSpec.witness6 (enc := enc) (C := Try.checked) false ⟨#[], #[.slice none 0 0, .slice none 0 0], []⟩ 8 (by kernel_rfl) (by kernel_rfl) (by kernel_rfl) (by kernel_rfl)) ?_
  intro W base args ds gs before hval0 hW hcnd0 hsz0 hsh hholds
  have hval : ∀ (j : Nat) t v, Try.f13.params[j]? = some t → args[j]? = some v → Value.okWide Try.prog W .any base t v := hval0
  have hsz : (DataW.weightsEach Try.prog (Try.f13.params.toList ++ Rows.fnStrikeSpec.plain.varTypes Try.prog) (ds ++ gs)).all (· ≤ reachBytes) = true := hsz0
  clear hsz0 hcnd0 hholds hval0
  have hWW := hW
  obtain ⟨p, q, hA0, hV, rfl, hfz, hnd⟩ := hW
  have hA : DataW.TrodAll enc Try.prog W 0 (fun _ => true) true Try.f13.params.toList args.toList ds p := hA0
  clear hA0
  have hlt : ∀ x ∈ p ++ q, x.block < W.heap.size := fun x hx => hWW.lt x hx
  rw [Try.params13] at hA hval hsz
  obtain ⟨v0, vs0, d0, ds0, p0, q0, hargs, rfl, rfl, h0, r0⟩ := trodAll_cons hA
  obtain ⟨v1, vs1, d1, ds1, p1, q1, rfl, rfl, rfl, h1, r1⟩ := trodAll_cons r0
  obtain ⟨rfl, rfl, rfl⟩ := trodAll_nil r1
  obtain rfl : args = #[v0, v1] := by cases args; simp_all
  obtain ⟨rfl, rfl⟩ := trodVars_none hV
  clear hargs hV hfz hnd
  have fin : ∀ W', Below W.heap.size W W' → Rows.fnStrikeSpec.post enc Try.prog Try.f13 false true false false W #[v0, v1] (.bool true) W' := fun W' hb =>
    post_true (tb := 4) (by kernel_rfl) hWW rfl Try.underlying4 rfl rfl rfl rfl hb
  clear hWW
  obtain ⟨A0, n0, c0, xs0, rfl, hx0⟩ := open_bytes (hval 0 50 v0 rfl rfl) h0 (fun x hx => hlt x (by simp [hx]))
  obtain ⟨A1, n1, c1, xs1, rfl, hx1⟩ := open_bytes (hval 1 50 v1 rfl rfl) h1 (fun x hx => hlt x (by simp [hx]))
  refine (walk hx0 hx1  (w := W)).mono fun e W' ⟨he, hb⟩ => ?_
  subst he
  exact ⟨_, rfl, fin _ hb⟩

/-- The statement. -/
theorem proved : Rows.FnStrikeSaid :=
  OpenClaim.holds_of_wide 13 Try.f13 rfl rfl rfl rfl rfl rfl rfl ⟨rfl, rfl, rfl, rfl, rfl⟩ rfl rfl rfl rfl rfl (by kernel_rfl) Try.func13 (by kernel_rfl)
    (of_decide_eq_true (by kernel_rfl)) (by unfold Func.isWrapper; first | (rw [if_pos (by decide +kernel)]; kernel_rfl) | (rw [if_neg (by decide +kernel)]; exact ⟨rfl, rfl⟩))
    (fun os started H enc _ => lifted os started H enc)
#print axioms proved
end Go.Proofs.Ytajlgclodjgiiaa.fnStrike
