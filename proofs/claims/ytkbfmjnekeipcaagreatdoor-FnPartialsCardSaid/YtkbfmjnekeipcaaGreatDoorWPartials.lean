/- The law FnPartials of the given program holds: for every input it returns true, and its arguments read afterwards as before. No condition. -/
import Derived.Test.YtkbfmjnekeipcaaGreatDoorBase
import Derived.LaidMore
import Derived.Lay
import Derived.Stop.Joined
import Derived.SevenTiedAt
import Derived.Test.YtkbfmjnekeipcaaGreatDoorCards
import Derived.Test.YtkbfmjnekeipcaaGreatDoorTie
import Derived.Test.YtkbfmjnekeipcaaGreatDoorParM
import Derived.Test.YtkbfmjnekeipcaaGreatDoorDrawP
import Derived.Test.YtkbfmjnekeipcaaGreatDoorOpen
namespace Go.Proofs.YtkbfmjnekeipcaaGreatDoor.fnPartials
open Go.ChangeShapes Go.WideShapes Go.ChangeAt Go.RowKit
set_option maxRecDepth 100000
set_option linter.unusedVariables false

theorem star : "*" ++ "errors.errorString" = "*errors.errorString" := by decide
theorem row_es (u : TypeId) (h : Tryz.prog.typeName? 3 u = some "*errors.errorString") : u = 164 :=
  typeName_ptr_named (nm := "errors.errorString") (by rw [star]; kernel_rfl) (by kernel_rfl) (by decide) u (by rw [star]; exact h)
theorem gESType : (Tryz.prog.globals[1]?).map (·.type) = some 104 := by kernel_rfl
theorem gERType : (Tryz.prog.globals[2]?).map (·.type) = some 104 := by kernel_rfl
theorem errs_row {W : World} (h : laidMetH Tryz.prog Rows.fnPartialsRow.laid W) : Errs W := by
  rw [MakeChecks.laidMetH_plain _ _ _ (by kernel_rfl)] at h
  have ht := tab_of h
  have h4 := h.tail.tail.tail.tail
  obtain ⟨a0, s0, hv0, _, _, _⟩ := laid_sentinel h4 gER gERType Tryz.underlying104 row_es Tryz.underlying164 Tryz.underlying166 rfl rfl Tryz.underlying9 (by kernel_rfl) (by kernel_rfl)
  obtain ⟨a1, s1, hv1, _, _, _⟩ := laid_sentinel h4.tail gES gESType Tryz.underlying104 row_es Tryz.underlying164 Tryz.underlying166 rfl rfl Tryz.underlying9 (by kernel_rfl) (by kernel_rfl)
  exact ⟨ht, ⟨_, _, hv1⟩, ⟨_, _, hv0⟩⟩
theorem shaped_max {W : World} (h : W.ShapedOpen Tryz.prog) : MaxLenIs W := Go.Proofs.cell_of_shapedOpen_int (zero := #[.int .i64 0]) (t := 3) h (of_decide_eq_true (by kernel_rfl)) (by kernel_rfl) rfl (by kernel_rfl) (by kernel_rfl) Tryz.underlying3
theorem name_full {s : ByteArray} (h : s.data.toList ≠ []) : (s.toList == []) = false := by
  rw [beq_eq_false_iff_ne, ByteArray.toList_eq]
  exact h
set_option maxHeartbeats 1000000 in
theorem partName {k : Int} (hk : inB k 1 5 = true) (w : World) : Calls Tryz.prog 26 #[.int .i64 k] w fun e w' => ∃ s : ByteArray, e = .returned (.string s) ∧ (s.toList == []) = false ∧ Below w.heap.size w w' := by
  rcases five_cases hk with rfl | rfl | rfl | rfl | rfl
  all_goals
    go_enter Tryz.func26, Tryz.ntmps26
    go_wp2_with (go_at_call 60; refine (isPartial_is hk _).mono ?_; rintro x w' ⟨rfl, rfl⟩)
    go_ret
    exact ⟨_, rfl, name_full (by decide), (Below.refl _ _).alloc (Nat.le_refl _) _⟩
set_option maxRecDepth 100000 in
set_option maxHeartbeats 16000000 in
theorem walk {A : Option Addr} {n cc : Nat} {xs : List UInt8} {B : Option Addr} {m cd : Nat} {ys : List UInt8} {w : World} (hx : BytesAt w A n xs) (hy : BytesAt w B m ys) (he : Errs w) (hm : MaxLenIs w) :
    Calls Tryz.prog 4 #[.slice A n cc, .slice B m cd] w fun e w' => e = .returned (.bool true) ∧ Below w.heap.size w w' := by
  have HE := Lib.hid he
  have HM := Lib.hid hm
  clear he hm
  have HD1 := Lib.hid (drawIdeal A n cc xs w hx)
  have HD2 := Lib.hid (fun w1 (hb : Below w.heap.size w w1) => drawWith B m cd ys w1 (CellsAt.below hy hb))
  clear hx hy
  by_cases hn : 1048576 < n
  · have d1 : decide (1048576 < (n : Int)) = true := decide_eq_true (by omega)
    clear hn
    go_enter Tryz.func4, Tryz.ntmps4
    go_wp2_with (go_at_call 16; refine (b10Long_is _ _ _ _).mono ?_; rintro e w' ⟨rfl, rfl⟩)
    go_ret
    exact ⟨rfl, Below.refl _ _⟩
  by_cases hm : 1048576 < m
  · have d1 : decide (1048576 < (n : Int)) = false := decide_eq_false (by omega)
    have d2 : decide (1048576 < (m : Int)) = true := decide_eq_true (by omega)
    clear hn hm
    go_enter Tryz.func4, Tryz.ntmps4
    go_wp2_with (go_at_call 16; refine (b10Long_is _ _ _ _).mono ?_; rintro e w' ⟨rfl, rfl⟩)
    go_ret
    exact ⟨rfl, Below.refl _ _⟩
  have d1 : decide (1048576 < (n : Int)) = false := decide_eq_false (by omega)
  have d2 : decide (1048576 < (m : Int)) = false := decide_eq_false (by omega)
  clear hn hm
  go_enter Tryz.func4, Tryz.ntmps4
  go_wp2_with (go_at_call 16; refine (b10Long_is _ _ _ _).mono ?_; rintro e w' ⟨rfl, rfl⟩)
  refine HD1.out.mono ?_
  rintro x w1 ⟨s, kd, rfl, hs0, hk0, hb1⟩
  have HB1 := Lib.hid hb1
  clear hb1 HD1 hs0 hk0
  by_cases hr : inB s 10000 20000000 = true ∧ inB kd 1 2 = true
  · obtain ⟨h1, h2⟩ := hr
    have H1 := Lib.hid h1
    have H2 := Lib.hid h2
    clear h1 h2
    cases hrs : raisedB [s, s, s, s, s] (idealL kd) 5
    · have HR := Lib.hid hrs
      clear hrs
      go_wp2_with fail
      refine (IdealS_out _ H1.out H2.out HR.out).mono ?_
      rintro x w2 ⟨rfl, hb2⟩
      have HBW := Lib.hid ((HB1.out.trans (hb2.mono HB1.out.size)).alloc (HB1.out.trans (hb2.mono HB1.out.size)).size (.cells #[.int .i64 0, .int .i64 0, .int .i64 0, .int .i64 0, .int .i64 0] 39))
      clear hb2
      go_wp2_with fail
      refine (HD2.out _ HBW.out).mono ?_
      rintro x v1 ⟨a, b, c, d, e, k, f, rfl, hc1⟩
      have HC1 := Lib.hid ((HBW.out.trans (hc1.mono HBW.out.size)).alloc (HBW.out.trans (hc1.mono HBW.out.size)).size (.cells #[.int .i64 a, .int .i64 b, .int .i64 c, .int .i64 d, .int .i64 e] 39))
      have HX1 := Lib.hid (SBox.new v1 a b c d e 39)
      clear hc1 HD2
      cases hs : sB a b c d e
      · have HS := Lib.hid hs
        clear hs HX1
        go_wp2_with fail
        refine (with_inv _ HS.out).mono ?_
        rintro x v2 ⟨rfl, hc2⟩
        have HC2 := Lib.hid ((HC1.out.trans (hc2.mono HC1.out.size)).alloc (HC1.out.trans (hc2.mono HC1.out.size)).size (.cells #[.int .i64 0, .int .i64 0, .int .i64 0, .int .i64 0, .int .i64 0] 39))
        clear hc2
        go_wp2
        go_ret
        exact ⟨rfl, HC2.out⟩
      have HS := Lib.hid hs
      cases hk : inB k 1 5
      · have HK := Lib.hid hk
        clear hs hk HX1
        go_wp2_with fail
        refine (with_rng _ HS.out HK.out).mono ?_
        rintro x v2 ⟨rfl, hc2⟩
        have HC2 := Lib.hid ((HC1.out.trans (hc2.mono HC1.out.size)).alloc (HC1.out.trans (hc2.mono HC1.out.size)).size (.cells #[.int .i64 0, .int .i64 0, .int .i64 0, .int .i64 0, .int .i64 0] 39))
        clear hc2
        go_wp2
        go_ret
        exact ⟨rfl, HC2.out⟩
      have HK := Lib.hid hk
      obtain ⟨a', b', c', d', e', hu⟩ := upd5_ex (a := a) (b := b) (c := c) (d := d) (e := e) (f := f) hk
      have HU := Lib.hid hu
      cases hn : sB a' b' c' d' e'
      · have HN := Lib.hid hn
        have HC := Lib.hid (fun w => with_state w HS.out HK.out HU.out HN.out)
        clear hs hk HX1 hn hu
        go_wp2_with fail
        refine (HC.out _).mono ?_
        rintro x v2 ⟨rfl, hc2⟩
        have HC2 := Lib.hid ((HC1.out.trans (hc2.mono HC1.out.size)).alloc (HC1.out.trans (hc2.mono HC1.out.size)).size (.cells #[.int .i64 0, .int .i64 0, .int .i64 0, .int .i64 0, .int .i64 0] 39))
        clear hc2
        go_wp2
        go_ret
        exact ⟨rfl, HC2.out⟩
      have HN := Lib.hid hn
      have HC := Lib.hid (fun w => with_ok w HS.out HK.out HU.out HN.out)
      clear hs hk hn hu
      go_wp2_with fail
      refine (HC.out _).mono ?_
      rintro x v2 ⟨rfl, hc2⟩
      have HC2 := Lib.hid ((HC1.out.trans (hc2.mono HC1.out.size)).alloc (HC1.out.trans (hc2.mono HC1.out.size)).size (.cells #[.int .i64 a', .int .i64 b', .int .i64 c', .int .i64 d', .int .i64 e'] 39))
      have HY1 := Lib.hid ((HX1.out.below hc2).below ((Below.refl _ _).alloc (Nat.le_refl _) (.cells #[.int .i64 a', .int .i64 b', .int .i64 c', .int .i64 d', .int .i64 e'] 39)))
      have HY2 := Lib.hid (SBox.new v2 a' b' c' d' e' 39)
      clear hc2 HC HX1
      obtain ⟨W3, hW3⟩ : ∃ W, W = v2.alloc (.cells #[.int .i64 a', .int .i64 b', .int .i64 c', .int .i64 d', .int .i64 e'] 39) := ⟨_, rfl⟩
      obtain ⟨s1, hs1⟩ : ∃ s, s = v1.heap.size := ⟨_, rfl⟩
      obtain ⟨s2, hs2⟩ : ∃ s, s = v2.heap.size := ⟨_, rfl⟩
      rw [← hW3] at HY1 HY2 HC2
      rw [← hs1] at HY1
      rw [← hs2] at HY2
      have HW3 := Lib.hid hW3
      have Hs1 := Lib.hid hs1
      have Hs2 := Lib.hid hs2
      clear hW3 hs1 hs2
      go_wp2
      rw [← HW3.out, ← Hs1.out, ← Hs2.out]
      clear HW3 Hs1 Hs2 HC1
      go_loopw [19] (fun i wr => ∃ i' : Int, 1 ≤ i' ∧ i' ≤ 6 ∧ i = .int .i64 i' ∧ Below W3.heap.size W3 wr) (fun i _ => (6 - intOf i).toNat)
      case atStart => exact ⟨1, by omega, by omega, rfl, Below.refl _ _⟩
      case round =>
        obtain ⟨i, hi1, hi6, rfl, hbr⟩ := hrel
        have HBR := Lib.hid hbr
        by_cases h5 : i ≤ 5
        · have hi : inB i 1 5 = true := inB_true hi1 h5
          have HP1 := Lib.hid (fun w => partialOf_ok (a := a) (b := b) (c := c) (d := d) (e := e) w HS.out hi)
          have HP2 := Lib.hid (fun w => by have h := partialOf_ok (a := a') (b := b') (c := c') (d := d') (e := e') w HN.out hi; rw [upd_nth HU.out hi] at h; exact h)
          generalize nth5 a b c d e i = p at *
          obtain ⟨p', hp'⟩ : ∃ p', (if i = k then f else p) = p' := ⟨_, rfl⟩
          rw [hp'] at HP2
          obtain ⟨y0', y1', y2', y3', y4', yf, ylt⟩ := HY1.out.below hbr
          have X2 := Lib.hid (HY2.out.below hbr)
          have HI := Lib.hid hi
          clear hi hbr yf ylt
          by_cases hik : i = k
          · obtain rfl : p' = f := by rw [← hp', if_pos hik]
            have hik' : (i == k) = true := by rw [beq_iff_eq]; exact hik
            have hik'' : (i != k) = false := by rw [bne_eq_false_iff_eq]; exact hik
            clear hp' hik
            go_wp2_with fail
            refine (HP1.out _).mono ?_
            rintro x w4 ⟨rfl, hb4⟩
            have HB4 := Lib.hid (HBR.out.trans (hb4.mono HBR.out.size))
            obtain ⟨z0', z1', z2', z3', z4', zf, zlt⟩ := X2.out.below hb4
            clear hb4 y0' y1' y2' y3' y4' zf zlt
            go_wp2_with fail
            refine (HP2.out _).mono ?_
            rintro x w5 ⟨rfl, hb5⟩
            have HB5 := Lib.hid (HB4.out.trans (hb5.mono HB4.out.size))
            clear hb5 z0' z1' z2' z3' z4'
            go_wp2_with fail
            refine (partName HI.out _).mono ?_
            rintro x w6 ⟨nm, rfl, hnm, hb6⟩
            have HB6 := Lib.hid (HB5.out.trans (hb6.mono HB5.out.size))
            clear hb6
            go_wp2
            go_roundw
            case rel => exact ⟨i + 1, by omega, by omega, by go_num, HB6.out⟩
            case measure => simp [intOf]; omega
          · obtain rfl : p' = p := by rw [← hp', if_neg hik]
            have hik' : (i == k) = false := by rw [beq_eq_false_iff_ne]; exact hik
            have hik'' : (i != k) = true := by rw [bne_iff_ne]; exact hik
            clear hp' hik
            go_wp2_with fail
            refine (HP1.out _).mono ?_
            rintro x w4 ⟨rfl, hb4⟩
            have HB4 := Lib.hid (HBR.out.trans (hb4.mono HBR.out.size))
            obtain ⟨z0', z1', z2', z3', z4', zf, zlt⟩ := X2.out.below hb4
            clear hb4 y0' y1' y2' y3' y4' zf zlt
            go_wp2_with fail
            refine (HP2.out _).mono ?_
            rintro x w5 ⟨rfl, hb5⟩
            have HB5 := Lib.hid (HB4.out.trans (hb5.mono HB4.out.size))
            clear hb5 z0' z1' z2' z3' z4'
            go_wp2_with fail
            refine (partName HI.out _).mono ?_
            rintro x w6 ⟨nm, rfl, hnm, hb6⟩
            have HB6 := Lib.hid (HB5.out.trans (hb6.mono HB5.out.size))
            clear hb6
            go_wp2
            go_roundw
            case rel => exact ⟨i + 1, by omega, by omega, by go_num, HB6.out⟩
            case measure => simp [intOf]; omega
        · obtain rfl : i = 6 := by omega
          have HBZ := Lib.hid (HC2.out.trans (hbr.mono HC2.out.size))
          clear hbr HBR HY1 HY2 HS HN HU
          go_wp2
          go_ret
          exact ⟨rfl, HBZ.out⟩
    · obtain ⟨fs, hfs⟩ : ∃ fs, [s, s, s, s, s] = fs := ⟨_, rfl⟩
      obtain ⟨ts, hts⟩ : ∃ ts, idealL kd = ts := ⟨_, rfl⟩
      have hr' : raisedB fs ts 5 = true := by rw [← hfs, ← hts]; exact hrs
      have HR := Lib.hid hr'
      have HF := Lib.hid hfs
      have HT := Lib.hid hts
      have HC := Lib.hid (fun w => IdealS_ok (s := s) (k := kd) w H1.out H2.out HF.out HT.out HR.out)
      have HDL := Lib.hid (dev_law HF.out HR.out)
      clear hrs hfs hts hr'
      generalize rG fs ts 0 = r0 at *
      generalize rG fs ts 1 = r1 at *
      generalize rG fs ts 2 = r2 at *
      generalize rG fs ts 3 = r3 at *
      generalize rG fs ts 4 = r4 at *
      go_wp2_with fail
      refine (HC.out _).mono ?_
      rintro x w2 ⟨rfl, hb2⟩
      have hb12 := HB1.out.trans (hb2.mono HB1.out.size)
      have HB2 := Lib.hid (hb12.alloc hb12.size (.cells #[.int .i64 r0, .int .i64 r1, .int .i64 r2, .int .i64 r3, .int .i64 r4] 39))
      have HZ2 := Lib.hid (SBox.new w2 r0 r1 r2 r3 r4 39)
      clear hb2 hb12 HC
      cases hv : sB r0 r1 r2 r3 r4
      · have HV := Lib.hid hv
        clear hv HZ2 HDL HR HF HT
        go_wp2_with fail
        refine (valid_spec HV.out _).mono ?_
        rintro x w3 ⟨rfl, hb3⟩
        have HBW := Lib.hid (HB2.out.trans (hb3.mono HB2.out.size))
        clear hb3
        go_wp2_with fail
        refine (HD2.out _ HBW.out).mono ?_
        rintro x v1 ⟨a, b, c, d, e, k, f, rfl, hc1⟩
        have HC1 := Lib.hid ((HBW.out.trans (hc1.mono HBW.out.size)).alloc (HBW.out.trans (hc1.mono HBW.out.size)).size (.cells #[.int .i64 a, .int .i64 b, .int .i64 c, .int .i64 d, .int .i64 e] 39))
        have HX1 := Lib.hid (SBox.new v1 a b c d e 39)
        clear hc1 HD2
        cases hs : sB a b c d e
        · have HS := Lib.hid hs
          clear hs HX1
          go_wp2_with fail
          refine (with_inv _ HS.out).mono ?_
          rintro x v2 ⟨rfl, hc2⟩
          have HC2 := Lib.hid ((HC1.out.trans (hc2.mono HC1.out.size)).alloc (HC1.out.trans (hc2.mono HC1.out.size)).size (.cells #[.int .i64 0, .int .i64 0, .int .i64 0, .int .i64 0, .int .i64 0] 39))
          clear hc2
          go_wp2
          go_ret
          exact ⟨rfl, HC2.out⟩
        have HS := Lib.hid hs
        cases hk : inB k 1 5
        · have HK := Lib.hid hk
          clear hs hk HX1
          go_wp2_with fail
          refine (with_rng _ HS.out HK.out).mono ?_
          rintro x v2 ⟨rfl, hc2⟩
          have HC2 := Lib.hid ((HC1.out.trans (hc2.mono HC1.out.size)).alloc (HC1.out.trans (hc2.mono HC1.out.size)).size (.cells #[.int .i64 0, .int .i64 0, .int .i64 0, .int .i64 0, .int .i64 0] 39))
          clear hc2
          go_wp2
          go_ret
          exact ⟨rfl, HC2.out⟩
        have HK := Lib.hid hk
        obtain ⟨a', b', c', d', e', hu⟩ := upd5_ex (a := a) (b := b) (c := c) (d := d) (e := e) (f := f) hk
        have HU := Lib.hid hu
        cases hn : sB a' b' c' d' e'
        · have HN := Lib.hid hn
          have HC := Lib.hid (fun w => with_state w HS.out HK.out HU.out HN.out)
          clear hs hk HX1 hn hu
          go_wp2_with fail
          refine (HC.out _).mono ?_
          rintro x v2 ⟨rfl, hc2⟩
          have HC2 := Lib.hid ((HC1.out.trans (hc2.mono HC1.out.size)).alloc (HC1.out.trans (hc2.mono HC1.out.size)).size (.cells #[.int .i64 0, .int .i64 0, .int .i64 0, .int .i64 0, .int .i64 0] 39))
          clear hc2
          go_wp2
          go_ret
          exact ⟨rfl, HC2.out⟩
        have HN := Lib.hid hn
        have HC := Lib.hid (fun w => with_ok w HS.out HK.out HU.out HN.out)
        clear hs hk hn hu
        go_wp2_with fail
        refine (HC.out _).mono ?_
        rintro x v2 ⟨rfl, hc2⟩
        have HC2 := Lib.hid ((HC1.out.trans (hc2.mono HC1.out.size)).alloc (HC1.out.trans (hc2.mono HC1.out.size)).size (.cells #[.int .i64 a', .int .i64 b', .int .i64 c', .int .i64 d', .int .i64 e'] 39))
        have HY1 := Lib.hid ((HX1.out.below hc2).below ((Below.refl _ _).alloc (Nat.le_refl _) (.cells #[.int .i64 a', .int .i64 b', .int .i64 c', .int .i64 d', .int .i64 e'] 39)))
        have HY2 := Lib.hid (SBox.new v2 a' b' c' d' e' 39)
        clear hc2 HC HX1
        obtain ⟨W3, hW3⟩ : ∃ W, W = v2.alloc (.cells #[.int .i64 a', .int .i64 b', .int .i64 c', .int .i64 d', .int .i64 e'] 39) := ⟨_, rfl⟩
        obtain ⟨s1, hs1⟩ : ∃ s, s = v1.heap.size := ⟨_, rfl⟩
        obtain ⟨s2, hs2⟩ : ∃ s, s = v2.heap.size := ⟨_, rfl⟩
        rw [← hW3] at HY1 HY2 HC2
        rw [← hs1] at HY1
        rw [← hs2] at HY2
        have HW3 := Lib.hid hW3
        have Hs1 := Lib.hid hs1
        have Hs2 := Lib.hid hs2
        clear hW3 hs1 hs2
        go_wp2
        rw [← HW3.out, ← Hs1.out, ← Hs2.out]
        clear HW3 Hs1 Hs2 HC1
        go_loopw [19] (fun i wr => ∃ i' : Int, 1 ≤ i' ∧ i' ≤ 6 ∧ i = .int .i64 i' ∧ Below W3.heap.size W3 wr) (fun i _ => (6 - intOf i).toNat)
        case atStart => exact ⟨1, by omega, by omega, rfl, Below.refl _ _⟩
        case round =>
          obtain ⟨i, hi1, hi6, rfl, hbr⟩ := hrel
          have HBR := Lib.hid hbr
          by_cases h5 : i ≤ 5
          · have hi : inB i 1 5 = true := inB_true hi1 h5
            have HP1 := Lib.hid (fun w => partialOf_ok (a := a) (b := b) (c := c) (d := d) (e := e) w HS.out hi)
            have HP2 := Lib.hid (fun w => by have h := partialOf_ok (a := a') (b := b') (c := c') (d := d') (e := e') w HN.out hi; rw [upd_nth HU.out hi] at h; exact h)
            generalize nth5 a b c d e i = p at *
            obtain ⟨p', hp'⟩ : ∃ p', (if i = k then f else p) = p' := ⟨_, rfl⟩
            rw [hp'] at HP2
            obtain ⟨y0', y1', y2', y3', y4', yf, ylt⟩ := HY1.out.below hbr
            have X2 := Lib.hid (HY2.out.below hbr)
            have HI := Lib.hid hi
            clear hi hbr yf ylt
            by_cases hik : i = k
            · obtain rfl : p' = f := by rw [← hp', if_pos hik]
              have hik' : (i == k) = true := by rw [beq_iff_eq]; exact hik
              have hik'' : (i != k) = false := by rw [bne_eq_false_iff_eq]; exact hik
              clear hp' hik
              go_wp2_with fail
              refine (HP1.out _).mono ?_
              rintro x w4 ⟨rfl, hb4⟩
              have HB4 := Lib.hid (HBR.out.trans (hb4.mono HBR.out.size))
              obtain ⟨z0', z1', z2', z3', z4', zf, zlt⟩ := X2.out.below hb4
              clear hb4 y0' y1' y2' y3' y4' zf zlt
              go_wp2_with fail
              refine (HP2.out _).mono ?_
              rintro x w5 ⟨rfl, hb5⟩
              have HB5 := Lib.hid (HB4.out.trans (hb5.mono HB4.out.size))
              clear hb5 z0' z1' z2' z3' z4'
              go_wp2_with fail
              refine (partName HI.out _).mono ?_
              rintro x w6 ⟨nm, rfl, hnm, hb6⟩
              have HB6 := Lib.hid (HB5.out.trans (hb6.mono HB5.out.size))
              clear hb6
              go_wp2
              go_roundw
              case rel => exact ⟨i + 1, by omega, by omega, by go_num, HB6.out⟩
              case measure => simp [intOf]; omega
            · obtain rfl : p' = p := by rw [← hp', if_neg hik]
              have hik' : (i == k) = false := by rw [beq_eq_false_iff_ne]; exact hik
              have hik'' : (i != k) = true := by rw [bne_iff_ne]; exact hik
              clear hp' hik
              go_wp2_with fail
              refine (HP1.out _).mono ?_
              rintro x w4 ⟨rfl, hb4⟩
              have HB4 := Lib.hid (HBR.out.trans (hb4.mono HBR.out.size))
              obtain ⟨z0', z1', z2', z3', z4', zf, zlt⟩ := X2.out.below hb4
              clear hb4 y0' y1' y2' y3' y4' zf zlt
              go_wp2_with fail
              refine (HP2.out _).mono ?_
              rintro x w5 ⟨rfl, hb5⟩
              have HB5 := Lib.hid (HB4.out.trans (hb5.mono HB4.out.size))
              clear hb5 z0' z1' z2' z3' z4'
              go_wp2_with fail
              refine (partName HI.out _).mono ?_
              rintro x w6 ⟨nm, rfl, hnm, hb6⟩
              have HB6 := Lib.hid (HB5.out.trans (hb6.mono HB5.out.size))
              clear hb6
              go_wp2
              go_roundw
              case rel => exact ⟨i + 1, by omega, by omega, by go_num, HB6.out⟩
              case measure => simp [intOf]; omega
          · obtain rfl : i = 6 := by omega
            have HBZ := Lib.hid (HC2.out.trans (hbr.mono HC2.out.size))
            clear hbr HBR HY1 HY2 HS HN HU
            go_wp2
            go_ret
            exact ⟨rfl, HBZ.out⟩
      · have HV := Lib.hid hv
        clear hv
        have HDV := Lib.hid (fun w => by have h := DevOf_ok (s := s) (k := kd) w HV.out H1.out H2.out; rw [HT.out] at h; exact h)
        have hlen := devU_len s [r0, r1, r2, r3, r4] ts 5
        generalize devU s [r0, r1, r2, r3, r4] ts 5 = zs at *
        have HLE := Lib.hid hlen
        obtain ⟨k1, ⟨k2, k3, k4, k5, k6⟩, k7⟩ := snd_back HV.out
        have HRS := Lib.hid (fun w h1 h2 => by have h := rdSnd_impl (sndS r0 r1 r2 r3 r4) w k1 h1 h2; unfold SndRet at h; rw [k2, k3, k4, k5, k6, k7] at h; exact h)
        clear hlen k1 k2 k3 k4 k5 k6 k7
        go_wp2_with fail
        refine (valid_spec HV.out _).mono ?_
        rintro x w3 ⟨rfl, hb3⟩
        have HB3 := Lib.hid (HB2.out.trans (hb3.mono HB2.out.size))
        have HZ3 := Lib.hid (HZ2.out.below hb3)
        obtain ⟨y0', y1', y2', y3', y4', yf, ylt⟩ := HZ3.out
        clear hb3 yf ylt HZ2
        go_wp2_with fail
        refine (HDV.out _).mono ?_
        rintro x w4 ⟨A0, n0, c0, rfl, ho4, hb4⟩
        have hi4 := IntsAt.of_own ho4
        obtain rfl : n0 = 5 := by rw [← hi4.len]; exact HLE.out
        have HI4 := Lib.hid hi4
        have HB4 := Lib.hid (HB3.out.trans (hb4.mono HB3.out.size))
        have HZ4 := Lib.hid (HZ3.out.below hb4)
        clear ho4 hb4 hi4 y0' y1' y2' y3' y4' HZ3 HDV
        obtain ⟨y0', y1', y2', y3', y4', yf, ylt⟩ := HZ4.out
        clear yf ylt
        go_wp2_with fail
        refine (snd_impl r0 r1 r2 r3 r4 _ (HE.out.tab.below HB4.out)).mono ?_
        rintro x w5 ⟨rfl, hb5⟩
        have HI5 := Lib.hid (HI4.out.below hb5)
        have HB5 := Lib.hid (HB4.out.trans (hb5.mono HB4.out.size))
        have HZ5 := Lib.hid (HZ4.out.below hb5)
        clear hb5 HI4 HZ4 y0' y1' y2' y3' y4'
        go_wp2_with fail
        refine (HRS.out _ (HE.out.below HB5.out) (HM.out.below HB5.out)).mono ?_
        rintro x w6 ⟨rfl, hb6⟩
        have hal : Below w6.heap.size w6 (w6.alloc (.cells #[.int .i64 r0, .int .i64 r1, .int .i64 r2, .int .i64 r3, .int .i64 r4] 39)) := (Below.refl _ _).alloc (Nat.le_refl _) _
        have HI6 := Lib.hid ((HI5.out.below hb6).below hal)
        have HB6 := Lib.hid ((HB5.out.trans (hb6.mono HB5.out.size)).trans (hal.mono (HB5.out.trans (hb6.mono HB5.out.size)).size))
        have HZ6 := Lib.hid ((HZ5.out.below hb6).below hal)
        have HR6 := Lib.hid (SBox.new w6 r0 r1 r2 r3 r4 39)
        have hlt6 : w2.heap.size < w6.heap.size := (HZ5.out.below hb6).lt
        clear hb6 HI5 HZ5 HRS hal
        obtain ⟨y0', y1', y2', y3', y4', yf, ylt⟩ := HZ6.out
        obtain ⟨z0', z1', z2', z3', z4', zf, zlt⟩ := HR6.out
        clear yf ylt zf zlt
        go_wp2
        generalize hW8 : w6.alloc (.cells #[.int .i64 r0, .int .i64 r1, .int .i64 r2, .int .i64 r3, .int .i64 r4] 39) = W8 at *
        clear y0' y1' y2' y3' y4' z0' z1' z2' z3' z4' HR6 HZ6 hW8
        go_loopw [13] (fun i wr => ∃ k : Nat, k ≤ 5 ∧ i = .int .i64 k ∧ wr = W8) (fun i _ => 5 - (intOf i).toNat)
        case atStart => exact ⟨0, Nat.zero_le _, rfl, rfl⟩
        case round =>
          obtain ⟨k, hk, rfl, rfl⟩ := hrel
          by_cases h5 : k < 5
          · obtain ⟨b2, off2, z, rfl, _, hz, hc2⟩ := HI6.out.at_ h5
            obtain ⟨z1, z2⟩ := HDL.out k z hz
            have hkI : (k : Int) < 5 := by omega
            have hk0 : (0 : Int) ≤ (k : Int) := Int.natCast_nonneg _
            have hn0 : ¬ z < 0 := by omega
            have hn2 : ¬ 2 < z := by omega
            clear hz
            go_wp2
            go_roundw
            case rel => exact ⟨k + 1, by omega, by go_num, by first | trivial | rfl⟩
            case measure => simp [intOf]; omega
          · obtain rfl : k = 5 := by omega
            have HBW := HB6
            clear HI6 HDL HR HF HT HV HLE
            go_wp2_with fail
            refine (HD2.out _ HBW.out).mono ?_
            rintro x v1 ⟨a, b, c, d, e, k, f, rfl, hc1⟩
            have HC1 := Lib.hid ((HBW.out.trans (hc1.mono HBW.out.size)).alloc (HBW.out.trans (hc1.mono HBW.out.size)).size (.cells #[.int .i64 a, .int .i64 b, .int .i64 c, .int .i64 d, .int .i64 e] 39))
            have HX1 := Lib.hid (SBox.new v1 a b c d e 39)
            clear hc1 HD2
            cases hs : sB a b c d e
            · have HS := Lib.hid hs
              clear hs HX1
              go_wp2_with fail
              refine (with_inv _ HS.out).mono ?_
              rintro x v2 ⟨rfl, hc2⟩
              have HC2 := Lib.hid ((HC1.out.trans (hc2.mono HC1.out.size)).alloc (HC1.out.trans (hc2.mono HC1.out.size)).size (.cells #[.int .i64 0, .int .i64 0, .int .i64 0, .int .i64 0, .int .i64 0] 39))
              clear hc2
              go_wp2
              go_ret
              exact ⟨rfl, HC2.out⟩
            have HS := Lib.hid hs
            cases hk : inB k 1 5
            · have HK := Lib.hid hk
              clear hs hk HX1
              go_wp2_with fail
              refine (with_rng _ HS.out HK.out).mono ?_
              rintro x v2 ⟨rfl, hc2⟩
              have HC2 := Lib.hid ((HC1.out.trans (hc2.mono HC1.out.size)).alloc (HC1.out.trans (hc2.mono HC1.out.size)).size (.cells #[.int .i64 0, .int .i64 0, .int .i64 0, .int .i64 0, .int .i64 0] 39))
              clear hc2
              go_wp2
              go_ret
              exact ⟨rfl, HC2.out⟩
            have HK := Lib.hid hk
            obtain ⟨a', b', c', d', e', hu⟩ := upd5_ex (a := a) (b := b) (c := c) (d := d) (e := e) (f := f) hk
            have HU := Lib.hid hu
            cases hn : sB a' b' c' d' e'
            · have HN := Lib.hid hn
              have HC := Lib.hid (fun w => with_state w HS.out HK.out HU.out HN.out)
              clear hs hk HX1 hn hu
              go_wp2_with fail
              refine (HC.out _).mono ?_
              rintro x v2 ⟨rfl, hc2⟩
              have HC2 := Lib.hid ((HC1.out.trans (hc2.mono HC1.out.size)).alloc (HC1.out.trans (hc2.mono HC1.out.size)).size (.cells #[.int .i64 0, .int .i64 0, .int .i64 0, .int .i64 0, .int .i64 0] 39))
              clear hc2
              go_wp2
              go_ret
              exact ⟨rfl, HC2.out⟩
            have HN := Lib.hid hn
            have HC := Lib.hid (fun w => with_ok w HS.out HK.out HU.out HN.out)
            clear hs hk hn hu
            go_wp2_with fail
            refine (HC.out _).mono ?_
            rintro x v2 ⟨rfl, hc2⟩
            have HC2 := Lib.hid ((HC1.out.trans (hc2.mono HC1.out.size)).alloc (HC1.out.trans (hc2.mono HC1.out.size)).size (.cells #[.int .i64 a', .int .i64 b', .int .i64 c', .int .i64 d', .int .i64 e'] 39))
            have HY1 := Lib.hid ((HX1.out.below hc2).below ((Below.refl _ _).alloc (Nat.le_refl _) (.cells #[.int .i64 a', .int .i64 b', .int .i64 c', .int .i64 d', .int .i64 e'] 39)))
            have HY2 := Lib.hid (SBox.new v2 a' b' c' d' e' 39)
            clear hc2 HC HX1
            obtain ⟨W3, hW3⟩ : ∃ W, W = v2.alloc (.cells #[.int .i64 a', .int .i64 b', .int .i64 c', .int .i64 d', .int .i64 e'] 39) := ⟨_, rfl⟩
            obtain ⟨s1, hs1⟩ : ∃ s, s = v1.heap.size := ⟨_, rfl⟩
            obtain ⟨s2, hs2⟩ : ∃ s, s = v2.heap.size := ⟨_, rfl⟩
            rw [← hW3] at HY1 HY2 HC2
            rw [← hs1] at HY1
            rw [← hs2] at HY2
            have HW3 := Lib.hid hW3
            have Hs1 := Lib.hid hs1
            have Hs2 := Lib.hid hs2
            clear hW3 hs1 hs2
            go_wp2
            rw [← HW3.out, ← Hs1.out, ← Hs2.out]
            clear HW3 Hs1 Hs2 HC1
            go_loopw [19] (fun i wr => ∃ i' : Int, 1 ≤ i' ∧ i' ≤ 6 ∧ i = .int .i64 i' ∧ Below W3.heap.size W3 wr) (fun i _ => (6 - intOf i).toNat)
            case atStart => exact ⟨1, by omega, by omega, rfl, Below.refl _ _⟩
            case round =>
              obtain ⟨i, hi1, hi6, rfl, hbr⟩ := hrel
              have HBR := Lib.hid hbr
              by_cases h5 : i ≤ 5
              · have hi : inB i 1 5 = true := inB_true hi1 h5
                have HP1 := Lib.hid (fun w => partialOf_ok (a := a) (b := b) (c := c) (d := d) (e := e) w HS.out hi)
                have HP2 := Lib.hid (fun w => by have h := partialOf_ok (a := a') (b := b') (c := c') (d := d') (e := e') w HN.out hi; rw [upd_nth HU.out hi] at h; exact h)
                generalize nth5 a b c d e i = p at *
                obtain ⟨p', hp'⟩ : ∃ p', (if i = k then f else p) = p' := ⟨_, rfl⟩
                rw [hp'] at HP2
                obtain ⟨y0', y1', y2', y3', y4', yf, ylt⟩ := HY1.out.below hbr
                have X2 := Lib.hid (HY2.out.below hbr)
                have HI := Lib.hid hi
                clear hi hbr yf ylt
                by_cases hik : i = k
                · obtain rfl : p' = f := by rw [← hp', if_pos hik]
                  have hik' : (i == k) = true := by rw [beq_iff_eq]; exact hik
                  have hik'' : (i != k) = false := by rw [bne_eq_false_iff_eq]; exact hik
                  clear hp' hik
                  go_wp2_with fail
                  refine (HP1.out _).mono ?_
                  rintro x w4 ⟨rfl, hb4⟩
                  have HB4 := Lib.hid (HBR.out.trans (hb4.mono HBR.out.size))
                  obtain ⟨z0', z1', z2', z3', z4', zf, zlt⟩ := X2.out.below hb4
                  clear hb4 y0' y1' y2' y3' y4' zf zlt
                  go_wp2_with fail
                  refine (HP2.out _).mono ?_
                  rintro x w5 ⟨rfl, hb5⟩
                  have HB5 := Lib.hid (HB4.out.trans (hb5.mono HB4.out.size))
                  clear hb5 z0' z1' z2' z3' z4'
                  go_wp2_with fail
                  refine (partName HI.out _).mono ?_
                  rintro x w6 ⟨nm, rfl, hnm, hb6⟩
                  have HB6 := Lib.hid (HB5.out.trans (hb6.mono HB5.out.size))
                  clear hb6
                  go_wp2
                  go_roundw
                  case rel => exact ⟨i + 1, by omega, by omega, by go_num, HB6.out⟩
                  case measure => simp [intOf]; omega
                · obtain rfl : p' = p := by rw [← hp', if_neg hik]
                  have hik' : (i == k) = false := by rw [beq_eq_false_iff_ne]; exact hik
                  have hik'' : (i != k) = true := by rw [bne_iff_ne]; exact hik
                  clear hp' hik
                  go_wp2_with fail
                  refine (HP1.out _).mono ?_
                  rintro x w4 ⟨rfl, hb4⟩
                  have HB4 := Lib.hid (HBR.out.trans (hb4.mono HBR.out.size))
                  obtain ⟨z0', z1', z2', z3', z4', zf, zlt⟩ := X2.out.below hb4
                  clear hb4 y0' y1' y2' y3' y4' zf zlt
                  go_wp2_with fail
                  refine (HP2.out _).mono ?_
                  rintro x w5 ⟨rfl, hb5⟩
                  have HB5 := Lib.hid (HB4.out.trans (hb5.mono HB4.out.size))
                  clear hb5 z0' z1' z2' z3' z4'
                  go_wp2_with fail
                  refine (partName HI.out _).mono ?_
                  rintro x w6 ⟨nm, rfl, hnm, hb6⟩
                  have HB6 := Lib.hid (HB5.out.trans (hb6.mono HB5.out.size))
                  clear hb6
                  go_wp2
                  go_roundw
                  case rel => exact ⟨i + 1, by omega, by omega, by go_num, HB6.out⟩
                  case measure => simp [intOf]; omega
              · obtain rfl : i = 6 := by omega
                have HBZ := Lib.hid (HC2.out.trans (hbr.mono HC2.out.size))
                clear hbr HBR HY1 HY2 HS HN HU
                go_wp2
                go_ret
                exact ⟨rfl, HBZ.out⟩
  · have HR := Lib.hid (by
      rcases not_both hr with h | h
      · exact (.inl h : inB s 10000 20000000 = false ∨ (inB s 10000 20000000 = true ∧ inB kd 1 2 = false))
      · cases hq : inB s 10000 20000000
        · exact .inl rfl
        · exact .inr ⟨rfl, h⟩)
    clear hr
    go_wp2_with fail
    refine (IdealS_no _ HR.out).mono ?_
    rintro x w2 ⟨rfl, hb2⟩
    have HBW := Lib.hid ((HB1.out.trans (hb2.mono HB1.out.size)).alloc (HB1.out.trans (hb2.mono HB1.out.size)).size (.cells #[.int .i64 0, .int .i64 0, .int .i64 0, .int .i64 0, .int .i64 0] 39))
    clear hb2
    go_wp2_with fail
    refine (HD2.out _ HBW.out).mono ?_
    rintro x v1 ⟨a, b, c, d, e, k, f, rfl, hc1⟩
    have HC1 := Lib.hid ((HBW.out.trans (hc1.mono HBW.out.size)).alloc (HBW.out.trans (hc1.mono HBW.out.size)).size (.cells #[.int .i64 a, .int .i64 b, .int .i64 c, .int .i64 d, .int .i64 e] 39))
    have HX1 := Lib.hid (SBox.new v1 a b c d e 39)
    clear hc1 HD2
    cases hs : sB a b c d e
    · have HS := Lib.hid hs
      clear hs HX1
      go_wp2_with fail
      refine (with_inv _ HS.out).mono ?_
      rintro x v2 ⟨rfl, hc2⟩
      have HC2 := Lib.hid ((HC1.out.trans (hc2.mono HC1.out.size)).alloc (HC1.out.trans (hc2.mono HC1.out.size)).size (.cells #[.int .i64 0, .int .i64 0, .int .i64 0, .int .i64 0, .int .i64 0] 39))
      clear hc2
      go_wp2
      go_ret
      exact ⟨rfl, HC2.out⟩
    have HS := Lib.hid hs
    cases hk : inB k 1 5
    · have HK := Lib.hid hk
      clear hs hk HX1
      go_wp2_with fail
      refine (with_rng _ HS.out HK.out).mono ?_
      rintro x v2 ⟨rfl, hc2⟩
      have HC2 := Lib.hid ((HC1.out.trans (hc2.mono HC1.out.size)).alloc (HC1.out.trans (hc2.mono HC1.out.size)).size (.cells #[.int .i64 0, .int .i64 0, .int .i64 0, .int .i64 0, .int .i64 0] 39))
      clear hc2
      go_wp2
      go_ret
      exact ⟨rfl, HC2.out⟩
    have HK := Lib.hid hk
    obtain ⟨a', b', c', d', e', hu⟩ := upd5_ex (a := a) (b := b) (c := c) (d := d) (e := e) (f := f) hk
    have HU := Lib.hid hu
    cases hn : sB a' b' c' d' e'
    · have HN := Lib.hid hn
      have HC := Lib.hid (fun w => with_state w HS.out HK.out HU.out HN.out)
      clear hs hk HX1 hn hu
      go_wp2_with fail
      refine (HC.out _).mono ?_
      rintro x v2 ⟨rfl, hc2⟩
      have HC2 := Lib.hid ((HC1.out.trans (hc2.mono HC1.out.size)).alloc (HC1.out.trans (hc2.mono HC1.out.size)).size (.cells #[.int .i64 0, .int .i64 0, .int .i64 0, .int .i64 0, .int .i64 0] 39))
      clear hc2
      go_wp2
      go_ret
      exact ⟨rfl, HC2.out⟩
    have HN := Lib.hid hn
    have HC := Lib.hid (fun w => with_ok w HS.out HK.out HU.out HN.out)
    clear hs hk hn hu
    go_wp2_with fail
    refine (HC.out _).mono ?_
    rintro x v2 ⟨rfl, hc2⟩
    have HC2 := Lib.hid ((HC1.out.trans (hc2.mono HC1.out.size)).alloc (HC1.out.trans (hc2.mono HC1.out.size)).size (.cells #[.int .i64 a', .int .i64 b', .int .i64 c', .int .i64 d', .int .i64 e'] 39))
    have HY1 := Lib.hid ((HX1.out.below hc2).below ((Below.refl _ _).alloc (Nat.le_refl _) (.cells #[.int .i64 a', .int .i64 b', .int .i64 c', .int .i64 d', .int .i64 e'] 39)))
    have HY2 := Lib.hid (SBox.new v2 a' b' c' d' e' 39)
    clear hc2 HC HX1
    obtain ⟨W3, hW3⟩ : ∃ W, W = v2.alloc (.cells #[.int .i64 a', .int .i64 b', .int .i64 c', .int .i64 d', .int .i64 e'] 39) := ⟨_, rfl⟩
    obtain ⟨s1, hs1⟩ : ∃ s, s = v1.heap.size := ⟨_, rfl⟩
    obtain ⟨s2, hs2⟩ : ∃ s, s = v2.heap.size := ⟨_, rfl⟩
    rw [← hW3] at HY1 HY2 HC2
    rw [← hs1] at HY1
    rw [← hs2] at HY2
    have HW3 := Lib.hid hW3
    have Hs1 := Lib.hid hs1
    have Hs2 := Lib.hid hs2
    clear hW3 hs1 hs2
    go_wp2
    rw [← HW3.out, ← Hs1.out, ← Hs2.out]
    clear HW3 Hs1 Hs2 HC1
    go_loopw [19] (fun i wr => ∃ i' : Int, 1 ≤ i' ∧ i' ≤ 6 ∧ i = .int .i64 i' ∧ Below W3.heap.size W3 wr) (fun i _ => (6 - intOf i).toNat)
    case atStart => exact ⟨1, by omega, by omega, rfl, Below.refl _ _⟩
    case round =>
      obtain ⟨i, hi1, hi6, rfl, hbr⟩ := hrel
      have HBR := Lib.hid hbr
      by_cases h5 : i ≤ 5
      · have hi : inB i 1 5 = true := inB_true hi1 h5
        have HP1 := Lib.hid (fun w => partialOf_ok (a := a) (b := b) (c := c) (d := d) (e := e) w HS.out hi)
        have HP2 := Lib.hid (fun w => by have h := partialOf_ok (a := a') (b := b') (c := c') (d := d') (e := e') w HN.out hi; rw [upd_nth HU.out hi] at h; exact h)
        generalize nth5 a b c d e i = p at *
        obtain ⟨p', hp'⟩ : ∃ p', (if i = k then f else p) = p' := ⟨_, rfl⟩
        rw [hp'] at HP2
        obtain ⟨y0', y1', y2', y3', y4', yf, ylt⟩ := HY1.out.below hbr
        have X2 := Lib.hid (HY2.out.below hbr)
        have HI := Lib.hid hi
        clear hi hbr yf ylt
        by_cases hik : i = k
        · obtain rfl : p' = f := by rw [← hp', if_pos hik]
          have hik' : (i == k) = true := by rw [beq_iff_eq]; exact hik
          have hik'' : (i != k) = false := by rw [bne_eq_false_iff_eq]; exact hik
          clear hp' hik
          go_wp2_with fail
          refine (HP1.out _).mono ?_
          rintro x w4 ⟨rfl, hb4⟩
          have HB4 := Lib.hid (HBR.out.trans (hb4.mono HBR.out.size))
          obtain ⟨z0', z1', z2', z3', z4', zf, zlt⟩ := X2.out.below hb4
          clear hb4 y0' y1' y2' y3' y4' zf zlt
          go_wp2_with fail
          refine (HP2.out _).mono ?_
          rintro x w5 ⟨rfl, hb5⟩
          have HB5 := Lib.hid (HB4.out.trans (hb5.mono HB4.out.size))
          clear hb5 z0' z1' z2' z3' z4'
          go_wp2_with fail
          refine (partName HI.out _).mono ?_
          rintro x w6 ⟨nm, rfl, hnm, hb6⟩
          have HB6 := Lib.hid (HB5.out.trans (hb6.mono HB5.out.size))
          clear hb6
          go_wp2
          go_roundw
          case rel => exact ⟨i + 1, by omega, by omega, by go_num, HB6.out⟩
          case measure => simp [intOf]; omega
        · obtain rfl : p' = p := by rw [← hp', if_neg hik]
          have hik' : (i == k) = false := by rw [beq_eq_false_iff_ne]; exact hik
          have hik'' : (i != k) = true := by rw [bne_iff_ne]; exact hik
          clear hp' hik
          go_wp2_with fail
          refine (HP1.out _).mono ?_
          rintro x w4 ⟨rfl, hb4⟩
          have HB4 := Lib.hid (HBR.out.trans (hb4.mono HBR.out.size))
          obtain ⟨z0', z1', z2', z3', z4', zf, zlt⟩ := X2.out.below hb4
          clear hb4 y0' y1' y2' y3' y4' zf zlt
          go_wp2_with fail
          refine (HP2.out _).mono ?_
          rintro x w5 ⟨rfl, hb5⟩
          have HB5 := Lib.hid (HB4.out.trans (hb5.mono HB4.out.size))
          clear hb5 z0' z1' z2' z3' z4'
          go_wp2_with fail
          refine (partName HI.out _).mono ?_
          rintro x w6 ⟨nm, rfl, hnm, hb6⟩
          have HB6 := Lib.hid (HB5.out.trans (hb6.mono HB5.out.size))
          clear hb6
          go_wp2
          go_roundw
          case rel => exact ⟨i + 1, by omega, by omega, by go_num, HB6.out⟩
          case measure => simp [intOf]; omega
      · obtain rfl : i = 6 := by omega
        have HBZ := Lib.hid (HC2.out.trans (hbr.mono HC2.out.size))
        clear hbr HBR HY1 HY2 HS HN HU
        go_wp2
        go_ret
        exact ⟨rfl, HBZ.out⟩

end Go.Proofs.YtkbfmjnekeipcaaGreatDoor.fnPartials
