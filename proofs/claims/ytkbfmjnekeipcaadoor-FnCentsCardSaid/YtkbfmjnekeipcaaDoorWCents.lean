/- The law FnCents of the given program holds: for every input it returns true, and its arguments read afterwards as before. No condition. -/
import Derived.Test.YtkbfmjnekeipcaaDoorBase
import Derived.LaidMore
import Derived.Stop.Joined
import Derived.SevenTiedAt
import Derived.Test.YtkbfmjnekeipcaaDoorCards
import Derived.Test.YtkbfmjnekeipcaaDoorTie
import Derived.Test.YtkbfmjnekeipcaaDoorCenM
import Derived.Test.YtkbfmjnekeipcaaDoorDrawN
import Derived.Test.YtkbfmjnekeipcaaDoorOpen
namespace Go.Proofs.YtkbfmjnekeipcaaDoor.fnCents
open Go.ChangeShapes Go.WideShapes Go.ChangeAt Go.RowKit
set_option maxRecDepth 100000
set_option linter.unusedVariables false

theorem star : "*" ++ "errors.errorString" = "*errors.errorString" := by decide
theorem row_es (u : TypeId) (h : Tryd.prog.typeName? 3 u = some "*errors.errorString") : u = 148 :=
  typeName_ptr_named (nm := "errors.errorString") (by rw [star]; kernel_rfl) (by kernel_rfl) (by decide) u (by rw [star]; exact h)
theorem gESType : (Tryd.prog.globals[1]?).map (·.type) = some 69 := by kernel_rfl
theorem gERType : (Tryd.prog.globals[2]?).map (·.type) = some 69 := by kernel_rfl
theorem errs_row {W : World} (h : laidMetH Tryd.prog Rows.fnCentsRow.laid W) : Errs W := by
  rw [MakeChecks.laidMetH_plain _ _ _ (by kernel_rfl)] at h
  have ht := tab_of h
  have h4 := h.tail.tail.tail
  obtain ⟨a0, s0, hv0, _, _, _⟩ := laid_sentinel h4 gER gERType Tryd.underlying69 row_es Tryd.underlying148 Tryd.underlying150 rfl rfl Tryd.underlying9 (by kernel_rfl) (by kernel_rfl)
  obtain ⟨a1, s1, hv1, _, _, _⟩ := laid_sentinel h4.tail gES gESType Tryd.underlying69 row_es Tryd.underlying148 Tryd.underlying150 rfl rfl Tryd.underlying9 (by kernel_rfl) (by kernel_rfl)
  exact ⟨ht, ⟨_, _, hv1⟩, ⟨_, _, hv0⟩⟩
theorem shaped_max {W : World} (h : W.ShapedOpen Tryd.prog) : MaxLenIn W := Go.Proofs.cell_of_shapedOpen_int (zero := #[.int .i64 0]) (t := 3) h (of_decide_eq_true (by kernel_rfl)) (by kernel_rfl) rfl (by kernel_rfl) (by kernel_rfl) Tryd.underlying3
set_option maxRecDepth 100000 in
set_option maxHeartbeats 4000000 in
theorem walk {A : Option Addr} {n cc : Nat} {xs : List UInt8} {B : Option Addr} {m cd : Nat} {ys : List UInt8} {w : World} (hx : BytesAt w A n xs) (hy : BytesAt w B m ys) (he : Errs w) (hm : MaxLenIn w) :
    Calls Tryd.prog 9 #[.slice A n cc, .slice B m cd] w fun e w' => e = .returned (.bool true) ∧ Below w.heap.size w w' := by
  have HE := Lib.hid he
  have HM := Lib.hid hm
  clear he hm
  have HD1 := Lib.hid (drawRaise A n cc xs w hx)
  have HD2 := Lib.hid (fun w1 (hb : Below w.heap.size w w1) => drawCents B m cd ys w1 (CellsAt.below hy hb))
  have HW := Lib.hid (fun w1 (hb : Below w.heap.size w w1) => b10Wide_is A n cc xs 0 0 65536 rfl (by omega) w1 (CellsAt.below hx hb) (by omega))
  clear hx hy
  by_cases hn : 1048576 < n
  · have d1 : decide (1048576 < (n : Int)) = true := decide_eq_true (by omega)
    clear hn
    go_enter Tryd.func9, Tryd.ntmps9
    go_wp2_with (go_at_call 38; refine (b10Long_is _ _ _ _).mono ?_; rintro e w' ⟨rfl, rfl⟩)
    go_ret
    exact ⟨rfl, Below.refl _ _⟩
  by_cases hm : 1048576 < m
  · have d1 : decide (1048576 < (n : Int)) = false := decide_eq_false (by omega)
    have d2 : decide (1048576 < (m : Int)) = true := decide_eq_true (by omega)
    clear hn hm
    go_enter Tryd.func9, Tryd.ntmps9
    go_wp2_with (go_at_call 38; refine (b10Long_is _ _ _ _).mono ?_; rintro e w' ⟨rfl, rfl⟩)
    go_ret
    exact ⟨rfl, Below.refl _ _⟩
  have d1 : decide (1048576 < (n : Int)) = false := decide_eq_false (by omega)
  have d2 : decide (1048576 < (m : Int)) = false := decide_eq_false (by omega)
  clear hn hm
  go_enter Tryd.func9, Tryd.ntmps9
  go_wp2_with (go_at_call 38; refine (b10Long_is _ _ _ _).mono ?_; rintro e w' ⟨rfl, rfl⟩)
  refine HD1.out.mono ?_
  rintro x w1 ⟨f, t, rfl, hf0, ht0, hb1⟩
  have HB1 := Lib.hid hb1
  clear hb1 HD1
  cases hr : raiseB f t
  · have HR := Lib.hid hr
    clear hr
    go_wp2_with fail
    refine (Raise_no f t _ HR.out).mono ?_
    rintro e w2 ⟨rfl, rfl⟩
    have HBW := HB1
    go_wp2_with fail
    refine (HD2.out _ HBW.out).mono ?_
    rintro e v1 ⟨a, b, rfl, ha0, hb0, hc1⟩
    have HC1 := Lib.hid (HBW.out.trans (hc1.mono HBW.out.size))
    clear hc1 HD2
    by_cases hr : inB a 10000 20000000 = true ∧ inB b 10000 20000000 = true
    · have HA := Lib.hid hr.1
      have HB := Lib.hid hr.2
      obtain ⟨a1, a2⟩ := inB_bd HA.out
      obtain ⟨b1, b2⟩ := inB_bd HB.out
      have ta := tenthsV_bd (n := a) (by omega) (by omega)
      have tb := tenthsV_bd (n := b) (by omega) (by omega)
      have hmo : a < b → 0 ≤ tenthsV b - tenthsV a := fun h => by have := tenths_mono (a := a) (b := b) (by omega) (by omega); omega
      obtain ⟨x, hx⟩ : ∃ x, tenthsV b - tenthsV a = x := ⟨_, rfl⟩
      rw [hx] at hmo
      have HK1 := Lib.hid (fun w => by have h := centsBetween_ok a b w HA.out HB.out; rw [hx] at h; exact h)
      have HK2 := Lib.hid (fun w => by have h := centsBetween_ok b a w HB.out HA.out; rw [show tenthsV a - tenthsV b = -x by omega] at h; exact h)
      have hxb : -480000 ≤ x ∧ x ≤ 480000 := by omega
      have HXE := Lib.hid hx
      have HTA := Lib.hid ta
      have HTB := Lib.hid tb
      have HMO := Lib.hid hmo
      clear hr ha0 hb0 hx ta tb hmo
      go_wp2_with fail
      refine (HK1.out _).mono ?_
      rintro e v2 ⟨rfl, hc2⟩
      have HC2 := Lib.hid (HC1.out.trans (hc2.mono HC1.out.size))
      clear hc2
      go_wp2_with fail
      refine (HK2.out _).mono ?_
      rintro e v3 ⟨rfl, hc3⟩
      have HC3 := Lib.hid (HC2.out.trans (hc3.mono HC2.out.size))
      clear hc3 HK1 HK2
      go_wp2_with fail
      refine (HW.out _ HC3.out).mono ?_
      rintro e v4 ⟨r, rfl, r0, r1, rfl⟩
      have HCc := Lib.hid (inB_true (n := 10000 + r * 30) (lo := 10000) (hi := 20000000) (by omega) (by omega))
      have tc := tenthsV_bd (n := 10000 + r * 30) (by omega) (by omega)
      obtain ⟨u, hu⟩ : ∃ u, tenthsV (10000 + r * 30) - tenthsV a = u := ⟨_, rfl⟩
      obtain ⟨v, hv⟩ : ∃ v, tenthsV b - tenthsV (10000 + r * 30) = v := ⟨_, rfl⟩
      have HK3 := Lib.hid (fun w => by have h := centsBetween_ok a (10000 + r * 30) w HA.out HCc.out; rw [hu] at h; exact h)
      have HK4 := Lib.hid (fun w => by have h := centsBetween_ok (10000 + r * 30) b w HCc.out HB.out; rw [hv] at h; exact h)
      have huv : u + v = x := by have := HXE.out; omega
      have hub : -480000 ≤ u ∧ u ≤ 480000 := by have := HTA.out; omega
      have hvb : -480000 ≤ v ∧ v ≤ 480000 := by have := HTB.out; omega
      have HUV := Lib.hid huv
      clear hu hv tc huv HW
      go_wp2_with fail
      refine (HK3.out _).mono ?_
      rintro e v5 ⟨rfl, hc5⟩
      have HC5 := Lib.hid (HC3.out.trans (hc5.mono HC3.out.size))
      clear hc5
      go_wp2_with fail
      refine (HK4.out _).mono ?_
      rintro e v6 ⟨rfl, hc6⟩
      have HC6 := Lib.hid (HC5.out.trans (hc6.mono HC5.out.size))
      clear hc6 HK3 HK4 HTA HTB
      have huv := HUV.out
      have hmo := HMO.out
      clear HUV HMO HXE
      have hwn : IntKind.i64.wrap (-x) = -x := IntWalk.i64_in _ (by omega)
      have hww : IntKind.i64.wrap (u + v) = u + v := IntWalk.i64_in _ (by omega)
      have ha2b : 2 * a ≤ 40000000 := by omega
      by_cases h2 : 20000000 < 2 * a
      · by_cases hab : a < b
        · have hx0 : ¬ x < 0 := by have := hmo hab; omega
          clear hmo
          go_wp2
          go_ret
          exact ⟨rfl, HC6.out⟩
        · clear hmo
          go_wp2
          go_ret
          exact ⟨rfl, HC6.out⟩
      · have HO := Lib.hid (fun w => by have h := centsBetween_ok a (2 * a) w HA.out (inB_true (by omega) (by omega)); rw [tenths_octave (by omega) (by omega)] at h; exact h)
        by_cases hab : a < b
        · have hx0 : ¬ x < 0 := by have := hmo hab; omega
          clear hmo
          go_wp2_with fail
          refine (HO.out _).mono ?_
          rintro e v7 ⟨rfl, hc7⟩
          have HC7 := Lib.hid (HC6.out.trans (hc7.mono HC6.out.size))
          clear hc7
          go_wp2
          go_ret
          exact ⟨rfl, HC7.out⟩
        · clear hmo
          go_wp2_with fail
          refine (HO.out _).mono ?_
          rintro e v7 ⟨rfl, hc7⟩
          have HC7 := Lib.hid (HC6.out.trans (hc7.mono HC6.out.size))
          clear hc7
          go_wp2
          go_ret
          exact ⟨rfl, HC7.out⟩
    · have HR := Lib.hid (not_both hr)
      clear hr
      go_wp2_with fail
      refine (centsBetween_no a b _ HR.out).mono ?_
      rintro e v2 ⟨rfl, hc2⟩
      have HC2 := Lib.hid (HC1.out.trans (hc2.mono HC1.out.size))
      clear hc2
      go_wp2_with fail
      refine (centsBetween_no b a _ HR.out.symm).mono ?_
      rintro e v3 ⟨rfl, hc3⟩
      have HC3 := Lib.hid (HC2.out.trans (hc3.mono HC2.out.size))
      clear hc3
      go_wp2
      go_ret
      exact ⟨rfl, HC3.out⟩
  · obtain ⟨q1, q2, q3⟩ := raiseB_yes hr
    have HF := Lib.hid q1
    have hRG := Lib.hid (fun w => Raise_ok f t w hr)
    obtain ⟨s1, s2, s3, _, s5⟩ := raise_step q2 q3 rfl
    obtain ⟨c1, c2⟩ := raise_cents q2 q3 rfl
    obtain ⟨t1, t2⟩ := inB_bd q2
    obtain ⟨f1, f2⟩ := inB_bd q1
    generalize raiseV (goalV f t) = g at *
    have HG := Lib.hid (inB_true (n := g) (lo := 10000) (hi := 20000000) s1 s2)
    have hfb := fineV_bd (n := f) (by omega) (by omega)
    have hgb := fineV_bd (n := g) (by omega) (by omega)
    have hd := tenthsV_bd (n := g) (by omega) (by omega)
    have hd' := tenthsV_bd (n := f) (by omega) (by omega)
    have HCB := Lib.hid (fun w => centsBetween_ok f g w HF.out HG.out)
    have HF1 := Lib.hid (fun w => fineLog_ok f w (inB_true (by omega) (by omega)))
    have HF2 := Lib.hid (fun w => fineLog_ok g w (inB_true (by omega) (by omega)))
    obtain ⟨z1, z2, z3⟩ := hz_back HG.out
    obtain ⟨y1, y2, y3⟩ := ct_back q2
    have HRH := Lib.hid (fun w h1 h2 => by have h := rdHz_impl (hertzS g) w z1 h1 h2; rw [z2, z3] at h; exact h)
    have HRC := Lib.hid (fun w h1 h2 => by have h := rdCt_impl (centsS t) w y1 h1 h2; rw [y2, y3] at h; exact h)
    generalize tenthsV g - tenthsV f = d at *
    have n1 : ¬ d < t := by omega
    have n2 : ¬ t + 3 < d := by omega
    have n3 : ¬ 12000 * (fineV g - fineV f) < t * 16777216 := by omega
    generalize fineV f = ff at *
    generalize fineV g = fg at *
    clear q1 q2 q3 hr c1 c2 z1 z2 z3 y1 y2 y3 hd hd' s3
    go_wp2_with fail
    refine (hRG.out _).mono ?_
    rintro e w2 ⟨rfl, rfl⟩
    go_wp2_with fail
    refine (HCB.out _).mono ?_
    rintro e w3 ⟨rfl, hb3⟩
    have HB3 := Lib.hid (HB1.out.trans (hb3.mono HB1.out.size))
    clear hb3
    go_wp2_with fail
    refine (HF1.out _).mono ?_
    rintro e w4 ⟨rfl, rfl⟩
    go_wp2_with fail
    refine (HF2.out _).mono ?_
    rintro e w5 ⟨rfl, rfl⟩
    have HB5 := HB3
    clear hRG HCB HF1 HF2 hf0 ht0
    by_cases hg : g = 10000
    · have hng : ¬ 10000 < g := by omega
      clear s5 hg
      go_wp2_with fail
      clear n1 n2 n3 hng s1 s2 hfb hgb t1 t2 f1 f2
      refine (hertz_impl g _ (HE.out.tab.below HB5.out)).mono ?_
      rintro e w6 ⟨rfl, hb6⟩
      have HB6 := Lib.hid (HB5.out.trans (hb6.mono HB5.out.size))
      clear hb6
      go_wp2_with fail
      refine (HRH.out _ (HE.out.below HB6.out) (HM.out.below HB6.out)).mono ?_
      rintro e w7 ⟨rfl, hb7⟩
      have HB7 := Lib.hid (HB6.out.trans (hb7.mono HB6.out.size))
      clear hb7
      go_wp2_with fail
      refine (cents_impl t _ (HE.out.tab.below HB7.out)).mono ?_
      rintro e w8 ⟨rfl, hb8⟩
      have HB8 := Lib.hid (HB7.out.trans (hb8.mono HB7.out.size))
      clear hb8
      go_wp2_with fail
      refine (HRC.out _ (HE.out.below HB8.out) (HM.out.below HB8.out)).mono ?_
      rintro e w9 ⟨rfl, hb9⟩
      have HBW := Lib.hid (HB8.out.trans (hb9.mono HB8.out.size))
      clear hb9 HRH HRC HB3 HB5 HB6 HB7 HB8
      go_wp2_with fail
      refine (HD2.out _ HBW.out).mono ?_
      rintro e v1 ⟨a, b, rfl, ha0, hb0, hc1⟩
      have HC1 := Lib.hid (HBW.out.trans (hc1.mono HBW.out.size))
      clear hc1 HD2
      by_cases hr : inB a 10000 20000000 = true ∧ inB b 10000 20000000 = true
      · have HA := Lib.hid hr.1
        have HB := Lib.hid hr.2
        obtain ⟨a1, a2⟩ := inB_bd HA.out
        obtain ⟨b1, b2⟩ := inB_bd HB.out
        have ta := tenthsV_bd (n := a) (by omega) (by omega)
        have tb := tenthsV_bd (n := b) (by omega) (by omega)
        have hmo : a < b → 0 ≤ tenthsV b - tenthsV a := fun h => by have := tenths_mono (a := a) (b := b) (by omega) (by omega); omega
        obtain ⟨x, hx⟩ : ∃ x, tenthsV b - tenthsV a = x := ⟨_, rfl⟩
        rw [hx] at hmo
        have HK1 := Lib.hid (fun w => by have h := centsBetween_ok a b w HA.out HB.out; rw [hx] at h; exact h)
        have HK2 := Lib.hid (fun w => by have h := centsBetween_ok b a w HB.out HA.out; rw [show tenthsV a - tenthsV b = -x by omega] at h; exact h)
        have hxb : -480000 ≤ x ∧ x ≤ 480000 := by omega
        have HXE := Lib.hid hx
        have HTA := Lib.hid ta
        have HTB := Lib.hid tb
        have HMO := Lib.hid hmo
        clear hr ha0 hb0 hx ta tb hmo
        go_wp2_with fail
        refine (HK1.out _).mono ?_
        rintro e v2 ⟨rfl, hc2⟩
        have HC2 := Lib.hid (HC1.out.trans (hc2.mono HC1.out.size))
        clear hc2
        go_wp2_with fail
        refine (HK2.out _).mono ?_
        rintro e v3 ⟨rfl, hc3⟩
        have HC3 := Lib.hid (HC2.out.trans (hc3.mono HC2.out.size))
        clear hc3 HK1 HK2
        go_wp2_with fail
        refine (HW.out _ HC3.out).mono ?_
        rintro e v4 ⟨r, rfl, r0, r1, rfl⟩
        have HCc := Lib.hid (inB_true (n := 10000 + r * 30) (lo := 10000) (hi := 20000000) (by omega) (by omega))
        have tc := tenthsV_bd (n := 10000 + r * 30) (by omega) (by omega)
        obtain ⟨u, hu⟩ : ∃ u, tenthsV (10000 + r * 30) - tenthsV a = u := ⟨_, rfl⟩
        obtain ⟨v, hv⟩ : ∃ v, tenthsV b - tenthsV (10000 + r * 30) = v := ⟨_, rfl⟩
        have HK3 := Lib.hid (fun w => by have h := centsBetween_ok a (10000 + r * 30) w HA.out HCc.out; rw [hu] at h; exact h)
        have HK4 := Lib.hid (fun w => by have h := centsBetween_ok (10000 + r * 30) b w HCc.out HB.out; rw [hv] at h; exact h)
        have huv : u + v = x := by have := HXE.out; omega
        have hub : -480000 ≤ u ∧ u ≤ 480000 := by have := HTA.out; omega
        have hvb : -480000 ≤ v ∧ v ≤ 480000 := by have := HTB.out; omega
        have HUV := Lib.hid huv
        clear hu hv tc huv HW
        go_wp2_with fail
        refine (HK3.out _).mono ?_
        rintro e v5 ⟨rfl, hc5⟩
        have HC5 := Lib.hid (HC3.out.trans (hc5.mono HC3.out.size))
        clear hc5
        go_wp2_with fail
        refine (HK4.out _).mono ?_
        rintro e v6 ⟨rfl, hc6⟩
        have HC6 := Lib.hid (HC5.out.trans (hc6.mono HC5.out.size))
        clear hc6 HK3 HK4 HTA HTB
        have huv := HUV.out
        have hmo := HMO.out
        clear HUV HMO HXE
        have hwn : IntKind.i64.wrap (-x) = -x := IntWalk.i64_in _ (by omega)
        have hww : IntKind.i64.wrap (u + v) = u + v := IntWalk.i64_in _ (by omega)
        have ha2b : 2 * a ≤ 40000000 := by omega
        by_cases h2 : 20000000 < 2 * a
        · by_cases hab : a < b
          · have hx0 : ¬ x < 0 := by have := hmo hab; omega
            clear hmo
            go_wp2
            go_ret
            exact ⟨rfl, HC6.out⟩
          · clear hmo
            go_wp2
            go_ret
            exact ⟨rfl, HC6.out⟩
        · have HO := Lib.hid (fun w => by have h := centsBetween_ok a (2 * a) w HA.out (inB_true (by omega) (by omega)); rw [tenths_octave (by omega) (by omega)] at h; exact h)
          by_cases hab : a < b
          · have hx0 : ¬ x < 0 := by have := hmo hab; omega
            clear hmo
            go_wp2_with fail
            refine (HO.out _).mono ?_
            rintro e v7 ⟨rfl, hc7⟩
            have HC7 := Lib.hid (HC6.out.trans (hc7.mono HC6.out.size))
            clear hc7
            go_wp2
            go_ret
            exact ⟨rfl, HC7.out⟩
          · clear hmo
            go_wp2_with fail
            refine (HO.out _).mono ?_
            rintro e v7 ⟨rfl, hc7⟩
            have HC7 := Lib.hid (HC6.out.trans (hc7.mono HC6.out.size))
            clear hc7
            go_wp2
            go_ret
            exact ⟨rfl, HC7.out⟩
      · have HR := Lib.hid (not_both hr)
        clear hr
        go_wp2_with fail
        refine (centsBetween_no a b _ HR.out).mono ?_
        rintro e v2 ⟨rfl, hc2⟩
        have HC2 := Lib.hid (HC1.out.trans (hc2.mono HC1.out.size))
        clear hc2
        go_wp2_with fail
        refine (centsBetween_no b a _ HR.out.symm).mono ?_
        rintro e v3 ⟨rfl, hc3⟩
        have HC3 := Lib.hid (HC2.out.trans (hc3.mono HC2.out.size))
        clear hc3
        go_wp2
        go_ret
        exact ⟨rfl, HC3.out⟩
    · have hng : 10000 < g := by omega
      have s6 := s5.resolve_left hg
      have heb := fineV_bd (n := g - 1) (by omega) (by omega)
      have HF3 := Lib.hid (fun w => fineLog_ok (g - 1) w (inB_true (by omega) (by omega)))
      generalize fineV (g - 1) = fe at *
      have n4 : ¬ t * 16777216 + 12000 ≤ 12000 * (fe - ff) := by omega
      clear s5 hg s6
      go_wp2_with fail
      refine (HF3.out _).mono ?_
      rintro e w6 ⟨rfl, rfl⟩
      go_wp2_with fail
      clear n1 n2 n3 n4 hng s1 s2 hfb hgb heb t1 t2 f1 f2 HF3
      refine (hertz_impl g _ (HE.out.tab.below HB5.out)).mono ?_
      rintro e w6 ⟨rfl, hb6⟩
      have HB6 := Lib.hid (HB5.out.trans (hb6.mono HB5.out.size))
      clear hb6
      go_wp2_with fail
      refine (HRH.out _ (HE.out.below HB6.out) (HM.out.below HB6.out)).mono ?_
      rintro e w7 ⟨rfl, hb7⟩
      have HB7 := Lib.hid (HB6.out.trans (hb7.mono HB6.out.size))
      clear hb7
      go_wp2_with fail
      refine (cents_impl t _ (HE.out.tab.below HB7.out)).mono ?_
      rintro e w8 ⟨rfl, hb8⟩
      have HB8 := Lib.hid (HB7.out.trans (hb8.mono HB7.out.size))
      clear hb8
      go_wp2_with fail
      refine (HRC.out _ (HE.out.below HB8.out) (HM.out.below HB8.out)).mono ?_
      rintro e w9 ⟨rfl, hb9⟩
      have HBW := Lib.hid (HB8.out.trans (hb9.mono HB8.out.size))
      clear hb9 HRH HRC HB3 HB5 HB6 HB7 HB8
      go_wp2_with fail
      refine (HD2.out _ HBW.out).mono ?_
      rintro e v1 ⟨a, b, rfl, ha0, hb0, hc1⟩
      have HC1 := Lib.hid (HBW.out.trans (hc1.mono HBW.out.size))
      clear hc1 HD2
      by_cases hr : inB a 10000 20000000 = true ∧ inB b 10000 20000000 = true
      · have HA := Lib.hid hr.1
        have HB := Lib.hid hr.2
        obtain ⟨a1, a2⟩ := inB_bd HA.out
        obtain ⟨b1, b2⟩ := inB_bd HB.out
        have ta := tenthsV_bd (n := a) (by omega) (by omega)
        have tb := tenthsV_bd (n := b) (by omega) (by omega)
        have hmo : a < b → 0 ≤ tenthsV b - tenthsV a := fun h => by have := tenths_mono (a := a) (b := b) (by omega) (by omega); omega
        obtain ⟨x, hx⟩ : ∃ x, tenthsV b - tenthsV a = x := ⟨_, rfl⟩
        rw [hx] at hmo
        have HK1 := Lib.hid (fun w => by have h := centsBetween_ok a b w HA.out HB.out; rw [hx] at h; exact h)
        have HK2 := Lib.hid (fun w => by have h := centsBetween_ok b a w HB.out HA.out; rw [show tenthsV a - tenthsV b = -x by omega] at h; exact h)
        have hxb : -480000 ≤ x ∧ x ≤ 480000 := by omega
        have HXE := Lib.hid hx
        have HTA := Lib.hid ta
        have HTB := Lib.hid tb
        have HMO := Lib.hid hmo
        clear hr ha0 hb0 hx ta tb hmo
        go_wp2_with fail
        refine (HK1.out _).mono ?_
        rintro e v2 ⟨rfl, hc2⟩
        have HC2 := Lib.hid (HC1.out.trans (hc2.mono HC1.out.size))
        clear hc2
        go_wp2_with fail
        refine (HK2.out _).mono ?_
        rintro e v3 ⟨rfl, hc3⟩
        have HC3 := Lib.hid (HC2.out.trans (hc3.mono HC2.out.size))
        clear hc3 HK1 HK2
        go_wp2_with fail
        refine (HW.out _ HC3.out).mono ?_
        rintro e v4 ⟨r, rfl, r0, r1, rfl⟩
        have HCc := Lib.hid (inB_true (n := 10000 + r * 30) (lo := 10000) (hi := 20000000) (by omega) (by omega))
        have tc := tenthsV_bd (n := 10000 + r * 30) (by omega) (by omega)
        obtain ⟨u, hu⟩ : ∃ u, tenthsV (10000 + r * 30) - tenthsV a = u := ⟨_, rfl⟩
        obtain ⟨v, hv⟩ : ∃ v, tenthsV b - tenthsV (10000 + r * 30) = v := ⟨_, rfl⟩
        have HK3 := Lib.hid (fun w => by have h := centsBetween_ok a (10000 + r * 30) w HA.out HCc.out; rw [hu] at h; exact h)
        have HK4 := Lib.hid (fun w => by have h := centsBetween_ok (10000 + r * 30) b w HCc.out HB.out; rw [hv] at h; exact h)
        have huv : u + v = x := by have := HXE.out; omega
        have hub : -480000 ≤ u ∧ u ≤ 480000 := by have := HTA.out; omega
        have hvb : -480000 ≤ v ∧ v ≤ 480000 := by have := HTB.out; omega
        have HUV := Lib.hid huv
        clear hu hv tc huv HW
        go_wp2_with fail
        refine (HK3.out _).mono ?_
        rintro e v5 ⟨rfl, hc5⟩
        have HC5 := Lib.hid (HC3.out.trans (hc5.mono HC3.out.size))
        clear hc5
        go_wp2_with fail
        refine (HK4.out _).mono ?_
        rintro e v6 ⟨rfl, hc6⟩
        have HC6 := Lib.hid (HC5.out.trans (hc6.mono HC5.out.size))
        clear hc6 HK3 HK4 HTA HTB
        have huv := HUV.out
        have hmo := HMO.out
        clear HUV HMO HXE
        have hwn : IntKind.i64.wrap (-x) = -x := IntWalk.i64_in _ (by omega)
        have hww : IntKind.i64.wrap (u + v) = u + v := IntWalk.i64_in _ (by omega)
        have ha2b : 2 * a ≤ 40000000 := by omega
        by_cases h2 : 20000000 < 2 * a
        · by_cases hab : a < b
          · have hx0 : ¬ x < 0 := by have := hmo hab; omega
            clear hmo
            go_wp2
            go_ret
            exact ⟨rfl, HC6.out⟩
          · clear hmo
            go_wp2
            go_ret
            exact ⟨rfl, HC6.out⟩
        · have HO := Lib.hid (fun w => by have h := centsBetween_ok a (2 * a) w HA.out (inB_true (by omega) (by omega)); rw [tenths_octave (by omega) (by omega)] at h; exact h)
          by_cases hab : a < b
          · have hx0 : ¬ x < 0 := by have := hmo hab; omega
            clear hmo
            go_wp2_with fail
            refine (HO.out _).mono ?_
            rintro e v7 ⟨rfl, hc7⟩
            have HC7 := Lib.hid (HC6.out.trans (hc7.mono HC6.out.size))
            clear hc7
            go_wp2
            go_ret
            exact ⟨rfl, HC7.out⟩
          · clear hmo
            go_wp2_with fail
            refine (HO.out _).mono ?_
            rintro e v7 ⟨rfl, hc7⟩
            have HC7 := Lib.hid (HC6.out.trans (hc7.mono HC6.out.size))
            clear hc7
            go_wp2
            go_ret
            exact ⟨rfl, HC7.out⟩
      · have HR := Lib.hid (not_both hr)
        clear hr
        go_wp2_with fail
        refine (centsBetween_no a b _ HR.out).mono ?_
        rintro e v2 ⟨rfl, hc2⟩
        have HC2 := Lib.hid (HC1.out.trans (hc2.mono HC1.out.size))
        clear hc2
        go_wp2_with fail
        refine (centsBetween_no b a _ HR.out.symm).mono ?_
        rintro e v3 ⟨rfl, hc3⟩
        have HC3 := Lib.hid (HC2.out.trans (hc3.mono HC2.out.size))
        clear hc3
        go_wp2
        go_ret
        exact ⟨rfl, HC3.out⟩

end Go.Proofs.YtkbfmjnekeipcaaDoor.fnCents
