/- The law FnBasics of the given program holds: for every input it returns true, and its arguments read afterwards as before. No condition. -/
import Derived.Test.YtkbfmjnekeipcaaDoorBase
import Derived.LaidMore
import Derived.Lay
import Derived.Stop.Joined
import Derived.SevenTiedAt
import Derived.Test.YtkbfmjnekeipcaaDoorCards
import Derived.Test.YtkbfmjnekeipcaaDoorTie
import Derived.Test.YtkbfmjnekeipcaaDoorBasM
import Derived.Test.YtkbfmjnekeipcaaDoorDec
import Derived.Test.YtkbfmjnekeipcaaDoorOpen
namespace Go.Proofs.YtkbfmjnekeipcaaDoor.fnBasics
open Go.ChangeShapes Go.WideShapes Go.ChangeAt Go.RowKit
set_option maxRecDepth 100000
set_option linter.unusedVariables false

theorem star : "*" ++ "errors.errorString" = "*errors.errorString" := by decide
theorem row_es (u : TypeId) (h : Tryd.prog.typeName? 3 u = some "*errors.errorString") : u = 148 :=
  typeName_ptr_named (nm := "errors.errorString") (by rw [star]; kernel_rfl) (by kernel_rfl) (by decide) u (by rw [star]; exact h)
theorem gESType : (Tryd.prog.globals[1]?).map (·.type) = some 69 := by kernel_rfl
theorem gERType : (Tryd.prog.globals[2]?).map (·.type) = some 69 := by kernel_rfl
theorem errs_row {W : World} (h : laidMetH Tryd.prog Rows.fnBasicsRow.laid W) : Errs W := by
  rw [MakeChecks.laidMetH_plain _ _ _ (by kernel_rfl)] at h
  have ht := tab_of h
  have h4 := h.tail.tail.tail.tail
  obtain ⟨a0, s0, hv0, _, _, _⟩ := laid_sentinel h4 gER gERType Tryd.underlying69 row_es Tryd.underlying148 Tryd.underlying150 rfl rfl Tryd.underlying9 (by kernel_rfl) (by kernel_rfl)
  obtain ⟨a1, s1, hv1, _, _, _⟩ := laid_sentinel h4.tail gES gESType Tryd.underlying69 row_es Tryd.underlying148 Tryd.underlying150 rfl rfl Tryd.underlying9 (by kernel_rfl) (by kernel_rfl)
  exact ⟨ht, ⟨_, _, hv1⟩, ⟨_, _, hv0⟩⟩
theorem shaped_max {W : World} (h : W.ShapedOpen Tryd.prog) : MaxLenIs W := Go.Proofs.cell_of_shapedOpen_int (zero := #[.int .i64 0]) (t := 3) h (of_decide_eq_true (by kernel_rfl)) (by kernel_rfl) rfl (by kernel_rfl) (by kernel_rfl) Tryd.underlying3
theorem root_small {a r : Int} (h : isRoot a r) (h0 : 0 ≤ a) (ha : a ≤ 3600000000) : 0 ≤ r ∧ r ≤ 60000 ∧ 0 ≤ r * r ∧ r * r ≤ a ∧ 0 ≤ (r + 1) * (r + 1) ∧ (r + 1) * (r + 1) ≤ 4000000000 ∧ ¬ (r + 1) * (r + 1) ≤ a := by
  obtain ⟨h1, h2, h3⟩ := h
  have hrr : r * r ≤ a := by
    rcases h2 with rfl | h2
    · simpa using h0
    · exact h2
  have hr : r ≤ 60000 := by
    apply Int.not_lt.1
    intro hlt
    have : 60001 * 60001 ≤ r * r := Int.mul_le_mul (by omega) (by omega) (by omega) (by omega)
    omega
  have hs : (r + 1) * (r + 1) ≤ 60001 * 60001 := Int.mul_le_mul (by omega) (by omega) (by omega) (by omega)
  exact ⟨h1, hr, Int.mul_nonneg h1 h1, hrr, Int.mul_nonneg (by omega) (by omega), by omega, by omega⟩
set_option maxRecDepth 100000 in
set_option maxHeartbeats 8000000 in
theorem walk {A : Option Addr} {n cc : Nat} {xs : List UInt8} {B : Option Addr} {m cd : Nat} {ys : List UInt8} {w : World} (hx : BytesAt w A n xs) (hy : BytesAt w B m ys) (he : Errs w) (hm : MaxLenIs w) :
    Calls Tryd.prog 6 #[.slice A n cc, .slice B m cd] w fun e w' => e = .returned (.bool true) ∧ Below w.heap.size w w' := by
  have HE := Lib.hid he
  have HM := Lib.hid hm
  clear he hm
  have HD1 := Lib.hid (r8Numbers A n cc xs w hx)
  have HW1 := Lib.hid (fun w1 (hb : Below w.heap.size w w1) => r8Wide_is B m cd ys 0 0 1000 rfl (by omega) w1 (CellsAt.below hy hb) (by omega))
  have HW2 := Lib.hid (fun w1 (hb : Below w.heap.size w w1) => r8Wide_is B m cd ys 2 2 5000 rfl (by omega) w1 (CellsAt.below hy hb) (by omega))
  have HW3 := Lib.hid (fun w1 (hb : Below w.heap.size w w1) => r8Wide_is B m cd ys 4 4 5000 rfl (by omega) w1 (CellsAt.below hy hb) (by omega))
  clear hx hy
  by_cases hn : 1048576 < n
  · have d1 : decide (1048576 < (n : Int)) = true := decide_eq_true (by omega)
    clear hn
    go_enter Tryd.func6, Tryd.ntmps6
    go_wp2_with (go_at_call 19; refine (r8Long_is _ _ _ _ _ _ _).mono ?_; rintro e w' ⟨rfl, rfl⟩)
    go_ret
    exact ⟨rfl, Below.refl _ _⟩
  by_cases hm : 1048576 < m
  · have d1 : decide (1048576 < (n : Int)) = false := decide_eq_false (by omega)
    have d2 : decide (1048576 < (m : Int)) = true := decide_eq_true (by omega)
    clear hn hm
    go_enter Tryd.func6, Tryd.ntmps6
    go_wp2_with (go_at_call 19; refine (r8Long_is _ _ _ _ _ _ _).mono ?_; rintro e w' ⟨rfl, rfl⟩)
    go_ret
    exact ⟨rfl, Below.refl _ _⟩
  have d1 : decide (1048576 < (n : Int)) = false := decide_eq_false (by omega)
  have d2 : decide (1048576 < (m : Int)) = false := decide_eq_false (by omega)
  clear hn hm
  go_enter Tryd.func6, Tryd.ntmps6
  go_wp2_with (go_at_call 19; refine (r8Long_is _ _ _ _ _ _ _).mono ?_; rintro e w' ⟨rfl, rfl⟩)
  refine HD1.out.mono ?_
  rintro x w1 ⟨a, b, rfl, a0, a1, b0, b1, hb1⟩
  have HB1 := Lib.hid hb1
  clear hb1 HD1
  have hbn : b ≠ 0 := by omega
  obtain ⟨u1, u2⟩ := nr_abs a (b := b) (by omega)
  have HQ := Lib.hid (fun w => divRound_ok a b w hbn (inB_true (by omega) (by omega)) (inB_true (by omega) (by omega)))
  have HQ2 := Lib.hid (fun w => by have h := divRound_ok (-a) b w hbn (inB_true (by omega) (by omega)) (inB_true (by omega) (by omega)); rw [nr_neg (by omega)] at h; exact h)
  generalize nearI a b = q at *
  have qb : -10000000000 ≤ q * b ∧ q * b ≤ 10000000000 := by
    rcases absI_cases (q * b) with ⟨_, e⟩ | ⟨_, e⟩ <;> rcases absI_cases a with ⟨_, e'⟩ | ⟨_, e'⟩ <;> omega
  have HU := Lib.hid (r8Abs_is (a - q * b) · (by omega) (by omega))
  obtain ⟨u, hu⟩ : ∃ u, absI (a - q * b) = u := ⟨_, rfl⟩
  rw [hu] at HU u1
  have u3 : 0 ≤ u := by rw [← hu]; exact absI_nonneg _
  have nu : ¬ b < 2 * u := by omega
  have hqq : -10000000000 ≤ q ∧ q ≤ 10000000000 := by
    rcases Int.le_total 0 q with h | h
    · have := Int.mul_le_mul_of_nonneg_left (show 1 ≤ b by omega) h
      omega
    · have := Int.mul_le_mul_of_nonneg_left (show 1 ≤ b by omega) (show 0 ≤ -q by omega)
      rw [Int.neg_mul q b] at this
      omega
  clear u2 hu hbn
  go_wp2_with fail
  refine (rootOf_impl a _ (by omega)).mono ?_
  rintro e w2 ⟨⟨r, rfl, hr⟩, rfl⟩
  by_cases ha : a < 0
  · obtain rfl : r = 0 := by
      obtain ⟨h1, h2, h3⟩ := hr
      rcases h2 with h2 | h2
      · exact h2
      · have := Int.mul_nonneg h1 h1
        omega
    clear hr
    go_wp2_with fail
    refine (HQ.out _).mono ?_
    rintro e w3 ⟨rfl, hb3⟩
    have HB3 := Lib.hid (HB1.out.trans (hb3.mono HB1.out.size))
    clear hb3
    go_wp2_with (first
      | (go_at_call 23; refine (HU.out _).mono ?_; rintro e w' ⟨rfl, rfl⟩)
      | (go_at_call 22; refine (HQ2.out _).mono ?_; rintro e w4 ⟨rfl, hb4⟩))
    have HB4 := Lib.hid (HB3.out.trans (hb4.mono HB3.out.size))
    clear hb4
    refine (HW1.out _ HB4.out).mono ?_
    rintro e w' ⟨x, rfl, x0, x1, rfl⟩
    go_wp2_with fail
    refine (HW2.out _ HB4.out).mono ?_
    rintro e w' ⟨y', rfl, y0, y1, rfl⟩
    go_wp2_with fail
    refine (HW3.out _ HB4.out).mono ?_
    rintro e w' ⟨z', rfl, z0, z1, rfl⟩
    obtain ⟨y, hy⟩ : ∃ y, y' = y + 2500 := ⟨y' - 2500, by omega⟩
    obtain ⟨z, hz⟩ : ∃ z, z' = z + 2500 := ⟨z' - 2500, by omega⟩
    subst hy hz
    have hyw : IntKind.i64.wrap (y + 2500 - 2500) = y := by rw [Int.add_sub_cancel]; exact IntWalk.i64_in _ (by omega)
    have hzw : IntKind.i64.wrap (z + 2500 - 2500) = z := by rw [Int.add_sub_cancel]; exact IntWalk.i64_in _ (by omega)
    have HM4 : Hid (allM [0, y, 1000, z] = true) := by
      show _ = _
      exact allM4.2 ⟨by decide, inB_true (by omega) (by omega), by decide, inB_true (by omega) (by omega)⟩
    obtain ⟨l1, l2⟩ := line_ends y z
    obtain ⟨l3, l4⟩ := line_between (y := y) (z := z) (x := x) x0 (by omega)
    have HL1 := Lib.hid (fun w => Blend_ok 0 y 1000 z x w HM4.out)
    have HL2 := Lib.hid (fun w => by have h := Blend_ok 0 y 1000 z 0 w HM4.out; rw [l1] at h; exact h)
    have HL3 := Lib.hid (fun w => by have h := Blend_ok 0 y 1000 z 1000 w HM4.out; rw [l2] at h; exact h)
    generalize lineV 0 y 1000 z x = v at *
    have m1 : ¬ v < min y z := by omega
    have m2 : ¬ max y z < v := by omega
    have HFV := Lib.hid (five_back (a := a) (b := b) (x := x) (y := y) (z := z) (inB_true (by omega) (by omega)) (inB_true (by omega) (by omega)) (inB_true (by omega) (by omega)) (inB_true (by omega) (by omega)) (inB_true (by omega) (by omega)))
    clear HW1 HW2 HW3 HQ HQ2 HU l1 l2 l3 l4
    go_wp2_with fail
    first
      | refine (HL1.out _).mono ?_
      | (rw [show y + 2500 - 2500 = y by omega, show z + 2500 - 2500 = z by omega]; refine (HL1.out _).mono ?_)
    rintro e w5 ⟨rfl, hb5⟩
    have HB5 := Lib.hid (HB4.out.trans (hb5.mono HB4.out.size))
    clear hb5
    go_wp2_with fail
    refine (HL2.out _).mono ?_
    rintro e w6 ⟨rfl, hb6⟩
    have HB6 := Lib.hid (HB5.out.trans (hb6.mono HB5.out.size))
    clear hb6
    go_wp2_with fail
    refine (HL3.out _).mono ?_
    rintro e w7 ⟨rfl, hb7⟩
    have HB7 := Lib.hid (HB6.out.trans (hb7.mono HB6.out.size))
    have HB8 := Lib.hid (HB7.out.alloc HB7.out.size (.cells #[.int .i64 a, .int .i64 b, .int .i64 x, .int .i64 y, .int .i64 z] 2))
    clear hb7 HL1 HL2 HL3
    obtain ⟨k1, k2, k3⟩ := HFV.out
    have HLT := Lib.hid (list_impl (some ⟨w7.heap.size, 0, none⟩) 5 5 [a, b, x, y, z] _ (HE.out.tab.below HB8.out) (IntsAt.new w7 [a, b, x, y, z] 2) (by omega))
    have HRL := Lib.hid (fun w h1 h2 => by have h := lst_impl_walk (listS [a, b, x, y, z]) w k1 h1 h2; rw [k2, k3] at h; exact h)
    clear k1 k2 k3 HFV
    go_wp2_with fail
    clear m1 m2
    refine HLT.out.mono ?_
    rintro e w9 ⟨rfl, hb9⟩
    have HI9 := Lib.hid ((IntsAt.new w7 [a, b, x, y, z] 2).below hb9)
    have HB9 := Lib.hid (HB8.out.trans (hb9.mono HB8.out.size))
    clear hb9 HLT
    go_wp2_with fail
    refine (HRL.out _ (HE.out.below HB9.out) (HM.out.below HB9.out)).mono ?_
    rintro e w10 ⟨A0, n0, c0, rfl, ho, hb10⟩
    have hi10 := IntsAt.of_own ho
    obtain rfl : n0 = 5 := hi10.len.symm
    have HI10 := Lib.hid hi10
    have HJ10 := Lib.hid (HI9.out.below hb10)
    have HB10 := Lib.hid (HB9.out.trans (hb10.mono HB9.out.size))
    clear hb10 ho hi10 HRL HI9
    go_wp2_with fail
    refine (decimal_impl a (wf_of (by omega)) _ (HE.out.tab.below HB10.out)).mono ?_
    rintro e w11 ⟨rfl, hb11⟩
    have HI11 := Lib.hid (HI10.out.below hb11)
    have HJ11 := Lib.hid (HJ10.out.below hb11)
    have HB11 := Lib.hid (HB10.out.trans (hb11.mono HB10.out.size))
    have HRD := Lib.hid (fun w h1 => by have h := read_impl (decS a) w h1; obtain ⟨e1, e2⟩ := num_complete (s := decS a) rfl (by omega) (by omega); rw [e1, e2] at h; exact h)
    clear hb11 HI10 HJ10
    go_wp2_with fail
    refine (HRD.out _ (HE.out.below HB11.out)).mono ?_
    rintro e w12 ⟨rfl, hb12⟩
    have HI12 := Lib.hid (HI11.out.below hb12)
    have HJ12 := Lib.hid (HJ11.out.below hb12)
    have HB12 := Lib.hid (HB11.out.trans (hb12.mono HB11.out.size))
    clear hb12 HI11 HJ11 HRD
    go_wp2_with fail
    refine (r8Same_yes _ _ 5 _ _ [a, b, x, y, z] _ HI12.out HJ12.out (by omega)).mono ?_
    rintro e w' ⟨rfl, q, rfl⟩
    go_wp2
    go_ret
    exact ⟨rfl, below_drewN HB12.out q⟩
  · obtain ⟨r0, r1, r2, r3, r4, r5, r6⟩ := root_small hr (by omega) a1
    have r7 : ¬ a < r * r := by omega
    clear hr
    go_wp2_with fail
    refine (HQ.out _).mono ?_
    rintro e w3 ⟨rfl, hb3⟩
    have HB3 := Lib.hid (HB1.out.trans (hb3.mono HB1.out.size))
    clear hb3
    go_wp2_with (first
      | (go_at_call 23; refine (HU.out _).mono ?_; rintro e w' ⟨rfl, rfl⟩)
      | (go_at_call 22; refine (HQ2.out _).mono ?_; rintro e w4 ⟨rfl, hb4⟩))
    have HB4 := Lib.hid (HB3.out.trans (hb4.mono HB3.out.size))
    clear hb4
    refine (HW1.out _ HB4.out).mono ?_
    rintro e w' ⟨x, rfl, x0, x1, rfl⟩
    go_wp2_with fail
    refine (HW2.out _ HB4.out).mono ?_
    rintro e w' ⟨y', rfl, y0, y1, rfl⟩
    go_wp2_with fail
    refine (HW3.out _ HB4.out).mono ?_
    rintro e w' ⟨z', rfl, z0, z1, rfl⟩
    obtain ⟨y, hy⟩ : ∃ y, y' = y + 2500 := ⟨y' - 2500, by omega⟩
    obtain ⟨z, hz⟩ : ∃ z, z' = z + 2500 := ⟨z' - 2500, by omega⟩
    subst hy hz
    have hyw : IntKind.i64.wrap (y + 2500 - 2500) = y := by rw [Int.add_sub_cancel]; exact IntWalk.i64_in _ (by omega)
    have hzw : IntKind.i64.wrap (z + 2500 - 2500) = z := by rw [Int.add_sub_cancel]; exact IntWalk.i64_in _ (by omega)
    have HM4 : Hid (allM [0, y, 1000, z] = true) := by
      show _ = _
      exact allM4.2 ⟨by decide, inB_true (by omega) (by omega), by decide, inB_true (by omega) (by omega)⟩
    obtain ⟨l1, l2⟩ := line_ends y z
    obtain ⟨l3, l4⟩ := line_between (y := y) (z := z) (x := x) x0 (by omega)
    have HL1 := Lib.hid (fun w => Blend_ok 0 y 1000 z x w HM4.out)
    have HL2 := Lib.hid (fun w => by have h := Blend_ok 0 y 1000 z 0 w HM4.out; rw [l1] at h; exact h)
    have HL3 := Lib.hid (fun w => by have h := Blend_ok 0 y 1000 z 1000 w HM4.out; rw [l2] at h; exact h)
    generalize lineV 0 y 1000 z x = v at *
    have m1 : ¬ v < min y z := by omega
    have m2 : ¬ max y z < v := by omega
    have HFV := Lib.hid (five_back (a := a) (b := b) (x := x) (y := y) (z := z) (inB_true (by omega) (by omega)) (inB_true (by omega) (by omega)) (inB_true (by omega) (by omega)) (inB_true (by omega) (by omega)) (inB_true (by omega) (by omega)))
    clear HW1 HW2 HW3 HQ HQ2 HU l1 l2 l3 l4
    go_wp2_with fail
    first
      | refine (HL1.out _).mono ?_
      | (rw [show y + 2500 - 2500 = y by omega, show z + 2500 - 2500 = z by omega]; refine (HL1.out _).mono ?_)
    rintro e w5 ⟨rfl, hb5⟩
    have HB5 := Lib.hid (HB4.out.trans (hb5.mono HB4.out.size))
    clear hb5
    go_wp2_with fail
    refine (HL2.out _).mono ?_
    rintro e w6 ⟨rfl, hb6⟩
    have HB6 := Lib.hid (HB5.out.trans (hb6.mono HB5.out.size))
    clear hb6
    go_wp2_with fail
    refine (HL3.out _).mono ?_
    rintro e w7 ⟨rfl, hb7⟩
    have HB7 := Lib.hid (HB6.out.trans (hb7.mono HB6.out.size))
    have HB8 := Lib.hid (HB7.out.alloc HB7.out.size (.cells #[.int .i64 a, .int .i64 b, .int .i64 x, .int .i64 y, .int .i64 z] 2))
    clear hb7 HL1 HL2 HL3
    obtain ⟨k1, k2, k3⟩ := HFV.out
    have HLT := Lib.hid (list_impl (some ⟨w7.heap.size, 0, none⟩) 5 5 [a, b, x, y, z] _ (HE.out.tab.below HB8.out) (IntsAt.new w7 [a, b, x, y, z] 2) (by omega))
    have HRL := Lib.hid (fun w h1 h2 => by have h := lst_impl_walk (listS [a, b, x, y, z]) w k1 h1 h2; rw [k2, k3] at h; exact h)
    clear k1 k2 k3 HFV
    go_wp2_with fail
    clear m1 m2
    refine HLT.out.mono ?_
    rintro e w9 ⟨rfl, hb9⟩
    have HI9 := Lib.hid ((IntsAt.new w7 [a, b, x, y, z] 2).below hb9)
    have HB9 := Lib.hid (HB8.out.trans (hb9.mono HB8.out.size))
    clear hb9 HLT
    go_wp2_with fail
    refine (HRL.out _ (HE.out.below HB9.out) (HM.out.below HB9.out)).mono ?_
    rintro e w10 ⟨A0, n0, c0, rfl, ho, hb10⟩
    have hi10 := IntsAt.of_own ho
    obtain rfl : n0 = 5 := hi10.len.symm
    have HI10 := Lib.hid hi10
    have HJ10 := Lib.hid (HI9.out.below hb10)
    have HB10 := Lib.hid (HB9.out.trans (hb10.mono HB9.out.size))
    clear hb10 ho hi10 HRL HI9
    go_wp2_with fail
    refine (decimal_impl a (wf_of (by omega)) _ (HE.out.tab.below HB10.out)).mono ?_
    rintro e w11 ⟨rfl, hb11⟩
    have HI11 := Lib.hid (HI10.out.below hb11)
    have HJ11 := Lib.hid (HJ10.out.below hb11)
    have HB11 := Lib.hid (HB10.out.trans (hb11.mono HB10.out.size))
    have HRD := Lib.hid (fun w h1 => by have h := read_impl (decS a) w h1; obtain ⟨e1, e2⟩ := num_complete (s := decS a) rfl (by omega) (by omega); rw [e1, e2] at h; exact h)
    clear hb11 HI10 HJ10
    go_wp2_with fail
    refine (HRD.out _ (HE.out.below HB11.out)).mono ?_
    rintro e w12 ⟨rfl, hb12⟩
    have HI12 := Lib.hid (HI11.out.below hb12)
    have HJ12 := Lib.hid (HJ11.out.below hb12)
    have HB12 := Lib.hid (HB11.out.trans (hb12.mono HB11.out.size))
    clear hb12 HI11 HJ11 HRD
    go_wp2_with fail
    refine (r8Same_yes _ _ 5 _ _ [a, b, x, y, z] _ HI12.out HJ12.out (by omega)).mono ?_
    rintro e w' ⟨rfl, q, rfl⟩
    go_wp2
    go_ret
    exact ⟨rfl, below_drewN HB12.out q⟩

end Go.Proofs.YtkbfmjnekeipcaaDoor.fnBasics
