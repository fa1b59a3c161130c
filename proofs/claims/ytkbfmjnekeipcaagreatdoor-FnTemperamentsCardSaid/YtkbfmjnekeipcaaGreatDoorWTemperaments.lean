/- The law FnTemperaments of the given program holds: for every input it returns true, and its arguments read afterwards as before. No condition. -/
import Derived.Test.YtkbfmjnekeipcaaGreatDoorBase
import Derived.LaidMore
import Derived.Lay
import Derived.Stop.Joined
import Derived.SevenTiedAt
import Derived.Test.YtkbfmjnekeipcaaGreatDoorCards
import Derived.Test.YtkbfmjnekeipcaaGreatDoorTie
import Derived.Test.YtkbfmjnekeipcaaGreatDoorTemM
import Derived.Test.YtkbfmjnekeipcaaGreatDoorTmpW
import Derived.Test.YtkbfmjnekeipcaaGreatDoorDraw
import Derived.Test.YtkbfmjnekeipcaaGreatDoorOpen
namespace Go.Proofs.YtkbfmjnekeipcaaGreatDoor.fnTemperaments
open Go.ChangeShapes Go.WideShapes Go.ChangeAt Go.RowKit
set_option maxRecDepth 100000
set_option linter.unusedVariables false

theorem star : "*" ++ "errors.errorString" = "*errors.errorString" := by decide
theorem row_es (u : TypeId) (h : Tryz.prog.typeName? 3 u = some "*errors.errorString") : u = 164 :=
  typeName_ptr_named (nm := "errors.errorString") (by rw [star]; kernel_rfl) (by kernel_rfl) (by decide) u (by rw [star]; exact h)
theorem gESType : (Tryz.prog.globals[1]?).map (·.type) = some 104 := by kernel_rfl
theorem gERType : (Tryz.prog.globals[2]?).map (·.type) = some 104 := by kernel_rfl
theorem errs_row {W : World} (h : laidMetH Tryz.prog Rows.fnTemperamentsRow.laid W) : Errs W := by
  rw [MakeChecks.laidMetH_plain _ _ _ (by kernel_rfl)] at h
  have ht := tab_of h
  have h4 := h.tail.tail.tail.tail
  obtain ⟨a0, s0, hv0, _, _, _⟩ := laid_sentinel h4 gER gERType Tryz.underlying104 row_es Tryz.underlying164 Tryz.underlying166 rfl rfl Tryz.underlying9 (by kernel_rfl) (by kernel_rfl)
  obtain ⟨a1, s1, hv1, _, _, _⟩ := laid_sentinel h4.tail gES gESType Tryz.underlying104 row_es Tryz.underlying164 Tryz.underlying166 rfl rfl Tryz.underlying9 (by kernel_rfl) (by kernel_rfl)
  exact ⟨ht, ⟨_, _, hv1⟩, ⟨_, _, hv0⟩⟩
theorem shaped_max {W : World} (h : W.ShapedOpen Tryz.prog) : MaxLenIs W := Go.Proofs.cell_of_shapedOpen_int (zero := #[.int .i64 0]) (t := 3) h (of_decide_eq_true (by kernel_rfl)) (by kernel_rfl) rfl (by kernel_rfl) (by kernel_rfl) Tryz.underlying3
set_option maxRecDepth 100000 in
set_option maxHeartbeats 16000000 in
theorem walk {A : Option Addr} {n cc : Nat} {xs : List UInt8} {B : Option Addr} {m cd : Nat} {ys : List UInt8} {w : World} (hx : BytesAt w A n xs) (hy : BytesAt w B m ys) (he : Errs w) (hm : MaxLenIs w) :
    Calls Tryz.prog 3 #[.slice A n cc, .slice B m cd] w fun e w' => e = .returned (.bool true) ∧ Below w.heap.size w w' := by
  have HE := Lib.hid he
  have HM := Lib.hid hm
  clear he hm
  have HD1 := Lib.hid (r8Temp A n cc xs w hx)
  have HA0 := Lib.hid (fun w1 (hb : Below w.heap.size w w1) => r8At_is B m cd ys 0 0 128 rfl w1 (CellsAt.below hy hb) (by omega))
  have HA1 := Lib.hid (fun w1 (hb : Below w.heap.size w w1) => r8At_is B m cd ys 1 1 128 rfl w1 (CellsAt.below hy hb) (by omega))
  have HA2 := Lib.hid (fun w1 (hb : Below w.heap.size w w1) => r8At_is B m cd ys 2 2 128 rfl w1 (CellsAt.below hy hb) (by omega))
  have HW := Lib.hid (fun w1 (hb : Below w.heap.size w w1) => r8Wide_is B m cd ys 3 3 60000 rfl (by omega) w1 (CellsAt.below hy hb) (by omega))
  clear hx hy
  by_cases hn : 1048576 < n
  · have d1 : decide (1048576 < (n : Int)) = true := decide_eq_true (by omega)
    clear hn
    go_enter Tryz.func3, Tryz.ntmps3
    go_wp2_with (go_at_call 5; refine (r8Long_is _ _ _ _ _ _ _).mono ?_; rintro e w' ⟨rfl, rfl⟩)
    go_ret
    exact ⟨rfl, Below.refl _ _⟩
  by_cases hm : 1048576 < m
  · have d1 : decide (1048576 < (n : Int)) = false := decide_eq_false (by omega)
    have d2 : decide (1048576 < (m : Int)) = true := decide_eq_true (by omega)
    clear hn hm
    go_enter Tryz.func3, Tryz.ntmps3
    go_wp2_with (go_at_call 5; refine (r8Long_is _ _ _ _ _ _ _).mono ?_; rintro e w' ⟨rfl, rfl⟩)
    go_ret
    exact ⟨rfl, Below.refl _ _⟩
  have d1 : decide (1048576 < (n : Int)) = false := decide_eq_false (by omega)
  have d2 : decide (1048576 < (m : Int)) = false := decide_eq_false (by omega)
  clear hn hm
  go_enter Tryz.func3, Tryz.ntmps3
  go_wp2_with (go_at_call 5; refine (r8Long_is _ _ _ _ _ _ _).mono ?_; rintro e w' ⟨rfl, rfl⟩)
  refine HD1.out.mono ?_
  rintro x w1 ⟨s, T, c, zs, rfl, hT, hsm, hI, hb1⟩
  have hal : Below w1.heap.size w1 (w1.alloc (.cells #[.string s, .slice T 12 c] 26)) := (Below.refl _ _).alloc (Nat.le_refl _) _
  have HB2 := Lib.hid (hb1.trans (hal.mono hb1.size))
  have HI2 := Lib.hid (hI.below hal)
  have HT := Lib.hid hT
  have HSm := Lib.hid hsm
  have hss : s.size ≤ maxLen := by have := temp_name hT; unfold maxLen; omega
  have HSS := Lib.hid hss
  obtain ⟨_, _, hoff⟩ := tempB_parts hT
  have HOff := Lib.hid hoff
  obtain ⟨W2, hW2⟩ : ∃ W, W = w1.alloc (.cells #[.string s, .slice T 12 c] 26) := ⟨_, rfl⟩
  obtain ⟨b, hbs⟩ : ∃ b, b = w1.heap.size := ⟨_, rfl⟩
  have q0 : W2.cell? ⟨b, 0, none⟩ = some (.string s) := by rw [hW2, hbs]; go_simp
  have q1 : W2.cell? ⟨b, 1, none⟩ = some (.slice T 12 c) := by rw [hW2, hbs]; go_simp
  have hbl : b < W2.heap.size := by rw [hW2, hbs]; simp
  rw [← hW2] at HB2 HI2
  have HW2 := Lib.hid hW2
  have Hbs := Lib.hid hbs
  clear hb1 hT hsm hI hal HD1 hoff hss hW2 hbs
  go_wp2_with fail
  rw [← HW2.out, ← Hbs.out]
  clear HW2 Hbs
  refine (HA0.out _ HB2.out).mono ?_
  rintro e w' ⟨x, rfl, x0, x1, rfl⟩
  go_wp2_with fail
  refine (HA1.out _ HB2.out).mono ?_
  rintro e w' ⟨y, rfl, y0, y1, rfl⟩
  go_wp2_with fail
  refine (HA2.out _ HB2.out).mono ?_
  rintro e w' ⟨z, rfl, z0, z1, rfl⟩
  have HX := Lib.hid (inB_true (n := x) (lo := 0) (hi := 127) x0 (by omega))
  have HY := Lib.hid (inB_true (n := y) (lo := 0) (hi := 127) y0 (by omega))
  have HZ := Lib.hid (inB_true (n := z) (lo := 0) (hi := 127) z0 (by omega))
  have key : ∀ a' b' : Int, inB a' 0 127 = true → inB b' 0 127 = true → niV s zs a' b' = intervalV zs a' b' ∧ niC s zs a' b' = 0 := fun a' b' h1 h2 => by
    have h3 := HT.out
    simp [niV, niC, h1, h2, h3]
  have HN1 := Lib.hid (fun w h => by have h' := noteI_impl s T 12 c zs x y w h (by omega) HSS.out; rw [(key x y HX.out HY.out).1, (key x y HX.out HY.out).2] at h'; exact h')
  have HN2 := Lib.hid (fun w h => by have h' := noteI_impl s T 12 c zs y z w h (by omega) HSS.out; rw [(key y z HY.out HZ.out).1, (key y z HY.out HZ.out).2] at h'; exact h')
  have HN3 := Lib.hid (fun w h => by have h' := noteI_impl s T 12 c zs x z w h (by omega) HSS.out; rw [(key x z HX.out HZ.out).1, (key x z HX.out HZ.out).2] at h'; exact h')
  have hsum := interval_add zs x y z
  have e1 := intervalV_bd HOff.out HX.out HY.out
  have e2 := intervalV_bd HOff.out HY.out HZ.out
  have e3 := intervalV_bd HOff.out HX.out HZ.out
  generalize intervalV zs x y = i1 at *
  generalize intervalV zs y z = i2 at *
  generalize intervalV zs x z = i3 at *
  have HSum := Lib.hid hsum
  clear key hsum HA0 HA1 HA2 e3
  go_wp2_with fail
  refine (HN1.out _ HI2.out).mono ?_
  rintro e w3 ⟨rfl, hb3⟩
  have HI3 := Lib.hid (HI2.out.below hb3)
  have HB3 := Lib.hid (HB2.out.trans (hb3.mono HB2.out.size))
  obtain ⟨p0, p1⟩ := cells2 hb3 hbl q0 q1
  have hbl3 := Nat.lt_of_lt_of_le hbl hb3.size
  clear hb3 q0 q1 hbl HI2 HB2
  go_wp2_with fail
  refine (HN2.out _ HI3.out).mono ?_
  rintro e w4 ⟨rfl, hb4⟩
  have HI4 := Lib.hid (HI3.out.below hb4)
  have HB4 := Lib.hid (HB3.out.trans (hb4.mono HB3.out.size))
  obtain ⟨q0, q1⟩ := cells2 hb4 hbl3 p0 p1
  have hbl4 := Nat.lt_of_lt_of_le hbl3 hb4.size
  clear hb4 p0 p1 hbl3 HI3 HB3
  go_wp2_with fail
  refine (HN3.out _ HI4.out).mono ?_
  rintro e w5 ⟨rfl, hb5⟩
  have HI5 := Lib.hid (HI4.out.below hb5)
  have HB5 := Lib.hid (HB4.out.trans (hb5.mono HB4.out.size))
  obtain ⟨p0, p1⟩ := cells2 hb5 hbl4 q0 q1
  have hbl5 := Nat.lt_of_lt_of_le hbl4 hb5.size
  clear hb5 q0 q1 hbl4 HI4 HB4 HN1 HN2 HN3
  go_wp2_with fail
  refine (temp_impl s T 12 c zs _ (HE.out.tab.below HB5.out) HI5.out (by omega) HSS.out).mono ?_
  rintro e w6 ⟨rfl, hb6⟩
  have HI6 := Lib.hid (HI5.out.below hb6)
  have HB6 := Lib.hid (HB5.out.trans (hb6.mono HB5.out.size))
  obtain ⟨q0, q1⟩ := cells2 hb6 hbl5 p0 p1
  have hbl6 := Nat.lt_of_lt_of_le hbl5 hb6.size
  obtain ⟨k1, k2, k3, k4⟩ := tmp_back HT.out
  have HRT := Lib.hid (fun w h1 h2 => by have h := tmp_impl_walk (tempS s zs) w k1 h1 h2; rw [k2, k3, k4] at h; exact h)
  clear hb6 p0 p1 hbl5 HI5 HB5 k1 k2 k3 k4
  go_wp2_with fail
  refine (HRT.out _ (HE.out.below HB6.out) (HM.out.below HB6.out)).mono ?_
  rintro e w7 ⟨A1, n1, c1, rfl, ho7, hb7⟩
  have hj7 := IntsAt.of_own ho7
  have hn1 : n1 ≤ 1048576 := by rw [← hj7.len, (tempB_parts HT.out).2.1]; omega
  have hal : Below w7.heap.size w7 (w7.alloc (.cells #[.string s, .slice A1 n1 c1] 26)) := (Below.refl _ _).alloc (Nat.le_refl _) _
  have HI7 := Lib.hid ((HI6.out.below hb7).below hal)
  have HJ7 := Lib.hid (hj7.below hal)
  have HB7' := HB6.out.trans (hb7.mono HB6.out.size)
  have HB7 := Lib.hid (HB7'.trans (hal.mono HB7'.size))
  obtain ⟨p0', p1'⟩ := cells2 hb7 hbl6 q0 q1
  have hbl7' := Nat.lt_of_lt_of_le hbl6 hb7.size
  have HQ := Lib.hid (cells2 hal hbl7' p0' p1')
  have hbl7 := Nat.lt_of_lt_of_le hbl7' hal.size
  have hsum := HSum.out
  have hww : IntKind.i64.wrap (i1 + i2) = i1 + i2 := IntWalk.i64_in _ (by omega)
  clear hb7 hal HB7' q0 q1 hbl6 HI6 HB6 ho7 hj7 HRT HSum
  go_wp2_with fail
  refine (same_spec s s A1 T n1 12 c1 c zs zs _ HJ7.out HI7.out hn1 (by omega)).mono ?_
  rintro e w8 ⟨rfl, hb8⟩
  have hsame : sameT s s zs zs = true := by unfold sameT; rw [decide_eq_true rfl, decide_eq_true rfl]; rfl
  rw [hsame]
  have HI8 := Lib.hid (HI7.out.below hb8)
  have HB8 := Lib.hid (HB7.out.trans (hb8.mono HB7.out.size))
  obtain ⟨q0, q1⟩ := cells2 hb8 hbl7 HQ.out.1 HQ.out.2
  have hbl8 := Nat.lt_of_lt_of_le hbl7 hb8.size
  clear hb8 p0' p1' hbl7' hbl7 HQ HI7 HJ7 HB7 hsame
  go_wp2_with fail
  refine (HW.out _ HB8.out).mono ?_
  rintro e w' ⟨r, rfl, r0, r1, rfl⟩
  clear hsum hww e1 e2
  obtain ⟨p, hp⟩ : ∃ p, p = 400000 + r := ⟨_, rfl⟩
  have HNF := Lib.hid (fun w h => noteF_impl s T 12 c zs (400000 + r) x w h (by omega) HSS.out)
  have hlaw := freq_law (s := s) (zs := zs) (p := 400000 + r) (k := x) HT.out
  have HDF := Lib.hid (fun g => (fun w h => devF_impl s T 12 c zs (400000 + r) x g w h (by omega) HSS.out))
  have HNN := Lib.hid (fun g => (fun w h => nearN_impl s T 12 c zs (400000 + r) g w h (by omega) HSS.out))
  obtain ⟨g, hg⟩ : ∃ g, nfV s zs (400000 + r) x = g := ⟨_, rfl⟩
  obtain ⟨hc, hhc⟩ : ∃ hc, nfC s zs (400000 + r) x = hc := ⟨_, rfl⟩
  rw [hg, hhc] at hlaw HNF
  clear hg hhc hp
  rcases hlaw with rfl | ⟨rfl, l1, l2, l3, l4, l5⟩
  · go_wp2_with fail
    refine (HNF.out _ HI8.out).mono ?_
    rintro e w9 ⟨rfl, hb9⟩
    have HB9 := Lib.hid (HB8.out.trans (hb9.mono HB8.out.size))
    clear hb9
    go_wp2
    go_ret
    exact ⟨rfl, HB9.out⟩
  · have hdf : dfV s zs (400000 + r) x g = devV zs (400000 + r) x g ∧ dfC s zs (400000 + r) x g = 0 := by
      have h3 := HT.out
      simp [dfV, dfC, dfB, h3, l1, l2, l3]
    obtain ⟨xn, hxn⟩ : ∃ xn : Nat, x = (xn : Int) := ⟨x.toNat, by omega⟩
    have hnn : nnV s zs (400000 + r) g = x ∧ nnC s zs (400000 + r) g = 0 := by
      have h3 := HT.out
      have hbest := near_is (d := fun k => devV zs (400000 + r) k g) (x := xn) (fun k hk => by
        show absI (devV zs (400000 + r) xn g) < absI (devV zs (400000 + r) k g)
        rw [← hxn] at hk ⊢
        exact dev_far HSm.out ⟨l4, l5⟩ hk) 128 (by omega)
      constructor
      · unfold nnV nnB
        rw [h3, l1, l3, hbest, hxn]
        rfl
      · simp [nnC, nnB, h3, l1, l3]
    have HD1 := Lib.hid (fun w h => by have h' := HDF.out g w h; rw [hdf.1, hdf.2] at h'; exact h')
    have HN1 := Lib.hid (fun w h => by have h' := HNN.out g w h; rw [hnn.1, hnn.2] at h'; exact h')
    generalize devV zs (400000 + r) x g = dv at *
    have l6 : ¬ 3 < dv := by omega
    clear hdf hnn hxn HDF HNN l1 l2 l3
    go_wp2_with fail
    refine (HNF.out _ HI8.out).mono ?_
    rintro e w9 ⟨rfl, hb9⟩
    have HI9 := Lib.hid (HI8.out.below hb9)
    have HB9 := Lib.hid (HB8.out.trans (hb9.mono HB8.out.size))
    obtain ⟨p0, p1⟩ := cells2 hb9 hbl8 q0 q1
    have hbl9 := Nat.lt_of_lt_of_le hbl8 hb9.size
    clear hb9 q0 q1 hbl8 HI8 HB8 HNF
    go_wp2_with fail
    refine (HD1.out _ HI9.out).mono ?_
    rintro e w10 ⟨rfl, hb10⟩
    have HI10 := Lib.hid (HI9.out.below hb10)
    have HB10 := Lib.hid (HB9.out.trans (hb10.mono HB9.out.size))
    obtain ⟨q0, q1⟩ := cells2 hb10 hbl9 p0 p1
    clear hb10 p0 p1 hbl9 HI9 HB9 HD1
    go_wp2_with fail
    refine (HN1.out _ HI10.out).mono ?_
    rintro e w11 ⟨rfl, hb11⟩
    have HB11 := Lib.hid (HB10.out.trans (hb11.mono HB10.out.size))
    clear hb11
    go_wp2
    go_ret
    exact ⟨rfl, HB11.out⟩

end Go.Proofs.YtkbfmjnekeipcaaGreatDoor.fnTemperaments
