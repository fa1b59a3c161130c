/- The law FnNotes of the given program holds: for every input it returns true, and its arguments read afterwards as before. No condition. -/
import Derived.Test.YtlcppfoedijccaaDoorBase
import Derived.LaidMore
import Derived.Stop.Joined
import Derived.SevenTiedAt
import Derived.Test.YtlcppfoedijccaaDoorCards
import Derived.Test.YtlcppfoedijccaaDoorTie
import Derived.Test.YtlcppfoedijccaaDoorNotM
import Derived.Test.YtlcppfoedijccaaDoorNoteQ
import Derived.Test.YtlcppfoedijccaaDoorDraw
import Derived.Test.YtlcppfoedijccaaDoorOpen
namespace Go.Proofs.YtlcppfoedijccaaDoor.fnNotes
open Go.ChangeShapes Go.WideShapes Go.ChangeAt Go.RowKit
set_option maxRecDepth 100000
set_option linter.unusedVariables false

theorem tab_row2 {W : World} (h : laidMetH Tryd.prog Rows.fnNotesRow.laid W) : Tab W := by
  rw [MakeChecks.laidMetH_plain _ _ _ (by kernel_rfl)] at h
  exact tab_of h
set_option maxRecDepth 100000 in
set_option maxHeartbeats 8000000 in
theorem walk {A : Option Addr} {n cc : Nat} {xs : List UInt8} {B : Option Addr} {m cd : Nat} {ys : List UInt8} {w : World} (hx : BytesAt w A n xs) (hy : BytesAt w B m ys) (ht : Tab w) :
    Calls Tryd.prog 3 #[.slice A n cc, .slice B m cd] w fun e w' => e = .returned (.bool true) ∧ Below w.heap.size w w' := by
  have HE := Lib.hid ht
  clear ht
  have HD1 := Lib.hid (r8Temp A n cc xs w hx)
  have HA0 := Lib.hid (fun w1 (hb : Below w.heap.size w w1) => r8At_is B m cd ys 0 0 128 rfl w1 (CellsAt.below hy hb) (by omega))
  have HA1 := Lib.hid (fun w1 (hb : Below w.heap.size w w1) => r8At_is B m cd ys 1 1 4 rfl w1 (CellsAt.below hy hb) (by omega))
  clear hx hy
  by_cases hn : 1048576 < n
  · have d1 : decide (1048576 < (n : Int)) = true := decide_eq_true (by omega)
    clear hn
    go_enter Tryd.func3, Tryd.ntmps3
    go_wp2_with (go_at_call 4; refine (r8Long_is _ _ _ _ _ _ _).mono ?_; rintro e w' ⟨rfl, rfl⟩)
    go_ret
    exact ⟨rfl, Below.refl _ _⟩
  by_cases hm : 1048576 < m
  · have d1 : decide (1048576 < (n : Int)) = false := decide_eq_false (by omega)
    have d2 : decide (1048576 < (m : Int)) = true := decide_eq_true (by omega)
    clear hn hm
    go_enter Tryd.func3, Tryd.ntmps3
    go_wp2_with (go_at_call 4; refine (r8Long_is _ _ _ _ _ _ _).mono ?_; rintro e w' ⟨rfl, rfl⟩)
    go_ret
    exact ⟨rfl, Below.refl _ _⟩
  have d1 : decide (1048576 < (n : Int)) = false := decide_eq_false (by omega)
  have d2 : decide (1048576 < (m : Int)) = false := decide_eq_false (by omega)
  clear hn hm
  go_enter Tryd.func3, Tryd.ntmps3
  go_wp2_with (go_at_call 4; refine (r8Long_is _ _ _ _ _ _ _).mono ?_; rintro e w' ⟨rfl, rfl⟩)
  refine HD1.out.mono ?_
  rintro x w1 ⟨s, T, c, zs, rfl, hT, hsm, hI, hb1⟩
  have hal : Below w1.heap.size w1 (w1.alloc (.cells #[.string s, .slice T 12 c] 26)) := (Below.refl _ _).alloc (Nat.le_refl _) _
  have HB2 := Lib.hid (hb1.trans (hal.mono hb1.size))
  have HI2 := Lib.hid (hI.below hal)
  have HT := Lib.hid hT
  have hss : s.size ≤ maxLen := by have := temp_name hT; unfold maxLen; omega
  have HSS := Lib.hid hss
  obtain ⟨W2, hW2⟩ : ∃ W, W = w1.alloc (.cells #[.string s, .slice T 12 c] 26) := ⟨_, rfl⟩
  obtain ⟨b, hbs⟩ : ∃ b, b = w1.heap.size := ⟨_, rfl⟩
  have q0 : W2.cell? ⟨b, 0, none⟩ = some (.string s) := by rw [hW2, hbs]; go_simp
  have q1 : W2.cell? ⟨b, 1, none⟩ = some (.slice T 12 c) := by rw [hW2, hbs]; go_simp
  have hbl : b < W2.heap.size := by rw [hW2, hbs]; simp
  rw [← hW2] at HB2 HI2
  have HW2 := Lib.hid hW2
  have Hbs := Lib.hid hbs
  clear hb1 hT hsm hI hal HD1 hss hW2 hbs
  go_wp2_with fail
  rw [← HW2.out, ← Hbs.out]
  clear HW2 Hbs
  refine (HA0.out _ HB2.out).mono ?_
  rintro e w' ⟨k, rfl, k0, k1, rfl⟩
  obtain ⟨kn, rfl⟩ : ∃ kn : Nat, k = (kn : Int) := ⟨k.toNat, by omega⟩
  have HK := Lib.hid (inB_true (n := (kn : Int)) (lo := 0) (hi := 127) k0 (by omega))
  go_wp2_with fail
  refine (noteN_ok (kn : Int) HK.out _ (HE.out.below HB2.out)).mono ?_
  rintro e w3 ⟨rfl, hb3⟩
  have HI3 := Lib.hid (HI2.out.below hb3)
  have HB3 := Lib.hid (HB2.out.trans (hb3.mono HB2.out.size))
  obtain ⟨p0, p1⟩ := cells2 hb3 hbl q0 q1
  have hbl3 := Nat.lt_of_lt_of_le hbl hb3.size
  clear hb3 q0 q1 hbl HI2 HB2
  go_wp2_with fail
  refine (note_back kn (by omega) _ (HE.out.below HB3.out)).mono ?_
  rintro e w4 ⟨rfl, hb4⟩
  have HI4 := Lib.hid (HI3.out.below hb4)
  have HB4 := Lib.hid (HB3.out.trans (hb4.mono HB3.out.size))
  obtain ⟨q0, q1⟩ := cells2 hb4 hbl3 p0 p1
  have hbl4 := Nat.lt_of_lt_of_le hbl3 hb4.size
  clear hb4 p0 p1 hbl3 HI3 HB3
  go_wp2_with fail
  refine (HA1.out _ HB4.out).mono ?_
  rintro e w' ⟨kd, rfl, j0, j1, rfl⟩
  have HKD := Lib.hid (inB_true (n := 1 + kd) (lo := 1) (hi := 4) (by omega) (by omega))
  by_cases h115 : (115 : Int) < kn
  · have HSc := Lib.hid (fun w => Scale_state (kn : Int) (1 + kd) w HK.out HKD.out (inB_high (by omega)))
    go_wp2_with fail
    refine (HSc.out _).mono ?_
    rintro e w5 ⟨A1, n1, c1, rfl, _, hb5⟩
    have HB5 := Lib.hid (HB4.out.trans (hb5.mono HB4.out.size))
    clear hb5
    go_wp2
    go_ret
    exact ⟨rfl, HB5.out⟩
  · have HSc := Lib.hid (fun w => Scale_ok (kn : Int) (1 + kd) w HK.out HKD.out (inB_true (by omega) (by omega)))
    obtain ⟨mm, l1, l2, l3, l4, l5⟩ := scale_law (n := (kn : Int)) HKD.out
    generalize (stepsL (1 + kd)).map ((kn : Int) + ·) = L at *
    have HL1 := Lib.hid l1
    have HL3 := Lib.hid l3
    have HL4 := Lib.hid l4
    have HL5 := Lib.hid l5
    clear l1 l3 l4 l5
    go_wp2_with fail
    refine (HSc.out _).mono ?_
    rintro e w5 ⟨A1, n1, c1, rfl, ho5, hb5⟩
    have hj5 := IntsAt.of_own ho5
    obtain rfl : n1 = mm + 2 := by rw [← hj5.len]; exact HL1.out
    obtain ⟨gg, cap, hf, hgg, hgl⟩ := ho5.form (by omega)
    simp only [Value.slice.injEq] at hf
    obtain ⟨rfl, _, rfl⟩ := hf
    have HO5 := Lib.hid ho5
    have HI5 := Lib.hid (HI4.out.below hb5)
    have HB5 := Lib.hid (HB4.out.trans (hb5.mono HB4.out.size))
    obtain ⟨p0, p1⟩ := cells2 hb5 hbl4 q0 q1
    clear hb5 ho5 hj5 q0 q1 hbl4 HI4 HB4 hgg HSc
    have h12 : niV s zs kn ((kn : Int) + 12) = 12000 ∧ niC s zs kn ((kn : Int) + 12) = 0 := by
      have h3 := HT.out
      have h4 := HK.out
      have h5 : inB ((kn : Int) + 12) 0 127 = true := inB_true (by omega) (by omega)
      simp [niV, niC, h3, h4, h5, octave_is]
    have HN := Lib.hid (fun w h => by have h' := noteI_impl s T 12 c zs kn ((kn : Int) + 12) w h (by omega) HSS.out; rw [h12.1, h12.2] at h'; exact h')
    clear h12
    go_wp2_with fail
    refine (HN.out _ HI5.out).mono ?_
    rintro e w6 ⟨rfl, hb6⟩
    have HO6 := Lib.hid (row_keepT HO5.out hb6)
    have HB6 := Lib.hid (HB5.out.trans (hb6.mono HB5.out.size))
    have cell : ∀ (i : Nat) (z : Int), i < mm + 2 → L[i]? = some z → w6.cell? ⟨gg, i, none⟩ = some (.int .i64 z) := fun i z hi hz =>
      (HO6.out.cellAt i (by omega)).trans (by rw [List.getElem?_map, hz]; rfl)
    have HC := Lib.hid cell
    have z0 := cell 0 _ (by omega) HL3.out
    have z1 := cell (mm + 1) _ (by omega) HL4.out
    have hm0 : (0 : Int) ≤ (mm : Int) := Int.natCast_nonneg _
    have hi1 : IntKind.i64.wrap ((mm : Int) + 2 - 1) = (mm : Int) + 1 := by rw [show (mm : Int) + 2 - 1 = (mm : Int) + 1 by omega]; exact IntWalk.i64_in _ (by omega)
    have hi2 : ((mm : Int) + 1).toNat = mm + 1 := by omega
    clear hb6 cell p0 p1 HI5 HB5 HO5 HN
    go_wp2
    go_loopw [14] (fun i wr => ∃ j : Nat, j ≤ mm + 1 ∧ i = .int .i64 ((j : Int) + 1) ∧ Below w.heap.size w wr ∧ ∀ (i : Nat) (z : Int), i < mm + 2 → L[i]? = some z → wr.cell? ⟨gg, i, none⟩ = some (.int .i64 z)) (fun i _ => (mm + 3) - (intOf i).toNat)
    case atStart => exact ⟨0, by omega, rfl, HB6.out, HC.out⟩
    case round =>
      obtain ⟨j, hj, rfl, hbr, hcr⟩ := hrel
      have HBR := Lib.hid hbr
      have HCR := Lib.hid hcr
      clear z0 z1 hi1 hi2 hbr hcr
      by_cases hjm : j + 1 < mm + 2
      · obtain ⟨a, b, ha, hb, hab⟩ := HL5.out j hjm
        have c0 := HCR.out j _ (by omega) ha
        have c1 := HCR.out (j + 1) _ hjm hb
        have hjI : (j : Int) + 1 < (mm : Int) + 2 := by omega
        have hj0 : (0 : Int) ≤ (j : Int) := Int.natCast_nonneg _
        have hj1 : IntKind.i64.wrap ((j : Int) + 1 - 1) = (j : Int) := by rw [show (j : Int) + 1 - 1 = (j : Int) by omega]; exact IntWalk.i64_in _ (by omega)
        have hj2 : ((j : Int) + 1).toNat = j + 1 := by omega
        have hj3 : IntKind.i64.wrap (j : Int) = (j : Int) := IntWalk.i64_in _ (by omega)
        have hj4 : (0 : Int) ≤ (j : Int) + 1 := by omega
        have hj5 : (j : Int) < (mm : Int) + 2 := by omega
        have hle : ¬ b ≤ a := by omega
        clear ha hb
        go_wp2
        go_quiet (fail)
        go_wp2
        go_roundw
        case rel => exact ⟨j + 1, by omega, by go_num, below_drewN HBR.out _, fun i z hi hz => (by simp : _ = _).trans (HCR.out i z hi hz)⟩
        case measure => simp [intOf]; omega
      · obtain rfl : j = mm + 1 := by omega
        have hjI : ¬ ((mm : Int) + 1 + 1 < (mm : Int) + 2) := by omega
        go_wp2
        go_ret
        exact ⟨rfl, HBR.out⟩

end Go.Proofs.YtlcppfoedijccaaDoor.fnNotes
