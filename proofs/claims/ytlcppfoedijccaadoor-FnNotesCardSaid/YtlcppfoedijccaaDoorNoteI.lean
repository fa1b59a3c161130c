/- Contracts of the interval between two notes, in the program and in the reference. -/
import Derived.Test.YtlcppfoedijccaaDoorTempI
namespace Go.Proofs.YtlcppfoedijccaaDoor
open Go.ChangeShapes Go.WideShapes Go.ChangeAt Go.RowKit
set_option maxRecDepth 100000

/-- What the interval of two notes is: a number and a code. -/
noncomputable def niV (s : ByteArray) (zs : List Int) (a b : Int) : Int := if (tempB s zs && (inB a 0 127 && inB b 0 127)) = true then intervalV zs a b else 0
noncomputable def niC (s : ByteArray) (zs : List Int) (a b : Int) : Int := if tempB s zs = true then (if (inB a 0 127 && inB b 0 127) = true then 0 else 2) else 1
theorem tbox_below (s : ByteArray) (A : Option Addr) (n c : Nat) (w : World) (t : TypeId) : Below w.heap.size w (w.alloc (.cells #[.string s, .slice A n c] t)) := (Below.refl _ _).alloc (Nat.le_refl _) _
theorem tbox_two {s : ByteArray} {A : Option Addr} {n c : Nat} {w w' : World} {t : TypeId} (h : Below (w.alloc (.cells #[.string s, .slice A n c] t)).heap.size (w.alloc (.cells #[.string s, .slice A n c] t)) w') : Below w.heap.size w w' :=
  (tbox_below s A n c w t).trans (h.mono (tbox_below s A n c w t).size)
theorem allN2 {a b : Int} : allN [a, b] = (inB a 0 127 && inB b 0 127) := by simp [allN]

set_option maxHeartbeats 2000000 in
theorem noteI_impl (s : ByteArray) (A : Option Addr) (n c : Nat) (zs : List Int) (a b : Int) (w : World) (h : IntsAt w A n zs) (hn : n ≤ 1048576) (hs : s.size ≤ maxLen) :
    Calls Tryd.prog 10 #[.agg #[.string s, .slice A n c], .int .i64 a, .int .i64 b] w fun e w' => e = .returned (.tuple #[.int .i64 (niV s zs a b), .int .i64 (niC s zs a b)]) ∧ Below w.heap.size w w' := by
  have h0 := h.alloc (.cells #[.string s, .slice A n c] 26)
  cases hT : tempB s zs
  · have HV : Hid (niV s zs a b = 0 ∧ niC s zs a b = 1) := by show _ ∧ _; simp [niV, niC, hT]
    have HT := Lib.hid hT
    clear hT
    go_enter Tryd.func10, Tryd.ntmps10
    go_wp2_with fail
    refine (tempered_inv s A _ _ n c _ _ _ _ zs _ (h0.alloc _) hn hs HT.out).mono ?_
    rintro e w1 ⟨rfl, hb1⟩
    go_wp2
    go_ret2
    exact ⟨ret_two HV.out.1.symm HV.out.2.symm, tbox_two (((Below.refl _ _).alloc (Nat.le_refl _) _).trans (hb1.mono (by simp)))⟩
  · cases hab : (inB a 0 127 && inB b 0 127)
    · have HV : Hid (niV s zs a b = 0 ∧ niC s zs a b = 2) := by show _ ∧ _; simp [niV, niC, hT, hab]
      have HT := Lib.hid hT
      have HA : Hid ((if (allF [] && allN [a, b]) = true then 0 else 2) = (2 : Int)) := by show _ = _; rw [allN2, hab]; simp
      clear hT hab
      go_enter Tryd.func10, Tryd.ntmps10
      go_wp2_with fail
      refine (tempered_val s A _ _ n c _ _ _ _ zs [a, b] [] 2 _ (h0.alloc _) hn hs HT.out (IntsAt.new_at _ [a, b] 2 _ 2 (by simp) rfl) CellsAt.nil (by omega) (by omega) HA.out).mono ?_
      rintro e w1 ⟨rfl, hb1⟩
      go_wp2
      go_ret2
      exact ⟨ret_two HV.out.1.symm HV.out.2.symm, tbox_two (((Below.refl _ _).alloc (Nat.le_refl _) _).trans (hb1.mono (by simp)))⟩
    · have HV : Hid (niV s zs a b = intervalV zs a b ∧ niC s zs a b = 0) := by show _ ∧ _; simp [niV, niC, hT, hab]
      have HA : Hid ((if (allF [] && allN [a, b]) = true then 0 else 2) = (0 : Int)) := by show _ = _; rw [allN2, hab]; simp [allF]
      simp only [Bool.and_eq_true] at hab
      have HT := Lib.hid hT
      have HX := Lib.hid hab.1
      have HY := Lib.hid hab.2
      clear hT hab
      go_enter Tryd.func10, Tryd.ntmps10
      go_wp2_with fail
      refine (tempered_val s A _ _ n c _ _ _ _ zs [a, b] [] 0 _ (h0.alloc _) hn hs HT.out (IntsAt.new_at _ [a, b] 2 _ 2 (by simp) rfl) CellsAt.nil (by omega) (by omega) HA.out).mono ?_
      rintro e w1 ⟨rfl, hb1⟩
      have hb2 := ((Below.refl _ _).alloc (Nat.le_refl _) _).trans (hb1.mono (by simp))
      obtain ⟨p0, p1⟩ := cells2 (g := w.heap.size) (a := .string s) (b := .slice A n c) hb2 (by simp) (by go_simp) (by go_simp)
      have h2 := h0.below hb2
      have HB := Lib.hid (tbox_two hb2)
      clear hb1 hb2
      go_wp2_with fail
      refine (interval_any s A n c zs a b _ h2 HT.out HX.out HY.out).mono ?_
      rintro e w3 ⟨rfl, hb3⟩
      go_wp2
      go_ret2
      exact ⟨ret_two HV.out.1.symm HV.out.2.symm, below_two HB.out hb3 (Nat.le_refl _)⟩
end Go.Proofs.YtlcppfoedijccaaDoor
