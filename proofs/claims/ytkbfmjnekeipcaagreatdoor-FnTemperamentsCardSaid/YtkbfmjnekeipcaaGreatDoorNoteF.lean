/- Contracts of the frequency of a note, in the program and in the reference. -/
import Derived.Test.YtkbfmjnekeipcaaGreatDoorTempI
import Derived.Test.YtkbfmjnekeipcaaGreatDoorRaise
namespace Go.Proofs.YtkbfmjnekeipcaaGreatDoor
open Go.ChangeShapes Go.WideShapes Go.ChangeAt Go.RowKit
set_option maxRecDepth 100000

def nfB (p k : Int) : Bool := inB p 10000 20000000 && inB k 0 127
noncomputable def nfV (s : ByteArray) (zs : List Int) (p k : Int) : Int := if (tempB s zs && (nfB p k && raiseB p (intervalV zs 69 k))) = true then raiseV (goalV p (intervalV zs 69 k)) else 0
noncomputable def nfC (s : ByteArray) (zs : List Int) (p k : Int) : Int := if tempB s zs = true then (if (nfB p k && raiseB p (intervalV zs 69 k)) = true then 0 else 2) else 1
theorem nf_code {p k : Int} : (allF [p] && allN [k]) = nfB p k := by simp [allF, allN, nfB]
theorem fbox_below (s : ByteArray) (A : Option Addr) (n c : Nat) (w : World) (t : TypeId) : Below w.heap.size w (w.alloc (.cells #[.string s, .slice A n c] t)) := (Below.refl _ _).alloc (Nat.le_refl _) _
theorem fbox_two {s : ByteArray} {A : Option Addr} {n c : Nat} {w w' : World} {t : TypeId} (h : Below (w.alloc (.cells #[.string s, .slice A n c] t)).heap.size (w.alloc (.cells #[.string s, .slice A n c] t)) w') : Below w.heap.size w w' :=
  (fbox_below s A n c w t).trans (h.mono (fbox_below s A n c w t).size)
theorem n69 : inB 69 0 127 = true := rfl
theorem noteF_impl (s : ByteArray) (A : Option Addr) (n c : Nat) (zs : List Int) (p k : Int) (w : World) (h : IntsAt w A n zs) (hn : n ≤ 1048576) (hs : s.size ≤ maxLen) :
    Calls Tryz.prog 13 #[.agg #[.string s, .slice A n c], .int .i64 p, .int .i64 k] w fun e w' => e = .returned (.tuple #[.int .i64 (nfV s zs p k), .int .i64 (nfC s zs p k)]) ∧ Below w.heap.size w w' := by
  have h0 := h.alloc (.cells #[.string s, .slice A n c] 26)
  cases hT : tempB s zs
  · have HV : Hid (nfV s zs p k = 0 ∧ nfC s zs p k = 1) := by show _ ∧ _; simp [nfV, nfC, hT]
    have HT := Lib.hid hT
    clear hT
    go_enter Tryz.func13, Tryz.ntmps13
    go_wp2_with fail
    refine (tempered_inv s A _ _ n c _ _ _ _ zs _ ((h0.alloc _).alloc _) hn hs HT.out).mono ?_
    rintro e w1 ⟨rfl, hb1⟩
    go_wp2
    go_ret2
    exact ⟨ret_two HV.out.1.symm HV.out.2.symm, fbox_two ((((Below.refl _ _).alloc (Nat.le_refl _) _).alloc (by simp) _).trans (hb1.mono (by simp)))⟩
  · cases hab : nfB p k
    · have HV : Hid (nfV s zs p k = 0 ∧ nfC s zs p k = 2) := by show _ ∧ _; simp [nfV, nfC, hT, hab]
      have HT := Lib.hid hT
      have HA : Hid ((if (allF [p] && allN [k]) = true then 0 else 2) = (2 : Int)) := by show _ = _; rw [nf_code, hab]; simp
      clear hT hab
      go_enter Tryz.func13, Tryz.ntmps13
      go_wp2_with fail
      refine (tempered_val s A _ _ n c _ _ _ _ zs [k] [p] 2 _ ((h0.alloc _).alloc _) hn hs HT.out (IntsAt.alloc (IntsAt.new_at _ [k] 2 _ 1 (by simp) rfl) _) (IntsAt.new_at _ [p] 2 _ 1 (by simp) rfl) (by omega) (by omega) HA.out).mono ?_
      rintro e w1 ⟨rfl, hb1⟩
      go_wp2
      go_ret2
      exact ⟨ret_two HV.out.1.symm HV.out.2.symm, fbox_two ((((Below.refl _ _).alloc (Nat.le_refl _) _).alloc (by simp) _).trans (hb1.mono (by simp)))⟩
    · have HA : Hid ((if (allF [p] && allN [k]) = true then 0 else 2) = (0 : Int)) := by show _ = _; rw [nf_code, hab]; simp
      have hab' := hab
      simp only [nfB, Bool.and_eq_true] at hab'
      have HX := Lib.hid hab'
      cases hr : raiseB p (intervalV zs 69 k)
      all_goals
        have HR := Lib.hid hr
        have HT := Lib.hid hT
        have HV : Hid (nfV s zs p k = (if raiseB p (intervalV zs 69 k) = true then raiseV (goalV p (intervalV zs 69 k)) else 0) ∧ nfC s zs p k = (if raiseB p (intervalV zs 69 k) = true then 0 else 2)) := by show _ ∧ _; simp [nfV, nfC, hT, hab]
        rw [hr] at HV
        clear hT hab hab' hr
        go_enter Tryz.func13, Tryz.ntmps13
        go_wp2_with fail
        refine (tempered_val s A _ _ n c _ _ _ _ zs [k] [p] 0 _ ((h0.alloc _).alloc _) hn hs HT.out (IntsAt.alloc (IntsAt.new_at _ [k] 2 _ 1 (by simp) rfl) _) (IntsAt.new_at _ [p] 2 _ 1 (by simp) rfl) (by omega) (by omega) HA.out).mono ?_
        rintro e w1 ⟨rfl, hb1⟩
        have hb2 := (((Below.refl _ (w.alloc (.cells #[.string s, .slice A n c] 26))).alloc (Nat.le_refl _) _).alloc (by simp) _).trans (hb1.mono (by simp))
        obtain ⟨p0, p1⟩ := cells2 (g := w.heap.size) (a := .string s) (b := .slice A n c) hb2 (by simp) (by go_simp) (by go_simp)
        have h2 := h0.below hb2
        have HB := Lib.hid (fbox_two hb2)
        clear hb1 hb2
        go_wp2_with fail
        refine (interval_any s A n c zs 69 k _ h2 HT.out n69 HX.out.2).mono ?_
        rintro e w3 ⟨rfl, hb3⟩
        go_wp2_with fail
        first
          | (refine (Raise_no _ _ _ HR.out).mono ?_; rintro e w' ⟨rfl, rfl⟩)
          | (refine (Raise_ok _ _ _ HR.out).mono ?_; rintro e w' ⟨rfl, rfl⟩)
        go_wp2
        go_ret2
        exact ⟨ret_two (by rw [HV.out.1]; rfl) (by rw [HV.out.2]; rfl), below_two HB.out hb3 (Nat.le_refl _)⟩
end Go.Proofs.YtkbfmjnekeipcaaGreatDoor
