/- Contracts of the deviation of a frequency from a note, in the program and in the reference. -/
import Derived.Test.YtkbfmjnekeipcaaGreatDoorNoteI
import Derived.Test.YtkbfmjnekeipcaaGreatDoorLog
namespace Go.Proofs.YtkbfmjnekeipcaaGreatDoor
open Go.ChangeShapes Go.WideShapes Go.ChangeAt Go.RowKit
set_option maxRecDepth 100000

/-- By how much a frequency is higher than a note. -/
def devV (zs : List Int) (p note f : Int) : Int := tenthsV f - tenthsV p - intervalV zs 69 note
theorem note69 : inB 69 0 127 = true := rfl
theorem devV_bd {zs : List Int} (h : ∀ (k : Nat) (z : Int), zs[k]? = some z → -500 ≤ z ∧ z ≤ 500) {p note f : Int} (hp : inB p 10000 20000000 = true) (hf : inB f 10000 20000000 = true) (hk : inB note 0 127 = true) : -1000000 ≤ devV zs p note f ∧ devV zs p note f ≤ 1000000 := by
  have h1 := inB_bd hp
  have h2 := inB_bd hf
  have h3 := intervalV_bd h note69 hk
  have h4 := tenthsV_bd (n := p) (by omega) (by omega)
  have h5 := tenthsV_bd (n := f) (by omega) (by omega)
  unfold devV
  omega
attribute [local go_sem ↓] Go.wp_at_zero Go.wp_at_succ
set_option maxHeartbeats 2000000 in
theorem deviation_any (s : ByteArray) (A : Option Addr) (n c : Nat) (zs : List Int) (p note f : Int) (w : World) (h : IntsAt w A n zs) (hT : tempB s zs = true) (hp : inB p 10000 20000000 = true) (hf : inB f 10000 20000000 = true) (hk : inB note 0 127 = true) :
    Calls Tryz.prog 37 #[.agg #[.string s, .slice A n c], .int .i64 p, .int .i64 note, .int .i64 f] w fun e w' => e = .returned (.int .i64 (devV zs p note f)) ∧ Below w.heap.size w w' := by
  obtain ⟨_, h12, hbd⟩ := tempB_parts hT
  obtain ⟨p1, p2⟩ := inB_bd hp
  obtain ⟨f1, f2⟩ := inB_bd hf
  have hi := intervalV_bd hbd note69 hk
  have T1 := tenthsV_bd (n := p) (by omega) (by omega)
  have T2 := tenthsV_bd (n := f) (by omega) (by omega)
  have h0 : IntsAt (w.alloc (.cells #[.string s, .slice A n c] 26)).drew A n zs := h.alloc _
  have hsub : Hid (tenthsV f - tenthsV p - intervalV zs 69 note = devV zs p note f) := rfl
  have ww : IntKind.i64.wrap (tenthsV f - tenthsV p - intervalV zs 69 note) = tenthsV f - tenthsV p - intervalV zs 69 note := IntWalk.i64_in _ (by omega)
  clear hbd h12
  go_enter Tryz.func37, Tryz.ntmps37
  go_wp2
  go_region_held3 (fun w' => w'.cell? ⟨w.heap.size, 0, none⟩ = some (.string s) ∧ w'.cell? ⟨w.heap.size, 1, none⟩ = some (.slice A n c))
    (first
      | go_keep
      | (go_split_ands; exact ⟨(hb1.cell (p := ⟨w.heap.size, 0, none⟩) (by simp)).trans (by go_simp), (hb1.cell (p := ⟨w.heap.size, 1, none⟩) (by simp)).trans (by go_simp)⟩))
    (first
      | (go_at_call 77; refine (cents_any _ _ _ (by omega) (by omega) (by omega) (by omega)).mono ?_; rintro x w' ⟨rfl, rfl⟩)
      | (go_at_call 30; refine (interval_any s A n c zs 69 note _ h0 hT note69 hk).mono ?_; rintro x w1 ⟨rfl, hb1⟩))
  all_goals
    go_wp2
    go_ret
    exact ⟨ret_int hsub.out, below_two ((tbox_below s A n c w 26).drew) hb1 (Nat.le_refl _)⟩
/-- What the deviation from a note is: a number and a code. -/
def dfB (p note f : Int) : Bool := inB p 10000 20000000 && (inB note 0 127 && inB f 10000 20000000)
noncomputable def dfV (s : ByteArray) (zs : List Int) (p note f : Int) : Int := if (tempB s zs && dfB p note f) = true then devV zs p note f else 0
noncomputable def dfC (s : ByteArray) (zs : List Int) (p note f : Int) : Int := if tempB s zs = true then (if dfB p note f = true then 0 else 2) else 1
theorem df_code {p note f : Int} : (allF [p, f] && allN [note]) = dfB p note f := by
  simp only [allF, allN, dfB, List.all_cons, List.all_nil, Bool.and_true]
  cases inB p 10000 20000000 <;> cases inB f 10000 20000000 <;> cases inB note 0 127 <;> rfl
set_option maxHeartbeats 2000000 in
theorem devF_impl (s : ByteArray) (A : Option Addr) (n c : Nat) (zs : List Int) (p note f : Int) (w : World) (h : IntsAt w A n zs) (hn : n ≤ 1048576) (hs : s.size ≤ maxLen) :
    Calls Tryz.prog 14 #[.agg #[.string s, .slice A n c], .int .i64 p, .int .i64 note, .int .i64 f] w fun e w' => e = .returned (.tuple #[.int .i64 (dfV s zs p note f), .int .i64 (dfC s zs p note f)]) ∧ Below w.heap.size w w' := by
  have h0 := h.alloc (.cells #[.string s, .slice A n c] 26)
  cases hT : tempB s zs
  · have HV : Hid (dfV s zs p note f = 0 ∧ dfC s zs p note f = 1) := by show _ ∧ _; simp [dfV, dfC, hT]
    have HT := Lib.hid hT
    clear hT
    go_enter Tryz.func14, Tryz.ntmps14
    go_wp2_with fail
    refine (tempered_inv s A _ _ n c _ _ _ _ zs _ ((h0.alloc _).alloc _) hn hs HT.out).mono ?_
    rintro e w1 ⟨rfl, hb1⟩
    go_wp2
    go_ret2
    exact ⟨ret_two HV.out.1.symm HV.out.2.symm, tbox_two ((((Below.refl _ _).alloc (Nat.le_refl _) _).alloc (by simp) _).trans (hb1.mono (by simp)))⟩
  · cases hab : dfB p note f
    · have HV : Hid (dfV s zs p note f = 0 ∧ dfC s zs p note f = 2) := by show _ ∧ _; simp [dfV, dfC, hT, hab]
      have HT := Lib.hid hT
      have HA : Hid ((if (allF [p, f] && allN [note]) = true then 0 else 2) = (2 : Int)) := by show _ = _; rw [df_code, hab]; simp
      clear hT hab
      go_enter Tryz.func14, Tryz.ntmps14
      go_wp2_with fail
      refine (tempered_val s A _ _ n c _ _ _ _ zs [note] [p, f] 2 _ ((h0.alloc _).alloc _) hn hs HT.out (IntsAt.alloc (IntsAt.new_at _ [note] 2 _ 1 (by simp) rfl) _) (IntsAt.new_at _ [p, f] 2 _ 2 (by simp) rfl) (by omega) (by omega) HA.out).mono ?_
      rintro e w1 ⟨rfl, hb1⟩
      go_wp2
      go_ret2
      exact ⟨ret_two HV.out.1.symm HV.out.2.symm, tbox_two ((((Below.refl _ _).alloc (Nat.le_refl _) _).alloc (by simp) _).trans (hb1.mono (by simp)))⟩
    · have HV : Hid (dfV s zs p note f = devV zs p note f ∧ dfC s zs p note f = 0) := by show _ ∧ _; simp [dfV, dfC, hT, hab]
      have HA : Hid ((if (allF [p, f] && allN [note]) = true then 0 else 2) = (0 : Int)) := by show _ = _; rw [df_code, hab]; simp
      simp only [dfB, Bool.and_eq_true] at hab
      have HT := Lib.hid hT
      have HX := Lib.hid hab
      clear hT hab
      go_enter Tryz.func14, Tryz.ntmps14
      go_wp2_with fail
      refine (tempered_val s A _ _ n c _ _ _ _ zs [note] [p, f] 0 _ ((h0.alloc _).alloc _) hn hs HT.out (IntsAt.alloc (IntsAt.new_at _ [note] 2 _ 1 (by simp) rfl) _) (IntsAt.new_at _ [p, f] 2 _ 2 (by simp) rfl) (by omega) (by omega) HA.out).mono ?_
      rintro e w1 ⟨rfl, hb1⟩
      have hb2 := (((Below.refl _ (w.alloc (.cells #[.string s, .slice A n c] 26))).alloc (Nat.le_refl _) _).alloc (by simp) _).trans (hb1.mono (by simp))
      obtain ⟨p0, p1⟩ := cells2 (g := w.heap.size) (a := .string s) (b := .slice A n c) hb2 (by simp) (by go_simp) (by go_simp)
      have h2 := h0.below hb2
      have HB := Lib.hid (tbox_two hb2)
      clear hb1 hb2
      go_wp2_with fail
      refine (deviation_any s A n c zs p note f _ h2 HT.out HX.out.1 HX.out.2.2 HX.out.2.1).mono ?_
      rintro e w3 ⟨rfl, hb3⟩
      go_wp2
      go_ret2
      exact ⟨ret_two HV.out.1.symm HV.out.2.symm, below_two HB.out hb3 (Nat.le_refl _)⟩
end Go.Proofs.YtkbfmjnekeipcaaGreatDoor
