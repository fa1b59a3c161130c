/- The law FnExactListText of the given program holds: for every input it returns true, and its arguments read afterwards as before. No condition. -/
import Derived.Test.YtdmfmpfdkfijeaaDoorBase
import Derived.LaidMore
import Derived.Stop.Joined
import Derived.SevenTiedAt
import Derived.Test.YtdmfmpfdkfijeaaDoorCards
import Derived.Test.YtdmfmpfdkfijeaaDoorTie
import Derived.Test.YtdmfmpfdkfijeaaDoorListT
import Derived.Test.YtdmfmpfdkfijeaaDoorOpen
namespace Go.Proofs.YtdmfmpfdkfijeaaDoor.fnExactListText
open Go.ChangeShapes Go.WideShapes Go.ChangeAt Go.RowKit
set_option maxRecDepth 100000
set_option linter.unusedVariables false

theorem tab_row2 {W : World} (h : laidMetH Tryd.prog Rows.fnExactListTextRow.laid W) : Tab W := by
  rw [MakeChecks.laidMetH_plain _ _ _ (by kernel_rfl)] at h
  exact tab_of h
set_option maxHeartbeats 1000000 in
theorem walk {A : Option Addr} {n c : Nat} {zs : List Int} {w : World} (h : IntsAt w A n zs) (ht : Tab w) : Calls Tryd.prog 9 #[.slice A n c] w fun e w' => e = .returned (.bool true) ∧ Below w.heap.size w w' := by
  have HT := Lib.hid ht
  clear ht
  by_cases hn : n ≤ 1048576
  · have hd : decide (1048576 < (n : Int)) = false := decide_eq_false (by omega)
    go_enter Tryd.func9, Tryd.ntmps9
    go_wp2_with fail
    refine (toInt64S_any _ _ _ zs _ h hn).mono ?_
    rintro e w1 ⟨g1, c1, rfl, hg1, ho1, hb1⟩
    have i1 := IntsAt.of_own ho1
    go_wp2_with fail
    refine (list_spec _ _ _ zs _ i1 (by omega)).mono ?_
    rintro e w2 ⟨rfl, hb2⟩
    have hb12 := below_two hb1 hb2 (Nat.le_refl _)
    go_wp2_with fail
    refine (toInt64S_any _ _ _ zs _ (h.below hb12) hn).mono ?_
    rintro e w3 ⟨g3, c3, rfl, hg3, ho3, hb3⟩
    have i3 := IntsAt.of_own ho3
    have hb13 := below_two hb12 hb3 (Nat.le_refl _)
    go_wp2_with fail
    refine (list_impl _ _ _ zs _ (HT.out.below hb13) i3 (by omega)).mono ?_
    rintro e w4 ⟨rfl, hb4⟩
    have hb14 := below_two hb13 hb4 (Nat.le_refl _)
    have i4 := i3.below hb4
    have hss : ((listS zs).toList == (listS zs).toList) = true := by simp
    generalize listS zs = S at *
    go_wp2_with fail
    refine (toInt64S_any _ _ _ zs _ (h.below hb14) hn).mono ?_
    rintro e w5 ⟨g5, c5, rfl, hg5, ho5, hb5⟩
    have i5 := IntsAt.of_own ho5
    have i4' := i4.below hb5
    have hb15 := below_two hb14 hb5 (Nat.le_refl _)
    go_wp2_with fail
    refine (eqInt64S_any _ _ _ _ _ _ zs zs _ i4' i5 (by omega) (by omega)).mono ?_
    rintro e w' ⟨rfl, q, rfl⟩
    rw [decide_eq_true (rfl : zs = zs)]
    go_wp2
    go_ret
    exact ⟨rfl, below_drewN hb15 q⟩
  · have hd : decide (1048576 < (n : Int)) = true := decide_eq_true (by omega)
    go_enter Tryd.func9, Tryd.ntmps9
    go_wp2
    go_ret
    exact ⟨rfl, Below.refl _ _⟩

/-- The door's own heap meets the row's condition. -/
theorem door_met (os : Os) (args : Array Value) : laidMetH Tryd.prog Rows.fnExactListTextRow.laid ((World.doorLaid Tryd.prog 400 os).forCall (fun _ _ => 0) ⟨#[], args, []⟩).memory :=
  laidMetH_of_parts3 (fuel := 8) (laidMet_of_run' 8 (by kernel_rfl) (by kernel_rfl)) (by kernel_rfl) (by kernel_rfl)

set_option maxRecDepth 100000 in
theorem lifted (os : Os) (started : os.Started) (H : Type) (enc : TypeId × Value → H) :
    ReturnsInHanded {} Tryd.checked os 9 .any (fun w args => (Rows.fnExactListTextSpec.pre enc Tryd.prog Tryd.f9 [] false w args ∧ laidMetH Tryd.prog Rows.fnExactListTextRow.laid w) ∧ sizedMet enc Tryd.prog Tryd.f9 (OpenSpec.ofChange Rows.fnExactListTextSpec) false w args)
      (Rows.fnExactListTextSpec.post enc Tryd.prog Tryd.f9 false true false false) := by
  refine returnsInHanded_of_change_and (C := Tryd.checked) (X := fun w _ => laidMetH Tryd.prog Rows.fnExactListTextRow.laid w) (fun _ _ _ hh h => h.of_heap hh) own started (by kernel_rfl) Tryd.func9
    (ChangeSpec.witness_shaped (enc := enc) (C := Tryd.checked) (os := os) (X := fun w _ => laidMetH Tryd.prog Rows.fnExactListTextRow.laid w) false (World.doorLaid Tryd.prog 400 os) #[.slice none 0 0] 8 rfl (World.shaped_of_RefB (by kernel_rfl) (by kernel_rfl)) (by kernel_rfl) (by kernel_rfl) (by kernel_rfl) (door_met os _)) ?_
  intro W base args ds gs before hval0 hW hcnd0 hsz0 hlaid hholds
  have hval : ∀ (j : Nat) t v, Tryd.f9.params[j]? = some t → args[j]? = some v → Value.okWide Tryd.prog W .any base t v := hval0
  have hsz : (DataW.weightsEach Tryd.prog (Tryd.f9.params.toList ++ Rows.fnExactListTextSpec.plain.varTypes Tryd.prog) (ds ++ gs)).all (· ≤ reachBytes) = true := hsz0
  clear hsz0 hcnd0 hholds hval0
  have hWW := hW
  obtain ⟨p, q, hA0, hV, rfl, hfz, hnd⟩ := hW
  have hA : DataW.TrodAll enc Tryd.prog W 0 (fun _ => true) true Tryd.f9.params.toList args.toList ds p := hA0
  clear hA0
  have hlt : ∀ x ∈ p ++ q, x.block < W.heap.size := fun x hx => hWW.lt x hx
  rw [Tryd.params9] at hA hval hsz
  obtain ⟨v0, vs0, d0, ds0, p0, q0, hargs, rfl, rfl, h0, r0⟩ := trodAll_cons hA
  obtain ⟨rfl, rfl, rfl⟩ := trodAll_nil r0
  obtain rfl : args = #[v0] := by cases args; simp_all
  obtain ⟨rfl, rfl⟩ := trodVars_none hV
  clear hargs hV hfz hnd
  have fin : ∀ W', Below W.heap.size W W' → Rows.fnExactListTextSpec.post enc Tryd.prog Tryd.f9 false true false false W #[v0] (.bool true) W' := fun W' hb =>
    post_true (tb := 4) (by kernel_rfl) hWW rfl Tryd.underlying4 rfl rfl rfl rfl hb
  clear hWW
  obtain ⟨A0, n0, c0, xs0, rfl, hx0⟩ := open_intS (hval 0 33 v0 rfl rfl) h0 (fun x hx => hlt x (by simp [hx]))
  refine (walk hx0 (tab_row2 hlaid)  (w := W)).mono fun e W' ⟨he, hb⟩ => ?_
  subst he
  exact ⟨_, rfl, fin _ hb⟩

theorem over : Rows.FnExactListTextSaid :=
  OpenClaim.holds_of_wide 9 Tryd.f9 rfl rfl rfl rfl rfl rfl rfl ⟨rfl, rfl, rfl, rfl, rfl⟩ rfl rfl rfl rfl rfl (by kernel_rfl) Tryd.func9 (by kernel_rfl)
    (of_decide_eq_true (by kernel_rfl)) (by unfold Func.isWrapper; first | (rw [if_pos (by decide +kernel)]; kernel_rfl) | (rw [if_neg (by decide +kernel)]; exact ⟨rfl, rfl⟩))
    (fun os started H enc _ => lifted os started H enc)

/-- The statement: the card, its listed variables tied to the program's text. -/
theorem proved : Rows.FnExactListTextCardSaid :=
  Claim7.holds_tied_plain_at .later [] [.data, .data, .data] true (true, "866e0879a20b766992ec21fc17b15ee2b48161c112fe33352e84f1a92dced44e") true
    over (fun _ h => by cases h) (by kernel_rfl) (fun _ h => by cases h) fnExactListText_row_tie rfl ⟨rfl, rfl⟩ (by kernel_rfl) rfl
    (fun f fn hf hfn => by
      obtain rfl : f = 9 := Option.some.inj ((show Tryd.prog.funcNamed "loop.example/g00952/laws.FnExactListText" = some 9 by kernel_rfl).symm.trans hf) |>.symm
      obtain rfl : fn = Tryd.f9 := (Option.some.inj (Tryd.func9.symm.trans hfn)).symm
      refine ⟨by kernel_rfl, fun j t ht => ?_⟩
      rw [Tryd.params9] at ht
      have hall : ∀ t ∈ ([33] : List TypeId), Tryd.prog.wantsStandIn t = false := by intro t ht; simp only [List.mem_cons, List.mem_nil_iff, or_false] at ht; rcases ht with rfl; all_goals kernel_rfl
      exact hall t (by have := Array.mem_of_getElem? ht; simpa using this))
    (by kernel_rfl)
#print axioms proved
end Go.Proofs.YtdmfmpfdkfijeaaDoor.fnExactListText
