/- The law FnExactSoundText of the given program holds: for every input it returns true, and its arguments read afterwards as before. No condition. -/
import Derived.Test.YtdmfmpfdkfijeaaDoorBase
import Derived.LaidMore
import Derived.Stop.Joined
import Derived.SevenTiedAt
import Derived.Test.YtdmfmpfdkfijeaaDoorCards
import Derived.Test.YtdmfmpfdkfijeaaDoorTie
import Derived.Test.YtdmfmpfdkfijeaaDoorSndT
namespace Go.Proofs.YtdmfmpfdkfijeaaDoor.fnExactSoundText
open Go.ChangeShapes Go.WideShapes Go.ChangeAt Go.RowKit
set_option maxRecDepth 100000
set_option linter.unusedVariables false

theorem tab_row2 {W : World} (h : laidMetH Tryd.prog Rows.fnExactSoundTextRow.laid W) : Tab W := by
  rw [MakeChecks.laidMetH_plain _ _ _ (by kernel_rfl)] at h
  exact tab_of h
theorem lbox (a b c d e : Int) (w : World) (t : TypeId) : Below w.heap.size w (w.alloc (.cells #[.int .i64 a, .int .i64 b, .int .i64 c, .int .i64 d, .int .i64 e] t)) := (Below.refl _ _).alloc (Nat.le_refl _) _
set_option maxHeartbeats 1000000 in
theorem walk (a b c d e : Int) (wa : (Lit.int .i64 a).wf = true) (wb : (Lit.int .i64 b).wf = true) (wc : (Lit.int .i64 c).wf = true) (wd : (Lit.int .i64 d).wf = true) (we : (Lit.int .i64 e).wf = true) {w : World} (ht : Tab w) : Calls Tryd.prog 12 #[.agg #[.int .i64 a, .int .i64 b, .int .i64 c, .int .i64 d, .int .i64 e]] w fun x w' => x = .returned (.bool true) ∧ Below w.heap.size w w' := by
  clear wa wb wc wd we
  have HB0 := Lib.hid (lbox a b c d e w 53)
  have HT := Lib.hid (ht.below (lbox a b c d e w 53))
  have hss : ((sndS a b c d e).toList == (sndS a b c d e).toList) = true := by simp
  have HS := Lib.hid (fun w1 => snd_spec a b c d e w1)
  have HI := Lib.hid (fun w1 h1 => snd_impl a b c d e w1 h1)
  generalize sndS a b c d e = S at *
  clear ht
  go_enter Tryd.func12, Tryd.ntmps12
  go_wp2_with fail
  refine (toSound_any _ _ _ _ _ _).mono ?_
  rintro x w1 ⟨rfl, hb1⟩
  go_wp2_with fail
  refine (HS.out _).mono ?_
  rintro x w2 ⟨rfl, hb2⟩
  have hb := below_two hb1 hb2 (Nat.le_refl _)
  clear hb1 hb2
  obtain ⟨hc, hf⟩ := bcell hb
  go_wp2_with fail
  refine (toSound_any _ _ _ _ _ _).mono ?_
  rintro x w3 ⟨rfl, hb3⟩
  have hb' := below_two hb hb3 (Nat.le_refl _)
  go_wp2_with fail
  refine (HI.out _ (HT.out.below hb')).mono ?_
  rintro x w4 ⟨rfl, hb4⟩
  have hb5 := below_two hb' hb4 (Nat.le_refl _)
  clear hc hf hb hb3 hb' hb4
  go_wp2
  go_ret
  exact ⟨rfl, HB0.out.trans (hb5.mono HB0.out.size)⟩

/-- The door's own heap meets the row's condition. -/
theorem door_met (os : Os) (args : Array Value) : laidMetH Tryd.prog Rows.fnExactSoundTextRow.laid ((World.doorLaid Tryd.prog 400 os).forCall (fun _ _ => 0) ⟨#[], args, []⟩).memory :=
  laidMetH_of_parts3 (fuel := 8) (laidMet_of_run' 8 (by kernel_rfl) (by kernel_rfl)) (by kernel_rfl) (by kernel_rfl)

set_option maxRecDepth 100000 in
theorem lifted (os : Os) (started : os.Started) (H : Type) (enc : TypeId × Value → H) :
    ReturnsInHanded {} Tryd.checked os 12 .any (fun w args => (Rows.fnExactSoundTextSpec.pre enc Tryd.prog Tryd.f12 [] false w args ∧ laidMetH Tryd.prog Rows.fnExactSoundTextRow.laid w) ∧ sizedMet enc Tryd.prog Tryd.f12 (OpenSpec.ofChange Rows.fnExactSoundTextSpec) false w args)
      (Rows.fnExactSoundTextSpec.post enc Tryd.prog Tryd.f12 false true false false) := by
  refine returnsInHanded_of_change_and (C := Tryd.checked) (X := fun w _ => laidMetH Tryd.prog Rows.fnExactSoundTextRow.laid w) (fun _ _ _ hh h => h.of_heap hh) own started (by kernel_rfl) Tryd.func12
    (ChangeSpec.witness_shaped (enc := enc) (C := Tryd.checked) (os := os) (X := fun w _ => laidMetH Tryd.prog Rows.fnExactSoundTextRow.laid w) false (World.doorLaid Tryd.prog 400 os) #[.agg #[.int .i64 0, .int .i64 0, .int .i64 0, .int .i64 0, .int .i64 0]] 8 rfl (World.shaped_of_RefB (by kernel_rfl) (by kernel_rfl)) (by kernel_rfl) (by kernel_rfl) (by kernel_rfl) (door_met os _)) ?_
  intro W base args ds gs before hval0 hW hcnd0 hsz0 hlaid hholds
  have hval : ∀ (j : Nat) t v, Tryd.f12.params[j]? = some t → args[j]? = some v → Value.okWide Tryd.prog W .any base t v := hval0
  have hsz : (DataW.weightsEach Tryd.prog (Tryd.f12.params.toList ++ Rows.fnExactSoundTextSpec.plain.varTypes Tryd.prog) (ds ++ gs)).all (· ≤ reachBytes) = true := hsz0
  clear hsz0 hcnd0 hholds hval0
  have hWW := hW
  obtain ⟨p, q, hA0, hV, rfl, hfz, hnd⟩ := hW
  have hA : DataW.TrodAll enc Tryd.prog W 0 (fun _ => true) true Tryd.f12.params.toList args.toList ds p := hA0
  clear hA0
  have hlt : ∀ x ∈ p ++ q, x.block < W.heap.size := fun x hx => hWW.lt x hx
  rw [Tryd.params12] at hA hval hsz
  obtain ⟨v0, vs0, d0, ds0, p0, q0, hargs, rfl, rfl, h0, r0⟩ := trodAll_cons hA
  obtain ⟨rfl, rfl, rfl⟩ := trodAll_nil r0
  obtain rfl : args = #[v0] := by cases args; simp_all
  obtain ⟨rfl, rfl⟩ := trodVars_none hV
  clear hargs hV hfz hnd
  have fin : ∀ W', Below W.heap.size W W' → Rows.fnExactSoundTextSpec.post enc Tryd.prog Tryd.f12 false true false false W #[v0] (.bool true) W' := fun W' hb =>
    post_true (tb := 4) (by kernel_rfl) hWW rfl Tryd.underlying4 rfl rfl rfl rfl hb
  clear hWW
  obtain ⟨a0, b0, c0, d0_, e0, rfl, wa0, wb0, wc0, wd0, we0⟩ := open_sound (hval 0 53 v0 rfl rfl) h0
  refine (walk a0 b0 c0 d0_ e0 wa0 wb0 wc0 wd0 we0 (tab_row2 hlaid)  (w := W)).mono fun e W' ⟨he, hb⟩ => ?_
  subst he
  exact ⟨_, rfl, fin _ hb⟩

theorem over : Rows.FnExactSoundTextSaid :=
  OpenClaim.holds_of_wide 12 Tryd.f12 rfl rfl rfl rfl rfl rfl rfl ⟨rfl, rfl, rfl, rfl, rfl⟩ rfl rfl rfl rfl rfl (by kernel_rfl) Tryd.func12 (by kernel_rfl)
    (of_decide_eq_true (by kernel_rfl)) (by unfold Func.isWrapper; first | (rw [if_pos (by decide +kernel)]; kernel_rfl) | (rw [if_neg (by decide +kernel)]; exact ⟨rfl, rfl⟩))
    (fun os started H enc _ => lifted os started H enc)

/-- The statement: the card, its listed variables tied to the program's text. -/
theorem proved : Rows.FnExactSoundTextCardSaid :=
  Claim7.holds_tied_plain_at .later [] [.data, .data, .data] true (true, "866e0879a20b766992ec21fc17b15ee2b48161c112fe33352e84f1a92dced44e") true
    over (fun _ h => by cases h) (by kernel_rfl) (fun _ h => by cases h) fnExactSoundText_row_tie rfl ⟨rfl, rfl⟩ (by kernel_rfl) rfl
    (fun f fn hf hfn => by
      obtain rfl : f = 12 := Option.some.inj ((show Tryd.prog.funcNamed "loop.example/g00952/laws.FnExactSoundText" = some 12 by kernel_rfl).symm.trans hf) |>.symm
      obtain rfl : fn = Tryd.f12 := (Option.some.inj (Tryd.func12.symm.trans hfn)).symm
      refine ⟨by kernel_rfl, fun j t ht => ?_⟩
      rw [Tryd.params12] at ht
      have hall : ∀ t ∈ ([53] : List TypeId), Tryd.prog.wantsStandIn t = false := by intro t ht; simp only [List.mem_cons, List.mem_nil_iff, or_false] at ht; rcases ht with rfl; all_goals kernel_rfl
      exact hall t (by have := Array.mem_of_getElem? ht; simpa using this))
    (by kernel_rfl)
#print axioms proved
end Go.Proofs.YtdmfmpfdkfijeaaDoor.fnExactSoundText
