/- The law FnExactTemperamentNames of the given program holds: for every input it returns true, and its arguments read afterwards as before. No condition. -/
import Derived.Test.YtdpahmkcipfdaaaBase
import Derived.Test.YtdpahmkcipfdaaaNames
namespace Go.Proofs.Ytdpahmkcipfdaaa.fnExactTemperamentNames
open Go.ChangeShapes Go.WideShapes Go.ChangeAt Go.RowKit
set_option maxRecDepth 100000
set_option linter.unusedVariables false

set_option maxHeartbeats 4000000 in
theorem walk (w : World) : Calls Try.prog 3 #[] w fun x w' => x = .returned (.bool true) ∧ Below w.heap.size w w' := by
  go_enter Try.func3, Try.ntmps3
  go_wp2_with fail
  refine (names_spec _).mono ?_
  rintro x w1 ⟨A0, c0, rfl, s0, hb0⟩
  go_wp2_with fail
  refine (names_impl _).mono ?_
  rintro x w2 ⟨g1, c1, rfl, o1, hb1⟩
  have s1 := s0.below hb1
  have i1 := SAt.of_own o1
  have hown := o1.lt
  have B2 := Lib.hid (below_two hb0 hb1 (Nat.le_refl _))
  have hle := hb0.size
  have HA0 : Hid (∃ b off, A0 = some ⟨b, off, none⟩ ∧ b < w1.heap.size) := by
    obtain ⟨b0, off0, hA0, hb0lt, _⟩ := s0
    exact ⟨b0, off0, hA0, hb0lt⟩
  clear hb0 hb1 s0
  go_wp2_with fail
  refine (eqStrs_same _ _ c1 c0 tName _ i1 s1).mono ?_
  rintro x w' ⟨rfl, q, rfl⟩
  go_wp2_with fail
  refine (markStrs_any g1 c1 _ _ _ (row_drewN o1 q)).mono ?_
  rintro x w4 ⟨rfl, o4, hg4⟩
  have s4 : SAt w4 A0 tName := SAt.grown (show SAt (w2.drewN q) A0 tName from s1) hg4 (fun a ha he => by
    obtain ⟨b0, off0, hA0, hb0lt⟩ := HA0.out
    rw [hA0] at ha
    cases ha
    have := (hown g1 rfl).1
    simp at he
    omega)
  have m4 := SAt.of_own o4
  have B4 := Lib.hid ((below_drewN B2.out q).grown hg4 (by simpa using B2.out.size) (fun g hg => by cases hg; have := (hown g1 rfl).1; omega))
  clear o1 i1 s1 o4 hg4 hown
  go_wp2_with fail
  refine (heldStrs_any _ c1 _ m4).mono ?_
  rintro x w5 ⟨rfl, hb5⟩
  have s5 := s4.below hb5
  have m5 := m4.below hb5
  have B5 := Lib.hid (below_two B4.out hb5 (Nat.le_refl _))
  clear s4 m4 hb5
  go_wp2_with fail
  refine (names_impl _).mono ?_
  rintro x w6 ⟨g6, c6, rfl, o6, hb6⟩
  have s6 := s5.below hb6
  have m6 := m5.below hb6
  have i6 := SAt.of_own o6
  have B6 := Lib.hid (below_two B5.out hb6 (Nat.le_refl _))
  clear s5 m5 hb6 o6
  go_wp2_with fail
  refine (eqStrs_same _ _ c6 c0 tName _ i6 s6).mono ?_
  rintro x w' ⟨rfl, q', rfl⟩
  have m7 : SAt (w6.drewN q') (some ⟨g1, 0, none⟩) markF := m6
  clear s6 i6 m6
  go_wp2_with fail
  refine (heldStrs_any _ c1 _ m7).mono ?_
  rintro x w8 ⟨rfl, hb8⟩
  go_wp2
  go_ret
  exact ⟨rfl, below_two (below_drewN B6.out q') hb8 (Nat.le_refl _)⟩

set_option maxRecDepth 100000 in
theorem lifted (os : Os) (started : os.Started) (H : Type) (enc : TypeId × Value → H) :
    ReturnsInHanded {} Try.checked os 3 .any (Rows.fnExactTemperamentNamesSpec.pre6 enc Try.prog Try.f3 Rows.fnExactTemperamentNamesRow.domain false) (Rows.fnExactTemperamentNamesSpec.post enc Try.prog Try.f3 false true false false) := by
  refine returnsInHanded_of_change_shaped (C := Try.checked) own started (by kernel_rfl) Try.func3
    (ChangeSpec.witness6 (enc := enc) (C := Try.checked) false ⟨#[], #[], []⟩ 8 (by kernel_rfl) (by kernel_rfl) (by kernel_rfl) (by kernel_rfl)) ?_
  intro W base args ds gs before hval0 hW hcnd0 hsz0 hsh hholds
  have hval : ∀ (j : Nat) t v, Try.f3.params[j]? = some t → args[j]? = some v → Value.okWide Try.prog W .any base t v := hval0
  have hsz : (DataW.weightsEach Try.prog (Try.f3.params.toList ++ Rows.fnExactTemperamentNamesSpec.plain.varTypes Try.prog) (ds ++ gs)).all (· ≤ reachBytes) = true := hsz0
  clear hsz0 hcnd0 hholds hval0
  have hWW := hW
  obtain ⟨p, q, hA0, hV, rfl, hfz, hnd⟩ := hW
  have hA : DataW.TrodAll enc Try.prog W 0 (fun _ => true) true Try.f3.params.toList args.toList ds p := hA0
  clear hA0
  have hlt : ∀ x ∈ p ++ q, x.block < W.heap.size := fun x hx => hWW.lt x hx
  rw [Try.params3] at hA hval hsz
  obtain ⟨hargs, rfl, rfl⟩ := trodAll_nil hA
  obtain rfl : args = #[] := by cases args; simp_all
  obtain ⟨rfl, rfl⟩ := trodVars_none hV
  clear hargs hV hfz hnd
  have fin : ∀ W', Below W.heap.size W W' → Rows.fnExactTemperamentNamesSpec.post enc Try.prog Try.f3 false true false false W #[] (.bool true) W' := fun W' hb =>
    post_true (tb := 4) (by kernel_rfl) hWW rfl Try.underlying4 rfl rfl rfl rfl hb
  clear hWW
  refine (walk  (w := W)).mono fun e W' ⟨he, hb⟩ => ?_
  subst he
  exact ⟨_, rfl, fin _ hb⟩

/-- The statement. -/
theorem proved : Rows.FnExactTemperamentNamesSaid :=
  OpenClaim.holds_of_wide 3 Try.f3 rfl rfl rfl rfl rfl rfl rfl ⟨rfl, rfl, rfl, rfl, rfl⟩ rfl rfl rfl rfl rfl (by kernel_rfl) Try.func3 (by kernel_rfl)
    (of_decide_eq_true (by kernel_rfl)) (by unfold Func.isWrapper; first | (rw [if_pos (by decide +kernel)]; kernel_rfl) | (rw [if_neg (by decide +kernel)]; exact ⟨rfl, rfl⟩))
    (fun os started H enc _ => lifted os started H enc)
#print axioms proved
end Go.Proofs.Ytdpahmkcipfdaaa.fnExactTemperamentNames
