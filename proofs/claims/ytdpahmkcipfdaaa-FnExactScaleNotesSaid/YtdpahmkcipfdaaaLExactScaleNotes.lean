/- The law FnExactScaleNotes of the given program holds: for every input it returns true, and its arguments read afterwards as before. No condition. -/
import Derived.Test.YtdpahmkcipfdaaaBase
import Derived.Test.YtdpahmkcipfdaaaScale
namespace Go.Proofs.Ytdpahmkcipfdaaa.fnExactScaleNotes
open Go.ChangeShapes Go.WideShapes Go.ChangeAt Go.RowKit
set_option maxRecDepth 100000
set_option linter.unusedVariables false

set_option maxHeartbeats 1000000 in
theorem walk_of (r k : Int) (zs : List Int) (code : Int) (hz : zs.length ≤ 1000) (hS : ∀ w, Calls Try.prog 20 #[.int .i64 r, .int .i64 k] w fun x w' => IntsRet w zs code x w')
    (hI : ∀ w, Calls Try.prog 21 #[.int .i64 r, .int .i64 k] w fun x w' => IntsRet w zs code x w') (w : World) : Calls Try.prog 4 #[.int .i64 r, .int .i64 k] w fun x w' => x = .returned (.bool true) ∧ Below w.heap.size w w' := by
  have hcc : (code == code) = true := by simp
  go_enter Try.func4, Try.ntmps4
  go_wp2_with fail
  refine (hS _).mono ?_
  rintro x w1 ⟨A0, n0, c0, rfl, ho0, hb0⟩
  go_wp2_with fail
  refine (hI _).mono ?_
  rintro x w2 ⟨A1, n1, c1, rfl, ho1, hb1⟩
  have i0 := (IntsAt.of_own ho0).below hb1
  have i1 := IntsAt.of_own ho1
  have hn0 : n0 ≤ 1000 := by rw [← i0.len]; exact hz
  have hn1 : n1 ≤ 1000 := by rw [← i1.len]; exact hz
  go_wp2_with fail
  refine (eqInt64S_any _ _ _ _ _ _ zs zs _ i1 i0 (by omega) (by omega)).mono ?_
  rw [decide_eq_true (rfl : zs = zs)]
  rintro x w3 ⟨rfl, q, hq⟩
  have hb3 : Below w.heap.size w w3 := by rw [hq]; exact below_drewN (below_two hb0 hb1 (Nat.le_refl _)) q
  have hle3 : w.heap.size ≤ w1.heap.size := hb0.size
  have hlt3 : w1.heap.size ≤ w3.heap.size := by rw [hq]; exact hb1.size
  have hne := other_row ho0 ho1
  have j0 : IntsAt w3 A0 n0 zs := by rw [hq]; exact i0
  have o1 : w3.ownsRow w1.heap.size 2 1 (.slice A1 n1 c1) n1 (zs.map (Value.int .i64)) := by rw [hq]; exact ho1
  clear i0 i1 ho0 ho1 hb0 hb1 hq
  go_wp2_with fail
  refine (mark_any _ _ _ _ _ 1 _ o1 (by omega) (by omega) (by omega)).mono ?_
  rintro x w4 ⟨rfl, o2, hg2⟩
  have k0 : IntsAt w4 A0 n0 zs := CellsAt.grown j0 hg2 hne
  have hb4 : Below w.heap.size w w4 := below_own hb3 hle3 o1 hg2
  have hle4 : w.heap.size ≤ w4.heap.size := hb4.size
  have k2 := IntsAt.of_own o2
  clear o1 j0 hb3 hg2 o2 hlt3 hle3
  have hmm : ((1 + (n1:Int)) == 1 + n1) = true := by simp
  go_wp2_with fail
  refine (held_any _ _ _ 1 _ k2 (by omega) (by omega) (by omega)).mono ?_
  rintro x w' ⟨rfl, rfl⟩
  go_wp2_with fail
  refine (hI _).mono ?_
  rintro x w5 ⟨A2, n2, c2, rfl, ho2, hb5⟩
  have l0 : IntsAt w5 A0 n0 zs := k0.below hb5
  have l1 : IntsAt w5 A1 n1 (marks 1 n1) := k2.below hb5
  have l2 := IntsAt.of_own ho2
  have hn2 : n2 ≤ 1000 := by rw [← l2.len]; exact hz
  have hb6 := below_two hb4 hb5 (Nat.le_refl _)
  clear k0 k2 ho2 hb4 hb5
  go_wp2_with fail
  refine (eqInt64S_any _ _ _ _ _ _ zs zs _ l2 l0 (by omega) (by omega)).mono ?_
  rw [decide_eq_true (rfl : zs = zs)]
  rintro x w7 ⟨rfl, q, hq⟩
  have m1 : IntsAt w7 A1 n1 (marks 1 n1) := by rw [hq]; exact l1
  have hb7 : Below w.heap.size w w7 := by rw [hq]; exact below_drewN hb6 q
  clear hq l0 l1 l2 hb6
  go_wp2_with fail
  refine (held_any _ _ _ 1 _ m1 (by omega) (by omega) (by omega)).mono ?_
  rintro x w' ⟨rfl, rfl⟩
  go_wp2
  go_ret
  exact ⟨rfl, hb7⟩
theorem steps_len (r k : Int) : ((stepsL k).map (r + ·)).length ≤ 1000 := by
  rw [List.length_map]
  unfold stepsL
  split
  · decide
  · split
    · decide
    · split <;> decide
theorem walk (r : Int) (wr : (Lit.int .i64 r).wf = true) (k : Int) (wk : (Lit.int .i64 k).wf = true) (w : World) : Calls Try.prog 4 #[.int .i64 r, .int .i64 k] w fun x w' => x = .returned (.bool true) ∧ Below w.heap.size w w' := by
  cases h1 : inB r 0 127
  · exact walk_of r k [] 2 (by simp) (fun w => Scale_spec_no r k w (.inl h1)) (fun w => Scale_no r k w (.inl h1)) w
  cases h2 : inB k 1 4
  · exact walk_of r k [] 2 (by simp) (fun w => Scale_spec_no r k w (.inr ⟨h1, h2⟩)) (fun w => Scale_no r k w (.inr ⟨h1, h2⟩)) w
  cases h3 : inB (r + 12) 0 127
  · exact walk_of r k [] 6 (by simp) (fun w => Scale_spec_state r k w h1 h2 h3) (fun w => Scale_state r k w h1 h2 h3) w
  · exact walk_of r k ((stepsL k).map (r + ·)) 0 (steps_len r k) (fun w => Scale_spec_ok r k w h1 h2 h3) (fun w => Scale_ok r k w h1 h2 h3) w

set_option maxRecDepth 100000 in
theorem lifted (os : Os) (started : os.Started) (H : Type) (enc : TypeId × Value → H) :
    ReturnsInHanded {} Try.checked os 4 .any (Rows.fnExactScaleNotesSpec.pre6 enc Try.prog Try.f4 Rows.fnExactScaleNotesRow.domain false) (Rows.fnExactScaleNotesSpec.post enc Try.prog Try.f4 false true false false) := by
  refine returnsInHanded_of_change_shaped (C := Try.checked) own started (by kernel_rfl) Try.func4
    (ChangeSpec.witness6 (enc := enc) (C := Try.checked) false ⟨#[], #[.int .i64 0, .int .i64 0], []⟩ 8 (by kernel_rfl) (by kernel_rfl) (by kernel_rfl) (by kernel_rfl)) ?_
  intro W base args ds gs before hval0 hW hcnd0 hsz0 hsh hholds
  have hval : ∀ (j : Nat) t v, Try.f4.params[j]? = some t → args[j]? = some v → Value.okWide Try.prog W .any base t v := hval0
  have hsz : (DataW.weightsEach Try.prog (Try.f4.params.toList ++ Rows.fnExactScaleNotesSpec.plain.varTypes Try.prog) (ds ++ gs)).all (· ≤ reachBytes) = true := hsz0
  clear hsz0 hcnd0 hholds hval0
  have hWW := hW
  obtain ⟨p, q, hA0, hV, rfl, hfz, hnd⟩ := hW
  have hA : DataW.TrodAll enc Try.prog W 0 (fun _ => true) true Try.f4.params.toList args.toList ds p := hA0
  clear hA0
  have hlt : ∀ x ∈ p ++ q, x.block < W.heap.size := fun x hx => hWW.lt x hx
  rw [Try.params4] at hA hval hsz
  obtain ⟨v0, vs0, d0, ds0, p0, q0, hargs, rfl, rfl, h0, r0⟩ := trodAll_cons hA
  obtain ⟨v1, vs1, d1, ds1, p1, q1, rfl, rfl, rfl, h1, r1⟩ := trodAll_cons r0
  obtain ⟨rfl, rfl, rfl⟩ := trodAll_nil r1
  obtain rfl : args = #[v0, v1] := by cases args; simp_all
  obtain ⟨rfl, rfl⟩ := trodVars_none hV
  clear hargs hV hfz hnd
  have fin : ∀ W', Below W.heap.size W W' → Rows.fnExactScaleNotesSpec.post enc Try.prog Try.f4 false true false false W #[v0, v1] (.bool true) W' := fun W' hb =>
    post_true (tb := 4) (by kernel_rfl) hWW rfl Try.underlying4 rfl rfl rfl rfl hb
  clear hWW
  obtain ⟨a0, rfl, rfl, rfl, w0⟩ := open_int Try.underlying2 (hval 0 2 v0 rfl rfl) h0
  obtain ⟨a1, rfl, rfl, rfl, w1⟩ := open_int Try.underlying2 (hval 1 2 v1 rfl rfl) h1
  refine (walk a0 w0 a1 w1  (w := W)).mono fun e W' ⟨he, hb⟩ => ?_
  subst he
  exact ⟨_, rfl, fin _ hb⟩

/-- The statement. -/
theorem proved : Rows.FnExactScaleNotesSaid :=
  OpenClaim.holds_of_wide 4 Try.f4 rfl rfl rfl rfl rfl rfl rfl ⟨rfl, rfl, rfl, rfl, rfl⟩ rfl rfl rfl rfl rfl (by kernel_rfl) Try.func4 (by kernel_rfl)
    (of_decide_eq_true (by kernel_rfl)) (by unfold Func.isWrapper; first | (rw [if_pos (by decide +kernel)]; kernel_rfl) | (rw [if_neg (by decide +kernel)]; exact ⟨rfl, rfl⟩))
    (fun os started H enc _ => lifted os started H enc)
#print axioms proved
end Go.Proofs.Ytdpahmkcipfdaaa.fnExactScaleNotes
