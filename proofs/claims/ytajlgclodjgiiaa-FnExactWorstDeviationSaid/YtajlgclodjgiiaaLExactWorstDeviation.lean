/- The law FnExactWorstDeviation of the given program holds: for every input it returns true, and its arguments read afterwards as before. No condition. -/
import Derived.Test.YtajlgclodjgiiaaBase
import Derived.Test.YtajlgclodjgiiaaWorst
import Derived.Test.YtajlgclodjgiiaaOpen
namespace Go.Proofs.Ytajlgclodjgiiaa.fnExactWorstDeviation
open Go.ChangeShapes Go.WideShapes Go.ChangeAt Go.RowKit
set_option linter.unusedVariables false

set_option maxHeartbeats 1000000 in
theorem walk {A : Option Addr} {n c : Nat} {zs : List Int} (w : World) (h : IntsAt w A n zs) : Calls Try.prog 6 #[.slice A n c] w fun e w' => e = .returned (.bool true) ∧ Below w.heap.size w w' := by
  by_cases hn : n ≤ 1048576
  · have hd : decide (1048576 < (n : Int)) = false := decide_eq_false (by omega)
    go_enter Try.func6, Try.ntmps6
    go_wp2_with fail
    refine (toInt64S_any _ _ _ zs _ h hn).mono ?_
    rintro e w1 ⟨g1, c1, rfl, hg1, ho1, hb1⟩
    have i1 := IntsAt.of_own ho1
    go_wp2_with fail
    refine (worstDev_spec _ _ _ zs _ i1 (by omega)).mono ?_
    rintro e w' ⟨rfl, k, rfl⟩
    have hb1' := below_drewN hb1 k
    go_wp2_with fail
    refine (toInt64S_any _ _ _ zs _ (h.below hb1') hn).mono ?_
    rintro e w2 ⟨g2, c2, rfl, hg2, ho2, hb2⟩
    have i2 := IntsAt.of_own ho2
    have hb12 := below_two hb1' hb2 (Nat.le_refl _)
    go_wp2_with fail
    refine (worstDev_impl _ _ _ zs _ i2 (by omega)).mono ?_
    rintro e w' ⟨rfl, k, rfl⟩
    go_wp2_with fail
    refine (toInt64S_any _ _ _ zs _ ((h.below hb12).drewN k) hn).mono ?_
    rintro e w3 ⟨g3, c3, rfl, hg3, ho3, hb3⟩
    have i3 := IntsAt.of_own ho3
    have i2' : IntsAt w3 _ n zs := CellsAt.below (CellsAt.drewN i2 k) hb3
    have hb123 : Below w.heap.size w w3 := (below_drewN hb12 k).trans (hb3.mono hb12.size)
    go_wp2_with fail
    refine (eqInt64S_any _ _ _ _ _ _ zs zs _ i2' i3 (by omega) (by omega)).mono ?_
    rintro e w' ⟨rfl, q, rfl⟩
    rw [decide_eq_true (rfl : zs = zs)]
    go_wp2
    go_ret
    exact ⟨rfl, below_drewN hb123 q⟩
  · have hd : decide (1048576 < (n : Int)) = true := decide_eq_true (by omega)
    go_enter Try.func6, Try.ntmps6
    go_wp2
    go_ret
    exact ⟨rfl, Below.refl _ _⟩

set_option maxRecDepth 100000 in
theorem lifted (os : Os) (started : os.Started) (H : Type) (enc : TypeId × Value → H) :
    ReturnsInHanded {} Try.checked os 6 .any (Rows.fnExactWorstDeviationSpec.pre6 enc Try.prog Try.f6 Rows.fnExactWorstDeviationRow.domain false) (Rows.fnExactWorstDeviationSpec.post enc Try.prog Try.f6 false true false false) := by
  refine returnsInHanded_of_change_shaped (C := Try.checked) own started (by kernel_rfl) Try.func6
    (ChangeSpec.witness6 (enc := enc) (C := Try.checked) false ⟨#[], #[.slice none 0 0], []⟩ 8 (by kernel_rfl) (by kernel_rfl) (by kernel_rfl) (by kernel_rfl)) ?_
  intro W base args ds gs before hval0 hW hcnd0 hsz0 hsh hholds
  have hval : ∀ (j : Nat) t v, Try.f6.params[j]? = some t → args[j]? = some v → Value.okWide Try.prog W .any base t v := hval0
  have hsz : (DataW.weightsEach Try.prog (Try.f6.params.toList ++ Rows.fnExactWorstDeviationSpec.plain.varTypes Try.prog) (ds ++ gs)).all (· ≤ reachBytes) = true := hsz0
  clear hsz0 hcnd0 hholds hval0
  have hWW := hW
  obtain ⟨p, q, hA0, hV, rfl, hfz, hnd⟩ := hW
  have hA : DataW.TrodAll enc Try.prog W 0 (fun _ => true) true Try.f6.params.toList args.toList ds p := hA0
  clear hA0
  have hlt : ∀ x ∈ p ++ q, x.block < W.heap.size := fun x hx => hWW.lt x hx
  rw [Try.params6] at hA hval hsz
  obtain ⟨v0, vs0, d0, ds0, p0, q0, hargs, rfl, rfl, h0, r0⟩ := trodAll_cons hA
  obtain ⟨rfl, rfl, rfl⟩ := trodAll_nil r0
  obtain rfl : args = #[v0] := by cases args; simp_all
  obtain ⟨rfl, rfl⟩ := trodVars_none hV
  clear hargs hV hfz hnd
  have fin : ∀ W', Below W.heap.size W W' → Rows.fnExactWorstDeviationSpec.post enc Try.prog Try.f6 false true false false W #[v0] (.bool true) W' := fun W' hb =>
    post_true (tb := 4) (by kernel_rfl) hWW rfl Try.underlying4 rfl rfl rfl rfl hb
  clear hWW
  obtain ⟨A0, n0, c0, xs0, rfl, hx0⟩ := open_intS (hval 0 28 v0 rfl rfl) h0 (fun x hx => hlt x (by simp [hx]))
  refine (walk hx0  (w := W)).mono fun e W' ⟨he, hb⟩ => ?_
  subst he
  exact ⟨_, rfl, fin _ hb⟩

/-- The statement. -/
theorem proved : Rows.FnExactWorstDeviationSaid :=
  OpenClaim.holds_of_wide 6 Try.f6 rfl rfl rfl rfl rfl rfl rfl ⟨rfl, rfl, rfl, rfl, rfl⟩ rfl rfl rfl rfl rfl (by kernel_rfl) Try.func6 (by kernel_rfl)
    (of_decide_eq_true (by kernel_rfl)) (by unfold Func.isWrapper; first | (rw [if_pos (by decide +kernel)]; kernel_rfl) | (rw [if_neg (by decide +kernel)]; exact ⟨rfl, rfl⟩))
    (fun os started H enc _ => lifted os started H enc)
#print axioms proved
end Go.Proofs.Ytajlgclodjgiiaa.fnExactWorstDeviation
