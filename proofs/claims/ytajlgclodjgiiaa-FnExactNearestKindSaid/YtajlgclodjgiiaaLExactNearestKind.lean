/- The law FnExactNearestKind of the given program holds: for every input it returns true, and its arguments read afterwards as before. No condition. -/
import Derived.Test.YtajlgclodjgiiaaBase
import Derived.Test.YtajlgclodjgiiaaNear
namespace Go.Proofs.Ytajlgclodjgiiaa.fnExactNearestKind
open Go.ChangeShapes Go.WideShapes Go.ChangeAt Go.RowKit
set_option linter.unusedVariables false

set_option maxHeartbeats 1000000 in
theorem walk (a b c d e : Int) (wa : (Lit.int .i64 a).wf = true) (wb : (Lit.int .i64 b).wf = true) (wc : (Lit.int .i64 c).wf = true) (wd : (Lit.int .i64 d).wf = true) (we : (Lit.int .i64 e).wf = true) (w : World) : Calls Try.prog 11 #[.agg #[.int .i64 a, .int .i64 b, .int .i64 c, .int .i64 d, .int .i64 e]] w fun x w' => x = .returned (.bool true) ∧ Below w.heap.size w w' := by
  clear wa wb wc wd we
  cases h : sB a b c d e
  · have H := Lib.hid h
    clear h
    go_enter Try.func11, Try.ntmps11
    go_wp2_with fail
    refine (toSound_any _ _ _ _ _ _).mono ?_
    rintro x w1 ⟨rfl, hb1⟩
    go_wp2_with fail
    refine (near_spec_inv _ H.out).mono ?_
    rintro x w2 ⟨rfl, hb2⟩
    have hb := below_two hb1 hb2 (Nat.le_refl _)
    clear hb1 hb2
    obtain ⟨hc, hf⟩ := bcell hb
    go_wp2_with fail
    refine (toSound_any _ _ _ _ _ _).mono ?_
    rintro x w3 ⟨rfl, hb3⟩
    go_wp2_with fail
    refine (near_inv _ H.out).mono ?_
    rintro x w4 ⟨rfl, hb4⟩
    go_wp2
    go_ret
    exact ⟨rfl, ((Below.refl _ _).alloc (Nat.le_refl _) _).trans ((below_two (below_two hb hb3 (Nat.le_refl _)) hb4 (Nat.le_refl _)).mono (by simp))⟩
  cases hk : inB (nearI e 2) 10000 20000000
  · have H := Lib.hid h
    have HK := Lib.hid hk
    clear h hk
    go_enter Try.func11, Try.ntmps11
    go_wp2_with fail
    refine (toSound_any _ _ _ _ _ _).mono ?_
    rintro x w1 ⟨rfl, hb1⟩
    go_wp2_with fail
    refine (near_spec_no _ H.out HK.out).mono ?_
    rintro x w2 ⟨rfl, hb2⟩
    have hb := below_two hb1 hb2 (Nat.le_refl _)
    clear hb1 hb2
    obtain ⟨hc, hf⟩ := bcell hb
    go_wp2_with fail
    refine (toSound_any _ _ _ _ _ _).mono ?_
    rintro x w3 ⟨rfl, hb3⟩
    go_wp2_with fail
    refine (near_no _ H.out HK.out).mono ?_
    rintro x w4 ⟨rfl, hb4⟩
    go_wp2
    go_ret
    exact ⟨rfl, ((Below.refl _ _).alloc (Nat.le_refl _) _).trans ((below_two (below_two hb hb3 (Nat.le_refl _)) hb4 (Nat.le_refl _)).mono (by simp))⟩
  · have H := Lib.hid h
    have HK := Lib.hid hk
    clear h hk
    go_enter Try.func11, Try.ntmps11
    go_wp2_with fail
    refine (toSound_any _ _ _ _ _ _).mono ?_
    rintro x w1 ⟨rfl, hb1⟩
    go_wp2_with fail
    refine (near_spec_ok _ H.out HK.out).mono ?_
    rintro x w2 ⟨rfl, hb2⟩
    have hb := below_two hb1 hb2 (Nat.le_refl _)
    clear hb1 hb2
    obtain ⟨hc, hf⟩ := bcell hb
    go_wp2_with fail
    refine (toSound_any _ _ _ _ _ _).mono ?_
    rintro x w3 ⟨rfl, hb3⟩
    go_wp2_with fail
    refine (near_ok _ H.out HK.out).mono ?_
    rintro x w4 ⟨rfl, hb4⟩
    go_wp2
    go_ret
    exact ⟨rfl, ((Below.refl _ _).alloc (Nat.le_refl _) _).trans ((below_two (below_two hb hb3 (Nat.le_refl _)) hb4 (Nat.le_refl _)).mono (by simp))⟩

set_option maxRecDepth 100000 in
theorem lifted (os : Os) (started : os.Started) (H : Type) (enc : TypeId × Value → H) :
    ReturnsInHanded {} Try.checked os 11 .any (Rows.fnExactNearestKindSpec.pre6 enc Try.prog Try.f11 Rows.fnExactNearestKindRow.domain false) (Rows.fnExactNearestKindSpec.post enc Try.prog Try.f11 false true false false) := by
  refine returnsInHanded_of_change_shaped (C := Try.checked) own started (by kernel_rfl) Try.func11
    (ChangeSpec.witness6 (enc := enc) (C := Try.checked) false ⟨#[], #[.agg #[.int .i64 0, .int .i64 0, .int .i64 0, .int .i64 0, .int .i64 0]], []⟩ 8 (by kernel_rfl) (by kernel_rfl) (by kernel_rfl) (by kernel_rfl)) ?_
  intro W base args ds gs before hval0 hW hcnd0 hsz0 hsh hholds
  have hval : ∀ (j : Nat) t v, Try.f11.params[j]? = some t → args[j]? = some v → Value.okWide Try.prog W .any base t v := hval0
  have hsz : (DataW.weightsEach Try.prog (Try.f11.params.toList ++ Rows.fnExactNearestKindSpec.plain.varTypes Try.prog) (ds ++ gs)).all (· ≤ reachBytes) = true := hsz0
  clear hsz0 hcnd0 hholds hval0
  have hWW := hW
  obtain ⟨p, q, hA0, hV, rfl, hfz, hnd⟩ := hW
  have hA : DataW.TrodAll enc Try.prog W 0 (fun _ => true) true Try.f11.params.toList args.toList ds p := hA0
  clear hA0
  have hlt : ∀ x ∈ p ++ q, x.block < W.heap.size := fun x hx => hWW.lt x hx
  rw [Try.params11] at hA hval hsz
  obtain ⟨v0, vs0, d0, ds0, p0, q0, hargs, rfl, rfl, h0, r0⟩ := trodAll_cons hA
  obtain ⟨rfl, rfl, rfl⟩ := trodAll_nil r0
  obtain rfl : args = #[v0] := by cases args; simp_all
  obtain ⟨rfl, rfl⟩ := trodVars_none hV
  clear hargs hV hfz hnd
  have fin : ∀ W', Below W.heap.size W W' → Rows.fnExactNearestKindSpec.post enc Try.prog Try.f11 false true false false W #[v0] (.bool true) W' := fun W' hb =>
    post_true (tb := 4) (by kernel_rfl) hWW rfl Try.underlying4 rfl rfl rfl rfl hb
  clear hWW
  obtain ⟨a0, b0, c0, d0_, e0, rfl, wa0, wb0, wc0, wd0, we0⟩ := open_sound (hval 0 23 v0 rfl rfl) h0
  refine (walk a0 b0 c0 d0_ e0 wa0 wb0 wc0 wd0 we0  (w := W)).mono fun e W' ⟨he, hb⟩ => ?_
  subst he
  exact ⟨_, rfl, fin _ hb⟩

/-- The statement. -/
theorem proved : Rows.FnExactNearestKindSaid :=
  OpenClaim.holds_of_wide 11 Try.f11 rfl rfl rfl rfl rfl rfl rfl ⟨rfl, rfl, rfl, rfl, rfl⟩ rfl rfl rfl rfl rfl (by kernel_rfl) Try.func11 (by kernel_rfl)
    (of_decide_eq_true (by kernel_rfl)) (by unfold Func.isWrapper; first | (rw [if_pos (by decide +kernel)]; kernel_rfl) | (rw [if_neg (by decide +kernel)]; exact ⟨rfl, rfl⟩))
    (fun os started H enc _ => lifted os started H enc)
#print axioms proved
end Go.Proofs.Ytajlgclodjgiiaa.fnExactNearestKind
