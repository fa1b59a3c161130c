/- The law FnExactWithPartial of the given program holds: for every input it returns true, and its arguments read afterwards as before. No condition. -/
import Derived.Test.YtajlgclodjgiiaaBase
import Derived.Test.YtajlgclodjgiiaaWithS
import Derived.Test.YtajlgclodjgiiaaSoundE
namespace Go.Proofs.Ytajlgclodjgiiaa.fnExactWithPartial
open Go.ChangeShapes Go.WideShapes Go.ChangeAt Go.RowKit
set_option linter.unusedVariables false

set_option maxRecDepth 100000 in
set_option maxHeartbeats 2000000 in
theorem walk (a b c d e : Int) (wa : (Lit.int .i64 a).wf = true) (wb : (Lit.int .i64 b).wf = true) (wc : (Lit.int .i64 c).wf = true) (wd : (Lit.int .i64 d).wf = true) (we : (Lit.int .i64 e).wf = true) (k : Int) (wk : (Lit.int .i64 k).wf = true) (f : Int) (wf : (Lit.int .i64 f).wf = true) (w : World) : Calls Try.prog 8 #[.agg #[.int .i64 a, .int .i64 b, .int .i64 c, .int .i64 d, .int .i64 e], .int .i64 k, .int .i64 f] w fun x w' => x = .returned (.bool true) ∧ Below w.heap.size w w' := by
  clear wa wb wc wd we wk wf
  cases h : sB a b c d e
  · have H := Lib.hid h
    clear h
    go_enter Try.func8, Try.ntmps8
    go_wp2_with fail
    refine (toSound_any _ _ _ _ _ _).mono ?_
    rintro x w1 ⟨rfl, hb1⟩
    go_wp2_with fail
    refine (with_spec_inv _ H.out).mono ?_
    rintro x w2 ⟨rfl, hb2⟩
    have hb := below_two hb1 hb2 (Nat.le_refl _)
    clear hb1 hb2
    obtain ⟨hc, hf⟩ := bcell hb
    have hz : w.heap.size < w2.heap.size := by have := hb.size; simp only [World.size_alloc] at this; omega
    go_wp2_with fail
    refine (toSound_any _ _ _ _ _ _).mono ?_
    rintro x w3 ⟨rfl, hb3⟩
    go_wp2_with fail
    refine (with_inv _ H.out).mono ?_
    rintro x w4 ⟨rfl, hb4⟩
    have hbb := below_two hb3 hb4 (Nat.le_refl _)
    clear hb3 hb4
    obtain ⟨hc4, hf4⟩ := bcell hbb
    have hz4 : w2.heap.size < w4.heap.size := by have := hbb.size; simp only [World.size_alloc] at this; omega
    go_wp2_with fail
    refine (eqSound_same _ _ _ _ _ _).mono ?_
    rintro x w5 ⟨rfl, hb5⟩
    go_wp2
    go_ret
    have k1 := ((Below.refl w.heap.size w).alloc (Nat.le_refl _) (.cells #[.int .i64 a, .int .i64 b, .int .i64 c, .int .i64 d, .int .i64 e] 23)).trans (hb.mono (by simp))
    have k2 := k1.alloc k1.size (.cells #[.int .i64 0, .int .i64 0, .int .i64 0, .int .i64 0, .int .i64 0] 25)
    have k3 := k2.trans (hbb.mono k2.size)
    have k4 := k3.alloc k3.size (.cells #[.int .i64 0, .int .i64 0, .int .i64 0, .int .i64 0, .int .i64 0] 25)
    exact ⟨rfl, k4.trans (hb5.mono k4.size)⟩
  cases hk : inB k 1 5
  · have H := Lib.hid h
    have HK := Lib.hid hk
    clear h hk
    go_enter Try.func8, Try.ntmps8
    go_wp2_with fail
    refine (toSound_any _ _ _ _ _ _).mono ?_
    rintro x w1 ⟨rfl, hb1⟩
    go_wp2_with fail
    refine (with_spec_rng _ H.out HK.out).mono ?_
    rintro x w2 ⟨rfl, hb2⟩
    have hb := below_two hb1 hb2 (Nat.le_refl _)
    clear hb1 hb2
    obtain ⟨hc, hf⟩ := bcell hb
    have hz : w.heap.size < w2.heap.size := by have := hb.size; simp only [World.size_alloc] at this; omega
    go_wp2_with fail
    refine (toSound_any _ _ _ _ _ _).mono ?_
    rintro x w3 ⟨rfl, hb3⟩
    go_wp2_with fail
    refine (with_rng _ H.out HK.out).mono ?_
    rintro x w4 ⟨rfl, hb4⟩
    have hbb := below_two hb3 hb4 (Nat.le_refl _)
    clear hb3 hb4
    obtain ⟨hc4, hf4⟩ := bcell hbb
    have hz4 : w2.heap.size < w4.heap.size := by have := hbb.size; simp only [World.size_alloc] at this; omega
    go_wp2_with fail
    refine (eqSound_same _ _ _ _ _ _).mono ?_
    rintro x w5 ⟨rfl, hb5⟩
    go_wp2
    go_ret
    have k1 := ((Below.refl w.heap.size w).alloc (Nat.le_refl _) (.cells #[.int .i64 a, .int .i64 b, .int .i64 c, .int .i64 d, .int .i64 e] 23)).trans (hb.mono (by simp))
    have k2 := k1.alloc k1.size (.cells #[.int .i64 0, .int .i64 0, .int .i64 0, .int .i64 0, .int .i64 0] 25)
    have k3 := k2.trans (hbb.mono k2.size)
    have k4 := k3.alloc k3.size (.cells #[.int .i64 0, .int .i64 0, .int .i64 0, .int .i64 0, .int .i64 0] 25)
    exact ⟨rfl, k4.trans (hb5.mono k4.size)⟩
  obtain ⟨a', b', c', d', e', hu⟩ := upd5_ex (a := a) (b := b) (c := c) (d := d) (e := e) (f := f) hk
  have HU := Lib.hid hu
  clear hu
  cases hn : sB a' b' c' d' e'
  · have H := Lib.hid h
    have HK := Lib.hid hk
    have HN := Lib.hid hn
    clear h hk hn
    go_enter Try.func8, Try.ntmps8
    go_wp2_with fail
    refine (toSound_any _ _ _ _ _ _).mono ?_
    rintro x w1 ⟨rfl, hb1⟩
    go_wp2_with fail
    refine (with_spec_state _ H.out HK.out HU.out HN.out).mono ?_
    rintro x w2 ⟨rfl, hb2⟩
    have hb := below_two hb1 hb2 (Nat.le_refl _)
    clear hb1 hb2
    obtain ⟨hc, hf⟩ := bcell hb
    have hz : w.heap.size < w2.heap.size := by have := hb.size; simp only [World.size_alloc] at this; omega
    go_wp2_with fail
    refine (toSound_any _ _ _ _ _ _).mono ?_
    rintro x w3 ⟨rfl, hb3⟩
    go_wp2_with fail
    refine (with_state _ H.out HK.out HU.out HN.out).mono ?_
    rintro x w4 ⟨rfl, hb4⟩
    have hbb := below_two hb3 hb4 (Nat.le_refl _)
    clear hb3 hb4
    obtain ⟨hc4, hf4⟩ := bcell hbb
    have hz4 : w2.heap.size < w4.heap.size := by have := hbb.size; simp only [World.size_alloc] at this; omega
    go_wp2_with fail
    refine (eqSound_same _ _ _ _ _ _).mono ?_
    rintro x w5 ⟨rfl, hb5⟩
    go_wp2
    go_ret
    have k1 := ((Below.refl w.heap.size w).alloc (Nat.le_refl _) (.cells #[.int .i64 a, .int .i64 b, .int .i64 c, .int .i64 d, .int .i64 e] 23)).trans (hb.mono (by simp))
    have k2 := k1.alloc k1.size (.cells #[.int .i64 0, .int .i64 0, .int .i64 0, .int .i64 0, .int .i64 0] 25)
    have k3 := k2.trans (hbb.mono k2.size)
    have k4 := k3.alloc k3.size (.cells #[.int .i64 0, .int .i64 0, .int .i64 0, .int .i64 0, .int .i64 0] 25)
    exact ⟨rfl, k4.trans (hb5.mono k4.size)⟩
  · have H := Lib.hid h
    have HK := Lib.hid hk
    have HN := Lib.hid hn
    clear h hk hn
    go_enter Try.func8, Try.ntmps8
    go_wp2_with fail
    refine (toSound_any _ _ _ _ _ _).mono ?_
    rintro x w1 ⟨rfl, hb1⟩
    go_wp2_with fail
    refine (with_spec_ok _ H.out HK.out HU.out HN.out).mono ?_
    rintro x w2 ⟨rfl, hb2⟩
    have hb := below_two hb1 hb2 (Nat.le_refl _)
    clear hb1 hb2
    obtain ⟨hc, hf⟩ := bcell hb
    have hz : w.heap.size < w2.heap.size := by have := hb.size; simp only [World.size_alloc] at this; omega
    go_wp2_with fail
    refine (toSound_any _ _ _ _ _ _).mono ?_
    rintro x w3 ⟨rfl, hb3⟩
    go_wp2_with fail
    refine (with_ok _ H.out HK.out HU.out HN.out).mono ?_
    rintro x w4 ⟨rfl, hb4⟩
    have hbb := below_two hb3 hb4 (Nat.le_refl _)
    clear hb3 hb4
    obtain ⟨hc4, hf4⟩ := bcell hbb
    have hz4 : w2.heap.size < w4.heap.size := by have := hbb.size; simp only [World.size_alloc] at this; omega
    go_wp2_with fail
    refine (eqSound_same _ _ _ _ _ _).mono ?_
    rintro x w5 ⟨rfl, hb5⟩
    go_wp2
    go_ret
    have k1 := ((Below.refl w.heap.size w).alloc (Nat.le_refl _) (.cells #[.int .i64 a, .int .i64 b, .int .i64 c, .int .i64 d, .int .i64 e] 23)).trans (hb.mono (by simp))
    have k2 := k1.alloc k1.size (.cells #[.int .i64 a', .int .i64 b', .int .i64 c', .int .i64 d', .int .i64 e'] 25)
    have k3 := k2.trans (hbb.mono k2.size)
    have k4 := k3.alloc k3.size (.cells #[.int .i64 a', .int .i64 b', .int .i64 c', .int .i64 d', .int .i64 e'] 25)
    exact ⟨rfl, k4.trans (hb5.mono k4.size)⟩

set_option maxRecDepth 100000 in
theorem lifted (os : Os) (started : os.Started) (H : Type) (enc : TypeId × Value → H) :
    ReturnsInHanded {} Try.checked os 8 .any (Rows.fnExactWithPartialSpec.pre6 enc Try.prog Try.f8 Rows.fnExactWithPartialRow.domain false) (Rows.fnExactWithPartialSpec.post enc Try.prog Try.f8 false true false false) := by
  refine returnsInHanded_of_change_shaped (C := Try.checked) own started (by kernel_rfl) Try.func8
    (ChangeSpec.witness6 (enc := enc) (C := Try.checked) false ⟨#[], #[.agg #[.int .i64 0, .int .i64 0, .int .i64 0, .int .i64 0, .int .i64 0], .int .i64 0, .int .i64 0], []⟩ 8 (by kernel_rfl) (by kernel_rfl) (by kernel_rfl) (by kernel_rfl)) ?_
  intro W base args ds gs before hval0 hW hcnd0 hsz0 hsh hholds
  have hval : ∀ (j : Nat) t v, Try.f8.params[j]? = some t → args[j]? = some v → Value.okWide Try.prog W .any base t v := hval0
  have hsz : (DataW.weightsEach Try.prog (Try.f8.params.toList ++ Rows.fnExactWithPartialSpec.plain.varTypes Try.prog) (ds ++ gs)).all (· ≤ reachBytes) = true := hsz0
  clear hsz0 hcnd0 hholds hval0
  have hWW := hW
  obtain ⟨p, q, hA0, hV, rfl, hfz, hnd⟩ := hW
  have hA : DataW.TrodAll enc Try.prog W 0 (fun _ => true) true Try.f8.params.toList args.toList ds p := hA0
  clear hA0
  have hlt : ∀ x ∈ p ++ q, x.block < W.heap.size := fun x hx => hWW.lt x hx
  rw [Try.params8] at hA hval hsz
  obtain ⟨v0, vs0, d0, ds0, p0, q0, hargs, rfl, rfl, h0, r0⟩ := trodAll_cons hA
  obtain ⟨v1, vs1, d1, ds1, p1, q1, rfl, rfl, rfl, h1, r1⟩ := trodAll_cons r0
  obtain ⟨v2, vs2, d2, ds2, p2, q2, rfl, rfl, rfl, h2, r2⟩ := trodAll_cons r1
  obtain ⟨rfl, rfl, rfl⟩ := trodAll_nil r2
  obtain rfl : args = #[v0, v1, v2] := by cases args; simp_all
  obtain ⟨rfl, rfl⟩ := trodVars_none hV
  clear hargs hV hfz hnd
  have fin : ∀ W', Below W.heap.size W W' → Rows.fnExactWithPartialSpec.post enc Try.prog Try.f8 false true false false W #[v0, v1, v2] (.bool true) W' := fun W' hb =>
    post_true (tb := 4) (by kernel_rfl) hWW rfl Try.underlying4 rfl rfl rfl rfl hb
  clear hWW
  obtain ⟨a0, b0, c0, d0_, e0, rfl, wa0, wb0, wc0, wd0, we0⟩ := open_sound (hval 0 23 v0 rfl rfl) h0
  obtain ⟨a1, rfl, rfl, rfl, w1⟩ := open_int Try.underlying2 (hval 1 2 v1 rfl rfl) h1
  obtain ⟨a2, rfl, rfl, rfl, w2⟩ := open_int Try.underlying2 (hval 2 2 v2 rfl rfl) h2
  refine (walk a0 b0 c0 d0_ e0 wa0 wb0 wc0 wd0 we0 a1 w1 a2 w2  (w := W)).mono fun e W' ⟨he, hb⟩ => ?_
  subst he
  exact ⟨_, rfl, fin _ hb⟩

/-- The statement. -/
theorem proved : Rows.FnExactWithPartialSaid :=
  OpenClaim.holds_of_wide 8 Try.f8 rfl rfl rfl rfl rfl rfl rfl ⟨rfl, rfl, rfl, rfl, rfl⟩ rfl rfl rfl rfl rfl (by kernel_rfl) Try.func8 (by kernel_rfl)
    (of_decide_eq_true (by kernel_rfl)) (by unfold Func.isWrapper; first | (rw [if_pos (by decide +kernel)]; kernel_rfl) | (rw [if_neg (by decide +kernel)]; exact ⟨rfl, rfl⟩))
    (fun os started H enc _ => lifted os started H enc)
#print axioms proved
end Go.Proofs.Ytajlgclodjgiiaa.fnExactWithPartial
