/- The law FnExactShiftSound of the given program holds: for every input it returns true, and its arguments read afterwards as before. No condition. -/
import Derived.Test.YtajlgclodjgiiaaBase
import Derived.Test.YtajlgclodjgiiaaShiftT
import Derived.Test.YtajlgclodjgiiaaSoundE
namespace Go.Proofs.Ytajlgclodjgiiaa.fnExactShiftSound
open Go.ChangeShapes Go.WideShapes Go.ChangeAt Go.RowKit
set_option linter.unusedVariables false

set_option maxRecDepth 100000 in
set_option maxHeartbeats 2000000 in
theorem walk (a b c d e : Int) (wa : (Lit.int .i64 a).wf = true) (wb : (Lit.int .i64 b).wf = true) (wc : (Lit.int .i64 c).wf = true) (wd : (Lit.int .i64 d).wf = true) (we : (Lit.int .i64 e).wf = true) (t : Int) (wt : (Lit.int .i64 t).wf = true) (w : World) : Calls Try.prog 12 #[.agg #[.int .i64 a, .int .i64 b, .int .i64 c, .int .i64 d, .int .i64 e], .int .i64 t] w fun x w' => x = .returned (.bool true) ∧ Below w.heap.size w w' := by
  clear wa wb wc wd we wt
  cases h : sB a b c d e
  · have H := Lib.hid h
    clear h
    go_enter Try.func12, Try.ntmps12
    go_wp2_with fail
    refine (toSound_any _ _ _ _ _ _).mono ?_
    rintro x w1 ⟨rfl, hb1⟩
    go_wp2_with fail
    refine (ShiftS_spec_inv _ H.out).mono ?_
    rintro x w2 ⟨rfl, hb2⟩
    have hb := below_two hb1 hb2 (Nat.le_refl _)
    clear hb1 hb2
    obtain ⟨hc, hf⟩ := bcell hb
    have hz : w.heap.size < w2.heap.size := by have := hb.size; simp only [World.size_alloc] at this; omega
    go_wp2_with fail
    refine (toSound_any _ _ _ _ _ _).mono ?_
    rintro x w3 ⟨rfl, hb3⟩
    go_wp2_with fail
    refine (ShiftS_inv _ H.out).mono ?_
    rintro x w4 ⟨rfl, hb4⟩
    have hbb := below_two hb3 hb4 (Nat.le_refl _)
    clear hb3 hb4
    obtain ⟨hc4, hf4⟩ := bcell hbb
    have hz4 : w2.heap.size < w4.heap.size := by have := hbb.size; simp only [World.size_alloc] at this; omega
    go_wp2_with fail
    refine (eqSound_same _ _ _ _ _ _).mono ?_
    rintro x w5 ⟨rfl, hb5⟩
    go_wp2
    go_ret
    have k1 := ((Below.refl w.heap.size w).alloc (Nat.le_refl _) (.cells #[.int .i64 a, .int .i64 b, .int .i64 c, .int .i64 d, .int .i64 e] 23)).trans (hb.mono (by simp))
    have k2 := k1.alloc k1.size (.cells #[.int .i64 0, .int .i64 0, .int .i64 0, .int .i64 0, .int .i64 0] 25)
    have k3 := k2.trans (hbb.mono k2.size)
    have k4 := k3.alloc k3.size (.cells #[.int .i64 0, .int .i64 0, .int .i64 0, .int .i64 0, .int .i64 0] 25)
    exact ⟨rfl, k4.trans (hb5.mono k4.size)⟩
  cases ht : inB t (-120000) 120000
  · have H := Lib.hid h
    have HT := Lib.hid ht
    clear h ht
    go_enter Try.func12, Try.ntmps12
    go_wp2_with fail
    refine (toSound_any _ _ _ _ _ _).mono ?_
    rintro x w1 ⟨rfl, hb1⟩
    go_wp2_with fail
    refine (ShiftS_spec_rng _ H.out HT.out).mono ?_
    rintro x w2 ⟨rfl, hb2⟩
    have hb := below_two hb1 hb2 (Nat.le_refl _)
    clear hb1 hb2
    obtain ⟨hc, hf⟩ := bcell hb
    have hz : w.heap.size < w2.heap.size := by have := hb.size; simp only [World.size_alloc] at this; omega
    go_wp2_with fail
    refine (toSound_any _ _ _ _ _ _).mono ?_
    rintro x w3 ⟨rfl, hb3⟩
    go_wp2_with fail
    refine (ShiftS_out _ H.out (shift_out HT.out)).mono ?_
    rintro x w4 ⟨rfl, hb4⟩
    have hbb := below_two hb3 hb4 (Nat.le_refl _)
    clear hb3 hb4
    obtain ⟨hc4, hf4⟩ := bcell hbb
    have hz4 : w2.heap.size < w4.heap.size := by have := hbb.size; simp only [World.size_alloc] at this; omega
    go_wp2_with fail
    refine (eqSound_same _ _ _ _ _ _).mono ?_
    rintro x w5 ⟨rfl, hb5⟩
    go_wp2
    go_ret
    have k1 := ((Below.refl w.heap.size w).alloc (Nat.le_refl _) (.cells #[.int .i64 a, .int .i64 b, .int .i64 c, .int .i64 d, .int .i64 e] 23)).trans (hb.mono (by simp))
    have k2 := k1.alloc k1.size (.cells #[.int .i64 0, .int .i64 0, .int .i64 0, .int .i64 0, .int .i64 0] 25)
    have k3 := k2.trans (hbb.mono k2.size)
    have k4 := k3.alloc k3.size (.cells #[.int .i64 0, .int .i64 0, .int .i64 0, .int .i64 0, .int .i64 0] 25)
    exact ⟨rfl, k4.trans (hb5.mono k4.size)⟩
  cases hr : raisedB [a, b, c, d, e] [t, t, t, t, t] 5
  · have H := Lib.hid h
    have HT := Lib.hid ht
    have HR := Lib.hid hr
    clear h ht hr
    go_enter Try.func12, Try.ntmps12
    go_wp2_with fail
    refine (toSound_any _ _ _ _ _ _).mono ?_
    rintro x w1 ⟨rfl, hb1⟩
    go_wp2_with fail
    refine (ShiftS_spec_out _ H.out HT.out HR.out).mono ?_
    rintro x w2 ⟨rfl, hb2⟩
    have hb := below_two hb1 hb2 (Nat.le_refl _)
    clear hb1 hb2
    obtain ⟨hc, hf⟩ := bcell hb
    have hz : w.heap.size < w2.heap.size := by have := hb.size; simp only [World.size_alloc] at this; omega
    go_wp2_with fail
    refine (toSound_any _ _ _ _ _ _).mono ?_
    rintro x w3 ⟨rfl, hb3⟩
    go_wp2_with fail
    refine (ShiftS_out _ H.out HR.out).mono ?_
    rintro x w4 ⟨rfl, hb4⟩
    have hbb := below_two hb3 hb4 (Nat.le_refl _)
    clear hb3 hb4
    obtain ⟨hc4, hf4⟩ := bcell hbb
    have hz4 : w2.heap.size < w4.heap.size := by have := hbb.size; simp only [World.size_alloc] at this; omega
    go_wp2_with fail
    refine (eqSound_same _ _ _ _ _ _).mono ?_
    rintro x w5 ⟨rfl, hb5⟩
    go_wp2
    go_ret
    have k1 := ((Below.refl w.heap.size w).alloc (Nat.le_refl _) (.cells #[.int .i64 a, .int .i64 b, .int .i64 c, .int .i64 d, .int .i64 e] 23)).trans (hb.mono (by simp))
    have k2 := k1.alloc k1.size (.cells #[.int .i64 0, .int .i64 0, .int .i64 0, .int .i64 0, .int .i64 0] 25)
    have k3 := k2.trans (hbb.mono k2.size)
    have k4 := k3.alloc k3.size (.cells #[.int .i64 0, .int .i64 0, .int .i64 0, .int .i64 0, .int .i64 0] 25)
    exact ⟨rfl, k4.trans (hb5.mono k4.size)⟩
  obtain ⟨fs, hfs⟩ : ∃ fs, [a, b, c, d, e] = fs := ⟨_, rfl⟩
  obtain ⟨ts, hts⟩ : ∃ ts, [t, t, t, t, t] = ts := ⟨_, rfl⟩
  have HF := Lib.hid hfs
  have HS := Lib.hid hts
  rw [hfs, hts] at hr
  clear hfs hts
  cases hn : sB (rG fs ts 0) (rG fs ts 1) (rG fs ts 2) (rG fs ts 3) (rG fs ts 4)
  · have H := Lib.hid h
    have HT := Lib.hid ht
    have HR := Lib.hid hr
    have HN := Lib.hid hn
    clear h ht hr hn
    go_enter Try.func12, Try.ntmps12
    go_wp2_with fail
    refine (toSound_any _ _ _ _ _ _).mono ?_
    rintro x w1 ⟨rfl, hb1⟩
    go_wp2_with fail
    refine (ShiftS_spec_state _ H.out HT.out HF.out HS.out HR.out HN.out).mono ?_
    rintro x w2 ⟨rfl, hb2⟩
    have hb := below_two hb1 hb2 (Nat.le_refl _)
    clear hb1 hb2
    obtain ⟨hc, hf⟩ := bcell hb
    have hz : w.heap.size < w2.heap.size := by have := hb.size; simp only [World.size_alloc] at this; omega
    go_wp2_with fail
    refine (toSound_any _ _ _ _ _ _).mono ?_
    rintro x w3 ⟨rfl, hb3⟩
    go_wp2_with fail
    refine (ShiftS_state _ H.out HF.out HS.out HR.out HN.out).mono ?_
    rintro x w4 ⟨rfl, hb4⟩
    have hbb := below_two hb3 hb4 (Nat.le_refl _)
    clear hb3 hb4
    obtain ⟨hc4, hf4⟩ := bcell hbb
    have hz4 : w2.heap.size < w4.heap.size := by have := hbb.size; simp only [World.size_alloc] at this; omega
    go_wp2_with fail
    refine (eqSound_same _ _ _ _ _ _).mono ?_
    rintro x w5 ⟨rfl, hb5⟩
    go_wp2
    go_ret
    have k1 := ((Below.refl w.heap.size w).alloc (Nat.le_refl _) (.cells #[.int .i64 a, .int .i64 b, .int .i64 c, .int .i64 d, .int .i64 e] 23)).trans (hb.mono (by simp))
    have k2 := k1.alloc k1.size (.cells #[.int .i64 0, .int .i64 0, .int .i64 0, .int .i64 0, .int .i64 0] 25)
    have k3 := k2.trans (hbb.mono k2.size)
    have k4 := k3.alloc k3.size (.cells #[.int .i64 0, .int .i64 0, .int .i64 0, .int .i64 0, .int .i64 0] 25)
    exact ⟨rfl, k4.trans (hb5.mono k4.size)⟩
  · have H := Lib.hid h
    have HT := Lib.hid ht
    have HR := Lib.hid hr
    have HN := Lib.hid hn
    clear h ht hr hn
    go_enter Try.func12, Try.ntmps12
    go_wp2_with fail
    refine (toSound_any _ _ _ _ _ _).mono ?_
    rintro x w1 ⟨rfl, hb1⟩
    go_wp2_with fail
    refine (ShiftS_spec_ok _ H.out HT.out HF.out HS.out HR.out HN.out).mono ?_
    rintro x w2 ⟨rfl, hb2⟩
    have hb := below_two hb1 hb2 (Nat.le_refl _)
    clear hb1 hb2
    obtain ⟨hc, hf⟩ := bcell hb
    have hz : w.heap.size < w2.heap.size := by have := hb.size; simp only [World.size_alloc] at this; omega
    go_wp2_with fail
    refine (toSound_any _ _ _ _ _ _).mono ?_
    rintro x w3 ⟨rfl, hb3⟩
    go_wp2_with fail
    refine (ShiftS_ok _ H.out HF.out HS.out HR.out HN.out).mono ?_
    rintro x w4 ⟨rfl, hb4⟩
    have hbb := below_two hb3 hb4 (Nat.le_refl _)
    clear hb3 hb4
    obtain ⟨hc4, hf4⟩ := bcell hbb
    have hz4 : w2.heap.size < w4.heap.size := by have := hbb.size; simp only [World.size_alloc] at this; omega
    go_wp2_with fail
    refine (eqSound_same _ _ _ _ _ _).mono ?_
    rintro x w5 ⟨rfl, hb5⟩
    go_wp2
    go_ret
    have k1 := ((Below.refl w.heap.size w).alloc (Nat.le_refl _) (.cells #[.int .i64 a, .int .i64 b, .int .i64 c, .int .i64 d, .int .i64 e] 23)).trans (hb.mono (by simp))
    have k2 := k1.alloc k1.size (.cells #[.int .i64 (rG fs ts 0), .int .i64 (rG fs ts 1), .int .i64 (rG fs ts 2), .int .i64 (rG fs ts 3), .int .i64 (rG fs ts 4)] 25)
    have k3 := k2.trans (hbb.mono k2.size)
    have k4 := k3.alloc k3.size (.cells #[.int .i64 (rG fs ts 0), .int .i64 (rG fs ts 1), .int .i64 (rG fs ts 2), .int .i64 (rG fs ts 3), .int .i64 (rG fs ts 4)] 25)
    exact ⟨rfl, k4.trans (hb5.mono k4.size)⟩

set_option maxRecDepth 100000 in
theorem lifted (os : Os) (started : os.Started) (H : Type) (enc : TypeId × Value → H) :
    ReturnsInHanded {} Try.checked os 12 .any (Rows.fnExactShiftSoundSpec.pre6 enc Try.prog Try.f12 Rows.fnExactShiftSoundRow.domain false) (Rows.fnExactShiftSoundSpec.post enc Try.prog Try.f12 false true false false) := by
  refine returnsInHanded_of_change_shaped (C := Try.checked) own started (by kernel_rfl) Try.func12
    (ChangeSpec.witness6 (enc := enc) (C := Try.checked) false ⟨#[], #[.agg #[.int .i64 0, .int .i64 0, .int .i64 0, .int .i64 0, .int .i64 0], .int .i64 0], []⟩ 8 (by kernel_rfl) (by kernel_rfl) (by kernel_rfl) (by kernel_rfl)) ?_
  intro W base args ds gs before hval0 hW hcnd0 hsz0 hsh hholds
  have hval : ∀ (j : Nat) t v, Try.f12.params[j]? = some t → args[j]? = some v → Value.okWide Try.prog W .any base t v := hval0
  have hsz : (DataW.weightsEach Try.prog (Try.f12.params.toList ++ Rows.fnExactShiftSoundSpec.plain.varTypes Try.prog) (ds ++ gs)).all (· ≤ reachBytes) = true := hsz0
  clear hsz0 hcnd0 hholds hval0
  have hWW := hW
  obtain ⟨p, q, hA0, hV, rfl, hfz, hnd⟩ := hW
  have hA : DataW.TrodAll enc Try.prog W 0 (fun _ => true) true Try.f12.params.toList args.toList ds p := hA0
  clear hA0
  have hlt : ∀ x ∈ p ++ q, x.block < W.heap.size := fun x hx => hWW.lt x hx
  rw [Try.params12] at hA hval hsz
  obtain ⟨v0, vs0, d0, ds0, p0, q0, hargs, rfl, rfl, h0, r0⟩ := trodAll_cons hA
  obtain ⟨v1, vs1, d1, ds1, p1, q1, rfl, rfl, rfl, h1, r1⟩ := trodAll_cons r0
  obtain ⟨rfl, rfl, rfl⟩ := trodAll_nil r1
  obtain rfl : args = #[v0, v1] := by cases args; simp_all
  obtain ⟨rfl, rfl⟩ := trodVars_none hV
  clear hargs hV hfz hnd
  have fin : ∀ W', Below W.heap.size W W' → Rows.fnExactShiftSoundSpec.post enc Try.prog Try.f12 false true false false W #[v0, v1] (.bool true) W' := fun W' hb =>
    post_true (tb := 4) (by kernel_rfl) hWW rfl Try.underlying4 rfl rfl rfl rfl hb
  clear hWW
  obtain ⟨a0, b0, c0, d0_, e0, rfl, wa0, wb0, wc0, wd0, we0⟩ := open_sound (hval 0 23 v0 rfl rfl) h0
  obtain ⟨a1, rfl, rfl, rfl, w1⟩ := open_int Try.underlying2 (hval 1 2 v1 rfl rfl) h1
  refine (walk a0 b0 c0 d0_ e0 wa0 wb0 wc0 wd0 we0 a1 w1  (w := W)).mono fun e W' ⟨he, hb⟩ => ?_
  subst he
  exact ⟨_, rfl, fin _ hb⟩

/-- The statement. -/
theorem proved : Rows.FnExactShiftSoundSaid :=
  OpenClaim.holds_of_wide 12 Try.f12 rfl rfl rfl rfl rfl rfl rfl ⟨rfl, rfl, rfl, rfl, rfl⟩ rfl rfl rfl rfl rfl (by kernel_rfl) Try.func12 (by kernel_rfl)
    (of_decide_eq_true (by kernel_rfl)) (by unfold Func.isWrapper; first | (rw [if_pos (by decide +kernel)]; kernel_rfl) | (rw [if_neg (by decide +kernel)]; exact ⟨rfl, rfl⟩))
    (fun os started H enc _ => lifted os started H enc)
#print axioms proved
end Go.Proofs.Ytajlgclodjgiiaa.fnExactShiftSound
