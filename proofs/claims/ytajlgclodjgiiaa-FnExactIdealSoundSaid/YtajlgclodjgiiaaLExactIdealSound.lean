/- The law FnExactIdealSound of the given program holds: for every input it returns true, and its arguments read afterwards as before. No condition. -/
import Derived.Test.YtajlgclodjgiiaaBase
import Derived.Test.YtajlgclodjgiiaaIdealS
import Derived.Test.YtajlgclodjgiiaaSoundE
namespace Go.Proofs.Ytajlgclodjgiiaa.fnExactIdealSound
open Go.ChangeShapes Go.WideShapes Go.ChangeAt Go.RowKit
set_option linter.unusedVariables false

set_option maxRecDepth 100000 in
set_option maxHeartbeats 2000000 in
theorem walk (s : Int) (ws : (Lit.int .i64 s).wf = true) (k : Int) (wk : (Lit.int .i64 k).wf = true) (w : World) : Calls Try.prog 10 #[.int .i64 s, .int .i64 k] w fun x w' => x = .returned (.bool true) ∧ Below w.heap.size w w' := by
  clear ws wk
  cases h1 : inB s 10000 20000000
  · have H1 := Lib.hid h1
    clear h1
    go_enter Try.func10, Try.ntmps10
    go_wp2_with fail
    refine (IdealS_spec_no _ (.inl H1.out)).mono ?_
    rintro x w2 ⟨rfl, hb2⟩
    have hl2 := hb2.size
    go_wp2_with fail
    refine (IdealS_no _ (.inl H1.out)).mono ?_
    rintro x w4 ⟨rfl, hb4⟩
    obtain ⟨hc4, hf4⟩ := bcell hb4
    have hl4 := hb4.size
    simp only [World.size_alloc] at hl4
    have hz4 : w2.heap.size < w4.heap.size := by omega
    go_wp2_with fail
    refine (eqSound_same _ _ _ _ _ _).mono ?_
    rintro x w5 ⟨rfl, hb5⟩
    go_wp2
    go_ret
    have k2 := hb2.alloc hl2 (.cells #[.int .i64 0, .int .i64 0, .int .i64 0, .int .i64 0, .int .i64 0] 25)
    have k3 := k2.trans (hb4.mono k2.size)
    have k4 := k3.alloc k3.size (.cells #[.int .i64 0, .int .i64 0, .int .i64 0, .int .i64 0, .int .i64 0] 25)
    exact ⟨rfl, k4.trans (hb5.mono k4.size)⟩
  cases h2 : inB k 1 2
  · have H1 := Lib.hid h1
    clear h1
    have H2 := Lib.hid h2
    clear h2
    go_enter Try.func10, Try.ntmps10
    go_wp2_with fail
    refine (IdealS_spec_no _ (.inr ⟨H1.out, H2.out⟩)).mono ?_
    rintro x w2 ⟨rfl, hb2⟩
    have hl2 := hb2.size
    go_wp2_with fail
    refine (IdealS_no _ (.inr ⟨H1.out, H2.out⟩)).mono ?_
    rintro x w4 ⟨rfl, hb4⟩
    obtain ⟨hc4, hf4⟩ := bcell hb4
    have hl4 := hb4.size
    simp only [World.size_alloc] at hl4
    have hz4 : w2.heap.size < w4.heap.size := by omega
    go_wp2_with fail
    refine (eqSound_same _ _ _ _ _ _).mono ?_
    rintro x w5 ⟨rfl, hb5⟩
    go_wp2
    go_ret
    have k2 := hb2.alloc hl2 (.cells #[.int .i64 0, .int .i64 0, .int .i64 0, .int .i64 0, .int .i64 0] 25)
    have k3 := k2.trans (hb4.mono k2.size)
    have k4 := k3.alloc k3.size (.cells #[.int .i64 0, .int .i64 0, .int .i64 0, .int .i64 0, .int .i64 0] 25)
    exact ⟨rfl, k4.trans (hb5.mono k4.size)⟩
  cases hr : raisedB [s, s, s, s, s] (idealL k) 5
  · have H1 := Lib.hid h1
    have H2 := Lib.hid h2
    have HR := Lib.hid hr
    clear h1 h2 hr
    go_enter Try.func10, Try.ntmps10
    go_wp2_with fail
    refine (IdealS_spec_out _ H1.out H2.out HR.out).mono ?_
    rintro x w2 ⟨rfl, hb2⟩
    have hl2 := hb2.size
    go_wp2_with fail
    refine (IdealS_out _ H1.out H2.out HR.out).mono ?_
    rintro x w4 ⟨rfl, hb4⟩
    obtain ⟨hc4, hf4⟩ := bcell hb4
    have hl4 := hb4.size
    simp only [World.size_alloc] at hl4
    have hz4 : w2.heap.size < w4.heap.size := by omega
    go_wp2_with fail
    refine (eqSound_same _ _ _ _ _ _).mono ?_
    rintro x w5 ⟨rfl, hb5⟩
    go_wp2
    go_ret
    have k2 := hb2.alloc hl2 (.cells #[.int .i64 0, .int .i64 0, .int .i64 0, .int .i64 0, .int .i64 0] 25)
    have k3 := k2.trans (hb4.mono k2.size)
    have k4 := k3.alloc k3.size (.cells #[.int .i64 0, .int .i64 0, .int .i64 0, .int .i64 0, .int .i64 0] 25)
    exact ⟨rfl, k4.trans (hb5.mono k4.size)⟩
  · obtain ⟨fs, hfs⟩ : ∃ fs, [s, s, s, s, s] = fs := ⟨_, rfl⟩
    obtain ⟨ts, hts⟩ : ∃ ts, idealL k = ts := ⟨_, rfl⟩
    rw [hfs, hts] at hr
    have HF := Lib.hid hfs
    have HT := Lib.hid hts
    clear hfs hts
    have H1 := Lib.hid h1
    have H2 := Lib.hid h2
    have HR := Lib.hid hr
    clear h1 h2 hr
    go_enter Try.func10, Try.ntmps10
    go_wp2_with fail
    refine (IdealS_spec_ok _ H1.out H2.out HF.out HT.out HR.out).mono ?_
    rintro x w2 ⟨rfl, hb2⟩
    have hl2 := hb2.size
    go_wp2_with fail
    refine (IdealS_ok _ H1.out H2.out HF.out HT.out HR.out).mono ?_
    rintro x w4 ⟨rfl, hb4⟩
    obtain ⟨hc4, hf4⟩ := bcell hb4
    have hl4 := hb4.size
    simp only [World.size_alloc] at hl4
    have hz4 : w2.heap.size < w4.heap.size := by omega
    go_wp2_with fail
    refine (eqSound_same _ _ _ _ _ _).mono ?_
    rintro x w5 ⟨rfl, hb5⟩
    go_wp2
    go_ret
    have k2 := hb2.alloc hl2 (.cells #[.int .i64 (rG fs ts 0), .int .i64 (rG fs ts 1), .int .i64 (rG fs ts 2), .int .i64 (rG fs ts 3), .int .i64 (rG fs ts 4)] 25)
    have k3 := k2.trans (hb4.mono k2.size)
    have k4 := k3.alloc k3.size (.cells #[.int .i64 (rG fs ts 0), .int .i64 (rG fs ts 1), .int .i64 (rG fs ts 2), .int .i64 (rG fs ts 3), .int .i64 (rG fs ts 4)] 25)
    exact ⟨rfl, k4.trans (hb5.mono k4.size)⟩

set_option maxRecDepth 100000 in
theorem lifted (os : Os) (started : os.Started) (H : Type) (enc : TypeId × Value → H) :
    ReturnsInHanded {} Try.checked os 10 .any (Rows.fnExactIdealSoundSpec.pre6 enc Try.prog Try.f10 Rows.fnExactIdealSoundRow.domain false) (Rows.fnExactIdealSoundSpec.post enc Try.prog Try.f10 false true false false) := by
  refine returnsInHanded_of_change_shaped (C := Try.checked) own started (by kernel_rfl) Try.func10
    (ChangeSpec.witness6 (enc := enc) (C := Try.checked) false ⟨#[], #[.int .i64 0, .int .i64 0], []⟩ 8 (by kernel_rfl) (by kernel_rfl) (by kernel_rfl) (by kernel_rfl)) ?_
  intro W base args ds gs before hval0 hW hcnd0 hsz0 hsh hholds
  have hval : ∀ (j : Nat) t v, Try.f10.params[j]? = some t → args[j]? = some v → Value.okWide Try.prog W .any base t v := hval0
  have hsz : (DataW.weightsEach Try.prog (Try.f10.params.toList ++ Rows.fnExactIdealSoundSpec.plain.varTypes Try.prog) (ds ++ gs)).all (· ≤ reachBytes) = true := hsz0
  clear hsz0 hcnd0 hholds hval0
  have hWW := hW
  obtain ⟨p, q, hA0, hV, rfl, hfz, hnd⟩ := hW
  have hA : DataW.TrodAll enc Try.prog W 0 (fun _ => true) true Try.f10.params.toList args.toList ds p := hA0
  clear hA0
  have hlt : ∀ x ∈ p ++ q, x.block < W.heap.size := fun x hx => hWW.lt x hx
  rw [Try.params10] at hA hval hsz
  obtain ⟨v0, vs0, d0, ds0, p0, q0, hargs, rfl, rfl, h0, r0⟩ := trodAll_cons hA
  obtain ⟨v1, vs1, d1, ds1, p1, q1, rfl, rfl, rfl, h1, r1⟩ := trodAll_cons r0
  obtain ⟨rfl, rfl, rfl⟩ := trodAll_nil r1
  obtain rfl : args = #[v0, v1] := by cases args; simp_all
  obtain ⟨rfl, rfl⟩ := trodVars_none hV
  clear hargs hV hfz hnd
  have fin : ∀ W', Below W.heap.size W W' → Rows.fnExactIdealSoundSpec.post enc Try.prog Try.f10 false true false false W #[v0, v1] (.bool true) W' := fun W' hb =>
    post_true (tb := 4) (by kernel_rfl) hWW rfl Try.underlying4 rfl rfl rfl rfl hb
  clear hWW
  obtain ⟨a0, rfl, rfl, rfl, w0⟩ := open_int Try.underlying2 (hval 0 2 v0 rfl rfl) h0
  obtain ⟨a1, rfl, rfl, rfl, w1⟩ := open_int Try.underlying2 (hval 1 2 v1 rfl rfl) h1
  refine (walk a0 w0 a1 w1  (w := W)).mono fun e W' ⟨he, hb⟩ => ?_
  subst he
  exact ⟨_, rfl, fin _ hb⟩

/-- The statement. -/
theorem proved : Rows.FnExactIdealSoundSaid :=
  OpenClaim.holds_of_wide 10 Try.f10 rfl rfl rfl rfl rfl rfl rfl ⟨rfl, rfl, rfl, rfl, rfl⟩ rfl rfl rfl rfl rfl (by kernel_rfl) Try.func10 (by kernel_rfl)
    (of_decide_eq_true (by kernel_rfl)) (by unfold Func.isWrapper; first | (rw [if_pos (by decide +kernel)]; kernel_rfl) | (rw [if_neg (by decide +kernel)]; exact ⟨rfl, rfl⟩))
    (fun os started H enc _ => lifted os started H enc)
#print axioms proved
end Go.Proofs.Ytajlgclodjgiiaa.fnExactIdealSound
