/- The law FnExactDeviationsOf of the given program holds: for every input it returns true, and its arguments read afterwards as before. No condition. -/
import Derived.Test.YtajlgclodjgiiaaBase
import Derived.Test.YtajlgclodjgiiaaDev
namespace Go.Proofs.Ytajlgclodjgiiaa.fnExactDeviationsOf
open Go.ChangeShapes Go.WideShapes Go.ChangeAt Go.RowKit
set_option linter.unusedVariables false

set_option maxRecDepth 100000 in
set_option maxHeartbeats 2000000 in
theorem walk_of (a b c d e s k : Int) (zs : List Int) (code : Int) (hz : zs.length ≤ 1000) (hS : ∀ w, Calls Try.prog 33 #[.agg #[.int .i64 a, .int .i64 b, .int .i64 c, .int .i64 d, .int .i64 e], .int .i64 s, .int .i64 k] w fun x w' => IntsRet w zs code x w')
    (hI : ∀ w, Calls Try.prog 34 #[.agg #[.int .i64 a, .int .i64 b, .int .i64 c, .int .i64 d, .int .i64 e], .int .i64 s, .int .i64 k] w fun x w' => IntsRet w zs code x w') (w : World) : Calls Try.prog 9 #[.agg #[.int .i64 a, .int .i64 b, .int .i64 c, .int .i64 d, .int .i64 e], .int .i64 s, .int .i64 k] w fun x w' => x = .returned (.bool true) ∧ Below w.heap.size w w' := by
  have hcc : (code == code) = true := by simp
  go_enter Try.func9, Try.ntmps9
  go_wp2_with fail
  refine (toSound_any _ _ _ _ _ _).mono ?_
  rintro x w1 ⟨rfl, hb1⟩
  go_wp2_with fail
  refine (hS _).mono ?_
  rintro x w2 ⟨A0, n0, c0, rfl, ho0, hb2⟩
  have hb := below_two hb1 hb2 (Nat.le_refl _)
  clear hb1 hb2
  obtain ⟨hc, hf⟩ := bcell hb
  have hz2 : w.heap.size < w2.heap.size := by have := hb.size; simp only [World.size_alloc] at this; omega
  have hl2 := hb.size
  go_wp2_with fail
  refine (toSound_any _ _ _ _ _ _).mono ?_
  rintro x w3 ⟨rfl, hb3⟩
  go_wp2_with fail
  refine (hI _).mono ?_
  rintro x w4 ⟨A1, n1, c1, rfl, ho1, hb4⟩
  have hb34 := below_two hb3 hb4 (Nat.le_refl _)
  have hl3 := hb3.size
  have hbb := below_two hb hb34 (Nat.le_refl _)
  have i0 := ((IntsAt.of_own (ownsRow_weaken ho0 (Nat.le_refl _))).below hb34)
  have i1 := IntsAt.of_own ho1
  have ho1' := ownsRow_weaken ho1 hl3
  have hn0 : n0 ≤ 1000 := by rw [← i0.len]; exact hz
  have hn1 : n1 ≤ 1000 := by rw [← i1.len]; exact hz
  have hne := other_row ho0 ho1'
  clear hc hf hb hb3 hb4 hb34 ho0 ho1
  go_wp2_with fail
  refine (eqInt64S_any _ _ _ _ _ _ zs zs _ i1 i0 (by omega) (by omega)).mono ?_
  rw [decide_eq_true (rfl : zs = zs)]
  rintro x w5 ⟨rfl, q, hq⟩
  have hb5 := below_drewN hbb q
  rw [← hq] at hb5
  have j0 : IntsAt w5 A0 n0 zs := by rw [hq]; exact i0
  have o1 : w5.ownsRow w2.heap.size 2 1 (.slice A1 n1 c1) n1 (zs.map (Value.int .i64)) := by rw [hq]; exact ho1'
  clear i0 i1 ho1' hbb hq
  go_wp2_with fail
  refine (mark_any _ _ _ _ _ 1 _ o1 (by omega) (by omega) (by omega)).mono ?_
  rintro x w6 ⟨rfl, o2, hg2⟩
  have k0 : IntsAt w6 A0 n0 zs := CellsAt.grown j0 hg2 hne
  have hb6 := hb5.grown hg2 hb5.size (fun k hk => Nat.le_trans hl2 (o1.lt k hk).1)
  have k2 := IntsAt.of_own o2
  clear o1 j0 hb5 hg2 o2
  have hmm : ((1 + (n1:Int)) == 1 + n1) = true := by simp
  go_wp2_with fail
  refine (held_any _ _ _ 1 _ k2 (by omega) (by omega) (by omega)).mono ?_
  rintro x w' ⟨rfl, rfl⟩
  obtain ⟨hc, hf⟩ := bcell hb6
  have hz6 : w.heap.size < w6.heap.size := by have := hb6.size; simp only [World.size_alloc] at this; omega
  go_wp2_with fail
  refine (toSound_any _ _ _ _ _ _).mono ?_
  rintro x w7 ⟨rfl, hb7⟩
  go_wp2_with fail
  refine (hI _).mono ?_
  rintro x w8 ⟨A2, n2, c2, rfl, ho2, hb8⟩
  have hb78 := below_two hb7 hb8 (Nat.le_refl _)
  have l0 : IntsAt w8 A0 n0 zs := k0.below hb78
  have l1 : IntsAt w8 A1 n1 (marks 1 n1) := k2.below hb78
  have l2 := IntsAt.of_own ho2
  have hn2 : n2 ≤ 1000 := by rw [← l2.len]; exact hz
  have hb9 := below_two hb6 hb78 (Nat.le_refl _)
  clear hc hf k0 k2 ho2 hb6 hb7 hb8 hb78
  go_wp2_with fail
  refine (eqInt64S_any _ _ _ _ _ _ zs zs _ l2 l0 (by omega) (by omega)).mono ?_
  rw [decide_eq_true (rfl : zs = zs)]
  rintro x w10 ⟨rfl, q, hq⟩
  have m1 : IntsAt w10 A1 n1 (marks 1 n1) := by rw [hq]; exact l1
  have hb10 := below_drewN hb9 q
  rw [← hq] at hb10
  clear hq l0 l1 l2 hb9
  go_wp2_with fail
  refine (held_any _ _ _ 1 _ m1 (by omega) (by omega) (by omega)).mono ?_
  rintro x w' ⟨rfl, rfl⟩
  go_wp2
  go_ret
  exact ⟨rfl, box_below hb10⟩
theorem walk (a b c d e : Int) (wa : (Lit.int .i64 a).wf = true) (wb : (Lit.int .i64 b).wf = true) (wc : (Lit.int .i64 c).wf = true) (wd : (Lit.int .i64 d).wf = true) (we : (Lit.int .i64 e).wf = true) (s : Int) (ws : (Lit.int .i64 s).wf = true) (k : Int) (wk : (Lit.int .i64 k).wf = true) (w : World) : Calls Try.prog 9 #[.agg #[.int .i64 a, .int .i64 b, .int .i64 c, .int .i64 d, .int .i64 e], .int .i64 s, .int .i64 k] w fun x w' => x = .returned (.bool true) ∧ Below w.heap.size w w' := by
  cases h : sB a b c d e
  · exact walk_of a b c d e s k [] 1 (by simp) (fun w => DevOf_spec_inv w h) (fun w => DevOf_inv w h) w
  cases h1 : inB s 10000 20000000
  · exact walk_of a b c d e s k [] 2 (by simp) (fun w => DevOf_spec_rng w h (.inl h1)) (fun w => DevOf_rng w h (.inl h1)) w
  cases h2 : inB k 1 2
  · exact walk_of a b c d e s k [] 2 (by simp) (fun w => DevOf_spec_rng w h (.inr ⟨h1, h2⟩)) (fun w => DevOf_rng w h (.inr ⟨h1, h2⟩)) w
  · exact walk_of a b c d e s k _ 0 (by simp [devU]) (fun w => DevOf_spec_ok w h h1 h2) (fun w => DevOf_ok w h h1 h2) w

set_option maxRecDepth 100000 in
theorem lifted (os : Os) (started : os.Started) (H : Type) (enc : TypeId × Value → H) :
    ReturnsInHanded {} Try.checked os 9 .any (Rows.fnExactDeviationsOfSpec.pre6 enc Try.prog Try.f9 Rows.fnExactDeviationsOfRow.domain false) (Rows.fnExactDeviationsOfSpec.post enc Try.prog Try.f9 false true false false) := by
  refine returnsInHanded_of_change_shaped (C := Try.checked) own started (by kernel_rfl) Try.func9
    (ChangeSpec.witness6 (enc := enc) (C := Try.checked) false ⟨#[], #[.agg #[.int .i64 0, .int .i64 0, .int .i64 0, .int .i64 0, .int .i64 0], .int .i64 0, .int .i64 0], []⟩ 8 (by kernel_rfl) (by kernel_rfl) (by kernel_rfl) (by kernel_rfl)) ?_
  intro W base args ds gs before hval0 hW hcnd0 hsz0 hsh hholds
  have hval : ∀ (j : Nat) t v, Try.f9.params[j]? = some t → args[j]? = some v → Value.okWide Try.prog W .any base t v := hval0
  have hsz : (DataW.weightsEach Try.prog (Try.f9.params.toList ++ Rows.fnExactDeviationsOfSpec.plain.varTypes Try.prog) (ds ++ gs)).all (· ≤ reachBytes) = true := hsz0
  clear hsz0 hcnd0 hholds hval0
  have hWW := hW
  obtain ⟨p, q, hA0, hV, rfl, hfz, hnd⟩ := hW
  have hA : DataW.TrodAll enc Try.prog W 0 (fun _ => true) true Try.f9.params.toList args.toList ds p := hA0
  clear hA0
  have hlt : ∀ x ∈ p ++ q, x.block < W.heap.size := fun x hx => hWW.lt x hx
  rw [Try.params9] at hA hval hsz
  obtain ⟨v0, vs0, d0, ds0, p0, q0, hargs, rfl, rfl, h0, r0⟩ := trodAll_cons hA
  obtain ⟨v1, vs1, d1, ds1, p1, q1, rfl, rfl, rfl, h1, r1⟩ := trodAll_cons r0
  obtain ⟨v2, vs2, d2, ds2, p2, q2, rfl, rfl, rfl, h2, r2⟩ := trodAll_cons r1
  obtain ⟨rfl, rfl, rfl⟩ := trodAll_nil r2
  obtain rfl : args = #[v0, v1, v2] := by cases args; simp_all
  obtain ⟨rfl, rfl⟩ := trodVars_none hV
  clear hargs hV hfz hnd
  have fin : ∀ W', Below W.heap.size W W' → Rows.fnExactDeviationsOfSpec.post enc Try.prog Try.f9 false true false false W #[v0, v1, v2] (.bool true) W' := fun W' hb =>
    post_true (tb := 4) (by kernel_rfl) hWW rfl Try.underlying4 rfl rfl rfl rfl hb
  clear hWW
  obtain ⟨a0, b0, c0, d0_, e0, rfl, wa0, wb0, wc0, wd0, we0⟩ := open_sound (hval 0 23 v0 rfl rfl) h0
  obtain ⟨a1, rfl, rfl, rfl, w1⟩ := open_int Try.underlying2 (hval 1 2 v1 rfl rfl) h1
  obtain ⟨a2, rfl, rfl, rfl, w2⟩ := open_int Try.underlying2 (hval 2 2 v2 rfl rfl) h2
  refine (walk a0 b0 c0 d0_ e0 wa0 wb0 wc0 wd0 we0 a1 w1 a2 w2  (w := W)).mono fun e W' ⟨he, hb⟩ => ?_
  subst he
  exact ⟨_, rfl, fin _ hb⟩

/-- The statement. -/
theorem proved : Rows.FnExactDeviationsOfSaid :=
  OpenClaim.holds_of_wide 9 Try.f9 rfl rfl rfl rfl rfl rfl rfl ⟨rfl, rfl, rfl, rfl, rfl⟩ rfl rfl rfl rfl rfl (by kernel_rfl) Try.func9 (by kernel_rfl)
    (of_decide_eq_true (by kernel_rfl)) (by unfold Func.isWrapper; first | (rw [if_pos (by decide +kernel)]; kernel_rfl) | (rw [if_neg (by decide +kernel)]; exact ⟨rfl, rfl⟩))
    (fun os started H enc _ => lifted os started H enc)
#print axioms proved
end Go.Proofs.Ytajlgclodjgiiaa.fnExactDeviationsOf
