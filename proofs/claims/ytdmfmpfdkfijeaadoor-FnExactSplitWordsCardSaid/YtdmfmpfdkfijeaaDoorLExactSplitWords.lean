/- The law FnExactSplitWords of the given program holds: for every input it returns true, and its arguments read afterwards as before. No condition. -/
import Derived.Test.YtdmfmpfdkfijeaaDoorBase
import Derived.LaidMore
import Derived.Lay
import Derived.Stop.Joined
import Derived.SevenTiedAt
import Derived.Test.YtdmfmpfdkfijeaaDoorCards
import Derived.Test.YtdmfmpfdkfijeaaDoorTie
import Derived.Test.YtdmfmpfdkfijeaaDoorWords
import Derived.Test.YtdmfmpfdkfijeaaDoorMarkS
import Derived.Test.YtdmfmpfdkfijeaaDoorTail
namespace Go.Proofs.YtdmfmpfdkfijeaaDoor.fnExactSplitWords
open Go.ChangeShapes Go.WideShapes Go.ChangeAt Go.RowKit
set_option maxRecDepth 100000
set_option linter.unusedVariables false

theorem own_map (A : Option Addr) (n c : Nat) : A.map (·.block) = (Value.slice A n c).ownBlock := by cases A <;> rfl
theorem shaped_max {W : World} (h : W.ShapedOpen Tryd.prog) : MaxLenIs W := Go.Proofs.cell_of_shapedOpen_int (zero := #[.int .i64 0]) (t := 3) h (of_decide_eq_true (by kernel_rfl)) (by kernel_rfl) rfl (by kernel_rfl) (by kernel_rfl) Tryd.underlying3
set_option maxHeartbeats 4000000 in
theorem walk (s : ByteArray) (_ws : s.size ≤ maxLen) {w : World} (hm : MaxLenIs w) :
    Calls Tryd.prog 7 #[.string s] w fun e w' => e = .returned (.bool true) ∧ Below w.heap.size w w' := by
  have HM := Lib.hid hm
  clear hm
  by_cases hs : (1048576 : Int) < s.size
  · go_enter Tryd.func7, Tryd.ntmps7
    go_wp2
    go_ret
    exact ⟨rfl, Below.refl _ _⟩
  · have hsz : s.size ≤ 1048576 := by omega
    obtain ⟨n, hn⟩ : ∃ n, n = (wordsS s).length := ⟨_, rfl⟩
    have hn2 : n ≤ 2000000 := by
      have h1 := wordsU_len (splitS 32 s) (splitS 32 s).length
      have h2 := splitS_len 32 s
      rw [hn]
      unfold wordsS
      omega
    have HS := Lib.hid (show ∀ w1, Calls Tryd.prog 22 #[.string s] w1 fun e w' => ∃ A c, e = .returned (.slice A n c) ∧ w'.ownsRow w1.heap.size 9 1 (.slice A n c) n ((wordsS s).map Value.string) ∧ Below w1.heap.size w1 w' from by
      rw [hn]; exact fun w1 => words_spec s w1 hsz)
    have HI := Lib.hid (show ∀ w1, MaxLenIs w1 → Calls Tryd.prog 23 #[.string s] w1 fun e w' => ∃ A c, e = .returned (.slice A n c) ∧ w'.ownsRow w1.heap.size 9 1 (.slice A n c) n ((wordsS s).map Value.string) ∧ Below w1.heap.size w1 w' from by
      rw [hn]; exact fun w1 h1 => words_impl s w1 h1 hsz)
    clear hn
    generalize wordsS s = xs at *
    have hn0 : (0 : Int) ≤ (n : Int) := Int.natCast_nonneg _
    go_enter Tryd.func7, Tryd.ntmps7
    go_wp2_with fail
    refine (HS.out _).mono ?_
    rintro e w1 ⟨A0, c0, rfl, ho0, hb1⟩
    have s0 := StrsAt.of_own ho0
    go_wp2_with fail
    refine (HI.out _ (HM.out.below hb1)).mono ?_
    rintro e w2 ⟨A1, c1, rfl, ho1, hb2⟩
    have s1 := StrsAt.of_own ho1
    have hoth := other_row ho0 ho1
    have B2 := Lib.hid (below_two hb1 hb2 (Nat.le_refl _))
    have hle := hb1.size
    have s0' := s0.below hb2
    clear ho0 s0 hb1 hb2
    go_wp2_with fail
    refine (eqS_same _ _ n c1 c0 xs _ hn2 s1 s0').mono ?_
    rintro e w' ⟨rfl, q, rfl⟩
    have ho1d := row_drewN ho1 q
    have s0d : StrsAt (w2.drewN q) A0 n xs := s0'
    have B2d := Lib.hid (below_drewN B2.out q)
    clear ho1 s1 s0'
    go_wp2_with fail
    refine (markS_is A1 n c1 _ _ _ hn2 ho1d).mono ?_
    rintro e w3 ⟨rfl, ho3, hg3⟩
    rw [own_map A1 n c1] at hg3
    have s3 : StrsAt w3 A0 n xs := s0d.grown hg3 hoth
    have m3 := StrsAt.of_own ho3
    have B3 := Lib.hid (below_own B2d.out hle ho1d hg3)
    clear ho1d s0d ho3 hg3 hoth
    go_wp2_with fail
    refine (heldS_is A1 n c1 _ hn2 m3).mono ?_
    rintro e w4 ⟨rfl, hb4⟩
    have s4 := s3.below hb4
    have m4 := m3.below hb4
    have B4 := Lib.hid (below_two B3.out hb4 (Nat.le_refl _))
    clear s3 m3 hb4
    go_wp2_with fail
    refine (HI.out _ (HM.out.below B4.out)).mono ?_
    rintro e w5 ⟨A2, c2, rfl, ho5, hb5⟩
    have i5 := StrsAt.of_own ho5
    have s5 := s4.below hb5
    have m5 := m4.below hb5
    have B5 := Lib.hid (below_two B4.out hb5 (Nat.le_refl _))
    clear s4 m4 hb5 ho5
    go_wp2_with fail
    refine (eqS_same _ _ n c2 c0 xs _ hn2 i5 s5).mono ?_
    rintro e w' ⟨rfl, q', rfl⟩
    have m6 : StrsAt (w5.drewN q') A1 n (mkL n) := m5
    clear s5 i5 m5
    go_wp2_with fail
    refine (heldS_is A1 n c1 _ hn2 m6).mono ?_
    rintro e w8 ⟨rfl, hb8⟩
    go_wp2
    go_ret
    exact ⟨rfl, below_two (below_drewN B5.out q') hb8 (Nat.le_refl _)⟩

/-- The door's own heap meets the row's condition. -/
theorem door_met (os : Os) (args : Array Value) : laidMetH Tryd.prog Rows.fnExactSplitWordsRow.laid ((World.laidAll Tryd.prog os Rows.fnExactSplitWordsRow.laid).forCall (fun _ _ => 0) ⟨#[], args, []⟩).memory :=
  by rw [MakeChecks.laidMetH_plain _ _ _ (by kernel_rfl)]; exact laidMet_laidAll _ (by kernel_rfl) (by kernel_rfl)

/-- A claim about a function's calls, from the row's condition on the variables and the shape of the first world. -/
theorem handed_and_shaped {H : Type} {enc : TypeId × Value → H} {a : Assume} {C : Checked} {os : Os} {f : FuncId} {fn : Func} {s : ChangeSpec} {conds : List PathCond} {apart fresh handsOn again : Bool} {X : World → Array Value → Prop}
    (hX : ∀ (w w' : World) (args : Array Value), w.heap = w'.heap → X w args → X w' args)
    (own : ownKnob C.prog.godebug = none) (started : os.Started) (noInit : C.prog.inits.idxOf? f = none) (hfn : C.prog.funcs[f]? = some fn)
    (witness : ∃ (w : World) (tape : Tape) (i : Input), w.os = os ∧ (w.forCall tape i).Shaped C.prog ∧ i.vars = [] ∧ Input.okWide C.prog (w.forCall tape i) .any w.heap.size f i ∧
      ((s.pre enc C.prog fn conds apart (w.forCall tape i).memory i.args ∧ X (w.forCall tape i).memory i.args) ∧ sizedMet enc C.prog fn (OpenSpec.ofChange s) apart (w.forCall tape i).memory i.args) ∧ a.holds C.prog (lone (Frame.enter C.prog f i.args .normal) [] (w.forCall tape i)))
    (contract : ∀ (W : World) (base : Nat) (args : Array Value) (ds gs : List (DataW H)) (before : List MemPlace),
      (∀ (j : Nat) t v, fn.params[j]? = some t → args[j]? = some v → Value.okWide C.prog W .any base t v) →
      DataW.Whole enc C.prog fn.params.toList s.vars apart W args.toList ds gs before →
      conds.all (PathCond.test C.prog ⟨fn.params.toList, ds, s.plain.varTypes C.prog, gs⟩) = true →
      (DataW.weightsEach C.prog (fn.params.toList ++ s.plain.varTypes C.prog) (ds ++ gs)).all (· ≤ reachBytes) = true → X W args → W.ShapedOpen C.prog →
      a.holds C.prog (lone (Frame.enter C.prog f args .normal) [] W) →
      Calls C.prog f args W fun e W' => ∃ v, e = .returned v ∧ s.post enc C.prog fn apart fresh handsOn again W args v W') :
    ReturnsInHanded a C os f .any (fun w args => (s.pre enc C.prog fn conds apart w args ∧ X w args) ∧ sizedMet enc C.prog fn (OpenSpec.ofChange s) apart w args) (s.post enc C.prog fn apart fresh handsOn again) := by
  refine returnsInHanded_of_calls own started noInit witness ?_
  intro w tape i _ hsh _ hok hpre hholds
  obtain ⟨_, _, _, fn', hfn', _, _, _, _, hval⟩ := hok
  have e : fn' = fn := Option.some.inj (hfn'.symm.trans hfn)
  subst e
  obtain ⟨⟨⟨ds, gs, before, hw, hc⟩, hx⟩, hz⟩ := hpre
  have hw' := DataW.Whole.of_heap (w' := w.forCall tape i) (by rfl) hw
  refine (contract (w.forCall tape i) w.heap.size i.args ds gs before hval hw' hc (hz.weights hw) (hX _ _ _ (by rfl) hx) hsh hholds).mono fun e W' ⟨v, he, hp⟩ => ?_
  subst he
  exact ChangeSpec.post_blind hp

set_option maxRecDepth 100000 in
theorem lifted (os : Os) (started : os.Started) (H : Type) (enc : TypeId × Value → H) :
    ReturnsInHanded {} Tryd.checked os 7 .any (fun w args => (Rows.fnExactSplitWordsSpec.pre enc Tryd.prog Tryd.f7 [] false w args ∧ laidMetH Tryd.prog Rows.fnExactSplitWordsRow.laid w) ∧ sizedMet enc Tryd.prog Tryd.f7 (OpenSpec.ofChange Rows.fnExactSplitWordsSpec) false w args)
      (Rows.fnExactSplitWordsSpec.post enc Tryd.prog Tryd.f7 false true false false) := by
  refine handed_and_shaped (C := Tryd.checked) (X := fun w _ => laidMetH Tryd.prog Rows.fnExactSplitWordsRow.laid w) (fun _ _ _ hh h => h.of_heap hh) own started (by kernel_rfl) Tryd.func7
    (ChangeSpec.witness_shaped (enc := enc) (C := Tryd.checked) (os := os) (X := fun w _ => laidMetH Tryd.prog Rows.fnExactSplitWordsRow.laid w) false (World.laidAll Tryd.prog os Rows.fnExactSplitWordsRow.laid) #[.string ⟨#[]⟩] 8 (World.laidAll_os _ _ _) (World.shaped_of_ZipB (by kernel_rfl) (by kernel_rfl)) (by kernel_rfl) (by kernel_rfl) (by kernel_rfl) (door_met os _)) ?_
  intro W base args ds gs before hval0 hW hcnd0 hsz0 hlaid hshaped hholds
  have hval : ∀ (j : Nat) t v, Tryd.f7.params[j]? = some t → args[j]? = some v → Value.okWide Tryd.prog W .any base t v := hval0
  have hsz : (DataW.weightsEach Tryd.prog (Tryd.f7.params.toList ++ Rows.fnExactSplitWordsSpec.plain.varTypes Tryd.prog) (ds ++ gs)).all (· ≤ reachBytes) = true := hsz0
  clear hsz0 hcnd0 hholds hval0
  have hWW := hW
  obtain ⟨p, q, hA0, hV, rfl, hfz, hnd⟩ := hW
  have hA : DataW.TrodAll enc Tryd.prog W 0 (fun _ => true) true Tryd.f7.params.toList args.toList ds p := hA0
  clear hA0
  have hlt : ∀ x ∈ p ++ q, x.block < W.heap.size := fun x hx => hWW.lt x hx
  rw [Tryd.params7] at hA hval hsz
  obtain ⟨v0, vs0, d0, ds0, p0, q0, hargs, rfl, rfl, h0, r0⟩ := trodAll_cons hA
  obtain ⟨rfl, rfl, rfl⟩ := trodAll_nil r0
  obtain rfl : args = #[v0] := by cases args; simp_all
  obtain ⟨rfl, rfl⟩ := trodVars_none hV
  clear hargs hV hfz hnd
  have fin : ∀ W', Below W.heap.size W W' → Rows.fnExactSplitWordsSpec.post enc Tryd.prog Tryd.f7 false true false false W #[v0] (.bool true) W' := fun W' hb =>
    post_true (tb := 4) (by kernel_rfl) hWW rfl Tryd.underlying4 rfl rfl rfl rfl hb
  clear hWW
  obtain ⟨s0, rfl, rfl, rfl, w0⟩ := Go.ChangeMaps.open_string Tryd.underlying9 (hval 0 9 v0 rfl rfl) h0
  refine (walk s0 w0 (shaped_max hshaped)  (w := W)).mono fun e W' ⟨he, hb⟩ => ?_
  subst he
  exact ⟨_, rfl, fin _ hb⟩

theorem over : Rows.FnExactSplitWordsSaid :=
  OpenClaim.holds_of_wide 7 Tryd.f7 rfl rfl rfl rfl rfl rfl rfl ⟨rfl, rfl, rfl, rfl, rfl⟩ rfl rfl rfl rfl rfl (by kernel_rfl) Tryd.func7 (by kernel_rfl)
    (of_decide_eq_true (by kernel_rfl)) (by unfold Func.isWrapper; first | (rw [if_pos (by decide +kernel)]; kernel_rfl) | (rw [if_neg (by decide +kernel)]; exact ⟨rfl, rfl⟩))
    (fun os started H enc _ => lifted os started H enc)

/-- The statement: the card, its listed variables tied to the program's text. -/
theorem proved : Rows.FnExactSplitWordsCardSaid :=
  Claim7.holds_tied_plain_at .later [] [.data, .pinned] true (true, "866e0879a20b766992ec21fc17b15ee2b48161c112fe33352e84f1a92dced44e") true
    over (fun _ h => by cases h) (by kernel_rfl) (fun _ h => by cases h) fnExactSplitWords_row_tie rfl ⟨rfl, rfl⟩ (by kernel_rfl) rfl
    (fun f fn hf hfn => by
      obtain rfl : f = 7 := Option.some.inj ((show Tryd.prog.funcNamed "loop.example/g00952/laws.FnExactSplitWords" = some 7 by kernel_rfl).symm.trans hf) |>.symm
      obtain rfl : fn = Tryd.f7 := (Option.some.inj (Tryd.func7.symm.trans hfn)).symm
      refine ⟨by kernel_rfl, fun j t ht => ?_⟩
      rw [Tryd.params7] at ht
      have hall : ∀ t ∈ ([9] : List TypeId), Tryd.prog.wantsStandIn t = false := by intro t ht; simp only [List.mem_cons, List.mem_nil_iff, or_false] at ht; rcases ht with rfl; all_goals kernel_rfl
      exact hall t (by have := Array.mem_of_getElem? ht; simpa using this))
    (by kernel_rfl)
#print axioms proved
end Go.Proofs.YtdmfmpfdkfijeaaDoor.fnExactSplitWords
