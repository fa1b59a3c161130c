/- The law FnExactReadTemperament of the given program holds: for every input it returns true, and its arguments read afterwards as before. No condition. -/
import Derived.Test.YtkbfmjnekeipcaaDoorBase
import Derived.LaidMore
import Derived.Lay
import Derived.Stop.Joined
import Derived.SevenTiedAt
import Derived.Test.YtkbfmjnekeipcaaDoorCards
import Derived.Test.YtkbfmjnekeipcaaDoorTie
import Derived.Test.YtkbfmjnekeipcaaDoorTmpS
import Derived.Test.YtkbfmjnekeipcaaDoorMarkT
namespace Go.Proofs.YtkbfmjnekeipcaaDoor.fnExactReadTemperament
open Go.ChangeShapes Go.WideShapes Go.ChangeAt Go.RowKit
set_option maxRecDepth 100000
set_option linter.unusedVariables false

theorem star : "*" ++ "errors.errorString" = "*errors.errorString" := by decide
theorem row_es (u : TypeId) (h : Tryd.prog.typeName? 3 u = some "*errors.errorString") : u = 148 :=
  typeName_ptr_named (nm := "errors.errorString") (by rw [star]; kernel_rfl) (by kernel_rfl) (by decide) u (by rw [star]; exact h)
theorem gESType : (Tryd.prog.globals[1]?).map (·.type) = some 69 := by kernel_rfl
theorem gERType : (Tryd.prog.globals[2]?).map (·.type) = some 69 := by kernel_rfl
theorem errs_row {W : World} (h : laidMetH Tryd.prog Rows.fnExactReadTemperamentRow.laid W) : Errs W := by
  rw [MakeChecks.laidMetH_plain _ _ _ (by kernel_rfl)] at h
  have ht := tab_of h
  have h4 := h.tail.tail.tail.tail
  obtain ⟨a0, s0, hv0, _, _, _⟩ := laid_sentinel h4 gER gERType Tryd.underlying69 row_es Tryd.underlying148 Tryd.underlying150 rfl rfl Tryd.underlying9 (by kernel_rfl) (by kernel_rfl)
  obtain ⟨a1, s1, hv1, _, _, _⟩ := laid_sentinel h4.tail gES gESType Tryd.underlying69 row_es Tryd.underlying148 Tryd.underlying150 rfl rfl Tryd.underlying9 (by kernel_rfl) (by kernel_rfl)
  exact ⟨ht, ⟨_, _, hv1⟩, ⟨_, _, hv0⟩⟩
theorem shaped_max {W : World} (h : W.ShapedOpen Tryd.prog) : MaxLenIs W := Go.Proofs.cell_of_shapedOpen_int (zero := #[.int .i64 0]) (t := 3) h (of_decide_eq_true (by kernel_rfl)) (by kernel_rfl) rfl (by kernel_rfl) (by kernel_rfl) Tryd.underlying3
set_option maxHeartbeats 8000000 in
theorem walk_of (name s : ByteArray) (zs : List Int) (code : Bool) (w : World) (hz : zs.length ≤ 1000) (hs : name.size ≤ 1048576) (hS : ∀ w, Calls Tryd.prog 30 #[.string name] w fun x w' => TmpRet w s zs code x w')
    (he : Errs w) (hm : MaxLenIs w) (hI : ∀ w, Errs w → MaxLenIs w → Calls Tryd.prog 31 #[.string name] w fun x w' => TmpRet w s zs code x w') : Calls Tryd.prog 7 #[.string name] w fun x w' => x = .returned (.bool true) ∧ Below w.heap.size w w' := by
  have hcc : (code == code) = true := by simp
  have HE := Lib.hid he
  have HM := Lib.hid hm
  have HI := Lib.hid hI
  clear he hm hI
  have hd : decide ((1048576 : Int) < name.size) = false := decide_eq_false (by omega)
  go_enter Tryd.func7, Tryd.ntmps7
  go_wp2_with fail
  refine (hS _).mono ?_
  rintro x w1 ⟨A0, n0, c0, rfl, ho0, hb0⟩
  have i0 := IntsAt.of_own ho0
  have hn0 : n0 ≤ 1000 := by rw [← i0.len]; exact hz
  go_wp2_with fail
  have hbe := hb0.alloc hb0.size (.cells #[.string s, .slice A0 n0 c0] 41)
  refine (HI.out _ (HE.out.below hbe) (HM.out.below hbe)).mono ?_
  rintro x w2 ⟨A1, n1, c1, rfl, ho1, hb1⟩
  have i1 := IntsAt.of_own ho1
  have hn1 : n1 ≤ 1000 := by rw [← i1.len]; exact hz
  have hle1 : w.heap.size ≤ w1.heap.size := hb0.size
  obtain ⟨p0, p1⟩ := cells2 (g := w1.heap.size) (a := .string s) (b := .slice A0 n0 c0) hb1 (by simp) (by go_simp) (by go_simp)
  have hlt2 : w1.heap.size < w2.heap.size := by have := hb1.size; simp only [World.size_alloc] at this; omega
  have hown := ho1.lt
  have hown0 := ho0.lt
  have B2 := Lib.hid ((hb0.alloc hle1 (.cells #[.string s, .slice A0 n0 c0] 41)).trans (hb1.mono (by simp; omega)))
  have j0 := ((i0.alloc (.cells #[.string s, .slice A0 n0 c0] 41)).below hb1).alloc (.cells #[.string s, .slice A1 n1 c1] 41)
  have j1 := i1.alloc (.cells #[.string s, .slice A1 n1 c1] 41)
  clear i0 i1 hb0 hb1 ho0 hbe
  go_wp2_with fail
  refine (eqTemp_same s A1 A0 n1 n0 c1 c0 zs _ j1 j0 (by omega) (by omega)).mono ?_
  rintro x w3 ⟨rfl, hb3⟩
  have k2 : Below w2.heap.size w2 w3 := ((Below.refl _ _).alloc (Nat.le_refl _) _).trans (hb3.mono (by simp))
  obtain ⟨q0, q1⟩ := cells2 (g := w2.heap.size) (a := .string s) (b := .slice A1 n1 c1) hb3 (by simp) (by go_simp) (by go_simp)
  obtain ⟨r0, r1⟩ := cells2 (g := w1.heap.size) k2 hlt2 p0 p1
  have o3 := row_keepT ho1 k2
  have j3 := j0.below hb3
  have hlt3 : w2.heap.size < w3.heap.size := by have := hb3.size; simp only [World.size_alloc] at this; omega
  have B3 := Lib.hid (below_two B2.out k2 (Nat.le_refl _))
  clear p0 p1 j0 j1 hb3 k2 ho1
  go_wp2_with fail
  refine (markTemp_any s A1 n1 c1 _ zs 1 _ o3 (by omega) (by omega) (by omega)).mono ?_
  rintro x w4 ⟨rfl, o4, hg4⟩
  simp only [World.size_alloc] at hown
  have ne5 : some w2.heap.size ≠ (Value.slice A1 n1 c1).ownBlock := fun e => by have := (hown _ e.symm).2; omega
  have ne3 : some w1.heap.size ≠ (Value.slice A1 n1 c1).ownBlock := fun e => by have := (hown _ e.symm).1; omega
  have hgs := hg4.size
  simp only [World.size_alloc] at hgs
  obtain ⟨s0, s1⟩ := cells2_grown (g := w2.heap.size) (a := .string s) (b := .slice A1 n1 c1) hg4 ne5 (by go_simp) (by go_simp)
  obtain ⟨t0, t1⟩ := cells2_grown (g := w1.heap.size) (a := .string s) (b := .slice A0 n0 c0) hg4 ne3 (by have h := Nat.lt_trans hlt2 hlt3; go_simp) (by have h := Nat.lt_trans hlt2 hlt3; go_simp)
  have j4 : IntsAt w4 A0 n0 zs := CellsAt.grown (j3.alloc _) hg4 (fun a ha he => by
    have h1 := (hown0 a.block (by rw [ha]; rfl)).2
    have h2 := (hown _ he).1
    omega)
  have m4 := IntsAt.of_own o4
  have B4 := Lib.hid ((B3.out.alloc B3.out.size (.cells #[.string s, .slice A1 n1 c1] 41)).grown hg4 (by simp; have := B3.out.size; omega) (fun g hg => by have := (hown g hg).1; omega))
  have hmm : ((1 + (n1:Int)) == 1 + n1) = true := by simp
  have hlt4 : w2.heap.size < w4.heap.size := by omega
  clear q0 q1 r0 r1 o3 j3 o4 hg4 ne5 ne3 hown hown0
  go_wp2_with fail
  refine (heldTemp_any s A1 n1 c1 1 _ m4 (by omega) (by omega) (by omega)).mono ?_
  rintro x w5 ⟨rfl, hb5⟩
  obtain ⟨u0, u1⟩ := cells2 hb5 hlt4 s0 s1
  obtain ⟨v0, v1⟩ := cells2 hb5 (Nat.lt_trans hlt2 hlt4) t0 t1
  have j5 := j4.below hb5
  have m5 := m4.below hb5
  have B5 := Lib.hid (below_two B4.out hb5 (Nat.le_refl _))
  have hlt5 : w2.heap.size < w5.heap.size := Nat.lt_of_lt_of_le hlt4 hb5.size
  clear s0 s1 t0 t1 j4 m4 hb5
  go_wp2_with fail
  refine (HI.out _ (HE.out.below B5.out) (HM.out.below B5.out)).mono ?_
  rintro x w6 ⟨A2, n2, c2, rfl, ho2, hb6⟩
  have i2 := IntsAt.of_own ho2
  have hn2 : n2 ≤ 1000 := by rw [← i2.len]; exact hz
  obtain ⟨y0, y1⟩ := cells2 hb6 hlt5 u0 u1
  obtain ⟨z0, z1⟩ := cells2 hb6 (Nat.lt_trans hlt2 hlt5) v0 v1
  have j6 := (j5.below hb6).alloc (.cells #[.string s, .slice A2 n2 c2] 41)
  have i6 := i2.alloc (.cells #[.string s, .slice A2 n2 c2] 41)
  have m6 := m5.below hb6
  have B6 := Lib.hid (below_two B5.out hb6 (Nat.le_refl _))
  have hlt6 : w2.heap.size < w6.heap.size := Nat.lt_of_lt_of_le hlt5 hb6.size
  have hlt61 : w1.heap.size < w6.heap.size := Nat.lt_trans hlt2 hlt6
  clear u0 u1 v0 v1 j5 m5 hb6 ho2 i2
  go_wp2_with fail
  refine (eqTemp_same s A2 A0 n2 n0 c2 c0 zs _ i6 j6 (by omega) (by omega)).mono ?_
  rintro x w7 ⟨rfl, hb7⟩
  have k6 : Below w6.heap.size w6 w7 := ((Below.refl _ _).alloc (Nat.le_refl _) _).trans (hb7.mono (by simp))
  obtain ⟨g0, g1⟩ := cells2 k6 hlt6 y0 y1
  have m7 := m6.below k6
  have B7 := Lib.hid (below_two B6.out k6 (Nat.le_refl _))
  clear y0 y1 z0 z1 j6 i6 m6 hb7 k6
  go_wp2_with fail
  refine (heldTemp_any s A1 n1 c1 1 _ m7 (by omega) (by omega) (by omega)).mono ?_
  rintro x w8 ⟨rfl, hb8⟩
  go_wp2
  go_ret
  exact ⟨rfl, below_two B7.out hb8 (Nat.le_refl _)⟩
theorem walk (name : ByteArray) (ws : name.size ≤ maxLen) {w : World} (he : Errs w) (hm : MaxLenIs w) : Calls Tryd.prog 7 #[.string name] w fun x w' => x = .returned (.bool true) ∧ Below w.heap.size w w' := by
  by_cases hs : name.size ≤ 1048576
  case neg =>
    unfold maxLen at ws
    go_enter Tryd.func7, Tryd.ntmps7
    go_wp2
    go_ret
    exact ⟨rfl, Below.refl _ _⟩
  exact walk_of name (tmN name) (tmZ name) (tmOK name) w (Nat.le_trans (tmZ_len name) (by omega)) hs (fun w1 => tmp_spec_walk name w1 hs) he hm (fun w1 h1 h2 => tmp_impl_walk name w1 hs h1 h2)

/-- The door's own heap meets the row's condition. -/
theorem door_met (os : Os) (args : Array Value) : laidMetH Tryd.prog Rows.fnExactReadTemperamentRow.laid ((World.laidAll Tryd.prog os Rows.fnExactReadTemperamentRow.laid).forCall (fun _ _ => 0) ⟨#[], args, []⟩).memory :=
  by rw [MakeChecks.laidMetH_plain _ _ _ (by kernel_rfl)]; exact laidMet_laidAll _ (by kernel_rfl) (by kernel_rfl)

/-- A claim about a function's calls, from the row's condition on the variables and the shape of the first world. -/
theorem handed_and_shaped {H : Type} {enc : TypeId × Value → H} {a : Assume} {C : Checked} {os : Os} {f : FuncId} {fn : Func} {s : ChangeSpec} {conds : List PathCond} {apart fresh handsOn again : Bool} {X : World → Array Value → Prop}
    (hX : ∀ (w w' : World) (args : Array Value), w.heap = w'.heap → X w args → X w' args)
    (own : ownKnob C.prog.godebug = none) (started : os.Started) (noInit : C.prog.inits.idxOf? f = none) (hfn : C.prog.funcs[f]? = some fn)
    (witness : ∃ (w : World) (tape : Tape) (i : Input), w.os = os ∧ (w.forCall tape i).Shaped C.prog ∧ i.vars = [] ∧ Input.okWide C.prog (w.forCall tape i) .any w.heap.size f i ∧
      ((s.pre enc C.prog fn conds apart (w.forCall tape i).memory i.args ∧ X (w.forCall tape i).memory i.args) ∧ sizedMet enc C.prog fn (OpenSpec.ofChange s) apart (w.forCall tape i).memory i.args) ∧ a.holds C.prog (lone (Frame.enter C.prog f i.args .normal) [] (w.forCall tape i)))
    (contract : ∀ (W : World) (base : Nat) (args : Array Value) (ds gs : List (DataW H)) (before : List MemPlace),
      (∀ (j : Nat) t v, fn.params[j]? = some t → args[j]? = some v → Value.okWide C.prog W .any base t v) →
      DataW.Whole enc C.prog fn.params.toList s.vars apart W args.toList ds gs before →
      conds.all (PathCond.test C.prog ⟨fn.params.toList, ds, s.plain.varTypes C.prog, gs⟩) = true →
      (DataW.weightsEach C.prog (fn.params.toList ++ s.plain.varTypes C.prog) (ds ++ gs)).all (· ≤ reachBytes) = true → X W args → W.ShapedOpen C.prog →
      a.holds C.prog (lone (Frame.enter C.prog f args .normal) [] W) →
      Calls C.prog f args W fun e W' => ∃ v, e = .returned v ∧ s.post enc C.prog fn apart fresh handsOn again W args v W') :
    ReturnsInHanded a C os f .any (fun w args => (s.pre enc C.prog fn conds apart w args ∧ X w args) ∧ sizedMet enc C.prog fn (OpenSpec.ofChange s) apart w args) (s.post enc C.prog fn apart fresh handsOn again) := by
  refine returnsInHanded_of_calls own started noInit witness ?_
  intro w tape i _ hsh _ hok hpre hholds
  obtain ⟨_, _, _, fn', hfn', _, _, _, _, hval⟩ := hok
  have e : fn' = fn := Option.some.inj (hfn'.symm.trans hfn)
  subst e
  obtain ⟨⟨⟨ds, gs, before, hw, hc⟩, hx⟩, hz⟩ := hpre
  have hw' := DataW.Whole.of_heap (w' := w.forCall tape i) (by rfl) hw
  refine (contract (w.forCall tape i) w.heap.size i.args ds gs before hval hw' hc (hz.weights hw) (hX _ _ _ (by rfl) hx) hsh hholds).mono fun e W' ⟨v, he, hp⟩ => ?_
  subst he
  exact ChangeSpec.post_blind hp

set_option maxRecDepth 100000 in
theorem lifted (os : Os) (started : os.Started) (H : Type) (enc : TypeId × Value → H) :
    ReturnsInHanded {} Tryd.checked os 7 .any (fun w args => (Rows.fnExactReadTemperamentSpec.pre enc Tryd.prog Tryd.f7 [] false w args ∧ laidMetH Tryd.prog Rows.fnExactReadTemperamentRow.laid w) ∧ sizedMet enc Tryd.prog Tryd.f7 (OpenSpec.ofChange Rows.fnExactReadTemperamentSpec) false w args)
      (Rows.fnExactReadTemperamentSpec.post enc Tryd.prog Tryd.f7 false true false false) := by
  refine handed_and_shaped (C := Tryd.checked) (X := fun w _ => laidMetH Tryd.prog Rows.fnExactReadTemperamentRow.laid w) (fun _ _ _ hh h => h.of_heap hh) own started (by kernel_rfl) Tryd.func7
    (ChangeSpec.witness_shaped (enc := enc) (C := Tryd.checked) (os := os) (X := fun w _ => laidMetH Tryd.prog Rows.fnExactReadTemperamentRow.laid w) false (World.laidAll Tryd.prog os Rows.fnExactReadTemperamentRow.laid) #[.string ⟨#[]⟩] 8 (World.laidAll_os _ _ _) (World.shaped_of_ZipB (by kernel_rfl) (by kernel_rfl)) (by kernel_rfl) (by kernel_rfl) (by kernel_rfl) (door_met os _)) ?_
  intro W base args ds gs before hval0 hW hcnd0 hsz0 hlaid hshaped hholds
  have hval : ∀ (j : Nat) t v, Tryd.f7.params[j]? = some t → args[j]? = some v → Value.okWide Tryd.prog W .any base t v := hval0
  have hsz : (DataW.weightsEach Tryd.prog (Tryd.f7.params.toList ++ Rows.fnExactReadTemperamentSpec.plain.varTypes Tryd.prog) (ds ++ gs)).all (· ≤ reachBytes) = true := hsz0
  clear hsz0 hcnd0 hholds hval0
  have hWW := hW
  obtain ⟨p, q, hA0, hV, rfl, hfz, hnd⟩ := hW
  have hA : DataW.TrodAll enc Tryd.prog W 0 (fun _ => true) true Tryd.f7.params.toList args.toList ds p := hA0
  clear hA0
  have hlt : ∀ x ∈ p ++ q, x.block < W.heap.size := fun x hx => hWW.lt x hx
  rw [Tryd.params7] at hA hval hsz
  obtain ⟨v0, vs0, d0, ds0, p0, q0, hargs, rfl, rfl, h0, r0⟩ := trodAll_cons hA
  obtain ⟨rfl, rfl, rfl⟩ := trodAll_nil r0
  obtain rfl : args = #[v0] := by cases args; simp_all
  obtain ⟨rfl, rfl⟩ := trodVars_none hV
  clear hargs hV hfz hnd
  have fin : ∀ W', Below W.heap.size W W' → Rows.fnExactReadTemperamentSpec.post enc Tryd.prog Tryd.f7 false true false false W #[v0] (.bool true) W' := fun W' hb =>
    post_true (tb := 4) (by kernel_rfl) hWW rfl Tryd.underlying4 rfl rfl rfl rfl hb
  clear hWW
  obtain ⟨s0, rfl, rfl, rfl, w0⟩ := Go.ChangeMaps.open_string Tryd.underlying9 (hval 0 9 v0 rfl rfl) h0
  refine (walk s0 w0 (errs_row hlaid) (shaped_max hshaped)  (w := W)).mono fun e W' ⟨he, hb⟩ => ?_
  subst he
  exact ⟨_, rfl, fin _ hb⟩

theorem over : Rows.FnExactReadTemperamentSaid :=
  OpenClaim.holds_of_wide 7 Tryd.f7 rfl rfl rfl rfl rfl rfl rfl ⟨rfl, rfl, rfl, rfl, rfl⟩ rfl rfl rfl rfl rfl (by kernel_rfl) Tryd.func7 (by kernel_rfl)
    (of_decide_eq_true (by kernel_rfl)) (by unfold Func.isWrapper; first | (rw [if_pos (by decide +kernel)]; kernel_rfl) | (rw [if_neg (by decide +kernel)]; exact ⟨rfl, rfl⟩))
    (fun os started H enc _ => lifted os started H enc)

/-- The statement: the card, its listed variables tied to the program's text. -/
theorem proved : Rows.FnExactReadTemperamentCardSaid :=
  Claim7.holds_tied_plain_at .later [] [.data, .data, .data, .data, .sentinel, .sentinel, .pinned] true (true, "047d4529e0cfde98ba126aaf47bb4249786861ef47235909f8d2abf4e2e510ba") true
    over (fun _ h => by cases h) (by kernel_rfl) (fun _ h => by cases h) fnExactReadTemperament_row_tie rfl ⟨rfl, rfl⟩ (by kernel_rfl) rfl
    (fun f fn hf hfn => by
      obtain rfl : f = 7 := Option.some.inj ((show Tryd.prog.funcNamed "loop.example/g00952/laws.FnExactReadTemperament" = some 7 by kernel_rfl).symm.trans hf) |>.symm
      obtain rfl : fn = Tryd.f7 := (Option.some.inj (Tryd.func7.symm.trans hfn)).symm
      refine ⟨by kernel_rfl, fun j t ht => ?_⟩
      rw [Tryd.params7] at ht
      have hall : ∀ t ∈ ([9] : List TypeId), Tryd.prog.wantsStandIn t = false := by intro t ht; simp only [List.mem_cons, List.mem_nil_iff, or_false] at ht; rcases ht with rfl; all_goals kernel_rfl
      exact hall t (by have := Array.mem_of_getElem? ht; simpa using this))
    (by kernel_rfl)
#print axioms proved
end Go.Proofs.YtkbfmjnekeipcaaDoor.fnExactReadTemperament
