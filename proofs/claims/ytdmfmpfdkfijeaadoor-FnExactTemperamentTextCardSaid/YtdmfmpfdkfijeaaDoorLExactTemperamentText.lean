/- The law FnExactTemperamentText of the given program holds: for every input it returns true, and its arguments read afterwards as before. No condition. -/
import Derived.Test.YtdmfmpfdkfijeaaDoorBase
import Derived.LaidMore
import Derived.Stop.Joined
import Derived.SevenTiedAt
import Derived.Test.YtdmfmpfdkfijeaaDoorCards
import Derived.Test.YtdmfmpfdkfijeaaDoorTie
import Derived.Test.YtdmfmpfdkfijeaaDoorTempT
import Derived.Test.YtdmfmpfdkfijeaaDoorOpenT
namespace Go.Proofs.YtdmfmpfdkfijeaaDoor.fnExactTemperamentText
open Go.ChangeShapes Go.WideShapes Go.ChangeAt Go.RowKit
set_option maxRecDepth 100000
set_option linter.unusedVariables false

theorem tab_row2 {W : World} (h : laidMetH Tryd.prog Rows.fnExactTemperamentTextRow.laid W) : Tab W := by
  rw [MakeChecks.laidMetH_plain _ _ _ (by kernel_rfl)] at h
  exact tab_of h
theorem t2lit (s : ByteArray) (A : Option Addr) (n c : Nat) (w : World) (t : TypeId) : Below w.heap.size w (w.alloc (.cells #[.string s, .slice A n c] t)) := (Below.refl _ _).alloc (Nat.le_refl _) _
set_option maxRecDepth 100000 in
set_option maxHeartbeats 4000000 in
theorem walk_of (s : ByteArray) {A : Option Addr} {n c : Nat} {zs : List Int} (S : ByteArray) (w : World) (ht : Tab w) (h : IntsAt w A n zs) (hsz : s.size + n ≤ 1048576) 
    (hS : ∀ (w1 : World) (A1 : Option Addr) (c1 : Nat), IntsAt w1 A1 n zs → Calls Tryd.prog 39 #[.agg #[.string s, .slice A1 n c1]] w1 fun x w' => x = .returned (.string S) ∧ Below w1.heap.size w1 w')
    (hI : ∀ (w1 : World) (A1 : Option Addr) (c1 : Nat), Tab w1 → IntsAt w1 A1 n zs → Calls Tryd.prog 41 #[.agg #[.string s, .slice A1 n c1]] w1 fun x w' => x = .returned (.string S) ∧ Below w1.heap.size w1 w') :
    Calls Tryd.prog 11 #[.agg #[.string s, .slice A n c]] w fun e w' => e = .returned (.bool true) ∧ Below w.heap.size w w' := by
  have h0 := h.alloc (.cells #[.string s, .slice A n c] 46)
  have HS := Lib.hid hS
  have HI := Lib.hid hI
  have hn : n ≤ 1048576 := by omega
  have HT0 := Lib.hid (ht.below (t2lit s A n c w 46))
  have hss : (S.toList == S.toList) = true := by simp
  clear h hS hI ht
  go_enter Tryd.func11, Tryd.ntmps11
  go_wp2_with fail
  refine (szT_ok s A n c 1048576 _ _ rfl hsz (by omega)).mono ?_
  rintro x w1 ⟨r, _, rfl, hb1⟩
  have i1 := h0.below hb1
  obtain ⟨hc, hf⟩ := bcell hb1
  go_wp2_with fail
  refine (toTemp_any _ _ _ _ zs _ i1 hn).mono ?_
  rintro x w2 ⟨g2, c2, rfl, hg2, ho2, hb2⟩
  go_wp2_with fail
  refine (HS.out _ _ _ (IntsAt.of_own ho2)).mono ?_
  rintro x w3 ⟨rfl, hb3⟩
  have hb4 := below_two (below_two hb1 hb2 (Nat.le_refl _)) hb3 (Nat.le_refl _)
  have i4 := h0.below hb4
  clear hc hf i1 ho2 hb1 hb2 hb3
  obtain ⟨hc, hf⟩ := bcell hb4
  go_wp2_with fail
  refine (toTemp_any _ _ _ _ zs _ i4 hn).mono ?_
  rintro x w5 ⟨g5, c5, rfl, hg5, ho5, hb5⟩
  have i5 := IntsAt.of_own ho5
  have hl5 := hb4.size
  have t5 := (HT0.out.below hb4).below hb5
  go_wp2_with fail
  refine (HI.out _ _ _ (by repeat (first | exact t5 | refine Tab.alloc ?_ _)) (by repeat (first | exact i5 | refine IntsAt.alloc ?_ _))).mono ?_
  rintro x w6 ⟨rfl, hb6⟩
  have hb7 := (hb5.alloc hb5.size (.cells #[.string s, .slice (some ⟨g5, 0, none⟩) n c5] 35)).trans (hb6.mono (by simp; exact Nat.le_succ_of_le hb5.size))
  have hb8 := below_two hb4 hb7 (Nat.le_refl _)
  have i8 := h0.below hb8
  have x8 := (i5.alloc (.cells #[.string s, .slice (some ⟨g5, 0, none⟩) n c5] 35)).below hb6
  have hz6 : w5.heap.size < w6.heap.size := by have := hb6.size; simp only [World.size_alloc] at this; omega
  have hz5 : w.heap.size < w5.heap.size := by have h1 := hb5.size; have h2 := hb4.size; simp only [World.size_alloc] at h2; omega
  have hz56 : w.heap.size < w6.heap.size := Nat.lt_trans hz5 hz6
  obtain ⟨q0, q1⟩ := cells2 (g := w5.heap.size) (a := .string s) (b := .slice (some ⟨g5, 0, none⟩) n c5) hb6 (by simp) (by go_simp) (by go_simp)
  obtain ⟨p0, p1⟩ := cells2 (g := w.heap.size) (a := .string s) (b := .slice A n c) hb8 (by simp) (by go_simp) (by go_simp)
  have i8d : IntsAt w6.drew A n zs := i8
  have x8d : IntsAt w6.drew (some ⟨g5, 0, none⟩) n zs := x8
  clear hc hf i4 ho5 hb4 hb5 hb6 hb7 i8 x8
  go_wp2_with fail
  go_region_with (first
    | (go_at_call 40; refine (toTemp_any _ _ _ _ zs _ i8d hn).mono ?_; rintro x w9 ⟨g9, c9, rfl, hg9, ho9, hb9⟩; obtain ⟨q2, q3⟩ := cells2 (w := w6.drew) hb9 hz6 q0 q1; obtain ⟨p2, p3⟩ := cells2 (w := w6.drew) hb9 hz56 p0 p1)
    | (go_at_call 42; refine (eqTemp_same _ _ _ _ _ _ _ zs _ (x8d.below hb9) (IntsAt.of_own ho9) hn hn).mono ?_; rintro x w10 ⟨rfl, hb10⟩))
  all_goals
    have hB := below_two (below_two (hb8.drew) hb9 (Nat.le_refl _)) hb10 (Nat.le_refl _)
    go_wp2
    go_ret
    exact ⟨rfl, (t2lit s A n c w 46).trans (hB.mono (t2lit s A n c w 46).size)⟩
set_option maxRecDepth 100000 in
theorem walk_out (s : ByteArray) (A : Option Addr) (n c : Nat) (w : World) (ws : s.size ≤ maxLen) (hn : n ≤ maxLen) (hsz : ¬ s.size + n ≤ 1048576) :
    Calls Tryd.prog 11 #[.agg #[.string s, .slice A n c]] w fun e w' => e = .returned (.bool true) ∧ Below w.heap.size w w' := by
  go_enter Tryd.func11, Tryd.ntmps11
  go_wp2_with fail
  refine (szT_no s A n c 1048576 _ _ rfl hsz (by omega) ws hn).mono ?_
  rintro x w1 ⟨rfl, hb1⟩
  go_wp2
  go_ret
  exact ⟨rfl, (t2lit s A n c w 46).trans (hb1.mono (t2lit s A n c w 46).size)⟩
theorem walk {w : World} (s : ByteArray) (ws : s.size ≤ maxLen) {A : Option Addr} {n c : Nat} {zs : List Int} (hx : IntsAt w A n zs ∧ n ≤ maxLen) (ht : Tab w) :
    Calls Tryd.prog 11 #[.agg #[.string s, .slice A n c]] w fun e w' => e = .returned (.bool true) ∧ Below w.heap.size w w' := by
  by_cases hsz : s.size + n ≤ 1048576
  · exact walk_of s (tempS s zs) w ht hx.1 hsz (fun w1 A1 c1 h1 => temp_spec s A1 n c1 zs w1 h1 (by omega) ws) (fun w1 A1 c1 t1 h1 => temp_impl s A1 n c1 zs w1 t1 h1 (by omega) ws)
  · exact walk_out s A n c w ws hx.2 hsz

/-- The door's own heap meets the row's condition. -/
theorem door_met (os : Os) (args : Array Value) : laidMetH Tryd.prog Rows.fnExactTemperamentTextRow.laid ((World.doorLaid Tryd.prog 400 os).forCall (fun _ _ => 0) ⟨#[], args, []⟩).memory :=
  laidMetH_of_parts3 (fuel := 8) (laidMet_of_run' 8 (by kernel_rfl) (by kernel_rfl)) (by kernel_rfl) (by kernel_rfl)

set_option maxRecDepth 100000 in
theorem lifted (os : Os) (started : os.Started) (H : Type) (enc : TypeId × Value → H) :
    ReturnsInHanded {} Tryd.checked os 11 .any (fun w args => (Rows.fnExactTemperamentTextSpec.pre enc Tryd.prog Tryd.f11 [] false w args ∧ laidMetH Tryd.prog Rows.fnExactTemperamentTextRow.laid w) ∧ sizedMet enc Tryd.prog Tryd.f11 (OpenSpec.ofChange Rows.fnExactTemperamentTextSpec) false w args)
      (Rows.fnExactTemperamentTextSpec.post enc Tryd.prog Tryd.f11 false true false false) := by
  refine returnsInHanded_of_change_and (C := Tryd.checked) (X := fun w _ => laidMetH Tryd.prog Rows.fnExactTemperamentTextRow.laid w) (fun _ _ _ hh h => h.of_heap hh) own started (by kernel_rfl) Tryd.func11
    (ChangeSpec.witness_shaped (enc := enc) (C := Tryd.checked) (os := os) (X := fun w _ => laidMetH Tryd.prog Rows.fnExactTemperamentTextRow.laid w) false (World.doorLaid Tryd.prog 400 os) #[.agg #[.string ⟨#[]⟩, .slice none 0 0]] 8 rfl (World.shaped_of_RefB (by kernel_rfl) (by kernel_rfl)) (by kernel_rfl) (by kernel_rfl) (by kernel_rfl) (door_met os _)) ?_
  intro W base args ds gs before hval0 hW hcnd0 hsz0 hlaid hholds
  have hval : ∀ (j : Nat) t v, Tryd.f11.params[j]? = some t → args[j]? = some v → Value.okWide Tryd.prog W .any base t v := hval0
  have hsz : (DataW.weightsEach Tryd.prog (Tryd.f11.params.toList ++ Rows.fnExactTemperamentTextSpec.plain.varTypes Tryd.prog) (ds ++ gs)).all (· ≤ reachBytes) = true := hsz0
  clear hsz0 hcnd0 hholds hval0
  have hWW := hW
  obtain ⟨p, q, hA0, hV, rfl, hfz, hnd⟩ := hW
  have hA : DataW.TrodAll enc Tryd.prog W 0 (fun _ => true) true Tryd.f11.params.toList args.toList ds p := hA0
  clear hA0
  have hlt : ∀ x ∈ p ++ q, x.block < W.heap.size := fun x hx => hWW.lt x hx
  rw [Tryd.params11] at hA hval hsz
  obtain ⟨v0, vs0, d0, ds0, p0, q0, hargs, rfl, rfl, h0, r0⟩ := trodAll_cons hA
  obtain ⟨rfl, rfl, rfl⟩ := trodAll_nil r0
  obtain rfl : args = #[v0] := by cases args; simp_all
  obtain ⟨rfl, rfl⟩ := trodVars_none hV
  clear hargs hV hfz hnd
  have fin : ∀ W', Below W.heap.size W W' → Rows.fnExactTemperamentTextSpec.post enc Tryd.prog Tryd.f11 false true false false W #[v0] (.bool true) W' := fun W' hb =>
    post_true (tb := 4) (by kernel_rfl) hWW rfl Tryd.underlying4 rfl rfl rfl rfl hb
  clear hWW
  obtain ⟨s0, A0, n0, c0, xs0, rfl, w0, hx0⟩ := open_temperament (hval 0 46 v0 rfl rfl) h0 (fun x hx => hlt x (by simp [hx]))
  refine (walk s0 w0 hx0 (tab_row2 hlaid)  (w := W)).mono fun e W' ⟨he, hb⟩ => ?_
  subst he
  exact ⟨_, rfl, fin _ hb⟩

theorem over : Rows.FnExactTemperamentTextSaid :=
  OpenClaim.holds_of_wide 11 Tryd.f11 rfl rfl rfl rfl rfl rfl rfl ⟨rfl, rfl, rfl, rfl, rfl⟩ rfl rfl rfl rfl rfl (by kernel_rfl) Tryd.func11 (by kernel_rfl)
    (of_decide_eq_true (by kernel_rfl)) (by unfold Func.isWrapper; first | (rw [if_pos (by decide +kernel)]; kernel_rfl) | (rw [if_neg (by decide +kernel)]; exact ⟨rfl, rfl⟩))
    (fun os started H enc _ => lifted os started H enc)

/-- The statement: the card, its listed variables tied to the program's text. -/
theorem proved : Rows.FnExactTemperamentTextCardSaid :=
  Claim7.holds_tied_plain_at .later [] [.data, .data, .data] true (true, "866e0879a20b766992ec21fc17b15ee2b48161c112fe33352e84f1a92dced44e") true
    over (fun _ h => by cases h) (by kernel_rfl) (fun _ h => by cases h) fnExactTemperamentText_row_tie rfl ⟨rfl, rfl⟩ (by kernel_rfl) rfl
    (fun f fn hf hfn => by
      obtain rfl : f = 11 := Option.some.inj ((show Tryd.prog.funcNamed "loop.example/g00952/laws.FnExactTemperamentText" = some 11 by kernel_rfl).symm.trans hf) |>.symm
      obtain rfl : fn = Tryd.f11 := (Option.some.inj (Tryd.func11.symm.trans hfn)).symm
      refine ⟨by kernel_rfl, fun j t ht => ?_⟩
      rw [Tryd.params11] at ht
      have hall : ∀ t ∈ ([46] : List TypeId), Tryd.prog.wantsStandIn t = false := by intro t ht; simp only [List.mem_cons, List.mem_nil_iff, or_false] at ht; rcases ht with rfl; all_goals kernel_rfl
      exact hall t (by have := Array.mem_of_getElem? ht; simpa using this))
    (by kernel_rfl)
#print axioms proved
end Go.Proofs.YtdmfmpfdkfijeaaDoor.fnExactTemperamentText
