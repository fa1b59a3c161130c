/- The law FnExactTemperamentNamed of the given program holds: for every input it returns true, and its arguments read afterwards as before. No condition. -/
import Derived.Test.YtdpahmkcipfdaaaBase
import Derived.Test.YtdpahmkcipfdaaaMarkT
namespace Go.Proofs.Ytdpahmkcipfdaaa.fnExactTemperamentNamed
open Go.ChangeShapes Go.WideShapes Go.ChangeAt Go.RowKit
set_option maxRecDepth 100000
set_option linter.unusedVariables false

set_option maxHeartbeats 8000000 in
theorem walk_of (name s : ByteArray) (zs : List Int) (code : Int) (w : World) (hz : zs.length ≤ 1000) (hs : name.size ≤ 1048576) (hS : ∀ w, Calls Try.prog 30 #[.string name] w fun x w' => TRet w s zs code x w')
    (hI : ∀ w, Calls Try.prog 31 #[.string name] w fun x w' => TRet w s zs code x w') : Calls Try.prog 6 #[.string name] w fun x w' => x = .returned (.bool true) ∧ Below w.heap.size w w' := by
  have hcc : (code == code) = true := by simp
  have hd : decide ((1048576 : Int) < name.size) = false := decide_eq_false (by omega)
  go_enter Try.func6, Try.ntmps6
  go_wp2_with fail
  refine (hS _).mono ?_
  rintro x w1 ⟨A0, n0, c0, rfl, ho0, hb0⟩
  have i0 := IntsAt.of_own ho0
  have hn0 : n0 ≤ 1000 := by rw [← i0.len]; exact hz
  go_wp2_with fail
  refine (hI _).mono ?_
  rintro x w2 ⟨A1, n1, c1, rfl, ho1, hb1⟩
  have i1 := IntsAt.of_own ho1
  have hn1 : n1 ≤ 1000 := by rw [← i1.len]; exact hz
  have hle1 : w.heap.size ≤ w1.heap.size := hb0.size
  obtain ⟨p0, p1⟩ := cells2 (g := w1.heap.size) (a := .string s) (b := .slice A0 n0 c0) hb1 (by simp) (by go_simp) (by go_simp)
  have hlt2 : w1.heap.size < w2.heap.size := by have := hb1.size; simp only [World.size_alloc] at this; omega
  have hown := ho1.lt
  have hown0 := ho0.lt
  have B2 := Lib.hid ((hb0.alloc hle1 (.cells #[.string s, .slice A0 n0 c0] 37)).trans (hb1.mono (by simp; omega)))
  have j0 := ((i0.alloc (.cells #[.string s, .slice A0 n0 c0] 37)).below hb1).alloc (.cells #[.string s, .slice A1 n1 c1] 37)
  have j1 := i1.alloc (.cells #[.string s, .slice A1 n1 c1] 37)
  clear i0 i1 hb0 hb1 ho0
  go_wp2_with fail
  refine (eqTemp_same s A1 A0 n1 n0 c1 c0 zs _ j1 j0 (by omega) (by omega)).mono ?_
  rintro x w3 ⟨rfl, hb3⟩
  have k2 : Below w2.heap.size w2 w3 := ((Below.refl _ _).alloc (Nat.le_refl _) _).trans (hb3.mono (by simp))
  obtain ⟨q0, q1⟩ := cells2 (g := w2.heap.size) (a := .string s) (b := .slice A1 n1 c1) hb3 (by simp) (by go_simp) (by go_simp)
  obtain ⟨r0, r1⟩ := cells2 (g := w1.heap.size) k2 hlt2 p0 p1
  have o3 := row_keepT ho1 k2
  have j3 := j0.below hb3
  have hlt3 : w2.heap.size < w3.heap.size := by have := hb3.size; simp only [World.size_alloc] at this; omega
  have B3 := Lib.hid (below_two B2.out k2 (Nat.le_refl _))
  clear p0 p1 j0 j1 hb3 k2 ho1
  go_wp2_with fail
  refine (markTemp_any s A1 n1 c1 _ zs 1 _ o3 (by omega) (by omega) (by omega)).mono ?_
  rintro x w4 ⟨rfl, o4, hg4⟩
  simp only [World.size_alloc] at hown
  have ne5 : some w2.heap.size ≠ (Value.slice A1 n1 c1).ownBlock := fun e => by have := (hown _ e.symm).2; omega
  have ne3 : some w1.heap.size ≠ (Value.slice A1 n1 c1).ownBlock := fun e => by have := (hown _ e.symm).1; omega
  have hgs := hg4.size
  simp only [World.size_alloc] at hgs
  obtain ⟨s0, s1⟩ := cells2_grown (g := w2.heap.size) (a := .string s) (b := .slice A1 n1 c1) hg4 ne5 (by go_simp) (by go_simp)
  obtain ⟨t0, t1⟩ := cells2_grown (g := w1.heap.size) (a := .string s) (b := .slice A0 n0 c0) hg4 ne3 (by have h := Nat.lt_trans hlt2 hlt3; go_simp) (by have h := Nat.lt_trans hlt2 hlt3; go_simp)
  have j4 : IntsAt w4 A0 n0 zs := CellsAt.grown (j3.alloc _) hg4 (fun a ha he => by
    have h1 := (hown0 a.block (by rw [ha]; rfl)).2
    have h2 := (hown _ he).1
    omega)
  have m4 := IntsAt.of_own o4
  have B4 := Lib.hid ((B3.out.alloc B3.out.size (.cells #[.string s, .slice A1 n1 c1] 37)).grown hg4 (by simp; have := B3.out.size; omega) (fun g hg => by have := (hown g hg).1; omega))
  have hmm : ((1 + (n1:Int)) == 1 + n1) = true := by simp
  have hlt4 : w2.heap.size < w4.heap.size := by omega
  clear q0 q1 r0 r1 o3 j3 o4 hg4 ne5 ne3 hown hown0
  go_wp2_with fail
  refine (heldTemp_any s A1 n1 c1 1 _ m4 (by omega) (by omega) (by omega)).mono ?_
  rintro x w5 ⟨rfl, hb5⟩
  obtain ⟨u0, u1⟩ := cells2 hb5 hlt4 s0 s1
  obtain ⟨v0, v1⟩ := cells2 hb5 (Nat.lt_trans hlt2 hlt4) t0 t1
  have j5 := j4.below hb5
  have m5 := m4.below hb5
  have B5 := Lib.hid (below_two B4.out hb5 (Nat.le_refl _))
  have hlt5 : w2.heap.size < w5.heap.size := Nat.lt_of_lt_of_le hlt4 hb5.size
  clear s0 s1 t0 t1 j4 m4 hb5
  go_wp2_with fail
  refine (hI _).mono ?_
  rintro x w6 ⟨A2, n2, c2, rfl, ho2, hb6⟩
  have i2 := IntsAt.of_own ho2
  have hn2 : n2 ≤ 1000 := by rw [← i2.len]; exact hz
  obtain ⟨y0, y1⟩ := cells2 hb6 hlt5 u0 u1
  obtain ⟨z0, z1⟩ := cells2 hb6 (Nat.lt_trans hlt2 hlt5) v0 v1
  have j6 := (j5.below hb6).alloc (.cells #[.string s, .slice A2 n2 c2] 37)
  have i6 := i2.alloc (.cells #[.string s, .slice A2 n2 c2] 37)
  have m6 := m5.below hb6
  have B6 := Lib.hid (below_two B5.out hb6 (Nat.le_refl _))
  have hlt6 : w2.heap.size < w6.heap.size := Nat.lt_of_lt_of_le hlt5 hb6.size
  have hlt61 : w1.heap.size < w6.heap.size := Nat.lt_trans hlt2 hlt6
  clear u0 u1 v0 v1 j5 m5 hb6 ho2 i2
  go_wp2_with fail
  refine (eqTemp_same s A2 A0 n2 n0 c2 c0 zs _ i6 j6 (by omega) (by omega)).mono ?_
  rintro x w7 ⟨rfl, hb7⟩
  have k6 : Below w6.heap.size w6 w7 := ((Below.refl _ _).alloc (Nat.le_refl _) _).trans (hb7.mono (by simp))
  obtain ⟨g0, g1⟩ := cells2 k6 hlt6 y0 y1
  have m7 := m6.below k6
  have B7 := Lib.hid (below_two B6.out k6 (Nat.le_refl _))
  clear y0 y1 z0 z1 j6 i6 m6 hb7 k6
  go_wp2_with fail
  refine (heldTemp_any s A1 n1 c1 1 _ m7 (by omega) (by omega) (by omega)).mono ?_
  rintro x w8 ⟨rfl, hb8⟩
  go_wp2
  go_ret
  exact ⟨rfl, below_two B7.out hb8 (Nat.le_refl _)⟩
theorem walk (name : ByteArray) (ws : name.size ≤ maxLen) (w : World) : Calls Try.prog 6 #[.string name] w fun x w' => x = .returned (.bool true) ∧ Below w.heap.size w w' := by
  by_cases hs : name.size ≤ 1048576
  case neg =>
    unfold maxLen at ws
    go_enter Try.func6, Try.ntmps6
    go_wp2
    go_ret
    exact ⟨rfl, Below.refl _ _⟩
  have fin : ∀ K, K ≤ 4 → (∀ j, j < K → tName j ≠ name) → (K < 4 → tName K = name) → Calls Try.prog 6 #[.string name] w fun x w' => x = .returned (.bool true) ∧ Below w.heap.size w w' := by
    intro K hK hne he
    by_cases h4 : K < 4
    · exact walk_of name name (tOffs K) 0 w (by rw [tOffs_len]; omega) hs (fun w => by have := named_spec name K w hK hne he; simpa only [h4, if_true] using this) (fun w => by have := named_impl name K w hK hne he; simpa only [h4, if_true] using this)
    · exact walk_of name ⟨#[]⟩ [] 3 w (by simp) hs (fun w => by have := named_spec name K w hK hne he; simpa only [h4, if_false] using this) (fun w => by have := named_impl name K w hK hne he; simpa only [h4, if_false] using this)
  by_cases h0 : tName 0 = name
  · exact fin 0 (by omega) (fun j hj => by omega) (fun _ => h0)
  by_cases h1 : tName 1 = name
  · exact fin 1 (by omega) (fun j hj => by obtain rfl : j = 0 := (by omega); exact h0) (fun _ => h1)
  by_cases h2 : tName 2 = name
  · exact fin 2 (by omega) (fun j hj => by rcases (show j = 0 ∨ j = 1 from by omega) with rfl | rfl; exact h0; exact h1) (fun _ => h2)
  by_cases h3 : tName 3 = name
  · exact fin 3 (by omega) (fun j hj => by rcases (show j = 0 ∨ j = 1 ∨ j = 2 from by omega) with rfl | rfl | rfl; exact h0; exact h1; exact h2) (fun _ => h3)
  · exact fin 4 (by omega) (fun j hj => by rcases (show j = 0 ∨ j = 1 ∨ j = 2 ∨ j = 3 from by omega) with rfl | rfl | rfl | rfl; exact h0; exact h1; exact h2; exact h3) (fun h => by omega)

set_option maxRecDepth 100000 in
theorem lifted (os : Os) (started : os.Started) (H : Type) (enc : TypeId × Value → H) :
    ReturnsInHanded {} Try.checked os 6 .any (Rows.fnExactTemperamentNamedSpec.pre6 enc Try.prog Try.f6 Rows.fnExactTemperamentNamedRow.domain false) (Rows.fnExactTemperamentNamedSpec.post enc Try.prog Try.f6 false true false false) := by
  refine returnsInHanded_of_change_shaped (C := Try.checked) own started (by kernel_rfl) Try.func6
    (ChangeSpec.witness6 (enc := enc) (C := Try.checked) false ⟨#[], #[.string ⟨#[]⟩], []⟩ 8 (by kernel_rfl) (by kernel_rfl) (by kernel_rfl) (by kernel_rfl)) ?_
  intro W base args ds gs before hval0 hW hcnd0 hsz0 hsh hholds
  have hval : ∀ (j : Nat) t v, Try.f6.params[j]? = some t → args[j]? = some v → Value.okWide Try.prog W .any base t v := hval0
  have hsz : (DataW.weightsEach Try.prog (Try.f6.params.toList ++ Rows.fnExactTemperamentNamedSpec.plain.varTypes Try.prog) (ds ++ gs)).all (· ≤ reachBytes) = true := hsz0
  clear hsz0 hcnd0 hholds hval0
  have hWW := hW
  obtain ⟨p, q, hA0, hV, rfl, hfz, hnd⟩ := hW
  have hA : DataW.TrodAll enc Try.prog W 0 (fun _ => true) true Try.f6.params.toList args.toList ds p := hA0
  clear hA0
  have hlt : ∀ x ∈ p ++ q, x.block < W.heap.size := fun x hx => hWW.lt x hx
  rw [Try.params6] at hA hval hsz
  obtain ⟨v0, vs0, d0, ds0, p0, q0, hargs, rfl, rfl, h0, r0⟩ := trodAll_cons hA
  obtain ⟨rfl, rfl, rfl⟩ := trodAll_nil r0
  obtain rfl : args = #[v0] := by cases args; simp_all
  obtain ⟨rfl, rfl⟩ := trodVars_none hV
  clear hargs hV hfz hnd
  have fin : ∀ W', Below W.heap.size W W' → Rows.fnExactTemperamentNamedSpec.post enc Try.prog Try.f6 false true false false W #[v0] (.bool true) W' := fun W' hb =>
    post_true (tb := 4) (by kernel_rfl) hWW rfl Try.underlying4 rfl rfl rfl rfl hb
  clear hWW
  obtain ⟨s0, rfl, rfl, rfl, w0⟩ := Go.ChangeMaps.open_string Try.underlying9 (hval 0 9 v0 rfl rfl) h0
  refine (walk s0 w0  (w := W)).mono fun e W' ⟨he, hb⟩ => ?_
  subst he
  exact ⟨_, rfl, fin _ hb⟩

/-- The statement. -/
theorem proved : Rows.FnExactTemperamentNamedSaid :=
  OpenClaim.holds_of_wide 6 Try.f6 rfl rfl rfl rfl rfl rfl rfl ⟨rfl, rfl, rfl, rfl, rfl⟩ rfl rfl rfl rfl rfl (by kernel_rfl) Try.func6 (by kernel_rfl)
    (of_decide_eq_true (by kernel_rfl)) (by unfold Func.isWrapper; first | (rw [if_pos (by decide +kernel)]; kernel_rfl) | (rw [if_neg (by decide +kernel)]; exact ⟨rfl, rfl⟩))
    (fun os started H enc _ => lifted os started H enc)
#print axioms proved
end Go.Proofs.Ytdpahmkcipfdaaa.fnExactTemperamentNamed
