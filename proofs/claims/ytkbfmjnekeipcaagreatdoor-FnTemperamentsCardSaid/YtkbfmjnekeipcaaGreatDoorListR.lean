/- Plain laws and contracts of the list with a text. -/
import Derived.Test.YtkbfmjnekeipcaaGreatDoorListT
import Derived.Test.YtkbfmjnekeipcaaGreatDoorSplitS
import Derived.Test.YtkbfmjnekeipcaaGreatDoorNumS
import Derived.Test.YtkbfmjnekeipcaaGreatDoorNumI
namespace Go.Proofs.YtkbfmjnekeipcaaGreatDoor
open Go.ChangeShapes Go.WideShapes Go.ChangeAt Go.RowKit
set_option maxRecDepth 100000

theorem joinTail_cons (sep y : List UInt8) (r : List (List UInt8)) : Lib.joinTail sep (y :: r) = sep ++ Lib.join (y :: r) sep := by
  rw [Lib.join_cons]
  simp [Lib.joinTail]
theorem join_glue (c b : UInt8) {x : List (List UInt8)} (h : x ≠ []) : Lib.join (glue [b] x) [c] = b :: Lib.join x [c] := by
  cases x with
  | nil => exact absurd rfl h
  | cons p ps =>
    show Lib.join (([b] ++ p) :: ps) [c] = _
    rw [Lib.join_cons, Lib.join_cons]
    rfl
theorem join_pieces (c : UInt8) : ∀ l : List UInt8, Lib.join (pieces c l) [c] = l := by
  intro l
  induction l with
  | nil => rfl
  | cons b r ih =>
    by_cases h : b = c
    · subst h
      rw [pc_hit, Lib.join_cons]
      cases hp : pieces b r with
      | nil => exact absurd hp (pieces_ne _ _)
      | cons y ys =>
        rw [joinTail_cons, ← hp, ih]
        rfl
    · rw [pc_miss r h, join_glue c b (pieces_ne c r), ih]
theorem pieces_join (c : UInt8) : ∀ (xs : List (List UInt8)), xs ≠ [] → (∀ x ∈ xs, ∀ b ∈ x, b ≠ c) → pieces c (Lib.join xs [c]) = xs := by
  intro xs
  induction xs with
  | nil => intro h _; exact absurd rfl h
  | cons x r ih =>
    intro _ hc
    have hx : ∀ k : Nat, x[k]? ≠ some c := fun _ hk => hc x List.mem_cons_self c (List.mem_of_getElem? hk) rfl
    cases r with
    | nil => rw [Lib.join_one, pieces_none c x hx]
    | cons y r' =>
      rw [Lib.join_cons, joinTail_cons]
      show pieces c (x ++ c :: Lib.join (y :: r') [c]) = _
      rw [pieces_hit c _ x.length (by simp) (fun k hk => by rw [List.getElem?_append_left hk]; exact hx k), List.take_left, ← List.drop_drop, List.drop_left]
      show x :: pieces c (Lib.join (y :: r') [c]) = _
      rw [ih (by simp) (fun z hz => hc z (List.mem_cons_of_mem _ hz))]
theorem splitS_join (c : UInt8) {xs : List ByteArray} (h : xs ≠ []) (hc : ∀ x ∈ xs, ∀ b ∈ ofB x, b ≠ c) : splitS c (joinB xs ⟨#[c]⟩) = xs := by
  apply splitS_of
  refine (pieces_join c (xs.map ofB) (by simpa using h) ?_).symm
  intro x hx
  obtain ⟨y, hy, rfl⟩ := List.mem_map.1 hx
  exact hc y hy
theorem joinB_split (c : UInt8) (s : ByteArray) : joinB (splitS c s) ⟨#[c]⟩ = s := by
  unfold joinB
  rw [splitS_ofB]
  apply ba_ext
  exact join_pieces c (ofB s)
theorem pieces_mem (c : UInt8) : ∀ (l : List UInt8), ∀ x ∈ pieces c l, x.length ≤ l.length := by
  intro l
  induction l with
  | nil => intro x hx; have : x = [] := by simpa [pieces] using hx
           rw [this]; exact Nat.le_refl _
  | cons b r ih =>
    intro x hx
    by_cases h : b = c
    · subst h
      rw [pc_hit] at hx
      rcases List.mem_cons.1 hx with rfl | hx
      · exact Nat.zero_le _
      · have := ih x hx; rw [List.length_cons]; omega
    · rw [pc_miss r h] at hx
      cases hp : pieces c r with
      | nil => exact absurd hp (pieces_ne c r)
      | cons p ps =>
        rw [hp] at hx ih
        rcases List.mem_cons.1 hx with rfl | hx
        · have := ih p List.mem_cons_self
          simp only [List.length_append, List.length_cons, List.length_nil]
          omega
        · have := ih x (List.mem_cons_of_mem _ hx)
          rw [List.length_cons]; omega
theorem split_mem {c : UInt8} {s x : ByteArray} (h : x ∈ splitS c s) : x.size ≤ s.size := by
  unfold splitS at h
  obtain ⟨l, hl, rfl⟩ := List.mem_map.1 h
  exact pieces_mem c (ofB s) l hl
theorem dec_dig44 (q : Int) : ∀ x ∈ ofB (decS q), x ≠ 44 := by
  intro x hx e
  subst e
  have hx' : (44 : UInt8) ∈ Lib.itoa q := hx
  unfold Lib.itoa at hx'
  split at hx'
  · rcases List.mem_cons.1 hx' with h | h
    · exact absurd h (by decide)
    · exact absurd (dd_dig _ _ h).1 (by decide)
  · exact absurd (dd_dig _ _ hx').1 (by decide)
def isLst (s : ByteArray) (zs : List Int) : Prop := fitsB zs = true ∧ listT zs = s
def dash : ByteArray := ⟨#[45]⟩
theorem fits_parts {zs : List Int} (h : fitsB zs = true) : zs.all valB = true ∧ zs.length ≤ 64 := by simpa only [fitsB, Bool.and_eq_true, decide_eq_true_eq] using h
theorem numB_dash : numB dash = false := numB_no fun h => by
  have h1 := h.1
  have h2 : numAt dash = 1 := rfl
  rw [h2] at h1
  exact absurd h1 (by decide)
theorem map_num {zs : List Int} (h : zs.all valB = true) : (zs.map decS).map numV = zs := by
  rw [List.map_map]
  conv => rhs; rw [← List.map_id zs]
  apply List.map_congr_left
  intro z hz
  have := inB_iff.1 (List.all_eq_true.1 h z hz)
  exact (num_complete (s := decS z) rfl (by omega) (by omega)).2
theorem lst_parts {s : ByteArray} {zs : List Int} (h : isLst s zs) : (s = dash → zs = []) ∧ (s ≠ dash → splitS 44 s = zs.map decS ∧ (splitS 44 s).map numV = zs) := by
  obtain ⟨h1, h2⟩ := h
  obtain ⟨f1, f2⟩ := fits_parts h1
  by_cases hz : zs = []
  · subst hz
    exact ⟨fun _ => rfl, fun hne => absurd h2.symm hne⟩
  · have hT : listL zs = s := by unfold listT at h2; rw [if_neg hz] at h2; exact h2
    have hsp : splitS 44 s = zs.map decS := by
      rw [← hT]
      exact splitS_join 44 (by simpa using hz) (fun x hx b hb => by
        obtain ⟨z, _, rfl⟩ := List.mem_map.1 hx
        exact dec_dig44 z b hb)
    refine ⟨fun hd => ?_, fun _ => ⟨hsp, by rw [hsp]; exact map_num f1⟩⟩
    exfalso
    have h3 : splitS 44 dash = [dash] := rfl
    rw [hd, h3] at hsp
    cases zs with
    | nil => exact hz rfl
    | cons z r =>
      simp only [List.map_cons, List.cons.injEq] at hsp
      have := inB_iff.1 (List.all_eq_true.1 f1 z List.mem_cons_self)
      have h4 := (num_complete (s := dash) hsp.1.symm (by omega) (by omega)).1
      rw [numB_dash] at h4
      cases h4
def okW (x : ByteArray) : Prop := numB x = true ∧ valB (numV x) = true
theorem lst_spec {s : ByteArray} (hl : (splitS 44 s).length ≤ 64) (h : ∀ x ∈ splitS 44 s, okW x) : isLst s ((splitS 44 s).map numV) := by
  have hd : ((splitS 44 s).map numV).map decS = splitS 44 s := by
    rw [List.map_map]
    conv => rhs; rw [← List.map_id (splitS 44 s)]
    apply List.map_congr_left
    intro x hx
    exact (num_sound (h x hx).1).1
  refine ⟨?_, ?_⟩
  · unfold fitsB
    rw [Bool.and_eq_true, decide_eq_true_eq]
    refine ⟨?_, by rw [List.length_map]; exact hl⟩
    rw [List.all_eq_true]
    intro z hz
    obtain ⟨x, hx, rfl⟩ := List.mem_map.1 hz
    exact (h x hx).2
  · unfold listT
    rw [if_neg (fun e => by have := splitS_pos 44 s; rw [← List.length_map (f := numV), e] at this; cases this)]
    unfold listL
    rw [hd]
    exact joinB_split 44 s
theorem lst_okW {s : ByteArray} {zs : List Int} (h : isLst s zs) (hne : s ≠ dash) : (splitS 44 s).length ≤ 64 ∧ ∀ x ∈ splitS 44 s, okW x := by
  obtain ⟨f1, f2⟩ := fits_parts h.1
  obtain ⟨e1, e2⟩ := (lst_parts h).2 hne
  refine ⟨by rw [e1, List.length_map]; exact f2, fun x hx => ?_⟩
  rw [e1] at hx
  obtain ⟨z, hz, rfl⟩ := List.mem_map.1 hx
  have hv := List.all_eq_true.1 f1 z hz
  have := inB_iff.1 hv
  obtain ⟨n1, n2⟩ := num_complete (s := decS z) rfl (by omega) (by omega)
  exact ⟨n1, by rw [n2]; exact hv⟩
theorem lst_impl {s : ByteArray} (h : listS ((splitS 44 s).map numV) = s) : isLst s ((splitS 44 s).map numV) := by
  cases hf : fitsB ((splitS 44 s).map numV) with
  | true =>
    refine ⟨hf, ?_⟩
    unfold listS at h
    rw [hf, if_pos rfl] at h
    exact h
  | false =>
    exfalso
    unfold listS at h
    rw [hf] at h
    have hs : s = ⟨#[]⟩ := h.symm
    have h1 : splitS 44 s = [⟨#[]⟩] := by rw [hs]; rfl
    have h2 : numV ⟨#[]⟩ = 0 := (numV_no fun h => by have := h.1; exact absurd this (by show ¬ (numAt ⟨#[]⟩ < 0); omega)).1
    rw [h1, List.map_cons, List.map_nil, h2] at hf
    exact absurd hf (by decide)
noncomputable def lstB (s : ByteArray) : Bool := @decide (∃ zs, isLst s zs) (Classical.propDecidable _)
noncomputable def lstV (s : ByteArray) : List Int := if lstB s then (if s = dash then [] else (splitS 44 s).map numV) else []
theorem lst_yes {s : ByteArray} {zs : List Int} (h : isLst s zs) : lstV s = zs ∧ lstB s = true := by
  have h1 : lstB s = true := @decide_eq_true _ (Classical.propDecidable _) ⟨zs, h⟩
  refine ⟨?_, h1⟩
  unfold lstV
  rw [h1, if_pos rfl]
  by_cases hd : s = dash
  · rw [if_pos hd]; exact ((lst_parts h).1 hd).symm
  · rw [if_neg hd]; exact ((lst_parts h).2 hd).2
theorem lst_no {s : ByteArray} (h : ∀ zs, ¬ isLst s zs) : lstV s = [] ∧ lstB s = false := by
  have h1 : lstB s = false := @decide_eq_false _ (Classical.propDecidable _) (fun ⟨t, ht⟩ => h t ht)
  exact ⟨by unfold lstV; rw [h1]; rfl, h1⟩
theorem lst_dash : lstV dash = [] ∧ lstB dash = true := lst_yes (zs := []) ⟨rfl, rfl⟩
theorem lst_len (s : ByteArray) : (lstV s).length ≤ 64 := by
  cases h : lstB s with
  | false => unfold lstV; rw [h]; exact Nat.zero_le _
  | true =>
    by_cases he : ∃ zs, isLst s zs
    · obtain ⟨zs, hz⟩ := he
      rw [(lst_yes hz).1]
      exact (fits_parts hz.1).2
    · have : lstB s = false := @decide_eq_false _ (Classical.propDecidable _) he
      rw [this] at h
      cases h
/-- A list in new memory, and whether there is one. -/
def LstRet (w : World) (zs : List Int) (b : Bool) (e : Ending) (w' : World) : Prop :=
  ∃ A n c, e = .returned (.tuple #[.slice A n c, .bool b]) ∧ w'.ownsRow w.heap.size 2 1 (.slice A n c) n (zs.map (Value.int .i64)) ∧ Below w.heap.size w w'
theorem LstRet.none_ {w w' : World} {zs : List Int} {b c : Bool} (h : zs = []) (hb : b = c) (hB : Below w.heap.size w w') : LstRet w zs b (.returned (.tuple #[.slice none 0 0, .bool c])) w' := by
  subst h
  subst hb
  exact ⟨none, 0, 0, rfl, World.ownsRow_nil _ _ _ _, hB⟩
noncomputable def numU (xs : List ByteArray) (k : Nat) : List Value := ((xs.take k).map numV).map (Value.int .i64)
theorem numU_succ {xs : List ByteArray} {k : Nat} {x : ByteArray} (h : xs[k]? = some x) : numU xs k ++ [.int .i64 (numV x)] = numU xs (k + 1) := by
  unfold numU
  rw [List.take_add_one, h, List.map_append, List.map_append]
  rfl
theorem numU_all {xs : List ByteArray} {n : Nat} (h : xs.length = n) : numU xs n = (xs.map numV).map (Value.int .i64) := by
  unfold numU
  rw [List.take_of_length_le (by omega)]
theorem okW_succ {xs : List ByteArray} {k : Nat} {x : ByteArray} (h : ∀ (j : Nat) y, j < k → xs[j]? = some y → okW y) (hx : xs[k]? = some x) (ho : okW x) : ∀ (j : Nat) y, j < k + 1 → xs[j]? = some y → okW y := by
  intro j y hj hy
  rcases Nat.lt_or_eq_of_le (Nat.le_of_lt_succ hj) with h1 | rfl
  · exact h j y h1 hy
  · rw [hx] at hy; cases hy; exact ho
theorem okW_all {xs : List ByteArray} {n : Nat} (hl : xs.length = n) (h : ∀ (j : Nat) y, j < n → xs[j]? = some y → okW y) : ∀ x ∈ xs, okW x := by
  intro x hx
  obtain ⟨j, hj, rfl⟩ := List.getElem_of_mem hx
  exact h j _ (by omega) (List.getElem?_eq_getElem hj)
theorem iV_new (w : World) (base g : Nat) (hg : g = w.heap.size) (hb : base ≤ g) : (w.alloc (.cells #[] 2)).ownsRow base 2 1 (.slice (some ⟨g, 0, none⟩) 0 0) 0 ([] : List Value) := by
  subst hg
  exact ⟨by simp, .inr ⟨w.heap.size, 0, #[], rfl, hb, heap_alloc_new w _, Nat.le_refl _, by unfold maxLen; omega, by simp, by simp⟩⟩
end Go.Proofs.YtkbfmjnekeipcaaGreatDoor
