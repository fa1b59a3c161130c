/- Plain laws of a text divided at each byte of one kind. -/
import Derived.Test.YtkbfmjnekeipcaaGreatDoorListP
import Derived.Lib.SplitLaws
import Derived.Lib.CutLaws
namespace Go.Proofs.YtkbfmjnekeipcaaGreatDoor
open Go.ChangeShapes Go.WideShapes Go.ChangeAt Go.RowKit
set_option maxRecDepth 100000

def pieces (c : UInt8) : List UInt8 → List (List UInt8)
  | [] => [[]]
  | b :: r => if b = c then [] :: pieces c r else match pieces c r with
    | [] => [[b]]
    | p :: ps => (b :: p) :: ps
def glue (a : List UInt8) : List (List UInt8) → List (List UInt8)
  | [] => [a]
  | p :: ps => (a ++ p) :: ps
theorem pc_hit (c : UInt8) (r : List UInt8) : pieces c (c :: r) = [] :: pieces c r := by rw [pieces, if_pos rfl]
theorem pc_miss {b c : UInt8} (r : List UInt8) (h : b ≠ c) : pieces c (b :: r) = glue [b] (pieces c r) := by
  rw [pieces, if_neg h]
  cases pieces c r <;> rfl
theorem pieces_ne (c : UInt8) (l : List UInt8) : pieces c l ≠ [] := by
  cases l with
  | nil => simp [pieces]
  | cons b r =>
    by_cases h : b = c
    · subst h; rw [pc_hit]; simp
    · rw [pc_miss r h]
      cases pieces c r <;> simp [glue]
theorem glue_nil {x : List (List UInt8)} (h : x ≠ []) : glue [] x = x := by
  cases x with
  | nil => exact absurd rfl h
  | cons p ps => rfl
theorem glue_glue (a b : List UInt8) (x : List (List UInt8)) : glue a (glue b x) = glue (a ++ b) x := by
  cases x with
  | nil => rfl
  | cons p ps => simp [glue]
theorem glue_hit (a : List UInt8) (c : UInt8) (r : List UInt8) : glue a (pieces c (c :: r)) = [a] ++ glue [] (pieces c r) := by
  rw [glue_nil (pieces_ne c r), pc_hit]
  simp [glue]
theorem glue_miss (a : List UInt8) {b c : UInt8} (r : List UInt8) (h : b ≠ c) : glue a (pieces c (b :: r)) = glue (a ++ [b]) (pieces c r) := by
  rw [pc_miss r h, glue_glue]
theorem pieces_none (c : UInt8) : ∀ l : List UInt8, (∀ k : Nat, l[k]? ≠ some c) → pieces c l = [l] := by
  intro l
  induction l with
  | nil => intro _; rfl
  | cons b r ih =>
    intro h
    have h0 : b ≠ c := fun e => h 0 (by rw [e]; rfl)
    have hr := ih fun k => by have := h (k + 1); rwa [List.getElem?_cons_succ] at this
    rw [pc_miss r h0, hr]
    rfl
theorem pieces_hit (c : UInt8) : ∀ (l : List UInt8) (i : Nat), l[i]? = some c → (∀ k, k < i → l[k]? ≠ some c) → pieces c l = l.take i :: pieces c (l.drop (i + 1)) := by
  intro l
  induction l with
  | nil => intro i h; simp at h
  | cons b r ih =>
    intro i h hk
    cases i with
    | zero =>
      obtain rfl : b = c := by simpa using h
      rw [pc_hit]
      rfl
    | succ i =>
      have h0 : b ≠ c := fun e => hk 0 (by omega) (by rw [e]; rfl)
      have hr := ih i (by rwa [List.getElem?_cons_succ] at h) fun k hki => by have := hk (k + 1) (by omega); rwa [List.getElem?_cons_succ] at this
      rw [pc_miss r h0, hr]
      rfl
/-- A text's parts. -/
def splitS (c : UInt8) (s : ByteArray) : List ByteArray := (pieces c (ofB s)).map toB
theorem ofB_toB (l : List UInt8) : ofB (toB l) = l := by simp [ofB, toB]
theorem splitS_ofB (c : UInt8) (s : ByteArray) : (splitS c s).map ofB = pieces c (ofB s) := by
  unfold splitS
  rw [List.map_map]
  conv => rhs; rw [← List.map_id (pieces c (ofB s))]
  apply List.map_congr_left
  intro l _
  exact ofB_toB l
theorem splitS_of {c : UInt8} {s : ByteArray} {os : List ByteArray} (h : os.map ofB = pieces c (ofB s)) : splitS c s = os := by
  unfold splitS
  rw [← h, List.map_map]
  conv => rhs; rw [← List.map_id os]
  apply List.map_congr_left
  intro b _
  exact toB_ofB b
theorem glue_len (a : List UInt8) {x : List (List UInt8)} (h : x ≠ []) : (glue a x).length = x.length := by
  cases x with
  | nil => exact absurd rfl h
  | cons p ps => rfl
theorem pieces_len (c : UInt8) : ∀ l : List UInt8, (pieces c l).length ≤ l.length + 1 := by
  intro l
  induction l with
  | nil => simp [pieces]
  | cons b r ih =>
    by_cases h : b = c
    · subst h
      rw [pc_hit]
      simp only [List.length_cons]
      omega
    · rw [pc_miss r h, glue_len _ (pieces_ne c r), List.length_cons]
      omega
theorem splitS_len (c : UInt8) (s : ByteArray) : (splitS c s).length ≤ s.size + 1 := by
  unfold splitS
  rw [List.length_map]
  exact pieces_len c (ofB s)
theorem splitS_pos (c : UInt8) (s : ByteArray) : 0 < (splitS c s).length := by
  unfold splitS
  rw [List.length_map]
  rcases Nat.eq_zero_or_pos (pieces c (ofB s)).length with h | h
  · exact absurd (List.length_eq_zero_iff.1 h) (pieces_ne _ _)
  · exact h
theorem ext_ofB (s : ByteArray) (a b : Nat) : ofB (s.extract a b) = ((ofB s).drop a).take (b - a) := by
  rw [Lib.extract_eq]
  simp [ofB]
/-- The reference's loop at byte k, the part begun at f. -/
def SpInv (c : UInt8) (s : ByteArray) (k f : Nat) (os : List ByteArray) : Prop :=
  f ≤ k ∧ k ≤ s.size ∧ os.length ≤ f ∧ pieces c (ofB s) = os.map ofB ++ glue (ofB (s.extract f k)) (pieces c ((ofB s).drop k))
theorem SpInv.start (c : UInt8) (s : ByteArray) : SpInv c s 0 0 [] := by
  refine ⟨Nat.le_refl _, Nat.zero_le _, Nat.le_refl _, ?_⟩
  rw [ext_ofB]
  simp only [List.drop_zero, List.map_nil, List.nil_append, Nat.sub_self, List.take_zero]
  exact (glue_nil (pieces_ne _ _)).symm
theorem drop_at {s : ByteArray} {k : Nat} (hk : k < s.size) : (ofB s).drop k = s[k] :: (ofB s).drop (k + 1) := List.drop_eq_getElem_cons hk
theorem SpInv.hit {c : UInt8} {s : ByteArray} {k f : Nat} {os : List ByteArray} (h : SpInv c s k f os) (hk : k < s.size) (hc : s[k] = c) : SpInv c s (k + 1) (k + 1) (os ++ [s.extract f k]) := by
  obtain ⟨h1, h2, h3, h4⟩ := h
  refine ⟨Nat.le_refl _, hk, by rw [List.length_append, List.length_singleton]; omega, ?_⟩
  rw [h4, drop_at hk, hc, glue_hit, ext_ofB s (k + 1) (k + 1)]
  simp
theorem SpInv.miss {c : UInt8} {s : ByteArray} {k f : Nat} {os : List ByteArray} (h : SpInv c s k f os) (hk : k < s.size) (hc : s[k] ≠ c) : SpInv c s (k + 1) f os := by
  obtain ⟨h1, h2, h3, h4⟩ := h
  refine ⟨by omega, hk, h3, ?_⟩
  have h5 : ofB (s.extract f (k + 1)) = ofB (s.extract f k) ++ [s[k]] := by
    rw [ext_ofB, ext_ofB, show k + 1 - f = (k - f) + 1 by omega, List.take_add_one, List.getElem?_drop, show f + (k - f) = k by omega, List.getElem?_eq_getElem (show k < (ofB s).length from hk)]
    rfl
  rw [h4, drop_at hk, glue_miss _ _ hc, h5]
theorem SpInv.end_ {c : UInt8} {s : ByteArray} {f : Nat} {os : List ByteArray} (h : SpInv c s s.size f os) : splitS c s = os ++ [s.extract f s.size] := by
  obtain ⟨h1, h2, h3, h4⟩ := h
  apply splitS_of
  rw [h4, List.drop_eq_nil_of_le (show (ofB s).length ≤ s.size from Nat.le_refl _)]
  simp [pieces, glue]

/-! ### The library's words -/
theorem index1 (s : ByteArray) (c : UInt8) : Lib.indexB s ⟨#[c]⟩ = Lib.indexByte (ofB s) c := Lib.index_one (ofB s) c
theorem sp_miss {s : ByteArray} {c : UInt8} (h : Lib.indexB s ⟨#[c]⟩ = -1) : pieces c (ofB s) = [ofB s] := by
  rw [index1] at h
  exact pieces_none c _ (Lib.indexByte_none h)
theorem sp_hit {s : ByteArray} {c : UInt8} {i : Nat} (h : Lib.indexB s ⟨#[c]⟩ = i) : pieces c (ofB s) = ofB (s.extract 0 i) :: pieces c (ofB (s.extract (i + 1) s.size)) := by
  rw [index1] at h
  obtain ⟨h1, h2⟩ := Lib.indexByte_some h
  have h3 : ofB (s.extract (i + 1) s.size) = (ofB s).drop (i + 1) := Lib.extract_to_end s (i + 1)
  rw [h3, ext_ofB]
  exact pieces_hit c _ i h1 h2
theorem split_lib (c : UInt8) : ∀ (k : Nat) (s : ByteArray), Lib.countB s ⟨#[c]⟩ = k → (Lib.splitB ⟨#[c]⟩ 0 k s).map ofB = pieces c (ofB s) := by
  intro k
  induction k with
  | zero =>
    intro s hk
    rcases Lib.indexB_cases s ⟨#[c]⟩ with h | ⟨i, h, _⟩
    · rw [Lib.splitB_zero, sp_miss h]; rfl
    · rw [Lib.countB_hit s ⟨#[c]⟩ i (Nat.le_refl _) h] at hk; omega
  | succ k ih =>
    intro s hk
    rcases Lib.indexB_cases s ⟨#[c]⟩ with h | ⟨i, h, _⟩
    · rw [Lib.countB_miss s _ h] at hk; omega
    · rw [Lib.countB_hit s ⟨#[c]⟩ i (Nat.le_refl _) h] at hk
      have h1 : (⟨#[c]⟩ : ByteArray).size = 1 := rfl
      rw [h1] at hk
      rw [Lib.splitB_hit _ _ _ _ i h, List.map_cons, h1, ih _ (by omega), sp_hit h]
      rfl
theorem split_is (c : UInt8) (s : ByteArray) : Lib.splitB ⟨#[c]⟩ 0 (Lib.countB s ⟨#[c]⟩) s = splitS c s := (splitS_of (split_lib c _ s rfl)).symm
theorem count_is (c : UInt8) (s : ByteArray) : Lib.countB s ⟨#[c]⟩ + 1 = (splitS c s).length := by
  rw [← split_is]
  exact (Lib.splitB_all ⟨#[c]⟩ (Nat.le_refl _) 0 _ s rfl).symm
/-! ### Words: the parts that are not empty -/
def wordsU (xs : List ByteArray) (k : Nat) : List ByteArray := (xs.take k).filter fun x => decide (x ≠ ⟨#[]⟩)
theorem wordsU_yes {xs : List ByteArray} {k : Nat} {x : ByteArray} (h : xs[k]? = some x) (hx : x ≠ ⟨#[]⟩) : wordsU xs k ++ [x] = wordsU xs (k + 1) := by
  unfold wordsU
  rw [List.take_add_one, h, List.filter_append]
  simp [hx]
theorem wordsU_no {xs : List ByteArray} {k : Nat} {x : ByteArray} (h : xs[k]? = some x) (hx : x = ⟨#[]⟩) : wordsU xs k = wordsU xs (k + 1) := by
  unfold wordsU
  rw [List.take_add_one, h, List.filter_append]
  simp [hx]
theorem wordsU_len (xs : List ByteArray) (k : Nat) : (wordsU xs k).length ≤ k := by
  unfold wordsU
  refine Nat.le_trans (List.length_filter_le _ _) ?_
  rw [List.length_take]
  omega
end Go.Proofs.YtkbfmjnekeipcaaGreatDoor
