/- Plain laws of the temperament with a text. -/
import Derived.Test.YtkbfmjnekeipcaaGreatDoorListW
import Derived.Test.YtkbfmjnekeipcaaGreatDoorTempT
namespace Go.Proofs.YtkbfmjnekeipcaaGreatDoor
open Go.ChangeShapes Go.WideShapes Go.ChangeAt Go.RowKit
set_option maxRecDepth 100000

theorem bytes_app (a b : ByteArray) : ofB (a ++ b) = ofB a ++ ofB b := by simp [ofB, ByteArray.data_append]
theorem no_in {c : UInt8} {l : List UInt8} (h : ∀ b ∈ l, b ≠ c) : ∀ k : Nat, l[k]? ≠ some c := fun _ hk => h c (List.mem_of_getElem? hk) rfl
theorem pieces2 {c : UInt8} {a b : List UInt8} (ha : ∀ x ∈ a, x ≠ c) (hb : ∀ x ∈ b, x ≠ c) : pieces c (a ++ c :: b) = [a, b] := by
  rw [pieces_hit c _ a.length (by simp) (fun k hk => by rw [List.getElem?_append_left hk]; exact no_in ha k)]
  rw [List.take_left, show (a ++ c :: b).drop (a.length + 1) = b by rw [← List.drop_drop, List.drop_left]; rfl, pieces_none c b (no_in hb)]
theorem index2 {c : UInt8} {a b : List UInt8} (ha : ∀ x ∈ a, x ≠ c) : Lib.indexByte (a ++ c :: b) c = a.length := by
  have hmid : (a ++ c :: b)[a.length]? = some c := by simp
  by_cases h : Lib.indexByte (a ++ c :: b) c = -1
  · exact absurd hmid (Lib.indexByte_none h _)
  · have h2 := Lib.indexByte_ge (a ++ c :: b) c
    obtain ⟨e1, e2⟩ := Lib.indexByte_some (l := a ++ c :: b) (c := c) (o := (Lib.indexByte (a ++ c :: b) c).toNat) (by omega)
    rcases Nat.lt_trichotomy (Lib.indexByte (a ++ c :: b) c).toNat a.length with h3 | h3 | h3
    · rw [List.getElem?_append_left h3] at e1
      exact absurd e1 (no_in ha _)
    · omega
    · exact absurd hmid (e2 _ h3)
def kutA (s : ByteArray) : ByteArray := ⟨(Lib.cut s.data.toList [32]).1.toArray⟩
def kutZ (s : ByteArray) : ByteArray := ⟨(Lib.cut s.data.toList [32]).2.1.toArray⟩
theorem kut_two {s a b : ByteArray} (h : ofB s = ofB a ++ 32 :: ofB b) (ha : ∀ x ∈ ofB a, x ≠ 32) : kutA s = a ∧ kutZ s = b := by
  have hi : Lib.indexB s ⟨#[32]⟩ = ((ofB a).length : Nat) := by rw [index1, h]; exact index2 ha
  obtain ⟨h1, h2, _⟩ := Lib.cutB_hit s ⟨#[32]⟩ _ hi
  refine ⟨h1.trans ?_, h2.trans ?_⟩
  · apply ba_ext
    show ofB (s.extract 0 (ofB a).length) = ofB a
    rw [ext_ofB, h, List.drop_zero, Nat.sub_zero, List.take_left]
  · apply ba_ext
    show ofB (s.extract ((ofB a).length + 1) s.size) = ofB b
    have h3 : ofB (s.extract ((ofB a).length + 1) s.size) = (ofB s).drop ((ofB a).length + 1) := Lib.extract_to_end s _
    rw [h3, h, ← List.drop_drop, List.drop_left]
    rfl
theorem kut_sizes (s : ByteArray) : (kutA s).size ≤ s.size ∧ (kutZ s).size ≤ s.size := by
  rcases Lib.indexB_cases s ⟨#[32]⟩ with h | ⟨i, h, hi⟩
  · obtain ⟨h1, h2, _⟩ := Lib.cutB_miss s ⟨#[32]⟩ h
    have e1 : kutA s = s := h1
    have e2 : kutZ s = ByteArray.empty := h2
    rw [e1, e2]
    exact ⟨Nat.le_refl _, Nat.zero_le _⟩
  · obtain ⟨h1, h2, _⟩ := Lib.cutB_hit s ⟨#[32]⟩ i h
    have e1 : kutA s = s.extract 0 i := h1
    have e2 : kutZ s = s.extract (i + 1) s.size := h2
    rw [e1, e2]
    constructor
    · have : (ofB (s.extract 0 i)).length ≤ (ofB s).length := by rw [ext_ofB, List.length_take, List.length_drop]; omega
      exact this
    · have : (ofB (s.extract (i + 1) s.size)).length ≤ (ofB s).length := by rw [ext_ofB, List.length_take, List.length_drop]; omega
      exact this
theorem join_mem {sep : List UInt8} {b : UInt8} : ∀ {xs : List (List UInt8)}, b ∈ Lib.join xs sep → b ∈ sep ∨ ∃ x ∈ xs, b ∈ x := by
  intro xs
  induction xs with
  | nil => intro h; rw [Lib.join_nil] at h; cases h
  | cons x r ih =>
    intro h
    cases r with
    | nil =>
      rw [Lib.join_one] at h
      exact .inr ⟨x, List.mem_cons_self, h⟩
    | cons y r' =>
      rw [Lib.join_cons, joinTail_cons] at h
      rcases List.mem_append.1 h with h | h
      · exact .inr ⟨x, List.mem_cons_self, h⟩
      · rcases List.mem_append.1 h with h | h
        · exact .inl h
        · rcases ih h with h | ⟨z, hz, hb⟩
          · exact .inl h
          · exact .inr ⟨z, List.mem_cons_of_mem _ hz, hb⟩
theorem dec_ne32 (q : Int) : ∀ x ∈ ofB (decS q), x ≠ 32 := by
  intro x hx e
  subst e
  have hx' : (32 : UInt8) ∈ Lib.itoa q := hx
  unfold Lib.itoa at hx'
  split at hx'
  · rcases List.mem_cons.1 hx' with h | h
    · exact absurd h (by decide)
    · exact absurd (dd_dig _ _ h).1 (by decide)
  · exact absurd (dd_dig _ _ hx').1 (by decide)
theorem listT_ne32 (zs : List Int) : ∀ x ∈ ofB (listT zs), x ≠ 32 := by
  intro x hx e
  subst e
  unfold listT at hx
  split at hx
  · have hx' : (32 : UInt8) ∈ [45] := hx
    exact absurd hx' (by decide)
  · have hx' : (32 : UInt8) ∈ Lib.join ((zs.map decS).map ofB) [44] := hx
    rcases join_mem hx' with h | ⟨y, hy, hb⟩
    · exact absurd h (by decide)
    · obtain ⟨z, hz, rfl⟩ := List.mem_map.1 hy
      obtain ⟨q, _, rfl⟩ := List.mem_map.1 hz
      exact dec_ne32 q 32 hb rfl
theorem name_ne32 {s : ByteArray} (h : nameB s = true) : ∀ x ∈ ofB s, x ≠ 32 := by
  have h1 : nameP s := by
    apply Classical.byContradiction
    intro h2
    rw [nameB_false h2] at h
    cases h
  intro x hx e
  subst e
  obtain ⟨k, hk, hkx⟩ := List.getElem_of_mem hx
  have hk' : k < s.size := hk
  have hg := h1.2.2 k hk' hk'
  have hsk : s[k] = 32 := hkx
  rw [hsk] at hg
  unfold letterP digitP at hg
  have : ((32 : UInt8).toNat : Int) = 32 := rfl
  rw [this] at hg
  omega
def isTmp (s nm : ByteArray) (zs : List Int) : Prop := tempB nm zs = true ∧ tempT nm zs = s
def wd0 (s : ByteArray) : ByteArray := (splitS 32 s).getD 0 ⟨#[]⟩
def wd1 (s : ByteArray) : ByteArray := (splitS 32 s).getD 1 ⟨#[]⟩
theorem tmp_parts {s nm : ByteArray} {zs : List Int} (h : isTmp s nm zs) : splitS 32 s = [nm, listT zs] ∧ kutA s = nm ∧ kutZ s = listT zs ∧ lstV (listT zs) = zs ∧ lstB (listT zs) = true := by
  obtain ⟨h1, h2⟩ := h
  obtain ⟨v1, v2, v3⟩ := temp_vals h1
  have hn : nameB nm = true := by
    unfold tempB at h1
    rw [Bool.and_eq_true] at h1
    exact h1.1
  have hs : ofB s = ofB nm ++ 32 :: ofB (listT zs) := by
    rw [← h2]
    unfold tempT
    rw [bytes_app, bytes_app]
    simp [ofB]
  have hsp : splitS 32 s = [nm, listT zs] := by
    apply splitS_of
    rw [hs, pieces2 (name_ne32 hn) (listT_ne32 zs)]
    rfl
  obtain ⟨k1, k2⟩ := kut_two hs (name_ne32 hn)
  have hf : fitsB zs = true := by unfold fitsB; rw [v2, v1]; rfl
  obtain ⟨l1, l2⟩ := lst_yes (s := listT zs) (zs := zs) ⟨hf, rfl⟩
  exact ⟨hsp, k1, k2, l1, l2⟩
theorem lst_is {s : ByteArray} (h : lstB s = true) : isLst s (lstV s) := by
  by_cases he : ∃ zs, isLst s zs
  · obtain ⟨zs, hz⟩ := he
    rw [(lst_yes hz).1]
    exact hz
  · have : lstB s = false := @decide_eq_false _ (Classical.propDecidable _) he
    rw [this] at h
    cases h
theorem tmp_spec {s nm os : ByteArray} (hsp : splitS 32 s = [nm, os]) (hl : lstB os = true) (ht : tempB nm (lstV os) = true) : isTmp s nm (lstV os) := by
  refine ⟨ht, ?_⟩
  have h1 := (lst_is hl).2
  unfold tempT
  rw [h1]
  have hj := joinB_split 32 s
  rw [hsp] at hj
  have h2 : joinB [nm, os] ⟨#[32]⟩ = nm ++ ⟨#[32]⟩ ++ os := by
    have := joinB_succ (xs := [nm]) (by simp) os ⟨#[32]⟩
    rw [joinB_one] at this
    exact this.symm
  rw [← h2]
  exact hj
noncomputable def tmOK (s : ByteArray) : Bool := @decide (∃ nm zs, isTmp s nm zs) (Classical.propDecidable _)
noncomputable def tmN (s : ByteArray) : ByteArray := if tmOK s then kutA s else ⟨#[]⟩
noncomputable def tmZ (s : ByteArray) : List Int := if tmOK s then lstV (kutZ s) else []
theorem tmp_yes {s nm : ByteArray} {zs : List Int} (h : isTmp s nm zs) : tmN s = nm ∧ tmZ s = zs ∧ tmOK s = true := by
  have h1 : tmOK s = true := @decide_eq_true _ (Classical.propDecidable _) ⟨nm, zs, h⟩
  obtain ⟨_, k1, k2, l1, _⟩ := tmp_parts h
  refine ⟨by unfold tmN; rw [h1, if_pos rfl]; exact k1, by unfold tmZ; rw [h1, if_pos rfl, k2]; exact l1, h1⟩
theorem tmp_no {s : ByteArray} (h : ∀ nm zs, ¬ isTmp s nm zs) : tmN s = ⟨#[]⟩ ∧ tmZ s = [] ∧ tmOK s = false := by
  have h1 : tmOK s = false := @decide_eq_false _ (Classical.propDecidable _) (fun ⟨a, b, hab⟩ => h a b hab)
  exact ⟨by unfold tmN; rw [h1]; rfl, by unfold tmZ; rw [h1]; rfl, h1⟩
theorem tmp_impl_yes {s : ByteArray} (ht : tempB (kutA s) (lstV (kutZ s)) = true) (h : tempS (kutA s) (lstV (kutZ s)) = s) : tmN s = kutA s ∧ tmZ s = lstV (kutZ s) ∧ tmOK s = true := by
  refine tmp_yes ⟨ht, ?_⟩
  unfold tempS at h
  rw [if_pos ht] at h
  exact h
theorem tmp_impl_no {s : ByteArray} (h : tempB (kutA s) (lstV (kutZ s)) = false ∨ tempS (kutA s) (lstV (kutZ s)) ≠ s) : tmN s = ⟨#[]⟩ ∧ tmZ s = [] ∧ tmOK s = false :=
  tmp_no fun nm zs hz => by
    obtain ⟨_, k1, k2, l1, _⟩ := tmp_parts hz
    rw [k1, k2, l1] at h
    rcases h with h | h
    · rw [hz.1] at h; cases h
    · apply h
      unfold tempS
      rw [if_pos hz.1]
      exact hz.2
theorem tmp_spec_no {s : ByteArray} (h : ∀ nm os, splitS 32 s = [nm, os] → lstB os = false ∨ tempB nm (lstV os) = false) : tmN s = ⟨#[]⟩ ∧ tmZ s = [] ∧ tmOK s = false :=
  tmp_no fun nm zs hz => by
    obtain ⟨k0, _, _, l1, l2⟩ := tmp_parts hz
    rcases h nm (listT zs) k0 with h | h
    · rw [l2] at h; cases h
    · rw [l1, hz.1] at h; cases h
theorem tmZ_len (s : ByteArray) : (tmZ s).length ≤ 64 := by
  unfold tmZ
  split
  · exact lst_len _
  · exact Nat.zero_le _
theorem tmN_size (s : ByteArray) : (tmN s).size ≤ s.size := by
  unfold tmN
  split
  · exact (kut_sizes s).1
  · exact Nat.zero_le _
end Go.Proofs.YtkbfmjnekeipcaaGreatDoor
