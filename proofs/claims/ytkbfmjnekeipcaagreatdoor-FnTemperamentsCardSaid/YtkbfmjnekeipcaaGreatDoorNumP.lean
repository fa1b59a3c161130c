/- Plain laws of reading a decimal number. -/
import Derived.Test.YtkbfmjnekeipcaaGreatDoorCents
namespace Go.Proofs.YtkbfmjnekeipcaaGreatDoor
open Go.ChangeShapes Go.WideShapes Go.ChangeAt Go.RowKit
set_option maxRecDepth 100000

def valL (l : List UInt8) : Nat := l.foldl (fun a b => 10 * a + (b.toNat - 48)) 0
def digB (b : UInt8) : Prop := 48 ≤ b.toNat ∧ b.toNat ≤ 57
theorem valL_snoc (l : List UInt8) (b : UInt8) : valL (l ++ [b]) = 10 * valL l + (b.toNat - 48) := by simp [valL]
theorem digN (d : Nat) (h : d < 10) : (UInt8.ofNat (48 + d)).toNat = 48 + d := by rw [UInt8.toNat_ofNat']; omega
theorem ddM {u : Nat} (h : ¬ u < 10) : Lib.decDigits u = Lib.decDigits (u / 10) ++ [UInt8.ofNat (48 + u % 10)] := by rw [Lib.decDigits, dif_neg h]
theorem dd1 {u : Nat} (h : u < 10) : Lib.decDigits u = [UInt8.ofNat (48 + u)] := by rw [Lib.decDigits, dif_pos h]
theorem dd_rec {p : Nat → Prop} (h1 : ∀ u, u < 10 → p u) (h2 : ∀ u, ¬ u < 10 → p (u / 10) → p u) : ∀ u, p u := by
  intro u
  induction u using Nat.strongRecOn with
  | ind u ih =>
    by_cases h : u < 10
    · exact h1 u h
    · exact h2 u h (ih (u / 10) (by omega))
theorem dd_dig : ∀ u b, b ∈ Lib.decDigits u → digB b := by
  refine dd_rec (p := fun u => ∀ b, b ∈ Lib.decDigits u → digB b) (fun u h b hb => ?_) (fun u h ih b hb => ?_)
  · rw [dd1 h, List.mem_singleton] at hb
    subst hb
    have := digN u h
    unfold digB
    omega
  · rw [ddM h, List.mem_append, List.mem_singleton] at hb
    rcases hb with hb | rfl
    · exact ih b hb
    · have := digN (u % 10) (by omega)
      unfold digB
      omega
theorem dd_val : ∀ u, valL (Lib.decDigits u) = u := by
  refine dd_rec (p := fun u => valL (Lib.decDigits u) = u) (fun u h => ?_) (fun u h ih => ?_)
  · rw [dd1 h]
    show 10 * 0 + ((UInt8.ofNat (48 + u)).toNat - 48) = u
    rw [digN u h]; omega
  · rw [ddM h, valL_snoc, ih, digN (u % 10) (by omega)]
    omega
theorem dd_ne (u : Nat) : Lib.decDigits u ≠ [] := by
  intro h0
  rw [Lib.decDigits] at h0
  split at h0 <;> simp at h0
theorem dd_head : ∀ u, 1 ≤ u → ∃ b r, Lib.decDigits u = b :: r ∧ b.toNat ≠ 48 := by
  refine dd_rec (p := fun u => 1 ≤ u → ∃ b r, Lib.decDigits u = b :: r ∧ b.toNat ≠ 48) (fun u h h1 => ?_) (fun u h ih h1 => ?_)
  · refine ⟨_, _, dd1 h, ?_⟩
    rw [digN u h]; omega
  · obtain ⟨b, r, hr, hb⟩ := ih (by omega)
    refine ⟨b, r ++ [UInt8.ofNat (48 + u % 10)], ?_, hb⟩
    rw [ddM h, hr]
    rfl
theorem rev_ind {p : List UInt8 → Prop} (h0 : p []) (h1 : ∀ l b, p l → p (l ++ [b])) : ∀ l, p l := by
  have key : ∀ l : List UInt8, p l.reverse := by
    intro l
    induction l with
    | nil => exact h0
    | cons b r ih => rw [List.reverse_cons]; exact h1 _ _ ih
  intro l
  have := key l.reverse
  rwa [List.reverse_reverse] at this
/-- A row of digits without a leading zero is the row of its number. -/
theorem dd_of (l : List UInt8) : (∀ b ∈ l, digB b) → l ≠ [] → (l.length = 1 ∨ ∀ b r, l = b :: r → b.toNat ≠ 48) → Lib.decDigits (valL l) = l ∧ ((∀ b r, l = b :: r → b.toNat ≠ 48) → 1 ≤ valL l) := by
  revert l
  refine rev_ind ?_ ?_
  · intro _ h; exact absurd rfl h
  · intro l d ih hd _ hh
    have hdd : digB d := hd d (by simp)
    obtain ⟨d1, d2⟩ := hdd
    rw [valL_snoc]
    by_cases hl : l = []
    · subst hl
      have h1 : 10 * valL [] + (d.toNat - 48) = d.toNat - 48 := by show 10 * 0 + _ = _; omega
      rw [h1, dd1 (by omega), show 48 + (d.toNat - 48) = d.toNat by omega]
      refine ⟨by simp, fun h2 => ?_⟩
      have := h2 d [] rfl
      omega
    · have hh' : ∀ b r, l ++ [d] = b :: r → b.toNat ≠ 48 := by
        rcases hh with h | h
        · exfalso
          rw [List.length_append] at h
          have : l.length = 0 := by simpa using h
          exact hl (List.length_eq_zero_iff.1 this)
        · exact h
      have hhl : ∀ b r, l = b :: r → b.toNat ≠ 48 := fun b r e => hh' b (r ++ [d]) (by rw [e]; rfl)
      obtain ⟨i1, i2⟩ := ih (fun b hb => hd b (by simp [hb])) hl (.inr hhl)
      have i3 := i2 hhl
      refine ⟨?_, fun _ => by omega⟩
      rw [ddM (by omega), show (10 * valL l + (d.toNat - 48)) / 10 = valL l by omega, i1, show (10 * valL l + (d.toNat - 48)) % 10 = d.toNat - 48 by omega, show 48 + (d.toNat - 48) = d.toNat by omega]
      simp
theorem valL_lt (l : List UInt8) : (∀ b ∈ l, digB b) → valL l < 10 ^ l.length := by
  revert l
  refine rev_ind ?_ ?_
  · intro _; exact Nat.one_pos
  · intro l d ih hd
    obtain ⟨d1, d2⟩ := hd d (by simp)
    have := ih fun b hb => hd b (by simp [hb])
    rw [valL_snoc, List.length_append, List.length_singleton, Nat.pow_succ]
    omega

/-! ### A text -/
def bt (s : ByteArray) (k : Nat) : Nat := (s.data.toList[k]?.getD 0).toNat
theorem bt_eq {s : ByteArray} {k : Nat} (h : k < s.size) : (s[k].toNat : Int) = (bt s k : Int) := by
  unfold bt
  have h1 : s.data.toList[k]? = some s[k] := by
    rw [List.getElem?_eq_getElem (by exact h)]
    rfl
  rw [h1]
  rfl
theorem bt_lt (s : ByteArray) (k : Nat) : bt s k < 256 := UInt8.toNat_lt _
def valTo (s : ByteArray) (a k : Nat) : Nat := valL ((s.data.toList.take k).drop a)
theorem size_len (s : ByteArray) : s.data.toList.length = s.size := rfl
theorem valTo_self (s : ByteArray) (a : Nat) : valTo s a a = 0 := by
  unfold valTo
  rw [List.drop_eq_nil_of_le (by rw [List.length_take]; omega)]
  rfl
theorem valTo_succ {s : ByteArray} {a k : Nat} (ha : a ≤ k) (hk : k < s.size) : valTo s a (k + 1) = 10 * valTo s a k + (bt s k - 48) := by
  unfold valTo
  have h1 : s.data.toList[k]? = some (s.data.toList[k]'hk) := List.getElem?_eq_getElem hk
  rw [List.take_add_one, h1, List.drop_append_of_le_length (by rw [List.length_take, size_len]; omega)]
  show valL (_ ++ [_]) = _
  rw [valL_snoc]
  unfold bt
  rw [h1]
  rfl
def digTo (s : ByteArray) (a k : Nat) : Prop := ∀ j, a ≤ j → j < k → 48 ≤ bt s j ∧ bt s j ≤ 57
theorem digTo_succ {s : ByteArray} {a k : Nat} (h : digTo s a k) (h1 : 48 ≤ bt s k) (h2 : bt s k ≤ 57) : digTo s a (k + 1) := by
  intro j hj hk
  rcases Nat.lt_or_eq_of_le (Nat.le_of_lt_succ hk) with h3 | rfl
  · exact h j hj h3
  · exact ⟨h1, h2⟩
theorem digTo_list {s : ByteArray} {a k : Nat} (h : digTo s a k) (hk : k ≤ s.size) : ∀ b ∈ (s.data.toList.take k).drop a, digB b := by
  intro b hb
  obtain ⟨i, hi, rfl⟩ := List.getElem_of_mem hb
  rw [List.length_drop, List.length_take, size_len] at hi
  have h1 := h (a + i) (by omega) (by omega)
  unfold bt at h1
  rw [List.getElem_drop, List.getElem_take]
  rw [List.getElem?_eq_getElem (by rw [size_len]; omega)] at h1
  exact h1
theorem valTo_lt {s : ByteArray} {a k : Nat} (h : digTo s a k) (hk : k ≤ s.size) : valTo s a k < 10 ^ (k - a) := by
  have h1 := valL_lt _ (digTo_list h hk)
  rw [List.length_drop, List.length_take, size_len, Nat.min_eq_left hk] at h1
  exact h1
theorem valTo_le {s : ByteArray} {a k : Nat} (h : digTo s a k) (hk : k < s.size) (h18 : s.size ≤ a + 18) : valTo s a k ≤ 100000000000000000 := by
  have h1 := valTo_lt h (Nat.le_of_lt hk)
  have h2 : 10 ^ (k - a) ≤ 10 ^ 17 := Nat.pow_le_pow_right (by omega) (by omega)
  have h3 : (10 : Nat) ^ 17 = 100000000000000000 := rfl
  omega
def numOK (s : ByteArray) (a : Nat) : Prop := a < s.size ∧ s.size ≤ a + 18 ∧ ¬ (bt s a = 48 ∧ 1 < s.size) ∧ digTo s a s.size
def numAt (s : ByteArray) : Nat := if bt s 0 = 45 then 1 else 0
noncomputable def numB (s : ByteArray) : Bool := @decide (numOK s (numAt s)) (Classical.propDecidable _)
noncomputable def numV (s : ByteArray) : Int := if numB s then (if numAt s = 1 then -(valTo s (numAt s) s.size : Int) else (valTo s (numAt s) s.size : Int)) else 0
theorem numB_no {s : ByteArray} (h : ¬ numOK s (numAt s)) : numB s = false := @decide_eq_false _ (Classical.propDecidable _) h
theorem numB_yes {s : ByteArray} (h : numOK s (numAt s)) : numB s = true := @decide_eq_true _ (Classical.propDecidable _) h
theorem numB_ok {s : ByteArray} (h : numB s = true) : numOK s (numAt s) := by
  apply Classical.byContradiction
  intro h1
  rw [numB_no h1] at h
  cases h
theorem numV_no {s : ByteArray} (h : ¬ numOK s (numAt s)) : numV s = 0 ∧ numB s = false := by
  refine ⟨?_, numB_no h⟩
  unfold numV
  rw [numB_no h]
  rfl
theorem ba_ext {a b : ByteArray} (h : a.data.toList = b.data.toList) : a = b := ByteArray.ext (Array.toList_inj.1 h)
theorem drop_head {L : List UInt8} {a : Nat} (h : a < L.length) : ∃ b r, L.drop a = b :: r ∧ b.toNat = (L[a]?.getD 0).toNat := by
  refine ⟨L[a], L.drop (a + 1), List.drop_eq_getElem_cons h, ?_⟩
  rw [List.getElem?_eq_getElem h]
  rfl
/-- What is read has that text. -/
theorem num_sound {s : ByteArray} (h : numB s = true) : decS (numV s) = s ∧ -1000000000000000000 < numV s ∧ numV s < 1000000000000000000 := by
  obtain ⟨o1, o2, o3, o4⟩ := numB_ok h
  have hv : valTo s (numAt s) s.size = valL (s.data.toList.drop (numAt s)) := by
    unfold valTo
    rw [List.take_of_length_le (by rw [size_len]; exact Nat.le_refl _)]
  have hdig := digTo_list o4 (Nat.le_refl _)
  rw [List.take_of_length_le (by rw [size_len]; exact Nat.le_refl _)] at hdig
  have hlt := valTo_lt o4 (Nat.le_refl _)
  have h2 : 10 ^ (s.size - numAt s) ≤ 10 ^ 18 := Nat.pow_le_pow_right (by omega) (by omega)
  have h3 : (10 : Nat) ^ 18 = 1000000000000000000 := rfl
  obtain ⟨b, r, hbr, hb⟩ := drop_head (L := s.data.toList) (a := numAt s) o1
  have hbt : b.toNat = bt s (numAt s) := hb
  have hbd : (valTo s (numAt s) s.size : Int) < 1000000000000000000 := by omega
  unfold numV
  rw [h, if_pos rfl]
  by_cases hn : bt s 0 = 45
  · have ha : numAt s = 1 := if_pos hn
    rw [if_pos ha]
    have hhead : ∀ b' r', s.data.toList.drop (numAt s) = b' :: r' → b'.toNat ≠ 48 := by
      intro b' r' e
      rw [hbr] at e
      cases e
      intro h48
      exact o3 ⟨by omega, by omega⟩
    obtain ⟨e1, e2⟩ := dd_of _ hdig (by rw [hbr]; simp) (.inr hhead)
    have e3 := e2 hhead
    refine ⟨?_, by omega, by omega⟩
    rw [hv]
    apply ba_ext
    unfold decS Lib.itoa
    rw [if_pos (by omega), show (-(valL (s.data.toList.drop (numAt s)) : Int)).natAbs = valL (s.data.toList.drop (numAt s)) by omega, e1]
    show (45 :: _ : List UInt8) = _
    rw [ha]
    have h4 : s.data.toList = s.data.toList[0]'(by rw [size_len]; omega) :: s.data.toList.drop 1 := by
      conv => lhs; rw [← List.drop_zero (l := s.data.toList)]
      exact List.drop_eq_getElem_cons (by rw [size_len]; omega)
    have h5 : (s.data.toList[0]'(by rw [size_len]; omega)) = 45 := by
      unfold bt at hn
      rw [List.getElem?_eq_getElem (by rw [size_len]; omega)] at hn
      exact UInt8.toNat_inj.1 hn
    rw [h5] at h4
    exact h4.symm
  · have ha : numAt s = 0 := if_neg hn
    rw [if_neg (by omega)]
    have hh : (s.data.toList.drop (numAt s)).length = 1 ∨ ∀ b' r', s.data.toList.drop (numAt s) = b' :: r' → b'.toNat ≠ 48 := by
      by_cases h48 : bt s (numAt s) = 48
      · left
        rw [List.length_drop, size_len]
        have : ¬ 1 < s.size := fun h1 => o3 ⟨h48, h1⟩
        omega
      · right
        intro b' r' e
        rw [hbr] at e
        cases e
        omega
    obtain ⟨e1, _⟩ := dd_of _ hdig (by rw [hbr]; simp) hh
    refine ⟨?_, by omega, by omega⟩
    rw [hv]
    apply ba_ext
    unfold decS Lib.itoa
    rw [if_neg (by omega), Int.toNat_natCast, e1, ha]
    rfl
/-- The text of a number is read. -/
theorem num_complete {s : ByteArray} {n : Int} (h : decS n = s) (h1 : -1000000000000000000 < n) (h2 : n < 1000000000000000000) : numB s = true ∧ numV s = n := by
  have h18 : (10 : Nat) ^ (17 + 1) = 1000000000000000000 := rfl
  have hL : s.data.toList = Lib.itoa n := by rw [← h]; rfl
  have hsz : s.size = (Lib.itoa n).length := by rw [← size_len, hL]
  by_cases hn : n < 0
  · have hi : Lib.itoa n = 45 :: Lib.decDigits n.natAbs := by unfold Lib.itoa; rw [if_pos hn]
    rw [hi] at hL hsz
    rw [List.length_cons] at hsz
    have hb0 : bt s 0 = 45 := by unfold bt; rw [hL]; rfl
    have ha : numAt s = 1 := if_pos hb0
    obtain ⟨b, r, hr, hb⟩ := dd_head n.natAbs (by omega)
    have hlen := decDigits_le 17 n.natAbs (by omega)
    have hpos : 1 ≤ (Lib.decDigits n.natAbs).length := by rw [hr]; simp
    have hok : numOK s (numAt s) := by
      rw [ha]
      refine ⟨by omega, by omega, fun hh => ?_, fun j hj hk => ?_⟩
      · have : bt s 1 = b.toNat := by unfold bt; rw [hL, hr]; rfl
        omega
      · obtain ⟨i, rfl⟩ : ∃ i, j = i + 1 := ⟨j - 1, by omega⟩
        have hm : (Lib.decDigits n.natAbs)[i]? = some ((Lib.decDigits n.natAbs)[i]'(by omega)) := List.getElem?_eq_getElem (by omega)
        have hj1 : bt s (i + 1) = ((Lib.decDigits n.natAbs)[i]'(by omega)).toNat := by
          unfold bt
          rw [hL, List.getElem?_cons_succ, hm]
          rfl
        rw [hj1]
        exact dd_dig _ _ (List.getElem_mem _)
    refine ⟨numB_yes hok, ?_⟩
    unfold numV
    rw [numB_yes hok, if_pos rfl, if_pos ha]
    have hv : valTo s (numAt s) s.size = n.natAbs := by
      unfold valTo
      rw [List.take_of_length_le (by rw [size_len]; exact Nat.le_refl _), ha, hL, List.drop_one, List.tail_cons, dd_val]
    rw [hv]
    omega
  · have hi : Lib.itoa n = Lib.decDigits n.toNat := by unfold Lib.itoa; rw [if_neg hn]
    rw [hi] at hL hsz
    have hlen := decDigits_le 17 n.toNat (by omega)
    have hpos : 1 ≤ (Lib.decDigits n.toNat).length := by
      rcases Nat.eq_zero_or_pos (Lib.decDigits n.toNat).length with h0 | h0
      · exact absurd (List.length_eq_zero_iff.1 h0) (dd_ne _)
      · exact h0
    have hall : digTo s 0 s.size := by
      intro j _ hk
      have hm : (Lib.decDigits n.toNat)[j]? = some ((Lib.decDigits n.toNat)[j]'(by omega)) := List.getElem?_eq_getElem (by omega)
      have hj1 : bt s j = ((Lib.decDigits n.toNat)[j]'(by omega)).toNat := by
        unfold bt
        rw [hL, hm]
        rfl
      rw [hj1]
      exact dd_dig _ _ (List.getElem_mem _)
    have hb0 := hall 0 (Nat.le_refl _) (by omega)
    have ha : numAt s = 0 := if_neg (by omega)
    have hok : numOK s (numAt s) := by
      rw [ha]
      refine ⟨by omega, by omega, fun hh => ?_, hall⟩
      by_cases h10 : n.toNat < 10
      · rw [dd1 h10] at hsz
        have : s.size = 1 := hsz
        omega
      · obtain ⟨b, r, hr, hb⟩ := dd_head n.toNat (by omega)
        have : bt s 0 = b.toNat := by unfold bt; rw [hL, hr]; rfl
        omega
    refine ⟨numB_yes hok, ?_⟩
    unfold numV
    rw [numB_yes hok, if_pos rfl, if_neg (by omega)]
    have hv : valTo s (numAt s) s.size = n.toNat := by
      unfold valTo
      rw [List.take_of_length_le (by rw [size_len]; exact Nat.le_refl _), ha, List.drop_zero, hL, dd_val]
    rw [hv]
    omega
end Go.Proofs.YtkbfmjnekeipcaaGreatDoor
