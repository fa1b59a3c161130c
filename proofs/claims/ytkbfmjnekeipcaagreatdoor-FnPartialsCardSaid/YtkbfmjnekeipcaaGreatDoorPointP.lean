/- Plain laws of reading a number with a point. -/
import Derived.Test.YtkbfmjnekeipcaaGreatDoorSplitP
import Derived.Test.YtkbfmjnekeipcaaGreatDoorNumP
import Derived.Test.YtkbfmjnekeipcaaGreatDoorHertzT
namespace Go.Proofs.YtkbfmjnekeipcaaGreatDoor
open Go.ChangeShapes Go.WideShapes Go.ChangeAt Go.RowKit
set_option maxRecDepth 100000

def pt0 (s : ByteArray) : ByteArray := (splitS 46 s).getD 0 ⟨#[]⟩
def pt1 (s : ByteArray) : ByteArray := (splitS 46 s).getD 1 ⟨#[]⟩
def pointOK (s : ByteArray) (D : Nat) : Prop := (splitS 46 s).length = 2 ∧ (pt1 s).size = D ∧ numB (pt0 s) = true ∧ 0 ≤ numV (pt0 s) ∧ numV (pt0 s) ≤ 1000000 ∧ digTo (pt1 s) 0 D
noncomputable def pointB (s : ByteArray) (D : Nat) : Bool := @decide (pointOK s D) (Classical.propDecidable _)
noncomputable def pointV (s : ByteArray) (D : Nat) : Int := if pointB s D then numV (pt0 s) * 10 ^ D + (valTo (pt1 s) 0 D : Int) else 0
theorem pointB_ok {s : ByteArray} {D : Nat} (h : pointB s D = true) : pointOK s D := by
  apply Classical.byContradiction
  intro h1
  have : pointB s D = false := @decide_eq_false _ (Classical.propDecidable _) h1
  rw [this] at h
  cases h
theorem point_yes {s : ByteArray} {D : Nat} (h : pointOK s D) : pointB s D = true ∧ pointV s D = numV (pt0 s) * 10 ^ D + (valTo (pt1 s) 0 D : Int) := by
  have h1 : pointB s D = true := @decide_eq_true _ (Classical.propDecidable _) h
  exact ⟨h1, by unfold pointV; rw [h1, if_pos rfl]⟩
theorem point_no {s : ByteArray} {D : Nat} (h : ¬ pointOK s D) : pointV s D = 0 ∧ pointB s D = false := by
  have h1 : pointB s D = false := @decide_eq_false _ (Classical.propDecidable _) h
  exact ⟨by unfold pointV; rw [h1]; rfl, h1⟩
theorem pieces_single {c : UInt8} {l b : List UInt8} (h : pieces c l = [b]) : l = b ∧ ∀ k : Nat, l[k]? ≠ some c := by
  by_cases hc : ∀ k : Nat, l[k]? ≠ some c
  · rw [pieces_none c l hc] at h
    cases h
    exact ⟨rfl, hc⟩
  · exfalso
    have h1 : Lib.indexByte l c ≠ -1 := fun e => hc (Lib.indexByte_none e)
    have h2 := Lib.indexByte_ge l c
    obtain ⟨e1, e2⟩ := Lib.indexByte_some (l := l) (c := c) (o := (Lib.indexByte l c).toNat) (by omega)
    rw [pieces_hit c l _ e1 e2] at h
    have := congrArg List.length h
    have h3 : 0 < (pieces c (l.drop ((Lib.indexByte l c).toNat + 1))).length := by
      rcases Nat.eq_zero_or_pos (pieces c (l.drop ((Lib.indexByte l c).toNat + 1))).length with h4 | h4
      · exact absurd (List.length_eq_zero_iff.1 h4) (pieces_ne _ _)
      · exact h4
    simp only [List.length_cons, List.length_nil] at this
    omega
theorem pieces_pair {c : UInt8} {l a b : List UInt8} (h : pieces c l = [a, b]) : l = a ++ c :: b := by
  by_cases hc : ∀ k : Nat, l[k]? ≠ some c
  · rw [pieces_none c l hc] at h
    cases h
  · have h1 : Lib.indexByte l c ≠ -1 := fun e => hc (Lib.indexByte_none e)
    have h2 := Lib.indexByte_ge l c
    obtain ⟨e1, e2⟩ := Lib.indexByte_some (l := l) (c := c) (o := (Lib.indexByte l c).toNat) (by omega)
    rw [pieces_hit c l _ e1 e2] at h
    simp only [List.cons.injEq] at h
    obtain ⟨ha, hb⟩ := h
    obtain ⟨hb', _⟩ := pieces_single hb
    rw [← ha, ← hb']
    have hlt := (List.getElem?_eq_some_iff.1 e1).1
    have h3 : l.drop (Lib.indexByte l c).toNat = c :: l.drop ((Lib.indexByte l c).toNat + 1) := by
      rw [List.drop_eq_getElem_cons hlt]
      congr 1
      exact (List.getElem?_eq_some_iff.1 e1).2
    rw [← h3, List.take_append_drop]
theorem none_in {c : UInt8} {l : List UInt8} (h : ∀ b ∈ l, b ≠ c) : ∀ k : Nat, l[k]? ≠ some c := fun _ hk => h c (List.mem_of_getElem? hk) rfl
theorem pieces_two {c : UInt8} {a b : List UInt8} (ha : ∀ x ∈ a, x ≠ c) (hb : ∀ x ∈ b, x ≠ c) : pieces c (a ++ c :: b) = [a, b] := by
  rw [pieces_hit c _ a.length (by simp) (fun k hk => by rw [List.getElem?_append_left hk]; exact none_in ha k)]
  rw [List.take_left, show (a ++ c :: b).drop (a.length + 1) = b by rw [← List.drop_drop, List.drop_left]; rfl, pieces_none c b (none_in hb)]
theorem index_two {c : UInt8} {a b : List UInt8} (ha : ∀ x ∈ a, x ≠ c) : Lib.indexByte (a ++ c :: b) c = a.length := by
  have hmid : (a ++ c :: b)[a.length]? = some c := by simp
  by_cases h : Lib.indexByte (a ++ c :: b) c = -1
  · exact absurd hmid (Lib.indexByte_none h _)
  · have h2 := Lib.indexByte_ge (a ++ c :: b) c
    obtain ⟨e1, e2⟩ := Lib.indexByte_some (l := a ++ c :: b) (c := c) (o := (Lib.indexByte (a ++ c :: b) c).toNat) (by omega)
    rcases Nat.lt_trichotomy (Lib.indexByte (a ++ c :: b) c).toNat a.length with h3 | h3 | h3
    · rw [List.getElem?_append_left h3] at e1
      exact absurd e1 (none_in ha _)
    · omega
    · exact absurd hmid (e2 _ h3)
theorem digB_ne {b : UInt8} (h : digB b) : b ≠ 46 := by
  intro e
  subst e
  exact absurd h.1 (by decide)
/-! ### What the program takes apart -/
def cutA (s : ByteArray) : ByteArray := ⟨(Lib.cut s.data.toList [46]).1.toArray⟩
def cutZ (s : ByteArray) : ByteArray := ⟨(Lib.cut s.data.toList [46]).2.1.toArray⟩
theorem cut_two {s a b : ByteArray} (h : ofB s = ofB a ++ 46 :: ofB b) (ha : ∀ x ∈ ofB a, x ≠ 46) : cutA s = a ∧ cutZ s = b := by
  have hi : Lib.indexB s ⟨#[46]⟩ = ((ofB a).length : Nat) := by rw [index1, h]; exact index_two ha
  obtain ⟨h1, h2, _⟩ := Lib.cutB_hit s ⟨#[46]⟩ _ hi
  refine ⟨h1.trans ?_, h2.trans ?_⟩
  · apply ba_ext
    show ofB (s.extract 0 (ofB a).length) = ofB a
    rw [ext_ofB, h, List.drop_zero, Nat.sub_zero, List.take_left]
  · apply ba_ext
    show ofB (s.extract ((ofB a).length + 1) s.size) = ofB b
    have h3 : ofB (s.extract ((ofB a).length + 1) s.size) = (ofB s).drop ((ofB a).length + 1) := Lib.extract_to_end s _
    rw [h3, h, ← List.drop_drop, List.drop_left]
    rfl
theorem ofB_app (a b : ByteArray) : ofB (a ++ b) = ofB a ++ ofB b := by simp [ofB, ByteArray.data_append]
theorem split_two {s a b : ByteArray} (h : ofB s = ofB a ++ 46 :: ofB b) (ha : ∀ x ∈ ofB a, x ≠ 46) (hb : ∀ x ∈ ofB b, x ≠ 46) : splitS 46 s = [a, b] := by
  apply splitS_of
  rw [h, pieces_two ha hb]
  rfl
theorem dec_dig46 (q : Int) (h : 0 ≤ q) : ∀ x ∈ ofB (decS q), x ≠ 46 := by
  intro x hx
  rw [decS_nat h] at hx
  exact digB_ne (dd_dig q.toNat x hx)
theorem bt3 (a b c : UInt8) : bt ⟨#[a, b, c]⟩ 0 = a.toNat ∧ bt ⟨#[a, b, c]⟩ 1 = b.toNat ∧ bt ⟨#[a, b, c]⟩ 2 = c.toNat := ⟨rfl, rfl, rfl⟩
theorem valTo3 {s : ByteArray} (h : s.size = 3) : valTo s 0 3 = 100 * (bt s 0 - 48) + 10 * (bt s 1 - 48) + (bt s 2 - 48) := by
  rw [valTo_succ (by omega) (by omega), valTo_succ (by omega) (by omega), valTo_succ (by omega) (by omega), valTo_self]
  omega
theorem three_of {s : ByteArray} (h : s.size = 3) : ∃ a b c, s = ⟨#[a, b, c]⟩ := by
  obtain ⟨⟨l⟩⟩ := s
  have hl : l.length = 3 := h
  match l, hl with
  | [a, b, c], _ => exact ⟨a, b, c, rfl⟩
/-! ### Frequencies -/
def isHz (s : ByteArray) (f : Int) : Prop := inB f 10000 20000000 = true ∧ hertzT f = s
theorem dd_three {f : Nat} (h : 1000 ≤ f) : Lib.decDigits f = Lib.decDigits (f / 1000) ++ [UInt8.ofNat (48 + f % 1000 / 100), UInt8.ofNat (48 + f % 1000 / 10 % 10), UInt8.ofNat (48 + f % 1000 % 10)] := by
  rw [decM (by omega), decM (u := f / 10) (by omega), decM (u := f / 10 / 10) (by omega)]
  rw [show f / 10 / 10 / 10 = f / 1000 by omega, show f / 10 / 10 % 10 = f % 1000 / 100 by omega, show f / 10 % 10 = f % 1000 / 10 % 10 by omega, show f % 10 = f % 1000 % 10 by omega]
  simp
theorem hz_parts {s : ByteArray} {f : Int} (h : isHz s f) : pointOK s 3 ∧ pointV s 3 = f ∧ numB (cutA s ++ cutZ s) = true ∧ numV (cutA s ++ cutZ s) = f := by
  obtain ⟨h1, h2⟩ := h
  obtain ⟨p1, p2, p3, b1, b2, b3, hm⟩ := parts1000 h1
  have hb := inB_iff.1 h1
  have hq : f.tdiv 1000 = f / 1000 := Int.tdiv_eq_ediv_of_nonneg (by omega)
  have hd46 := dec_dig46 (f.tdiv 1000) b1.1
  have hpl := pad3_list b2 b3
  have d0 := digN ((f % 1000).toNat / 100) (by omega)
  have d1 := digN ((f % 1000).toNat / 10 % 10) (by omega)
  have d2 := digN ((f % 1000).toNat % 10) (by omega)
  have hp46 : ∀ x ∈ ofB (pad3 (f % 1000)), x ≠ 46 := by
    intro x hx
    rw [hpl] at hx
    have hx' : x ∈ [UInt8.ofNat (48 + (f % 1000).toNat / 100), UInt8.ofNat (48 + (f % 1000).toNat / 10 % 10), UInt8.ofNat (48 + (f % 1000).toNat % 10)] := hx
    apply digB_ne
    unfold digB
    simp only [List.mem_cons, List.not_mem_nil, or_false] at hx'
    rcases hx' with rfl | rfl | rfl <;> omega
  have hs : ofB s = ofB (decS (f.tdiv 1000)) ++ 46 :: ofB (pad3 (f % 1000)) := by
    rw [← h2]
    unfold hertzT
    rw [ofB_app, ofB_app]
    simp [ofB]
  have hsp := split_two hs hd46 hp46
  obtain ⟨hca, hcz⟩ := cut_two hs hd46
  obtain ⟨n1, n2⟩ := num_complete (s := decS (f.tdiv 1000)) rfl (by omega) (by omega)
  have e0 : pt0 s = decS (f.tdiv 1000) := by unfold pt0; rw [hsp]; rfl
  have e1 : pt1 s = pad3 (f % 1000) := by unfold pt1; rw [hsp]; rfl
  have hz3 := pad3_size b2 b3
  have hok : pointOK s 3 := by
    refine ⟨by rw [hsp]; rfl, by rw [e1]; exact hz3, by rw [e0]; exact n1, by rw [e0, n2]; omega, by rw [e0, n2]; omega, ?_⟩
    rw [e1, hpl]
    intro j _ hj
    obtain ⟨t0, t1, t2⟩ := bt3 (UInt8.ofNat (48 + (f % 1000).toNat / 100)) (UInt8.ofNat (48 + (f % 1000).toNat / 10 % 10)) (UInt8.ofNat (48 + (f % 1000).toNat % 10))
    match j, hj with
    | 0, _ => rw [t0]; omega
    | 1, _ => rw [t1]; omega
    | 2, _ => rw [t2]; omega
  have hval : (valTo (pad3 (f % 1000)) 0 3 : Int) = f % 1000 := by
    rw [valTo3 hz3, hpl]
    obtain ⟨t0, t1, t2⟩ := bt3 (UInt8.ofNat (48 + (f % 1000).toNat / 100)) (UInt8.ofNat (48 + (f % 1000).toNat / 10 % 10)) (UInt8.ofNat (48 + (f % 1000).toNat % 10))
    rw [t0, t1, t2]
    omega
  have hcat : cutA s ++ cutZ s = decS f := by
    rw [hca, hcz]
    apply ba_ext
    show ofB (decS (f.tdiv 1000) ++ pad3 (f % 1000)) = ofB (decS f)
    rw [ofB_app, hpl, decS_nat b1.1, decS_nat (r := f) (by omega)]
    show Lib.decDigits (f.tdiv 1000).toNat ++ [_, _, _] = Lib.decDigits f.toNat
    rw [dd_three (f := f.toNat) (by omega), show (f.tdiv 1000).toNat = f.toNat / 1000 by omega, show (f % 1000).toNat = f.toNat % 1000 by omega]
  refine ⟨hok, ?_, ?_⟩
  · rw [(point_yes hok).2, e0, e1, n2, hval]
    omega
  · rw [hcat]
    exact num_complete rfl (by omega) (by omega)
theorem hz_spec {s : ByteArray} (h : pointB s 3 = true) (hf : inB (pointV s 3) 10000 20000000 = true) : isHz s (pointV s 3) := by
  have ok := pointB_ok h
  have hv := (point_yes ok).2
  obtain ⟨o1, o2, o3, o4, o5, o6⟩ := ok
  refine ⟨hf, ?_⟩
  obtain ⟨s1, _, _⟩ := num_sound o3
  obtain ⟨a, b, c, habc⟩ := three_of o2
  obtain ⟨t0, t1, t2⟩ := bt3 a b c
  rw [← habc] at t0 t1 t2
  have q0 := o6 0 (by omega) (by omega)
  have q1 := o6 1 (by omega) (by omega)
  have q2 := o6 2 (by omega) (by omega)
  have hv3 := valTo3 o2
  have hs : s = pt0 s ++ ⟨#[46]⟩ ++ pt1 s := by
    have hp := splitS_ofB 46 s
    have hl : splitS 46 s = [pt0 s, pt1 s] := by
      unfold pt0 pt1
      match hx : splitS 46 s, o1 with
      | [x, y], _ => rfl
    rw [hl] at hp
    have := pieces_pair (show pieces 46 (ofB s) = [ofB (pt0 s), ofB (pt1 s)] from hp.symm)
    apply ba_ext
    show ofB s = ofB (pt0 s ++ ⟨#[46]⟩ ++ pt1 s)
    rw [ofB_app, ofB_app, this]
    simp [ofB]
  have h10 : (10 : Int) ^ 3 = 1000 := rfl
  rw [h10] at hv
  have hq : (pointV s 3).tdiv 1000 = pointV s 3 / 1000 := Int.tdiv_eq_ediv_of_nonneg (by have := inB_iff.1 hf; omega)
  have e1 : (pointV s 3).tdiv 1000 = numV (pt0 s) := by rw [hq, hv]; omega
  have e2 : pointV s 3 % 1000 = (valTo (pt1 s) 0 3 : Int) := by rw [hv]; omega
  unfold hertzT
  rw [e1, e2, s1]
  have e3 : pad3 (valTo (pt1 s) 0 3 : Int) = pt1 s := by
    rw [pad3_list (by omega) (by omega)]
    conv => rhs; rw [habc]
    rw [Int.toNat_natCast, hv3]
    have r0 : UInt8.ofNat (48 + (100 * (bt (pt1 s) 0 - 48) + 10 * (bt (pt1 s) 1 - 48) + (bt (pt1 s) 2 - 48)) / 100) = a := by
      rw [show 48 + (100 * (bt (pt1 s) 0 - 48) + 10 * (bt (pt1 s) 1 - 48) + (bt (pt1 s) 2 - 48)) / 100 = a.toNat by omega]; simp
    have r1 : UInt8.ofNat (48 + (100 * (bt (pt1 s) 0 - 48) + 10 * (bt (pt1 s) 1 - 48) + (bt (pt1 s) 2 - 48)) / 10 % 10) = b := by
      rw [show 48 + (100 * (bt (pt1 s) 0 - 48) + 10 * (bt (pt1 s) 1 - 48) + (bt (pt1 s) 2 - 48)) / 10 % 10 = b.toNat by omega]; simp
    have r2 : UInt8.ofNat (48 + (100 * (bt (pt1 s) 0 - 48) + 10 * (bt (pt1 s) 1 - 48) + (bt (pt1 s) 2 - 48)) % 10) = c := by
      rw [show 48 + (100 * (bt (pt1 s) 0 - 48) + 10 * (bt (pt1 s) 1 - 48) + (bt (pt1 s) 2 - 48)) % 10 = c.toNat by omega]; simp
    rw [r0, r1, r2]
  rw [e3]
  exact hs.symm
theorem hz_impl {s : ByteArray} (h : numB (cutA s ++ cutZ s) = true) (hf : hertzS (numV (cutA s ++ cutZ s)) = s) : isHz s (numV (cutA s ++ cutZ s)) := by
  cases hi : inB (numV (cutA s ++ cutZ s)) 10000 20000000 with
  | true =>
    refine ⟨hi, ?_⟩
    unfold hertzS at hf
    rw [hi, if_pos rfl] at hf
    exact hf
  | false =>
    exfalso
    unfold hertzS at hf
    rw [hi] at hf
    have hs : s = ⟨#[]⟩ := hf.symm
    rw [hs] at h
    have : (cutA ⟨#[]⟩ ++ cutZ ⟨#[]⟩ : ByteArray) = ⟨#[]⟩ := rfl
    rw [this] at h
    exact absurd (numB_ok h).1 (by show ¬ (numAt ⟨#[]⟩ < 0); omega)
noncomputable def hzB (s : ByteArray) : Bool := @decide (∃ f, isHz s f) (Classical.propDecidable _)
noncomputable def hzV (s : ByteArray) : Int := if hzB s then pointV s 3 else 0
theorem hz_yes {s : ByteArray} {f : Int} (h : isHz s f) : hzB s = true ∧ hzV s = f := by
  have h1 : hzB s = true := @decide_eq_true _ (Classical.propDecidable _) ⟨f, h⟩
  exact ⟨h1, by unfold hzV; rw [h1, if_pos rfl]; exact (hz_parts h).2.1⟩
theorem hz_no {s : ByteArray} (h : ∀ f, ¬ isHz s f) : hzV s = 0 ∧ hzB s = false := by
  have h1 : hzB s = false := @decide_eq_false _ (Classical.propDecidable _) (fun ⟨f, hf⟩ => h f hf)
  exact ⟨by unfold hzV; rw [h1]; rfl, h1⟩
end Go.Proofs.YtkbfmjnekeipcaaGreatDoor
