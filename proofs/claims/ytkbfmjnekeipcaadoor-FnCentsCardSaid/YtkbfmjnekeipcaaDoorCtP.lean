/- Plain laws and contracts of the interval with a text. -/
import Derived.Test.YtkbfmjnekeipcaaDoorHzT
import Derived.Test.YtkbfmjnekeipcaaDoorCentsT
namespace Go.Proofs.YtkbfmjnekeipcaaDoor
open Go.ChangeShapes Go.WideShapes Go.ChangeAt Go.RowKit
set_option maxRecDepth 100000

def isCt (s : ByteArray) (t : Int) : Prop := inB t (-120000) 120000 = true ∧ centsS t = s
def tailS (s : ByteArray) : ByteArray := s.extract 1 s.size
theorem tailS_cons {s : ByteArray} {b : UInt8} {l : List UInt8} (h : ofB s = b :: l) : ofB (tailS s) = l := by
  have : ofB (tailS s) = (ofB s).drop 1 := Lib.extract_to_end s 1
  rw [this, h]
  rfl
/-- The text's number without its sign. -/
theorem ct_mag {s : ByteArray} {sg : UInt8} {m : Int} (h0 : 0 ≤ m) (h1 : m ≤ 120000) (h : centsT ⟨#[sg]⟩ m = s) :
    bt s 0 = sg.toNat ∧ 4 ≤ s.size ∧ pointOK (tailS s) 1 ∧ pointV (tailS s) 1 = m ∧ numV (cutA (tailS s)) = m.tdiv 10 ∧ numV (cutZ (tailS s)) = m % 10 := by
  have hq : m.tdiv 10 = m / 10 := Int.tdiv_eq_ediv_of_nonneg h0
  have hs : ofB s = sg :: (ofB (decS (m.tdiv 10)) ++ 46 :: ofB (decS (m % 10))) := by
    rw [← h]
    unfold centsT
    rw [ofB_app, ofB_app, ofB_app]
    simp [ofB]
  have hr := tailS_cons hs
  have ha := dec_dig46 (m.tdiv 10) (by omega)
  have hb := dec_dig46 (m % 10) (by omega)
  have hsp := split_two hr ha hb
  obtain ⟨hca, hcz⟩ := cut_two hr ha
  obtain ⟨n1, n2⟩ := num_complete (s := decS (m.tdiv 10)) rfl (by omega) (by omega)
  obtain ⟨k1, k2⟩ := num_complete (s := decS (m % 10)) rfl (by omega) (by omega)
  have e0 : pt0 (tailS s) = decS (m.tdiv 10) := by unfold pt0; rw [hsp]; rfl
  have e1 : pt1 (tailS s) = decS (m % 10) := by unfold pt1; rw [hsp]; rfl
  have hd1 : decS (m % 10) = ⟨#[UInt8.ofNat (48 + (m % 10).toNat)]⟩ := by rw [decS_nat (by omega), dec1 (by omega)]
  have dg := digN (m % 10).toNat (by omega)
  have hbt : bt (decS (m % 10)) 0 = 48 + (m % 10).toNat := by rw [hd1]; exact dg
  have hok : pointOK (tailS s) 1 := by
    refine ⟨by rw [hsp]; rfl, by rw [e1, hd1]; rfl, by rw [e0]; exact n1, by rw [e0, n2]; omega, by rw [e0, n2]; omega, ?_⟩
    rw [e1]
    intro j _ hj
    obtain rfl : j = 0 := by omega
    rw [hbt]
    omega
  have hv : (valTo (decS (m % 10)) 0 1 : Int) = m % 10 := by
    have hz1 : (decS (m % 10)).size = 1 := by rw [hd1]; rfl
    rw [valTo_succ (by omega) (by omega), valTo_self, hbt]
    omega
  have hlen := congrArg List.length hs
  rw [List.length_cons, List.length_append, List.length_cons] at hlen
  have l1 : (ofB s).length = s.size := rfl
  have l2 : 0 < (ofB (decS (m.tdiv 10))).length := by
    rw [decS_nat (by omega)]
    show 0 < (Lib.decDigits _).length
    rcases Nat.eq_zero_or_pos (Lib.decDigits (m.tdiv 10).toNat).length with h3 | h3
    · exact absurd (List.length_eq_zero_iff.1 h3) (dd_ne _)
    · exact h3
  have l3 : (ofB (decS (m % 10))).length = 1 := by rw [hd1]; rfl
  refine ⟨by unfold bt; rw [show s.data.toList = _ from hs]; rfl, by omega, hok, ?_, by rw [hca]; exact n2, by rw [hcz]; exact k2⟩
  rw [(point_yes hok).2, e0, e1, n2, hv]
  have : (10 : Int) ^ 1 = 10 := rfl
  rw [this]
  omega
def ctMag (s : ByteArray) (t : Int) : Int := if bt s 0 = 45 then -t else t
theorem ct_parts {s : ByteArray} {t : Int} (h : isCt s t) : (bt s 0 = 43 ∨ bt s 0 = 45) ∧ 4 ≤ s.size ∧ pointOK (tailS s) 1 ∧ ctMag s (pointV (tailS s) 1) = t ∧ ¬ (bt s 0 = 45 ∧ pointV (tailS s) 1 = 0) ∧
    (0 ≤ numV (cutA (tailS s)) ∧ numV (cutA (tailS s)) ≤ 120000) ∧ ctMag s (10 * numV (cutA (tailS s)) + numV (cutZ (tailS s))) = t := by
  obtain ⟨h1, h2⟩ := h
  have hb := inB_iff.1 h1
  unfold centsS at h2
  rw [if_pos h1] at h2
  by_cases hn : t < 0
  · rw [if_pos hn] at h2
    obtain ⟨r1, r2, r3, r4, r5, r6⟩ := ct_mag (m := -t) (by omega) (by omega) h2
    have r1' : bt s 0 = 45 := r1
    have hq : (-t).tdiv 10 = (-t) / 10 := Int.tdiv_eq_ediv_of_nonneg (by omega)
    refine ⟨.inr r1', r2, r3, ?_, ?_, ?_, ?_⟩
    · unfold ctMag; rw [if_pos r1', r4]; omega
    · rw [r4]; omega
    · rw [r5]; omega
    · unfold ctMag; rw [if_pos r1', r5, r6]; omega
  · rw [if_neg hn] at h2
    obtain ⟨r1, r2, r3, r4, r5, r6⟩ := ct_mag (m := t) (by omega) (by omega) h2
    have r1' : bt s 0 = 43 := r1
    have hq : t.tdiv 10 = t / 10 := Int.tdiv_eq_ediv_of_nonneg (by omega)
    refine ⟨.inl r1', r2, r3, ?_, ?_, ?_, ?_⟩
    · unfold ctMag; rw [if_neg (by omega), r4]
    · omega
    · rw [r5]; omega
    · unfold ctMag; rw [if_neg (by omega), r5, r6]; omega
theorem pt1_bd {s : ByteArray} (h : pointB s 1 = true) : 0 ≤ pointV s 1 ∧ pointV s 1 ≤ 20000000 := by
  have ok := pointB_ok h
  rw [(point_yes ok).2]
  obtain ⟨_, o2, _, o4, o5, o6⟩ := ok
  have := valTo_lt o6 (by omega)
  have h1 : (10 : Int) ^ 1 = 10 := rfl
  have h2 : (10 : Nat) ^ (1 - 0) = 10 := rfl
  rw [h1]
  omega
/-- What the reference reads has that text. -/
theorem ct_spec {s : ByteArray} (hsg : bt s 0 = 43 ∨ bt s 0 = 45) (hsz : 2 ≤ s.size) (hp : pointB (tailS s) 1 = true) (hz : ¬ (bt s 0 = 45 ∧ pointV (tailS s) 1 = 0))
    (hi : inB (ctMag s (pointV (tailS s) 1)) (-120000) 120000 = true) : isCt s (ctMag s (pointV (tailS s) 1)) := by
  refine ⟨hi, ?_⟩
  have ok := pointB_ok hp
  have hv := (point_yes ok).2
  have hbd := pt1_bd hp
  obtain ⟨o1, o2, o3, o4, o5, o6⟩ := ok
  obtain ⟨s1, _, _⟩ := num_sound o3
  have q0 := o6 0 (by omega) (by omega)
  obtain ⟨a, habc⟩ : ∃ a, pt1 (tailS s) = ⟨#[a]⟩ := by
    obtain ⟨l, hl⟩ : ∃ l, ofB (pt1 (tailS s)) = l := ⟨_, rfl⟩
    have hl1 : l.length = 1 := by rw [← hl]; exact o2
    match l, hl1, hl with
    | [a], _, hl => exact ⟨a, ba_ext hl⟩
  have hbt : bt (pt1 (tailS s)) 0 = a.toNat := by rw [habc]; rfl
  have hvl : valTo (pt1 (tailS s)) 0 1 = a.toNat - 48 := by rw [valTo_succ (by omega) (by omega), valTo_self, hbt]; omega
  have h10 : (10 : Int) ^ 1 = 10 := rfl
  rw [h10, hvl] at hv
  have hst : ofB (tailS s) = ofB (pt0 (tailS s)) ++ 46 :: ofB (pt1 (tailS s)) := by
    have hp := splitS_ofB 46 (tailS s)
    have hl : splitS 46 (tailS s) = [pt0 (tailS s), pt1 (tailS s)] := by
      unfold pt0 pt1
      match hx : splitS 46 (tailS s), o1 with
      | [x, y], _ => rfl
    rw [hl] at hp
    exact pieces_pair hp.symm
  obtain ⟨f, hf⟩ : ∃ f, f = pointV (tailS s) 1 := ⟨_, rfl⟩
  rw [← hf] at hv hbd hz hi ⊢
  have hq : f.tdiv 10 = f / 10 := Int.tdiv_eq_ediv_of_nonneg hbd.1
  have e1 : f.tdiv 10 = numV (pt0 (tailS s)) := by rw [hq, hv]; omega
  have e2 : f % 10 = ((a.toNat - 48 : Nat) : Int) := by rw [hv]; omega
  have e3 : decS (f % 10) = pt1 (tailS s) := by
    rw [e2, habc, decS_nat (by omega), dec1 (by omega)]
    apply ba_ext
    show [UInt8.ofNat (48 + ((a.toNat - 48 : Nat) : Int).toNat)] = [a]
    rw [show 48 + ((a.toNat - 48 : Nat) : Int).toNat = a.toNat by omega]
    simp
  have hcons : ∃ b, ofB s = b :: ofB (tailS s) ∧ b.toNat = bt s 0 := by
    have h1 : (ofB s).drop 0 = (ofB s)[0]'(by show 0 < s.size; omega) :: (ofB s).drop 1 := List.drop_eq_getElem_cons _
    refine ⟨(ofB s)[0]'(by show 0 < s.size; omega), ?_, ?_⟩
    · have h2 : ofB (tailS s) = (ofB s).drop 1 := Lib.extract_to_end s 1
      rw [h2, ← h1]
      rfl
    · unfold bt
      rw [List.getElem?_eq_getElem (show 0 < s.data.toList.length by show 0 < s.size; omega)]
      rfl
  obtain ⟨b, hb1, hb2⟩ := hcons
  have key : ∀ sg : UInt8, sg.toNat = bt s 0 → centsT ⟨#[sg]⟩ f = s := by
    intro sg hsg'
    have hbb : sg = b := UInt8.toNat_inj.1 (by omega)
    unfold centsT
    rw [e1, s1, e3]
    apply ba_ext
    show ofB (⟨#[sg]⟩ ++ pt0 (tailS s) ++ ⟨#[46]⟩ ++ pt1 (tailS s)) = ofB s
    rw [ofB_app, ofB_app, ofB_app, hb1, hst, hbb]
    simp [ofB]
  unfold centsS
  rw [if_pos hi]
  unfold ctMag at hi ⊢
  rcases hsg with h43 | h45
  · rw [if_neg (by omega), if_neg (by omega)]
    exact key 43 (by rw [h43]; rfl)
  · rw [if_pos h45, if_pos (by have : f ≠ 0 := fun e => hz ⟨h45, e⟩; omega), Int.neg_neg]
    exact key 45 (by rw [h45]; rfl)
theorem ct_impl {s : ByteArray} {t : Int} (hsz : 4 ≤ s.size) (h : centsS t = s) : isCt s t := by
  cases hi : inB t (-120000) 120000 with
  | true => exact ⟨hi, h⟩
  | false =>
    exfalso
    unfold centsS at h
    rw [hi] at h
    have : s.size = 0 := by rw [← h]; rfl
    omega
noncomputable def ctB (s : ByteArray) : Bool := @decide (∃ t, isCt s t) (Classical.propDecidable _)
noncomputable def ctV (s : ByteArray) : Int := if ctB s then ctMag s (pointV (tailS s) 1) else 0
theorem ct_yes {s : ByteArray} {t : Int} (h : isCt s t) : ctV s = t ∧ ctB s = true := by
  have h1 : ctB s = true := @decide_eq_true _ (Classical.propDecidable _) ⟨t, h⟩
  exact ⟨by unfold ctV; rw [h1, if_pos rfl]; exact (ct_parts h).2.2.2.1, h1⟩
theorem ct_no {s : ByteArray} (h : ∀ t, ¬ isCt s t) : ctV s = 0 ∧ ctB s = false := by
  have h1 : ctB s = false := @decide_eq_false _ (Classical.propDecidable _) (fun ⟨t, ht⟩ => h t ht)
  exact ⟨by unfold ctV; rw [h1]; rfl, h1⟩
end Go.Proofs.YtkbfmjnekeipcaaDoor
