/- Plain laws of the sound with a text. -/
import Derived.Test.YtkbfmjnekeipcaaGreatDoorListR
import Derived.Test.YtkbfmjnekeipcaaGreatDoorHzT
import Derived.Test.YtkbfmjnekeipcaaGreatDoorSndT
namespace Go.Proofs.YtkbfmjnekeipcaaGreatDoor
open Go.ChangeShapes Go.WideShapes Go.ChangeAt Go.RowKit
set_option maxRecDepth 100000

theorem digB_ne32 {b : UInt8} (h : digB b) : b ≠ 32 := by
  intro e
  subst e
  exact absurd h.1 (by decide)
theorem hertzT_ne32 {f : Int} (h : inB f 10000 20000000 = true) : ∀ x ∈ ofB (hertzT f), x ≠ 32 := by
  obtain ⟨p1, p2, p3, b1, b2, b3, hm⟩ := parts1000 h
  intro x hx
  unfold hertzT at hx
  rw [ofB_app, ofB_app] at hx
  rcases List.mem_append.1 hx with hx | hx
  · rcases List.mem_append.1 hx with hx | hx
    · rw [decS_nat b1.1] at hx
      exact digB_ne32 (dd_dig _ x hx)
    · have hx' : x ∈ [46] := hx
      simp only [List.mem_singleton] at hx'
      subst hx'
      decide
  · rw [pad3_list b2 b3] at hx
    have d0 := digN ((f % 1000).toNat / 100) (by omega)
    have d1 := digN ((f % 1000).toNat / 10 % 10) (by omega)
    have d2 := digN ((f % 1000).toNat % 10) (by omega)
    have hx' : x ∈ [UInt8.ofNat (48 + (f % 1000).toNat / 100), UInt8.ofNat (48 + (f % 1000).toNat / 10 % 10), UInt8.ofNat (48 + (f % 1000).toNat % 10)] := hx
    apply digB_ne32
    unfold digB
    simp only [List.mem_cons, List.not_mem_nil, or_false] at hx'
    rcases hx' with rfl | rfl | rfl <;> omega
def isSnd (s : ByteArray) (a b c d e : Int) : Prop := sB a b c d e = true ∧ sndL [a, b, c, d, e] = s
theorem snd_parts {s : ByteArray} {a b c d e : Int} (h : isSnd s a b c d e) : splitS 32 s = [hertzT a, hertzT b, hertzT c, hertzT d, hertzT e] ∧
    (∀ x ∈ splitS 32 s, hzB x = true) ∧ hzV (hertzT a) = a ∧ hzV (hertzT b) = b ∧ hzV (hertzT c) = c ∧ hzV (hertzT d) = d ∧ hzV (hertzT e) = e := by
  obtain ⟨h1, h2⟩ := h
  have hA := (sB_parts h1).1
  have hg : ∀ z ∈ [a, b, c, d, e], inB z 10000 20000000 = true := List.all_eq_true.1 hA
  have hsp : splitS 32 s = [a, b, c, d, e].map hertzT := by
    rw [← h2]
    exact splitS_join 32 (by simp) (fun x hx y hy => by
      obtain ⟨z, hz, rfl⟩ := List.mem_map.1 hx
      exact hertzT_ne32 (hg z hz) y hy)
  have hz : ∀ z ∈ [a, b, c, d, e], hzB (hertzT z) = true ∧ hzV (hertzT z) = z := fun z hz => hz_yes ⟨hg z hz, rfl⟩
  refine ⟨hsp, fun x hx => ?_, (hz a (by simp)).2, (hz b (by simp)).2, (hz c (by simp)).2, (hz d (by simp)).2, (hz e (by simp)).2⟩
  rw [hsp] at hx
  obtain ⟨z, hzz, rfl⟩ := List.mem_map.1 hx
  exact (hz z hzz).1
theorem hz_back {x : ByteArray} (h : hzB x = true) : hertzT (hzV x) = x := by
  by_cases he : ∃ f, isHz x f
  · obtain ⟨f, hf⟩ := he
    rw [(hz_yes hf).2]
    exact hf.2
  · have : hzB x = false := @decide_eq_false _ (Classical.propDecidable _) he
    rw [this] at h
    cases h
theorem snd_of_spec {s x0 x1 x2 x3 x4 : ByteArray} (hsp : splitS 32 s = [x0, x1, x2, x3, x4]) (hz : ∀ x ∈ [x0, x1, x2, x3, x4], hzB x = true) (hs : sB (hzV x0) (hzV x1) (hzV x2) (hzV x3) (hzV x4) = true) :
    isSnd s (hzV x0) (hzV x1) (hzV x2) (hzV x3) (hzV x4) := by
  refine ⟨hs, ?_⟩
  have hj := joinB_split 32 s
  rw [hsp] at hj
  rw [← hj]
  unfold sndL
  simp only [List.map_cons, List.map_nil]
  rw [hz_back (hz x0 (by simp)), hz_back (hz x1 (by simp)), hz_back (hz x2 (by simp)), hz_back (hz x3 (by simp)), hz_back (hz x4 (by simp))]
noncomputable def sdOK (s : ByteArray) : Bool := @decide (∃ a b c d e, isSnd s a b c d e) (Classical.propDecidable _)
noncomputable def sdF (s : ByteArray) (i : Nat) : Int := if sdOK s then hzV ((splitS 32 s).getD i ⟨#[]⟩) else 0
theorem sd_yes {s : ByteArray} {a b c d e : Int} (h : isSnd s a b c d e) : (sdF s 0 = a ∧ sdF s 1 = b ∧ sdF s 2 = c ∧ sdF s 3 = d ∧ sdF s 4 = e) ∧ sdOK s = true := by
  have h1 : sdOK s = true := @decide_eq_true _ (Classical.propDecidable _) ⟨a, b, c, d, e, h⟩
  obtain ⟨k0, _, k1, k2, k3, k4, k5⟩ := snd_parts h
  unfold sdF
  rw [h1, k0]
  exact ⟨⟨k1, k2, k3, k4, k5⟩, rfl⟩
theorem sd_no {s : ByteArray} (h : ∀ a b c d e, ¬ isSnd s a b c d e) : (sdF s 0 = 0 ∧ sdF s 1 = 0 ∧ sdF s 2 = 0 ∧ sdF s 3 = 0 ∧ sdF s 4 = 0) ∧ sdOK s = false := by
  have h1 : sdOK s = false := @decide_eq_false _ (Classical.propDecidable _) (fun ⟨a, b, c, d, e, hx⟩ => h a b c d e hx)
  unfold sdF
  rw [h1]
  exact ⟨⟨rfl, rfl, rfl, rfl, rfl⟩, rfl⟩
theorem sd_len {s : ByteArray} (h : (splitS 32 s).length ≠ 5) : (sdF s 0 = 0 ∧ sdF s 1 = 0 ∧ sdF s 2 = 0 ∧ sdF s 3 = 0 ∧ sdF s 4 = 0) ∧ sdOK s = false :=
  sd_no fun a b c d e hs => h (by rw [(snd_parts hs).1]; rfl)
theorem sd_word {s x : ByteArray} (hx : x ∈ splitS 32 s) (hz : hzB x = false) : (sdF s 0 = 0 ∧ sdF s 1 = 0 ∧ sdF s 2 = 0 ∧ sdF s 3 = 0 ∧ sdF s 4 = 0) ∧ sdOK s = false :=
  sd_no fun a b c d e hs => by
    have := (snd_parts hs).2.1 x hx
    rw [hz] at this
    cases this
theorem sd_five {s x0 x1 x2 x3 x4 : ByteArray} (hsp : splitS 32 s = [x0, x1, x2, x3, x4]) (h : sB (hzV x0) (hzV x1) (hzV x2) (hzV x3) (hzV x4) = false ∨ sndS (hzV x0) (hzV x1) (hzV x2) (hzV x3) (hzV x4) ≠ s) :
    (sdF s 0 = 0 ∧ sdF s 1 = 0 ∧ sdF s 2 = 0 ∧ sdF s 3 = 0 ∧ sdF s 4 = 0) ∧ sdOK s = false :=
  sd_no fun a b c d e hs => by
    obtain ⟨k0, _, k1, k2, k3, k4, k5⟩ := snd_parts hs
    rw [hsp] at k0
    simp only [List.cons.injEq, and_true] at k0
    obtain ⟨rfl, rfl, rfl, rfl, rfl⟩ := k0
    rw [k1, k2, k3, k4, k5] at h
    rcases h with h | h
    · rw [hs.1] at h; cases h
    · apply h
      unfold sndS
      rw [if_pos hs.1]
      exact hs.2
theorem sd_impl {s x0 x1 x2 x3 x4 : ByteArray} (hs : sB (hzV x0) (hzV x1) (hzV x2) (hzV x3) (hzV x4) = true) (h : sndS (hzV x0) (hzV x1) (hzV x2) (hzV x3) (hzV x4) = s) :
    (sdF s 0 = hzV x0 ∧ sdF s 1 = hzV x1 ∧ sdF s 2 = hzV x2 ∧ sdF s 3 = hzV x3 ∧ sdF s 4 = hzV x4) ∧ sdOK s = true := by
  refine sd_yes ⟨hs, ?_⟩
  unfold sndS at h
  rw [if_pos hs] at h
  exact h
theorem five_words {xs : List ByteArray} (h : xs.length = 5) : ∃ x0 x1 x2 x3 x4, xs = [x0, x1, x2, x3, x4] := by
  match xs, h with
  | [a, b, c, d, e], _ => exact ⟨a, b, c, d, e, rfl⟩
noncomputable def hzU (xs : List ByteArray) (k : Nat) : List Value := ((xs.take k).map hzV).map (Value.int .i64)
theorem hzU_succ {xs : List ByteArray} {k : Nat} {x : ByteArray} (h : xs[k]? = some x) : hzU xs k ++ [.int .i64 (hzV x)] = hzU xs (k + 1) := by
  unfold hzU
  rw [List.take_add_one, h, List.map_append, List.map_append]
  rfl
end Go.Proofs.YtkbfmjnekeipcaaGreatDoor
