/- Contracts: whether a profile is valid, its height and its lip, in the program. -/
import Derived.Test.YtdpahmkcipfdaaaRings
import Derived.Test.YtdpahmkcipfdaaaName
namespace Go.Proofs.Ytdpahmkcipfdaaa
open Go.ChangeShapes Go.WideShapes Go.ChangeAt Go.RowKit
set_option maxRecDepth 100000

def allR (rs : List R3) : Bool := rs.all fun r => ringB r.1 r.2.1 r.2.2
theorem allR_any {rs : List R3} {k : Nat} {x y z : Int} (h : rs[k]? = some (x, y, z)) (hz : ringB x y z = false) : allR rs = false := by
  unfold allR
  rw [List.all_eq_false]
  exact ⟨(x, y, z), List.mem_of_getElem? h, by simp [hz]⟩
theorem allR_all {rs : List R3} {n : Nat} (hl : rs.length = n) (h : ∀ j x y z, j < n → rs[j]? = some (x, y, z) → ringB x y z = true) : allR rs = true := by
  unfold allR
  rw [List.all_eq_true]
  intro r hr
  obtain ⟨j, hj, rfl⟩ := List.getElem_of_mem hr
  exact h j _ _ _ (by omega) (List.getElem?_eq_getElem hj)
theorem allR_succ {rs : List R3} {k : Nat} {x y z : Int} (h : ∀ j x y z, j < k → rs[j]? = some (x, y, z) → ringB x y z = true) (hr : rs[k]? = some (x, y, z)) (hB : ringB x y z = true) : ∀ j x y z, j < k + 1 → rs[j]? = some (x, y, z) → ringB x y z = true := by
  intro j a b c hj hy
  rcases Nat.lt_or_eq_of_le (Nat.le_of_lt_succ hj) with h1 | rfl
  · exact h j a b c h1 hy
  · rw [hr] at hy; cases hy; exact hB
theorem allR_ring {rs : List R3} (h : allR rs = true) {k : Nat} {x y z : Int} (hr : rs[k]? = some (x, y, z)) : ringB x y z = true := by
  unfold allR at h
  rw [List.all_eq_true] at h
  exact h _ (List.mem_of_getElem? hr)
theorem ringB_bd {x y z : Int} (h : ringB x y z = true) : 500 ≤ x ∧ x ≤ 150000 ∧ 0 ≤ y ∧ y ≤ x - 100 ∧ 10 ≤ z ∧ z ≤ 300000 := by
  simp only [ringB, Bool.and_eq_true] at h
  have h1 := inB_iff.1 h.1.1
  have h2 := inB_iff.1 h.1.2
  have h3 := inB_iff.1 h.2
  omega
/-- Each ring from the second one to the one ahead of k lies on the one before it. -/
def joinTo (rs : List R3) (k : Nat) : Prop := ∀ j x y z x' y' z', j + 1 < k → rs[j]? = some (x, y, z) → rs[j + 1]? = some (x', y', z') → y < x' ∧ y' < x
theorem joinTo_succ {rs : List R3} {k : Nat} {x y z x' y' z' : Int} (h : joinTo rs (k + 1)) (h1 : rs[k]? = some (x, y, z)) (h2 : rs[k + 1]? = some (x', y', z')) (ha : y < x') (hb : y' < x) : joinTo rs (k + 2) := by
  intro j a b c a' b' c' hj e1 e2
  by_cases hjk : j = k
  · subst hjk
    rw [h1] at e1; rw [h2] at e2
    cases e1; cases e2
    exact ⟨ha, hb⟩
  · exact h j a b c a' b' c' (by omega) e1 e2
/-- The height of the first k rings. -/
def heightU (rs : List R3) (k : Nat) : Int := ((rs.take k).map fun r => r.2.2).foldl (· + ·) 0
theorem heightU_succ {rs : List R3} {k : Nat} {x y z : Int} (h : rs[k]? = some (x, y, z)) : heightU rs k + z = heightU rs (k + 1) := by
  obtain ⟨hlt, e⟩ := List.getElem?_eq_some_iff.1 h
  unfold heightU
  rw [List.take_succ_eq_append_getElem hlt, e, List.map_append, List.foldl_append]
  rfl
theorem heightU_bd {rs : List R3} (h : allR rs = true) : ∀ k, 0 ≤ heightU rs k ∧ heightU rs k ≤ 300000 * k
  | 0 => by simp [heightU]
  | k + 1 => by
    have ih := heightU_bd h k
    cases hr : rs[k]? with
    | none =>
      have hlen := List.getElem?_eq_none_iff.1 hr
      have e : heightU rs (k + 1) = heightU rs k := by
        unfold heightU
        rw [List.take_of_length_le (by omega), List.take_of_length_le hlen]
      rw [e]
      omega
    | some r =>
      obtain ⟨x, y, z⟩ := r
      have hb := ringB_bd (allR_ring h hr)
      rw [← heightU_succ hr]
      omega
/-- A valid profile. -/
def profP (s : ByteArray) (rs : List R3) : Prop := nameB s = true ∧ 1 ≤ rs.length ∧ rs.length ≤ 32 ∧ allR rs = true ∧ joinTo rs rs.length ∧ heightU rs rs.length ≤ 300000
noncomputable def profB (s : ByteArray) (rs : List R3) : Bool := @decide (profP s rs) (Classical.propDecidable _)
theorem profB_no {s : ByteArray} {rs : List R3} (h : ¬ profP s rs) : profB s rs = false := @decide_eq_false _ (Classical.propDecidable _) h
theorem profB_yes {s : ByteArray} {rs : List R3} (h : profP s rs) : profB s rs = true := @decide_eq_true _ (Classical.propDecidable _) h
theorem profB_iff {s : ByteArray} {rs : List R3} (h : profB s rs = true) : profP s rs := @of_decide_eq_true _ (Classical.propDecidable _) h
theorem pbox_below (s : ByteArray) (A : Option Addr) (n c : Nat) (w : World) (t : TypeId) : Below w.heap.size w (w.alloc (.cells #[.string s, .slice A n c] t)) := (Below.refl _ _).alloc (Nat.le_refl _) _
theorem pbox_two {s : ByteArray} {A : Option Addr} {n c : Nat} {w w' : World} {t : TypeId} (h : Below (w.alloc (.cells #[.string s, .slice A n c] t)).heap.size (w.alloc (.cells #[.string s, .slice A n c] t)) w') : Below w.heap.size w w' :=
  (pbox_below s A n c w t).trans (h.mono (pbox_below s A n c w t).size)

set_option maxHeartbeats 2000000 in
theorem height_any (s : ByteArray) (A : Option Addr) (n c : Nat) (rs : List R3) (w : World) (h : RingsAt w A n rs) (hn : n ≤ 32) (hR : allR rs = true) :
    Calls Try.prog 82 #[.agg #[.string s, .slice A n c]] w fun e w' => e = .returned (.int .i64 (heightU rs rs.length)) ∧ Below w.heap.size w w' := by
  have hl := h.1
  have h0 := h.alloc (.cells #[.string s, .slice A n c] 51)
  have hbd := heightU_bd hR
  have HR := Lib.hid (fun (k : Nat) (x y z : Int) (hr : rs[k]? = some (x, y, z)) => ringB_bd (allR_ring hR hr))
  obtain ⟨W, hW⟩ : ∃ W, W = w.alloc (.cells #[.string s, .slice A n c] 51) := ⟨_, rfl⟩
  have HWB : Hid (Below w.heap.size w W) := by show Below _ _ _; rw [hW]; exact pbox_below _ _ _ _ _ _
  rw [← hW] at h0
  go_enter Try.func82, Try.ntmps82
  go_wp2
  rw [← hW]
  clear hW
  go_loopw [3, 5, 9] (fun t _ i wr => ∃ (k : Nat) (t' : Int), k ≤ n ∧ i = .int .i64 k ∧ t = .int .i64 t' ∧ t' = heightU rs k ∧ Below W.heap.size W wr) (fun _ _ i _ => n - (intOf i).toNat)
  case atStart => exact ⟨0, 0, Nat.zero_le _, rfl, rfl, by simp [heightU], Below.refl _ _⟩
  case round =>
    obtain ⟨k, t, hk, rfl, rfl, ht, hbr⟩ := hrel
    have b0 := hbd k
    rw [← ht] at b0
    by_cases hlt : k < n
    · obtain ⟨b, off, x, y, z, rfl, hb, hr, c0, c1, c2⟩ := (h0.below hbr).at_ hlt
      have rb := HR.out _ _ _ _ hr
      have H : Hid (t + z = heightU rs (k + 1)) := by
        have := heightU_succ hr
        rw [← ht] at this
        exact this
      have HBR := Lib.hid hbr
      have hltI : (k : Int) < (n : Int) := by omega
      have hsz := hbr.size
      clear hr ht hbr hbd h h0
      go_wp2
      go_roundw
      case rel =>
        refine ⟨k + 1, _, by omega, by go_num, rfl, H.out, ?_⟩
        repeat (first | exact HBR.out | refine Below.alloc ?_ (by first | omega | (simp; omega) | simp) _)
      case measure => simp [intOf]; omega
    · obtain rfl : k = n := by omega
      have H : Hid (t = heightU rs rs.length) := by rw [hl]; exact ht
      have HBR := Lib.hid hbr
      clear ht hbr hbd h h0
      go_wp2
      go_ret
      exact ⟨ret_int H.out, HWB.out.trans (HBR.out.mono HWB.out.size)⟩
theorem closR_is {x y z : Int} {r : Bool} (h : ringB x y z = r) (w : World) : Calls Try.prog 80 #[.agg #[.int .i64 x, .int .i64 y, .int .i64 z]] w fun e w' => e = .returned (.bool (!r)) ∧ Below w.heap.size w w' := by
  have H := Lib.hid (fun w1 => ring_impl x y z w1)
  rw [h] at H
  go_enter Try.func80, Try.ntmps80
  go_wp2_with fail
  refine (H.out _).mono ?_
  rintro e w1 ⟨rfl, hb1⟩
  go_wp2
  go_ret
  exact ⟨rfl, ((Below.refl _ _).alloc (Nat.le_refl _) _).trans (hb1.mono (by simp))⟩
set_option maxHeartbeats 2000000 in
theorem indexR_any (A : Option Addr) (n c : Nat) (rs : List R3) (w : World) (h : RingsAt w A n rs) (hn : n ≤ 4611686018427387904) :
    Calls Try.prog 98 #[.slice A n c, .func (.func 80) #[] #[]] w fun e w' => ∃ r : Int, e = .returned (.int .i64 r) ∧ Below w.heap.size w w' ∧ decide (0 ≤ r) = !(allR rs) := by
  have hl := h.1
  go_enter Try.func98, Try.ntmps98
  go_wp2
  go_loopw [5, 8] (fun _ i wr => ∃ k : Nat, k ≤ n ∧ i = .int .i64 k ∧ Below w.heap.size w wr ∧ ∀ j x y z, j < k → rs[j]? = some (x, y, z) → ringB x y z = true) (fun _ i _ => n - (intOf i).toNat)
  case atStart => exact ⟨0, Nat.zero_le _, rfl, Below.refl _ _, fun j x y z hj => by omega⟩
  case round =>
    obtain ⟨k, hk, rfl, hbr, hall⟩ := hrel
    by_cases hlt : k < n
    · obtain ⟨b, off, x, y, z, rfl, hb, hr, c0, c1, c2⟩ := (h.below hbr).at_ hlt
      have hltI : (k : Int) < (n : Int) := by omega
      have HBR := Lib.hid hbr
      cases hB : ringB x y z
      · have H := Lib.hid (allR_any hr hB)
        have HB := Lib.hid hB
        clear hall hr hbr h hB
        go_wp2_with (go_at_call 80; refine (closR_is HB.out _).mono ?_; rintro e w2 ⟨rfl, hb2⟩)
        go_ret
        exact ⟨k, rfl, below_two HBR.out hb2 (Nat.le_refl _), by rw [H.out]; simp⟩
      · have H := Lib.hid (allR_succ hall hr hB)
        have HB := Lib.hid hB
        clear hall hr hbr h hB
        go_wp2_with (go_at_call 80; refine (closR_is HB.out _).mono ?_; rintro e w2 ⟨rfl, hb2⟩)
        go_roundw
        case rel => exact ⟨k + 1, by omega, by go_num, below_two HBR.out hb2 (Nat.le_refl _), H.out⟩
        case measure => simp [intOf]; omega
    · have H := Lib.hid (allR_all hl (fun j x y z hj => hall j x y z (by omega)))
      clear hall
      go_wp2
      go_ret
      exact ⟨-1, rfl, hbr, by rw [H.out]; rfl⟩
theorem containsR_any (A : Option Addr) (n c : Nat) (rs : List R3) (w : World) (h : RingsAt w A n rs) (hn : n ≤ 4611686018427387904) :
    Calls Try.prog 79 #[.slice A n c, .func (.func 80) #[] #[]] w fun e w' => e = .returned (.bool (!(allR rs))) ∧ Below w.heap.size w w' := by
  have H := Lib.hid (indexR_any A n c rs w h hn)
  go_enter Try.func79, Try.ntmps79
  go_wp2_with fail
  refine H.out.mono ?_
  rintro e w1 ⟨r, rfl, hb, hr⟩
  have HR := Lib.hid hr
  clear hr
  go_wp2
  go_ret
  exact ⟨ret_bool HR.out, hb⟩
attribute [local go_sem ↓] Go.wp_at_zero Go.wp_at_succ
set_option maxHeartbeats 8000000 in
theorem validP_impl (s : ByteArray) (A : Option Addr) (n c : Nat) (rs : List R3) (w : World) (h : RingsAt w A n rs) (hn : n ≤ 1048576) (hs : s.size ≤ maxLen) :
    Calls Try.prog 44 #[.agg #[.string s, .slice A n c]] w fun e w' => e = .returned (.bool (profB s rs)) ∧ Below w.heap.size w w' := by
  have hl := h.1
  have h0 := h.alloc (.cells #[.string s, .slice A n c] 51)
  have HN := Lib.hid (fun w1 => isName_impl s w1 hs)
  cases hN : nameB s
  · have H := Lib.hid (profB_no (s := s) (rs := rs) (fun hp => by have := hp.1; rw [hN] at this; cases this))
    rw [hN] at HN
    clear hN
    go_enter Try.func44, Try.ntmps44
    go_wp2_with (go_at_call 72; refine (HN.out _).mono ?_; rintro e w1 ⟨rfl, hb1⟩)
    go_ret
    exact ⟨ret_bool H.out.symm, pbox_two hb1⟩
  by_cases h1 : 1 ≤ n
  case neg =>
    have H := Lib.hid (profB_no (s := s) (rs := rs) (fun hp => by have := hp.2.1; omega))
    rw [hN] at HN
    clear hN
    go_enter Try.func44, Try.ntmps44
    go_wp2_with fail
    refine (HN.out _).mono ?_
    rintro e w1 ⟨rfl, hb1⟩
    obtain ⟨hcc, hff⟩ := bcell hb1
    have hd : decide ((n : Int) < 1) = true := decide_eq_true (by omega)
    go_wp2
    go_ret
    exact ⟨ret_bool H.out.symm, pbox_two hb1⟩
  by_cases h2 : n ≤ 32
  case neg =>
    have H := Lib.hid (profB_no (s := s) (rs := rs) (fun hp => by have := hp.2.2.1; omega))
    rw [hN] at HN
    clear hN
    go_enter Try.func44, Try.ntmps44
    go_wp2_with fail
    refine (HN.out _).mono ?_
    rintro e w1 ⟨rfl, hb1⟩
    obtain ⟨hcc, hff⟩ := bcell hb1
    have hd : decide ((n : Int) < 1) = false := decide_eq_false (by omega)
    have hd2 : decide ((32 : Int) < n) = true := decide_eq_true (by omega)
    go_wp2
    go_ret
    exact ⟨ret_bool H.out.symm, pbox_two hb1⟩
  cases hR : allR rs
  · have H := Lib.hid (profB_no (s := s) (rs := rs) (fun hp => by have := hp.2.2.2.1; rw [hR] at this; cases this))
    have HC := Lib.hid (fun w1 (hh : RingsAt w1 A n rs) => containsR_any A n c rs w1 hh (by omega))
    rw [hR] at HC
    rw [hN] at HN
    clear hN hR
    have hd : decide ((n : Int) < 1) = false := decide_eq_false (by omega)
    have hd2 : decide ((32 : Int) < n) = false := decide_eq_false (by omega)
    go_enter Try.func44, Try.ntmps44
    go_wp2_with fail
    refine (HN.out _).mono ?_
    rintro e w1 ⟨rfl, hb1⟩
    obtain ⟨hcc, hff⟩ := bcell hb1
    go_wp2_with fail
    refine (HC.out _ (h0.below hb1)).mono ?_
    rintro e w2 ⟨rfl, hb2⟩
    go_wp2
    go_ret
    exact ⟨ret_bool H.out.symm, pbox_two (below_two hb1 hb2 (Nat.le_refl _))⟩
  have HC := Lib.hid (fun w1 (hh : RingsAt w1 A n rs) => containsR_any A n c rs w1 hh (by omega))
  rw [hR] at HC
  have HNN := Lib.hid hN
  have HRR := Lib.hid hR
  have HH := Lib.hid (fun w1 (hh : RingsAt w1 A n rs) => height_any s A n c rs w1 hh h2 hR)
  have HHB := Lib.hid (heightU_bd hR)
  rw [hN] at HN
  clear hN hR
  have hd : decide ((n : Int) < 1) = false := decide_eq_false (by omega)
  have hd2 : decide ((32 : Int) < n) = false := decide_eq_false (by omega)
  have hsz : (w.alloc (.cells #[.string s, .slice A n c] 51)).heap.size = w.heap.size + 1 := by simp
  obtain ⟨W, hW⟩ : ∃ W, W = w.alloc (.cells #[.string s, .slice A n c] 51) := ⟨_, rfl⟩
  have HWB : Hid (Below w.heap.size w W) := by show Below _ _ _; rw [hW]; exact pbox_below _ _ _ _ _ _
  have q0 : W.cell? ⟨w.heap.size, 0, none⟩ = some (.string s) := by rw [hW]; go_simp
  have q1 : W.cell? ⟨w.heap.size, 1, none⟩ = some (.slice A n c) := by rw [hW]; go_simp
  rw [← hW] at h0 hsz
  go_enter Try.func44, Try.ntmps44
  go_wp2_with fail
  rw [← hW]
  clear hW
  refine (HN.out _).mono ?_
  rintro e w1 ⟨rfl, hb1⟩
  obtain ⟨p0, p1⟩ := cells2 hb1 (by omega) q0 q1
  go_wp2_with fail
  refine (HC.out _ (h0.below hb1)).mono ?_
  rintro e w2 ⟨rfl, hb2⟩
  have HB2 := Lib.hid (below_two hb1 hb2 (Nat.le_refl _))
  clear hb1 hb2 p0 p1
  go_wp2
  go_loopw [3, 4, 5] (fun i _ _ wr => ∃ k : Nat, 1 ≤ k ∧ k ≤ n ∧ i = .int .i64 k ∧ Below W.heap.size W wr ∧ joinTo rs k) (fun i _ _ _ => n - (intOf i).toNat)
  case atStart => exact ⟨1, by omega, h1, rfl, HB2.out, fun j x y z x' y' z' hj => by omega⟩
  case round =>
    obtain ⟨k, hk1, hk, rfl, hbr, hj⟩ := hrel
    obtain ⟨p0, p1⟩ := cells2 hbr (by omega) q0 q1
    have hz : w.heap.size < wr.heap.size := by have := hbr.size; omega
    have HBR := Lib.hid hbr
    have hI := h0.below hbr
    by_cases hlt : k < n
    · obtain ⟨j, rfl⟩ : ∃ j, k = j + 1 := ⟨k - 1, by omega⟩
      obtain ⟨b, off, x, y, z, rfl, hb, hr, c0, c1, c2⟩ := hI.at_ (show j < n by omega)
      obtain ⟨b', off', x', y', z', he, hb', hr', d0, d1, d2⟩ := hI.at_ hlt
      simp only [Option.some.injEq, Addr.mk.injEq, and_true] at he
      obtain ⟨rfl, rfl⟩ := he
      have hw1 : IntKind.i64.wrap (((j + 1 : Nat) : Int) - 1) = (j : Int) := (IntWalk.i64_in _ (by omega)).trans (by omega)
      have hw3 : (0 : Int) ≤ (j : Int) := by omega
      have hw4 : (j : Int) < (n : Int) := by omega
      have hw5 : ((j + 1 : Nat) : Int) < (n : Int) := by omega
      have hw6 : (0 : Int) ≤ ((j + 1 : Nat) : Int) := by omega
      obtain ⟨kk, hkk⟩ : ∃ kk : Nat, kk = j + 1 := ⟨_, rfl⟩
      rw [← hkk] at hw1 hw5 hw6 d0 d1 d2 hr' hlt hk1 hk hj ⊢
      have HKK := Lib.hid hkk
      have hzz0 := hbr.size
      by_cases ja : y < x'
      · have ja' : decide (x' ≤ y) = false := decide_eq_false (by omega)
        by_cases jb : y' < x
        · have jb' : decide (x ≤ y') = false := decide_eq_false (by omega)
          have HJ : Hid (joinTo rs (kk + 1)) := by show joinTo _ _; rw [hkk] at hj hr' ⊢; exact joinTo_succ hj hr hr' ja jb
          have hzz := hbr.size
          clear hj hr hr' hbr hI hkk
          go_wp2
          go_region_held3 (fun w' => w'.cell? ⟨w.heap.size, 1, none⟩ = some (.slice (some ⟨b, off, none⟩) n c) ∧ w'.cell? ⟨b, off + j * 3, none⟩ = some (.int .i64 x) ∧ w'.cell? ⟨b, off + j * 3 + 1, none⟩ = some (.int .i64 y) ∧ w'.cell? ⟨b, off + j * 3 + 2, none⟩ = some (.int .i64 z) ∧ w'.cell? ⟨b, off + kk * 3, none⟩ = some (.int .i64 x') ∧ w'.cell? ⟨b, off + kk * 3 + 1, none⟩ = some (.int .i64 y') ∧ w'.cell? ⟨b, off + kk * 3 + 2, none⟩ = some (.int .i64 z'))
            (first
              | exact ⟨p1, c0, c1, c2, d0, d1, d2⟩
              | go_keep)
            (fail)
          all_goals
            go_wp2
            go_roundw
            case rel =>
              refine ⟨kk + 1, by omega, by omega, by go_num, ?_, HJ.out⟩
              repeat (first | exact HBR.out | refine Below.drew ?_ | refine Below.alloc ?_ (by first | omega | (simp; omega) | simp) _)
            case measure => simp [intOf]; omega
        · have jb' : decide (x ≤ y') = true := decide_eq_true (by omega)
          have H := Lib.hid (profB_no (s := s) (rs := rs) (fun hp => by
            have h5 := hp.2.2.2.2.1
            rw [hkk] at hr' hlt
            have := h5 j x y z x' y' z' (by omega) hr hr'
            omega))
          have HWR := HWB.out.trans (HBR.out.mono HWB.out.size)
          have hzz := hbr.size
          clear hj hr hr' hbr hI hkk
          go_wp2
          go_region_held3 (fun w' => w'.cell? ⟨w.heap.size, 1, none⟩ = some (.slice (some ⟨b, off, none⟩) n c) ∧ w'.cell? ⟨b, off + j * 3, none⟩ = some (.int .i64 x) ∧ w'.cell? ⟨b, off + j * 3 + 1, none⟩ = some (.int .i64 y) ∧ w'.cell? ⟨b, off + j * 3 + 2, none⟩ = some (.int .i64 z) ∧ w'.cell? ⟨b, off + kk * 3, none⟩ = some (.int .i64 x') ∧ w'.cell? ⟨b, off + kk * 3 + 1, none⟩ = some (.int .i64 y') ∧ w'.cell? ⟨b, off + kk * 3 + 2, none⟩ = some (.int .i64 z'))
            (first
              | exact ⟨p1, c0, c1, c2, d0, d1, d2⟩
              | go_keep)
            (fail)
          all_goals
            go_wp2
            go_ret
            refine ⟨ret_bool H.out.symm, ?_⟩
            repeat (first | exact HWR | refine Below.drew ?_ | refine Below.alloc ?_ (by first | omega | (simp; omega) | simp) _)
      · have ja' : decide (x' ≤ y) = true := decide_eq_true (by omega)
        have H := Lib.hid (profB_no (s := s) (rs := rs) (fun hp => by
          have h5 := hp.2.2.2.2.1
          rw [hkk] at hr' hlt
          have := h5 j x y z x' y' z' (by omega) hr hr'
          omega))
        have HWR := HWB.out.trans (HBR.out.mono HWB.out.size)
        have hzz := hbr.size
        clear hj hr hr' hbr hI hkk
        go_wp2
        go_region_held3 (fun w' => w'.cell? ⟨w.heap.size, 1, none⟩ = some (.slice (some ⟨b, off, none⟩) n c) ∧ w'.cell? ⟨b, off + j * 3, none⟩ = some (.int .i64 x) ∧ w'.cell? ⟨b, off + j * 3 + 1, none⟩ = some (.int .i64 y) ∧ w'.cell? ⟨b, off + j * 3 + 2, none⟩ = some (.int .i64 z) ∧ w'.cell? ⟨b, off + kk * 3, none⟩ = some (.int .i64 x') ∧ w'.cell? ⟨b, off + kk * 3 + 1, none⟩ = some (.int .i64 y') ∧ w'.cell? ⟨b, off + kk * 3 + 2, none⟩ = some (.int .i64 z'))
          (first
            | exact ⟨p1, c0, c1, c2, d0, d1, d2⟩
            | go_keep)
          (fail)
        all_goals
          go_wp2
          go_ret
          refine ⟨ret_bool H.out.symm, ?_⟩
          repeat (first | exact HWR | refine Below.drew ?_ | refine Below.alloc ?_ (by first | omega | (simp; omega) | simp) _)
    · obtain rfl : k = n := by omega
      have HHH : Hid (profB s rs = decide (heightU rs rs.length ≤ 300000)) := by
        show _ = _
        by_cases hh : heightU rs rs.length ≤ 300000
        · rw [decide_eq_true hh]
          exact profB_yes ⟨HNN.out, by omega, by omega, HRR.out, by rw [hl]; exact hj, hh⟩
        · rw [decide_eq_false hh]
          exact profB_no (fun hp => hh hp.2.2.2.2.2)
      have HII := Lib.hid hI
      have HWR := Lib.hid (HWB.out.trans (HBR.out.mono HWB.out.size))
      clear hj hbr hI
      go_wp2_with fail
      refine (HH.out _ HII.out).mono ?_
      rintro e w3 ⟨rfl, hb3⟩
      go_wp2
      go_ret
      exact ⟨ret_bool (by rw [HHH.out, hl]), below_two HWR.out hb3 (Nat.le_refl _)⟩
end Go.Proofs.Ytdpahmkcipfdaaa
