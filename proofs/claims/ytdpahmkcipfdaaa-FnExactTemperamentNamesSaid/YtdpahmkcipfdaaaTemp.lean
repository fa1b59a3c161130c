/- Contracts on temperaments: the law's copy, comparison and measure; whether one is valid; whether two are the same. -/
import Derived.Test.YtdpahmkcipfdaaaOwn
import Derived.Test.YtdpahmkcipfdaaaName
namespace Go.Proofs.Ytdpahmkcipfdaaa
open Go.ChangeShapes Go.WideShapes Go.ChangeAt Go.RowKit
set_option maxRecDepth 100000

theorem szInts_ok (A : Option Addr) (n c L : Nat) (w : World) (h : n ≤ L) (hL : L ≤ 1048576) : Calls Try.prog 61 #[.slice A n c, .int .i64 L] w fun e w' => e = .returned (.int .i64 ((L - n : Nat) : Int)) ∧ w = w' := by
  have e : ((L - n : Nat) : Int) = (L : Int) - n := by omega
  rw [e]
  go_enter Try.func61, Try.ntmps61
  go_wp2
  go_ret
  exact ⟨rfl, rfl⟩
theorem szInts_no (A : Option Addr) (n c L : Nat) (w : World) (h : ¬ n ≤ L) (hL : L ≤ 1048576) (hn : n ≤ 9223372036854775807) : Calls Try.prog 61 #[.slice A n c, .int .i64 L] w fun e w' => e = .returned (.int .i64 (-1)) ∧ w = w' := by
  go_enter Try.func61, Try.ntmps61
  go_wp2
  go_ret
  exact ⟨rfl, rfl⟩
theorem szTemp_ok (s : ByteArray) (A : Option Addr) (n c L : Nat) (w : World) (h : s.size + n ≤ L) (hL : L ≤ 1048576) :
    Calls Try.prog 25 #[.agg #[.string s, .slice A n c], .int .i64 L] w fun e w' => e = .returned (.int .i64 ((L - s.size - n : Nat) : Int)) ∧ Below w.heap.size w w' := by
  have e : (L : Int) - s.size = ((L - s.size : Nat) : Int) := by omega
  have hs : ¬ ((L - s.size : Nat) : Int) < 0 := by omega
  have hs2 : ¬ ((L - s.size - n : Nat) : Int) < 0 := by omega
  have H := Lib.hid (fun w1 => szInts_ok A n c (L - s.size) w1 (by omega) (by omega))
  go_enter Try.func25, Try.ntmps25
  go_wp2_with fail
  refine (H.out _).mono ?_
  rintro e w' ⟨rfl, rfl⟩
  go_wp2
  go_ret
  exact ⟨rfl, (Below.refl _ _).alloc (Nat.le_refl _) _⟩
theorem szTemp_no (s : ByteArray) (A : Option Addr) (n c L : Nat) (w : World) (h : ¬ s.size + n ≤ L) (hL : L ≤ 1048576) (hs : s.size ≤ maxLen) (hn : n ≤ maxLen) :
    Calls Try.prog 25 #[.agg #[.string s, .slice A n c], .int .i64 L] w fun e w' => e = .returned (.int .i64 (-1)) ∧ Below w.heap.size w w' := by
  unfold maxLen at hs hn
  by_cases h1 : s.size ≤ L
  · have e : (L : Int) - s.size = ((L - s.size : Nat) : Int) := by omega
    have hs : ¬ ((L - s.size : Nat) : Int) < 0 := by omega
    have H := Lib.hid (fun w1 => szInts_no A n c (L - s.size) w1 (by omega) (by omega) (by omega))
    go_enter Try.func25, Try.ntmps25
    go_wp2_with fail
    refine (H.out _).mono ?_
    rintro e w' ⟨rfl, rfl⟩
    go_wp2
    go_ret
    exact ⟨rfl, (Below.refl _ _).alloc (Nat.le_refl _) _⟩
  · go_enter Try.func25, Try.ntmps25
    go_wp2
    go_ret
    exact ⟨rfl, (Below.refl _ _).alloc (Nat.le_refl _) _⟩
theorem szT_ok (s : ByteArray) (A : Option Addr) (n c L : Nat) (l : Int) (w : World) (hl : l = L) (h : s.size + n ≤ L) (hL : L ≤ 1048576) :
    Calls Try.prog 25 #[.agg #[.string s, .slice A n c], .int .i64 l] w fun e w' => ∃ r : Nat, r = L - s.size - n ∧ e = .returned (.int .i64 (r : Int)) ∧ Below w.heap.size w w' := by
  subst hl
  exact (szTemp_ok s A n c L w h hL).mono fun e w' ⟨he, hb⟩ => ⟨_, rfl, he, hb⟩
theorem szT_no (s : ByteArray) (A : Option Addr) (n c L : Nat) (l : Int) (w : World) (hl : l = L) (h : ¬ s.size + n ≤ L) (hL : L ≤ 1048576) (hs : s.size ≤ maxLen) (hn : n ≤ maxLen) :
    Calls Try.prog 25 #[.agg #[.string s, .slice A n c], .int .i64 l] w fun e w' => e = .returned (.int .i64 (-1)) ∧ Below w.heap.size w w' := by
  subst hl
  exact szTemp_no s A n c L w h hL hs hn
/-- A new temperament with these offsets. -/
def NewTemp (w : World) (s : ByteArray) (n : Nat) (zs : List Int) (e : Ending) (w' : World) : Prop :=
  ∃ g c, e = .returned (.agg #[.string s, .slice (some ⟨g, 0, none⟩) n c]) ∧ w.heap.size ≤ g ∧ w'.ownsRow w.heap.size 2 1 (.slice (some ⟨g, 0, none⟩) n c) n (zs.map (Value.int .i64)) ∧ Below w.heap.size w w'
set_option maxHeartbeats 1000000 in
theorem toTemp_any (s : ByteArray) (A : Option Addr) (n c : Nat) (zs : List Int) (w : World) (h : IntsAt w A n zs) (hn : n ≤ 1048576) :
    Calls Try.prog 27 #[.agg #[.string s, .slice A n c]] w fun e w' => NewTemp w s n zs e w' := by
  go_enter Try.func27, Try.ntmps27
  go_wp2_with fail
  refine (toInt64S_any _ _ _ zs _ (by repeat (first | exact h | refine IntsAt.alloc ?_ _)) hn).mono ?_
  rintro e w1 ⟨g1, c1, rfl, hg1, ho1, hb1⟩
  obtain ⟨hcc, hff⟩ := bcell hb1
  have hz := hb1.size
  simp only [World.size_alloc] at hz hg1 ho1
  have HO := Lib.hid ho1
  have HB := Lib.hid hb1
  clear ho1 hb1
  go_wp2
  refine bodyPost_ret (v := .agg #[.string s, .slice (some ⟨g1, 0, none⟩) n c1]) (by simp [results, Try.results27, go_sem, hcc]) rfl ⟨g1, c1, rfl, by omega, ?_, ?_⟩
  · refine row_weaken (b1 := w.heap.size + 3) ?_ (by omega)
    repeat (first | exact HO.out | refine ownsRow_setCell_below ?_ (by first | omega | (simp; omega) | simp) _)
  · have hB : Below w.heap.size w w1 := by
      refine Below.trans ?_ (HB.out.mono (by simp; omega))
      repeat (first | exact Below.refl _ _ | refine Below.alloc ?_ (by first | omega | (simp; omega) | simp) _ | refine Below.setCell ?_ (by first | omega | (simp; omega) | simp) _)
    repeat (first | exact hB | refine Below.setCell ?_ (by first | omega | (simp; omega) | simp) _)
theorem eqTemp_same (s : ByteArray) (A B : Option Addr) (n m c d : Nat) (zs : List Int) (w : World) (ha : IntsAt w A n zs) (hb : IntsAt w B m zs) (hn : n ≤ 1048576) (hm : m ≤ 1048576) :
    Calls Try.prog 29 #[.agg #[.string s, .slice A n c], .agg #[.string s, .slice B m d]] w fun e w' => e = .returned (.bool true) ∧ Below w.heap.size w w' := by
  have h1 := Lib.hid ha
  have h2 := Lib.hid hb
  clear ha hb
  go_enter Try.func29, Try.ntmps29
  go_wp2_with fail
  refine (eqInt64S_any _ _ _ _ _ _ zs zs _ (by repeat (first | exact h1.out | refine IntsAt.alloc ?_ _)) (by repeat (first | exact h2.out | refine IntsAt.alloc ?_ _)) (by omega) (by omega)).mono ?_
  rintro e w' ⟨rfl, k, rfl⟩
  rw [decide_eq_true (rfl : zs = zs)]
  go_wp2
  go_ret
  exact ⟨rfl, below_drewN (by repeat (first | exact Below.refl _ _ | refine Below.alloc ?_ (by first | omega | (simp; omega) | simp) _)) k⟩
def sameT (s s' : ByteArray) (xs ys : List Int) : Bool := decide (s = s') && decide (xs = ys)
set_option maxHeartbeats 1000000 in
theorem slicesEqual_any (A B : Option Addr) (n m c d : Nat) (xs ys : List Int) (w : World) (ha : IntsAt w A n xs) (hb : IntsAt w B m ys) (hn : n ≤ 4611686018427387904) (hm : m ≤ 4611686018427387904) :
    Calls Try.prog 64 #[.slice A n c, .slice B m d] w fun e w' => e = .returned (.bool (decide (xs = ys))) ∧ ∃ k, w' = w.drewN k := by
  have hl := ha.len
  have hl2 := hb.len
  by_cases hnm : n = m
  · subst hnm
    go_enter Try.func64, Try.ntmps64
    go_wp2
    go_loopw [5, 13] (fun _ i wr => ∃ (k q : Nat), k ≤ n ∧ i = .int .i64 k ∧ wr = w.drewN q ∧ (∀ j, j < k → xs[j]? = ys[j]?)) (fun _ i _ => n - (intOf i).toNat)
    case atStart => exact ⟨0, 0, Nat.zero_le _, rfl, rfl, fun j hj => by omega⟩
    case round =>
      obtain ⟨k, q, hk, rfl, rfl, hall⟩ := hrel
      by_cases hlt : k < n
      · obtain ⟨b, off, x, rfl, _, hx, hcx⟩ := ha.at_ hlt
        obtain ⟨b', off', y, rfl, _, hy, hcy⟩ := hb.at_ hlt
        have hltI : (k : Int) < (n : Int) := by omega
        by_cases hxy : x = y
        · have H := Lib.hid (eq_succ hall hx hy hxy)
          have hd : (x == y) = true := by rw [beq_iff_eq]; exact hxy
          have HXY := Lib.hid hxy
          clear hall hx hy hxy
          go_wp2
          go_quiet (fail)
          go_wp2
          go_roundw
          case rel => exact ⟨k + 1, q + nq, by omega, by go_num, by first | rfl | rw [World.drewN_drewN], H.out⟩
          case measure => simp [intOf]; omega
        · have H := Lib.hid (eq_no hx hy hxy)
          have hd : (x == y) = false := by rw [beq_eq_false_iff_ne]; exact hxy
          clear hall hx hy hxy
          go_wp2
          go_quiet (fail)
          go_wp2
          go_ret
          exact ⟨ret_bool H.out.symm, q + nq, by first | rfl | rw [World.drewN_drewN]⟩
      · have H := Lib.hid (eq_yes hl hl2 (fun j hj => hall j (by omega)))
        clear hall
        go_wp2
        go_ret
        exact ⟨ret_bool H.out.symm, q, rfl⟩
  · have H : Hid (decide (xs = ys) = false) := decide_eq_false fun e => hnm (by rw [← hl, ← hl2, e])
    have hd : ((n : Int) == (m : Int)) = false := by rw [beq_eq_false_iff_ne]; omega
    go_enter Try.func64, Try.ntmps64
    go_wp2
    go_ret
    exact ⟨ret_bool H.out.symm, 0, rfl⟩
theorem same_impl (s s' : ByteArray) (A B : Option Addr) (n m c d : Nat) (xs ys : List Int) (w : World) (ha : IntsAt w A n xs) (hb : IntsAt w B m ys) (hn : n ≤ 1048576) (hm : m ≤ 1048576) :
    Calls Try.prog 28 #[.agg #[.string s, .slice A n c], .agg #[.string s', .slice B m d]] w fun e w' => e = .returned (.bool (sameT s s' xs ys)) ∧ Below w.heap.size w w' := by
  have h1 := Lib.hid ha
  have h2 := Lib.hid hb
  clear ha hb
  by_cases hss : s = s'
  · subst hss
    have H : Hid (sameT s s xs ys = decide (xs = ys)) := by show _ = _; simp [sameT]
    go_enter Try.func28, Try.ntmps28
    go_wp2_with fail
    refine (slicesEqual_any _ _ _ _ _ _ xs ys _ (by repeat (first | exact h1.out | refine IntsAt.alloc ?_ _)) (by repeat (first | exact h2.out | refine IntsAt.alloc ?_ _)) (by omega) (by omega)).mono ?_
    rintro e w' ⟨rfl, k, rfl⟩
    go_wp2
    go_ret
    exact ⟨ret_bool H.out.symm, below_drewN (by repeat (first | exact Below.refl _ _ | refine Below.alloc ?_ (by first | omega | (simp; omega) | simp) _)) k⟩
  · have H : Hid (sameT s s' xs ys = false) := by show _ = _; simp [sameT, hss]
    have hd := str_ne hss
    go_enter Try.func28, Try.ntmps28
    go_wp2_with fail
    go_ret
    exact ⟨ret_bool H.out.symm, by repeat (first | exact Below.refl _ _ | refine Below.alloc ?_ (by first | omega | (simp; omega) | simp) _)⟩
set_option maxHeartbeats 1000000 in
theorem l00Same_any (A B : Option Addr) (n m c d : Nat) (xs ys : List Int) (w : World) (ha : IntsAt w A n xs) (hb : IntsAt w B m ys) (hn : n ≤ 4611686018427387904) (hm : m ≤ 4611686018427387904) :
    Calls Try.prog 62 #[.slice A n c, .slice B m d] w fun e w' => e = .returned (.bool (decide (xs = ys))) ∧ ∃ k, w' = w.drewN k := by
  have hl := ha.len
  have hl2 := hb.len
  by_cases hnm : n = m
  · subst hnm
    go_enter Try.func62, Try.ntmps62
    go_wp2
    go_loopw [5] (fun i wr => ∃ (k q : Nat), k ≤ n ∧ i = .int .i64 k ∧ wr = w.drewN q ∧ (∀ j, j < k → xs[j]? = ys[j]?)) (fun i _ => n - (intOf i).toNat)
    case atStart => exact ⟨0, 0, Nat.zero_le _, rfl, rfl, fun j hj => by omega⟩
    case round =>
      obtain ⟨k, q, hk, rfl, rfl, hall⟩ := hrel
      by_cases hlt : k < n
      · obtain ⟨b, off, x, rfl, _, hx, hcx⟩ := ha.at_ hlt
        obtain ⟨b', off', y, rfl, _, hy, hcy⟩ := hb.at_ hlt
        have hltI : (k : Int) < (n : Int) := by omega
        by_cases hxy : x = y
        · have H := Lib.hid (eq_succ hall hx hy hxy)
          have hd : (x == y) = true := by rw [beq_iff_eq]; exact hxy
          have HXY := Lib.hid hxy
          clear hall hx hy hxy
          go_wp2
          go_quiet (fail)
          go_wp2
          go_roundw
          case rel => exact ⟨k + 1, q + nq, by omega, by go_num, by first | rfl | rw [World.drewN_drewN], H.out⟩
          case measure => simp [intOf]; omega
        · have H := Lib.hid (eq_no hx hy hxy)
          have hd : (x == y) = false := by rw [beq_eq_false_iff_ne]; exact hxy
          clear hall hx hy hxy
          go_wp2
          go_quiet (fail)
          go_wp2
          go_ret
          exact ⟨ret_bool H.out.symm, q + nq, by first | rfl | rw [World.drewN_drewN]⟩
      · have H := Lib.hid (eq_yes hl hl2 (fun j hj => hall j (by omega)))
        clear hall
        go_wp2
        go_ret
        exact ⟨ret_bool H.out.symm, q, rfl⟩
  · have H : Hid (decide (xs = ys) = false) := decide_eq_false fun e => hnm (by rw [← hl, ← hl2, e])
    have hd : ((n : Int) == (m : Int)) = false := by rw [beq_eq_false_iff_ne]; omega
    go_enter Try.func62, Try.ntmps62
    go_wp2
    go_ret
    exact ⟨ret_bool H.out.symm, 0, rfl⟩
theorem same_spec (s s' : ByteArray) (A B : Option Addr) (n m c d : Nat) (xs ys : List Int) (w : World) (ha : IntsAt w A n xs) (hb : IntsAt w B m ys) (hn : n ≤ 1048576) (hm : m ≤ 1048576) :
    Calls Try.prog 26 #[.agg #[.string s, .slice A n c], .agg #[.string s', .slice B m d]] w fun e w' => e = .returned (.bool (sameT s s' xs ys)) ∧ Below w.heap.size w w' := by
  have h1 := Lib.hid ha
  have h2 := Lib.hid hb
  clear ha hb
  by_cases hss : s = s'
  · subst hss
    have H : Hid (sameT s s xs ys = decide (xs = ys)) := by show _ = _; simp [sameT]
    go_enter Try.func26, Try.ntmps26
    go_wp2_with fail
    refine (l00Same_any _ _ _ _ _ _ xs ys _ (by repeat (first | exact h1.out | refine IntsAt.alloc ?_ _)) (by repeat (first | exact h2.out | refine IntsAt.alloc ?_ _)) (by omega) (by omega)).mono ?_
    rintro e w' ⟨rfl, k, rfl⟩
    go_wp2
    go_ret
    exact ⟨ret_bool H.out.symm, below_drewN (by repeat (first | exact Below.refl _ _ | refine Below.alloc ?_ (by first | omega | (simp; omega) | simp) _)) k⟩
  · have H : Hid (sameT s s' xs ys = false) := by show _ = _; simp [sameT, hss]
    have hd := str_ne hss
    go_enter Try.func26, Try.ntmps26
    go_wp2_with fail
    go_ret
    exact ⟨ret_bool H.out.symm, by repeat (first | exact Below.refl _ _ | refine Below.alloc ?_ (by first | omega | (simp; omega) | simp) _)⟩
end Go.Proofs.Ytdpahmkcipfdaaa
