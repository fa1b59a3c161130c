/- Contracts on temperaments: the law's copy, comparison and measure; whether one is valid; whether two are the same. -/
import Derived.Test.YtdmfmpfdkfijeaaDoorOwn
import Derived.Test.YtdmfmpfdkfijeaaDoorName
namespace Go.Proofs.YtdmfmpfdkfijeaaDoor
open Go.ChangeShapes Go.WideShapes Go.ChangeAt Go.RowKit
set_option maxRecDepth 100000

theorem szInts_ok (A : Option Addr) (n c L : Nat) (w : World) (h : n ≤ L) (hL : L ≤ 1048576) : Calls Tryd.prog 75 #[.slice A n c, .int .i64 L] w fun e w' => e = .returned (.int .i64 ((L - n : Nat) : Int)) ∧ w = w' := by
  have e : ((L - n : Nat) : Int) = (L : Int) - n := by omega
  rw [e]
  go_enter Tryd.func75, Tryd.ntmps75
  go_wp2
  go_ret
  exact ⟨rfl, rfl⟩
theorem szInts_no (A : Option Addr) (n c L : Nat) (w : World) (h : ¬ n ≤ L) (hL : L ≤ 1048576) (hn : n ≤ 9223372036854775807) : Calls Tryd.prog 75 #[.slice A n c, .int .i64 L] w fun e w' => e = .returned (.int .i64 (-1)) ∧ w = w' := by
  go_enter Tryd.func75, Tryd.ntmps75
  go_wp2
  go_ret
  exact ⟨rfl, rfl⟩
theorem szTemp_ok (s : ByteArray) (A : Option Addr) (n c L : Nat) (w : World) (h : s.size + n ≤ L) (hL : L ≤ 1048576) :
    Calls Tryd.prog 38 #[.agg #[.string s, .slice A n c], .int .i64 L] w fun e w' => e = .returned (.int .i64 ((L - s.size - n : Nat) : Int)) ∧ Below w.heap.size w w' := by
  have e : (L : Int) - s.size = ((L - s.size : Nat) : Int) := by omega
  have hs : ¬ ((L - s.size : Nat) : Int) < 0 := by omega
  have hs2 : ¬ ((L - s.size - n : Nat) : Int) < 0 := by omega
  have H := Lib.hid (fun w1 => szInts_ok A n c (L - s.size) w1 (by omega) (by omega))
  go_enter Tryd.func38, Tryd.ntmps38
  go_wp2_with fail
  refine (H.out _).mono ?_
  rintro e w' ⟨rfl, rfl⟩
  go_wp2
  go_ret
  exact ⟨rfl, (Below.refl _ _).alloc (Nat.le_refl _) _⟩
theorem szTemp_no (s : ByteArray) (A : Option Addr) (n c L : Nat) (w : World) (h : ¬ s.size + n ≤ L) (hL : L ≤ 1048576) (hs : s.size ≤ maxLen) (hn : n ≤ maxLen) :
    Calls Tryd.prog 38 #[.agg #[.string s, .slice A n c], .int .i64 L] w fun e w' => e = .returned (.int .i64 (-1)) ∧ Below w.heap.size w w' := by
  unfold maxLen at hs hn
  by_cases h1 : s.size ≤ L
  · have e : (L : Int) - s.size = ((L - s.size : Nat) : Int) := by omega
    have hs : ¬ ((L - s.size : Nat) : Int) < 0 := by omega
    have H := Lib.hid (fun w1 => szInts_no A n c (L - s.size) w1 (by omega) (by omega) (by omega))
    go_enter Tryd.func38, Tryd.ntmps38
    go_wp2_with fail
    refine (H.out _).mono ?_
    rintro e w' ⟨rfl, rfl⟩
    go_wp2
    go_ret
    exact ⟨rfl, (Below.refl _ _).alloc (Nat.le_refl _) _⟩
  · go_enter Tryd.func38, Tryd.ntmps38
    go_wp2
    go_ret
    exact ⟨rfl, (Below.refl _ _).alloc (Nat.le_refl _) _⟩
theorem szT_ok (s : ByteArray) (A : Option Addr) (n c L : Nat) (l : Int) (w : World) (hl : l = L) (h : s.size + n ≤ L) (hL : L ≤ 1048576) :
    Calls Tryd.prog 38 #[.agg #[.string s, .slice A n c], .int .i64 l] w fun e w' => ∃ r : Nat, r = L - s.size - n ∧ e = .returned (.int .i64 (r : Int)) ∧ Below w.heap.size w w' := by
  subst hl
  exact (szTemp_ok s A n c L w h hL).mono fun e w' ⟨he, hb⟩ => ⟨_, rfl, he, hb⟩
theorem szT_no (s : ByteArray) (A : Option Addr) (n c L : Nat) (l : Int) (w : World) (hl : l = L) (h : ¬ s.size + n ≤ L) (hL : L ≤ 1048576) (hs : s.size ≤ maxLen) (hn : n ≤ maxLen) :
    Calls Tryd.prog 38 #[.agg #[.string s, .slice A n c], .int .i64 l] w fun e w' => e = .returned (.int .i64 (-1)) ∧ Below w.heap.size w w' := by
  subst hl
  exact szTemp_no s A n c L w h hL hs hn
/-- A new temperament with these offsets. -/
def NewTemp (w : World) (s : ByteArray) (n : Nat) (zs : List Int) (e : Ending) (w' : World) : Prop :=
  ∃ g c, e = .returned (.agg #[.string s, .slice (some ⟨g, 0, none⟩) n c]) ∧ w.heap.size ≤ g ∧ w'.ownsRow w.heap.size 2 1 (.slice (some ⟨g, 0, none⟩) n c) n (zs.map (Value.int .i64)) ∧ Below w.heap.size w w'
set_option maxHeartbeats 1000000 in
theorem toTemp_any (s : ByteArray) (A : Option Addr) (n c : Nat) (zs : List Int) (w : World) (h : IntsAt w A n zs) (hn : n ≤ 1048576) :
    Calls Tryd.prog 40 #[.agg #[.string s, .slice A n c]] w fun e w' => NewTemp w s n zs e w' := by
  go_enter Tryd.func40, Tryd.ntmps40
  go_wp2_with fail
  refine (toInt64S_any _ _ _ zs _ (by repeat (first | exact h | refine IntsAt.alloc ?_ _)) hn).mono ?_
  rintro e w1 ⟨g1, c1, rfl, hg1, ho1, hb1⟩
  obtain ⟨hcc, hff⟩ := bcell hb1
  have hz := hb1.size
  simp only [World.size_alloc] at hz hg1 ho1
  have HO := Lib.hid ho1
  have HB := Lib.hid hb1
  clear ho1 hb1
  go_wp2
  refine bodyPost_ret (v := .agg #[.string s, .slice (some ⟨g1, 0, none⟩) n c1]) (by simp [results, Tryd.results40, go_sem, hcc]) rfl ⟨g1, c1, rfl, by omega, ?_, ?_⟩
  · refine row_weaken (b1 := w.heap.size + 3) ?_ (by omega)
    repeat (first | exact HO.out | refine ownsRow_setCell_below ?_ (by first | omega | (simp; omega) | simp) _)
  · have hB : Below w.heap.size w w1 := by
      refine Below.trans ?_ (HB.out.mono (by simp; omega))
      repeat (first | exact Below.refl _ _ | refine Below.alloc ?_ (by first | omega | (simp; omega) | simp) _ | refine Below.setCell ?_ (by first | omega | (simp; omega) | simp) _)
    repeat (first | exact hB | refine Below.setCell ?_ (by first | omega | (simp; omega) | simp) _)
theorem eqTemp_same (s : ByteArray) (A B : Option Addr) (n m c d : Nat) (zs : List Int) (w : World) (ha : IntsAt w A n zs) (hb : IntsAt w B m zs) (hn : n ≤ 1048576) (hm : m ≤ 1048576) :
    Calls Tryd.prog 42 #[.agg #[.string s, .slice A n c], .agg #[.string s, .slice B m d]] w fun e w' => e = .returned (.bool true) ∧ Below w.heap.size w w' := by
  have h1 := Lib.hid ha
  have h2 := Lib.hid hb
  clear ha hb
  go_enter Tryd.func42, Tryd.ntmps42
  go_wp2_with fail
  refine (eqInt64S_any _ _ _ _ _ _ zs zs _ (by repeat (first | exact h1.out | refine IntsAt.alloc ?_ _)) (by repeat (first | exact h2.out | refine IntsAt.alloc ?_ _)) (by omega) (by omega)).mono ?_
  rintro e w' ⟨rfl, k, rfl⟩
  rw [decide_eq_true (rfl : zs = zs)]
  go_wp2
  go_ret
  exact ⟨rfl, below_drewN (by repeat (first | exact Below.refl _ _ | refine Below.alloc ?_ (by first | omega | (simp; omega) | simp) _)) k⟩
def sameT (s s' : ByteArray) (xs ys : List Int) : Bool := decide (s = s') && decide (xs = ys)
end Go.Proofs.YtdmfmpfdkfijeaaDoor
