/- Contracts: the law's copy of a profile, and the comparison of two that are alike. -/
import Derived.Test.YtdpahmkcipfdaaaRings
namespace Go.Proofs.Ytdpahmkcipfdaaa
open Go.ChangeShapes Go.WideShapes Go.ChangeAt Go.RowKit
set_option maxRecDepth 100000

/-- A new profile with these rings. -/
def NewProf (w : World) (s : ByteArray) (n : Nat) (rs : List R3) (e : Ending) (w' : World) : Prop :=
  ∃ g c, e = .returned (.agg #[.string s, .slice (some ⟨g, 0, none⟩) n c]) ∧ w.heap.size ≤ g ∧ w'.ownsRow w.heap.size 79 3 (.slice (some ⟨g, 0, none⟩) n c) n (flat rs) ∧ Below w.heap.size w w'
set_option maxHeartbeats 1000000 in
theorem toProf_any (s : ByteArray) (A : Option Addr) (n c : Nat) (rs : List R3) (w : World) (h : RingsAt w A n rs) (hn : n ≤ 1048576) :
    Calls Try.prog 36 #[.agg #[.string s, .slice A n c]] w fun e w' => NewProf w s n rs e w' := by
  go_enter Try.func36, Try.ntmps36
  go_wp2_with fail
  refine (toRings_any _ _ _ rs _ (by repeat (first | exact h | refine RingsAt.alloc ?_ _)) hn).mono ?_
  rintro e w1 ⟨g1, c1, rfl, hg1, ho1, hb1⟩
  obtain ⟨hcc, hff⟩ := bcell hb1
  have hz := hb1.size
  simp only [World.size_alloc] at hz hg1 ho1
  have HO := Lib.hid ho1
  have HB := Lib.hid hb1
  clear ho1 hb1
  go_wp2
  refine bodyPost_ret (v := .agg #[.string s, .slice (some ⟨g1, 0, none⟩) n c1]) (by simp [results, Try.results36, go_sem, hcc]) rfl ⟨g1, c1, rfl, by omega, ?_, ?_⟩
  · refine row_weaken (b1 := w.heap.size + 3) ?_ (by omega)
    repeat (first | exact HO.out | refine ownsRow_setCell_below ?_ (by first | omega | (simp; omega) | simp) _)
  · have hB : Below w.heap.size w w1 := by
      refine Below.trans ?_ (HB.out.mono (by simp; omega))
      repeat (first | exact Below.refl _ _ | refine Below.alloc ?_ (by first | omega | (simp; omega) | simp) _ | refine Below.setCell ?_ (by first | omega | (simp; omega) | simp) _)
    repeat (first | exact hB | refine Below.setCell ?_ (by first | omega | (simp; omega) | simp) _)
theorem eqRing_same (x y z : Int) (w : World) : Calls Try.prog 91 #[.agg #[.int .i64 x, .int .i64 y, .int .i64 z], .agg #[.int .i64 x, .int .i64 y, .int .i64 z]] w fun e w' => e = .returned (.bool true) ∧ Below w.heap.size w w' := by
  go_enter Try.func91, Try.ntmps91
  go_wp2
  go_ret
  exact ⟨rfl, ((Below.refl _ _).alloc (Nat.le_refl _) _).alloc (by simp) _⟩
attribute [local go_sem ↓] Go.wp_at_zero Go.wp_at_succ
set_option maxHeartbeats 4000000 in
theorem eqRings_same (A B : Option Addr) (n m c d : Nat) (rs : List R3) (w : World) (ha : RingsAt w A n rs) (hb : RingsAt w B m rs) (hn : n ≤ 4611686018427387904) :
    Calls Try.prog 70 #[.slice A n c, .slice B m d] w fun e w' => e = .returned (.bool true) ∧ Below w.heap.size w w' := by
  obtain rfl : n = m := ha.1.symm.trans hb.1
  go_enter Try.func70, Try.ntmps70
  go_wp2
  go_loopw [5] (fun i wr => ∃ k : Nat, k ≤ n ∧ i = .int .i64 k ∧ Below w.heap.size w wr) (fun i _ => n - (intOf i).toNat)
  case atStart => exact ⟨0, Nat.zero_le _, rfl, Below.refl _ _⟩
  case round =>
    obtain ⟨k, hk, rfl, hbr⟩ := hrel
    by_cases hlt : k < n
    · obtain ⟨b1, o1, x, y, z, rfl, l1, hr, c0, c1, c2⟩ := (ha.below hbr).at_ hlt
      obtain ⟨b2, o2, x', y', z', rfl, l2, hr', d0, d1, d2⟩ := (hb.below hbr).at_ hlt
      rw [hr] at hr'
      simp only [Option.some.injEq, Prod.mk.injEq] at hr'
      obtain ⟨rfl, rfl, rfl⟩ := hr'
      have hltI : (k : Int) < (n : Int) := by omega
      have hk0 : (0 : Int) ≤ (k : Int) := by omega
      have HBR := Lib.hid hbr
      clear ha hb hbr hr
      go_wp2
      go_region_held3 (fun w' => w'.cell? ⟨b1, o1 + k * 3, none⟩ = some (.int .i64 x) ∧ w'.cell? ⟨b1, o1 + k * 3 + 1, none⟩ = some (.int .i64 y) ∧ w'.cell? ⟨b1, o1 + k * 3 + 2, none⟩ = some (.int .i64 z) ∧ w'.cell? ⟨b2, o2 + k * 3, none⟩ = some (.int .i64 x) ∧ w'.cell? ⟨b2, o2 + k * 3 + 1, none⟩ = some (.int .i64 y) ∧ w'.cell? ⟨b2, o2 + k * 3 + 2, none⟩ = some (.int .i64 z))
        (first
          | exact ⟨(hb3.cell (p := ⟨b1, o1 + k * 3, none⟩) l1).trans c0, (hb3.cell (p := ⟨b1, o1 + k * 3 + 1, none⟩) l1).trans c1, (hb3.cell (p := ⟨b1, o1 + k * 3 + 2, none⟩) l1).trans c2, (hb3.cell (p := ⟨b2, o2 + k * 3, none⟩) l2).trans d0, (hb3.cell (p := ⟨b2, o2 + k * 3 + 1, none⟩) l2).trans d1, (hb3.cell (p := ⟨b2, o2 + k * 3 + 2, none⟩) l2).trans d2⟩
          | exact ⟨c0, c1, c2, d0, d1, d2⟩
          | go_keep)
        ((go_at_call 91; refine (eqRing_same x y z _).mono ?_; rintro e w3 ⟨rfl, hb3⟩))
      have HB3 := Lib.hid (below_two (HBR.out.drew) hb3 (Nat.le_refl _))
      clear hb3 c0 c1 c2 d0 d1 d2
      go_wp2
      go_roundw
      case rel => exact ⟨k + 1, by omega, by go_num, HB3.out⟩
      case measure => simp [intOf]; omega
    · clear ha hb
      go_wp2
      go_ret
      exact ⟨rfl, hbr⟩
theorem eqProf_same (s : ByteArray) (A B : Option Addr) (n m c d : Nat) (rs : List R3) (w : World) (ha : RingsAt w A n rs) (hb : RingsAt w B m rs) (hn : n ≤ 1048576) :
    Calls Try.prog 38 #[.agg #[.string s, .slice A n c], .agg #[.string s, .slice B m d]] w fun e w' => e = .returned (.bool true) ∧ Below w.heap.size w w' := by
  have h1 := Lib.hid ha
  have h2 := Lib.hid hb
  clear ha hb
  go_enter Try.func38, Try.ntmps38
  go_wp2_with fail
  refine (eqRings_same _ _ _ _ _ _ rs _ (by repeat (first | exact h1.out | refine RingsAt.alloc ?_ _)) (by repeat (first | exact h2.out | refine RingsAt.alloc ?_ _)) (by omega)).mono ?_
  rintro e w' ⟨rfl, hb⟩
  go_wp2
  go_ret
  exact ⟨rfl, Below.trans (by repeat (first | exact Below.refl _ _ | refine Below.alloc ?_ (by first | omega | (simp; omega) | simp) _)) (hb.mono (by simp; omega))⟩
end Go.Proofs.Ytdpahmkcipfdaaa
