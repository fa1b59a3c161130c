/- Contracts of the known temperaments: all of them, and the one with a name; in the program and in the reference. -/
import Derived.Test.YtdpahmkcipfdaaaTemp
namespace Go.Proofs.Ytdpahmkcipfdaaa
open Go.ChangeShapes Go.WideShapes Go.ChangeAt Go.RowKit
set_option maxRecDepth 100000

def tName : Nat → ByteArray
  | 0 => ⟨#[101, 113, 117, 97, 108]⟩
  | 1 => ⟨#[106, 117, 115, 116]⟩
  | 2 => ⟨#[109, 101, 97, 110, 116, 111, 110, 101]⟩
  | _ => ⟨#[112, 121, 116, 104, 97, 103, 111, 114, 97, 115]⟩
def tOffs : Nat → List Int
  | 0 => [0, 0, 0, 0, 0, 0, 0, 0, 0, 0, 0, 0]
  | 1 => [0, 117, 39, 156, -137, -20, -98, 20, 137, -156, 176, -117]
  | 2 => [0, -240, -68, 103, -137, 34, -205, -34, -274, -103, 68, -171]
  | _ => [0, 137, 39, -59, 78, -20, 117, 20, 156, 59, -39, 98]
theorem tOffs_len (k : Nat) : (tOffs k).length = 12 := by
  unfold tOffs
  split <;> rfl
theorem row_new_at (w : World) (zs : List Int) (b g n : Nat) (hm : zs.length = n) (h64 : n ≤ 64) (hg : g = w.heap.size) (hb : b ≤ g) : (w.alloc (.cells (zs.map (Value.int .i64)).toArray 2)).ownsRow b 2 1 (.slice (some ⟨g, 0, none⟩) n n) n (zs.map (Value.int .i64)) := by
  subst hm hg
  exact row_weaken (ownsRow_new w zs (by unfold maxLen; omega)) hb
/-- The known temperaments, in new memory: the table's block g, the offsets' blocks from h on. -/
def TempsAt (b : Nat) (w : World) (g h : Nat) : Prop :=
  ∀ i, i < 4 → w.cell? ⟨g, i * 2, none⟩ = some (.string (tName i)) ∧ w.cell? ⟨g, i * 2 + 1, none⟩ = some (.slice (some ⟨h + i, 0, none⟩) 12 12) ∧ w.ownsRow b 2 1 (.slice (some ⟨h + i, 0, none⟩) 12 12) 12 ((tOffs i).map (Value.int .i64))
set_option maxHeartbeats 4000000 in
theorem temperaments_any (w : World) : Calls Try.prog 54 #[] w fun e w' => e = .returned (.slice (some ⟨w.heap.size + 4, 0, none⟩) 4 4) ∧ TempsAt w.heap.size w' (w.heap.size + 4) w.heap.size ∧ Below w.heap.size w w' ∧ w'.heap.size = w.heap.size + 5 := by
  go_enter Try.func54, Try.ntmps54
  go_wp2
  go_ret
  refine ⟨rfl, ?_, by repeat (first | exact Below.refl _ _ | refine Below.alloc ?_ (by first | omega | (simp; omega) | simp) _), by simp⟩
  intro i hi
  rcases (show i = 0 ∨ i = 1 ∨ i = 2 ∨ i = 3 from by omega) with rfl | rfl | rfl | rfl
  · exact ⟨by go_simp; rfl, by go_simp, ((((row_new_at w (tOffs 0) _ _ 12 rfl (by omega) rfl (by omega)).alloc _).alloc _).alloc _).alloc _⟩
  · exact ⟨by go_simp; rfl, by go_simp, (((row_new_at _ (tOffs 1) _ _ 12 rfl (by omega) (by simp) (by omega)).alloc _).alloc _).alloc _⟩
  · exact ⟨by go_simp; rfl, by go_simp, ((row_new_at _ (tOffs 2) _ _ 12 rfl (by omega) (by simp) (by omega)).alloc _).alloc _⟩
  · exact ⟨by go_simp; rfl, by go_simp, (row_new_at _ (tOffs 3) _ _ 12 rfl (by omega) (by simp) (by omega)).alloc _⟩

/-- A temperament in new memory and a code. -/
def TRet (w : World) (s : ByteArray) (zs : List Int) (code : Int) (e : Ending) (w' : World) : Prop :=
  ∃ A n c, e = .returned (.tuple #[.agg #[.string s, .slice A n c], .int .i64 code]) ∧ w'.ownsRow w.heap.size 2 1 (.slice A n c) n (zs.map (Value.int .i64)) ∧ Below w.heap.size w w'
theorem row_keepT {w w' : World} {b : Nat} {e : TypeId} {size n : Nat} {v : Value} {xs : List Value} (h : w.ownsRow b e size v n xs) (hb : Below w.heap.size w w') : w'.ownsRow b e size v n xs := by
  have hlt := h.lt
  refine ⟨h.1, ?_⟩
  rcases h.2 with h1 | ⟨g, cap, cur, rfl, hg, hh, r⟩
  · exact .inl h1
  · exact .inr ⟨g, cap, cur, rfl, hg, (hb.block g (hlt g rfl).2).trans hh, r⟩

set_option maxHeartbeats 4000000 in
theorem named_impl (name : ByteArray) (K : Nat) (w : World) (hK : K ≤ 4) (hne : ∀ j, j < K → tName j ≠ name) (he : K < 4 → tName K = name) :
    Calls Try.prog 31 #[.string name] w fun e w' => if K < 4 then TRet w name (tOffs K) 0 e w' else TRet w ⟨#[]⟩ [] 3 e w' := by
  have HNE := Lib.hid hne
  have HE := Lib.hid he
  clear hne he
  go_enter Try.func31, Try.ntmps31
  go_wp2_with fail
  refine (temperaments_any _).mono ?_
  rintro e w1 ⟨rfl, hT, hb1, hs1⟩
  simp only [World.size_alloc] at hT hs1 hb1 ⊢
  have hbw : Below w.heap.size w w1 := ((Below.refl _ _).alloc (Nat.le_refl _) _).trans (hb1.mono (by omega))
  have hcc : ∀ o, w1.cell? ⟨w.heap.size, o, none⟩ = _ := fun o => hb1.cell (p := ⟨w.heap.size, o, none⟩) (by simp)
  have hff : ∀ o, w1.frozen? ⟨w.heap.size, o, none⟩ = _ := fun o => hb1.frozen (p := ⟨w.heap.size, o, none⟩) (by simp)
  have HT := Lib.hid hT
  have HBW := Lib.hid hbw
  clear hT hb1 hbw
  go_wp2
  go_loopw [5, 8] (fun _ i wr => ∃ j : Nat, j ≤ K ∧ i = .int .i64 j ∧ Below w1.heap.size w1 wr) (fun _ i _ => 4 - (intOf i).toNat)
  case atStart => exact ⟨0, by omega, rfl, Below.refl _ _⟩
  case round =>
    obtain ⟨j, hj, rfl, hbr⟩ := hrel
    have hz := hbr.size
    have hzz : w.heap.size < wr.heap.size := by omega
    have HBR := Lib.hid hbr
    have r0 : ∀ o, wr.cell? ⟨w.heap.size, o, none⟩ = _ := fun o => (hbr.cell (p := ⟨w.heap.size, o, none⟩) (by simp; omega)).trans (hcc o)
    have f0 : ∀ o, wr.frozen? ⟨w.heap.size, o, none⟩ = _ := fun o => (hbr.frozen (p := ⟨w.heap.size, o, none⟩) (by simp; omega)).trans (hff o)
    by_cases h4 : j < 4
    · obtain ⟨c0, c1, hrow⟩ := HT.out j h4
      have d0 := (hbr.cell (p := ⟨w.heap.size + 1 + 4, j * 2, none⟩) (by simp; omega)).trans c0
      have d1 := (hbr.cell (p := ⟨w.heap.size + 1 + 4, j * 2 + 1, none⟩) (by simp; omega)).trans c1
      have hjI : (j : Int) < 4 := by omega
      have HROW := Lib.hid hrow
      clear hbr hcc hff c0 c1 hrow
      by_cases hjk : j < K
      · have hd := str_ne (HNE.out j hjk)
        go_wp2
        go_roundw
        case rel => exact ⟨j + 1, by omega, by go_num, HBR.out.alloc (by omega) _⟩
        case measure => simp [intOf]; omega
      · obtain rfl : j = K := by omega
        rw [HE.out h4] at d0
        go_wp2
        refine bodyPost_ret (v := .tuple #[.agg #[.string name, .slice (some ⟨w.heap.size + 1 + j, 0, none⟩) 12 12], .int .i64 0]) (by simp [results, Try.results31, go_sem, r0, hzz]) rfl ?_
        refine ⟨some ⟨w.heap.size + 1 + j, 0, none⟩, 12, 12, rfl, ?_, ?_⟩
        · refine row_weaken (b1 := w.heap.size + 1) ?_ (by omega)
          have hR := row_keepT HROW.out HBR.out
          repeat (first | exact hR | refine ownsRow_setCell_below ?_ (by first | omega | (simp; omega) | simp) _ | refine World.ownsRow.alloc ?_ _)
        · have hB := HBW.out.trans (HBR.out.mono HBW.out.size)
          have hbs := HBW.out.size
          repeat (first | exact hB | refine Below.setCell ?_ (by first | omega | (simp; omega) | simp) _ | refine Below.alloc ?_ (by first | omega | (simp; omega) | simp) _)
    · obtain rfl : K = 4 := by omega
      have hjI : ¬ (j : Int) < 4 := by omega
      clear hbr hcc hff
      go_wp2
      refine bodyPost_ret (v := .tuple #[.agg #[.string ⟨#[]⟩, .slice none 0 0], .int .i64 3]) (by simp [results, Try.results31, go_sem, r0]) rfl ?_
      refine ⟨none, 0, 0, rfl, World.ownsRow_nil _ _ _ _, ?_⟩
      have hB := HBW.out.trans (HBR.out.mono HBW.out.size)
      repeat (first | exact hB | refine Below.setCell ?_ (by first | omega | (simp; omega) | simp) _)
theorem l03Offsets_any (k : Nat) (w : World) (hk : k < 4) : Calls Try.prog 65 #[.int .i64 k] w fun e w' => NewInts w 12 (tOffs k) e w' := by
  obtain ⟨i0, hi, hz0, hz1, hz2⟩ := info_parts infoInt
  rcases (show k = 0 ∨ k = 1 ∨ k = 2 ∨ k = 3 from by omega) with rfl | rfl | rfl | rfl
  · go_enter Try.func65, Try.ntmps65
    go_wp2_with (at_make; refine wpList_make_full _ rfl _ _ 27 rfl w.heap.size 2 i0 (.int .i64 0) 1 Try.underlying27 hi hz0 hz1 .i64 .i64 _ _ 12 rfl rfl rfl rfl (by rw [hz2]; omega) (by unfold maxLen; omega) (Nat.le_refl _) ?_; intro w1 hown hgr)
    go_ret
    have hE : (madeCells (Value.int .i64 0).cells (12 * 1)).toList = (tOffs 0).map (Value.int .i64) := by kernel_rfl
    rw [hE] at hown
    exact ⟨w.heap.size, _, rfl, Nat.le_refl _, hown, (Below.refl _ _).grown hgr (Nat.le_refl _) (by intro k hk; cases hk)⟩
  all_goals
    go_enter Try.func65, Try.ntmps65
    go_wp2
    go_ret
    exact newInts_at w w _ 12 _ rfl (by omega) rfl (Below.refl _ _)
def StrsAt (w : World) (g : Nat) : Prop := ∀ i, i < 4 → w.cell? ⟨g, i, none⟩ = some (.string (tName i))
theorem l03Names_any (w : World) : Calls Try.prog 53 #[] w fun e w' => e = .returned (.slice (some ⟨w.heap.size, 0, none⟩) 4 4) ∧ StrsAt w' w.heap.size ∧ Below w.heap.size w w' ∧ w'.heap.size = w.heap.size + 1 := by
  go_enter Try.func53, Try.ntmps53
  go_wp2
  go_ret
  refine ⟨rfl, ?_, by repeat (first | exact Below.refl _ _ | refine Below.alloc ?_ (by first | omega | (simp; omega) | simp) _), by simp⟩
  intro i hi
  rcases (show i = 0 ∨ i = 1 ∨ i = 2 ∨ i = 3 from by omega) with rfl | rfl | rfl | rfl <;> (go_simp; rfl)
set_option maxHeartbeats 4000000 in
theorem named_spec (name : ByteArray) (K : Nat) (w : World) (hK : K ≤ 4) (hne : ∀ j, j < K → tName j ≠ name) (he : K < 4 → tName K = name) :
    Calls Try.prog 30 #[.string name] w fun e w' => if K < 4 then TRet w name (tOffs K) 0 e w' else TRet w ⟨#[]⟩ [] 3 e w' := by
  have HNE := Lib.hid hne
  have HE := Lib.hid he
  clear hne he
  go_enter Try.func30, Try.ntmps30
  go_wp2_with fail
  refine (l03Names_any _).mono ?_
  rintro e w1 ⟨rfl, hT, hb1, hs1⟩
  simp only [World.size_alloc] at hT hs1 hb1 ⊢
  have hbw : Below w.heap.size w w1 := ((Below.refl _ _).alloc (Nat.le_refl _) _).trans (hb1.mono (by omega))
  have hcc : ∀ o, w1.cell? ⟨w.heap.size, o, none⟩ = _ := fun o => hb1.cell (p := ⟨w.heap.size, o, none⟩) (by simp)
  have hff : ∀ o, w1.frozen? ⟨w.heap.size, o, none⟩ = _ := fun o => hb1.frozen (p := ⟨w.heap.size, o, none⟩) (by simp)
  have HT := Lib.hid hT
  have HBW := Lib.hid hbw
  clear hT hb1 hbw
  go_wp2
  go_loop [5] (fun i => ∃ j : Nat, j ≤ K ∧ i = .int .i64 j) (fun i => 4 - (intOf i).toNat)
  case atStart => exact ⟨0, by omega, rfl⟩
  case round =>
    obtain ⟨j, hj, rfl⟩ := hrel
    have hzz : w.heap.size < w1.heap.size := by omega
    by_cases h4 : j < 4
    · have d0 := HT.out j h4
      have hjI : (j : Int) < 4 := by omega
      by_cases hjk : j < K
      · have hd := str_ne (HNE.out j hjk)
        clear hcc hff
        go_wp2
        go_round
        case rel => exact ⟨j + 1, by omega, by go_num⟩
        case measure => simp [intOf]; omega
      · obtain rfl : j = K := by omega
        rw [HE.out h4] at d0
        go_wp2_with fail
        refine (l03Offsets_any j _ h4).mono ?_
        rintro e w2 ⟨g2, c2, rfl, hg2, ho2, hb2⟩
        have r2 : ∀ o, w2.cell? ⟨w.heap.size, o, none⟩ = _ := fun o => (hb2.cell (p := ⟨w.heap.size, o, none⟩) (by simp; omega)).trans (hcc o)
        have f2 : ∀ o, w2.frozen? ⟨w.heap.size, o, none⟩ = _ := fun o => (hb2.frozen (p := ⟨w.heap.size, o, none⟩) (by simp; omega)).trans (hff o)
        have HO := Lib.hid ho2
        have HB2 := Lib.hid hb2
        clear hcc hff ho2 hb2
        go_wp2
        refine bodyPost_ret (v := .tuple #[.agg #[.string name, .slice (some ⟨g2, 0, none⟩) 12 c2], .int .i64 0]) (by simp [results, Try.results30, go_sem, r2]) rfl ?_
        try rw [if_pos h4]
        refine ⟨some ⟨g2, 0, none⟩, 12, c2, rfl, ?_, ?_⟩
        · refine row_weaken (b1 := w1.heap.size) ?_ (by omega)
          repeat (first | exact HO.out | refine ownsRow_setCell_below ?_ (by first | omega | (simp; omega) | simp) _)
        · have hB := HBW.out.trans (HB2.out.mono HBW.out.size)
          repeat (first | exact hB | refine Below.setCell ?_ (by first | omega | (simp; omega) | simp) _)
    · obtain rfl : K = 4 := by omega
      have hjI : ¬ (j : Int) < 4 := by omega
      go_wp2
      refine bodyPost_ret (v := .tuple #[.agg #[.string ⟨#[]⟩, .slice none 0 0], .int .i64 3]) (by simp [results, Try.results30, go_sem, hcc]) rfl ?_
      refine ⟨none, 0, 0, rfl, World.ownsRow_nil _ _ _ _, ?_⟩
      repeat (first | exact HBW.out | refine Below.setCell ?_ (by first | omega | (simp; omega) | simp) _)
end Go.Proofs.Ytdpahmkcipfdaaa
