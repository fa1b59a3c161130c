/- Contracts of the deviations of a sound, in the program and in the reference: a new list. -/
import Derived.Test.YtkbfmjnekeipcaaGreatDoorStrike
import Derived.Test.YtkbfmjnekeipcaaGreatDoorIdeal
import Derived.Test.YtkbfmjnekeipcaaGreatDoorLog
import Derived.Deep.RegionHeld3
import Derived.Deep.AppendLies
import Derived.Deep.DrawnRows
namespace Go.Proofs.YtkbfmjnekeipcaaGreatDoor
open Go.Joins Go.ChangeShapes Go.WideShapes Go.ChangeAt Go.RowKit
set_option maxRecDepth 100000

/-- A new row of these numbers, wherever it lies. -/
def RowInts (w : World) (n : Nat) (zs : List Int) (e : Ending) (w' : World) : Prop :=
  ∃ A c, e = .returned (.slice A n c) ∧ w'.ownsRow w.heap.size 2 1 (.slice A n c) n (zs.map (Value.int .i64)) ∧ Below w.heap.size w w'
theorem ownsRow_weaken {w : World} {b1 b2 : Nat} {e : TypeId} {size n : Nat} {v : Value} {xs : List Value} (h : w.ownsRow b1 e size v n xs) (hb : b2 ≤ b1) : w.ownsRow b2 e size v n xs := by
  refine ⟨h.1, ?_⟩
  rcases h.2 with h1 | ⟨g, cap, cur, hv, hg, r⟩
  · exact .inl h1
  · exact .inr ⟨g, cap, cur, hv, Nat.le_trans hb hg, r⟩

/-- The deviations of the first k frequencies. -/
def devU (s : Int) (zs is : List Int) (k : Nat) : List Int := (List.range k).map fun j => tenthsV (zs.getD j 0) - tenthsV s - is.getD j 0
theorem devU_len (s : Int) (zs is : List Int) (k : Nat) : (devU s zs is k).length = k := by simp [devU]
theorem devU_succ {s : Int} {zs is : List Int} {k : Nat} {z t : Int} (hz : zs[k]? = some z) (ht : is[k]? = some t) : (devU s zs is k).map (Value.int .i64) ++ [.int .i64 (tenthsV z - tenthsV s - t)] = (devU s zs is (k + 1)).map (Value.int .i64) := by
  unfold devU
  rw [List.range_succ, List.map_append, List.map_append]
  simp [List.getD_eq_getElem?_getD, hz, ht]

attribute [local go_sem ↓] Go.wp_at_zero Go.wp_at_succ
set_option maxRecDepth 100000 in
set_option maxHeartbeats 4000000 in
theorem deviations_any (a b c d e s kind : Int) (w : World) (hs : inB s 10000 20000000 = true) (h : sB a b c d e = true) :
    Calls Tryz.prog 49 #[.agg #[.int .i64 a, .int .i64 b, .int .i64 c, .int .i64 d, .int .i64 e], .int .i64 s, .int .i64 kind] w fun x w' => RowInts w 5 (devU s [a, b, c, d, e] (idealL kind) 5) x w' := by
  obtain ⟨s1, s2⟩ := inB_bd hs
  have hbd := sB_bd h
  have hAll : ∀ (k : Nat) (z : Int), [a, b, c, d, e][k]? = some z → 10000 ≤ z ∧ z ≤ 20000000 := by
    intro k z hz
    match k, hz with
    | 0, hz => cases hz; omega
    | 1, hz => cases hz; omega
    | 2, hz => cases hz; omega
    | 3, hz => cases hz; omega
    | 4, hz => cases hz; omega
  have hId : ∀ (k : Nat) (z : Int), (idealL kind)[k]? = some z → -12000 ≤ z ∧ z ≤ 12000 := by
    intro k z hz
    unfold idealL at hz
    split at hz
    all_goals
      match k, hz with
      | 0, hz => cases hz; omega
      | 1, hz => cases hz; omega
      | 2, hz => cases hz; omega
      | 3, hz => cases hz; omega
      | 4, hz => cases hz; omega
  have hIl := idealL_len kind
  clear h hbd hs
  obtain ⟨i0, hi, hz0, hz1, hz2⟩ := info_parts infoInt
  go_enter Tryz.func49, Tryz.ntmps49
  go_wp2_with (first
    | (go_at_call 45; refine (idealOffsets_any _ _).mono ?_; rintro x w1 ⟨g1, c1, rfl, hg1, ho1, hb1⟩; obtain ⟨hcc, hff⟩ := bcell hb1)
    | (go_at_call 52; refine (listOf_any _ _ _ _ _ _).mono ?_; rintro x w2 ⟨g2, c2, rfl, hg2, ho2, hb2⟩))
  have hI : IntsAt w2 _ 5 (idealL kind) := (IntsAt.of_own ho1).below hb2
  have hL : IntsAt w2 _ 5 [a, b, c, d, e] := IntsAt.of_own ho2
  have hB2 : Below w.heap.size w w2 := (box_below hb1).trans (hb2.mono (box_below hb1).size)
  have hle : w.heap.size ≤ w2.heap.size := hB2.size
  have hgl : g1 < w2.heap.size := by obtain ⟨_, _, e0, hl, _⟩ := hI.2 (by omega); cases e0; exact hl
  clear ho1 ho2 hb1 hb2 hcc hff hg1 hg2
  go_loopw [8, 9, 10, 16] (fun v _ _ i wr => ∃ (k : Nat), k ≤ 5 ∧ i = .int .i64 k ∧ wr.ownsRow w2.heap.size 2 1 v k ((devU s [a, b, c, d, e] (idealL kind) k).map (Value.int .i64)) ∧ Below w2.heap.size w2 wr) (fun _ _ _ i _ => 5 - (intOf i).toNat)
  case atStart => exact ⟨0, Nat.zero_le _, rfl, World.ownsRow_nil _ _ _ _, Below.refl _ _⟩
  case round =>
    obtain ⟨k, hk, rfl, hown, hbr⟩ := hrel
    by_cases hlt : k < 5
    · obtain ⟨_, _, z, e1, _, hz, hcz⟩ := (hL.below hbr).at_ hlt
      obtain ⟨_, _, t, e2, _, ht, hct⟩ := (hI.below hbr).at_ hlt
      simp only [Option.some.injEq, Addr.mk.injEq, and_true] at e1 e2
      obtain ⟨rfl, rfl⟩ := e1
      obtain ⟨rfl, rfl⟩ := e2
      rw [Nat.zero_add] at hcz hct
      have zb := hAll k z hz
      have tb := hId k t ht
      have T1 := tenthsV_bd (n := z) (by omega) (by omega)
      have T2 := tenthsV_bd (n := s) (by omega) (by omega)
      have hww : IntKind.i64.wrap (tenthsV z - tenthsV s - t) = tenthsV z - tenthsV s - t := IntWalk.i64_in _ (by omega)
      have hne : some g1 ≠ Value.ownBlock _ := fun e0 => by have := (hown.lt g1 e0.symm).1; omega
      have H := Lib.hid (devU_succ (s := s) hz ht)
      have hi0' : (0 : Int) ≤ (k : Int) := Int.natCast_nonneg _
      have hi1 : (k : Int) < 5 := by omega
      have HB := Lib.hid hbr
      have HS := Lib.hid hbr.size
      have hsz2 := hbr.size
      clear hz ht hbr hAll hId hL hI
      go_wp2
      go_region_held3 (fun w' => w'.cell? ⟨g1, k, none⟩ = some (.int .i64 t))
        (first
          | go_keep
          | (rw [hgrow.cell_far _ (by simp; omega) hne]; assumption))
        (first
          | (go_at_call 77; refine (cents_any _ _ _ (by omega) (by omega) (by omega) (by omega)).mono ?_; rintro x w' ⟨rfl, rfl⟩)
          | (refine step_append_lies _ (by rfl) _ _ _ (by rfl) w2.heap.size 2 i0 _ 1 8 Tryz.underlying24 hi hz0 hz1 hz2 rfl (by omega) _ k _ (by rfl) ((hown.alloc _).drew) ⟨wr.heap.size, 0, none⟩ 1 1 [.int .i64 (tenthsV z - tenthsV s - t)] (by rfl) (by rfl) (World.news_of_block (cs := #[.int .i64 (tenthsV z - tenthsV s - t)]) (t := 2) (fr := (0, 0)) (heap_alloc_new wr _)) (by simp [Value.oneCell']) (by omega) (by unfold maxLen; omega) (by omega) (by simp; omega) (wr.heap.size + 1) (by simp) ?_; intro gg cap w3 hown1 hgrow hat hlt'))
      have hg3 := hgrow
      have HE : Hid (k + 1 ≤ 5) := by show k + 1 ≤ 5; omega
      clear hct hcz hgrow
      go_wp2
      go_roundw
      case rel =>
        refine ⟨k + 1, HE.out, by go_num, ?_, ?_⟩
        · rw [← H.out]; exact hown1
        · exact (((HB.out.alloc HS.out _).drew).grown hg3 (by simp; omega) (by intro g hg; exact (hown.lt g hg).1))
      case measure => simp [intOf]; omega
    · obtain rfl : k = 5 := by omega
      obtain ⟨A, cc, rfl⟩ := own_shape hown
      have HO := Lib.hid hown
      have HB := Lib.hid hbr
      clear hown hbr
      go_wp2
      go_ret
      exact ⟨A, cc, rfl, ownsRow_weaken HO.out hle, hB2.trans (HB.out.mono hle)⟩

theorem DevOf_inv {a b c d e s k : Int} (w : World) (h : sB a b c d e = false) : Calls Tryz.prog 20 #[.agg #[.int .i64 a, .int .i64 b, .int .i64 c, .int .i64 d, .int .i64 e], .int .i64 s, .int .i64 k] w fun x w' => IntsRet w [] 1 x w' := by
  have H := Lib.hid h
  clear h
  go_enter Tryz.func20, Tryz.ntmps20
  go_wp2_with (go_at_call 48; refine (valid_is H.out _).mono ?_; rintro x w1 ⟨rfl, hb1⟩)
  go_ret2
  exact IntsRet.none_ w 1 (box_below hb1)
theorem DevOf_rng {a b c d e s k : Int} (w : World) (h : sB a b c d e = true) (hk : inB s 10000 20000000 = false ∨ (inB s 10000 20000000 = true ∧ inB k 1 2 = false)) : Calls Tryz.prog 20 #[.agg #[.int .i64 a, .int .i64 b, .int .i64 c, .int .i64 d, .int .i64 e], .int .i64 s, .int .i64 k] w fun x w' => IntsRet w [] 2 x w' := by
  have H := Lib.hid h
  clear h
  rcases hk with h1 | ⟨h1, h2⟩
  · go_enter Tryz.func20, Tryz.ntmps20
    go_wp2_with (first
      | (go_at_call 48; refine (valid_is H.out _).mono ?_; rintro x w1 ⟨rfl, hb1⟩)
      | (go_at_call 41; refine (isFreq_is h1 _).mono ?_; rintro x w' ⟨rfl, rfl⟩))
    go_ret2
    exact IntsRet.none_ w 2 (box_below hb1)
  · go_enter Tryz.func20, Tryz.ntmps20
    go_wp2_with (first
      | (go_at_call 48; refine (valid_is H.out _).mono ?_; rintro x w1 ⟨rfl, hb1⟩)
      | (go_at_call 41; refine (isFreq_is h1 _).mono ?_; rintro x w' ⟨rfl, rfl⟩)
      | (go_at_call 42; refine (isKind_is h2 _).mono ?_; rintro x w' ⟨rfl, rfl⟩))
    go_ret2
    exact IntsRet.none_ w 2 (box_below hb1)
theorem DevOf_ok {a b c d e s k : Int} (w : World) (h : sB a b c d e = true) (h1 : inB s 10000 20000000 = true) (h2 : inB k 1 2 = true) : Calls Tryz.prog 20 #[.agg #[.int .i64 a, .int .i64 b, .int .i64 c, .int .i64 d, .int .i64 e], .int .i64 s, .int .i64 k] w fun x w' => IntsRet w (devU s [a, b, c, d, e] (idealL k) 5) 0 x w' := by
  have H := Lib.hid h
  have HD := Lib.hid (fun w1 => deviations_any a b c d e s k w1 h1 h)
  clear h
  go_enter Tryz.func20, Tryz.ntmps20
  go_wp2_with (first
    | (go_at_call 48; refine (valid_is H.out _).mono ?_; rintro x w1 ⟨rfl, hb1⟩; obtain ⟨hcc, hff⟩ := bcell hb1)
    | (go_at_call 41; refine (isFreq_is h1 _).mono ?_; rintro x w' ⟨rfl, rfl⟩)
    | (go_at_call 42; refine (isKind_is h2 _).mono ?_; rintro x w' ⟨rfl, rfl⟩)
    | (go_at_call 49; refine (HD.out _).mono ?_; rintro x w2 ⟨A2, c2, rfl, ho2, hb2⟩))
  go_ret2
  exact ⟨A2, _, c2, rfl, ownsRow_weaken ho2 (box_below hb1).size, below_two (box_below hb1) hb2 (Nat.le_refl _)⟩
end Go.Proofs.YtkbfmjnekeipcaaGreatDoor
