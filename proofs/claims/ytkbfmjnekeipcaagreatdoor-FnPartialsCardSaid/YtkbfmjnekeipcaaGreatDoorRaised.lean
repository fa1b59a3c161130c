/- Contracts of the raising of five frequencies, in the program and in the reference; of ideal sounds and of shifted sounds. -/
import Derived.Test.YtkbfmjnekeipcaaGreatDoorStrike
import Derived.Test.YtkbfmjnekeipcaaGreatDoorIdeal
import Derived.Test.YtkbfmjnekeipcaaGreatDoorRaise
import Derived.Deep.RegionHeld3
import Derived.Deep.AppendLies
import Derived.Deep.DrawnRows
namespace Go.Proofs.YtkbfmjnekeipcaaGreatDoor
open Go.Joins Go.ChangeShapes Go.WideShapes Go.ChangeAt Go.RowKit
set_option maxRecDepth 100000

theorem ownsRow_weaken' {w : World} {b1 b2 : Nat} {e : TypeId} {size n : Nat} {v : Value} {xs : List Value} (h : w.ownsRow b1 e size v n xs) (hb : b2 ≤ b1) : w.ownsRow b2 e size v n xs := by
  refine ⟨h.1, ?_⟩
  rcases h.2 with h1 | ⟨g, cap, cur, hv, hg, r⟩
  · exact .inl h1
  · exact .inr ⟨g, cap, cur, hv, Nat.le_trans hb hg, r⟩
/-- The first n frequencies can be raised by the first n intervals. -/
def raisedB (fs ts : List Int) (n : Nat) : Bool := (List.range n).all fun j => raiseB (fs.getD j 0) (ts.getD j 0)
noncomputable def rG (fs ts : List Int) (j : Nat) : Int := raiseV (goalV (fs.getD j 0) (ts.getD j 0))
noncomputable def raisedL (fs ts : List Int) (n : Nat) : List Int := (List.range n).map (rG fs ts)
theorem raisedB_no {fs ts : List Int} {k n : Nat} {f t : Int} (hf : fs[k]? = some f) (ht : ts[k]? = some t) (hk : k < n) (h : raiseB f t = false) : raisedB fs ts n = false := by
  unfold raisedB
  rw [List.all_eq_false]
  refine ⟨k, List.mem_range.2 hk, ?_⟩
  rw [List.getD_eq_getElem?_getD, List.getD_eq_getElem?_getD, hf, ht]
  simp [h]
theorem raisedB_succ {fs ts : List Int} {k : Nat} {f t : Int} (h0 : raisedB fs ts k = true) (hf : fs[k]? = some f) (ht : ts[k]? = some t) (h : raiseB f t = true) : raisedB fs ts (k + 1) = true := by
  unfold raisedB at h0 ⊢
  rw [List.range_succ, List.all_append, h0]
  simp [List.getD_eq_getElem?_getD, hf, ht, h]
theorem raisedL_succ {fs ts : List Int} {k : Nat} {f t : Int} (hf : fs[k]? = some f) (ht : ts[k]? = some t) : (raisedL fs ts k).map (Value.int .i64) ++ [.int .i64 (raiseV (goalV f t))] = (raisedL fs ts (k + 1)).map (Value.int .i64) := by
  unfold raisedL
  rw [List.range_succ, List.map_append, List.map_append]
  simp [rG, List.getD_eq_getElem?_getD, hf, ht]

/-- A new list and yes, or none and no. -/
def RaisedRet (w : World) (fs ts : List Int) (e : Ending) (w' : World) : Prop :=
  (raisedB fs ts 5 = true ∧ ∃ A c, e = .returned (.tuple #[.slice A 5 c, .bool true]) ∧ w'.ownsRow w.heap.size 2 1 (.slice A 5 c) 5 ((raisedL fs ts 5).map (Value.int .i64)) ∧ Below w.heap.size w w')
  ∨ (raisedB fs ts 5 = false ∧ e = .returned (.tuple #[.slice none 0 0, .bool false]) ∧ Below w.heap.size w w')

set_option maxRecDepth 100000 in
set_option maxHeartbeats 4000000 in
theorem raised_any (A B : Option Addr) (cA cB : Nat) (fs ts : List Int) (w : World) (hA : IntsAt w A 5 fs) (hB : IntsAt w B 5 ts) :
    Calls Tryz.prog 43 #[.slice A 5 cA, .slice B 5 cB] w fun x w' => RaisedRet w fs ts x w' := by
  obtain ⟨i0, hi, hz0, hz1, hz2⟩ := info_parts infoInt
  go_enter Tryz.func43, Tryz.ntmps43
  go_wp2
  go_loopw [6, 7, 8, 9, 10, 13] (fun v _ _ _ _ i wr => ∃ (k : Nat), k ≤ 5 ∧ i = .int .i64 k ∧ raisedB fs ts k = true ∧ wr.ownsRow w.heap.size 2 1 v k ((raisedL fs ts k).map (Value.int .i64)) ∧ Below w.heap.size w wr) (fun _ _ _ _ _ i _ => 5 - (intOf i).toNat)
  case atStart => exact ⟨0, Nat.zero_le _, rfl, rfl, World.ownsRow_nil _ _ _ _, Below.refl _ _⟩
  case round =>
    obtain ⟨k, hk, rfl, hr, hown, hbr⟩ := hrel
    by_cases hlt : k < 5
    · obtain ⟨b1, o1, f, rfl, _, hf, hcf⟩ := (hA.below hbr).at_ hlt
      obtain ⟨b2, o2, t, rfl, _, ht, hct⟩ := (hB.below hbr).at_ hlt
      have hi1 : (k : Int) < 5 := by omega
      cases hR : raiseB f t
      · have H := Lib.hid (raisedB_no hf ht hlt hR)
        have HB := Lib.hid hbr
        clear hbr hA hB hf ht hown hr
        go_wp2_with (go_at_call 36; refine (Raise_no _ _ _ hR).mono ?_; rintro x w' ⟨rfl, rfl⟩)
        go_ret2
        exact .inr ⟨H.out, rfl, HB.out⟩
      · have H := Lib.hid (raisedL_succ hf ht)
        have HR := Lib.hid (raisedB_succ hr hf ht hR)
        have HB := Lib.hid hbr
        have hsz := hbr.size
        clear hbr hA hB hf ht hr
        go_wp2_with (first
          | (go_at_call 36; refine (Raise_ok _ _ _ hR).mono ?_; rintro x w' ⟨rfl, rfl⟩)
          | (at_builtin; refine wpList_append_lies _ rfl _ _ _ rfl w.heap.size 2 i0 _ 1 8 Tryz.underlying24 hi hz0 hz1 hz2 rfl (by omega) _ k _ rfl (hown.alloc _) ⟨wr.heap.size, 0, none⟩ 1 1 [.int .i64 (raiseV (goalV f t))] rfl rfl (World.news_of_block (cs := #[.int .i64 (raiseV (goalV f t))]) (t := 2) (fr := (0, 0)) (heap_alloc_new wr _)) (by simp [Value.oneCell']) (by omega) (by unfold maxLen; omega) (by omega) (by simp; omega) (wr.heap.size + 1) (by simp) ?_; intro gg cap w3 hown1 hgrow hat hlt'))
        go_roundw
        case rel =>
          refine ⟨k + 1, by omega, by go_num, HR.out, ?_, ?_⟩
          · rw [← H.out]; exact hown1
          · exact (HB.out.alloc hsz _).grown hgrow (by simp; omega) (by intro g hg; exact (hown.lt g hg).1)
        case measure => simp [intOf]; omega
    · obtain rfl : k = 5 := by omega
      obtain ⟨A', cc, rfl⟩ := own_shape hown
      have HO := Lib.hid hown
      have HB := Lib.hid hbr
      have HR := Lib.hid hr
      clear hown hbr hr
      go_wp2
      go_ret2
      exact .inl ⟨HR.out, A', cc, rfl, HO.out, HB.out⟩
theorem raised_yes {fs ts : List Int} {w : World} {e : Ending} {w' : World} (hr : raisedB fs ts 5 = true) (h : RaisedRet w fs ts e w') :
    ∃ A c, e = .returned (.tuple #[.slice A 5 c, .bool true]) ∧ IntsAt w' A 5 [rG fs ts 0, rG fs ts 1, rG fs ts 2, rG fs ts 3, rG fs ts 4] ∧ Below w.heap.size w w' := by
  rcases h with ⟨_, A, c, he, ho, hb⟩ | ⟨hn, _⟩
  · exact ⟨A, c, he, IntsAt.of_own (zs := [rG fs ts 0, rG fs ts 1, rG fs ts 2, rG fs ts 3, rG fs ts 4]) ho, hb⟩
  · rw [hr] at hn; cases hn
theorem raised_not {fs ts : List Int} {w : World} {e : Ending} {w' : World} (hr : raisedB fs ts 5 = false) (h : RaisedRet w fs ts e w') :
    e = .returned (.tuple #[.slice none 0 0, .bool false]) ∧ Below w.heap.size w w' := by
  rcases h with ⟨hn, _⟩ | ⟨_, he, hb⟩
  · rw [hr] at hn; cases hn
  · exact ⟨he, hb⟩
theorem fiveTimes_any (n : Int) (w : World) : Calls Tryz.prog 44 #[.int .i64 n] w fun x w' => NewInts w 5 [n, n, n, n, n] x w' := by
  go_enter Tryz.func44, Tryz.ntmps44
  go_wp2
  go_ret
  exact newInts_of w w [n, n, n, n, n] 5 _ rfl (by omega) rfl (Below.refl _ _)

theorem own_drewN {w : World} {b : Nat} {e : TypeId} {size n : Nat} {v : Value} {xs : List Value} (h : w.ownsRow b e size v n xs) (k : Nat) : (w.drewN k).ownsRow b e size v n xs := h
theorem heap_alloc_drewN (w : World) (k : Nat) (o : Obj) : ((w.drewN k).alloc o).heap[w.heap.size]? = some o := heap_alloc_new (w.drewN k) o
theorem l02R_no {f t : Int} (w : World) (hf : inB f 10000 20000000 = true) (ht : inB t (-120000) 120000 = true) (h : raiseB f t = false) :
    Calls Tryz.prog 123 #[.int .i64 f, .int .i64 t] w fun e w' => e = .returned (.tuple #[.int .i64 0, .bool false]) ∧ w = w' := by
  rcases raiseB_no h with h1 | ⟨_, h1⟩ | ⟨_, _, h1⟩
  · rw [hf] at h1; cases h1
  · rw [ht] at h1; cases h1
  · exact l02Raise_no f t w hf ht h1
theorem l02R_ok {f t : Int} (w : World) (h : raiseB f t = true) :
    Calls Tryz.prog 123 #[.int .i64 f, .int .i64 t] w fun e w' => e = .returned (.tuple #[.int .i64 (raiseV (goalV f t)), .bool true]) ∧ w = w' := by
  obtain ⟨h1, h2, h3⟩ := raiseB_yes h
  exact l02Raise_ok f t w h1 h2 h3
/-- The reference's raised sound. -/
def RaisedSound (w : World) (fs ts : List Int) (e : Ending) (w' : World) : Prop :=
  (raisedB fs ts 5 = true ∧ e = .returned (.tuple #[.agg #[.int .i64 (rG fs ts 0), .int .i64 (rG fs ts 1), .int .i64 (rG fs ts 2), .int .i64 (rG fs ts 3), .int .i64 (rG fs ts 4)], .bool true]) ∧ Below w.heap.size w w')
  ∨ (raisedB fs ts 5 = false ∧ e = .returned (.tuple #[.agg #[.int .i64 0, .int .i64 0, .int .i64 0, .int .i64 0, .int .i64 0], .bool false]) ∧ Below w.heap.size w w')
set_option maxRecDepth 100000 in
set_option maxHeartbeats 4000000 in
theorem l04Raised_any (A B : Option Addr) (cA cB : Nat) (fs ts : List Int) (w : World) (hA : IntsAt w A 5 fs) (hB : IntsAt w B 5 ts)
    (hF : ∀ (k : Nat) (f : Int), fs[k]? = some f → inB f 10000 20000000 = true) (hT : ∀ (k : Nat) (t : Int), ts[k]? = some t → inB t (-120000) 120000 = true) :
    Calls Tryz.prog 103 #[.slice A 5 cA, .slice B 5 cB] w fun x w' => RaisedSound w fs ts x w' := by
  obtain ⟨i0, hi, hz0, hz1, hz2⟩ := info_parts infoInt
  have hA0 := hA.below ((Below.refl _ _).alloc (Nat.le_refl _) (.cells #[.int .i64 0, .int .i64 0, .int .i64 0, .int .i64 0, .int .i64 0] 39))
  have hB0 := hB.below ((Below.refl _ _).alloc (Nat.le_refl _) (.cells #[.int .i64 0, .int .i64 0, .int .i64 0, .int .i64 0, .int .i64 0] 39))
  have hS0 : (w.alloc (.cells #[.int .i64 0, .int .i64 0, .int .i64 0, .int .i64 0, .int .i64 0] 39)).heap.size = w.heap.size + 1 := by simp
  clear hA hB
  go_enter Tryz.func103, Tryz.ntmps103
  go_wp2
  obtain ⟨W, hWe⟩ : ∃ W, W = w.alloc (.cells #[.int .i64 0, .int .i64 0, .int .i64 0, .int .i64 0, .int .i64 0] 39) := ⟨_, rfl⟩
  have hW0 : Below w.heap.size w W := by rw [hWe]; exact (Below.refl _ _).alloc (Nat.le_refl _) _
  rw [← hWe] at hA0 hB0 hS0
  have hRow := ownsRow_new W [] (by simp)
  have hcW : ∀ o, W.cell? ⟨w.heap.size, o, none⟩ = (w.alloc (.cells #[.int .i64 0, .int .i64 0, .int .i64 0, .int .i64 0, .int .i64 0] 39)).cell? ⟨w.heap.size, o, none⟩ := fun o => by rw [hWe]
  have hfW : ∀ o, W.frozen? ⟨w.heap.size, o, none⟩ = (w.alloc (.cells #[.int .i64 0, .int .i64 0, .int .i64 0, .int .i64 0, .int .i64 0] 39)).frozen? ⟨w.heap.size, o, none⟩ := fun o => by rw [hWe]
  rw [← hWe]
  clear hWe
  go_loopw [6, 7, 8, 9] (fun v i _ _ wr => ∃ (k : Nat), k ≤ 5 ∧ i = .int .i64 k ∧ raisedB fs ts k = true ∧ wr.ownsRow W.heap.size 2 1 v k ((raisedL fs ts k).map (Value.int .i64)) ∧ Below W.heap.size W wr) (fun _ i _ _ _ => 5 - (intOf i).toNat)
  case atStart => exact ⟨0, Nat.zero_le _, rfl, rfl, by rw [← hS0]; exact hRow, (Below.refl _ _).alloc (Nat.le_refl _) _⟩
  case round =>
    obtain ⟨k, hk, rfl, hr, hown, hbr⟩ := hrel
    have HBW := Lib.hid (hW0.trans (hbr.mono hW0.size))
    obtain ⟨hcc, hff⟩ := bcell hbr
    have hc0 : ∀ o, _ = _ := fun o => (hcc w.heap.size o (by omega)).trans (hcW o)
    have hf0 : ∀ o, _ = _ := fun o => (hff w.heap.size o (by omega)).trans (hfW o)
    clear hcc hff hcW hfW
    by_cases hlt : k < 5
    · obtain ⟨b1, o1, f, rfl, _, hf, hcf⟩ := (hA0.below hbr).at_ hlt
      obtain ⟨b2, o2, t, rfl, _, ht, hct⟩ := (hB0.below hbr).at_ hlt
      have hi1 : (k : Int) < 5 := by omega
      have hFf := hF k f hf
      have hTt := hT k t ht
      cases hR : raiseB f t
      · have H := Lib.hid (raisedB_no hf ht hlt hR)
        clear hbr hA0 hB0 hf ht hown hr hRow hW0 hF hT
        go_wp2
        go_quiet ((go_at_call 123; first | exact quietB (l02R_no _ hFf hTt hR) | exact quietA (l02R_no _ hFf hTt hR)))
        go_wp2
        refine bodyPost_ret (v := .tuple #[.agg #[.int .i64 0, .int .i64 0, .int .i64 0, .int .i64 0, .int .i64 0], .bool false]) (by simp [results, Tryz.results103, go_sem, hc0]) rfl (.inr ⟨H.out, rfl, ?_⟩)
        have hB1 := below_drewN HBW.out nq
        have hz := hB1.size
        repeat (first | exact hB1 | refine Below.setCell ?_ (by simp; try omega) _)
      · have H := Lib.hid (raisedL_succ hf ht)
        have HR := Lib.hid (raisedB_succ hr hf ht hR)
        have HB := Lib.hid hbr
        have hsz := hbr.size
        clear hbr hA0 hB0 hf ht hr hF hT hRow hW0
        go_wp2
        go_quiet ((go_at_call 123; first | exact quietB (l02R_ok _ hR) | exact quietA (l02R_ok _ hR)))
        go_wp2_with (at_builtin; refine wpList_append_lies _ rfl _ _ _ rfl W.heap.size 2 i0 _ 1 8 Tryz.underlying24 hi hz0 hz1 hz2 rfl (by omega) _ k _ rfl ((own_drewN hown nq).alloc _) ⟨wr.heap.size, 0, none⟩ 1 1 [.int .i64 (raiseV (goalV f t))] rfl rfl (World.news_of_block (cs := #[.int .i64 (raiseV (goalV f t))]) (t := 2) (fr := (0, 0)) (heap_alloc_drewN wr nq _)) (by simp [Value.oneCell']) (by omega) (by unfold maxLen; omega) (by omega) (by simp; omega) (wr.heap.size + 1) (by simp) ?_; intro gg cap w3 hown1 hgrow hat hlt')
        go_roundw
        case rel =>
          refine ⟨k + 1, by omega, by go_num, HR.out, ?_, ?_⟩
          · rw [← H.out]; exact hown1
          · exact ((below_drewN HB.out nq).alloc (by simpa using hsz) _).grown hgrow (by simp; omega) (by intro g hg; exact (hown.lt g hg).1)
        case measure => simp [intOf]; omega
    · obtain rfl : k = 5 := by omega
      obtain ⟨A', cc, rfl⟩ := own_shape hown
      have HO := Lib.hid (IntsAt.of_own (zs := [rG fs ts 0, rG fs ts 1, rG fs ts 2, rG fs ts 3, rG fs ts 4]) hown)
      have HR := Lib.hid hr
      have hsz := hbr.size
      clear hown hbr hr hA0 hB0 hRow hW0 hF hT
      go_wp2_with fail
      refine (l04Sound_any _ _ _ _ _ _ _ _ HO.out).mono ?_
      rintro x w5 ⟨rfl, hb5⟩
      obtain ⟨hcc, hff⟩ := bcell hb5
      have hz5 := HBW.out.size
      have HB5 := Lib.hid (HBW.out.trans (hb5.mono hz5))
      have hwl : w.heap.size < wr.heap.size := by omega
      go_wp2
      refine bodyPost_ret (v := .tuple #[.agg #[.int .i64 (rG fs ts 0), .int .i64 (rG fs ts 1), .int .i64 (rG fs ts 2), .int .i64 (rG fs ts 3), .int .i64 (rG fs ts 4)], .bool true]) (by simp [results, Tryz.results103, go_sem, hcc, hc0, hwl]) rfl (.inl ⟨HR.out, rfl, ?_⟩)
      repeat (first | exact HB5.out | refine Below.setCell ?_ (by simp; try omega) _)
end Go.Proofs.YtkbfmjnekeipcaaGreatDoor
