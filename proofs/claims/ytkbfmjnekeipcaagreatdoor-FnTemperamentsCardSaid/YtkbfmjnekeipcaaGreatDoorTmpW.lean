/- Contracts of the temperament with a text, in the program and in the reference. -/
import Derived.Test.YtkbfmjnekeipcaaGreatDoorTmpP
namespace Go.Proofs.YtkbfmjnekeipcaaGreatDoor
open Go.ChangeShapes Go.WideShapes Go.ChangeAt Go.RowKit
set_option maxRecDepth 100000

/-- A temperament in new memory, and whether there is one. -/
def TmpRet (w : World) (nm : ByteArray) (zs : List Int) (b : Bool) (e : Ending) (w' : World) : Prop :=
  ∃ A n c, e = .returned (.tuple #[.agg #[.string nm, .slice A n c], .bool b]) ∧ w'.ownsRow w.heap.size 2 1 (.slice A n c) n (zs.map (Value.int .i64)) ∧ Below w.heap.size w w'
theorem TmpRet.none_ {w w' : World} {nm : ByteArray} {zs : List Int} {b : Bool} {e : Ending} (h1 : nm = ⟨#[]⟩) (h2 : zs = []) (h3 : b = false) (he : e = .returned (.tuple #[.agg #[.string ⟨#[]⟩, .slice none 0 0], .bool false])) (hB : Below w.heap.size w w') : TmpRet w nm zs b e w' := by
  subst h1
  subst h2
  subst h3
  exact ⟨none, 0, 0, he, World.ownsRow_nil _ _ _ _, hB⟩
theorem row_setCell {w : World} {b : Nat} {e : TypeId} {size n : Nat} {v : Value} {xs : List Value} (h : w.ownsRow b e size v n xs) {p : Addr} (hp : p.block < b) (u : Value) : (w.setCell p u).ownsRow b e size v n xs := ownsRow_setCell_below h hp u
theorem kut_call (s : ByteArray) (w : World) (hm : MaxLenIs w) (hs : s.size ≤ 1048576) :
    Calls Tryz.prog 31 #[.string s, .string ⟨#[32]⟩] w fun e w' => ∃ (f : Bool) (q : Nat), e = .returned (.tuple #[.string (kutA s), .string (kutZ s), .bool f]) ∧ w' = w.drewN q := by
  obtain ⟨m, hm⟩ := hm
  refine (Tryz.strings_Cut s ⟨#[32]⟩ m w (by omega) hm).mono ?_
  rintro e w' ⟨rfl, q, rfl⟩
  exact ⟨_, q, rfl, rfl⟩
set_option maxHeartbeats 4000000 in
theorem tmp_impl_walk (s : ByteArray) (w : World) (hs : s.size ≤ 1048576) (he : Errs w) (hm : MaxLenIs w) : Calls Tryz.prog 9 #[.string s] w fun e w' => TmpRet w (tmN s) (tmZ s) (tmOK s) e w' := by
  obtain ⟨z1, z2⟩ := kut_sizes s
  have HE := Lib.hid he
  have HM := Lib.hid hm
  have HK := Lib.hid (fun w1 (h1 : MaxLenIs w1) => kut_call s w1 h1 hs)
  have HR := Lib.hid (fun w1 h1 h2 => lst_impl_walk (kutZ s) w1 (Nat.le_trans z2 hs) h1 h2)
  have HYes := Lib.hid (tmp_impl_yes (s := s))
  have HNo := Lib.hid (tmp_impl_no (s := s))
  have hlen := lst_len (kutZ s)
  clear he hm
  generalize lstV (kutZ s) = zs at *
  generalize lstB (kutZ s) = lb at *
  generalize kutA s = a at *
  generalize kutZ s = b at *
  have HB0 := Lib.hid ((Below.refl w.heap.size w).alloc (Nat.le_refl _) (.cells #[.string ⟨#[]⟩, .slice none 0 0] 26))
  go_enter Tryz.func9, Tryz.ntmps9
  go_wp2_with fail
  refine (HK.out _ (HM.out.below HB0.out)).mono ?_
  rintro e w' ⟨fl, q, rfl, rfl⟩
  go_wp2_with fail
  have hB1 : Below w.heap.size w (((w.alloc (.cells #[.string ⟨#[]⟩, .slice none 0 0] 26)).drewN q).alloc (.cells #[.string a, .slice none 0 0] 26)) := (below_drewN HB0.out q).alloc (by simp) _
  refine (HR.out _ (HE.out.below hB1) (HM.out.below hB1)).mono ?_
  rintro e w2 ⟨A, n, c, rfl, ho2, hb2⟩
  have hn : n ≤ 64 := by rw [← (IntsAt.of_own ho2).len]; exact hlen
  have r0 : w2.cell? ⟨w.heap.size, 0, none⟩ = some (.string ⟨#[]⟩) := (hb2.cell (p := ⟨w.heap.size, 0, none⟩) (by first | (simp; omega) | simp)).trans (by go_simp)
  have r1 : w2.cell? ⟨w.heap.size, 1, none⟩ = some (.slice none 0 0) := (hb2.cell (p := ⟨w.heap.size, 1, none⟩) (by first | (simp; omega) | simp)).trans (by go_simp)
  have r2 : w2.cell? ⟨w.heap.size + 1, 0, none⟩ = some (.string a) := (hb2.cell (p := ⟨w.heap.size + 1, 0, none⟩) (by first | (simp; omega) | simp)).trans (by go_simp)
  have r3 : w2.cell? ⟨w.heap.size + 1, 1, none⟩ = some (.slice none 0 0) := (hb2.cell (p := ⟨w.heap.size + 1, 1, none⟩) (by first | (simp; omega) | simp)).trans (by go_simp)
  have f0 : w2.frozen? ⟨w.heap.size, 0, none⟩ = false := (hb2.frozen (p := ⟨w.heap.size, 0, none⟩) (by first | (simp; omega) | simp)).trans (by go_simp)
  have f1 : w2.frozen? ⟨w.heap.size, 1, none⟩ = false := (hb2.frozen (p := ⟨w.heap.size, 1, none⟩) (by first | (simp; omega) | simp)).trans (by go_simp)
  have f3 : w2.frozen? ⟨w.heap.size + 1, 1, none⟩ = false := (hb2.frozen (p := ⟨w.heap.size + 1, 1, none⟩) (by first | (simp; omega) | simp)).trans (by go_simp)
  have hB2 : Below w.heap.size w w2 := hB1.trans (hb2.mono hB1.size)
  have hz2 : w.heap.size + 2 ≤ w2.heap.size := by have := hb2.size; simp at this; omega
  have ho2' : w2.ownsRow (w.heap.size + 2) 2 1 (.slice A n c) n (zs.map (Value.int .i64)) := by simpa using ho2
  have ho3 := row_setCell ho2' (p := ⟨w.heap.size + 1, 1, none⟩) (by simp) (.slice A n c)
  have hB3 : Below w.heap.size w (w2.setCell ⟨w.heap.size + 1, 1, none⟩ (.slice A n c)) := hB2.setCell (by simp) _
  have HB3 := Lib.hid hB3
  have HO3 := Lib.hid ho3
  clear hB1 hB2 hB3 ho2 ho2' ho3
  go_wp2_with fail
  refine (validT_impl a A n c zs _ (IntsAt.of_own HO3.out) (by omega) (by unfold maxLen; omega)).mono ?_
  rintro e w4 ⟨rfl, hb4⟩
  have hz3 : w.heap.size + 2 ≤ (w2.setCell ⟨w.heap.size + 1, 1, none⟩ (.slice A n c)).heap.size := by simpa using hz2
  have q0 : w4.cell? ⟨w.heap.size, 0, none⟩ = some (.string ⟨#[]⟩) := (hb4.cell (p := ⟨w.heap.size, 0, none⟩) (by show w.heap.size < _; omega)).trans ((World.cell?_setCell_other _ _ _ _ (by simp)).trans r0)
  have q1 : w4.cell? ⟨w.heap.size, 1, none⟩ = some (.slice none 0 0) := (hb4.cell (p := ⟨w.heap.size, 1, none⟩) (by show w.heap.size < _; omega)).trans ((World.cell?_setCell_other _ _ _ _ (by simp)).trans r1)
  have q2 : w4.cell? ⟨w.heap.size + 1, 0, none⟩ = some (.string a) := (hb4.cell (p := ⟨w.heap.size + 1, 0, none⟩) (by show w.heap.size + 1 < _; omega)).trans ((World.cell?_setCell_other _ _ _ _ (by simp)).trans r2)
  have q3 : w4.cell? ⟨w.heap.size + 1, 1, none⟩ = some (.slice A n c) := (hb4.cell (p := ⟨w.heap.size + 1, 1, none⟩) (by show w.heap.size + 1 < _; omega)).trans (World.cell?_setCell_same _ _ _ r3)
  have g0 : w4.frozen? ⟨w.heap.size, 0, none⟩ = false := (hb4.frozen (p := ⟨w.heap.size, 0, none⟩) (by show w.heap.size < _; omega)).trans (by simpa using f0)
  have g1 : w4.frozen? ⟨w.heap.size, 1, none⟩ = false := (hb4.frozen (p := ⟨w.heap.size, 1, none⟩) (by show w.heap.size < _; omega)).trans (by simpa using f1)
  clear r0 r1 r2 r3 f0 f1 f3
  have HB4 := Lib.hid (HB3.out.trans (hb4.mono HB3.out.size))
  have HO4 := Lib.hid (row_keepL HO3.out hb4)
  have hz4 : w.heap.size + 2 ≤ w4.heap.size := by have := hb4.size; simp at this; omega
  cases hT : tempB a zs with
  | false =>
    have HV := Lib.hid (HNo.out (.inl hT))
    clear hb2 hb4 hT
    go_wp2
    refine bodyPost_ret (v := .tuple #[.agg #[.string ⟨#[]⟩, .slice none 0 0], .bool false]) (by simp [results, Tryz.results9, go_sem, q0, q1]) rfl ?_
    exact TmpRet.none_ HV.out.1 HV.out.2.1 HV.out.2.2 rfl ((HB4.out.setCell (Nat.le_refl _) _).setCell (Nat.le_refl _) _)
  | true =>
    have HT4 := Lib.hid (fun w1 ht1 (h1 : IntsAt w1 A n zs) => temp_impl a A n c zs w1 ht1 h1 (by omega) (by unfold maxLen; omega))
    by_cases hq : tempS a zs = s
    · have HV := Lib.hid (HYes.out hT hq)
      have hss : ((tempS a zs).toList == s.toList) = true := by rw [hq]; simp
      clear hb2 hb4 hT hq
      generalize tempS a zs = t at *
      go_wp2_with fail
      refine (HT4.out _ (HE.out.below HB4.out).tab (IntsAt.of_own HO4.out)).mono ?_
      rintro e w5 ⟨rfl, hb5⟩
      have p0 : w5.cell? ⟨w.heap.size, 0, none⟩ = some (.string ⟨#[]⟩) := (hb5.cell (p := ⟨w.heap.size, 0, none⟩) (by show w.heap.size < _; omega)).trans q0
      have p1 : w5.cell? ⟨w.heap.size, 1, none⟩ = some (.slice none 0 0) := (hb5.cell (p := ⟨w.heap.size, 1, none⟩) (by show w.heap.size < _; omega)).trans q1
      have p2 : w5.cell? ⟨w.heap.size + 1, 0, none⟩ = some (.string a) := (hb5.cell (p := ⟨w.heap.size + 1, 0, none⟩) (by show w.heap.size + 1 < _; omega)).trans q2
      have p3 : w5.cell? ⟨w.heap.size + 1, 1, none⟩ = some (.slice A n c) := (hb5.cell (p := ⟨w.heap.size + 1, 1, none⟩) (by show w.heap.size + 1 < _; omega)).trans q3
      have k0 : w5.frozen? ⟨w.heap.size, 0, none⟩ = false := (hb5.frozen (p := ⟨w.heap.size, 0, none⟩) (by show w.heap.size < _; omega)).trans g0
      have k1 : w5.frozen? ⟨w.heap.size, 1, none⟩ = false := (hb5.frozen (p := ⟨w.heap.size, 1, none⟩) (by show w.heap.size < _; omega)).trans g1
      have HB5 := Lib.hid (below_two HB4.out hb5 (Nat.le_refl _))
      have HO5 := Lib.hid (row_keepL HO4.out hb5)
      clear q0 q1 q2 q3 g0 g1 hb5
      go_wp2
      refine bodyPost_ret (v := .tuple #[.agg #[.string a, .slice A n c], .bool true]) (by simp [results, Tryz.results9, go_sem, p0, p1]) rfl ?_
      unfold TmpRet
      rw [HV.out.1, HV.out.2.1, HV.out.2.2]
      exact ⟨A, n, c, rfl, row_weaken (row_setCell (row_setCell HO5.out (by simp) _) (by simp) _) (by omega), (HB5.out.setCell (Nat.le_refl _) _).setCell (Nat.le_refl _) _⟩
    · have HV := Lib.hid (HNo.out (.inr hq))
      have hss : ((tempS a zs).toList == s.toList) = false := str_ne hq
      clear hb2 hb4 hT hq
      generalize tempS a zs = t at *
      go_wp2_with fail
      refine (HT4.out _ (HE.out.below HB4.out).tab (IntsAt.of_own HO4.out)).mono ?_
      rintro e w5 ⟨rfl, hb5⟩
      have p0 : w5.cell? ⟨w.heap.size, 0, none⟩ = some (.string ⟨#[]⟩) := (hb5.cell (p := ⟨w.heap.size, 0, none⟩) (by show w.heap.size < _; omega)).trans q0
      have p1 : w5.cell? ⟨w.heap.size, 1, none⟩ = some (.slice none 0 0) := (hb5.cell (p := ⟨w.heap.size, 1, none⟩) (by show w.heap.size < _; omega)).trans q1
      have p2 : w5.cell? ⟨w.heap.size + 1, 0, none⟩ = some (.string a) := (hb5.cell (p := ⟨w.heap.size + 1, 0, none⟩) (by show w.heap.size + 1 < _; omega)).trans q2
      have p3 : w5.cell? ⟨w.heap.size + 1, 1, none⟩ = some (.slice A n c) := (hb5.cell (p := ⟨w.heap.size + 1, 1, none⟩) (by show w.heap.size + 1 < _; omega)).trans q3
      have k0 : w5.frozen? ⟨w.heap.size, 0, none⟩ = false := (hb5.frozen (p := ⟨w.heap.size, 0, none⟩) (by show w.heap.size < _; omega)).trans g0
      have k1 : w5.frozen? ⟨w.heap.size, 1, none⟩ = false := (hb5.frozen (p := ⟨w.heap.size, 1, none⟩) (by show w.heap.size < _; omega)).trans g1
      have HB5 := Lib.hid (below_two HB4.out hb5 (Nat.le_refl _))
      have HO5 := Lib.hid (row_keepL HO4.out hb5)
      clear q0 q1 q2 q3 g0 g1 hb5
      go_wp2
      refine bodyPost_ret (v := .tuple #[.agg #[.string ⟨#[]⟩, .slice none 0 0], .bool false]) (by simp [results, Tryz.results9, go_sem, p0, p1]) rfl ?_
      exact TmpRet.none_ HV.out.1 HV.out.2.1 HV.out.2.2 rfl ((HB5.out.setCell (Nat.le_refl _) _).setCell (Nat.le_refl _) _)
end Go.Proofs.YtkbfmjnekeipcaaGreatDoor
