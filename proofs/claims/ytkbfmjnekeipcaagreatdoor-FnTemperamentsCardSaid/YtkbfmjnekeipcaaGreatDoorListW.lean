/- Contracts of the list with a text, in the program and in the reference. -/
import Derived.Test.YtkbfmjnekeipcaaGreatDoorListR
import Derived.Test.YtkbfmjnekeipcaaGreatDoorTail
namespace Go.Proofs.YtkbfmjnekeipcaaGreatDoor
open Go.ChangeShapes Go.WideShapes Go.ChangeAt Go.RowKit
set_option maxRecDepth 100000

theorem LstRet.of_own {w w' : World} {zs : List Int} {b c : Bool} {A : Option Addr} {n cap : Nat} {xs : List Int} (h : zs = xs) (hb : b = c) (ho : w'.ownsRow w.heap.size 2 1 (.slice A n cap) n (xs.map (Value.int .i64))) (hB : Below w.heap.size w w') :
    LstRet w zs b (.returned (.tuple #[.slice A n cap, .bool c])) w' := by
  subst h
  subst hb
  exact ⟨A, n, cap, rfl, ho, hB⟩
set_option maxHeartbeats 4000000 in
theorem lst_impl_walk (s : ByteArray) (w : World) (hs : s.size ≤ 1048576) (he : Errs w) (hm : MaxLenIs w) : Calls Tryz.prog 32 #[.string s] w fun e w' => LstRet w (lstV s) (lstB s) e w' := by
  obtain ⟨i0, hi, hz0, hz1, hz2⟩ := info_parts infoInt
  by_cases hd : s = dash
  · subst hd
    have HV := Lib.hid lst_dash
    unfold dash at *
    go_enter Tryz.func32, Tryz.ntmps32
    go_wp2
    go_ret2
    exact LstRet.none_ HV.out.1 HV.out.2 (Below.refl _ _)
  · have hne : (s.toList == [45]) = false := by
      have h := str_ne hd
      rwa [show dash.toList = [45] by rw [ByteArray.toList_eq]; rfl] at h
    have HY : Hid (listS ((splitS 44 s).map numV) = s → lstV s = (splitS 44 s).map numV ∧ lstB s = true) := fun h => lst_yes (lst_impl h)
    have HN : Hid (listS ((splitS 44 s).map numV) ≠ s → lstV s = [] ∧ lstB s = false) := fun h => lst_no fun zs hz => by
      have h2 := ((lst_parts hz).2 hd).2
      rw [h2] at h
      apply h
      unfold listS
      rw [if_pos hz.1]
      exact hz.2
    have HSP := Lib.hid (fun w1 (h1 : MaxLenIs w1) => split_call 44 s w1 h1 hs)
    have HE := Lib.hid he
    have HM := Lib.hid hm
    clear he hm
    generalize splitS 44 s = xs at *
    go_enter Tryz.func32, Tryz.ntmps32
    go_wp2_with fail
    refine (HSP.out _ HM.out).mono ?_
    rintro e w1 ⟨n, rfl, hn, hX, hb1⟩
    have hl := hX.len
    have HB1 := Lib.hid hb1
    have hle := hb1.size
    clear hb1
    go_wp2
    go_loopw [4, 6, 7, 8, 14] (fun v _ _ _ i wr => ∃ k : Nat, k ≤ n ∧ i = .int .i64 k ∧ wr.ownsRow w1.heap.size 2 1 v k (numU xs k) ∧ Below w1.heap.size w1 wr) (fun _ _ _ _ i _ => n - (intOf i).toNat)
    case atStart => exact ⟨0, Nat.zero_le _, rfl, World.ownsRow_nil _ _ _ _, Below.refl _ _⟩
    case round =>
      obtain ⟨k, hk, rfl, hown, hbr⟩ := hrel
      have HBR := Lib.hid hbr
      have hbs := hbr.size
      by_cases hlt : k < n
      · obtain ⟨b, off, x, e1, hb, hx, hc⟩ := (hX.below hbr).at_ hlt
        simp only [Option.some.injEq, Addr.mk.injEq, and_true] at e1
        obtain ⟨rfl, rfl⟩ := e1
        rw [Nat.zero_add] at hc
        have hkI : (k : Int) < n := by omega
        have HS := Lib.hid (numU_succ hx)
        have HR := Lib.hid (fun w1 h1 => read_impl x w1 h1)
        have HEr := Lib.hid (HE.out.below (HB1.out.trans (HBR.out.mono HB1.out.size)))
        clear hx hbr
        generalize numV x = v at *
        generalize numB x = vb at *
        go_wp2_with fail
        refine (HR.out _ HEr.out).mono ?_
        rintro e w2 ⟨rfl, hb2⟩
        have hown2 := row_keepL hown hb2
        have hs1 := hb2.size
        have HB2 := Lib.hid (below_two HBR.out hb2 (Nat.le_refl _))
        clear hb2 hown
        go_wp2_with (at_builtin; refine wpList_append_lies _ rfl _ _ _ rfl (w1.heap.size) 2 i0 _ 1 8 Tryz.underlying24 hi hz0 hz1 hz2 rfl (by omega) _ (k) _ rfl ((hown2.alloc _)) ⟨w2.heap.size, 0, none⟩ 1 1 [.int .i64 (v)] rfl rfl (World.news_of_block (cs := #[.int .i64 (v)]) (t := 2) (fr := (0, 0)) (heap_alloc_new w2 _)) (by simp [Value.oneCell']) (by omega) (by unfold maxLen; omega) (by omega) (by simp; omega) (w2.heap.size + 1) (by simp) ?_; intro gg cap w3 hown1 hgrow hat hlt')
        go_roundw
        case rel =>
          refine ⟨k + 1, by omega, by go_num, by rw [← HS.out]; exact hown1, ?_⟩
          exact (HB2.out.alloc (by omega) _).grown hgrow (by simp; omega) (by intro g hg; exact (hown2.lt g hg).1)
        case measure => simp [intOf]; omega
      · obtain rfl : k = n := by omega
        obtain ⟨A', cc, rfl⟩ := own_shape hown
        rw [numU_all hl] at hown
        have HB3 := Lib.hid (HB1.out.trans (HBR.out.mono HB1.out.size))
        have HL := Lib.hid (list_impl A' k cc (xs.map numV) wr (HE.out.below HB3.out).tab (IntsAt.of_own hown) (by omega))
        have HO := Lib.hid hown
        clear hown hbr
        by_cases hq : listS (xs.map numV) = s
        · have HV := Lib.hid (HY.out hq)
          have hss : ((listS (xs.map numV)).toList == s.toList) = true := by rw [hq]; simp
          clear hq
          generalize listS (xs.map numV) = t at *
          go_wp2_with fail
          refine HL.out.mono ?_
          rintro e w4 ⟨rfl, hb4⟩
          have HB4 := Lib.hid (below_two HB3.out hb4 (Nat.le_refl _))
          have HO4 := Lib.hid (row_weaken (row_keepL HO.out hb4) hle)
          clear hb4
          go_wp2
          go_ret2
          exact LstRet.of_own HV.out.1 HV.out.2 HO4.out HB4.out
        · have HV := Lib.hid (HN.out hq)
          have hss : ((listS (xs.map numV)).toList == s.toList) = false := str_ne hq
          clear hq
          generalize listS (xs.map numV) = t at *
          go_wp2_with fail
          refine HL.out.mono ?_
          rintro e w4 ⟨rfl, hb4⟩
          have HB4 := Lib.hid (below_two HB3.out hb4 (Nat.le_refl _))
          clear hb4
          go_wp2
          go_ret2
          exact LstRet.none_ HV.out.1 HV.out.2 HB4.out
end Go.Proofs.YtkbfmjnekeipcaaGreatDoor
