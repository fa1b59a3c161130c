/- Contracts of the nearest kind of a sound, in the program and in the reference. -/
import Derived.Test.YtajlgclodjgiiaaDev
import Derived.Test.YtajlgclodjgiiaaWorst
namespace Go.Proofs.Ytajlgclodjgiiaa
open Go.Joins Go.ChangeShapes Go.WideShapes Go.ChangeAt Go.RowKit

theorem idealL_bd (kind : Int) : ∀ (k : Nat), -12000 ≤ (idealL kind).getD k 0 ∧ (idealL kind).getD k 0 ≤ 12000 := by
  intro k
  unfold idealL
  split
  all_goals
    match k with
    | 0 => simp
    | 1 => simp
    | 2 => simp
    | 3 => simp
    | 4 => simp
    | n + 5 => simp
theorem devU_small {a b c d e s kind : Int} (h : sB a b c d e = true) (hs : inB s 10000 20000000 = true) : smallL (devU s [a, b, c, d, e] (idealL kind) 5) := by
  have hbd := sB_bd h
  obtain ⟨s1, s2⟩ := inB_bd hs
  intro k z hz
  have hk : k < 5 := by have := (List.getElem?_eq_some_iff.1 hz).1; simpa [devU] using this
  unfold devU at hz
  rw [List.getElem?_map, List.getElem?_range hk] at hz
  simp only [Option.map_some, Option.some.injEq] at hz
  have hf : 10000 ≤ [a, b, c, d, e].getD k 0 ∧ [a, b, c, d, e].getD k 0 ≤ 20000000 := by
    rcases (show k = 0 ∨ k = 1 ∨ k = 2 ∨ k = 3 ∨ k = 4 from by omega) with rfl | rfl | rfl | rfl | rfl
    · show 10000 ≤ a ∧ a ≤ 20000000; clear hz; omega
    · show 10000 ≤ b ∧ b ≤ 20000000; clear hz; omega
    · show 10000 ≤ c ∧ c ≤ 20000000; clear hz; omega
    · show 10000 ≤ d ∧ d ≤ 20000000; clear hz; omega
    · show 10000 ≤ e ∧ e ≤ 20000000; clear hz; omega
  have i1 := idealL_bd kind k
  have t1 := tenthsV_bd (n := [a, b, c, d, e].getD k 0) (by omega) (by omega)
  have t2 := tenthsV_bd (n := s) (by omega) (by omega)
  generalize tenthsV ([a, b, c, d, e].getD k 0) = T1 at *
  generalize tenthsV s = T2 at *
  generalize (idealL kind).getD k 0 = T3 at *
  subst hz
  omega
/-- The worst deviation from the ideal of a kind. -/
def devWorst (a b c d e kind : Int) : Int := (devU (nearI e 2) [a, b, c, d, e] (idealL kind) 5).getD (worstN (devU (nearI e 2) [a, b, c, d, e] (idealL kind) 5) 5) 0
def nearK (a b c d e : Int) : Int := if absI (devWorst a b c d e 2) < absI (devWorst a b c d e 1) then 2 else 1
theorem devWorst_is {a b c d e kind x : Int} {L : List Int} (hL : devU (nearI e 2) [a, b, c, d, e] (idealL kind) 5 = L) (h : L[worstN L 5]? = some x) : devWorst a b c d e kind = x := by
  unfold devWorst
  rw [hL, List.getD_eq_getElem?_getD, h]
  rfl

theorem near_inv {a b c d e : Int} (w : World) (h : sB a b c d e = false) : Calls Try.prog 38 #[.agg #[.int .i64 a, .int .i64 b, .int .i64 c, .int .i64 d, .int .i64 e]] w fun x w' => x = .returned (.tuple #[.int .i64 0, .int .i64 1]) ∧ Below w.heap.size w w' := by
  go_enter Try.func38, Try.ntmps38
  go_wp2_with (go_at_call 29; refine (strike_inv _ h).mono ?_; rintro x w1 ⟨rfl, hb1⟩)
  go_ret2
  exact ⟨rfl, box_below hb1⟩
theorem near_no {a b c d e : Int} (w : World) (h : sB a b c d e = true) (hk : inB (nearI e 2) 10000 20000000 = false) : Calls Try.prog 38 #[.agg #[.int .i64 a, .int .i64 b, .int .i64 c, .int .i64 d, .int .i64 e]] w fun x w' => x = .returned (.tuple #[.int .i64 0, .int .i64 6]) ∧ Below w.heap.size w w' := by
  go_enter Try.func38, Try.ntmps38
  go_wp2_with (go_at_call 29; refine (strike_no _ h hk).mono ?_; rintro x w1 ⟨rfl, hb1⟩)
  go_ret2
  exact ⟨rfl, box_below hb1⟩
theorem box5 {w w' : World} {g : Nat} {a b c d e : Value} (hg : g < w.heap.size) (c0 : w.cell? ⟨g, 0, none⟩ = some a) (c1 : w.cell? ⟨g, 1, none⟩ = some b) (c2 : w.cell? ⟨g, 2, none⟩ = some c) (c3 : w.cell? ⟨g, 3, none⟩ = some d) (c4 : w.cell? ⟨g, 4, none⟩ = some e)
    (hb : Below w.heap.size w w') : w'.cell? ⟨g, 0, none⟩ = some a ∧ w'.cell? ⟨g, 1, none⟩ = some b ∧ w'.cell? ⟨g, 2, none⟩ = some c ∧ w'.cell? ⟨g, 3, none⟩ = some d ∧ w'.cell? ⟨g, 4, none⟩ = some e :=
  ⟨(hb.cell (p := ⟨g, 0, none⟩) hg).trans c0, (hb.cell (p := ⟨g, 1, none⟩) hg).trans c1, (hb.cell (p := ⟨g, 2, none⟩) hg).trans c2, (hb.cell (p := ⟨g, 3, none⟩) hg).trans c3, (hb.cell (p := ⟨g, 4, none⟩) hg).trans c4⟩
theorem row_below {w w' : World} {b : Nat} {e : TypeId} {n c : Nat} {A : Option Addr} {zs : List Int} (h : w.ownsRow b e 1 (.slice A n c) n (zs.map (Value.int .i64))) (hb : Below w.heap.size w w') : IntsAt w' A n zs := (IntsAt.of_own h).below hb

attribute [local go_sem ↓] Go.wp_at_zero Go.wp_at_succ
set_option maxRecDepth 100000 in
set_option maxHeartbeats 4000000 in
theorem near_ok {a b c d e : Int} (w : World) (h : sB a b c d e = true) (hk : inB (nearI e 2) 10000 20000000 = true) : Calls Try.prog 38 #[.agg #[.int .i64 a, .int .i64 b, .int .i64 c, .int .i64 d, .int .i64 e]] w fun x w' => x = .returned (.tuple #[.int .i64 (nearK a b c d e), .int .i64 0]) ∧ Below w.heap.size w w' := by
  have HS := Lib.hid (fun w1 => strike_ok (a := a) (b := b) (c := c) (d := d) (e := e) w1 h hk)
  have HD := Lib.hid (fun kind w1 => deviations_any a b c d e (nearI e 2) kind w1 hk h)
  obtain ⟨L1, e1⟩ : ∃ L, devU (nearI e 2) [a, b, c, d, e] (idealL 1) 5 = L := ⟨_, rfl⟩
  obtain ⟨L2, e2⟩ : ∃ L, devU (nearI e 2) [a, b, c, d, e] (idealL 2) 5 = L := ⟨_, rfl⟩
  have hs1 : smallL L1 := by rw [← e1]; exact devU_small h hk
  have hs2 : smallL L2 := by rw [← e2]; exact devU_small h hk
  have E1 := Lib.hid e1
  have E2 := Lib.hid e2
  clear h hk e1 e2
  go_enter Try.func38, Try.ntmps38
  go_wp2_with fail
  refine (HS.out _).mono ?_
  rintro x w1 ⟨rfl, hb1⟩
  obtain ⟨hcc, hff⟩ := bcell hb1
  have hc0 : w1.cell? ⟨w.heap.size, 0, none⟩ = some (.int .i64 a) := by rw [hcc _ _ (by simp)]; go_simp
  have hc1 : w1.cell? ⟨w.heap.size, 1, none⟩ = some (.int .i64 b) := by rw [hcc _ _ (by simp)]; go_simp
  have hc2 : w1.cell? ⟨w.heap.size, 2, none⟩ = some (.int .i64 c) := by rw [hcc _ _ (by simp)]; go_simp
  have hc3 : w1.cell? ⟨w.heap.size, 3, none⟩ = some (.int .i64 d) := by rw [hcc _ _ (by simp)]; go_simp
  have hc4 : w1.cell? ⟨w.heap.size, 4, none⟩ = some (.int .i64 e) := by rw [hcc _ _ (by simp)]; go_simp
  have hz1 : w.heap.size < w1.heap.size := by have := hb1.size; simp only [World.size_alloc] at this; omega
  have hB1 := Lib.hid (box_below hb1)
  clear hcc hff hb1
  go_wp2_with fail
  go_region_with (first
      | (go_at_call_of 73 (1 : Int); refine (HD.out 1 _).mono ?_; rintro x wA ⟨AA, cA, rfl, hoA, hbA⟩; have hz2 : w.heap.size < wA.heap.size := Nat.lt_of_lt_of_le hz1 hbA.size; obtain ⟨q0, q1, q2, q3, q4⟩ := box5 (w := w1.drew) hz1 hc0 hc1 hc2 hc3 hc4 hbA)
      | (go_at_call 73; refine (HD.out 2 _).mono ?_; rintro x wB ⟨AB, cB, rfl, hoB, hbB⟩))
  all_goals
    have iA : IntsAt wB AA 5 L1 := by rw [← E1.out]; exact row_below hoA hbB
    have iB : IntsAt wB AB 5 L2 := by rw [← E2.out]; exact IntsAt.of_own hoB
    have HB3 := Lib.hid (below_two (below_two (hB1.out).drew hbA (Nat.le_refl _)) hbB (Nat.le_refl _))
    clear hoA hoB hbA hbB
    have hm1 := worstN_lt L1 5 (n := 5) (by omega) (by omega)
    have hm2 := worstN_lt L2 5 (n := 5) (by omega) (by omega)
    obtain ⟨b1, o1, u, rfl, _, hu, hcu⟩ := iA.at_ hm1
    obtain ⟨b2, o2, v, rfl, _, hv, hcv⟩ := iB.at_ hm2
    have su := hs1 _ u hu
    have sv := hs2 _ v hv
    have X1 := Lib.hid (devWorst_is E1.out hu)
    have X2 := Lib.hid (devWorst_is E2.out hv)
    have HW1 := Lib.hid (fun w1 (h1 : IntsAt w1 (some ⟨b1, o1, none⟩) 5 L1) => worst_any _ 5 cA L1 w1 h1 (by omega) (by omega) hs1)
    have HW2 := Lib.hid (fun w1 (h1 : IntsAt w1 (some ⟨b2, o2, none⟩) 5 L2) => worst_any _ 5 cB L2 w1 h1 (by omega) (by omega) hs2)
    have IA := Lib.hid iA
    have IB := Lib.hid iB
    clear iA iB hs1 hs2 hu hv
    generalize worstN L1 5 = m1 at hm1 hcu HW1
    generalize worstN L2 5 = m2 at hm2 hcv HW2
    have hmI1 : (m1 : Int) < 5 := by omega
    have hmI2 : (m2 : Int) < 5 := by omega
    by_cases hxy : absI v < absI u
    · have HK : Hid (nearK a b c d e = 2) := by
        show _ = _
        unfold nearK
        rw [X1.out, X2.out]
        exact if_pos hxy
      have hd : decide (absI v < absI u) = true := by simp [hxy]
      go_wp2_with fail
      refine (HW2.out _ IB.out).mono ?_
      rintro x w' ⟨rfl, q, rfl⟩
      go_wp2_with (go_at_call 78; refine (abs_any _ _ (by omega) (by omega)).mono ?_; rintro x w' ⟨rfl, rfl⟩)
      refine (HW1.out _ (CellsAt.drewN IA.out q)).mono ?_
      rintro x w' ⟨rfl, q', rfl⟩
      go_wp2_with (go_at_call 78; refine (abs_any _ _ (by omega) (by omega)).mono ?_; rintro x w' ⟨rfl, rfl⟩)
      go_ret2
      exact ⟨ret_two HK.out.symm rfl, below_drewN HB3.out (q + q')⟩
    · have HK : Hid (nearK a b c d e = 1) := by
        show _ = _
        unfold nearK
        rw [X1.out, X2.out]
        exact if_neg hxy
      have hd : decide (absI v < absI u) = false := by simp [hxy]
      go_wp2_with fail
      refine (HW2.out _ IB.out).mono ?_
      rintro x w' ⟨rfl, q, rfl⟩
      go_wp2_with (go_at_call 78; refine (abs_any _ _ (by omega) (by omega)).mono ?_; rintro x w' ⟨rfl, rfl⟩)
      refine (HW1.out _ (CellsAt.drewN IA.out q)).mono ?_
      rintro x w' ⟨rfl, q', rfl⟩
      go_wp2_with (go_at_call 78; refine (abs_any _ _ (by omega) (by omega)).mono ?_; rintro x w' ⟨rfl, rfl⟩)
      go_ret2
      exact ⟨ret_two HK.out.symm rfl, below_drewN HB3.out (q + q')⟩
theorem near_spec_inv {a b c d e : Int} (w : World) (h : sB a b c d e = false) : Calls Try.prog 37 #[.agg #[.int .i64 a, .int .i64 b, .int .i64 c, .int .i64 d, .int .i64 e]] w fun x w' => x = .returned (.tuple #[.int .i64 0, .int .i64 1]) ∧ Below w.heap.size w w' := by
  go_enter Try.func37, Try.ntmps37
  go_wp2_with (go_at_call 28; refine (strike_spec_inv _ h).mono ?_; rintro x w1 ⟨rfl, hb1⟩)
  go_ret2
  exact ⟨rfl, box_below hb1⟩
theorem near_spec_no {a b c d e : Int} (w : World) (h : sB a b c d e = true) (hk : inB (nearI e 2) 10000 20000000 = false) : Calls Try.prog 37 #[.agg #[.int .i64 a, .int .i64 b, .int .i64 c, .int .i64 d, .int .i64 e]] w fun x w' => x = .returned (.tuple #[.int .i64 0, .int .i64 6]) ∧ Below w.heap.size w w' := by
  go_enter Try.func37, Try.ntmps37
  go_wp2_with (go_at_call 28; refine (strike_spec_no _ h hk).mono ?_; rintro x w1 ⟨rfl, hb1⟩)
  go_ret2
  exact ⟨rfl, box_below hb1⟩
set_option maxRecDepth 100000 in
set_option maxHeartbeats 4000000 in
theorem near_spec_ok {a b c d e : Int} (w : World) (h : sB a b c d e = true) (hk : inB (nearI e 2) 10000 20000000 = true) : Calls Try.prog 37 #[.agg #[.int .i64 a, .int .i64 b, .int .i64 c, .int .i64 d, .int .i64 e]] w fun x w' => x = .returned (.tuple #[.int .i64 (nearK a b c d e), .int .i64 0]) ∧ Below w.heap.size w w' := by
  have HS := Lib.hid (fun w1 => strike_spec_ok (a := a) (b := b) (c := c) (d := d) (e := e) w1 h hk)
  have HD := Lib.hid (fun kind g off w1 => l04Dev_any a b c d e (nearI e 2) kind g off w1 hk h)
  obtain ⟨L1, e1⟩ : ∃ L, devU (nearI e 2) [a, b, c, d, e] (idealL 1) 5 = L := ⟨_, rfl⟩
  obtain ⟨L2, e2⟩ : ∃ L, devU (nearI e 2) [a, b, c, d, e] (idealL 2) 5 = L := ⟨_, rfl⟩
  have hs1 : smallL L1 := by rw [← e1]; exact devU_small h hk
  have hs2 : smallL L2 := by rw [← e2]; exact devU_small h hk
  have E1 := Lib.hid e1
  have E2 := Lib.hid e2
  clear h hk e1 e2
  go_enter Try.func37, Try.ntmps37
  go_wp2_with fail
  refine (HS.out _).mono ?_
  rintro x w1 ⟨rfl, hb1⟩
  obtain ⟨hcc, hff⟩ := bcell hb1
  have hz1 : w.heap.size < w1.heap.size := by have := hb1.size; simp only [World.size_alloc] at this; omega
  go_wp2_with fail
  refine (HD.out 1 _ _ _ (by rw [hcc _ _ (by simp)]; go_simp) (by rw [hcc _ _ (by simp)]; go_simp) (by rw [hcc _ _ (by simp)]; go_simp) (by rw [hcc _ _ (by simp)]; go_simp) (by rw [hcc _ _ (by simp)]; go_simp)).mono ?_
  rintro x wA ⟨AA, cA, rfl, hoA, hbA⟩
  have hb2 := below_two hb1 hbA (Nat.le_refl _)
  clear hcc hff
  obtain ⟨hcc, hff⟩ := bcell hb2
  go_wp2_with fail
  refine (HD.out 2 _ _ _ (by rw [hcc _ _ (by simp)]; go_simp) (by rw [hcc _ _ (by simp)]; go_simp) (by rw [hcc _ _ (by simp)]; go_simp) (by rw [hcc _ _ (by simp)]; go_simp) (by rw [hcc _ _ (by simp)]; go_simp)).mono ?_
  rintro x wB ⟨AB, cB, rfl, hoB, hbB⟩
  have HB1 := Lib.hid (box_below hb1)
  clear hcc hff hb1 hb2
  have iA : IntsAt wB AA 5 L1 := by rw [← E1.out]; exact row_below hoA hbB
  have iB : IntsAt wB AB 5 L2 := by rw [← E2.out]; exact IntsAt.of_own hoB
  have HB3 := Lib.hid (below_two (below_two HB1.out hbA (Nat.le_refl _)) hbB (Nat.le_refl _))
  clear hoA hoB hbA hbB
  have hm1 := worstN_lt L1 5 (n := 5) (by omega) (by omega)
  have hm2 := worstN_lt L2 5 (n := 5) (by omega) (by omega)
  obtain ⟨b1, o1, u, rfl, _, hu, hcu⟩ := iA.at_ hm1
  obtain ⟨b2, o2, v, rfl, _, hv, hcv⟩ := iB.at_ hm2
  have su := hs1 _ u hu
  have sv := hs2 _ v hv
  have X1 := Lib.hid (devWorst_is E1.out hu)
  have X2 := Lib.hid (devWorst_is E2.out hv)
  have HW1 := Lib.hid (fun w1 (h1 : IntsAt w1 (some ⟨b1, o1, none⟩) 5 L1) => l04Worst_any _ 5 cA L1 w1 h1 (by omega) (by omega) hs1)
  have HW2 := Lib.hid (fun w1 (h1 : IntsAt w1 (some ⟨b2, o2, none⟩) 5 L2) => l04Worst_any _ 5 cB L2 w1 h1 (by omega) (by omega) hs2)
  have IA := Lib.hid iA
  have IB := Lib.hid iB
  clear iA iB hs1 hs2 hu hv
  generalize worstN L1 5 = m1 at hm1 hcu HW1
  generalize worstN L2 5 = m2 at hm2 hcv HW2
  have hmI1 : (m1 : Int) < 5 := by omega
  have hmI2 : (m2 : Int) < 5 := by omega
  have wu : IntKind.i64.wrap (-u) = -u := IntWalk.i64_in _ (by omega)
  have wv : IntKind.i64.wrap (-v) = -v := IntWalk.i64_in _ (by omega)
  by_cases hxy : absI v < absI u
  · have HK : Hid (nearK a b c d e = 2) := by
      show _ = _
      unfold nearK
      rw [X1.out, X2.out]
      exact if_pos hxy
    have hd : decide (absI v < absI u) = true := by simp [hxy]
    go_wp2_with fail
    refine (HW1.out _ IA.out).mono ?_
    rintro x w' ⟨rfl, q, rfl⟩
    go_wp2_with fail
    refine (HW2.out _ (CellsAt.drewN IB.out q)).mono ?_
    rintro x w' ⟨rfl, q', rfl⟩
    go_wp2_with (go_at_call 77; refine (l00Max_abs _ _ (by omega) (by omega)).mono ?_; rintro x w' ⟨rfl, rfl⟩)
    go_ret2
    exact ⟨ret_two HK.out.symm rfl, below_drewN HB3.out (q + q')⟩
  · have HK : Hid (nearK a b c d e = 1) := by
      show _ = _
      unfold nearK
      rw [X1.out, X2.out]
      exact if_neg hxy
    have hd : decide (absI v < absI u) = false := by simp [hxy]
    go_wp2_with fail
    refine (HW1.out _ IA.out).mono ?_
    rintro x w' ⟨rfl, q, rfl⟩
    go_wp2_with fail
    refine (HW2.out _ (CellsAt.drewN IB.out q)).mono ?_
    rintro x w' ⟨rfl, q', rfl⟩
    go_wp2_with (go_at_call 77; refine (l00Max_abs _ _ (by omega) (by omega)).mono ?_; rintro x w' ⟨rfl, rfl⟩)
    go_ret2
    exact ⟨ret_two HK.out.symm rfl, below_drewN HB3.out (q + q')⟩
end Go.Proofs.Ytajlgclodjgiiaa
