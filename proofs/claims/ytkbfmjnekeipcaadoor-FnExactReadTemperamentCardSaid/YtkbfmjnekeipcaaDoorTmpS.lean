/- Contract of the reference's reader of a temperament. -/
import Derived.Test.YtkbfmjnekeipcaaDoorTmpW
namespace Go.Proofs.YtkbfmjnekeipcaaDoor
open Go.ChangeShapes Go.WideShapes Go.ChangeAt Go.RowKit
set_option maxRecDepth 100000

theorem two_words {w : World} {A : Option Addr} {p0 p1 : ByteArray} (h : StrsAt w A 2 [p0, p1]) : ∃ b off, A = some ⟨b, off, none⟩ ∧ b < w.heap.size ∧ w.cell? ⟨b, off, none⟩ = some (.string p0) ∧ w.cell? ⟨b, off + 1, none⟩ = some (.string p1) := by
  obtain ⟨b, off, x, e, hb, hx, hc⟩ := h.at_ (k := 0) (by omega)
  obtain ⟨b', off', x', e', hb', hx', hc'⟩ := h.at_ (k := 1) (by omega)
  rw [e] at e'
  cases e'
  cases hx
  cases hx'
  exact ⟨b, off, e, hb, hc, hc'⟩
set_option maxHeartbeats 4000000 in
theorem tmp_spec_walk (s : ByteArray) (w : World) (hs : s.size ≤ 1048576) : Calls Tryd.prog 30 #[.string s] w fun e w' => TmpRet w (tmN s) (tmZ s) (tmOK s) e w' := by
  have HB0 := Lib.hid ((Below.refl w.heap.size w).alloc (Nat.le_refl _) (.cells #[.string ⟨#[]⟩, .slice none 0 0] 41))
  by_cases h2 : (splitS 32 s).length = 2
  · obtain ⟨p0, p1, hp⟩ : ∃ p0 p1, splitS 32 s = [p0, p1] := by
      match hx : splitS 32 s, h2 with
      | [x, y], _ => exact ⟨x, y, rfl⟩
    have hm0 : p0.size ≤ s.size := split_mem (c := 32) (by rw [hp]; exact List.mem_cons_self)
    have hm1 : p1.size ≤ s.size := split_mem (c := 32) (by rw [hp]; exact List.mem_cons_of_mem _ List.mem_cons_self)
    have HSP := Lib.hid (show ∀ w1, Calls Tryd.prog 52 #[.string s, .int .u8 32] w1 fun e w' => ∃ A c, e = .returned (.slice A 2 c) ∧ w'.ownsRow w1.heap.size 9 1 (.slice A 2 c) 2 ([p0, p1].map Value.string) ∧ Below w1.heap.size w1 w' from by
      intro w1
      have := l01Split_is 32 32 rfl s w1 hs
      rw [hp] at this
      exact this)
    have HYes : Hid (lstB p1 = true → tempB p0 (lstV p1) = true → tmN s = p0 ∧ tmZ s = lstV p1 ∧ tmOK s = true) := fun h1 h2 => tmp_yes (tmp_spec hp h1 h2)
    have HNo : Hid (lstB p1 = false ∨ tempB p0 (lstV p1) = false → tmN s = ⟨#[]⟩ ∧ tmZ s = [] ∧ tmOK s = false) := fun h => tmp_spec_no fun nm os e => by
      rw [hp] at e
      cases e
      exact h
    have HR := Lib.hid (fun w1 => lst_spec_walk p1 w1 (Nat.le_trans hm1 hs))
    have hlen := lst_len p1
    clear hp h2
    generalize lstV p1 = zs at *
    generalize hlb : lstB p1 = lb at *
    clear hlb
    go_enter Tryd.func30, Tryd.ntmps30
    go_wp2_with fail
    refine (HSP.out _).mono ?_
    rintro e w1 ⟨A1, c1, rfl, ho1, hb1⟩
    obtain ⟨g, off, rfl, hgl, q0, q1⟩ := two_words (StrsAt.of_own ho1)
    have hg0 := (ho1.lt g rfl).1
    have hz1 : w.heap.size + 1 ≤ w1.heap.size := by have := hb1.size; simpa using this
    have r0 : w1.cell? ⟨w.heap.size, 0, none⟩ = some (.string ⟨#[]⟩) := (hb1.cell (p := ⟨w.heap.size, 0, none⟩) (by simp)).trans (by go_simp)
    have r1 : w1.cell? ⟨w.heap.size, 1, none⟩ = some (.slice none 0 0) := (hb1.cell (p := ⟨w.heap.size, 1, none⟩) (by simp)).trans (by go_simp)
    have f0 : w1.frozen? ⟨w.heap.size, 0, none⟩ = false := (hb1.frozen (p := ⟨w.heap.size, 0, none⟩) (by simp)).trans (by go_simp)
    have f1 : w1.frozen? ⟨w.heap.size, 1, none⟩ = false := (hb1.frozen (p := ⟨w.heap.size, 1, none⟩) (by simp)).trans (by go_simp)
    have HB1 := Lib.hid (HB0.out.trans (hb1.mono HB0.out.size))
    clear ho1 hb1 hg0
    go_wp2_with fail
    refine (HR.out _).mono ?_
    rintro e w2 ⟨A, n, c, rfl, ho2, hb2⟩
    have hn : n ≤ 64 := by rw [← (IntsAt.of_own ho2).len]; exact hlen
    have s0 : w2.cell? ⟨w.heap.size, 0, none⟩ = some (.string ⟨#[]⟩) := (hb2.cell (p := ⟨w.heap.size, 0, none⟩) (by show w.heap.size < _; omega)).trans r0
    have s1 : w2.cell? ⟨w.heap.size, 1, none⟩ = some (.slice none 0 0) := (hb2.cell (p := ⟨w.heap.size, 1, none⟩) (by show w.heap.size < _; omega)).trans r1
    have e0 : w2.frozen? ⟨w.heap.size, 0, none⟩ = false := (hb2.frozen (p := ⟨w.heap.size, 0, none⟩) (by show w.heap.size < _; omega)).trans f0
    have e1 : w2.frozen? ⟨w.heap.size, 1, none⟩ = false := (hb2.frozen (p := ⟨w.heap.size, 1, none⟩) (by show w.heap.size < _; omega)).trans f1
    have t0 : w2.cell? ⟨g, off, none⟩ = some (.string p0) := (hb2.cell (p := ⟨g, off, none⟩) hgl).trans q0
    have hz2 : w.heap.size + 1 ≤ w2.heap.size := Nat.le_trans hz1 hb2.size
    have hzz : w.heap.size < w2.heap.size := hz2
    have hg2 : g < w2.heap.size := Nat.lt_of_lt_of_le hgl hb2.size
    have HB2 := Lib.hid (below_two HB1.out hb2 (Nat.le_refl _))
    have HO2 := Lib.hid (row_weaken ho2 (by omega : w.heap.size + 1 ≤ w1.heap.size))
    have HB3 := Lib.hid (HB2.out.alloc HB2.out.size (.cells #[.string p0, .slice A n c] 41))
    have hI := (IntsAt.of_own ho2).alloc (.cells #[.string p0, .slice A n c] 41)
    have HL := Lib.hid (l03Ok_any p0 A n c zs w2.heap.size _ hI (by omega) (by unfold maxLen; omega) (by go_simp) (by go_simp))
    clear r0 r1 f0 f1 q0 q1 ho2 hb2 hI hgl
    cases lb with
    | false =>
      have HV := Lib.hid (HNo.out (.inl rfl))
      clear HL
      go_wp2
      refine bodyPost_ret (v := .tuple #[.agg #[.string ⟨#[]⟩, .slice none 0 0], .bool false]) (by simp [results, Tryd.results30, go_sem, s0, s1, hzz]) rfl ?_
      exact TmpRet.none_ HV.out.1 HV.out.2.1 HV.out.2.2 rfl (by repeat (first | exact HB2.out | refine Below.setCell ?_ (by first | exact Nat.le_refl _ | (simp; omega) | simp) _ | refine Below.alloc ?_ (by first | (simp; omega) | omega | simp) _))
    | true =>
      cases hT : tempB p0 zs with
      | false =>
        have HV := Lib.hid (HNo.out (.inr hT))
        rw [hT] at HL
        clear hT
        go_wp2_with (go_at_call 68; refine HL.out.mono ?_; rintro e w' ⟨rfl, rfl⟩)
        refine bodyPost_ret (v := .tuple #[.agg #[.string ⟨#[]⟩, .slice none 0 0], .bool false]) (by simp [results, Tryd.results30, go_sem, s0, s1, hzz]) rfl ?_
        exact TmpRet.none_ HV.out.1 HV.out.2.1 HV.out.2.2 rfl (by repeat (first | exact HB2.out | refine Below.setCell ?_ (by first | exact Nat.le_refl _ | (simp; omega) | simp) _ | refine Below.alloc ?_ (by first | (simp; omega) | omega | simp) _))
      | true =>
        have HV := Lib.hid (HYes.out rfl hT)
        rw [hT] at HL
        clear hT
        go_wp2_with (go_at_call 68; refine HL.out.mono ?_; rintro e w' ⟨rfl, rfl⟩)
        refine bodyPost_ret (v := .tuple #[.agg #[.string p0, .slice A n c], .bool true]) (by simp [results, Tryd.results30, go_sem, s0, s1, hzz]) rfl ?_
        unfold TmpRet
        rw [HV.out.1, HV.out.2.1, HV.out.2.2]
        refine ⟨A, n, c, rfl, row_weaken (b1 := w.heap.size + 1) ?_ (by omega), ?_⟩
        · repeat (first | exact HO2.out | refine row_setCell ?_ (by simp) _ | refine World.ownsRow.alloc ?_ _)
        · exact (by repeat (first | exact HB2.out | refine Below.setCell ?_ (by first | exact Nat.le_refl _ | (simp; omega) | simp) _ | refine Below.alloc ?_ (by first | (simp; omega) | omega | simp) _))
  · have HV := Lib.hid (tmp_spec_no (s := s) fun nm os e => absurd (by rw [e]; rfl) h2)
    obtain ⟨n, hn⟩ : ∃ n, n = (splitS 32 s).length := ⟨_, rfl⟩
    have HSP := Lib.hid (show ∀ w1, Calls Tryd.prog 52 #[.string s, .int .u8 32] w1 fun e w' => ∃ A c, e = .returned (.slice A n c) ∧ w'.ownsRow w1.heap.size 9 1 (.slice A n c) n ((splitS 32 s).map Value.string) ∧ Below w1.heap.size w1 w' from by
      rw [hn]; exact fun w1 => l01Split_is 32 32 rfl s w1 hs)
    rw [← hn] at h2
    have hne : ((n : Int) == 2) = false := by rw [beq_eq_false_iff_ne]; omega
    clear hn
    go_enter Tryd.func30, Tryd.ntmps30
    go_wp2_with fail
    refine (HSP.out _).mono ?_
    rintro e w1 ⟨A1, c1, rfl, ho1, hb1⟩
    have hz1 : w.heap.size + 1 ≤ w1.heap.size := by have := hb1.size; simpa using this
    have r0 : w1.cell? ⟨w.heap.size, 0, none⟩ = some (.string ⟨#[]⟩) := (hb1.cell (p := ⟨w.heap.size, 0, none⟩) (by simp)).trans (by go_simp)
    have r1 : w1.cell? ⟨w.heap.size, 1, none⟩ = some (.slice none 0 0) := (hb1.cell (p := ⟨w.heap.size, 1, none⟩) (by simp)).trans (by go_simp)
    have f0 : w1.frozen? ⟨w.heap.size, 0, none⟩ = false := (hb1.frozen (p := ⟨w.heap.size, 0, none⟩) (by simp)).trans (by go_simp)
    have f1 : w1.frozen? ⟨w.heap.size, 1, none⟩ = false := (hb1.frozen (p := ⟨w.heap.size, 1, none⟩) (by simp)).trans (by go_simp)
    have HB1 := Lib.hid (HB0.out.trans (hb1.mono HB0.out.size))
    clear ho1 hb1
    go_wp2
    refine bodyPost_ret (v := .tuple #[.agg #[.string ⟨#[]⟩, .slice none 0 0], .bool false]) (by simp [results, Tryd.results30, go_sem, r0, r1]) rfl ?_
    exact TmpRet.none_ HV.out.1 HV.out.2.1 HV.out.2.2 rfl ((HB1.out.setCell (Nat.le_refl _) _).setCell (Nat.le_refl _) _)
end Go.Proofs.YtkbfmjnekeipcaaDoor
