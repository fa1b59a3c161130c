/- The reference's decimal text, walked. -/
import Derived.Test.YtdmfmpfdkfijeaaDoorDec
namespace Go.Proofs.YtdmfmpfdkfijeaaDoor
open Go.ChangeShapes Go.WideShapes Go.ChangeAt Go.RowKit
set_option maxRecDepth 100000

theorem bV_new (w : World) (base g : Nat) (hg : g = w.heap.size) (hb : base ≤ g) : (w.alloc (.cells #[] 5)).ownsRow base 5 1 (.slice (some ⟨g, 0, none⟩) 0 0) 0 ([] : List Value) := by
  subst hg
  exact ⟨by simp, .inr ⟨w.heap.size, 0, #[], rfl, hb, heap_alloc_new w _, Nat.le_refl _, by unfold maxLen; omega, by simp, by simp⟩⟩
theorem conv_bytes (w : World) (A : Option Addr) (n c : Nat) (L : List UInt8) (h : CellsAt w A n 1 (L.map bV)) (hn : 0 < n) : (convert 31 9 (.slice A n c)).run Tryd.prog w = .ok (.string ⟨L.toArray⟩) w := by
  obtain ⟨b, off, rfl, hlt, hc⟩ := h.2 hn
  have hl : L.length = n := by simpa using h.1
  subst hl
  exact run_convert_bytes_back w _ _ 5 ⟨b, off, none⟩ c L Tryd.underlying31 Tryd.underlying5 Tryd.underlying9 (fun j hj => by
    have := hc j (bV L[j]) (by simp [hj])
    have e : (⟨b, off, none⟩ : Addr).add j = ⟨b, off + j, none⟩ := by unfold Addr.add; split <;> simp_all
    rw [e]; exact this)
theorem decDigits_pos (m : Nat) : 0 < (Lib.decDigits m).length := by
  rw [Lib.decDigits]
  split <;> simp
theorem take_rev {L : List UInt8} {K j : Nat} (hK : L.length = K) (hj : j < K) {i : Nat} (hi : i + 1 + j = K) {u : UInt8} (hu : L[i]? = some u) : L.reverse.take (j + 1) = L.reverse.take j ++ [u] := by
  rw [List.take_add_one]
  congr 1
  rw [List.getElem?_reverse (by omega), hK, show K - 1 - j = i by omega, hu]
  rfl
/-- The second loop's relation. -/
def OutRel (w : World) (base : Nat) (A : Option Addr) (K : Nat) (L : List UInt8) (v i : Value) (wr : World) : Prop :=
  ∃ (j : Nat) (z : Int), j ≤ K ∧ i = .int .i64 z ∧ z + 1 + j = K ∧ CellsAt wr A K 1 (L.map bV) ∧ wr.ownsRow base 5 1 v j ((L.reverse.take j).map bV) ∧ Below w.heap.size w wr ∧ base ≤ wr.heap.size
/-- The first loop's relation. -/
def DecRel (w : World) (n : Int) (v m : Value) (wr : World) : Prop :=
  ∃ (k : Nat) (z : Int) (L : List UInt8), m = .int .i64 z ∧ DecInv n z k L ∧ wr.ownsRow w.heap.size 5 1 v k (L.map bV) ∧ Below w.heap.size w wr
set_option maxHeartbeats 4000000 in
theorem dec_walk (n : Int) (wn : (Lit.int .i64 n).wf = true) (w : World) : Calls Tryd.prog 48 #[.int .i64 n] w fun e w' => e = .returned (.string (decS n)) ∧ Below w.heap.size w w' := by
  have hb := wf_lo wn
  have hnb : n.natAbs ≤ 9223372036854775808 := by omega
  obtain ⟨i0, hi, hz0, hz1, hz2⟩ := info_parts infoB
  by_cases hn : n = 0
  · subst hn
    go_enter Tryd.func48, Tryd.ntmps48
    go_wp2
    go_ret
    exact ⟨by unfold decS; rw [itoa_zero]; rfl, Below.refl _ _⟩
  have hn' : decide (n = 0) = false := decide_eq_false hn
  have HS := Lib.hid (DecInv.start hn)
  go_enter Tryd.func48, Tryd.ntmps48
  go_wp2
  go_loopw [3, 4, 5] (fun v m _ wr => DecRel w n v m wr) (fun _ m _ _ => (intOf m).natAbs)
  case atStart => exact ⟨0, n, [], rfl, HS.out, bV_new w _ _ rfl (Nat.le_refl _), (Below.refl _ _).alloc (Nat.le_refl _) _⟩
  case round =>
    obtain ⟨k, m, L, rfl, hinv, hown, hbr⟩ := hrel
    by_cases hm : m = 0
    · subst hm
      have HD := Lib.hid hinv.all
      have hkl := hinv.le
      have hln := hinv.len
      have HB := Lib.hid hbr
      have hbs := hbr.size
      clear hinv hbr
      by_cases hneg : n < 0
      · have hng : decide (n < 0) = true := decide_eq_true hneg
        go_wp2_with ((at_builtin; refine wpList_append_lies _ rfl _ _ _ rfl (w.heap.size) 5 i0 _ 1 1 Tryd.underlying31 hi hz0 hz1 hz2 rfl (by omega) _ (k) _ rfl (hown.alloc _) ⟨wr.heap.size, 0, none⟩ 1 1 [.int .u8 (45)] rfl rfl (World.news_of_block (cs := #[.int .u8 (45)]) (t := 5) (fr := (0, 0)) (heap_alloc_new wr _)) (by simp [Value.oneCell']) (by omega) (by unfold maxLen; omega) (by omega) (by simp; omega) (wr.heap.size + 1) (by simp) ?_; intro gg cap w3 hown1 hgrow hat hlt'))
        have HB1 := Lib.hid ((HB.out.alloc hbs _).grown hgrow (by simp; omega) (by intro g hg; have := (hown.lt g hg).1; omega))
        have hbs1 := HB1.out.size
        have hL1 : (L ++ [45]).length = k + 1 := by simp [hln]
        have HR := Lib.hid (show (L ++ [(45 : UInt8)]).reverse = Lib.itoa n by rw [itoa_neg' hneg, HD.out]; simp)
        have hown3 : w3.ownsRow w.heap.size 5 1 (.slice (some ⟨gg, 0, none⟩) (k + 1) cap) (k + 1) ((L ++ [(45 : UInt8)]).map bV) := by rw [List.map_append]; exact hown1
        clear hown1 hown hgrow hat
        generalize hKe : k + 1 = K at hown3 hL1 ⊢
        generalize hAe : (some (⟨gg, 0, none⟩ : Addr)) = A1 at hown3 ⊢
        generalize hLe : L ++ [(45 : UInt8)] = L1 at hown3 hL1 HR ⊢
        have HO1 := Lib.hid (CellsAt.of_own hown3)
        have hA : ∀ a, A1 = some a → a.block < w3.heap.size := fun a ha => by subst ha; exact (hown3.lt a.block rfl).2
        have hK20 : 0 < K ∧ K ≤ 20 := by omega
        clear hown3 hAe hLe
        go_wp2
        go_loopw [6, 7] (fun v i wr => OutRel w w3.heap.size A1 K L1 v i wr) (fun _ i _ => (intOf i + 1).toNat)
        case atStart => exact ⟨0, (k : Int), Nat.zero_le _, rfl, by omega, HO1.out.alloc _, bV_new w3 _ _ rfl (Nat.le_refl _), HB1.out.alloc hbs1 _, by simp⟩
        case round =>
          obtain ⟨j, z, hjK, rfl, hz, hcl, hown2, hbr2, hsz⟩ := hrel
          have hbs2 := hbr2.size
          have HB2 := Lib.hid hbr2
          have HC2 := Lib.hid hcl
          clear hbr2
          by_cases hj : j < K
          · obtain ⟨i, rfl⟩ : ∃ i : Nat, z = i := ⟨z.toNat, by omega⟩
            obtain ⟨b1, off1, rfl, hb1, hc1⟩ := hcl.2 (by omega)
            obtain ⟨u, hu⟩ : ∃ u, L1[i]? = some u := ⟨_, List.getElem?_eq_getElem (by omega)⟩
            have hcz : wr.cell? ⟨b1, off1 + i, none⟩ = some (.int .u8 (u.toNat : Int)) := hc1 i (bV u) (by simp [hu])
            have HT := Lib.hid (take_rev hL1 hj (i := i) (by omega) hu)
            have hbA := hA _ rfl
            have hi1 : (i : Int) < K := by omega
            clear hcl hc1 hu
            go_wp2_with ((at_builtin; refine wpList_append_lies _ rfl _ _ _ rfl (w3.heap.size) 5 i0 _ 1 1 Tryd.underlying31 hi hz0 hz1 hz2 rfl (by omega) _ (j) _ rfl (hown2.alloc _) ⟨wr.heap.size, 0, none⟩ 1 1 [.int .u8 (u.toNat)] rfl rfl (World.news_of_block (cs := #[.int .u8 (u.toNat)]) (t := 5) (fr := (0, 0)) (heap_alloc_new wr _)) (by simp [Value.oneCell']) (by omega) (by unfold maxLen; omega) (by omega) (by simp; omega) (wr.heap.size + 1) (by simp) ?_; intro gg cap w3 hown1 hgrow hat hlt'))
            go_roundw
            case rel =>
              refine ⟨j + 1, (i : Int) - 1, by omega, by go_num, by omega, (HC2.out.alloc _).grown hgrow (fun a ha e => ?_), ?_, ?_, ?_⟩
              · cases ha
                have := (hown2.lt _ e).1
                omega
              · rw [HT.out, List.map_append]; exact hown1
              · exact (HB2.out.alloc hbs2 _).grown hgrow (by simp; omega) (by intro g hg; have := (hown2.lt g hg).1; omega)
              · have := hgrow.size; simp at this; omega
            case measure => simp [intOf]
          · obtain rfl : j = K := by omega
            obtain rfl : z = -1 := by omega
            obtain ⟨A2, c2, rfl⟩ := own_shape hown2
            have hconv := conv_bytes wr A2 _ c2 _ (CellsAt.of_own hown2) (by omega)
            rw [List.take_of_length_le (by simp; omega), HR.out] at hconv
            clear hown2 hcl
            go_wp2
            go_ret
            exact ⟨rfl, HB2.out⟩
      · have hng : decide (n < 0) = false := decide_eq_false hneg
        obtain ⟨A1, c1, rfl⟩ := own_shape hown
        have HB1 := HB
        have hbs1 := hbs
        have hL1 := hln
        have HR := Lib.hid (show L.reverse = Lib.itoa n by rw [itoa_pos (by omega), HD.out])
        have hpos := decDigits_pos n.natAbs
        rw [HD.out, List.length_reverse, hln] at hpos
        have HO1 := Lib.hid (CellsAt.of_own hown)
        have hA : ∀ a, A1 = some a → a.block < wr.heap.size := fun a ha => by subst ha; exact (hown.lt a.block rfl).2
        have hK20 : 0 < k ∧ k ≤ 20 := by omega
        clear hown
        rename World => wz
        go_wp2
        go_loopw [6, 7] (fun v i wr => OutRel w wz.heap.size A1 k L v i wr) (fun _ i _ => (intOf i + 1).toNat)
        case atStart => exact ⟨0, (k : Int) - 1, Nat.zero_le _, rfl, by omega, HO1.out.alloc _, bV_new wz _ _ rfl (Nat.le_refl _), HB1.out.alloc hbs1 _, by simp⟩
        case round =>
          obtain ⟨j, z, hjK, rfl, hz, hcl, hown2, hbr2, hsz⟩ := hrel
          have hbs2 := hbr2.size
          have HB2 := Lib.hid hbr2
          have HC2 := Lib.hid hcl
          clear hbr2
          by_cases hj : j < k
          · obtain ⟨i, rfl⟩ : ∃ i : Nat, z = i := ⟨z.toNat, by omega⟩
            obtain ⟨b1, off1, rfl, hb1, hc1⟩ := hcl.2 (by omega)
            obtain ⟨u, hu⟩ : ∃ u, L[i]? = some u := ⟨_, List.getElem?_eq_getElem (by omega)⟩
            have hcz : wr.cell? ⟨b1, off1 + i, none⟩ = some (.int .u8 (u.toNat : Int)) := hc1 i (bV u) (by simp [hu])
            have HT := Lib.hid (take_rev hL1 hj (i := i) (by omega) hu)
            have hbA := hA _ rfl
            have hi1 : (i : Int) < k := by omega
            clear hcl hc1 hu
            go_wp2_with ((at_builtin; refine wpList_append_lies _ rfl _ _ _ rfl (wz.heap.size) 5 i0 _ 1 1 Tryd.underlying31 hi hz0 hz1 hz2 rfl (by omega) _ (j) _ rfl (hown2.alloc _) ⟨wr.heap.size, 0, none⟩ 1 1 [.int .u8 (u.toNat)] rfl rfl (World.news_of_block (cs := #[.int .u8 (u.toNat)]) (t := 5) (fr := (0, 0)) (heap_alloc_new wr _)) (by simp [Value.oneCell']) (by omega) (by unfold maxLen; omega) (by omega) (by simp; omega) (wr.heap.size + 1) (by simp) ?_; intro gg cap w3 hown1 hgrow hat hlt'))
            go_roundw
            case rel =>
              refine ⟨j + 1, (i : Int) - 1, by omega, by go_num, by omega, (HC2.out.alloc _).grown hgrow (fun a ha e => ?_), ?_, ?_, ?_⟩
              · cases ha
                have := (hown2.lt _ e).1
                omega
              · rw [HT.out, List.map_append]; exact hown1
              · exact (HB2.out.alloc hbs2 _).grown hgrow (by simp; omega) (by intro g hg; have := (hown2.lt g hg).1; omega)
              · have := hgrow.size; simp at this; omega
            case measure => simp [intOf]
          · obtain rfl : j = k := by omega
            obtain rfl : z = -1 := by omega
            obtain ⟨A2, c2, rfl⟩ := own_shape hown2
            have hconv := conv_bytes wr A2 _ c2 _ (CellsAt.of_own hown2) (by omega)
            rw [List.take_of_length_le (by simp; omega), HR.out] at hconv
            clear hown2 hcl
            go_wp2
            go_ret
            exact ⟨rfl, HB2.out⟩
    · have hk := hinv.lt hnb hm
      have HI := Lib.hid (hinv.step hnb hm)
      have HB := Lib.hid hbr
      have hbs := hbr.size
      have hmb : m.natAbs ≤ 9223372036854775808 := by
        have h1 := hinv.abs
        have h2 : m.natAbs * 1 ≤ m.natAbs * 10 ^ k := Nat.mul_le_mul_left _ (Nat.one_le_pow _ _ (by omega))
        omega
      have hd := @dig_nat m.natAbs
      have hq : (m.tdiv 10).natAbs = m.natAbs / 10 := by rw [Int.natAbs_tdiv]; rfl
      clear hinv hbr
      have hm' : decide (m = 0) = false := decide_eq_false hm
      have ht : (m.tmod 10).natAbs = m.natAbs % 10 := by rw [Int.natAbs_tmod]; rfl
      have hx1 : -9 ≤ m.tmod 10 ∧ m.tmod 10 ≤ 9 := by omega
      have hqb : -9223372036854775808 ≤ m.tdiv 10 ∧ m.tdiv 10 ≤ 9223372036854775807 := by omega
      have hnx : ((m.tdiv 10).natAbs) < m.natAbs := by omega
      by_cases hneg : m.tmod 10 < 0
      · have hng : decide (m.tmod 10 < 0) = true := decide_eq_true hneg
        have hu : IntKind.u8.wrap (48 + -(m.tmod 10)) = 48 + -(m.tmod 10) := by
          rcases (show m.tmod 10 = -1 ∨ m.tmod 10 = -2 ∨ m.tmod 10 = -3 ∨ m.tmod 10 = -4 ∨ m.tmod 10 = -5 ∨ m.tmod 10 = -6 ∨ m.tmod 10 = -7 ∨ m.tmod 10 = -8 ∨ m.tmod 10 = -9 from by omega) with h | h | h | h | h | h | h | h | h <;> rw [h] <;> rfl
        have HX := Lib.hid (show Value.int .u8 (48 + -(m.tmod 10)) = bV (UInt8.ofNat (48 + m.natAbs % 10)) by unfold bV; rw [hd]; congr 1; omega)
        clear hd ht
        go_wp2_with ((at_builtin; refine wpList_append_lies _ rfl _ _ _ rfl (w.heap.size) 5 i0 _ 1 1 Tryd.underlying31 hi hz0 hz1 hz2 rfl (by omega) _ (k) _ rfl (hown.alloc _) ⟨wr.heap.size, 0, none⟩ 1 1 [.int .u8 (48 + -(m.tmod 10))] rfl rfl (World.news_of_block (cs := #[.int .u8 (48 + -(m.tmod 10))]) (t := 5) (fr := (0, 0)) (heap_alloc_new wr _)) (by simp [Value.oneCell']) (by omega) (by unfold maxLen; omega) (by omega) (by simp; omega) (wr.heap.size + 1) (by simp) ?_; intro gg cap w3 hown1 hgrow hat hlt'))
        go_roundw
        case rel =>
          refine ⟨?_, ?_, ?_, ?_, ?_, ?_, ?_, ?_, ?_, ?_, ?_, ?_, ?_, ?_, ?_, ?_, ?_, ?_, ?_, ?rel1, ?eq1⟩
          case eq1 => rw [show (n == 0) = false from by simp [hn]]
          refine ⟨k + 1, m.tdiv 10, _, rfl, HI.out, ?_, ?_⟩
          · rw [List.map_append, List.map_cons, List.map_nil, ← HX.out]; exact hown1
          · exact (HB.out.alloc hbs _).grown hgrow (by simp; omega) (by intro g hg; have := (hown.lt g hg).1; omega)
        case measure => simp only [intOf]; exact hnx
      · have hng : decide (m.tmod 10 < 0) = false := decide_eq_false hneg
        have hu : IntKind.u8.wrap (48 + m.tmod 10) = 48 + m.tmod 10 := by
          rcases (show m.tmod 10 = 0 ∨ m.tmod 10 = 1 ∨ m.tmod 10 = 2 ∨ m.tmod 10 = 3 ∨ m.tmod 10 = 4 ∨ m.tmod 10 = 5 ∨ m.tmod 10 = 6 ∨ m.tmod 10 = 7 ∨ m.tmod 10 = 8 ∨ m.tmod 10 = 9 from by omega) with h | h | h | h | h | h | h | h | h | h <;> rw [h] <;> rfl
        have HX := Lib.hid (show Value.int .u8 (48 + m.tmod 10) = bV (UInt8.ofNat (48 + m.natAbs % 10)) by unfold bV; rw [hd]; congr 1; omega)
        clear hd ht
        go_wp2_with ((at_builtin; refine wpList_append_lies _ rfl _ _ _ rfl (w.heap.size) 5 i0 _ 1 1 Tryd.underlying31 hi hz0 hz1 hz2 rfl (by omega) _ (k) _ rfl (hown.alloc _) ⟨wr.heap.size, 0, none⟩ 1 1 [.int .u8 (48 + m.tmod 10)] rfl rfl (World.news_of_block (cs := #[.int .u8 (48 + m.tmod 10)]) (t := 5) (fr := (0, 0)) (heap_alloc_new wr _)) (by simp [Value.oneCell']) (by omega) (by unfold maxLen; omega) (by omega) (by simp; omega) (wr.heap.size + 1) (by simp) ?_; intro gg cap w3 hown1 hgrow hat hlt'))
        go_roundw
        case rel =>
          refine ⟨k + 1, m.tdiv 10, _, rfl, HI.out, ?_, ?_⟩
          · rw [List.map_append, List.map_cons, List.map_nil, ← HX.out]; exact hown1
          · exact (HB.out.alloc hbs _).grown hgrow (by simp; omega) (by intro g hg; have := (hown.lt g hg).1; omega)
        case measure => simp only [intOf]; exact hnx
end Go.Proofs.YtdmfmpfdkfijeaaDoor
