/- Contracts of the law's marks on a slice of texts, of whatever length. -/
import Derived.Test.YtdmfmpfdkfijeaaDoorSplitS
import Derived.Test.YtdmfmpfdkfijeaaDoorDecS
import Derived.Maps.AppendAt
namespace Go.Proofs.YtdmfmpfdkfijeaaDoor
open Go.ChangeShapes Go.WideShapes Go.ChangeAt Go.RowKit
set_option maxRecDepth 100000

/-- The text that marks the number k. -/
def mkS (k : Nat) : ByteArray := toB (109 :: Lib.decDigits k)
theorem one_cat (u : UInt8) (l : List UInt8) : (⟨#[u]⟩ : ByteArray) ++ toB l = toB (u :: l) := by
  have : (⟨#[u]⟩ : ByteArray) = toB [u] := rfl
  rw [this, toB_append]
  rfl
theorem conv_new (w : World) (u : UInt8) : (convert 31 9 (.slice (some ⟨w.heap.size, 0, none⟩) 1 1)).run Tryd.prog (w.alloc (.cells #[bV u] 5)) = .ok (.string ⟨#[u]⟩) (w.alloc (.cells #[bV u] 5)) :=
  conv_bytes _ _ 1 1 [u] (CellsAt.of_block (heap_alloc_new w _) rfl rfl) (by omega)
theorem mk_step {k : Nat} (h : k ≠ 0) (l : List UInt8) : tailD k ++ l = tailD (k / 10) ++ (UInt8.ofNat (48 + k % 10) :: l) := by
  rw [tailD_step h]
  simp
set_option maxHeartbeats 4000000 in
theorem mkText_is (K : Nat) (kn : Int) (hkn : kn = (K : Int)) (w : World) (h1 : 1 ≤ K) (h2 : K ≤ 4000000) : Calls Tryd.prog 59 #[.int .i64 kn] w fun e w' => e = .returned (.string (mkS K)) ∧ Below w.heap.size w w' := by
  subst hkn
  have hK0 : ¬ (K : Int) ≤ 0 := by omega
  go_enter Tryd.func59, Tryd.ntmps59
  go_wp2
  go_loopw [0, 3] (fun kk out wr => ∃ (m : Nat) (l : List UInt8), m ≤ K ∧ kk = .int .i64 m ∧ out = .string (toB l) ∧ tailD K = tailD m ++ l ∧ l.length ≤ 20 ∧ (m = 0 ∨ l.length + (tailD m).length ≤ 20) ∧ Below w.heap.size w wr) (fun kk _ _ => (intOf kk).toNat)
  case atStart => exact ⟨K, [], Nat.le_refl _, rfl, rfl, by simp, by simp, by
    right
    have h3 : (tailD K).length ≤ 7 := by
      unfold tailD
      rw [if_neg (by omega)]
      have h7 : (10 : Nat) ^ (6 + 1) = 10000000 := rfl
      exact decDigits_le 6 K (by omega)
    simp only [List.length_nil]
    omega, Below.refl _ _⟩
  case round =>
    obtain ⟨m, l, hm, rfl, rfl, hl, hll, hlb, hbr⟩ := hrel
    have HBR := Lib.hid hbr
    have hle := hbr.size
    by_cases h0 : m = 0
    · subst h0
      have HR : Hid (mkS K = toB (109 :: l)) := by
        show _ = _
        unfold mkS
        have h3 : Lib.decDigits K = l := by
          have : tailD K = Lib.decDigits K := by unfold tailD; rw [if_neg (by omega)]
          rw [← this, hl]
          simp [tailD]
        rw [h3]
      have hz : (toB l).size ≤ 20 := hll
      have hcat := one_cat 109 l
      clear hl hlb hbr
      go_wp2
      go_ret
      exact ⟨by rw [HR.out, ← hcat]; rfl, HBR.out⟩
    · have hst := hl.trans (mk_step h0 l)
      have hlen : (tailD m).length = (tailD (m / 10)).length + 1 := by rw [tailD_step h0, List.length_append, List.length_singleton]
      obtain ⟨d, hd⟩ : ∃ d, d = m % 10 := ⟨_, rfl⟩
      obtain ⟨q, hq⟩ : ∃ q, q = m / 10 := ⟨_, rfl⟩
      have hu0 : ((UInt8.ofNat (48 + m % 10)).toNat : Int) = 48 + (m : Int) % 10 := dig_nat
      rw [← hd] at hst hu0
      rw [← hq] at hst hlen
      have HT := Lib.hid hst
      have hlb2 : l.length + (tailD m).length ≤ 20 := by omega
      have hm0 : (0 : Int) < (m : Int) := by omega
      have hmm : ((m : Int)).tmod 10 = (d : Int) := by rw [Int.tmod_eq_emod_of_nonneg (by omega)]; omega
      have hme : (m : Int) % 10 = (d : Int) := by omega
      have hmq : ((m : Int)).tdiv 10 = (q : Int) := by rw [Int.tdiv_eq_ediv_of_nonneg (by omega)]; omega
      have hmd : (m : Int) / 10 = (q : Int) := by omega
      have hd0 : (0 : Int) ≤ (d : Int) := by omega
      have hd9 : (d : Int) ≤ 9 := by omega
      have hq9 : q < m := by omega
      have hq0 : (0 : Int) ≤ (q : Int) := by omega
      rw [hme] at hu0
      have hconv := conv_new wr (UInt8.ofNat (48 + d))
      have hcat := one_cat (UInt8.ofNat (48 + d)) l
      unfold bV at hconv
      rw [hu0] at hconv
      have hz : (toB l).size ≤ 19 := by show l.length ≤ 19; omega
      generalize UInt8.ofNat (48 + d) = u at *
      clear hl hlb hbr hst hd hq h0 hu0
      go_wp2
      go_roundw
      case rel => exact ⟨q, u :: l, by omega, by go_num, by rw [← hcat], HT.out, by simp only [List.length_cons]; omega, by right; simp only [List.length_cons]; omega, HBR.out.alloc hle _⟩
      case measure => simp [intOf]; omega
def mkL (n : Nat) : List ByteArray := (List.range n).map fun j => mkS (1 + j)
theorem mkL_len (n : Nat) : (mkL n).length = n := by simp [mkL]
theorem mkL_get {n j : Nat} (h : j < n) : (mkL n)[j]? = some (mkS (1 + j)) := by simp [mkL, h]
theorem mkL_upto {n : Nat} {xs : List Value} (hx : xs.length = n) (h : ∀ j, j < n → xs[j]? = some (.string (mkS (1 + j)))) : xs = (mkL n).map Value.string := by
  apply List.ext_getElem?
  intro j
  rcases Nat.lt_or_ge j n with hj | hj
  · rw [h j hj, List.getElem?_map, mkL_get hj]; rfl
  · rw [List.getElem?_eq_none (by omega), List.getElem?_eq_none (by rw [List.length_map, mkL_len]; exact hj)]
theorem grown_ofB {w w' : World} (h : Below w.heap.size w w') (row : Option Nat) : w.grownBy w' row := ⟨h.os, h.tape, h.output, h.size, fun i hi _ => h.block i hi⟩
set_option maxHeartbeats 4000000 in
theorem markS_is (A : Option Addr) (n c base : Nat) (xs : List Value) (w : World) (hn : n ≤ 2000000) (ho : w.ownsRow base 9 1 (.slice A n c) n xs) :
    Calls Tryd.prog 25 #[.slice A n c, .int .i64 1] w fun e w' => e = .returned (.int .i64 (1 + n)) ∧ w'.ownsRow base 9 1 (.slice A n c) n ((mkL n).map Value.string) ∧ w.grownBy w' (A.map (·.block)) := by
  go_enter Tryd.func25, Tryd.ntmps25
  go_wp2
  go_loopw [1, 5] (fun q i wr => ∃ (k : Nat) (ys : List Value), k ≤ n ∧ i = .int .i64 k ∧ q = .int .i64 (1 + k) ∧ ys.length = n ∧ wr.ownsRow base 9 1 (.slice A n c) n ys ∧ w.grownBy wr (A.map (·.block)) ∧ (∀ j, j < k → ys[j]? = some (.string (mkS (1 + j))))) (fun _ i _ => n - (intOf i).toNat)
  case atStart => exact ⟨0, _, Nat.zero_le _, rfl, by simp, by have := ho.1; omega, ho, World.grownBy.refl _ _, fun j hj => by omega⟩
  case round =>
    obtain ⟨k, ys, hk, rfl, rfl, hy, hown, hgr, hall⟩ := hrel
    by_cases hlt : k < n
    · obtain ⟨g, rfl⟩ : ∃ g, A = some ⟨g, 0, none⟩ := by
        rcases hown.2 with ⟨_, h1⟩ | ⟨g, cap, cur, hv, _⟩
        · omega
        · simp only [Value.slice.injEq] at hv; exact ⟨g, hv.1⟩
      have hltI : (k : Int) < n := by omega
      have hk0 : (0 : Int) ≤ (k : Int) := by omega
      have HM := Lib.hid (fun w1 => mkText_is (1 + k) (1 + (k : Int)) (by omega) w1 (by omega) (by omega))
      have HA := Lib.hid hall
      have HX := Lib.hid hy
      have HG := Lib.hid hgr
      have HO := Lib.hid hown
      clear hall hgr hown ho
      go_wp2_with fail
      refine (HM.out _).mono ?_
      rintro e w1 ⟨rfl, hb1⟩
      have o1 := row_keepL HO.out hb1
      have hd := o1.cellAt k (by omega)
      have hdv : ys[k]? = some (ys[k]'(by omega)) := List.getElem?_eq_getElem (by omega)
      rw [hdv] at hd
      have hdf := o1.frozenAt k
      have hst := Lib.hid (o1.stored k (.string (mkS (1 + k))))
      have HB := Lib.hid hb1
      have HE : Hid (mkS (1 + k) = mkS (1 + k)) := rfl
      generalize ys[k]'(by omega) = old at hd
      clear hdv hb1 o1
      go_wp2
      go_roundw
      case rel =>
        refine ⟨k + 1, _, by omega, by go_num, by go_num, by rw [List.length_set]; exact HX.out, hst.out.1, ?_, ?_⟩
        · exact (HG.out.trans (grown_ofB HB.out _)).trans hst.out.2
        · intro j hj
          by_cases hjk : j = k
          · subst hjk
            rw [List.getElem?_set_self (by have := HX.out; omega)]
          · rw [List.getElem?_set_ne (by omega)]
            exact HA.out j (by omega)
      case measure => simp [intOf]; omega
    · obtain rfl : k = n := by omega
      have H := Lib.hid (mkL_upto hy hall)
      have HO := Lib.hid hown
      clear hall hown ho hy
      go_wp2
      go_ret
      exact ⟨rfl, by rw [← H.out]; exact HO.out, hgr⟩
attribute [local go_sem ↓] Go.wp_at_zero Go.wp_at_succ
set_option maxHeartbeats 4000000 in
theorem heldS_is (A : Option Addr) (n c : Nat) (w : World) (hn : n ≤ 2000000) (h : StrsAt w A n (mkL n)) : Calls Tryd.prog 26 #[.slice A n c, .int .i64 1] w fun e w' => e = .returned (.int .i64 (1 + n)) ∧ Below w.heap.size w w' := by
  go_enter Tryd.func26, Tryd.ntmps26
  go_wp2
  go_loopw [1, 5] (fun q i wr => ∃ (k : Nat), k ≤ n ∧ i = .int .i64 k ∧ q = .int .i64 (1 + k) ∧ Below w.heap.size w wr) (fun _ i _ => n - (intOf i).toNat)
  case atStart => exact ⟨0, Nat.zero_le _, rfl, by simp, Below.refl _ _⟩
  case round =>
    obtain ⟨k, hk, rfl, rfl, hbr⟩ := hrel
    by_cases hlt : k < n
    · obtain ⟨b, off, x, rfl, hb, hx, hd⟩ := (h.below hbr).at_ hlt
      rw [mkL_get hlt] at hx
      cases hx
      have hltI : (k : Int) < n := by omega
      have hk0 : (0 : Int) ≤ (k : Int) := by omega
      have HM := Lib.hid (fun w1 => mkText_is (1 + k) (1 + (k : Int)) (by omega) w1 (by omega) (by omega))
      have HBR := Lib.hid hbr
      have hself : ((mkS (1 + k)).toList == (mkS (1 + k)).toList) = true := by simp
      generalize mkS (1 + k) = t at hd HM hself
      clear hbr
      go_wp2
      go_region_held3 (fun w' => w'.cell? ⟨b, off + k, none⟩ = some (.string t))
        (first
          | exact (hb3.cell (p := ⟨b, off + k, none⟩) hb).trans hd
          | exact hd
          | go_keep)
        ((go_at_call 59; refine (HM.out _).mono ?_; rintro e w3 ⟨rfl, hb3⟩))
      all_goals
        have HB3 := Lib.hid (below_two (HBR.out.drew) hb3 (Nat.le_refl _))
        clear hb3 hd
        go_wp2
        go_roundw
        case rel => exact ⟨k + 1, by omega, by go_num, by go_num, HB3.out⟩
        case measure => simp [intOf]; omega
    · obtain rfl : k = n := by omega
      go_wp2
      go_ret
      exact ⟨rfl, hbr⟩
set_option maxHeartbeats 4000000 in
theorem eqS_same (A B : Option Addr) (n c d : Nat) (xs : List ByteArray) (w : World) (hn : n ≤ 2000000) (ha : StrsAt w A n xs) (hb : StrsAt w B n xs) : Calls Tryd.prog 24 #[.slice A n c, .slice B n d] w fun e w' => e = .returned (.bool true) ∧ ∃ q, w' = w.drewN q := by
  have hnn : ((n : Int) == n) = true := by simp
  go_enter Tryd.func24, Tryd.ntmps24
  go_wp2
  go_loopw [5] (fun i wr => ∃ (k q : Nat), k ≤ n ∧ i = .int .i64 k ∧ wr = w.drewN q) (fun i _ => n - (intOf i).toNat)
  case atStart => exact ⟨0, 0, Nat.zero_le _, rfl, rfl⟩
  case round =>
    obtain ⟨k, q, hk, rfl, rfl⟩ := hrel
    by_cases hlt : k < n
    · obtain ⟨b1, o1, x1, rfl, hl1, hx1, d0⟩ := ha.at_ hlt
      obtain ⟨b2, o2, x2, rfl, hl2, hx2, d1⟩ := hb.at_ hlt
      rw [hx1] at hx2
      cases hx2
      have hltI : (k : Int) < n := by omega
      have hself : (x1.toList == x1.toList) = true := by simp
      clear ha hb hx1
      go_wp2
      go_quiet (fail)
      go_wp2
      go_roundw
      case rel => exact ⟨k + 1, q + nq, by omega, by go_num, by first | rfl | rw [World.drewN_drewN]⟩
      case measure => simp [intOf]; omega
    · obtain rfl : k = n := by omega
      clear ha hb
      go_wp2
      go_ret
      exact ⟨rfl, q, rfl⟩
end Go.Proofs.YtdmfmpfdkfijeaaDoor
