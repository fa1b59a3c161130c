/- Contracts: intervals between notes of a temperament, in the program and in the reference. -/
import Derived.Test.YtlcppfoedijccaaDoorTempV
import Derived.Test.YtlcppfoedijccaaDoorScale
import Derived.Test.YtlcppfoedijccaaDoorFreq
namespace Go.Proofs.YtlcppfoedijccaaDoor
open Go.ChangeShapes Go.WideShapes Go.ChangeAt Go.RowKit
set_option maxRecDepth 100000

/-- All are notes. -/
def allN (zs : List Int) : Bool := zs.all fun z => inB z 0 127
theorem allN_any {zs : List Int} {k : Nat} {z : Int} (h : zs[k]? = some z) (hz : inB z 0 127 = false) : allN zs = false := by
  unfold allN
  rw [List.all_eq_false]
  exact ⟨z, List.mem_of_getElem? h, by simp [hz]⟩
theorem allN_all {zs : List Int} {n : Nat} (hl : zs.length = n) (h : ∀ j z, j < n → zs[j]? = some z → inB z 0 127 = true) : allN zs = true := by
  unfold allN
  rw [List.all_eq_true]
  intro z hz
  obtain ⟨j, hj, rfl⟩ := List.getElem_of_mem hz
  exact h j _ (by omega) (List.getElem?_eq_getElem hj)
/-- The interval between two notes of a valid temperament. -/
def intervalV (zs : List Int) (a b : Int) : Int := 1000 * (b - a) + zs.getD (b % 12).toNat 0 - zs.getD (a % 12).toNat 0
theorem tempB_parts {s : ByteArray} {zs : List Int} (h : tempB s zs = true) : nameB s = true ∧ zs.length = 12 ∧ ∀ (k : Nat) (z : Int), zs[k]? = some z → -500 ≤ z ∧ z ≤ 500 := by
  simp only [tempB, Bool.and_eq_true, decide_eq_true_eq, List.all_eq_true] at h
  exact ⟨h.1, h.2.1, fun k z hz => inB_iff.1 (h.2.2 z (List.mem_of_getElem? hz))⟩
theorem offs_bd {zs : List Int} (h : ∀ (k : Nat) (z : Int), zs[k]? = some z → -500 ≤ z ∧ z ≤ 500) (k : Nat) : -500 ≤ zs.getD k 0 ∧ zs.getD k 0 ≤ 500 := by
  rw [List.getD_eq_getElem?_getD]
  cases hz : zs[k]? with
  | none => simp
  | some z => exact h k z hz
theorem intervalV_bd {zs : List Int} (h : ∀ (k : Nat) (z : Int), zs[k]? = some z → -500 ≤ z ∧ z ≤ 500) {a b : Int} (ha : inB a 0 127 = true) (hb : inB b 0 127 = true) : -128000 ≤ intervalV zs a b ∧ intervalV zs a b ≤ 128000 := by
  have h1 := inB_iff.1 ha
  have h2 := inB_iff.1 hb
  have h3 := offs_bd h (b % 12).toNat
  have h4 := offs_bd h (a % 12).toNat
  unfold intervalV
  omega
theorem note_mod {a : Int} (h : inB a 0 127 = true) : ∃ m : Nat, m < 12 ∧ a.tmod 12 = (m : Int) ∧ (a % 12).toNat = m := by
  have h1 := inB_iff.1 h
  refine ⟨(a % 12).toNat, by omega, ?_, rfl⟩
  rw [Int.tmod_eq_emod_of_nonneg h1.1]
  omega

theorem closN_is {z : Int} {r : Bool} (h : inB z 0 127 = r) (w : World) : Calls Tryd.prog 25 #[.int .i64 z] w fun e w' => e = .returned (.bool (!r)) ∧ w = w' := by
  go_enter Tryd.func25, Tryd.ntmps25
  go_wp2_with (go_at_call 13; refine (isNote_is h _).mono ?_; rintro e w' ⟨rfl, rfl⟩)
  go_ret
  exact ⟨rfl, rfl⟩
theorem indexN_any (A : Option Addr) (n c : Nat) (zs : List Int) (w : World) (h : IntsAt w A n zs) (hn : n ≤ 4611686018427387904) :
    Calls Tryd.prog 31 #[.slice A n c, .func (.func 25) #[] #[]] w fun e w' => ∃ r : Int, e = .returned (.int .i64 r) ∧ w = w' ∧ decide (0 ≤ r) = !(allN zs) := by
  have hl := h.len
  go_enter Tryd.func31, Tryd.ntmps31
  go_wp2
  go_loop [5, 8] (fun _ i => ∃ k : Nat, k ≤ n ∧ i = .int .i64 k ∧ ∀ j z, j < k → zs[j]? = some z → inB z 0 127 = true) (fun _ i => n - (intOf i).toNat)
  case atStart => exact ⟨0, Nat.zero_le _, rfl, fun j z hj => by omega⟩
  case round =>
    obtain ⟨k, hk, rfl, hall⟩ := hrel
    by_cases hlt : k < n
    · obtain ⟨b, off, z, rfl, hb, hz, hc⟩ := h.at_ hlt
      cases hB : inB z 0 127
      · have H := Lib.hid (allN_any hz hB)
        clear hall hz
        go_wp2_with (go_at_call 25; refine (closN_is hB _).mono ?_; rintro e w' ⟨rfl, rfl⟩)
        go_ret
        exact ⟨k, rfl, rfl, by rw [H.out]; simp⟩
      · have H := Lib.hid (offs_succ (p := fun z => inB z 0 127) hall hz hB)
        clear hall hz
        go_wp2_with (go_at_call 25; refine (closN_is hB _).mono ?_; rintro e w' ⟨rfl, rfl⟩)
        go_round
        case rel => exact ⟨k + 1, by omega, by go_num, H.out⟩
        case measure => simp [intOf]; omega
    · have H := Lib.hid (allN_all hl (fun j z hj => hall j z (by omega)))
      clear hall
      go_wp2
      go_ret
      exact ⟨-1, rfl, rfl, by rw [H.out]; rfl⟩
theorem containsN_any (A : Option Addr) (n c : Nat) (zs : List Int) (w : World) (h : IntsAt w A n zs) (hn : n ≤ 4611686018427387904) :
    Calls Tryd.prog 24 #[.slice A n c, .func (.func 25) #[] #[]] w fun e w' => e = .returned (.bool (!(allN zs))) ∧ w = w' := by
  have H := Lib.hid (indexN_any A n c zs w h hn)
  go_enter Tryd.func24, Tryd.ntmps24
  go_wp2_with fail
  refine H.out.mono ?_
  rintro e w' ⟨r, rfl, rfl, hr⟩
  have HR := Lib.hid hr
  clear hr
  go_wp2
  go_ret
  exact ⟨ret_bool HR.out, rfl⟩
theorem tempered_inv (s : ByteArray) (A B C : Option Addr) (n c nb cb nc cc : Nat) (zs : List Int) (w : World) (h : IntsAt w A n zs) (hn : n ≤ 1048576) (hs : s.size ≤ maxLen) (hT : tempB s zs = false) :
    Calls Tryd.prog 16 #[.agg #[.string s, .slice A n c], .slice B nb cb, .slice C nc cc] w fun e w' => e = .returned (.int .i64 1) ∧ Below w.heap.size w w' := by
  have HV := Lib.hid (validT_impl s A n c zs (w.alloc (.cells #[.string s, .slice A n c] 26)) (h.alloc _) hn hs)
  rw [hT] at HV
  go_enter Tryd.func16, Tryd.ntmps16
  go_wp2_with fail
  refine HV.out.mono ?_
  rintro e w1 ⟨rfl, hb1⟩
  go_wp2
  go_ret
  exact ⟨rfl, ((Below.refl _ _).alloc (Nat.le_refl _) _).trans (hb1.mono (by simp))⟩
theorem tempered_val (s : ByteArray) (A B C : Option Addr) (n c nb cb nc cc : Nat) (zs ns fs : List Int) (r : Int) (w : World) (h : IntsAt w A n zs) (hn : n ≤ 1048576) (hs : s.size ≤ maxLen) (hT : tempB s zs = true)
    (hB : IntsAt w B nb ns) (hC : IntsAt w C nc fs) (hnb : nb ≤ 1000) (hnc : nc ≤ 1000) (hr : (if (allF fs && allN ns) = true then 0 else 2) = r) :
    Calls Tryd.prog 16 #[.agg #[.string s, .slice A n c], .slice B nb cb, .slice C nc cc] w fun e w' => e = .returned (.int .i64 r) ∧ Below w.heap.size w w' := by
  have HV := Lib.hid (validT_impl s A n c zs (w.alloc (.cells #[.string s, .slice A n c] 26)) (h.alloc _) hn hs)
  rw [hT] at HV
  have b1 := hB.alloc (.cells #[.string s, .slice A n c] 26)
  have b2 := hC.alloc (.cells #[.string s, .slice A n c] 26)
  cases hF : allF fs
  · rw [hF] at hr
    simp at hr
    subst hr
    go_enter Tryd.func16, Tryd.ntmps16
    go_wp2_with fail
    refine HV.out.mono ?_
    rintro e w1 ⟨rfl, hb1⟩
    go_wp2_with fail
    refine (areFreq_is hF _ (b2.below hb1) (by omega)).mono ?_
    rintro e w' ⟨rfl, rfl⟩
    go_wp2
    go_ret
    exact ⟨rfl, ((Below.refl _ _).alloc (Nat.le_refl _) _).trans (hb1.mono (by simp))⟩
  · cases hN : allN ns
    all_goals
      rw [hF, hN] at hr
      simp at hr
      subst hr
      go_enter Tryd.func16, Tryd.ntmps16
      go_wp2_with fail
      refine HV.out.mono ?_
      rintro e w1 ⟨rfl, hb1⟩
      have HN := Lib.hid (containsN_any B nb cb ns w1 (b1.below hb1) (by omega))
      rw [hN] at HN
      go_wp2_with fail
      refine (areFreq_is hF _ (b2.below hb1) (by omega)).mono ?_
      rintro e w' ⟨rfl, rfl⟩
      go_wp2_with fail
      refine HN.out.mono ?_
      rintro e w' ⟨rfl, rfl⟩
      go_wp2
      go_ret
      exact ⟨rfl, ((Below.refl _ _).alloc (Nat.le_refl _) _).trans (hb1.mono (by simp))⟩
set_option maxHeartbeats 2000000 in
theorem interval_any (s : ByteArray) (A : Option Addr) (n c : Nat) (zs : List Int) (a b : Int) (w : World) (h : IntsAt w A n zs) (hT : tempB s zs = true) (ha : inB a 0 127 = true) (hb : inB b 0 127 = true) :
    Calls Tryd.prog 17 #[.agg #[.string s, .slice A n c], .int .i64 a, .int .i64 b] w fun e w' => e = .returned (.int .i64 (intervalV zs a b)) ∧ Below w.heap.size w w' := by
  obtain ⟨_, h12, hbd⟩ := tempB_parts hT
  have hl := h.len
  obtain rfl : n = 12 := by omega
  obtain ⟨ma, la, ea, fa⟩ := note_mod ha
  obtain ⟨mb, lb, eb, fb⟩ := note_mod hb
  obtain ⟨g, off, za, rfl, _, hza, hca⟩ := (h.alloc (.cells #[.string s, .slice A 12 c] 26)).at_ la
  obtain ⟨g', off', zb, he, _, hzb, hcb⟩ := (h.alloc (.cells #[.string s, .slice (some ⟨g, off, none⟩) 12 c] 26)).at_ lb
  simp only [Option.some.injEq, Addr.mk.injEq, and_true] at he
  obtain ⟨rfl, rfl⟩ := he
  have ba := hbd ma za hza
  have bb := hbd mb zb hzb
  have na := inB_iff.1 ha
  have nb := inB_iff.1 hb
  have HV : Hid (1000 * (b - a) + zb - za = intervalV zs a b) := by
    show _ = _
    unfold intervalV
    rw [fa, fb, List.getD_eq_getElem?_getD, List.getD_eq_getElem?_getD, hza, hzb]
    rfl
  have i1 : (ma : Int) < 12 := by omega
  have i2 : (mb : Int) < 12 := by omega
  have z1 : (0 : Int) ≤ (ma : Int) := by omega
  have z2 : (0 : Int) ≤ (mb : Int) := by omega
  have w1 : IntKind.i64.wrap (b - a) = b - a := IntWalk.i64_in _ (by omega)
  have w2 : IntKind.i64.wrap (1000 * (b - a)) = 1000 * (b - a) := IntWalk.i64_in _ (by omega)
  have w3 : IntKind.i64.wrap (1000 * (b - a) + zb) = 1000 * (b - a) + zb := IntWalk.i64_in _ (by omega)
  have w4 : IntKind.i64.wrap (1000 * (b - a) + zb - za) = 1000 * (b - a) + zb - za := IntWalk.i64_in _ (by omega)
  clear hza hzb hbd h hT fa fb
  go_enter Tryd.func17, Tryd.ntmps17
  go_wp2
  go_quiet (fail)
  go_wp2
  go_ret
  exact ⟨ret_int HV.out, below_drewN ((Below.refl _ _).alloc (Nat.le_refl _) _) _⟩
end Go.Proofs.YtlcppfoedijccaaDoor
