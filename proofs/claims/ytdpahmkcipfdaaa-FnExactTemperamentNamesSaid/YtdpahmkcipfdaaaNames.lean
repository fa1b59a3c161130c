/- Contracts of the names of the known temperaments, and of the law's marks on a slice of texts of its own. -/
import Derived.Test.YtdpahmkcipfdaaaNamed
import Derived.Laws.IdiomStrings
import Derived.Maps.AppendAt
namespace Go.Proofs.Ytdpahmkcipfdaaa
open Go.ChangeShapes Go.WideShapes Go.ChangeAt Go.RowKit
set_option maxRecDepth 100000

/-- The text that marks the number k, of one digit. -/
def markB (k : Nat) : ByteArray := ⟨#[109, UInt8.ofNat (48 + k)]⟩
theorem mark_cat (u : UInt8) : (⟨#[109]⟩ : ByteArray) ++ (⟨#[u]⟩ : ByteArray) = ⟨#[109, u]⟩ := bytes_ext (by simp)
theorem conv_one (w : World) (k : Nat) (hk : k ≤ 4) : (convert 95 9 (.slice (some ⟨w.heap.size, 0, none⟩) 1 1)).run Try.prog (w.alloc (.cells #[.int .u8 (48 + (k : Int))] 5)) = .ok (.string ⟨#[UInt8.ofNat (48 + k)]⟩) (w.alloc (.cells #[.int .u8 (48 + (k : Int))] 5)) := by
  have h := run_convert_bytes_back (P := Try.prog) (w.alloc (.cells #[.int .u8 (48 + (k : Int))] 5)) 95 9 5 ⟨w.heap.size, 0, none⟩ 1 [UInt8.ofNat (48 + k)] Try.underlying95 Try.underlying5 Try.underlying9 (fun j hj => by
    obtain rfl : j = 0 := by simpa using hj
    rcases (show k = 0 ∨ k = 1 ∨ k = 2 ∨ k = 3 ∨ k = 4 from by omega) with rfl | rfl | rfl | rfl | rfl <;> (show (World.alloc _ _).cell? ⟨w.heap.size, 0, none⟩ = _; go_simp; try rfl))
  exact h
set_option maxHeartbeats 4000000 in
theorem markText_any (k : Nat) (w : World) (h1 : 1 ≤ k) (h2 : k ≤ 4) : Calls Try.prog 55 #[.int .i64 k] w fun e w' => e = .returned (.string (markB k)) ∧ Below w.heap.size w w' := by
  have hm : ((k : Int)).tmod 10 = k := by rw [Int.tmod_eq_emod_of_nonneg (by omega)]; omega
  have hq : ((k : Int)).tdiv 10 = 0 := by rw [Int.tdiv_eq_ediv_of_nonneg (by omega)]; omega
  have hu : IntKind.u8.wrap (48 + (k : Int)) = 48 + k := by
    rcases (show k = 1 ∨ k = 2 ∨ k = 3 ∨ k = 4 from by omega) with rfl | rfl | rfl | rfl <;> rfl
  have hk0 : ¬ (k : Int) ≤ 0 := by omega
  have hk1 : (0 : Int) < (k : Int) := by omega
  have hconv := fun w0 => conv_one w0 k h2
  have HM : Hid (markB k = ⟨#[109, UInt8.ofNat (48 + k)]⟩) := rfl
  generalize UInt8.ofNat (48 + k) = u at hconv HM
  have hcat := mark_cat u
  have hcat0 : (⟨#[u]⟩ : ByteArray) ++ (⟨#[]⟩ : ByteArray) = ⟨#[u]⟩ := bytes_ext (by simp)
  go_enter Try.func55, Try.ntmps55
  go_wp2
  go_loopw [0, 3] (fun kk out wr => Below w.heap.size w wr ∧ ((kk = .int .i64 k ∧ out = .string ⟨#[]⟩) ∨ (kk = .int .i64 0 ∧ out = .string ⟨#[u]⟩))) (fun kk _ _ => (intOf kk).toNat)
  case atStart => exact ⟨Below.refl _ _, .inl ⟨rfl, rfl⟩⟩
  case round =>
    obtain ⟨hbr, ⟨rfl, rfl⟩ | ⟨rfl, rfl⟩⟩ := hrel
    · have HBR := Lib.hid hbr
      have hle := hbr.size
      clear hbr
      go_wp2
      go_roundw
      case rel => exact ⟨HBR.out.alloc hle _, .inr ⟨rfl, by first | rfl | rw [hcat0]⟩⟩
      case measure => simp [intOf]; omega
    · clear hm hq hu hk0 hk1 hconv
      go_wp2
      go_ret
      exact ⟨by rw [HM.out]; first | rfl | rw [← hcat], hbr⟩
/-- A slice of four texts. -/
def SAt (w : World) (A : Option Addr) (f : Nat → ByteArray) : Prop := ∃ b off, A = some ⟨b, off, none⟩ ∧ b < w.heap.size ∧ ∀ j, j < 4 → w.cell? ⟨b, off + j, none⟩ = some (.string (f j))
def cells4 (f : Nat → ByteArray) : List Value := (List.range 4).map fun j => .string (f j)
theorem cells4_get (f : Nat → ByteArray) {j : Nat} (hj : j < 4) : (cells4 f)[j]? = some (.string (f j)) := by
  unfold cells4
  rw [List.getElem?_map, List.getElem?_range hj]
  rfl
theorem SAt.below {w w' : World} {A : Option Addr} {f : Nat → ByteArray} (h : SAt w A f) (hb : Below w.heap.size w w') : SAt w' A f := by
  obtain ⟨b, off, e, hlt, hc⟩ := h
  exact ⟨b, off, e, Nat.lt_of_lt_of_le hlt hb.size, fun j hj => (hb.cell (p := ⟨b, off + j, none⟩) hlt).trans (hc j hj)⟩
theorem SAt.of_own {w : World} {base : Nat} {e : TypeId} {A : Option Addr} {c : Nat} {f : Nat → ByteArray} (h : w.ownsRow base e 1 (.slice A 4 c) 4 (cells4 f)) : SAt w A f := by
  have h0 := h
  rcases h.2 with ⟨h1, _⟩ | ⟨g, cap, cur, hv, hg, hh, r⟩
  · simp only [Value.slice.injEq] at h1
    omega
  · simp only [Value.slice.injEq] at hv
    obtain ⟨rfl, _, rfl⟩ := hv
    exact ⟨g, 0, rfl, (h0.lt g rfl).2, fun j hj => by rw [Nat.zero_add, h0.cellAt j (by omega)]; exact cells4_get f hj⟩
theorem SAt.grown {w w' : World} {A : Option Addr} {f : Nat → ByteArray} {row : Option Nat} (h : SAt w A f) (hg : w.grownBy w' row) (hne : ∀ a, A = some a → row ≠ some a.block) : SAt w' A f := by
  obtain ⟨b, off, e, hlt, hc⟩ := h
  exact ⟨b, off, e, Nat.lt_of_lt_of_le hlt hg.size, fun j hj => hg.cell (hc j hj) (fun e' => hne _ e e'.symm)⟩
theorem grown_of_below {w w' : World} (h : Below w.heap.size w w') (row : Option Nat) : w.grownBy w' row := ⟨h.os, h.tape, h.output, h.size, fun i hi _ => h.block i hi⟩
theorem infoStr : (Try.prog.info? 9).map (fun i => (i.zero, i.size, i.bytes)) = some (some (.string ⟨#[]⟩), 1, 16) := by kernel_rfl

theorem cells4_upto {f : Nat → ByteArray} {xs : List Value} (hx : xs.length = 4) (h : ∀ j, j < 4 → xs[j]? = some (.string (f j))) : xs = cells4 f := by
  apply List.ext_getElem?
  intro j
  by_cases hj : j < 4
  · rw [h j hj, cells4_get f hj]
  · rw [List.getElem?_eq_none (by omega), List.getElem?_eq_none (by simp [cells4]; omega)]
def markF (j : Nat) : ByteArray := markB (1 + j)
set_option maxHeartbeats 4000000 in
theorem markStrs_any (g c base : Nat) (xs : List Value) (w : World) (ho : w.ownsRow base 9 1 (.slice (some ⟨g, 0, none⟩) 4 c) 4 xs) :
    Calls Try.prog 18 #[.slice (some ⟨g, 0, none⟩) 4 c, .int .i64 1] w fun e w' => e = .returned (.int .i64 5) ∧ w'.ownsRow base 9 1 (.slice (some ⟨g, 0, none⟩) 4 c) 4 (cells4 markF) ∧ w.grownBy w' (some g) := by
  go_enter Try.func18, Try.ntmps18
  go_wp2
  go_loopw [1, 5] (fun q i wr => ∃ (k : Nat) (ys : List Value), k ≤ 4 ∧ i = .int .i64 k ∧ q = .int .i64 (1 + k) ∧ ys.length = 4 ∧ wr.ownsRow base 9 1 (.slice (some ⟨g, 0, none⟩) 4 c) 4 ys ∧ w.grownBy wr (some g) ∧ (∀ j, j < k → ys[j]? = some (.string (markF j)))) (fun _ i _ => 4 - (intOf i).toNat)
  case atStart => exact ⟨0, _, Nat.zero_le _, rfl, by simp, by simpa using ho.1, ho, World.grownBy.refl _ _, fun j hj => by omega⟩
  case round =>
    obtain ⟨k, ys, hk, rfl, rfl, hy, hown, hgr, hall⟩ := hrel
    by_cases hlt : k < 4
    · have hltI : (k : Int) < 4 := by omega
      have hk0 : (0 : Int) ≤ (k : Int) := by omega
      have HM := Lib.hid (fun w1 => markText_any (1 + k) w1 (by omega) (by omega))
      have hcast : ((1 + k : Nat) : Int) = 1 + (k : Int) := by omega
      rw [hcast] at HM
      have HA := Lib.hid hall
      have HX := Lib.hid hy
      have HG := Lib.hid hgr
      have HO := Lib.hid hown
      clear hall hgr hown ho
      go_wp2_with fail
      refine (HM.out _).mono ?_
      rintro e w1 ⟨rfl, hb1⟩
      have o1 := row_keepT HO.out hb1
      have hd := o1.cellAt k (by omega)
      have hdv : ys[k]? = some (ys[k]'(by omega)) := List.getElem?_eq_getElem (by omega)
      rw [hdv] at hd
      have hdf := o1.frozenAt k
      have hst := Lib.hid (o1.stored k (.string (markB (1 + k))))
      have HB := Lib.hid hb1
      generalize ys[k]'(by omega) = old at hd
      clear hdv hb1 o1
      go_wp2
      go_roundw
      case rel =>
        refine ⟨k + 1, _, by omega, by go_num, by go_num, by rw [List.length_set]; exact HX.out, hst.out.1, ?_, ?_⟩
        · exact (HG.out.trans (grown_of_below HB.out _)).trans hst.out.2
        · intro j hj
          by_cases hjk : j = k
          · subst hjk
            rw [List.getElem?_set_self (by have := HX.out; omega)]
            rfl
          · rw [List.getElem?_set_ne (by omega)]
            exact HA.out j (by omega)
      case measure => simp [intOf]; omega
    · obtain rfl : k = 4 := by omega
      have H := Lib.hid (cells4_upto hy hall)
      have HO := Lib.hid hown
      clear hall hown ho hy
      go_wp2
      go_ret
      exact ⟨rfl, by rw [← H.out]; exact HO.out, hgr⟩
attribute [local go_sem ↓] Go.wp_at_zero Go.wp_at_succ
set_option maxHeartbeats 4000000 in
theorem heldStrs_any (A : Option Addr) (c : Nat) (w : World) (h : SAt w A markF) : Calls Try.prog 19 #[.slice A 4 c, .int .i64 1] w fun e w' => e = .returned (.int .i64 5) ∧ Below w.heap.size w w' := by
  obtain ⟨b, off, rfl, hb, hc⟩ := h
  go_enter Try.func19, Try.ntmps19
  go_wp2
  go_loopw [1, 5] (fun q i wr => ∃ (k : Nat), k ≤ 4 ∧ i = .int .i64 k ∧ q = .int .i64 (1 + k) ∧ Below w.heap.size w wr) (fun _ i _ => 4 - (intOf i).toNat)
  case atStart => exact ⟨0, Nat.zero_le _, rfl, by simp, Below.refl _ _⟩
  case round =>
    obtain ⟨k, hk, rfl, rfl, hbr⟩ := hrel
    by_cases hlt : k < 4
    · have hltI : (k : Int) < 4 := by omega
      have hk0 : (0 : Int) ≤ (k : Int) := by omega
      have hd := (hbr.cell (p := ⟨b, off + k, none⟩) hb).trans (hc k hlt)
      have hbz : b < wr.heap.size := Nat.lt_of_lt_of_le hb hbr.size
      have HM := Lib.hid (fun w1 => markText_any (1 + k) w1 (by omega) (by omega))
      have hcast : ((1 + k : Nat) : Int) = 1 + (k : Int) := by omega
      rw [hcast] at HM
      have hF : markF k = markB (1 + k) := rfl
      rw [hF] at hd
      have HBR := Lib.hid hbr
      have hself : ((markB (1 + k)).toList == (markB (1 + k)).toList) = true := by simp
      generalize markB (1 + k) = t at hd HM hself
      clear hbr hc hF
      go_wp2
      go_region_held3 (fun w' => w'.cell? ⟨b, off + k, none⟩ = some (.string t))
        (first
          | exact (hb3.cell (p := ⟨b, off + k, none⟩) hbz).trans hd
          | exact hd
          | go_keep)
        ((go_at_call 55; refine (HM.out _).mono ?_; rintro e w3 ⟨rfl, hb3⟩))
      all_goals
        have HB3 := Lib.hid (below_two (HBR.out.drew) hb3 (Nat.le_refl _))
        clear hb3 hd
        go_wp2
        go_roundw
        case rel => exact ⟨k + 1, by omega, by go_num, by go_num, HB3.out⟩
        case measure => simp [intOf]; omega
    · obtain rfl : k = 4 := by omega
      clear hc
      go_wp2
      go_ret
      exact ⟨rfl, hbr⟩
set_option maxHeartbeats 4000000 in
theorem eqStrs_same (A B : Option Addr) (c d : Nat) (f : Nat → ByteArray) (w : World) (ha : SAt w A f) (hb : SAt w B f) : Calls Try.prog 17 #[.slice A 4 c, .slice B 4 d] w fun e w' => e = .returned (.bool true) ∧ ∃ q, w' = w.drewN q := by
  obtain ⟨b, off, rfl, _, hc⟩ := ha
  obtain ⟨b', off', rfl, _, hc'⟩ := hb
  go_enter Try.func17, Try.ntmps17
  go_wp2
  go_loopw [5] (fun i wr => ∃ (k q : Nat), k ≤ 4 ∧ i = .int .i64 k ∧ wr = w.drewN q) (fun i _ => 4 - (intOf i).toNat)
  case atStart => exact ⟨0, 0, Nat.zero_le _, rfl, rfl⟩
  case round =>
    obtain ⟨k, q, hk, rfl, rfl⟩ := hrel
    by_cases hlt : k < 4
    · have hltI : (k : Int) < 4 := by omega
      have d0 := hc k hlt
      have d1 := hc' k hlt
      have hself : ((f k).toList == (f k).toList) = true := by simp
      generalize f k = t at d0 d1 hself
      clear hc hc'
      go_wp2
      go_quiet (fail)
      go_wp2
      go_roundw
      case rel => exact ⟨k + 1, q + nq, by omega, by go_num, by first | rfl | rw [World.drewN_drewN]⟩
      case measure => simp [intOf]; omega
    · obtain rfl : k = 4 := by omega
      clear hc hc'
      go_wp2
      go_ret
      exact ⟨rfl, q, rfl⟩
/-- The first k names. -/
def namesU (k : Nat) : List Value := (List.range k).map fun j => .string (tName j)
theorem namesU_succ (k : Nat) : namesU k ++ [.string (tName k)] = namesU (k + 1) := by
  unfold namesU
  rw [List.range_succ, List.map_append]
  rfl
set_option maxHeartbeats 4000000 in
theorem names_impl (w : World) : Calls Try.prog 16 #[] w fun e w' => ∃ g c, e = .returned (.slice (some ⟨g, 0, none⟩) 4 c) ∧ w'.ownsRow w.heap.size 9 1 (.slice (some ⟨g, 0, none⟩) 4 c) 4 (cells4 tName) ∧ Below w.heap.size w w' := by
  obtain ⟨i0, hi, hz0, hz1, hz2⟩ := info_parts infoStr
  go_enter Try.func16, Try.ntmps16
  go_wp2_with fail
  refine (temperaments_any _).mono ?_
  rintro e w1 ⟨rfl, hT, hb1, hs1⟩
  have HT := Lib.hid hT
  have HB1 := Lib.hid hb1
  clear hT hb1
  go_wp2
  go_loopw [1, 3, 6] (fun v _ i wr => ∃ j : Nat, j ≤ 4 ∧ i = .int .i64 j ∧ wr.ownsRow w1.heap.size 9 1 v j (namesU j) ∧ Below w1.heap.size w1 wr) (fun _ _ i _ => 4 - (intOf i).toNat)
  case atStart => exact ⟨0, by omega, rfl, World.ownsRow_nil _ _ _ _, Below.refl _ _⟩
  case round =>
    obtain ⟨j, hj, rfl, hown, hbr⟩ := hrel
    have hz := hbr.size
    have HBR := Lib.hid hbr
    by_cases h4 : j < 4
    · obtain ⟨c0, c1, hrow⟩ := HT.out j h4
      have d0 := (hbr.cell (p := ⟨w.heap.size + 4, j * 2, none⟩) (by simp; omega)).trans c0
      have d1 := (hbr.cell (p := ⟨w.heap.size + 4, j * 2 + 1, none⟩) (by simp; omega)).trans c1
      have hjI : (j : Int) < 4 := by omega
      have HS := Lib.hid (namesU_succ j)
      clear hbr c0 c1 hrow
      generalize tName j = t at d0 HS
      go_wp2_with (at_builtin; refine wpList_append_lies _ rfl _ _ _ rfl w1.heap.size 9 i0 _ 1 16 Try.underlying22 hi hz0 hz1 hz2 rfl (by omega) _ j _ rfl ((hown.alloc _).alloc _) ⟨wr.heap.size + 1, 0, none⟩ 1 1 [.string t] rfl rfl (World.news_of_block (cs := #[.string t]) (t := 9) (fr := (0, 0)) (by have h := heap_alloc_new (wr.alloc (.cells #[.string t, .slice (some ⟨w.heap.size + j, 0, none⟩) 12 12] 37)) (.cells #[.string t] 9); simpa using h)) (by simp [Value.oneCell']) (by omega) (by unfold maxLen; omega) (by omega) (by simp; omega) (wr.heap.size + 2) (by simp) ?_; intro gg cap w3 hown1 hgrow hat hlt')
      go_roundw
      case rel =>
        refine ⟨j + 1, by omega, by go_num, ?_, ?_⟩
        · rw [← HS.out]; exact hown1
        · exact ((HBR.out.alloc hz _).alloc (by simp; omega) _).grown hgrow (by simp; omega) (by intro g hg; exact (hown.lt g hg).1)
      case measure => simp [intOf]; omega
    · obtain rfl : j = 4 := by omega
      obtain ⟨A', cc, rfl⟩ := own_shape hown
      have hpos : ∃ g, A' = some ⟨g, 0, none⟩ := by
        rcases hown.2 with ⟨h1, _⟩ | ⟨g, cap, cur, hv, _⟩
        · simp only [Value.slice.injEq] at h1; omega
        · simp only [Value.slice.injEq] at hv; exact ⟨g, hv.1⟩
      obtain ⟨g, rfl⟩ := hpos
      have HO := Lib.hid hown
      clear hown hbr
      go_wp2
      go_ret
      exact ⟨g, cc, rfl, row_weaken HO.out (by omega), HB1.out.trans (HBR.out.mono HB1.out.size)⟩
theorem names_spec (w : World) : Calls Try.prog 15 #[] w fun e w' => ∃ A c, e = .returned (.slice A 4 c) ∧ SAt w' A tName ∧ Below w.heap.size w w' := by
  go_enter Try.func15, Try.ntmps15
  go_wp2_with fail
  refine (l03Names_any _).mono ?_
  rintro e w1 ⟨rfl, hT, hb1, hs1⟩
  have HT := Lib.hid hT
  clear hT
  go_wp2
  go_ret
  exact ⟨_, _, rfl, ⟨w.heap.size, 0, rfl, by omega, fun j hj => by rw [Nat.zero_add]; exact HT.out j hj⟩, hb1⟩
end Go.Proofs.Ytdpahmkcipfdaaa
