/- Contract of the program's reader of a decimal number: the library's ParseInt, whose two errors' variables the row lists. -/
import Derived.Test.YtkbfmjnekeipcaaGreatDoorNumP
import Derived.Stop.LaidErr
namespace Go.Proofs.YtkbfmjnekeipcaaGreatDoor
open Go.ChangeShapes Go.WideShapes Go.ChangeAt Go.RowKit
set_option maxRecDepth 100000

/-! ### The errors' variables, from the row's condition -/
def ErrVar (nm : String) (w : World) : Prop := ∃ tp p, w.var? Tryz.prog nm = some #[.iface tp p]
theorem ErrVar.below {nm : String} {g : Nat} (hg : Tryz.prog.globalNamed nm = some g) {w w' : World} (h : ErrVar nm w) (hb : Below w.heap.size w w') : ErrVar nm w' := by
  obtain ⟨tp, p, h⟩ := h
  refine ⟨tp, p, ?_⟩
  unfold World.var? at h ⊢
  rw [hg] at h ⊢
  simp only [Option.bind_some] at h ⊢
  have hlt : g < w.heap.size := by
    rcases Nat.lt_or_ge g w.heap.size with h' | h'
    · exact h'
    · rw [Array.getElem?_eq_none h'] at h; cases h
  rw [hb.block _ hlt]
  exact h
theorem gES : Tryz.prog.globalNamed "strconv.ErrSyntax" = some 1 := by kernel_rfl
theorem gER : Tryz.prog.globalNamed "strconv.ErrRange" = some 2 := by kernel_rfl
/-- The table and both errors stand in this world. -/
structure Errs (w : World) : Prop where
  tab : Tab w
  syn : ErrVar "strconv.ErrSyntax" w
  rng : ErrVar "strconv.ErrRange" w
theorem Errs.below {w w' : World} (h : Errs w) (hb : Below w.heap.size w w') : Errs w' := ⟨h.tab.below hb, h.syn.below gES hb, h.rng.below gER hb⟩
theorem Errs.alloc {w : World} (h : Errs w) (o : Obj) : Errs (w.alloc o) := h.below ((Below.refl _ _).alloc (Nat.le_refl _) o)

/-! ### The library's reading, in plain words -/
theorem valA_ge : ∀ (l : List UInt8) (a : Nat), a ≤ l.foldl (fun a b => 10 * a + (b.toNat - 48)) a := by
  intro l
  induction l with
  | nil => intro a; exact Nat.le_refl _
  | cons c r ih =>
    intro a
    have := ih (10 * a + (c.toNat - 48))
    rw [List.foldl_cons]
    omega
theorem parseM_digits (M : Nat) (hM : 1000000000000000000 ≤ M) : ∀ (l : List UInt8) (a : Nat), (∀ b ∈ l, digB b) → l.foldl (fun a b => 10 * a + (b.toNat - 48)) a < 1000000000000000000 →
    Lib.parseUintM M a l = .ok (l.foldl (fun a b => 10 * a + (b.toNat - 48)) a) := by
  intro l
  induction l with
  | nil => intro a _ _; rfl
  | cons c r ih =>
    intro a hd hv
    rw [List.foldl_cons] at hv ⊢
    have h1 : 48 ≤ c.toNat ∧ c.toNat ≤ 57 := hd c List.mem_cons_self
    have h2 := valA_ge r (10 * a + (c.toNat - 48))
    unfold Lib.parseUintM
    rw [if_pos h1, if_neg (by omega), if_neg (by omega), Nat.mul_comm a 10]
    exact ih _ (fun b hb => hd b (List.mem_cons_of_mem _ hb)) hv
theorem parse_itoa {n : Int} (h1 : -1000000000000000000 < n) (h2 : n < 1000000000000000000) : Lib.parseIntB 64 (Lib.itoa n) = .ok n := by
  have hM : (1000000000000000000 : Nat) ≤ 2 ^ 64 - 1 := by decide
  have h63 : (2 : Nat) ^ (64 - 1) = 9223372036854775808 := rfl
  have hu : ∀ u : Nat, u < 1000000000000000000 → Lib.parseUintB 64 (Lib.decDigits u) = .ok u := by
    intro u hu
    unfold Lib.parseUintB
    rw [if_neg (dd_ne u), parseM_digits _ hM _ 0 (dd_dig u) (by have := dd_val u; unfold valL at this; rw [this]; exact hu)]
    have := dd_val u
    unfold valL at this
    rw [this]
  by_cases hn : n < 0
  · have hi : Lib.itoa n = 45 :: Lib.decDigits n.natAbs := by unfold Lib.itoa; rw [if_pos hn]
    rw [hi]
    unfold Lib.parseIntB
    have e1 : (45 : UInt8).toNat = 45 := rfl
    simp only [e1]
    rw [if_pos (Or.inr trivial), hu _ (by omega)]
    simp only [not_true_eq_false, false_and, if_false, true_and, if_true]
    rw [if_neg (by omega)]
    congr 1
    omega
  · have hi : Lib.itoa n = Lib.decDigits n.toNat := by unfold Lib.itoa; rw [if_neg hn]
    rw [hi]
    cases hc : Lib.decDigits n.toNat with
    | nil => exact absurd hc (dd_ne _)
    | cons c r =>
      have hd := dd_dig n.toNat c (by rw [hc]; exact List.mem_cons_self)
      obtain ⟨d1, d2⟩ := hd
      unfold Lib.parseIntB
      have hne : ¬ (c.toNat = 43) := by omega
      have hne2 : ¬ (c.toNat = 45) := by omega
      simp only [hne, hne2, or_self, if_false]
      rw [← hc, hu _ (by omega)]
      simp only [not_false_eq_true, true_and, false_and, if_false]
      rw [if_neg (by omega)]
      congr 1
      omega
theorem parse_bd {l : List UInt8} {v : Int} (h : Lib.parseIntB 64 l = .ok v) : -9223372036854775808 ≤ v ∧ v ≤ 9223372036854775807 := by
  have h63 : (2 : Nat) ^ (64 - 1) = 9223372036854775808 := rfl
  cases l with
  | nil => unfold Lib.parseIntB at h; cases h
  | cons c r =>
    unfold Lib.parseIntB at h
    simp only at h
    split at h
    · cases h
    · cases h
    · rename_i u hu
      by_cases hc : c.toNat = 45
      · simp only [hc, not_true_eq_false, false_and, if_false, true_and, if_true] at h
        split at h
        · cases h
        · cases h; omega
      · simp only [hc, not_false_eq_true, true_and, false_and, if_false] at h
        split at h
        · cases h
        · cases h; omega
theorem numB_parse {s : ByteArray} (h : numB s = true) : Lib.parseIntB 64 s.data.toList = .ok (numV s) := by
  obtain ⟨h1, h2, h3⟩ := num_sound h
  have := parse_itoa h2 h3
  have hL : s.data.toList = Lib.itoa (numV s) := by
    conv => lhs; rw [← h1]
    rfl
  rw [hL]
  exact this
theorem trim_len (s : ByteArray) : (Lib.trimPrefix s.data.toList [45]).length = s.size - numAt s := by
  unfold Lib.trimPrefix Lib.hasPrefix numAt bt
  rw [← size_len]
  cases s.data.toList with
  | nil => rfl
  | cons c r =>
    show (if ((45 : UInt8) == c && true) = true then _ else _ : List UInt8).length = (c :: r).length - if c.toNat = 45 then 1 else 0
    by_cases hc : c = 45
    · subst hc
      rfl
    · have h1 : ((45 : UInt8) == c) = false := by rw [beq_eq_false_iff_ne]; exact fun e => hc e.symm
      have h2 : ¬ c.toNat = 45 := fun e => hc (UInt8.toNat_inj.1 e)
      rw [h1, if_neg h2]
      rfl
theorem dec_bound {s : ByteArray} {v : Int} (h : decS v = s) (hs : s.size ≤ numAt s + 18) : -1000000000000000000 < v ∧ v < 1000000000000000000 := by
  have hL : s.data.toList = Lib.itoa v := by rw [← h]; rfl
  have hsz : s.size = (Lib.itoa v).length := by rw [← size_len, hL]
  have h18 : (10 : Nat) ^ 18 = 1000000000000000000 := rfl
  have hb : ∀ u : Nat, (Lib.decDigits u).length ≤ 18 → u < 1000000000000000000 := by
    intro u hu
    have h1 := valL_lt _ (dd_dig u)
    rw [dd_val] at h1
    have h2 : 10 ^ (Lib.decDigits u).length ≤ 10 ^ 18 := Nat.pow_le_pow_right (by omega) hu
    omega
  by_cases hn : v < 0
  · have hi : Lib.itoa v = 45 :: Lib.decDigits v.natAbs := by unfold Lib.itoa; rw [if_pos hn]
    rw [hi] at hsz hL
    rw [List.length_cons] at hsz
    have hb0 : bt s 0 = 45 := by unfold bt; rw [hL]; rfl
    have ha : numAt s = 1 := if_pos hb0
    have := hb v.natAbs (by omega)
    omega
  · have hi : Lib.itoa v = Lib.decDigits v.toNat := by unfold Lib.itoa; rw [if_neg hn]
    rw [hi] at hsz hL
    have ha : numAt s = 0 := by
      unfold numAt
      rw [if_neg]
      unfold bt
      rw [hL]
      cases hc : Lib.decDigits v.toNat with
      | nil => exact absurd hc (dd_ne _)
      | cons c r =>
        obtain ⟨d1, d2⟩ := dd_dig v.toNat c (by rw [hc]; exact List.mem_cons_self)
        show ¬ c.toNat = 45
        omega
    have := hb v.toNat (by omega)
    omega

/-! ### The walk -/
theorem rd_bad {s : ByteArray} (h : ¬ (1 ≤ s.size - numAt s ∧ s.size - numAt s ≤ 18)) : numV s = 0 ∧ numB s = false :=
  numV_no fun ⟨h1, h2, _, _⟩ => h ⟨by omega, by omega⟩
theorem rd_ne {s : ByteArray} {v : Int} (hp : Lib.parseIntB 64 s.data.toList = .ok v) (hne : decS v ≠ s) : numV s = 0 ∧ numB s = false := by
  cases h : numB s with
  | false => exact ⟨by unfold numV; rw [h]; rfl, rfl⟩
  | true =>
    have h1 := numB_parse h
    rw [hp] at h1
    cases h1
    exact absurd (num_sound h).1 hne
theorem rd_err {s : ByteArray} (hp : ∀ v, Lib.parseIntB 64 s.data.toList ≠ .ok v) : numV s = 0 ∧ numB s = false := by
  cases h : numB s with
  | false => exact ⟨by unfold numV; rw [h]; rfl, rfl⟩
  | true => exact absurd (numB_parse h) (hp _)
theorem ret_nvb {a c : Int} {b d : Bool} (h : a = c) (h' : b = d) : Ending.returned (.tuple #[.int .i64 a, .bool b]) = .returned (.tuple #[.int .i64 c, .bool d]) := by rw [h, h']
theorem trim_is (s : ByteArray) (w : World) : Calls Tryz.prog 91 #[.string s, .string ⟨#[45]⟩] w fun e w' => ∃ t : ByteArray, e = .returned (.string t) ∧ w' = w ∧ t.size = s.size - numAt s := by
  refine (Tryz.strings_TrimPrefix s ⟨#[45]⟩ w).mono ?_
  rintro e w' ⟨rfl, rfl⟩
  exact ⟨_, rfl, rfl, trim_len s⟩
theorem parse_ok (s : ByteArray) (hs : s.size ≤ 9223372036854775806) (v : Int) (h : Lib.parseIntB 64 s.data.toList = .ok v) (w : World) :
    Calls Tryz.prog 92 #[.string s, .int .i64 10, .int .i64 64] w fun e w' => e = .returned (.tuple #[.int .i64 v, .nilIface]) ∧ Below w.heap.size w w' := by
  refine (Tryz.strconv_ParseInt_10_at64_ok s hs v h w).mono ?_
  rintro e w' ⟨rfl, rfl | ⟨t, rfl⟩⟩
  · exact ⟨rfl, Below.refl _ _⟩
  · exact ⟨rfl, Lib.bytesWorld_below w _ t⟩
theorem parse_err (s : ByteArray) (hs : s.size ≤ 281474976710656) (h : ∀ v, Lib.parseIntB 64 s.data.toList ≠ .ok v) (w : World) (he : Errs w) :
    Calls Tryz.prog 92 #[.string s, .int .i64 10, .int .i64 64] w fun e w' => ∃ n t p, e = .returned (.tuple #[.int .i64 n, .iface t p]) ∧ Below w.heap.size w w' := by
  cases hp : Lib.parseIntB 64 s.data.toList with
  | ok v => exact absurd hp (h v)
  | range =>
    obtain ⟨tp, p, hv⟩ := he.rng
    refine (Tryz.strconv_ParseInt_10_at64_range_var s hs hp tp p w hv).mono ?_
    rintro e w' ⟨N, rfl, _, _, hb⟩
    exact ⟨_, _, _, rfl, hb⟩
  | _ =>
    obtain ⟨tp, p, hv⟩ := he.syn
    refine (Tryz.strconv_ParseInt_10_at64_syntax_var s hs hp tp p w hv).mono ?_
    rintro e w' ⟨N, rfl, _, _, hb⟩
    exact ⟨_, _, _, rfl, hb⟩
set_option maxHeartbeats 2000000 in
theorem read_impl (s : ByteArray) (w : World) (he : Errs w) : Calls Tryz.prog 68 #[.string s] w fun e w' => e = .returned (.tuple #[.int .i64 (numV s), .bool (numB s)]) ∧ Below w.heap.size w w' := by
  have HE := Lib.hid he
  have hat : numAt s ≤ 1 := by unfold numAt; split <;> omega
  clear he
  by_cases hd : 1 ≤ s.size - numAt s ∧ s.size - numAt s ≤ 18
  · obtain ⟨d1, d2⟩ := hd
    have hsz : s.size ≤ 281474976710656 := by omega
    cases hp : Lib.parseIntB 64 s.data.toList with
    | ok v =>
      obtain ⟨v1, v2⟩ := parse_bd hp
      have wv : (Lit.int .i64 v).wf = true := wf_of ⟨v1, v2⟩
      have HP := Lib.hid (fun w1 => parse_ok s (by omega) v hp w1)
      by_cases hq : decS v = s
      · have hb := dec_bound hq (by omega)
        have hc := num_complete hq hb.1 hb.2
        have HV := Lib.hid (show numV s = v ∧ numB s = true from ⟨hc.2, hc.1⟩)
        have hss : ((decS v).toList == s.toList) = true := by rw [hq]; simp
        have HD := Lib.hid (fun w1 h1 => decimal_impl v wv w1 h1)
        clear hc hb hp
        generalize decS v = t at *
        clear hq
        go_enter Tryz.func68, Tryz.ntmps68
        go_wp2_with fail
        refine (trim_is s _).mono ?_
        rintro e w' ⟨t1, rfl, rfl, hz⟩
        have hz1 : (1 : Int) ≤ (t1.size : Int) := by omega
        have hz2 : (t1.size : Int) ≤ 18 := by omega
        go_wp2_with fail
        refine (HP.out _).mono ?_
        rintro e w2 ⟨rfl, hb2⟩
        have HB2 := Lib.hid hb2
        clear hb2
        go_wp2_with fail
        refine (HD.out _ (HE.out.below HB2.out).tab).mono ?_
        rintro e w3 ⟨rfl, hb3⟩
        have HB3 := Lib.hid (below_two HB2.out hb3 (Nat.le_refl _))
        clear hb3
        go_wp2
        go_ret2
        exact ⟨ret_nvb HV.out.1.symm HV.out.2.symm, HB3.out⟩
      · have HV := Lib.hid (rd_ne hp hq)
        have hss : ((decS v).toList == s.toList) = false := str_ne hq
        have HD := Lib.hid (fun w1 h1 => decimal_impl v wv w1 h1)
        clear hp
        generalize decS v = t at *
        clear hq
        go_enter Tryz.func68, Tryz.ntmps68
        go_wp2_with fail
        refine (trim_is s _).mono ?_
        rintro e w' ⟨t1, rfl, rfl, hz⟩
        have hz1 : (1 : Int) ≤ (t1.size : Int) := by omega
        have hz2 : (t1.size : Int) ≤ 18 := by omega
        go_wp2_with fail
        refine (HP.out _).mono ?_
        rintro e w2 ⟨rfl, hb2⟩
        have HB2 := Lib.hid hb2
        clear hb2
        go_wp2_with fail
        refine (HD.out _ (HE.out.below HB2.out).tab).mono ?_
        rintro e w3 ⟨rfl, hb3⟩
        have HB3 := Lib.hid (below_two HB2.out hb3 (Nat.le_refl _))
        clear hb3
        go_wp2
        go_ret2
        exact ⟨ret_nvb HV.out.1.symm HV.out.2.symm, HB3.out⟩
    | _ =>
      have HV := Lib.hid (rd_err (s := s) (by rw [hp]; intro v h; cases h))
      have HP := Lib.hid (fun w1 h1 => parse_err s hsz (by rw [hp]; intro v h; cases h) w1 h1)
      clear hp
      go_enter Tryz.func68, Tryz.ntmps68
      go_wp2_with fail
      refine (trim_is s _).mono ?_
      rintro e w' ⟨t1, rfl, rfl, hz⟩
      have hz1 : (1 : Int) ≤ (t1.size : Int) := by omega
      have hz2 : (t1.size : Int) ≤ 18 := by omega
      go_wp2_with fail
      refine (HP.out _ HE.out).mono ?_
      rintro e w2 ⟨n, tt, pp, rfl, hb2⟩
      have HB2 := Lib.hid hb2
      clear hb2
      go_wp2
      go_ret2
      exact ⟨ret_nvb HV.out.1.symm HV.out.2.symm, HB2.out⟩
  · have HV := Lib.hid (rd_bad hd)
    rcases (show s.size - numAt s = 0 ∨ 18 < s.size - numAt s from by omega) with h0 | h0
    · go_enter Tryz.func68, Tryz.ntmps68
      go_wp2_with fail
      refine (trim_is s _).mono ?_
      rintro e w' ⟨t1, rfl, rfl, hz⟩
      have hz1 : (t1.size : Int) = 0 := by omega
      go_wp2
      go_ret2
      exact ⟨ret_nvb HV.out.1.symm HV.out.2.symm, Below.refl _ _⟩
    · go_enter Tryz.func68, Tryz.ntmps68
      go_wp2_with fail
      refine (trim_is s _).mono ?_
      rintro e w' ⟨t1, rfl, rfl, hz⟩
      have hz1 : (18 : Int) < (t1.size : Int) := by omega
      have hz2 : (1 : Int) ≤ (t1.size : Int) := by omega
      go_wp2
      go_ret2
      exact ⟨ret_nvb HV.out.1.symm HV.out.2.symm, Below.refl _ _⟩
end Go.Proofs.YtkbfmjnekeipcaaGreatDoor
