/- The names of the notes are pairwise different. -/
import Derived.Test.YtlcppfoedijccaaDoorNoteNm
import Derived.Test.YtlcppfoedijccaaDoorFrom
namespace Go.Proofs.YtlcppfoedijccaaDoor
open Go.ChangeShapes Go.WideShapes Go.ChangeAt Go.RowKit
set_option maxRecDepth 100000

def noteB (n : Nat) : List UInt8 := (noteNm (n % 12)).data.toList ++ (if n < 12 then [45, 49] else [UInt8.ofNat (48 + (n / 12 - 1))])
theorem dec_one {u : Nat} (h : u < 10) : Lib.decDigits u = [UInt8.ofNat (48 + u)] := by rw [Lib.decDigits, dif_pos h]
theorem noteT_list (n : Nat) (h : n < 128) : (noteT (n : Int)).data.toList = noteB n := by
  have hq : ((n : Int)).tdiv 12 = (n : Int) / 12 := Int.tdiv_eq_ediv_of_nonneg (by omega)
  have hm : ((n : Int) % 12).toNat = n % 12 := by omega
  unfold noteT noteB
  rw [hm, hq, ByteArray.data_append, Array.toList_append]
  congr 1
  by_cases h12 : n < 12
  · rw [if_pos h12, show (n : Int) / 12 - 1 = -1 by omega]
    show Lib.itoa (-1) = [45, 49]
    unfold Lib.itoa
    rw [if_pos (by omega)]
    show 45 :: Lib.decDigits 1 = [45, 49]
    rw [dec_one (by omega)]
    rfl
  · rw [if_neg h12]
    show Lib.itoa ((n : Int) / 12 - 1) = _
    unfold Lib.itoa
    rw [if_neg (by omega), show ((n : Int) / 12 - 1).toNat = n / 12 - 1 by omega, dec_one (by omega)]
set_option maxRecDepth 100000 in
theorem noteB_inj : ∀ a b : Fin 128, noteB a.val = noteB b.val → a = b := by decide +kernel
theorem noteT_inj {a b : Nat} (ha : a < 128) (hb : b < 128) (h : noteT (a : Int) = noteT (b : Int)) : a = b := by
  have h1 := noteB_inj ⟨a, ha⟩ ⟨b, hb⟩ (by rw [← noteT_list a ha, ← noteT_list b hb, h])
  exact congrArg Fin.val h1
theorem note_back (k : Nat) (hk : k < 128) (w : World) (ht : Tab w) : Calls Tryd.prog 7 #[.string (noteT (k : Int))] w fun e w' => e = .returned (.tuple #[.int .i64 (k : Int), .bool true]) ∧ Below w.heap.size w w' := by
  have h := noteNm_impl (noteT (k : Int)) k w ht (by omega) (fun j hj e => by have := noteT_inj (by omega) hk e; omega) (fun _ => rfl)
  unfold nnV nnB' at h
  rw [if_pos hk, decide_eq_true hk] at h
  exact h
end Go.Proofs.YtlcppfoedijccaaDoor
