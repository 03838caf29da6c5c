/-
  THE WALK of the document's texts of dates: the same digits.
-/
import Derived.Test.YtokcbnmpdbbehaaDoorPrint
namespace Go.Proofs.YtokcbnmpdbbehaaDoor
open Go Go.RowKit CivM NumM

/-- what is still to be written of a number: its digits, so many at least -/
def dgP (n r : Nat) : List UInt8 := if n = 0 ∧ r = 0 then [] else pad n r
theorem rep_snoc : ∀ n, Lib.repeatL [48] (n + 1) = Lib.repeatL [48] n ++ [48]
  | 0 => rfl
  | n + 1 => by
    show [48] ++ Lib.repeatL [48] (n + 1) = ([48] ++ Lib.repeatL [48] n) ++ [48]
    rw [rep_snoc n, List.append_assoc]
theorem dgP_step (n r : Nat) (h : 0 < n ∨ 0 < r) : dgP n r = dgP (n / 10) (r - 1) ++ [UInt8.ofNat (48 + n % 10)] := by
  unfold dgP
  rw [if_neg (by omega)]
  unfold pad
  rw [Lib.itoa_nonneg, Lib.itoa_nonneg]
  by_cases hn : n < 10
  · rw [Lib.decDigits_one hn, show n / 10 = 0 by omega, Lib.decDigits_one (by decide), show n % 10 = n by omega]
    by_cases hr : r - 1 = 0
    · rw [hr]; simp [Lib.repeatL, hr]
    · rw [if_neg (by omega)]
      obtain ⟨t, ht⟩ : ∃ t, r - 1 = t + 1 := ⟨r - 2, by omega⟩
      simp only [List.length_singleton]
      rw [ht, rep_snoc]
      rfl
  · rw [if_neg (by omega), Lib.decDigits, dif_neg hn]
    rw [List.length_append, List.length_singleton, show r - ((Lib.decDigits (n / 10)).length + 1) = r - 1 - (Lib.decDigits (n / 10)).length by omega, List.append_assoc]
theorem cv_byte (a : Int) (w : World) (h0 : 0 ≤ a) (h1 : a < 10) :
    (convert 56 9 (.slice (some ⟨w.heap.size, 0, none⟩) 1 1)).run Tryd.prog (w.alloc (.cells #[.int .u8 (48 + a)] 5)) = .ok (.string ⟨[UInt8.ofNat (48 + a.toNat)].toArray⟩) (w.alloc (.cells #[.int .u8 (48 + a)] 5)) :=
  run_convert_bytes_back (w.alloc (.cells #[.int .u8 (48 + a)] 5)) 56 9 5 ⟨w.heap.size, 0, none⟩ 1 [UInt8.ofNat (48 + a.toNat)] Tryd.underlying56 Tryd.underlying5 Tryd.underlying9 (fun j hj => by
    obtain rfl : j = 0 := by simpa using hj
    have : (UInt8.ofNat (48 + a.toNat)).toNat = 48 + a.toNat := by simp [UInt8.toNat_ofNat']; omega
    simp only [List.getElem_cons_zero, this]
    rw [show ((48 + a.toNat : Nat) : Int) = 48 + a by omega]
    exact World.cell?_alloc_mark w _ _ _ 0)
def strSz : Value → Nat | .string b => b.size | _ => 0
theorem strSz_l (l : List UInt8) : strSz (.string ⟨l.toArray⟩) = l.length := rfl
set_option maxHeartbeats 2000000 in
theorem rdigits_any (n : Int) (k : Nat) (w : World) (h1 : 0 ≤ n) (h2 : n ≤ 1000000) (k1 : 1 ≤ k) (hk : k ≤ 10) :
    Calls Tryd.prog 34 #[.int .i64 n, .int .i64 k] w fun e w' => e = .returned (.string ⟨(pad n k).toArray⟩) ∧ Below w.heap.size w w' := by
  have HL := Lib.hid (pad_len n k h1 h2 hk)
  have H0 := Lib.hid (show pad n k = dgP n.toNat (k - 0) ++ [] by
    unfold dgP
    rw [if_neg (by omega), show (n.toNat : Int) = n by omega]
    simp)
  generalize pad n k = R at *
  go_enter Tryd.func34, Tryd.ntmps34
  go_wp2_with fail
  go_loopw [0, 5] (fun nv sv wr => ∃ (a : Int) (l : List UInt8), nv = .int .i64 a ∧ sv = .string ⟨l.toArray⟩ ∧ 0 ≤ a ∧ a ≤ n ∧ R = dgP a.toNat (k - l.length) ++ l ∧ Below w.heap.size w wr) (fun nv sv _ => (intOf nv).toNat + (k - strSz sv))
  case atStart => exact ⟨n, [], rfl, rfl, h1, by omega, H0.out, Below.refl _ _⟩
  case round =>
    obtain ⟨a, l, rfl, rfl, a0, a1, hI, hB⟩ := hrel
    have HBr := Lib.hid hB
    have HI := Lib.hid hI
    have l1 : l.length ≤ 17 := by
      have := HL.out
      rw [hI, List.length_append] at this
      omega
    clear hB hI
    have d1 : 0 ≤ a % 10 := by omega
    have d2 : a % 10 < 10 := by omega
    by_cases hn : 0 < a
    ·
      have RC := cv_byte (a % 10) wr d1 d2
      go_wp2_with fail
      go_roundw
      case rel =>
        refine ⟨a / 10, UInt8.ofNat (48 + (a % 10).toNat) :: l, rfl, by simp [ba_app], by omega, by omega, ?_, HBr.out.alloc HBr.out.size _⟩
        have := dgP_step a.toNat (k - l.length) (by omega)
        rw [HI.out, this, show (a / 10).toNat = a.toNat / 10 by omega, show (a % 10).toNat = a.toNat % 10 by omega]
        simp [show k - (l.length + 1) = k - l.length - 1 by omega]
      case measure =>
        simp only [intOf, strSz, ByteArray.size, List.size_toArray, ba_app, List.length_append, List.length_cons, List.length_nil]
        omega
    · by_cases hl : l.length < k
      ·
        have RC := cv_byte (a % 10) wr d1 d2
        go_wp2_with fail
        go_roundw
        case rel =>
          refine ⟨a / 10, UInt8.ofNat (48 + (a % 10).toNat) :: l, rfl, by simp [ba_app], by omega, by omega, ?_, HBr.out.alloc HBr.out.size _⟩
          have := dgP_step a.toNat (k - l.length) (by omega)
          rw [HI.out, this, show (a / 10).toNat = a.toNat / 10 by omega, show (a % 10).toNat = a.toNat % 10 by omega]
          simp [show k - (l.length + 1) = k - l.length - 1 by omega]
        case measure =>
          simp only [intOf, strSz, ByteArray.size, List.size_toArray, ba_app, List.length_append, List.length_cons, List.length_nil]
          omega
      · go_wp2_with fail
        go_ret
        refine ⟨?_, HBr.out⟩
        rw [HI.out]
        unfold dgP
        rw [if_pos (by omega)]
        rfl
end Go.Proofs.YtokcbnmpdbbehaaDoor
