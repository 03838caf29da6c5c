/-
  PLAIN LAWS: what a text's digits come to, pair by pair; of an offset's text they come to the offset.
-/
import Derived.Test.YtakpbgjmblbaiaaDoorOff
import Derived.Lib.SlTrimSet
import Derived.Lib.Strings
namespace Go.Proofs.YtakpbgjmblbaiaaDoor
open Go

def isd (b : UInt8) : Bool := decide (48 ≤ b.toNat ∧ b.toNat ≤ 57)
def dv (b : UInt8) : Int := (b.toNat : Int) - 48
/-- what the program's loop comes to -/
def pl : List UInt8 → Int → Int → Int
  | a :: b :: t, n, u => if isd a = true ∧ isd b = true ∧ u ≠ 0 then pl t (n + (10 * dv a + dv b) * u) (u / 60) else n
  | _, n, _ => n
/-- what the document's loop comes to -/
def rpl : List UInt8 → Int → Int → Option Int
  | a :: b :: t, n, u => if isd a = true ∧ isd b = true then rpl t (n + u * (10 * dv a + dv b)) (u / 60) else none
  | _, n, _ => some n
/-- an offset's text behind its sign -/
def rest (n : Int) : List UInt8 := two (n / 3600) ++ ((if 0 < n % 3600 then two (n % 3600 / 60) else []) ++ if 0 < n % 60 then two (n % 60) else [])
theorem otext_rest (c : UInt8) (n : Int) : otext [c] n = c :: rest n := by unfold otext rest; simp
theorem dv_dgt {n : Int} (h0 : 0 ≤ n) (h1 : n < 10) : dv (dgt n) = n := by unfold dv; rw [dgt_nat h0 h1]; omega
theorem isd_dgt {n : Int} (h0 : 0 ≤ n) (h1 : n < 10) : isd (dgt n) = true := by
  have := dgt_nat h0 h1
  unfold isd
  exact decide_eq_true (by omega)
theorem pl_two (k : Int) (t : List UInt8) (n u : Int) (h0 : 0 ≤ k) (h1 : k < 100) (hu : u ≠ 0) : pl (two k ++ t) n u = pl t (n + k * u) (u / 60) := by
  show pl (dgt (k / 10) :: dgt (k % 10) :: t) n u = _
  rw [pl, if_pos ⟨isd_dgt (by omega) (by omega), isd_dgt (by omega) (by omega), hu⟩, dv_dgt (by omega) (by omega), dv_dgt (by omega) (by omega)]
  rw [show 10 * (k / 10) + k % 10 = k by omega]
theorem rpl_two (k : Int) (t : List UInt8) (n u : Int) (h0 : 0 ≤ k) (h1 : k < 100) : rpl (two k ++ t) n u = rpl t (n + u * k) (u / 60) := by
  show rpl (dgt (k / 10) :: dgt (k % 10) :: t) n u = _
  rw [rpl, if_pos ⟨isd_dgt (by omega) (by omega), isd_dgt (by omega) (by omega)⟩, dv_dgt (by omega) (by omega), dv_dgt (by omega) (by omega)]
  rw [show 10 * (k / 10) + k % 10 = k by omega]
theorem pl_rest (n : Int) (h0 : 0 ≤ n) (h1 : n < 360000) : pl (rest n) 0 3600 = n := by
  unfold rest
  rw [pl_two _ _ _ _ (by omega) (by omega) (by decide), show (3600 : Int) / 60 = 60 from rfl]
  by_cases a : 0 < n % 3600
  · rw [if_pos a, pl_two _ _ _ _ (by omega) (by omega) (by decide), show (60 : Int) / 60 = 1 from rfl]
    by_cases b : 0 < n % 60
    · rw [if_pos b, ← List.append_nil (two (n % 60)), pl_two _ _ _ _ (by omega) (by omega) (by decide), pl]
      omega
      simp
    · rw [if_neg b, pl]
      omega
      simp
  · rw [if_neg a, if_neg (by omega), List.append_nil, pl]
    omega
    simp
theorem rpl_rest (n : Int) (h0 : 0 ≤ n) (h1 : n < 360000) : rpl (rest n) 0 3600 = some n := by
  unfold rest
  rw [rpl_two _ _ _ _ (by omega) (by omega), show (3600 : Int) / 60 = 60 from rfl]
  by_cases a : 0 < n % 3600
  · rw [if_pos a, rpl_two _ _ _ _ (by omega) (by omega), show (60 : Int) / 60 = 1 from rfl]
    by_cases b : 0 < n % 60
    · rw [if_pos b, ← List.append_nil (two (n % 60)), rpl_two _ _ _ _ (by omega) (by omega), rpl]
      congr 1; omega
      simp
    · rw [if_neg b, rpl]
      congr 1; omega
      simp
  · rw [if_neg a, if_neg (by omega), List.append_nil, rpl]
    congr 1; omega
    simp
theorem rest_len (n : Int) : (rest n).length = 2 ∨ (rest n).length = 4 ∨ (rest n).length = 6 := by
  unfold rest two
  split <;> split <;> simp
/-- the number that the program looks at -/
def prM (s : List UInt8) : Int := if Lib.hasPrefix s [45] = true then -pl (Lib.trimLeftS s [43, 45]) 0 3600 else pl (Lib.trimLeftS s [43, 45]) 0 3600
theorem rest_trim (c : UInt8) (hc : c = 43 ∨ c = 45) (n : Int) (h0 : 0 ≤ n) (h1 : n < 360000) : Lib.trimLeftS (c :: rest n) [43, 45] = rest n := by
  unfold Lib.trimLeftS
  rw [List.dropWhile_cons_of_pos (by rcases hc with rfl | rfl <;> decide)]
  have : rest n = dgt (n / 3600 / 10) :: (rest n).tail := rfl
  rw [this, List.dropWhile_cons_of_neg]
  have e := dgt_nat (n := n / 3600 / 10) (by omega) (by omega)
  intro h
  simp at h
  rcases h with h | h <;> rw [h] at e <;> simp at e <;> omega
theorem prM_off (off : Int) (h0 : -360000 < off) (h1 : off < 360000) : prM (offText off) = off := by
  unfold prM offText
  by_cases h : off < 0
  · rw [if_pos h, otext_rest, rest_trim 45 (.inr rfl) _ (by omega) (by omega), if_pos (by simp [Lib.hasPrefix]), pl_rest _ (by omega) (by omega)]
    omega
  · rw [if_neg h, otext_rest, rest_trim 43 (.inl rfl) _ (by omega) (by omega), if_neg (by simp [Lib.hasPrefix]), pl_rest _ (by omega) (by omega)]
theorem pl_short {l : List UInt8} (h : l.length ≤ 1) (n u : Int) : pl l n u = n := by
  match l, h with
  | [], _ => rw [pl]; simp
  | [_], _ => rw [pl]; simp
theorem pl_step {l : List UInt8} {i : Nat} {a b : UInt8} (ha : l[i]? = some a) (hb : l[i + 1]? = some b) (n u : Int) :
    pl (l.drop i) n u = if isd a = true ∧ isd b = true ∧ u ≠ 0 then pl (l.drop (i + 2)) (n + (10 * dv a + dv b) * u) (u / 60) else n := by
  have h1 := (List.getElem?_eq_some_iff.1 ha)
  have h2 := (List.getElem?_eq_some_iff.1 hb)
  obtain ⟨h1, e1⟩ := h1
  obtain ⟨h2, e2⟩ := h2
  rw [List.drop_eq_getElem_cons h1, List.drop_eq_getElem_cons h2, e1, e2, pl]
theorem rpl_short {l : List UInt8} (h : l.length ≤ 1) (n u : Int) : rpl l n u = some n := by
  match l, h with
  | [], _ => rw [rpl]; simp
  | [_], _ => rw [rpl]; simp
theorem rpl_step {l : List UInt8} {i : Nat} {a b : UInt8} (ha : l[i]? = some a) (hb : l[i + 1]? = some b) (n u : Int) :
    rpl (l.drop i) n u = if isd a = true ∧ isd b = true then rpl (l.drop (i + 2)) (n + u * (10 * dv a + dv b)) (u / 60) else none := by
  have h1 := (List.getElem?_eq_some_iff.1 ha)
  have h2 := (List.getElem?_eq_some_iff.1 hb)
  obtain ⟨h1, e1⟩ := h1
  obtain ⟨h2, e2⟩ := h2
  rw [List.drop_eq_getElem_cons h1, List.drop_eq_getElem_cons h2, e1, e2, rpl]
end Go.Proofs.YtakpbgjmblbaiaaDoor
