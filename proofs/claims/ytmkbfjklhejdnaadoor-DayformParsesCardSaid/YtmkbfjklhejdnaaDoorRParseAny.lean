/-
  The document's Parse AT ANY TEXT: what 'dp' says.
-/
import Derived.Test.YtmkbfjklhejdnaaDoorRParseL
namespace Go.Proofs.YtmkbfjklhejdnaaDoor
open Go Go.RowKit
theorem occ_iff (l : List UInt8) (a : UInt8) (j : Nat) : Lib.occAt l [a, 61] j = true ↔ (j + 1 < l.length ∧ l.getD j 0 = a ∧ l.getD (j + 1) 0 = 61) := by
  unfold Lib.occAt
  by_cases h : j + 1 < l.length
  · rw [List.drop_eq_getElem_cons (by omega : j < l.length), List.drop_eq_getElem_cons h]
    have e1 : l.getD j 0 = l[j]'(by omega) := by simp [List.getD, List.getElem?_eq_getElem (show j < l.length by omega)]
    have e2 : l.getD (j + 1) 0 = l[j + 1]'h := by simp [List.getD, List.getElem?_eq_getElem h]
    rw [e1, e2]
    simp only [List.isPrefixOf, Bool.and_true, Bool.and_eq_true, beq_iff_eq, h, true_and]
    exact ⟨fun q => ⟨q.1.symm, q.2.symm⟩, fun q => ⟨q.1.symm, q.2.symm⟩⟩
  · constructor
    · intro he
      have := (List.isPrefixOf_iff_prefix.1 he).length_le
      simp at this
      omega
    · intro hh
      omega
theorem nohit_of {l : List UInt8} {j : Nat} (hj : j + 1 < l.length) (h2 : Lib.occAt l [62, 61] j = false) (h3 : Lib.occAt l [60, 61] j = false) : NoHit l j := by
  unfold NoHit
  by_cases h : l.getD (j + 1) 0 = 61
  · refine Or.inr ⟨fun e => ?_, fun e => ?_⟩
    · rw [(occ_iff l 62 j).2 ⟨hj, e, h⟩] at h2; cases h2
    · rw [(occ_iff l 60 j).2 ⟨hj, e, h⟩] at h3; cases h3
  · exact Or.inl h
theorem sg_told (l : List UInt8) : (∃ (A : Nat) (x : UInt8) (kd : Int), sg l = ((A : Int), kd) ∧ A + 2 ≤ l.length ∧ l.getD A 0 = x ∧ l.getD (A + 1) 0 = 61 ∧ ((x = 62 ∧ kd = 2) ∨ (x = 60 ∧ kd = 3)) ∧ ∀ j, j < A → NoHit l j) ∨ (sg l = (-1, 0) ∧ ∀ j, j + 1 < l.length → NoHit l j) := by
  unfold sg sgI
  rcases Lib.index_spec l [62, 61] with ⟨e2, n2⟩ | ⟨i, e2, hi, o2, n2⟩
  · rcases Lib.index_spec l [60, 61] with ⟨e3, n3⟩ | ⟨k, e3, hk, o3, n3⟩
    · right
      rw [e2, e3]
      exact ⟨by decide, fun j hj => nohit_of hj (n2 j (by omega)) (n3 j (by omega))⟩
    · left
      obtain ⟨a, b, c⟩ := (occ_iff l 60 k).1 o3
      rw [e2, e3]
      exact ⟨k, 60, 3, by rw [if_neg (by decide), if_pos (by omega)], by omega, b, c, Or.inr ⟨rfl, rfl⟩, fun j hj => nohit_of (by omega) (n2 j (by omega)) (n3 j hj)⟩
  · obtain ⟨a, b, c⟩ := (occ_iff l 62 i).1 o2
    left
    rcases Lib.index_spec l [60, 61] with ⟨e3, n3⟩ | ⟨k, e3, hk, o3, n3⟩
    · rw [e2, e3]
      exact ⟨i, 62, 2, by rw [if_pos (by omega), if_neg (by omega)], by omega, b, c, Or.inl ⟨rfl, rfl⟩, fun j hj => nohit_of (by omega) (n2 j hj) (n3 j (by omega))⟩
    · obtain ⟨a', b', c'⟩ := (occ_iff l 60 k).1 o3
      rw [e2, e3]
      by_cases hik : k < i
      · exact ⟨k, 60, 3, by rw [if_pos (by omega), if_pos (by omega)], by omega, b', c', Or.inr ⟨rfl, rfl⟩, fun j hj => nohit_of (by omega) (n2 j (by omega)) (n3 j hj)⟩
      · have hne : i ≠ k := by rintro rfl; rw [b] at b'; exact absurd b' (by decide)
        exact ⟨i, 62, 2, by rw [if_pos (by omega), if_neg (by omega)], by omega, b, c, Or.inl ⟨rfl, rfl⟩, fun j hj => nohit_of (by omega) (n2 j hj) (n3 j (by omega))⟩
theorem dpR_is (s : List UInt8) (kd : Int) (q : Int × Int) : dpR kd (rfd s weekdaysS) q.1 q.2 = dpS kd (wkE s) q := by
  unfold dpR dpS rfd wkE
  rw [fd_weekdays]
  cases fd s weekdaysL with
  | none => rfl
  | some i =>
    simp only
    rw [if_neg (by omega), if_pos trivial]
    by_cases h : q.2 = 0
    · rw [if_neg (fun h2 => h2 h), if_pos h]
    · rw [if_pos h, if_neg h]
theorem dpM_is (s : List UInt8) : dpM (rfd s weekdaysS) = dpL (wkE s) := by
  unfold dpM dpL rfd wkE
  rw [fd_weekdays]
  cases fd s weekdaysL with
  | none => rfl
  | some i =>
    simp only
    rw [if_neg (by omega), if_pos trivial]
theorem lastW_small : Small [[108, 97, 115, 116]] := small_of (by decide +kernel)
theorem rfd_lastY : rfd [108, 97, 115, 116] [[108, 97, 115, 116]] = 0 := by decide +kernel
theorem rfd_lastN {s : List UInt8} (h : s.length = 4) (hn : s ≠ [108, 97, 115, 116]) : rfd s [[108, 97, 115, 116]] = -1 := by
  have hh : hits s [[108, 97, 115, 116]] 1 = [] := hit_no lastW_small (k := 0) (by decide) (fun e => hn e.symm) (fun e => by
    have h2 := e.2.1
    rw [h] at h2
    exact absurd h2 (by decide))
  rw [rfd_end (ws := [[108, 97, 115, 116]]) (by show noSame s _ 1; unfold noSame; rw [hh]; intro x hx; cases hx)]
  show (if (hits s [[108, 97, 115, 116]] 1).length = 1 then _ else _) = _
  rw [hh]
  rfl
theorem rparse_any (l : List UInt8) (w : World) (hl : l.length ≤ 1000) :
    Calls Tryd.prog 11 #[.string ⟨l.toArray⟩] w fun e w' => e = .returned (dpV (dp l)) ∧ Below w.heap.size w w' := by
  rcases sg_told l with ⟨A, x, kd, hs, hA, hx, he, hk, hno⟩ | ⟨hs, hno⟩
  · rw [dp_sign hs, ← dpR_is]
    exact rp_sign l A x kd _ _ _ w hl hA hx he hk hno (fis_any _ (by rw [List.length_take]; omega)) (rn_any _)
  · by_cases h4 : 4 ≤ l.length
    · have hV := fls_any (l.take 4) (by rw [List.length_take]; omega)
      by_cases hb : lastB l
      · rw [dp_last hs hb, ← dpM_is]
        rw [hb.2, rfd_lastY] at hV
        exact rp_last l _ w hl h4 hno hV (fis_any _ (by rw [List.length_drop]; omega))
      · rw [dp_num hs hb]
        rw [rfd_lastN (by rw [List.length_map, List.length_take]; omega) (fun e => hb ⟨h4, e⟩)] at hV
        exact rp_long l _ _ w hl h4 hno (rn_any l) hV
    · rw [dp_num hs (fun h => h4 h.1)]
      exact rp_short l _ _ w hl (by omega) hno (rn_any l)
end Go.Proofs.YtmkbfjklhejdnaaDoor
