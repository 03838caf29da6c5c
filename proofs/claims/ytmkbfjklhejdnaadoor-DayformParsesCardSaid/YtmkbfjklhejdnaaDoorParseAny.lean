/-
  dayform.Parse AT ANY TEXT: what 'dp' says.
-/
import Derived.Test.YtmkbfjklhejdnaaDoorFoldAny
import Derived.Lib.IndexMore
namespace Go.Proofs.YtmkbfjklhejdnaaDoor
open Go Go.RowKit
theorem sg_cases (l : List UInt8) : (∃ (A : Nat) (kd : Int), sg l = ((A : Int), kd) ∧ (kd = 2 ∨ kd = 3) ∧ A + 2 ≤ l.length) ∨ sg l = (-1, 0) := by
  have r2 := Lib.index_room l [62, 61]
  have r3 := Lib.index_room l [60, 61]
  have g2 := Lib.index_ge l [62, 61]
  have g3 := Lib.index_ge l [60, 61]
  unfold sg
  generalize Lib.index l [62, 61] = i2 at *
  generalize Lib.index l [60, 61] = i3 at *
  simp only [List.length_cons, List.length_nil] at r2 r3
  unfold sgI
  by_cases h2 : 0 ≤ i2
  · rw [if_pos h2]
    by_cases h3 : 0 ≤ i3 ∧ i3 < i2
    · rw [if_pos h3]
      have := r3 h3.1
      exact Or.inl ⟨i3.toNat, 3, by rw [Int.toNat_of_nonneg h3.1], Or.inr rfl, by omega⟩
    · rw [if_neg h3]
      have := r2 h2
      exact Or.inl ⟨i2.toNat, 2, by rw [Int.toNat_of_nonneg h2], Or.inl rfl, by omega⟩
  · rw [if_neg h2]
    by_cases h3 : 0 ≤ i3
    · rw [if_pos h3]
      have := r3 h3
      exact Or.inl ⟨i3.toNat, 3, by rw [Int.toNat_of_nonneg h3], Or.inr rfl, by omega⟩
    · rw [if_neg h3]
      exact Or.inr rfl
theorem dp_sign {l : List UInt8} {A : Nat} {kd : Int} (h : sg l = ((A : Int), kd)) : dp l = dpS kd (wkE ((l.take A).map low)) (numE (l.drop (A + 2))) := by
  unfold dp
  rw [h]
  simp
theorem dp_last {l : List UInt8} (h : sg l = (-1, 0)) (hb : lastB l) : dp l = dpL (wkE ((l.drop 4).map low)) := by
  unfold dp
  rw [h]
  simp [hb]
theorem dp_num {l : List UInt8} (h : sg l = (-1, 0)) (hb : ¬ lastB l) : dp l = dpN (numE l) := by
  unfold dp
  rw [h]
  simp [hb]
theorem parse_any (l : List UInt8) (w : World) (hl : l.length ≤ 1000) (hP : PReads w) (hF : Fold w) :
    Calls Tryd.prog 10 #[.string ⟨l.toArray⟩] w fun e' w' => e' = .returned (dpV (dp l)) ∧ Below w.heap.size w w' := by
  have hF' : ∀ w', Below w.heap.size w w' → Fold w' := fun w' hb => hF.below hb
  rcases sg_cases l with ⟨A, kd, hs, hk, hA⟩ | hs
  · have hW := wis_any (l.take A) (by rw [List.length_take]; omega)
    have hN := nis_any (l.drop (A + 2)) (by rw [List.length_drop]; omega)
    rw [dp_sign hs]
    generalize wkE ((l.take A).map low) = p at *
    generalize numE (l.drop (A + 2)) = q at *
    obtain ⟨i, f⟩ := p
    obtain ⟨u, f2⟩ := q
    unfold dpS
    by_cases h1 : f = 0
    · subst h1
      rw [if_pos rfl]
      by_cases h2 : f2 = 0
      · subst h2
        rw [if_pos rfl]
        exact ps_ok l A i u kd w hl hP hs hk hA hW hN
      · rw [if_neg h2]
        exact ps_num l A i u f2 kd w hl hP hs hk hA hW hN (bne_iff_ne.2 h2)
    · rw [if_neg h1]
      exact ps_week l A i f kd w hl hP hs hk hA hW (bne_iff_ne.2 h1)
  · by_cases h4 : 4 ≤ l.length
    · have hE := eqb_any l h4
      by_cases hb : lastB l
      · rw [decide_eq_true hb] at hE
        rw [dp_last hs hb]
        have hW := wis_any (l.drop 4) (by rw [List.length_drop]; omega)
        generalize wkE ((l.drop 4).map low) = p at *
        obtain ⟨i, f⟩ := p
        unfold dpL
        by_cases h1 : f = 0
        · subst h1
          rw [if_pos rfl]
          exact ps_lasto l i 0 Fold w hl hP hF' hs h4 hE hW rfl
        · rw [if_neg h1]
          exact ps_laste l i f Fold w hl hP hF' hs h4 hE hW (bne_iff_ne.2 h1)
      · rw [decide_eq_false hb] at hE
        rw [dp_num hs hb]
        have hN := nis_any l hl
        generalize numE l = q at *
        obtain ⟨u, f⟩ := q
        unfold dpN
        by_cases h1 : f = 0
        · subst h1
          rw [if_pos rfl]
          exact ps_nlo l u 0 Fold w hl hP hF' hs h4 hE hN rfl
        · rw [if_neg h1]
          exact ps_nle l u f Fold w hl hP hF' hs h4 hE hN (bne_iff_ne.2 h1)
    · have hb : ¬ lastB l := fun h => h4 h.1
      rw [dp_num hs hb]
      have hN := nis_any l hl
      generalize numE l = q at *
      obtain ⟨u, f⟩ := q
      unfold dpN
      by_cases h1 : f = 0
      · subst h1
        rw [if_pos rfl]
        exact ps_nso l u 0 Fold w hl hP hF' hs (by omega) hN rfl
      · rw [if_neg h1]
        exact ps_nse l u f Fold w hl hP hF' hs (by omega) hN (bne_iff_ne.2 h1)
end Go.Proofs.YtmkbfjklhejdnaaDoor
