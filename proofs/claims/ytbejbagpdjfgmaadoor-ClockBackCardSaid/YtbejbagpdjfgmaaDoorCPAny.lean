/-
  THE WALK of clock.Parse at any text.
-/
import Derived.Test.YtbejbagpdjfgmaaDoorSpanLaw
namespace Go.Proofs.YtbejbagpdjfgmaaDoor
open Go Go.RowKit
/-- kind and rest of a text with a last byte -/
def stq (l : List UInt8) (c : UInt8) : Int × List UInt8 := stL (hasB [119] c) (hasB [115] c) (hasB [117, 103, 122] c) l c 3
/-- what Parse answers: the time, and the error -/
def psE (q : Int × List UInt8) : Int × Int × Int := if (spI q.2).2 = 0 then ((spI q.2).1, q.1, 0) else (0, 0, (spI q.2).2)
def psI (L : List UInt8) : Int × Int × Int := match L.getLast? with | none => (0, 0, 12) | some c => psE (stq L.dropLast c)
theorem psI_snoc (l : List UInt8) (c : UInt8) : psI (l ++ [c]) = psE (stq l c) := by
  unfold psI
  rw [List.getLast?_concat, List.dropLast_concat]
theorem psE_yes {q : Int × List UInt8} (h : (spI q.2).2 = 0) : psE q = ((spI q.2).1, q.1, 0) := if_pos h
theorem psE_no {q : Int × List UInt8} (h : ¬ (spI q.2).2 = 0) : psE q = (0, 0, (spI q.2).2) := if_neg h
theorem snoc_of {L : List UInt8} (h : L ≠ []) : ∃ l c, L = l ++ [c] := ⟨L.dropLast, L.getLast h, (List.dropLast_concat_getLast h).symm⟩
theorem cparse_any (L : List UInt8) (w : World) (hl : L.length ≤ 1000) (hT : Txt w) (hL : Ltr w) :
    Calls Tryd.prog 20 #[.string ⟨L.toArray⟩] w fun e w' => e = .returned (.tuple #[.agg #[.int .i64 (psI L).1, .int .i64 (psI L).2.1], .int .i64 (psI L).2.2]) ∧ Below w.heap.size w w' := by
  by_cases h : L = []
  · subst h
    exact cparse_nil w hT hL
  · obtain ⟨l, c, rfl⟩ := snoc_of h
    have hl2 : l.length ≤ 999 := by simp at hl; omega
    rw [psI_snoc]
    by_cases hz : (spI (stq l c).2).2 = 0
    · rw [psE_yes hz]
      exact cparse_ok l c (stq l c).1 (spI (stq l c).2).1 (stq l c).2 w hl2 hT hL rfl (by rw [spV_eq, hz])
    · rw [psE_no hz]
      exact cparse_err l c (stq l c).1 (spI (stq l c).2).1 (spI (stq l c).2).2 (stq l c).2 w hl2 hT hL rfl (spV_eq _) (by rw [bne, beq_eq_false_iff_ne.2 hz]; rfl)
theorem psI_letter (l : List UInt8) (c : UInt8) (h : letter c) : psI (l ++ [c]) = if (spI l).2 = 0 then ((spI l).1, kLet c, 0) else (0, 0, (spI l).2) := by
  rw [psI_snoc]
  unfold stq
  rw [stL_letter l c h]
  rfl
/-- a text that is a span ends in no letter -/
theorem psI_span {L : List UInt8} (h : (spI L).2 = 0) : psI L = ((spI L).1, 0, 0) := by
  by_cases hn : L = []
  · subst hn
    exact absurd h (by decide +kernel)
  · obtain ⟨l, c, rfl⟩ := snoc_of hn
    have hc : ¬ letter c := fun q => by rw [spI_letter l c q] at h; exact absurd h (by decide)
    rw [psI_snoc]
    unfold stq
    rw [stL_plain l c hc]
    exact psE_yes h
end Go.Proofs.YtbejbagpdjfgmaaDoor
