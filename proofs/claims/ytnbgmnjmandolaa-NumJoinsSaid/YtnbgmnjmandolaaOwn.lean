/-
  A SLICE OF INTS OF THE CALL'S OWN: append, by one law.
-/
import Derived.Test.YtnbgmnjmandolaaSlArg
import Derived.Laws.AppendOwn
import Derived.Laws.AppendOwnNone
import Derived.OwnWalk
namespace Go.Proofs.Ytnbgmnjmandolaa
open Go Go.RowKit NumM

def Own (w : World) (B : Nat) (v : Value) (n : Nat) (z : Nat → Int) : Prop := w.ownsRow B 3 1 v n ((List.range n).map fun j => Value.int .i64 (z j))
theorem Own.sl {w : World} {B : Nat} {v : Value} {n : Nat} {z : Nat → Int} (h : Own w B v n z) : ∃ ad cap, v = .slice ad n cap ∧ Sl w ad n z := by
  have h' := h
  obtain ⟨hl, h2⟩ := h'
  rcases h2 with ⟨rfl, rfl⟩ | ⟨g, cap, cur, rfl, hg, hh, hn, hm, hs, ht⟩
  · exact ⟨none, 0, rfl, .inl rfl⟩
  · refine ⟨some ⟨g, 0, none⟩, cap, rfl, .inr ⟨g, 0, rfl, ?_, fun k hk => ?_⟩⟩
    · exact Classical.byContradiction fun hge => by rw [Array.getElem?_eq_none (by omega)] at hh; cases hh
    · rw [Nat.zero_add, World.ownsRow.cellAt h k (by omega)]
      simp [hk]
theorem intInfo : (Try.prog.info? 3).map (fun i => (i.zero, i.size, i.bytes)) = some (some (.int .i64 0), 1, 8) := by kernel_rfl
def joinZ (n : Nat) (z y : Nat → Int) : Nat → Int := fun j => if j < n then z j else y (j - n)
theorem map_joinZ (n m : Nat) (z y : Nat → Int) : ((List.range n).map fun j => Value.int .i64 (z j)) ++ ((List.range m).map fun j => Value.int .i64 (y j)) = (List.range (n + m)).map fun j => Value.int .i64 (joinZ n z y j) := by
  apply List.ext_getElem?
  intro i
  rw [List.getElem?_append]
  simp only [List.length_map, List.length_range]
  by_cases h : i < n
  · have h2 : i < n + m := by omega
    simp [h, h2, joinZ]
  · by_cases h2 : i < n + m
    · have h3 : i - n < m := by omega
      simp [h, h2, h3, joinZ]
    · have h3 : ¬ i - n < m := by omega
      simp [h, h2, h3]
theorem wpList_append_ints {ops : Array Oper} {rest : List Oper} {o : Oper} {a : Act} {w : World} {Q : Exit → Act → World → Prop} (hgd : o.guard = none) (s x : Operand)
    (ho : o.op = .call { callee := .builtin .append, args := #[s, x], argTypes := #[32, 32] }) (B : Nat) (v : Value) (n : Nat) (z : Nat → Int) (hs : a.eval s = v) (hown : Own w B v n z)
    (ad : Option Addr) (m c : Nat) (y : Nat → Int) (hx : a.eval x = .slice ad m c) (hsl : Sl w ad m y) (hnil : ad = none → m = 0 ∧ c = 0) (hnm : n + m ≤ 1000000) (hB : B ≤ w.heap.size)
    (h : ∀ v' w', Own w' B v' (n + m) (joinZ n z y) → Below B w w' → wpList Try.prog ops Q rest (a.put o.dst v') w') : wpList Try.prog ops Q (o :: rest) a w := by
  obtain ⟨i0, hi, hz0, hz1, hz2⟩ := info_parts intInfo
  cases ad with
  | none =>
    obtain ⟨rfl, rfl⟩ := hnil rfl
    refine wpList_append_own_none hgd s x _ ho B 3 i0 1 Try.underlying32 hi v n _ hs hown hx (h v w ?_ (Below.refl _ _))
    have := map_joinZ n 0 z y
    unfold Own
    rw [← this]
    simp only [List.range_zero, List.map_nil, List.append_nil, Nat.add_zero]
    exact hown
  | some ad =>
    refine wpList_append_own w hgd s x _ ho B 3 i0 _ 1 8 Try.underlying32 hi hz0 hz1 hz2 rfl (by omega) v n _ hs hown ad m c ((List.range m).map fun j => Value.int .i64 (y j)) hx (by simp) ?_ ?_ (by unfold maxLen; omega) (by omega) hB ?_
    · intro j u hu
      have hj : j < m := by
        refine Classical.byContradiction fun hn => ?_
        rw [List.getElem?_eq_none (by simp; omega)] at hu
        cases hu
      rcases hsl with h0 | ⟨b, off, he, _, hc⟩
      · omega
      · injection he with he
        subst he
        rw [Go.WideShapes.add_plain, hc j hj]
        simp [hj] at hu
        rw [hu]
    · intro u hu
      simp at hu
      obtain ⟨j, _, rfl⟩ := hu
      rfl
    · intro v' w' hown' hg _
      refine h v' w' ?_ ((Below.refl B w).grown hg hB (fun k hk => (World.ownsRow.lt hown k hk).1))
      rw [map_joinZ] at hown'
      exact hown'
end Go.Proofs.Ytnbgmnjmandolaa
