/-
  A REGION THAT DRAWS ITS ORDER AND WHOSE CALLS MAKE MEMORY: one walk in the order of the text, in the class of worlds that are as w was below w's own heap size.
-/
import Derived.Test.YtmkbfjklhejdnaaDoorMem
import Derived.Deep.QuietTactic
import Derived.BigQuiet
namespace Go.Proofs.YtmkbfjklhejdnaaDoor
open Go Go.RowKit

/-- a world that is as w was, but for new blocks -/
def BW (w : World) : Type := { v : World // Below w.heap.size w v }
theorem bw_ne (w : World) : Nonempty (BW w) := ⟨⟨w, Below.refl _ _⟩⟩
section
variable {P : Program} {w : World}
theorem wp_region_bw {id : Nat} {Q : Exit → Act → World → Prop} {a : Act} {l : List Oper} (hm : P.follows .mixedOrders = true) (hB : Region.lexB .any l.toArray = true)
    (h : wpQuiet P l.toArray (fun w' => ∃ v : BW w, w' = v.1) (fun a' => ∀ w', (∃ v : BW w, w' = v.1) → Q .normal a' w') l a) : (Code.region id l.toArray true).wp P Q a w :=
  wp_region_quiet (C := fun w' => ∃ v : BW w, w' = v.1) hm hB ⟨⟨w.drew, (Below.refl _ _).drew⟩, rfl⟩ (by simpa using h)
theorem calls_bw {f : FuncId} {args : Array Value} {v : BW w} {x : Value} (h : Calls P f args v.1 fun e w' => e = .returned x ∧ Below v.1.heap.size v.1 w') : Calls P f args v.1 fun e w'' => e = .returned x ∧ ∃ v' : BW w, w'' = v'.1 :=
  h.mono fun _ w' ⟨he, hb⟩ => ⟨he, ⟨w', v.2.trans (hb.mono v.2.size)⟩, rfl⟩
theorem calls_bw_same {f : FuncId} {args : Array Value} {v : BW w} {x : Value} (h : Calls P f args v.1 fun e w' => e = .returned x ∧ v.1 = w') : Calls P f args v.1 fun e w'' => e = .returned x ∧ ∃ v' : BW w, w'' = v'.1 :=
  h.mono fun _ _ ⟨he, hb⟩ => ⟨he, v, hb.symm⟩
theorem bw_cell {b o : Nat} {u : Value} (h : w.cell? ⟨b, o, none⟩ = some u) (v : BW w) : v.1.cell? ⟨b, o, none⟩ = some u :=
  (v.2.cell (p := ⟨b, o, none⟩) (block_lt_of_cell h)).trans h
theorem bw_arr {B n : Nat} {t : TypeId} {f : Nat → Int} (h : Arr w B t n f) (v : BW w) : Arr v.1 B t n f := h.below v.2 h.lt
theorem quiet_load_arr {C : World → Prop} {K : Act → Prop} {o : Oper} {a : Act} (ty : TypeId) (x : Operand) (ho : o.op = .load ty x) (B : Nat) (hx : a.eval x = .pointer (some ⟨B, 0, none⟩)) {t e : TypeId} {n : Nat} {f : Nat → Int}
    (h : ∀ w', C w' → Arr w' B t n f) (hu : P.underlying ty = some (.array n e)) (hi : (P.info? ty).map (·.size) = some n) (hk : K (a.put o.dst (.agg (ints n f)))) : o.quiet P a C K :=
  ⟨_, fun w' hw' => by
    unfold Oper.quietAt execOp
    simp only [ho, hx, Instr.loadAt, Instr.sureAddr, Sem.run_bind, Sem.run_pure, Result.andThen_ok, run_loadVar_row w' B t ty (ints n f) (0, 0) _ (h w' hw') hu rfl (by rw [ints_size]; exact hi)]
    exact ⟨rfl, rfl⟩, hk⟩
end
end Go.Proofs.YtmkbfjklhejdnaaDoor
