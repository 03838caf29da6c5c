/-
  A LAW OF THIS REPO'S OWN: a range over a function whose iterator keeps state of its own in one block (a captured variable that it writes between two rounds): the kit's contracts bar that.
-/
import Derived.RangeFuncNested
import Derived.RangeFuncBound
import Derived.RangeFuncCalls
import Derived.RangeFuncLeaves
import Derived.RangeFuncFrom
namespace Go.Proofs.YtmkbfjklhejdnaaDoor
open Go Go.RowKit

variable {F : Fence} {n : Nat} {P : Program}
/-- what an iterator with a block of its own does: between two rounds it makes blocks, and writes that block alone -/
def SeqBox {α : Type} (F : Fence) (n : Nat) (P : Program) (g : Nat) (lb : Array Value) (encs : α → Array Value) (Kp : World → World → Prop) (Bd : Nat) (S Sp : List α → Prop) (N : Nat) (Px : List α → α → Prop) (w : World) : Prop :=
  ∀ (l : Nat) (J Jx : List α → World → Prop) (W : World), Below w.heap.size w W →
    (∀ s A B, J s A → A.grownBy B (some Bd) → J s B) → (∀ s A B, Jx s A → A.grownBy B (some Bd) → Jx s B) →
    (∀ pre x W1, J pre W1 → pre.length < N → Px pre x → YieldAt F (n - 1) P l (encs x) W1 fun e W' =>
      (e = .returned (.bool true) ∧ J (pre ++ [x]) W' ∧ Kp W1 W') ∨ (e = .returned (.bool false) ∧ Jx (pre ++ [x]) W')) →
    J [] W →
    CallsIn F n P g (#[.func (.yield l) #[] #[]] ++ lb) W fun e W' => (∃ v, e = .returned v) ∧ ((∃ xs, S xs ∧ J xs W') ∨ (∃ pre, Sp pre ∧ Jx pre W'))

/-- what is neither the iterator's block nor new lies as it lay -/
theorem grown_far {A B : World} {Bd k : Nat} {o : Obj} (hg : A.grownBy B (some Bd)) (hk : A.heap[k]? = some o) (hne : k ≠ Bd) : B.heap[k]? = some o :=
  (hg.block k (Array.getElem?_eq_some_iff.1 hk).1 (fun e => hne (Option.some.inj e))).trans hk
theorem wpIn_rangeFunc_box {α : Type} {g : Operand} {ps : Array Tmp} {assign body : Code} {Q : Exit → Act → World → Prop} {a : Act} {w : World}
    (hro : F.round = none) (h1 : 1 ≤ n) {gf : Nat} {lb : Array Value} (hg : a.eval g = .func (.func gf) #[] lb) (hFg : F.fn gf) (eg : ∀ args w, (callFunc gf args).run P w = .ok (.enter gf args) w)
    {encs : α → Array Value} {Kp : World → World → Prop} {Bd : Nat} {S Sp : List α → Prop} {N : Nat} {Px : List α → α → Prop} {w0 : World} (hseq : SeqBox F (n - 1) P gf lb encs Kp Bd S Sp N Px w0) (hBd : Bd < w.heap.size)
    (hKt : ∀ {A B C : World}, Kp A B → Kp B C → Kp A C) (hKb : ∀ (W : World) (l : Nat) (o o' : Obj), w.heap.size ≤ l → W.heap[l]? = some o → o.isCells = false → o.isWalk = false → Kp W (W.putObj l o')) (hb0 : Below w0.heap.size w0 w) (hps : ∀ x, (encs x).size = ps.size)
    (I : List α → World → Prop) (Ix : Code → List α → World → Prop) (hI : OwnFrom w.heap.size I) (hIx : ∀ c, OwnFrom w.heap.size (Ix c))
    (hIB : ∀ s A B, I s A → A.grownBy B (some Bd) → I s B) (hIxB : ∀ c s A B, Ix c s A → A.grownBy B (some Bd) → Ix c s B) (h0 : I [] w) (a₁ : α → Act)
    (hassign : ∀ (l : Nat) (x : α) (W : World) (K : Act → World → Prop), K (a₁ x) W →
      assign.wpIn (F.inRound l) (n - 1 - 1) P (Exit.then K (fun _ _ _ => False)) { tmps := (ps.zip (encs x)).foldl (fun t (p, v) => t.setIfInBounds p v) a.tmps, defers := [] } W)
    (hbody : ∀ (l : Nat) (pre : List α) (x : α) (W : World), I pre W → pre.length < N → Px pre x → body.wpIn (F.inRound l) (n - 1 - 1) P (ownPostK Kp I Ix (pre ++ [x]) W) (a₁ x) W)
    (hdone : ∀ (D : Nat) (xs : List α) (W : World), w.heap.size ≤ D → S xs → I xs W → W.heap[D]? = some (.deferred (some [])) → Q .normal { a with defers := { target := .collected D, args := #[] } :: a.defers } W)
    (hstop : ∀ (D : Nat) (c : Code) (pre : List α) (W : World), w.heap.size ≤ D → Sp pre → Ix c pre W → W.heap[D]? = some (.deferred (some [])) → c.wpIn F n P Q { a with defers := { target := .collected D, args := #[] } :: a.defers } W) :
    (Code.rangeFunc g ps assign body).wpIn F n P Q a w := by
  refine wpIn_rangeFunc fun fn hfn => ?_
  rw [hro]
  generalize hH : w.heap.size = H at *
  obtain ⟨R, hR⟩ : ∃ R : LoopState → Option Code → Loop, R = fun st pe => { state := st, pending := pe, fn, tmps := a.tmps, params := ps, assign, body, defers := H } := ⟨_, rfl⟩
  have psR : ∀ st pe, (R st pe).params = ps := fun st pe => by rw [hR]
  have stR : ∀ st pe, (R st pe).state = st := fun st pe => by rw [hR]
  have peR : ∀ st pe, (R st pe).pending = pe := fun st pe => by rw [hR]
  have upR : ∀ st pe st' pe', { R st pe with state := st', pending := pe' } = R st' pe' := fun st pe st' pe' => by rw [hR]
  -- the two blocks of book-keeping
  let Book (W : World) (st : LoopState) (pe : Option Code) : Prop := W.heap[H + 1]? = some (.loop (R st pe)) ∧ W.heap[H]? = some (.deferred (some []))
  have bookPut : ∀ {W : World} {st st' : LoopState} {pe pe' : Option Code}, Book W st pe → Book (W.putObj (H + 1) (.loop (R st' pe'))) st' pe' := fun h =>
    ⟨World.putObj_heap_same (Array.getElem?_eq_some_iff.1 h.1).1, (World.putObj_heap_other (by omega)).trans h.2⟩
  have bookFar : ∀ {A B : World} {st : LoopState} {pe : Option Code}, Book A st pe → A.grownBy B (some Bd) → Book B st pe := fun h hg' =>
    ⟨grown_far hg' h.1 (by omega), grown_far hg' h.2 (by omega)⟩
  have bookOthers : ∀ {A B : World} {st : LoopState} {pe : Option Code}, Book A st pe → KeepsOthers A B → Book B st pe := fun h hk => ⟨hk.same _ _ h.1 rfl, hk.same _ _ h.2 rfl⟩
  obtain ⟨W1, hW1⟩ : ∃ W1, (w.alloc (.deferred (some []))).alloc (.loop (R .ready none)) = W1 := ⟨_, rfl⟩
  have hB1 : Book W1 .ready none := by
    refine ⟨?_, ?_⟩
    · rw [← hW1]
      have := World.alloc_heap_new (w.alloc (.deferred (some []))) (.loop (R .ready none))
      rwa [World.size_alloc, hH] at this
    · rw [← hW1]
      have h2 := World.alloc_heap_new w (.deferred (some []))
      rw [hH] at h2
      exact (Below.heap_alloc _ _ _ (by simp [hH])).trans h2
  have hI1 : I [] W1 := by rw [← hW1]; exact hI.alloc _ (hI.alloc _ h0)
  have hb1 : Below w0.heap.size w0 W1 := by
    rw [← hW1]; exact hb0.trans ((((Below.refl _ w).alloc (Nat.le_refl _) _).alloc (by simp) _).mono hb0.size)
  refine ⟨H + 1, [{ target := .collected H, args := #[] }], W1, { target := .fn (.func gf) lb, args := #[.func (.yield (H + 1)) #[] #[]] }, W1, gf,
    #[.func (.yield (H + 1)) #[] #[]] ++ lb, W1, ?_, ?_, ?_, ?_, fun _ => h1, ?_⟩
  · rw [← hW1, hR, ← hH]; exact run_enterLoop_outer _ _ _ _ _
  · simp only [resolve, hg]
    simp [go_sem]
  · intro f' hf'
    simp [Target.leads] at hf'
    subst hf'
    exact hFg
  · simp [invoke, go_sem, eg]
  · refine (hseq (H + 1) (fun pre W => I pre W ∧ Book W .ready none) (fun pre W => ∃ c, Ix c pre W ∧ Book W .done (some c)) W1 hb1
      (fun s A B h hg' => ⟨hIB s A B h.1 hg', bookFar h.2 hg'⟩) (fun s A B ⟨c, hc, hb⟩ hg' => ⟨c, hIxB c s A B hc hg', bookFar hb hg'⟩) ?_ ⟨hI1, hB1⟩).mono ?_
    · rintro pre x W ⟨hi, hb⟩ hlen hpx
      have hy := run_yield (P := P) (args := encs x) hb.1 (by rw [psR]; exact hps x)
      rw [psR] at hy
      have e1 : (R .ready none).fn = fn := by rw [hR]
      have e2 : (R .ready none).tmps = a.tmps := by rw [hR]
      have e3 : (R .ready none).assign = assign := by rw [hR]
      have e4 : (R .ready none).body = body := by rw [hR]
      rw [e1, e2, e3, e4] at hy
      refine ⟨fn, _, assign, body, hy, roundIn_of_wpIn hfn (hassign _ x W _ ?_)⟩
      refine ⟨_, run_beginRound hb.1 (stR _ _), ?_⟩
      have u1 : ({ R .ready none with state := .busy } : Loop) = R .busy none := by rw [hR]
      rw [u1]
      have hb2 : Book (W.putObj (H + 1) (.loop (R .busy none))) .busy none := bookPut hb
      have hk0 : Kp W (W.putObj (H + 1) (.loop (R .busy none))) := hKb _ _ _ _ (by omega) hb.1 rfl rfl
      refine wpIn_mono (hbody _ pre x _ (hI.putObj _ hi (by omega) hb.1 rfl) hlen hpx) ?_
      have fin : ∀ (jump : Option Code) (W3 : World), KeepsOthers (W.putObj (H + 1) (.loop (R .busy none))) W3 →
          (Instr.endRound (H + 1) jump).run P W3 = .ok (.bool jump.isNone) (W3.putObj (H + 1) (.loop (R (if jump.isNone then .ready else .done) jump))) ∧ Book W3 .busy none := fun jump W3 hk3 => by
        have hb3 := bookOthers hb2 hk3
        have := run_endRound (P := P) jump hb3.1
        rw [upR] at this
        exact ⟨this, hb3⟩
      rintro e a3 W3 hp
      cases e with
      | normal =>
        obtain ⟨hk3, hkp3, hi3⟩ := hp
        obtain ⟨hr, hb3⟩ := fin none W3 hk3
        exact ⟨_, _, hr, .inl ⟨rfl, ⟨hI.putObj _ hi3 (by omega) hb3.1 rfl, bookPut hb3⟩, hKt (hKt hk0 hkp3) (hKb _ _ _ _ (by omega) hb3.1 rfl rfl)⟩⟩
      | ret =>
        obtain ⟨hk3, hi3⟩ := hp
        obtain ⟨hr, hb3⟩ := fin (some .ret) W3 hk3
        exact ⟨_, _, hr, .inr ⟨rfl, .ret, (hIx _).putObj _ hi3 (by omega) hb3.1 rfl, bookPut hb3⟩⟩
      | exit id =>
        obtain ⟨hk3, hi3⟩ := hp
        obtain ⟨hr, hb3⟩ := fin (some (.exit id)) W3 hk3
        exact ⟨_, _, hr, .inr ⟨rfl, .exit id, (hIx _).putObj _ hi3 (by omega) hb3.1 rfl, bookPut hb3⟩⟩
      | goto t =>
        obtain ⟨hk3, hi3⟩ := hp
        obtain ⟨hr, hb3⟩ := fin (some (.goto t)) W3 hk3
        exact ⟨_, _, hr, .inr ⟨rfl, .goto t, (hIx _).putObj _ hi3 (by omega) hb3.1 rfl, bookPut hb3⟩⟩
      | panic ch => exact hp.elim
      | outgrown => exact hp.elim
    · rintro e W2 ⟨⟨v, rfl⟩, (⟨xs, hS, hi, hb⟩ | ⟨pre, hSp, c, hi, hb⟩)⟩
      · refine ⟨none, _, by have := run_endLoop (P := P) hb.1 (by rw [stR]; simp); rw [peR] at this; exact this, hdone _ xs _ (Nat.le_refl _) hS (hI.putObj _ hi (by omega) hb.1 rfl) ((World.putObj_heap_other (by omega)).trans hb.2)⟩
      · refine ⟨some c, _, by have := run_endLoop (P := P) hb.1 (by rw [stR]; simp); rw [peR] at this; exact this, hstop _ c pre _ (Nat.le_refl _) hSp ((hIx c).putObj _ hi (by omega) hb.1 rfl) ((World.putObj_heap_other (by omega)).trans hb.2)⟩
end Go.Proofs.YtmkbfjklhejdnaaDoor
