/-
  A LAW OF THIS REPO'S OWN: as DirtSeq, where the loop's variables lie in cells made in each round ('for x := range' with x captured).
-/
import Derived.Test.YtdneodlboggcnaaDoorDirtSeq
namespace Go.Proofs.YtdneodlboggcnaaDoor
open Go Go.RowKit

variable {F : Fence} {n : Nat} {P : Program}
theorem wpIn_rangeFunc_dirtA {α : Type} {g : Operand} {ps : Array Tmp} {assign body : Code} {Q : Exit → Act → World → Prop} {a : Act} {w : World}
    (hro : F.round = none) (h1 : 1 ≤ n) {gf : Nat} {lb : Array Value} (hg : a.eval g = .func (.func gf) #[] lb) (hFg : F.fn gf) (eg : ∀ args w, (callFunc gf args).run P w = .ok (.enter gf args) w)
    {encs : α → Array Value} {Kp : World → World → Prop} {D : Nat → Prop} {S Sp : List α → Prop} {N : Nat} {Px : List α → α → World → Prop} {w0 : World} (hseq : SeqDirt F (n - 1) P gf lb encs Kp (w.heap.size + 2) D S Sp N Px w0) (hD0 : ¬ D w.heap.size) (hD1 : ¬ D (w.heap.size + 1))
    (hKt : ∀ {A B C : World}, Kp A B → Kp B C → Kp A C) (hKb : ∀ (W : World) (l : Nat) (o o' : Obj), w.heap.size ≤ l → l < w.heap.size + 2 → W.heap[l]? = some o → o.isCells = false → o.isWalk = false → Kp W (W.putObj l o')) (hb0 : Below w0.heap.size w0 w) (hps : ∀ x, (encs x).size = ps.size)
    (I : List α → World → Prop) (Ix : Code → List α → World → Prop)     (hIB : ∀ s A B, I s A → Dirt (fun k => D k ∨ k = w.heap.size ∨ k = w.heap.size + 1) A B → I s B) (hIxB : ∀ c s A B, Ix c s A → Dirt (fun k => D k ∨ k = w.heap.size ∨ k = w.heap.size + 1) A B → Ix c s B) (h0 : I [] w)
    (Ia : List α → α → Act → World → Prop) (hIa : ∀ pre x a2 A B, Ia pre x a2 A → Dirt (fun k => k = w.heap.size ∨ k = w.heap.size + 1) A B → Ia pre x a2 B)
    (hassign : ∀ (l : Nat) (pre : List α) (x : α) (W : World) (K : Act → World → Prop), I pre W → pre.length < N → Px pre x W → w.heap.size + 2 ≤ W.heap.size → (∀ a2 Wa, KF w.heap.size W Wa → Kp W Wa → Ia pre x a2 Wa → K a2 Wa) →
      assign.wpIn (F.inRound l) (n - 1 - 1) P (Exit.then K (fun _ _ _ => False)) { tmps := (ps.zip (encs x)).foldl (fun t (p, v) => t.setIfInBounds p v) a.tmps, defers := [] } W)
    (hbody : ∀ (l : Nat) (pre : List α) (x : α) (a2 : Act) (W : World), Ia pre x a2 W → pre.length < N → body.wpIn (F.inRound l) (n - 1 - 1) P (farPost w.heap.size Kp I Ix (pre ++ [x]) W) a2 W)
    (hdone : ∀ (W : World) (xs : List α), S xs → I xs W → W.heap[w.heap.size]? = some (.deferred (some [])) → Q .normal { a with defers := { target := .collected w.heap.size, args := #[] } :: a.defers } W)
    (hstop : ∀ (W : World) (c : Code) (pre : List α), Sp pre → Ix c pre W → W.heap[w.heap.size]? = some (.deferred (some [])) → c.wpIn F n P Q { a with defers := { target := .collected w.heap.size, args := #[] } :: a.defers } W) :
    (Code.rangeFunc g ps assign body).wpIn F n P Q a w := by
  refine wpIn_rangeFunc fun fn hfn => ?_
  rw [hro]
  generalize hH : w.heap.size = H at *
  obtain ⟨R, hR⟩ : ∃ R : LoopState → Option Code → Loop, R = fun st pe => { state := st, pending := pe, fn, tmps := a.tmps, params := ps, assign, body, defers := H } := ⟨_, rfl⟩
  have psR : ∀ st pe, (R st pe).params = ps := fun st pe => by rw [hR]
  have stR : ∀ st pe, (R st pe).state = st := fun st pe => by rw [hR]
  have peR : ∀ st pe, (R st pe).pending = pe := fun st pe => by rw [hR]
  have upR : ∀ st pe st' pe', { R st pe with state := st', pending := pe' } = R st' pe' := fun st pe st' pe' => by rw [hR]
  -- the two blocks of book-keeping
  let Book (W : World) (st : LoopState) (pe : Option Code) : Prop := W.heap[H + 1]? = some (.loop (R st pe)) ∧ W.heap[H]? = some (.deferred (some []))
  have bookPut : ∀ {W : World} {st st' : LoopState} {pe pe' : Option Code}, Book W st pe → Book (W.putObj (H + 1) (.loop (R st' pe'))) st' pe' := fun h =>
    ⟨World.putObj_heap_same (Array.getElem?_eq_some_iff.1 h.1).1, (World.putObj_heap_other (by omega)).trans h.2⟩
  have bookFar : ∀ {A B : World} {st : LoopState} {pe : Option Code}, Book A st pe → Dirt D A B → Book B st pe := fun h hg' =>
    ⟨hg'.heap h.1 hD1, hg'.heap h.2 hD0⟩
  have putI : ∀ {s : List α} {A : World} {l : Nat} {o : Obj}, I s A → (l = H ∨ l = H + 1) → I s (A.putObj l o) := fun h hl => hIB _ _ _ h (Dirt.putObj _ _ _ (.inr hl))
  have putX : ∀ {c : Code} {s : List α} {A : World} {l : Nat} {o : Obj}, Ix c s A → (l = H ∨ l = H + 1) → Ix c s (A.putObj l o) := fun h hl => hIxB _ _ _ _ h (Dirt.putObj _ _ _ (.inr hl))
  have putA : ∀ {s : List α} {x : α} {a2 : Act} {A : World} {l : Nat} {o : Obj}, Ia s x a2 A → (l = H ∨ l = H + 1) → Ia s x a2 (A.putObj l o) := fun h hl => hIa _ _ _ _ _ h (Dirt.putObj _ _ _ hl)
  have allI : ∀ {s : List α} {A : World} (o : Obj), I s A → I s (A.alloc o) := fun o h => hIB _ _ _ h (Dirt.alloc _ o)
  have bookOthers : ∀ {A B : World} {st : LoopState} {pe : Option Code}, Book A st pe → KF H A B → Book B st pe := fun h hk => ⟨hk.same _ _ (by omega) h.1 rfl, hk.same _ _ (Nat.le_refl _) h.2 rfl⟩
  obtain ⟨W1, hW1⟩ : ∃ W1, (w.alloc (.deferred (some []))).alloc (.loop (R .ready none)) = W1 := ⟨_, rfl⟩
  have hB1 : Book W1 .ready none := by
    refine ⟨?_, ?_⟩
    · rw [← hW1]
      have := World.alloc_heap_new (w.alloc (.deferred (some []))) (.loop (R .ready none))
      rwa [World.size_alloc, hH] at this
    · rw [← hW1]
      have h2 := World.alloc_heap_new w (.deferred (some []))
      rw [hH] at h2
      exact (Below.heap_alloc _ _ _ (by simp [hH])).trans h2
  have hI1 : I [] W1 := by rw [← hW1]; exact allI _ (allI _ h0)
  have hs1 : W1.heap.size = H + 2 := by rw [← hW1]; simp [hH]
  have hb1 : Below w0.heap.size w0 W1 := by
    rw [← hW1]; exact hb0.trans ((((Below.refl _ w).alloc (Nat.le_refl _) _).alloc (by simp) _).mono hb0.size)
  refine ⟨H + 1, [{ target := .collected H, args := #[] }], W1, { target := .fn (.func gf) lb, args := #[.func (.yield (H + 1)) #[] #[]] }, W1, gf,
    #[.func (.yield (H + 1)) #[] #[]] ++ lb, W1, ?_, ?_, ?_, ?_, fun _ => h1, ?_⟩
  · rw [← hW1, hR, ← hH]; exact run_enterLoop_outer _ _ _ _ _
  · simp only [resolve, hg]
    simp [go_sem]
  · intro f' hf'
    simp [Target.leads] at hf'
    subst hf'
    exact hFg
  · simp [invoke, go_sem, eg]
  · refine (hseq (H + 1) (fun pre W => I pre W ∧ Book W .ready none) (fun pre W => ∃ c, Ix c pre W ∧ Book W .done (some c)) W1 hb1 hs1
      (fun s A B h hg' => ⟨hIB s A B h.1 (hg'.mono fun _ => .inl), bookFar h.2 hg'⟩) (fun s A B ⟨c, hc, hb⟩ hg' => ⟨c, hIxB c s A B hc (hg'.mono fun _ => .inl), bookFar hb hg'⟩) ?_ ⟨hI1, hB1⟩).mono ?_
    · rintro pre x W ⟨hi, hb⟩ hlen hpx
      have hy := run_yield (P := P) (args := encs x) hb.1 (by rw [psR]; exact hps x)
      rw [psR] at hy
      have e1 : (R .ready none).fn = fn := by rw [hR]
      have e2 : (R .ready none).tmps = a.tmps := by rw [hR]
      have e3 : (R .ready none).assign = assign := by rw [hR]
      have e4 : (R .ready none).body = body := by rw [hR]
      rw [e1, e2, e3, e4] at hy
      refine ⟨fn, _, assign, body, hy, roundIn_of_wpIn hfn (hassign _ pre x W _ hi hlen hpx (by have := (Array.getElem?_eq_some_iff.1 hb.1).1; omega) fun a2 Wa hka hkpa hia => ?_)⟩
      have hba : Book Wa .ready none := bookOthers hb hka
      refine ⟨_, run_beginRound hba.1 (stR _ _), ?_⟩
      have u1 : ({ R .ready none with state := .busy } : Loop) = R .busy none := by rw [hR]
      rw [u1]
      have hb2 : Book (Wa.putObj (H + 1) (.loop (R .busy none))) .busy none := bookPut hba
      have hk0 : Kp W (Wa.putObj (H + 1) (.loop (R .busy none))) := hKt hkpa (hKb _ _ _ _ (by omega) (by omega) hba.1 rfl rfl)
      have kfa : KF (H + 2) W (Wa.putObj (H + 1) (.loop (R .busy none))) := (hka.mono (by omega)).trans (KF.put _ _ _ _ (by omega))
      refine wpIn_mono (hbody _ pre x _ _ (putA hia (by omega)) hlen) ?_
      have fin : ∀ (jump : Option Code) (W3 : World), KF H (Wa.putObj (H + 1) (.loop (R .busy none))) W3 →
          (Instr.endRound (H + 1) jump).run P W3 = .ok (.bool jump.isNone) (W3.putObj (H + 1) (.loop (R (if jump.isNone then .ready else .done) jump))) ∧ Book W3 .busy none := fun jump W3 hk3 => by
        have hb3 := bookOthers hb2 hk3
        have := run_endRound (P := P) jump hb3.1
        rw [upR] at this
        exact ⟨this, hb3⟩
      rintro e a3 W3 hp
      cases e with
      | normal =>
        obtain ⟨hk3, hkp3, hi3⟩ := hp
        obtain ⟨hr, hb3⟩ := fin none W3 hk3
        exact ⟨_, _, hr, .inl ⟨rfl, ⟨putI hi3 (by omega), bookPut hb3⟩, hKt (hKt hk0 hkp3) (hKb _ _ _ _ (by omega) (by omega) hb3.1 rfl rfl)⟩⟩
      | ret =>
        obtain ⟨hk3, hi3⟩ := hp
        obtain ⟨hr, hb3⟩ := fin (some .ret) W3 hk3
        exact ⟨_, _, hr, .inr ⟨rfl, ⟨.ret, putX hi3 (by omega), bookPut hb3⟩, kfa.trans ((hk3.mono (by omega)).trans (KF.put _ _ _ _ (by omega)))⟩⟩
      | exit id =>
        obtain ⟨hk3, hi3⟩ := hp
        obtain ⟨hr, hb3⟩ := fin (some (.exit id)) W3 hk3
        exact ⟨_, _, hr, .inr ⟨rfl, ⟨.exit id, putX hi3 (by omega), bookPut hb3⟩, kfa.trans ((hk3.mono (by omega)).trans (KF.put _ _ _ _ (by omega)))⟩⟩
      | goto t =>
        obtain ⟨hk3, hi3⟩ := hp
        obtain ⟨hr, hb3⟩ := fin (some (.goto t)) W3 hk3
        exact ⟨_, _, hr, .inr ⟨rfl, ⟨.goto t, putX hi3 (by omega), bookPut hb3⟩, kfa.trans ((hk3.mono (by omega)).trans (KF.put _ _ _ _ (by omega)))⟩⟩
      | panic ch => exact hp.elim
      | outgrown => exact hp.elim
    · rintro e W2 ⟨⟨v, rfl⟩, (⟨xs, hS, hi, hb⟩ | ⟨pre, hSp, c, hi, hb⟩)⟩
      · refine ⟨none, _, by have := run_endLoop (P := P) hb.1 (by rw [stR]; simp); rw [peR] at this; exact this, hdone _ xs hS (putI hi (by omega)) ((World.putObj_heap_other (by omega)).trans hb.2)⟩
      · refine ⟨some c, _, by have := run_endLoop (P := P) hb.1 (by rw [stR]; simp); rw [peR] at this; exact this, hstop _ c pre hSp (putX hi (by omega)) ((World.putObj_heap_other (by omega)).trans hb.2)⟩
end Go.Proofs.YtdneodlboggcnaaDoor
