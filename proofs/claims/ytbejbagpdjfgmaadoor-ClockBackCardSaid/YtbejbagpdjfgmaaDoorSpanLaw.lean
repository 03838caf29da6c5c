/-
  PLAIN LAWS: what Span answers, by the digits of the pieces; that a letter behind ends it; and that Span of a span's text is the span.
-/
import Derived.Test.YtbejbagpdjfgmaaDoorCPErr
import Derived.Test.YtbejbagpdjfgmaaDoorText
namespace Go.Proofs.YtbejbagpdjfgmaaDoor
open Go Go.RowKit
theorem ld_iff (c : UInt8) : LD.contains c = true ↔ 48 ≤ c.toNat ∧ c.toNat ≤ 57 := by
  have : ∀ u : Fin 256, (LD.contains (UInt8.ofNat u.1) = true) ↔ 48 ≤ u.1 ∧ u.1 ≤ 57 := by decide +kernel
  have h := this ⟨c.toNat, c.toNat_lt⟩
  simpa using h
theorem dw_nil (p : UInt8 → Bool) : ∀ {l : List UInt8}, l.dropWhile p = [] ↔ ∀ x ∈ l, p x = true
  | [] => by simp
  | b :: t => by
    rw [List.dropWhile_cons]
    cases hb : p b with
    | true =>
      rw [if_pos rfl, dw_nil p (l := t)]
      constructor
      · intro h x hx
        rcases List.mem_cons.1 hx with rfl | hx
        · exact hb
        · exact h x hx
      · intro h x hx
        exact h x (by simp [hx])
    | false =>
      rw [if_neg (by simp)]
      constructor
      · intro h; cases h
      · intro h
        have := h b (by simp)
        rw [hb] at this
        cases this
theorem dw_head (p : UInt8 → Bool) : ∀ {l : List UInt8} {y : UInt8} {ys : List UInt8}, l.dropWhile p = y :: ys → p y = false
  | [], _, _, h => by simp at h
  | b :: t, y, ys, h => by
    rw [List.dropWhile_cons] at h
    cases hb : p b with
    | true =>
      rw [hb, if_pos rfl] at h
      exact dw_head p h
    | false =>
      rw [hb, if_neg (by simp)] at h
      injection h with h1 h2
      rw [← h1]
      exact hb
theorem trimS_nil {l cs : List UInt8} : Lib.trimS l cs = [] ↔ ∀ c ∈ l, cs.contains c = true := by
  unfold Lib.trimS Lib.trimLeftS Lib.trimRightS
  rw [dw_nil]
  constructor
  · intro h
    cases hr : l.reverse.dropWhile (cs.contains ·) with
    | nil =>
      rw [dw_nil] at hr
      intro c hc
      exact hr c (List.mem_reverse.2 hc)
    | cons y ys =>
      have hy := dw_head _ hr
      rw [hr] at h
      have h2 := h y (by simp)
      rw [h2] at hy
      cases hy
  · intro h c hc
    have : l.reverse.dropWhile (cs.contains ·) = [] := by
      rw [dw_nil]
      intro x hx
      exact h x (List.mem_reverse.1 hx)
    rw [this] at hc
    simp at hc
/-- digits, and not none -/
def DG (l : List UInt8) : Prop := l ≠ [] ∧ ∀ c ∈ l, 48 ≤ c.toNat ∧ c.toNat ≤ 57
instance (l : List UInt8) : Decidable (DG l) := by unfold DG; infer_instance
def dvl (l : List UInt8) : Nat := l.foldl (fun n c => n * 10 + (c.toNat - 48)) 0
theorem decFrom_dg : ∀ (l : List UInt8) (a : Nat), (∀ c ∈ l, 48 ≤ c.toNat ∧ c.toNat ≤ 57) → Lib.decFrom a l = some (l.foldl (fun n c => n * 10 + (c.toNat - 48)) a)
  | [], a, _ => rfl
  | c :: t, a, h => by
    unfold Lib.decFrom
    rw [show Lib.digitVal c = some (c.toNat - 48) by unfold Lib.digitVal; rw [if_pos (h c (by simp))]]
    exact decFrom_dg t _ (fun x hx => h x (by simp [hx]))
theorem dgN_no {l : List UInt8} (h : ¬ DG l) : dgN l = none := by
  unfold dgN
  rw [if_pos]
  by_cases h1 : l = []
  · exact .inl h1
  · refine .inr fun h2 => h ⟨h1, fun c hc => (ld_iff c).1 (trimS_nil.1 h2 c hc)⟩
theorem dgN_yes {l : List UInt8} (h : DG l) (hl : l.length ≤ 18) : dgN l = some (dvl l : Int) := by
  unfold dgN
  rw [if_neg (by
    rintro (q | q)
    · exact h.1 q
    · exact q (trimS_nil.2 fun c hc => (ld_iff c).2 (h.2 c hc)))]
  have ha : Lib.atoi l = some (dvl l : Int) := by
    cases l with
    | nil => exact absurd rfl h.1
    | cons b r =>
      have hb := h.2 b (by simp)
      show (if (b == 45) = true then _ else if (b == 43) = true then _ else _) = _
      rw [show (b == 45) = false from beq_eq_false_iff_ne.2 (fun e => by rw [e] at hb; revert hb; decide), show (b == 43) = false from beq_eq_false_iff_ne.2 (fun e => by rw [e] at hb; revert hb; decide)]
      simp only [Bool.false_eq_true, if_false]
      unfold Lib.decNat
      rw [show (b :: r).isEmpty = false from rfl, if_neg (by decide), decFrom_dg (b :: r) 0 h.2]
      rfl
  rw [Lib.atoiAll_short l hl, ha]
  rfl
/-- what the document's digits answer -/
def fw (l : List UInt8) : Int := l.foldl (fun n c => IntKind.i64.wrap (IntKind.i64.wrap (10 * n) + ((c.toNat : Int) - 48))) 0
def rdg (l : List UInt8) : Int := if DG l then fw l else -1
theorem rdg_no {l : List UInt8} (h : ¬ DG l) : rdg l = -1 := by unfold rdg; rw [if_neg h]
theorem fw_small {l : List UInt8} (h : DG l) (hl : l.length ≤ 3) : fw l = (dvl l : Int) ∧ 0 ≤ fw l ∧ fw l ≤ 999 := by
  have st : ∀ (n : Int) (c : UInt8), 0 ≤ n → n ≤ 99 → 48 ≤ c.toNat ∧ c.toNat ≤ 57 → IntKind.i64.wrap (IntKind.i64.wrap (10 * n) + ((c.toNat : Int) - 48)) = 10 * n + (c.toNat - 48) := by
    intro n c h0 h1 hc
    rw [IntWalk.i64_in (10 * n) ⟨by omega, by omega⟩]
    exact IntWalk.i64_in _ ⟨by omega, by omega⟩
  match l, h, hl with
  | [], h, _ => exact absurd rfl h.1
  | [a], h, _ =>
    have ha := h.2 a (by simp)
    have e : fw [a] = 10 * 0 + (a.toNat - 48) := st 0 a (by omega) (by omega) ha
    rw [e]
    unfold dvl
    simp only [List.foldl_cons, List.foldl_nil]
    omega
  | [a, b], h, _ =>
    have ha := h.2 a (by simp)
    have hb := h.2 b (by simp)
    have e : fw [a, b] = 10 * (10 * 0 + (a.toNat - 48)) + (b.toNat - 48) := by
      unfold fw
      simp only [List.foldl_cons, List.foldl_nil]
      rw [st 0 a (by omega) (by omega) ha, st _ b (by omega) (by omega) hb]
    rw [e]
    unfold dvl
    simp only [List.foldl_cons, List.foldl_nil]
    omega
  | [a, b, c], h, _ =>
    have ha := h.2 a (by simp)
    have hb := h.2 b (by simp)
    have hc := h.2 c (by simp)
    have e : fw [a, b, c] = 10 * (10 * (10 * 0 + (a.toNat - 48)) + (b.toNat - 48)) + (c.toNat - 48) := by
      unfold fw
      simp only [List.foldl_cons, List.foldl_nil]
      rw [st 0 a (by omega) (by omega) ha, st _ b (by omega) (by omega) hb, st _ c (by omega) (by omega) hc]
    rw [e]
    unfold dvl
    simp only [List.foldl_cons, List.foldl_nil]
    omega
  | _ :: _ :: _ :: _ :: _, _, hl => exact absurd hl (by simp)
theorem nb0_ok {p : List UInt8} (hl : p.length ≤ 3) (h : DG p) : nbV 0 p = rdg p ∧ 0 ≤ rdg p ∧ rdg p ≤ 999 := by
  obtain ⟨h1, h2, h3⟩ := fw_small h hl
  have e : rdg p = fw p := by unfold rdg; rw [if_pos h]
  rw [e]
  exact ⟨by rw [nbV_ok (dgN_yes h (by omega)) (.inl ⟨rfl, hl⟩), h1], h2, h3⟩
theorem nb0_no {p : List UInt8} (h : ¬ (p.length ≤ 3 ∧ DG p)) : nbV 0 p = -1 := by
  by_cases hd : DG p
  · cases hn : dgN p with
    | none => exact nbV_no hn
    | some n => exact nbV_bad hn (by rintro (⟨_, q⟩ | ⟨q, _⟩); exact h ⟨q, hd⟩; omega)
  · exact nbV_no (dgN_no hd)
theorem nbk_ok {k : Nat} {p : List UInt8} (hk : 0 < k) (hl : p.length = 2) (h : DG p) (h59 : rdg p ≤ 59) : nbV k p = rdg p ∧ 0 ≤ rdg p := by
  obtain ⟨h1, h2, h3⟩ := fw_small h (by omega)
  have e : rdg p = fw p := by unfold rdg; rw [if_pos h]
  rw [e] at h59 ⊢
  exact ⟨by rw [nbV_ok (dgN_yes h (by omega)) (.inr ⟨hk, hl, by omega⟩), h1], h2⟩
theorem nbk_no {k : Nat} {p : List UInt8} (hk : 0 < k) (h : ¬ (p.length = 2 ∧ DG p ∧ rdg p ≤ 59)) : nbV k p = -1 := by
  by_cases hd : DG p
  · cases hn : dgN p with
    | none => exact nbV_no hn
    | some n =>
      refine nbV_bad hn ?_
      rintro (⟨q, _⟩ | ⟨_, q, q2⟩)
      · omega
      · obtain ⟨h1, h2, h3⟩ := fw_small hd (by omega)
        have e : rdg p = fw p := by unfold rdg; rw [if_pos hd]
        have := dgN_yes hd (by omega)
        rw [hn] at this
        injection this with this
        exact h ⟨q, hd, by omega⟩
  · exact nbV_no (dgN_no hd)
/-- what Span answers: the span, and the error -/
def spI (l : List UInt8) : Int × Int := if l = [45] then (0, 0) else
  if ∀ x ∈ nbs (Lib.trimPrefix l [45]), okX x then
    if 604800 ≤ sumP (nbs (Lib.trimPrefix l [45])) then (0, 10)
    else if Lib.hasPrefix l [45] = true then (-sumP (nbs (Lib.trimPrefix l [45])), 0) else (sumP (nbs (Lib.trimPrefix l [45])), 0)
  else (0, 12)
theorem spV_eq (l : List UInt8) : spV l = .tuple #[.int .i64 (spI l).1, .int .i64 (spI l).2] := by
  unfold spV spI
  by_cases h1 : l = [45]
  · rw [if_pos h1, if_pos h1]
  · rw [if_neg h1, if_neg h1]
    by_cases h2 : ∀ x ∈ nbs (Lib.trimPrefix l [45]), okX x
    · rw [if_pos h2, if_pos h2]
      by_cases h3 : 604800 ≤ sumP (nbs (Lib.trimPrefix l [45]))
      · rw [if_pos h3, if_pos h3]
      · rw [if_neg h3, if_neg h3]
        by_cases h4 : Lib.hasPrefix l [45] = true
        · rw [if_pos h4, if_pos h4]
        · rw [if_neg h4, if_neg h4]
    · rw [if_neg h2, if_neg h2]
theorem spI_two (l : List UInt8) : (spI l).2 = 0 ∨ (spI l = (0, 10)) ∨ spI l = (0, 12) := by
  unfold spI
  split
  · exact .inl rfl
  · split
    · split
      · exact .inr (.inl rfl)
      · split <;> exact .inl rfl
    · exact .inr (.inr rfl)
/-- the letters -/
def letter (c : UInt8) : Prop := c = 119 ∨ c = 115 ∨ c = 117 ∨ c = 103 ∨ c = 122
theorem pcs_last : ∀ (l : List UInt8) (c : UInt8), c ≠ 58 → ∃ A B, pcs (l ++ [c]) = A ++ [B ++ [c]]
  | [], c, h => ⟨[], [], by show (if c = 58 then [] :: pcs [] else _) = _; rw [if_neg h]; rfl⟩
  | x :: t, c, h => by
    obtain ⟨A, B, hA⟩ := pcs_last t c h
    by_cases hx : x = 58
    · exact ⟨[] :: A, B, by show (if x = 58 then [] :: pcs (t ++ [c]) else _) = _; rw [if_pos hx, hA]; rfl⟩
    · cases A with
      | nil => exact ⟨[], x :: B, by show (if x = 58 then [] :: pcs (t ++ [c]) else match pcs (t ++ [c]) with | [] => [[x]] | p :: ps => (x :: p) :: ps) = _; rw [if_neg hx, hA]; rfl⟩
      | cons a A => exact ⟨(x :: a) :: A, B, by show (if x = 58 then [] :: pcs (t ++ [c]) else match pcs (t ++ [c]) with | [] => [[x]] | p :: ps => (x :: p) :: ps) = _; rw [if_neg hx, hA]; rfl⟩
theorem trim_last (l : List UInt8) (c : UInt8) (h : c ≠ 45) : ∃ q, Lib.trimPrefix (l ++ [c]) [45] = q ++ [c] := by
  unfold Lib.trimPrefix
  split
  · rename_i hp
    cases l with
    | nil =>
      exfalso
      have : ([45] : List UInt8).isPrefixOf [c] = true := hp
      simp at this
      exact h this.symm
    | cons x t => exact ⟨t, rfl⟩
  · exact ⟨l, rfl⟩
theorem spI_letter (l : List UInt8) (c : UInt8) (h : letter c) : (spI (l ++ [c])).2 = 12 := by
  have h45 : c ≠ 45 := by rintro rfl; revert h; unfold letter; decide
  have h58 : c ≠ 58 := by rintro rfl; revert h; unfold letter; decide
  have hd : ¬ (48 ≤ c.toNat ∧ c.toNat ≤ 57) := by rcases h with rfl | rfl | rfl | rfl | rfl <;> decide
  unfold spI
  rw [if_neg (by
    intro e
    have := congrArg List.getLast? e
    simp at this
    exact h45 this)]
  rw [if_neg]
  intro hall
  obtain ⟨q, hq⟩ := trim_last l c h45
  obtain ⟨A, B, hA⟩ := pcs_last q c h58
  rw [hq, nbs, hA, nbl_snoc] at hall
  have h1 := hall _ (List.mem_append_right _ (List.mem_singleton.2 rfl))
  rw [nbV_no (dgN_no (fun hg => hd (hg.2 c (by simp))))] at h1
  have h2 : (0 : Int) ≤ -1 := h1.1
  omega
/-- the kind that a letter behind tells -/
def kLet (c : UInt8) : Int := if c = 119 then 0 else if c = 115 then 1 else 2
theorem has_w (c : UInt8) : hasB [119] c = decide (c = 119) := by
  have : ∀ u : Fin 256, hasB [119] (UInt8.ofNat u.1) = decide (UInt8.ofNat u.1 = 119) := by decide +kernel
  have h := this ⟨c.toNat, c.toNat_lt⟩
  simpa using h
theorem has_s (c : UInt8) : hasB [115] c = decide (c = 115) := by
  have : ∀ u : Fin 256, hasB [115] (UInt8.ofNat u.1) = decide (UInt8.ofNat u.1 = 115) := by decide +kernel
  have h := this ⟨c.toNat, c.toNat_lt⟩
  simpa using h
theorem has_u (c : UInt8) : hasB [117, 103, 122] c = decide (c = 117 ∨ c = 103 ∨ c = 122) := by
  have : ∀ u : Fin 256, hasB [117, 103, 122] (UInt8.ofNat u.1) = decide (UInt8.ofNat u.1 = 117 ∨ UInt8.ofNat u.1 = 103 ∨ UInt8.ofNat u.1 = 122) := by decide +kernel
  have h := this ⟨c.toNat, c.toNat_lt⟩
  simpa using h
theorem stL_letter (l : List UInt8) (c : UInt8) (h : letter c) : stL (hasB [119] c) (hasB [115] c) (hasB [117, 103, 122] c) l c 3 = (kLet c, l) := by
  rcases h with rfl | rfl | rfl | rfl | rfl <;> rfl
theorem stL_plain (l : List UInt8) (c : UInt8) (h : ¬ letter c) : stL (hasB [119] c) (hasB [115] c) (hasB [117, 103, 122] c) l c 3 = (0, l ++ [c]) := by
  unfold letter at h
  rw [has_w, has_s, has_u, decide_eq_false (fun q => h (.inl q)), decide_eq_false (fun q => h (.inr (.inl q))), decide_eq_false (fun q => h (.inr (.inr q)))]
  rfl
/-- Span of a span's text -/
theorem pcs_app : ∀ (a b : List UInt8), (∀ c ∈ a, c ≠ 58) → pcs (a ++ 58 :: b) = a :: pcs b
  | [], b, _ => by show (if (58 : UInt8) = 58 then [] :: pcs b else _) = _; rw [if_pos rfl]
  | x :: t, b, h => by
    have ih := pcs_app t b (fun c hc => h c (by simp [hc]))
    show (if x = 58 then [] :: pcs (t ++ 58 :: b) else match pcs (t ++ 58 :: b) with | [] => [[x]] | p :: ps => (x :: p) :: ps) = _
    rw [if_neg (h x (by simp)), ih]
theorem pcs_one : ∀ (a : List UInt8), (∀ c ∈ a, c ≠ 58) → pcs a = [a]
  | [], _ => rfl
  | x :: t, h => by
    have ih := pcs_one t (fun c hc => h c (by simp [hc]))
    show (if x = 58 then [] :: pcs t else match pcs t with | [] => [[x]] | p :: ps => (x :: p) :: ps) = _
    rw [if_neg (h x (by simp)), ih]
def nm (u : Int) : List UInt8 := dec (u / 10) ++ dec (u % 10)
theorem twoT_nm (u : Int) : twoT u = 58 :: nm u := by unfold twoT nm; simp
theorem dec_facts {h : Int} (h0 : 0 ≤ h) (h1 : h < 168) : (∀ c ∈ dec h, c ≠ 58) ∧ nbV 0 (dec h) = h ∧ (dec h).head? ≠ some 45 ∧ dec h ≠ [] := by
  have : ∀ u : Fin 168, (∀ c ∈ dec (u.1 : Int), c ≠ 58) ∧ nbV 0 (dec (u.1 : Int)) = (u.1 : Int) ∧ (dec (u.1 : Int)).head? ≠ some 45 ∧ dec (u.1 : Int) ≠ [] := by decide +kernel
  have := this ⟨h.toNat, by omega⟩
  rwa [show ((h.toNat : Nat) : Int) = h by omega] at this
theorem nm_facts {h : Int} (h0 : 0 ≤ h) (h1 : h < 60) : (∀ c ∈ nm h, c ≠ 58) ∧ nbV 1 (nm h) = h ∧ nbV 2 (nm h) = h := by
  have : ∀ u : Fin 60, (∀ c ∈ nm (u.1 : Int), c ≠ 58) ∧ nbV 1 (nm (u.1 : Int)) = (u.1 : Int) ∧ nbV 2 (nm (u.1 : Int)) = (u.1 : Int) := by decide +kernel
  have := this ⟨h.toNat, by omega⟩
  rwa [show ((h.toNat : Nat) : Int) = h by omega] at this
theorem nbs_textP {m : Int} (h0 : 0 ≤ m) (h1 : m < 604800) : (∀ x ∈ nbs (textP m), okX x) ∧ sumP (nbs (textP m)) = m := by
  have d := dec_facts (h := m / 3600) (by omega) (by omega)
  have e1 := nm_facts (h := m / 60 % 60) (by omega) (by omega)
  have e2 := nm_facts (h := m % 60) (by omega) (by omega)
  by_cases hz : 0 < m % 60
  · have hp : pcs (textP m) = [dec (m / 3600), nm (m / 60 % 60), nm (m % 60)] := by
      rw [textP_more hz, twoT_nm, twoT_nm, List.append_assoc, List.cons_append, pcs_app _ _ d.1, pcs_app _ _ e1.1, pcs_one _ e2.1]
    unfold nbs
    rw [hp]
    simp only [nbl, d.2.1, e1.2.1, e2.2.2]
    refine ⟨?_, ?_⟩
    · intro x hx
      simp only [List.mem_cons, List.not_mem_nil, or_false] at hx
      rcases hx with rfl | rfl | rfl <;> exact ⟨by simp only; omega, by simp⟩
    · simp [sumP, unitOf]
      omega
  · have hp : pcs (textP m) = [dec (m / 3600), nm (m / 60 % 60)] := by
      rw [textP_plain hz, twoT_nm, pcs_app _ _ d.1, pcs_one _ e1.1]
    unfold nbs
    rw [hp]
    simp only [nbl, d.2.1, e1.2.1]
    refine ⟨?_, ?_⟩
    · intro x hx
      simp only [List.mem_cons, List.not_mem_nil, or_false] at hx
      rcases hx with rfl | rfl <;> exact ⟨by simp only; omega, by simp⟩
    · simp [sumP, unitOf]
      omega
theorem textP_head (m : Int) (h0 : 0 ≤ m) (h1 : m < 604800) : ∃ b t, textP m = b :: t ∧ b ≠ 45 ∧ t ≠ [] := by
  have d := dec_facts (h := m / 3600) (by omega) (by omega)
  unfold textP
  cases hd : dec (m / 3600) with
  | nil => exact absurd hd d.2.2.2
  | cons b t =>
    refine ⟨b, t ++ twoT (m / 60 % 60) ++ (if 0 < m % 60 then twoT (m % 60) else []), by simp, fun e => d.2.2.1 (by rw [hd, e]; rfl), ?_⟩
    rw [twoT_nm]
    simp
theorem spI_text {n : Int} (h1 : -604800 < n) (h2 : n < 604800) : spI (textOf n) = (n, 0) := by
  by_cases hn : n < 0
  · obtain ⟨b, t, hb, hne, ht⟩ := textP_head (-n) (by omega) (by omega)
    obtain ⟨k1, k2⟩ := nbs_textP (m := -n) (by omega) (by omega)
    unfold textOf
    rw [if_pos hn]
    unfold spI
    have hp : Lib.hasPrefix ([45] ++ textP (-n)) [45] = true := by unfold Lib.hasPrefix; simp
    have htp : Lib.trimPrefix ([45] ++ textP (-n)) [45] = textP (-n) := by unfold Lib.trimPrefix; rw [if_pos hp]; rfl
    rw [if_neg (by rw [hb]; simp), htp, if_pos k1, k2, if_neg (by omega), if_pos hp, Int.neg_neg]
  · obtain ⟨b, t, hb, hne, ht⟩ := textP_head n (by omega) (by omega)
    obtain ⟨k1, k2⟩ := nbs_textP (m := n) (by omega) (by omega)
    unfold textOf
    rw [if_neg hn]
    unfold spI
    have hp : Lib.hasPrefix (textP n) [45] = false := by unfold Lib.hasPrefix; rw [hb]; show ((45 : UInt8) == b && ([] : List UInt8).isPrefixOf t) = false; rw [beq_eq_false_iff_ne.2 (fun e => hne e.symm)]; rfl
    have htp : Lib.trimPrefix (textP n) [45] = textP n := by unfold Lib.trimPrefix; rw [if_neg (by rw [hp]; decide)]
    rw [if_neg (by rw [hb]; simp [hne]), htp, if_pos k1, k2, if_neg (by omega), if_neg (by rw [hp]; decide)]
end Go.Proofs.YtbejbagpdjfgmaaDoor
