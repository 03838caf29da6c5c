/-
  THE WALK of the document's number.
-/
import Derived.Test.YtmkbfjklhejdnaaDoorDfSpec
import Derived.Test.YtmkbfjklhejdnaaDoorRFind
namespace Go.Proofs.YtmkbfjklhejdnaaDoor
open Go Go.RowKit CivM NumM
theorem dec_facts : ∀ u : Fin 100, 1 ≤ u.1 → (Lib.decDigits u.1 ≠ [] ∧ (Lib.decDigits u.1).head? ≠ some 48 ∧ (Lib.decDigits u.1).all (fun c => decide (48 ≤ c.toNat ∧ c.toNat ≤ 57)) = true) := by decide +kernel
theorem nm_facts {l : List UInt8} {u : Nat} (h : nm l = some u) : l ≠ [] ∧ l.head? ≠ some 48 ∧ (∀ c ∈ l, 48 ≤ c.toNat ∧ c.toNat ≤ 57) := by
  obtain ⟨h1, h2, h3⟩ := nm_iff.1 h
  have := dec_facts ⟨u, nm_lt h⟩ h2
  rw [h1]
  exact ⟨this.1, this.2.1, fun c hc => by simpa using List.all_eq_true.1 this.2.2 c hc⟩
theorem nm_no {l : List UInt8} (h : ¬ (l ≠ [] ∧ l.length ≤ 2 ∧ l.head? ≠ some 48 ∧ (∀ c ∈ l, 48 ≤ c.toNat ∧ c.toNat ≤ 57))) : numE l = (0, 12) := by
  unfold numE
  cases hn : nm l with
  | none => rfl
  | some u =>
    obtain ⟨a, b, c⟩ := nm_facts hn
    exact absurd ⟨a, (nm_iff.1 hn).2.2, b, c⟩ h
theorem one_dec : ∀ u : Fin 10, 1 ≤ u.1 → Lib.decDigits u.1 = [UInt8.ofNat (48 + u.1)] := by decide +kernel
theorem two_dec : ∀ u : Fin 100, 10 ≤ u.1 → Lib.decDigits u.1 = [UInt8.ofNat (48 + u.1 / 10), UInt8.ofNat (48 + u.1 % 10)] := by decide +kernel
theorem nm_one {a : UInt8} (h1 : 49 ≤ a.toNat) (h2 : a.toNat ≤ 57) : nm [a] = some (a.toNat - 48) := by
  refine nm_iff.2 ⟨?_, by omega, by simp⟩
  have := one_dec ⟨a.toNat - 48, by omega⟩ (by show 1 ≤ a.toNat - 48; omega)
  simp only at this
  rw [this, show 48 + (a.toNat - 48) = a.toNat by omega, UInt8.ofNat_toNat]
theorem nm_two {a b : UInt8} (h1 : 49 ≤ a.toNat) (h2 : a.toNat ≤ 57) (h3 : 48 ≤ b.toNat) (h4 : b.toNat ≤ 57) : nm [a, b] = some (10 * (a.toNat - 48) + (b.toNat - 48)) := by
  refine nm_iff.2 ⟨?_, by omega, by simp⟩
  have := two_dec ⟨10 * (a.toNat - 48) + (b.toNat - 48), by omega⟩ (by show 10 ≤ 10 * (a.toNat - 48) + (b.toNat - 48); omega)
  simp only at this
  rw [this, show 48 + (10 * (a.toNat - 48) + (b.toNat - 48)) / 10 = a.toNat by omega, show 48 + (10 * (a.toNat - 48) + (b.toNat - 48)) % 10 = b.toNat by omega, UInt8.ofNat_toNat, UInt8.ofNat_toNat]
def RN (s : List UInt8) (u e : Int) : Prop := ∀ w, Calls Tryd.prog 28 #[.string ⟨s.toArray⟩] w fun e' w' => e' = .returned (.tuple #[.int .i64 u, .int .i64 e]) ∧ w = w'
set_option maxRecDepth 100000 in
set_option maxHeartbeats 2000000 in
theorem rn_nil : RN [] 0 12 := by
  intro w
  go_enter Tryd.func28, Tryd.ntmps28
  go_wp2_with fail
  go_ret2
  exact ⟨rfl, rfl⟩
set_option maxRecDepth 100000 in
set_option maxHeartbeats 2000000 in
theorem rn_long {l : List UInt8} (h : 2 < l.length) : RN l 0 12 := by
  intro w
  have h2 : 2 < (l.length : Int) := by omega
  clear h
  go_enter Tryd.func28, Tryd.ntmps28
  go_wp2_with fail
  go_ret2
  exact ⟨rfl, rfl⟩
set_option maxRecDepth 100000 in
set_option maxHeartbeats 2000000 in
theorem rn_zero {l : List UInt8} (h : l.length ≤ 2) (h0 : 0 < l.length) (hz : l.getD 0 0 = 48) : RN l 0 12 := by
  intro w
  have h2 : (l.length : Int) ≤ 2 := by omega
  have h3 : 1 ≤ (l.length : Int) := by omega
  have hy := byte_at l 0 h0
  rw [hz] at hy
  clear h hz
  go_enter Tryd.func28, Tryd.ntmps28
  go_wp2_with fail
  go_ret2
  exact ⟨rfl, rfl⟩
set_option maxRecDepth 100000 in
set_option maxHeartbeats 2000000 in
theorem rn_bad1 {l : List UInt8} {a : UInt8} (h : l.length ≤ 2) (h0 : 0 < l.length) (hz : l.getD 0 0 = a) (ha : a.toNat < 48 ∨ 57 < a.toNat) : RN l 0 12 := by
  intro w
  have h2 : (l.length : Int) ≤ 2 := by omega
  have h3 : 1 ≤ (l.length : Int) := by omega
  have hy := byte_at l 0 h0
  rw [hz] at hy
  have a_1 : (a.toNat : Int) ≤ 255 := by have := a.toNat_lt; omega
  have a_0 : 0 ≤ (a.toNat : Int) := by omega
  have n48 : ((a.toNat : Int) == 48) = false := beq_eq_false_iff_ne.2 (by omega)
  have HA := Lib.hid ha
  clear h hz ha
  go_enter Tryd.func28, Tryd.ntmps28
  go_wp2_with fail
  go_loopw [4, 5] (fun v4 v5 wr => v4 = .int .i64 0 ∧ v5 = .int .i64 0 ∧ wr = w) (fun _ _ _ => 0)
  case atStart => exact ⟨rfl, rfl, rfl⟩
  case round =>
    obtain ⟨rfl, rfl, rfl⟩ := hrel
    rcases HA.out with ha | ha
    · have ha2 : (a.toNat : Int) < 48 := by omega
      go_wp2_with fail
      go_ret2
      exact ⟨rfl, rfl⟩
    · have ha2 : 57 < (a.toNat : Int) := by omega
      go_wp2_with fail
      go_ret2
      exact ⟨rfl, rfl⟩
set_option maxRecDepth 100000 in
set_option maxHeartbeats 2000000 in
theorem rn_one {a : UInt8} (h1 : 49 ≤ a.toNat) (h2 : a.toNat ≤ 57) : RN [a] ((a.toNat : Int) - 48) 0 := by
  intro w
  obtain ⟨l, hl⟩ : ∃ l, [a] = l := ⟨_, rfl⟩
  have h0 : 0 < l.length := by rw [← hl]; simp
  have hy := byte_at l 0 h0
  rw [show l.getD 0 0 = a by rw [← hl]; rfl] at hy
  have hlen : (l.length : Int) = 1 := by rw [← hl]; rfl
  have h1' : 49 ≤ (a.toNat : Int) := by omega
  have h2' : (a.toNat : Int) ≤ 57 := by omega
  have n48 : ((a.toNat : Int) == 48) = false := beq_eq_false_iff_ne.2 (by omega)
  rw [hl]
  clear hl h1 h2
  go_enter Tryd.func28, Tryd.ntmps28
  go_wp2_with fail
  go_loopw [4, 5] (fun v4 v5 wr => ∃ n i : Int, v4 = .int .i64 n ∧ v5 = .int .i64 i ∧ (n = 0 ∧ i = 0 ∨ n = (a.toNat : Int) - 48 ∧ i = 1) ∧ wr = w) (fun _ v5 _ => (1 - intOf v5).toNat)
  case atStart => exact ⟨0, 0, rfl, rfl, .inl ⟨rfl, rfl⟩, rfl⟩
  case round =>
    obtain ⟨n, i, rfl, rfl, ⟨rfl, rfl⟩ | ⟨rfl, rfl⟩, rfl⟩ := hrel
    · go_wp2_with fail
      go_roundw
      case rel => exact ⟨_, _, rfl, rfl, by omega, trivial⟩
      case measure => simp [intOf]
    · go_wp2_with fail
      go_ret2
      exact ⟨rfl, rfl⟩
set_option maxRecDepth 100000 in
set_option maxHeartbeats 2000000 in
theorem rn_bad2 {a b : UInt8} (h1 : 49 ≤ a.toNat) (h2 : a.toNat ≤ 57) (hb : b.toNat < 48 ∨ 57 < b.toNat) : RN [a, b] 0 12 := by
  intro w
  obtain ⟨l, hl⟩ : ∃ l, [a, b] = l := ⟨_, rfl⟩
  have h0 : 0 < l.length := by rw [← hl]; simp
  have h01 : 1 < l.length := by rw [← hl]; simp
  have hy := byte_at l 0 h0
  have hy1 := byte_at l 1 h01
  rw [show l.getD 0 0 = a by rw [← hl]; rfl] at hy
  rw [show l.getD 1 0 = b by rw [← hl]; rfl] at hy1
  have hlen : (l.length : Int) = 2 := by rw [← hl]; rfl
  have h1' : 49 ≤ (a.toNat : Int) := by omega
  have h2' : (a.toNat : Int) ≤ 57 := by omega
  have n48 : ((a.toNat : Int) == 48) = false := beq_eq_false_iff_ne.2 (by omega)
  rw [hl]
  clear hl h1 h2
  have b_1 : (b.toNat : Int) ≤ 255 := by have := b.toNat_lt; omega
  have b_0 : 0 ≤ (b.toNat : Int) := by omega
  have HB := Lib.hid hb
  clear hb
  go_enter Tryd.func28, Tryd.ntmps28
  go_wp2_with fail
  go_loopw [4, 5] (fun v4 v5 wr => ∃ n i : Int, v4 = .int .i64 n ∧ v5 = .int .i64 i ∧ (n = 0 ∧ i = 0 ∨ n = (a.toNat : Int) - 48 ∧ i = 1 ∨ n = 10 * ((a.toNat : Int) - 48) + ((b.toNat : Int) - 48) ∧ i = 2 ∧ False) ∧ wr = w) (fun _ v5 _ => (2 - intOf v5).toNat)
  case atStart => exact ⟨0, 0, rfl, rfl, .inl ⟨rfl, rfl⟩, rfl⟩
  case round =>
    obtain ⟨n, i, rfl, rfl, ⟨rfl, rfl⟩ | ⟨rfl, rfl⟩ | ⟨_, _, hf⟩, rfl⟩ := hrel
    · go_wp2_with fail
      go_roundw
      case rel => exact ⟨_, _, rfl, rfl, by omega, trivial⟩
      case measure => simp [intOf]
    · rcases HB.out with ha | ha
      · have ha2 : (b.toNat : Int) < 48 := by omega
        go_wp2_with fail
        go_ret2
        exact ⟨rfl, rfl⟩
      · have ha2 : 57 < (b.toNat : Int) := by omega
        go_wp2_with fail
        go_ret2
        exact ⟨rfl, rfl⟩
    · exact hf.elim
set_option maxRecDepth 100000 in
set_option maxHeartbeats 2000000 in
theorem rn_two {a b : UInt8} (h1 : 49 ≤ a.toNat) (h2 : a.toNat ≤ 57) (h3 : 48 ≤ b.toNat) (h4 : b.toNat ≤ 57) (h5 : 10 * ((a.toNat : Int) - 48) + ((b.toNat : Int) - 48) ≤ 31) : RN [a, b] (10 * ((a.toNat : Int) - 48) + ((b.toNat : Int) - 48)) 0 := by
  intro w
  obtain ⟨l, hl⟩ : ∃ l, [a, b] = l := ⟨_, rfl⟩
  have h0 : 0 < l.length := by rw [← hl]; simp
  have h01 : 1 < l.length := by rw [← hl]; simp
  have hy := byte_at l 0 h0
  have hy1 := byte_at l 1 h01
  rw [show l.getD 0 0 = a by rw [← hl]; rfl] at hy
  rw [show l.getD 1 0 = b by rw [← hl]; rfl] at hy1
  have hlen : (l.length : Int) = 2 := by rw [← hl]; rfl
  have h1' : 49 ≤ (a.toNat : Int) := by omega
  have h2' : (a.toNat : Int) ≤ 57 := by omega
  have n48 : ((a.toNat : Int) == 48) = false := beq_eq_false_iff_ne.2 (by omega)
  rw [hl]
  clear hl h1 h2
  have b_1 : (b.toNat : Int) ≤ 255 := by have := b.toNat_lt; omega
  have b_0 : 0 ≤ (b.toNat : Int) := by omega
  have h3' : 48 ≤ (b.toNat : Int) := by omega
  have h4' : (b.toNat : Int) ≤ 57 := by omega
  clear h3 h4
  go_enter Tryd.func28, Tryd.ntmps28
  go_wp2_with fail
  go_loopw [4, 5] (fun v4 v5 wr => ∃ n i : Int, v4 = .int .i64 n ∧ v5 = .int .i64 i ∧ (n = 0 ∧ i = 0 ∨ n = (a.toNat : Int) - 48 ∧ i = 1 ∨ n = 10 * ((a.toNat : Int) - 48) + ((b.toNat : Int) - 48) ∧ i = 2 ) ∧ wr = w) (fun _ v5 _ => (2 - intOf v5).toNat)
  case atStart => exact ⟨0, 0, rfl, rfl, .inl ⟨rfl, rfl⟩, rfl⟩
  case round =>
    obtain ⟨n, i, rfl, rfl, ⟨rfl, rfl⟩ | ⟨rfl, rfl⟩ | ⟨rfl, rfl⟩, rfl⟩ := hrel
    · go_wp2_with fail
      go_roundw
      case rel => exact ⟨_, _, rfl, rfl, by omega, trivial⟩
      case measure => simp [intOf]
    · go_wp2_with fail
      go_roundw
      case rel => exact ⟨_, _, rfl, rfl, by omega, trivial⟩
      case measure => simp [intOf]
    · go_wp2_with fail
      go_ret2
      exact ⟨rfl, rfl⟩
set_option maxRecDepth 100000 in
set_option maxHeartbeats 2000000 in
theorem rn_far {a b : UInt8} (h1 : 49 ≤ a.toNat) (h2 : a.toNat ≤ 57) (h3 : 48 ≤ b.toNat) (h4 : b.toNat ≤ 57) (h5 : 31 < 10 * ((a.toNat : Int) - 48) + ((b.toNat : Int) - 48)) : RN [a, b] 0 10 := by
  intro w
  obtain ⟨l, hl⟩ : ∃ l, [a, b] = l := ⟨_, rfl⟩
  have h0 : 0 < l.length := by rw [← hl]; simp
  have h01 : 1 < l.length := by rw [← hl]; simp
  have hy := byte_at l 0 h0
  have hy1 := byte_at l 1 h01
  rw [show l.getD 0 0 = a by rw [← hl]; rfl] at hy
  rw [show l.getD 1 0 = b by rw [← hl]; rfl] at hy1
  have hlen : (l.length : Int) = 2 := by rw [← hl]; rfl
  have h1' : 49 ≤ (a.toNat : Int) := by omega
  have h2' : (a.toNat : Int) ≤ 57 := by omega
  have n48 : ((a.toNat : Int) == 48) = false := beq_eq_false_iff_ne.2 (by omega)
  rw [hl]
  clear hl h1 h2
  have b_1 : (b.toNat : Int) ≤ 255 := by have := b.toNat_lt; omega
  have b_0 : 0 ≤ (b.toNat : Int) := by omega
  have h3' : 48 ≤ (b.toNat : Int) := by omega
  have h4' : (b.toNat : Int) ≤ 57 := by omega
  clear h3 h4
  go_enter Tryd.func28, Tryd.ntmps28
  go_wp2_with fail
  go_loopw [4, 5] (fun v4 v5 wr => ∃ n i : Int, v4 = .int .i64 n ∧ v5 = .int .i64 i ∧ (n = 0 ∧ i = 0 ∨ n = (a.toNat : Int) - 48 ∧ i = 1 ∨ n = 10 * ((a.toNat : Int) - 48) + ((b.toNat : Int) - 48) ∧ i = 2 ) ∧ wr = w) (fun _ v5 _ => (2 - intOf v5).toNat)
  case atStart => exact ⟨0, 0, rfl, rfl, .inl ⟨rfl, rfl⟩, rfl⟩
  case round =>
    obtain ⟨n, i, rfl, rfl, ⟨rfl, rfl⟩ | ⟨rfl, rfl⟩ | ⟨rfl, rfl⟩, rfl⟩ := hrel
    · go_wp2_with fail
      go_roundw
      case rel => exact ⟨_, _, rfl, rfl, by omega, trivial⟩
      case measure => simp [intOf]
    · go_wp2_with fail
      go_roundw
      case rel => exact ⟨_, _, rfl, rfl, by omega, trivial⟩
      case measure => simp [intOf]
    · go_wp2_with fail
      go_ret2
      exact ⟨rfl, rfl⟩
theorem rn_any (l : List UInt8) : RN l (numE l).1 (numE l).2 := by
  match l with
  | [] => exact rn_nil
  | [a] =>
    by_cases h1 : a.toNat < 48 ∨ 57 < a.toNat
    · rw [nm_no (by rintro ⟨_, _, _, h⟩; have := h a (by simp); omega)]
      exact rn_bad1 (by simp) (by simp) rfl h1
    · by_cases h2 : a = 48
      · subst h2
        rw [nm_no (by rintro ⟨_, _, h, _⟩; exact h rfl)]
        exact rn_zero (by simp) (by simp) rfl
      · have h3 : a.toNat ≠ 48 := fun e => h2 (UInt8.toNat_inj.1 e)
        rw [show numE [a] = ((a.toNat : Int) - 48, 0) by
          unfold numE
          rw [nm_one (by omega) (by omega)]
          show (if 31 < a.toNat - 48 then _ else _) = _
          rw [if_neg (by omega)]
          congr 1
          omega]
        exact rn_one (by omega) (by omega)
  | [a, b] =>
    by_cases h1 : a.toNat < 48 ∨ 57 < a.toNat
    · rw [nm_no (by rintro ⟨_, _, _, h⟩; have := h a (by simp); omega)]
      exact rn_bad1 (by simp) (by simp) rfl h1
    · by_cases h2 : a = 48
      · subst h2
        rw [nm_no (by rintro ⟨_, _, h, _⟩; exact h rfl)]
        exact rn_zero (by simp) (by simp) rfl
      · have h3 : a.toNat ≠ 48 := fun e => h2 (UInt8.toNat_inj.1 e)
        by_cases h4 : b.toNat < 48 ∨ 57 < b.toNat
        · rw [nm_no (by rintro ⟨_, _, _, h⟩; have := h b (by simp); omega)]
          exact rn_bad2 (by omega) (by omega) h4
        · by_cases h5 : 31 < 10 * (a.toNat - 48) + (b.toNat - 48)
          · rw [show numE [a, b] = (0, 10) by
              unfold numE
              rw [nm_two (by omega) (by omega) (by omega) (by omega)]
              exact if_pos h5]
            exact rn_far (by omega) (by omega) (by omega) (by omega) (by omega)
          · rw [show numE [a, b] = (10 * ((a.toNat : Int) - 48) + ((b.toNat : Int) - 48), 0) by
              unfold numE
              rw [nm_two (by omega) (by omega) (by omega) (by omega)]
              show (if 31 < 10 * (a.toNat - 48) + (b.toNat - 48) then _ else _) = _
              rw [if_neg h5]
              congr 1
              omega]
            exact rn_two (by omega) (by omega) (by omega) (by omega) (by omega)
  | a :: b :: c :: t =>
    rw [nm_no (by rintro ⟨_, h, _, _⟩; simp at h)]
    exact rn_long (by simp)
end Go.Proofs.YtmkbfjklhejdnaaDoor
