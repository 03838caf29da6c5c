/-
  THE WALKS of strings.IndexRune at a rune above 127, and of strings.ContainsAny at any bytes: none of three bytes is there.
-/
import Derived.Test.YtdneodlboggcnaaDoorWords
import Derived.Test.YtdneodlboggcnaaDoorQuiet
import Derived.Laws.RangeString
import Derived.Laws.RangeAny
import Derived.Lib.OthersKept
import Derived.Lib.DecodeNEq
import Derived.Lib.TrimUEq
namespace Go.Proofs.YtdneodlboggcnaaDoor
open Go Go.RowKit
abbrev nobs : ByteArray := ⟨#[0, 10, 13]⟩
theorem encode_facts (r : Int) (h : 128 ≤ r) : ∃ t : List UInt8, Utf8.encode r = ⟨t.toArray⟩ ∧ 2 ≤ t.length ∧ t.length ≤ 4 ∧ ∀ x ∈ t, 128 ≤ x.toNat := by
  unfold Utf8.encode
  obtain ⟨c, hc⟩ : ∃ c, (if Utf8.valid r then r.toNat else Utf8.runeError) = c := ⟨_, rfl⟩
  have h1 : 128 ≤ c := by
    rw [← hc]
    split
    · omega
    · unfold Utf8.runeError; omega
  have h2 : c ≤ 1114111 := by
    rw [← hc]
    split
    · rename_i hv
      simp [Utf8.valid] at hv
      omega
    · unfold Utf8.runeError; omega
  simp only [hc]
  have m1 : ∀ k, (UInt8.ofNat (128 + k % 64)).toNat = 128 + k % 64 := fun k => by rw [UInt8.toNat_ofNat']; omega
  have n1 : ¬ c < 128 := by omega
  rw [if_neg n1]
  by_cases h3 : c < 2048
  · rw [if_pos h3]
    refine ⟨[UInt8.ofNat (192 + c / 64), UInt8.ofNat (128 + c % 64)], rfl, by simp, by simp, ?_⟩
    intro x hx
    simp only [List.mem_cons, List.not_mem_nil, or_false] at hx
    rcases hx with rfl | rfl
    · rw [UInt8.toNat_ofNat']; omega
    · rw [m1]; omega
  · rw [if_neg h3]
    by_cases h4 : c < 65536
    · rw [if_pos h4]
      refine ⟨[UInt8.ofNat (224 + c / 4096), UInt8.ofNat (128 + c / 64 % 64), UInt8.ofNat (128 + c % 64)], rfl, by simp, by simp, ?_⟩
      intro x hx
      simp only [List.mem_cons, List.not_mem_nil, or_false] at hx
      rcases hx with rfl | rfl | rfl
      · rw [UInt8.toNat_ofNat']; omega
      · rw [m1]; omega
      · rw [m1]; omega
    · rw [if_neg h4]
      refine ⟨[UInt8.ofNat (240 + c / 262144), UInt8.ofNat (128 + c / 4096 % 64), UInt8.ofNat (128 + c / 64 % 64), UInt8.ofNat (128 + c % 64)], rfl, by simp, by simp, ?_⟩
      intro x hx
      simp only [List.mem_cons, List.not_mem_nil, or_false] at hx
      rcases hx with rfl | rfl | rfl | rfl
      · rw [UInt8.toNat_ofNat']; omega
      · rw [m1]; omega
      · rw [m1]; omega
      · rw [m1]; omega
theorem nobs_low (a b : Nat) (x : UInt8) (h : x ∈ (nobs.extract a b).data.toList) (L : UInt8) (hL : 128 ≤ L.toNat) : x ≠ L := by
  rw [ByteArray.extract_mk] at h
  have h2 : x ∈ ([0, 10, 13] : List UInt8) := List.mem_of_mem_drop (List.mem_of_mem_take h)
  rintro rfl
  simp only [List.mem_cons, List.not_mem_nil, or_false] at h2
  rcases h2 with rfl | rfl | rfl <;> revert hL <;> decide
theorem indexByte_no : ∀ {l : List UInt8} {c : UInt8}, (∀ x ∈ l, x ≠ c) → Lib.indexByte l c = -1
  | [], _, _ => rfl
  | b :: l, c, h => by
    have hb : (b == c) = false := beq_eq_false_iff_ne.2 (h b (by simp))
    unfold Lib.indexByte
    rw [hb, indexByte_no (fun x hx => h x (by simp [hx]))]
    rfl
theorem ix_high (s : ByteArray) (L : UInt8) (w : World) (h : ∀ x ∈ s.data.toList, x ≠ L) : Calls Tryd.prog 35 #[.string s, .int .u8 L.toNat] w fun e w' => e = .returned (.int .i64 (-1)) ∧ w = w' :=
  (Tryd.strings_IndexByte s (L.toNat : Int) w).mono fun _ _ ⟨h1, h2⟩ => ⟨by rw [h1, show ((L.toNat : Int)).toNat.toUInt8 = L by simp, indexByte_no h], h2.symm⟩
theorem encode_last (r : Int) (h : 128 ≤ r) : ∃ T : ByteArray, Utf8.encode r = T ∧ (T.size = 2 ∨ T.size = 3 ∨ T.size = 4) ∧ ∀ (k : Nat) (q : k < T.size), 128 ≤ (T[k]'q).toNat := by
  obtain ⟨t, h1, h2, h3, h4⟩ := encode_facts r h
  have hsz : (⟨t.toArray⟩ : ByteArray).size = t.length := by show t.toArray.size = _; simp
  refine ⟨_, h1, by omega, fun k q => h4 _ ?_⟩
  have e : (⟨t.toArray⟩ : ByteArray)[k]'q = t[k]'(by omega) := rfl
  rw [e]
  exact List.getElem_mem _
theorem q_same {P : Program} {f : FuncId} {args : Array Value} {w : World} {n : Nat} {v : Value} (h : Calls P f args (w.drewN n) fun e w' => e = .returned v ∧ w.drewN n = w') :
    Calls P f args (w.drewN n) fun e w' => e = .returned v ∧ ∃ m, w' = w.drewN m := h.mono fun _ _ ⟨h1, h2⟩ => ⟨h1, n, h2.symm⟩
set_option maxRecDepth 100000 in
set_option maxHeartbeats 4000000 in
theorem rune_mid1 (N : ByteArray) (hN : (N.size : Int) = 3) (r : Int) (T : ByteArray) (L : UInt8) (w' : World) (h1 : 128 ≤ r) (h2 : r ≤ 2147483647) (hr : (r == 65533) = false) (hv : Lib.validRune r = true) (hT : Utf8.encode r = T) (hs : (T.size : Int) = 2)
    (eL : ∀ p, T[1]'p = L) (hL : 128 ≤ L.toNat) (nb : ∀ q, (((N[1]'q).toNat : Nat) : Int) = 10) (hX : ∀ (a b : Nat) (x : UInt8), x ∈ (N.extract a b).data.toList → x ≠ L) :
    Calls Tryd.prog 22 #[.string N, .int .i32 r] w' fun e w'' => e = .returned (.int .i64 (-1)) ∧ Below w'.heap.size w' w'' := by
  have hl2 : 128 ≤ (L.toNat : Int) := by omega
  have hl3 : (L.toNat : Int) ≤ 255 := by have := L.toNat_lt; omega
  have HX := Lib.hid hX
  have nq : ((10 : Int) != (L.toNat : Int)) = true := by rw [bne_iff_ne]; omega
  clear hL hX
  go_enter Tryd.func22, Tryd.ntmps22
  go_wp2_with fail
  refine (Tryd.utf8_ValidRune r _).mono ?_
  rintro e w9 ⟨rfl, rfl⟩
  rw [hv]
  clear hv
  go_wp2_with fail
  go_step3
  go_wp2_with fail
  go_loopw [9] (fun v9 wr => v9 = .int .i64 1 ∧ wr = w9) (fun _ _ => 0)
  case atStart => exact ⟨rfl, rfl⟩
  case round =>
    obtain ⟨rfl, rfl⟩ := hrel
    go_wp2_with fail
    go_step3
    go_wp2_with fail
    go_region
    all_goals go_wp2_with fail
    go_region_with (go_at_call 35; refine (ix_high _ L _ (fun x hx => HX.out _ _ x hx)).mono ?_; rintro e w5 ⟨rfl, rfl⟩)
    all_goals go_wp2_with fail
    all_goals
      have hfin : ∀ a : Act, a.defers = [] → a.tmps.getD 4 undef = .int .i64 (-1) → bodyPost Tryd.prog Tryd.f22 (fun e w'' => e = .returned (.int .i64 (-1)) ∧ Below wr.heap.size wr w'') Exit.ret a wr.drew.drew := by
        intro a hd ht
        refine bodyPost_ret (results_tmp rfl _ _ _) hd ⟨by rw [ht], ((Below.refl _ _).drew).drew⟩
      exact hfin _ rfl rfl
set_option maxRecDepth 100000 in
set_option maxHeartbeats 4000000 in
theorem rune_mid2 (N : ByteArray) (hN : (N.size : Int) = 3) (r : Int) (T : ByteArray) (L : UInt8) (w' : World) (h1 : 128 ≤ r) (h2 : r ≤ 2147483647) (hr : (r == 65533) = false) (hv : Lib.validRune r = true) (hT : Utf8.encode r = T) (hs : (T.size : Int) = 3)
    (eL : ∀ p, T[2]'p = L) (hL : 128 ≤ L.toNat) (nb : ∀ q, (((N[2]'q).toNat : Nat) : Int) = 13) (hX : ∀ (a b : Nat) (x : UInt8), x ∈ (N.extract a b).data.toList → x ≠ L) :
    Calls Tryd.prog 22 #[.string N, .int .i32 r] w' fun e w'' => e = .returned (.int .i64 (-1)) ∧ Below w'.heap.size w' w'' := by
  have hl2 : 128 ≤ (L.toNat : Int) := by omega
  have hl3 : (L.toNat : Int) ≤ 255 := by have := L.toNat_lt; omega
  have HX := Lib.hid hX
  have nq : ((13 : Int) != (L.toNat : Int)) = true := by rw [bne_iff_ne]; omega
  clear hL hX
  go_enter Tryd.func22, Tryd.ntmps22
  go_wp2_with fail
  refine (Tryd.utf8_ValidRune r _).mono ?_
  rintro e w9 ⟨rfl, rfl⟩
  rw [hv]
  clear hv
  go_wp2_with fail
  go_step3
  go_wp2_with fail
  go_loopw [9] (fun v9 wr => v9 = .int .i64 2 ∧ wr = w9) (fun _ _ => 0)
  case atStart => exact ⟨rfl, rfl⟩
  case round =>
    obtain ⟨rfl, rfl⟩ := hrel
    go_wp2_with fail
    go_step3
    go_wp2_with fail
    go_region
    all_goals go_wp2_with fail
    go_region_with (go_at_call 35; refine (ix_high _ L _ (fun x hx => HX.out _ _ x hx)).mono ?_; rintro e w5 ⟨rfl, rfl⟩)
    all_goals go_wp2_with fail
    all_goals
      have hfin : ∀ a : Act, a.defers = [] → a.tmps.getD 4 undef = .int .i64 (-1) → bodyPost Tryd.prog Tryd.f22 (fun e w'' => e = .returned (.int .i64 (-1)) ∧ Below wr.heap.size wr w'') Exit.ret a wr.drew.drew := by
        intro a hd ht
        refine bodyPost_ret (results_tmp rfl _ _ _) hd ⟨by rw [ht], ((Below.refl _ _).drew).drew⟩
      exact hfin _ rfl rfl
set_option maxRecDepth 100000 in
set_option maxHeartbeats 2000000 in
theorem rune_high (r : Int) (w : World) (h1 : 128 ≤ r) (h2 : r ≤ 2147483647) :
    Calls Tryd.prog 22 #[.string nobs, .int .i32 r] w fun e w' => e = .returned (.int .i64 (-1)) ∧ Below w.heap.size w w' := by
  obtain ⟨T, hT, hs, hL⟩ := encode_last r h1
  by_cases hm : (r == 65533) = false ∧ Lib.validRune r = true ∧ (T.size = 2 ∨ T.size = 3)
  · obtain ⟨m1, m2, m3 | m3⟩ := hm
    · exact rune_mid1 nobs rfl r T (T[1]'(by omega)) w h1 h2 m1 m2 hT (by omega) (fun _ => rfl) (hL 1 (by omega)) (fun _ => rfl) (fun a b x h => nobs_low a b x h _ (hL 1 (by omega)))
    · exact rune_mid2 nobs rfl r T (T[2]'(by omega)) w h1 h2 m1 m2 hT (by omega) (fun _ => rfl) (hL 2 (by omega)) (fun _ => rfl) (fun a b x h => nobs_low a b x h _ (hL 2 (by omega)))
  · have HM := Lib.hid hm
    clear hm hL
    go_enter Tryd.func22, Tryd.ntmps22
    go_wp2_with fail
    · go_loopw [5, 6] (fun _ _ wr => ∃ i : Nat, i ≤ 3 ∧ wr = w.iter nobs i) (fun _ _ wr => 3 - wr.iterPos w.heap.size)
      case atStart => exact ⟨0, by omega, rfl⟩
      case round =>
        obtain ⟨i, hi, rfl⟩ := hrel
        have h4 : i = 0 ∨ i = 1 ∨ i = 2 ∨ i = 3 := by omega
        rcases h4 with rfl | rfl | rfl | rfl
        · have hnx := fun ty => run_next_ascii (P := Tryd.prog) w nobs 0 ty (by decide) (by decide)
          go_wp2_with fail
          go_roundw
          case rel => exact ⟨1, by omega, rfl⟩
          case measure => simp
        · have hnx := fun ty => run_next_ascii (P := Tryd.prog) w nobs 1 ty (by decide) (by decide)
          go_wp2_with fail
          go_roundw
          case rel => exact ⟨2, by omega, rfl⟩
          case measure => simp
        · have hnx := fun ty => run_next_ascii (P := Tryd.prog) w nobs 2 ty (by decide) (by decide)
          go_wp2_with fail
          go_roundw
          case rel => exact ⟨3, by omega, rfl⟩
          case measure => simp
        · have hnx := run_next_end (P := Tryd.prog) w nobs 3
          go_wp2_with fail
          go_ret
          exact ⟨rfl, (Below.refl _ _).alloc (Nat.le_refl _) _⟩
    · rename_i hq
      refine (Tryd.utf8_ValidRune r _).mono ?_
      rintro e w' ⟨rfl, rfl⟩
      cases hv : Lib.validRune r with
      | false =>
        go_wp2_with fail
        go_ret
        exact ⟨rfl, Below.refl _ _⟩
      | true =>
        have hs4 : T.size = 4 := by
          rcases hs with h | h | h
          · exact absurd ⟨by first | assumption | (simp_all), hv, .inl h⟩ HM.out
          · exact absurd ⟨by first | assumption | (simp_all), hv, .inr h⟩ HM.out
          · exact h
        have hs5 : (T.size : Int) = 4 := by omega
        clear hs
        go_wp2_with fail
        go_step3
        go_wp2_with fail
        go_loopw [9] (fun v9 wr => v9 = .int .i64 3 ∧ wr = w') (fun _ _ => 0)
        case atStart => exact ⟨rfl, rfl⟩
        case round =>
          obtain ⟨rfl, rfl⟩ := hrel
          go_wp2_with fail
          rw [Exit.noGoto_ret]
          go_ret
          exact ⟨rfl, Below.refl _ _⟩
end Go.Proofs.YtdneodlboggcnaaDoor
