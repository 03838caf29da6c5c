/-
  THE WALK of abbr.Kind of no bytes; of any bytes.
-/
import Derived.Test.YtakpbgjmblbaiaaDoorKind
namespace Go.Proofs.YtakpbgjmblbaiaaDoor
open Go Go.RowKit AbbM

set_option maxHeartbeats 1000000 in
theorem kind_nil (w : World) (hB : Big w) :
    Calls Tryd.prog 11 #[.string ⟨#[]⟩] w fun e w' => e = .returned (kret []) ∧ Below w.heap.size w w' := by
  have HBg := Lib.hid hB
  have HBw := Lib.hid (Below.refl w.heap.size w)
  clear hB
  go_enter Tryd.func11, Tryd.ntmps11
  go_wp2_with fail
  go_loopw [4, 5, 15] (fun v4 v5 v15 wr => ∃ k : Nat, v4 = .string ⟨#[]⟩ ∧ v5 = .int .i64 0 ∧ v15 = .int .i64 k ∧ k ≤ 3 ∧ wr.heap[w.heap.size]? = some (.cells #[.string ⟨#[37, 115]⟩, .int .i64 1, .string ⟨#[37, 122]⟩, .int .i64 2, .string ⟨#[47]⟩, .int .i64 3] 49 (0, 0)) ∧ Below w.heap.size w wr) (fun _ _ v15 _ => (3 - intOf v15).toNat)
  case atStart => exact ⟨0, rfl, rfl, rfl, by omega, heap_alloc_new w _, HBw.out.alloc (Nat.le_refl _) _⟩
  case round =>
    obtain ⟨k, rfl, rfl, rfl, k3, hrow, hB⟩ := hrel
    have HR := Lib.hid hrow
    have HBr := Lib.hid hB
    have d0 := cell_of_row wr w.heap.size 0 _ _ _ hrow
    have d1 := cell_of_row wr w.heap.size 1 _ _ _ hrow
    have d2 := cell_of_row wr w.heap.size 2 _ _ _ hrow
    have d3 := cell_of_row wr w.heap.size 3 _ _ _ hrow
    have d4 := cell_of_row wr w.heap.size 4 _ _ _ hrow
    have d5 := cell_of_row wr w.heap.size 5 _ _ _ hrow
    clear hrow hB
    match k, k3 with
    | 0, _ =>
      have HBx := Lib.hid (HBr.out.alloc HBr.out.size (.cells #[.string ⟨#[37, 115]⟩, .int .i64 1] 49))
      have HGx := Lib.hid (HBg.out.below HBx.out)
      go_wp2_with fail
      refine (contains_any [] [37, 115] _ HGx.out (by decide)).mono ?_
      rintro e w' ⟨rfl, rfl⟩
      rw [show Lib.contains [] [37, 115] = false by decide]
      go_wp2_with fail
      go_roundw
      case rel => exact ⟨1, rfl, rfl, rfl, by omega, (Below.heap_alloc wr _ _ (by have := block_lt_of_cell d0; exact this)).trans HR.out, HBx.out⟩
      case measure => simp [intOf]
    | 1, _ =>
      have HBx := Lib.hid (HBr.out.alloc HBr.out.size (.cells #[.string ⟨#[37, 122]⟩, .int .i64 2] 49))
      have HGx := Lib.hid (HBg.out.below HBx.out)
      go_wp2_with fail
      refine (contains_any [] [37, 122] _ HGx.out (by decide)).mono ?_
      rintro e w' ⟨rfl, rfl⟩
      rw [show Lib.contains [] [37, 122] = false by decide]
      go_wp2_with fail
      go_roundw
      case rel => exact ⟨2, rfl, rfl, rfl, by omega, (Below.heap_alloc wr _ _ (by have := block_lt_of_cell d0; exact this)).trans HR.out, HBx.out⟩
      case measure => simp [intOf]
    | 2, _ =>
      have HBx := Lib.hid (HBr.out.alloc HBr.out.size (.cells #[.string ⟨#[47]⟩, .int .i64 3] 49))
      have HGx := Lib.hid (HBg.out.below HBx.out)
      go_wp2_with fail
      refine (contains_any [] [47] _ HGx.out (by decide)).mono ?_
      rintro e w' ⟨rfl, rfl⟩
      rw [show Lib.contains [] [47] = false by decide]
      go_wp2_with fail
      go_roundw
      case rel => exact ⟨3, rfl, rfl, rfl, by omega, (Below.heap_alloc wr _ _ (by have := block_lt_of_cell d0; exact this)).trans HR.out, HBx.out⟩
      case measure => simp [intOf]
    | 3, _ =>
      go_wp2_with fail
      go_ret2
      exact ⟨by rw [kret_no (kind_none [] (.inl rfl))]; rfl, HBr.out⟩
theorem kind_any (l : List UInt8) (w : World) (hB : Big w) (hl : l.length ≤ 1000) :
    Calls Tryd.prog 11 #[.string ⟨l.toArray⟩] w fun e w' => e = .returned (kret l) ∧ Below w.heap.size w w' := by
  cases l with
  | nil => exact kind_nil w hB
  | cons c t => exact kind_cons c t w hB hl
/-- a byte's class, the document's way -/
theorem rletter_n (n : Nat) (w : World) (hn : n < 256) :
    Calls Tryd.prog 23 #[.int .u8 n] w fun e w' => e = .returned (.bool (inL n)) ∧ w = w' := by
  obtain h | h | h | h | h | h | h | h | h | h | h : n < 43 ∨ n = 43 ∨ n = 44 ∨ n = 45 ∨ (45 < n ∧ n < 48) ∨ (48 ≤ n ∧ n ≤ 57) ∨ (57 < n ∧ n < 65) ∨ (65 ≤ n ∧ n ≤ 90) ∨ (90 < n ∧ n < 97) ∨ (97 ≤ n ∧ n ≤ 122) ∨ 122 < n := by omega
  · have E := Lib.hid (show inL n = false from decide_eq_false (by omega))
    have f1 : ((n : Int) == 43) = false := by rw [beq_eq_false_iff_ne]; omega
    have f2 : ((n : Int) == 45) = false := by rw [beq_eq_false_iff_ne]; omega
    have g : 0 ≤ (n : Int) := by omega
    skip
    go_enter Tryd.func23, Tryd.ntmps23
    go_wp2_with fail
    go_ret
    exact ⟨by first | (rw [E.out]; done) | (rw [E.out]; rfl) | (rw [E.out]; simp; done) | (rw [E.out]; simp; omega), rfl⟩
  · have E := Lib.hid (show inL n = true from decide_eq_true (by omega))
    subst h
    go_enter Tryd.func23, Tryd.ntmps23
    go_wp2_with fail
    go_ret
    exact ⟨by first | (rw [E.out]; done) | (rw [E.out]; rfl), rfl⟩
  · have E := Lib.hid (show inL n = false from decide_eq_false (by omega))
    subst h
    go_enter Tryd.func23, Tryd.ntmps23
    go_wp2_with fail
    go_ret
    exact ⟨by first | (rw [E.out]; done) | (rw [E.out]; rfl), rfl⟩
  · have E := Lib.hid (show inL n = true from decide_eq_true (by omega))
    subst h
    go_enter Tryd.func23, Tryd.ntmps23
    go_wp2_with fail
    go_ret
    exact ⟨by first | (rw [E.out]; done) | (rw [E.out]; rfl), rfl⟩
  · have E := Lib.hid (show inL n = false from decide_eq_false (by omega))
    have f1 : ((n : Int) == 43) = false := by rw [beq_eq_false_iff_ne]; omega
    have f2 : ((n : Int) == 45) = false := by rw [beq_eq_false_iff_ne]; omega
    have g : 0 ≤ (n : Int) := by omega
    obtain ⟨h, h'⟩ := h
    go_enter Tryd.func23, Tryd.ntmps23
    go_wp2_with fail
    go_ret
    exact ⟨by first | (rw [E.out]; done) | (rw [E.out]; rfl) | (rw [E.out]; simp; done) | (rw [E.out]; simp; omega), rfl⟩
  · have E := Lib.hid (show inL n = true from decide_eq_true (by omega))
    have f1 : ((n : Int) == 43) = false := by rw [beq_eq_false_iff_ne]; omega
    have f2 : ((n : Int) == 45) = false := by rw [beq_eq_false_iff_ne]; omega
    have g : 0 ≤ (n : Int) := by omega
    obtain ⟨h, h'⟩ := h
    go_enter Tryd.func23, Tryd.ntmps23
    go_wp2_with fail
    go_ret
    exact ⟨by first | (rw [E.out]; done) | (rw [E.out]; rfl) | (rw [E.out]; simp; done) | (rw [E.out]; simp; omega), rfl⟩
  · have E := Lib.hid (show inL n = false from decide_eq_false (by omega))
    have f1 : ((n : Int) == 43) = false := by rw [beq_eq_false_iff_ne]; omega
    have f2 : ((n : Int) == 45) = false := by rw [beq_eq_false_iff_ne]; omega
    have g : 0 ≤ (n : Int) := by omega
    obtain ⟨h, h'⟩ := h
    go_enter Tryd.func23, Tryd.ntmps23
    go_wp2_with fail
    go_ret
    exact ⟨by first | (rw [E.out]; done) | (rw [E.out]; rfl) | (rw [E.out]; simp; done) | (rw [E.out]; simp; omega), rfl⟩
  · have E := Lib.hid (show inL n = true from decide_eq_true (by omega))
    have f1 : ((n : Int) == 43) = false := by rw [beq_eq_false_iff_ne]; omega
    have f2 : ((n : Int) == 45) = false := by rw [beq_eq_false_iff_ne]; omega
    have g : 0 ≤ (n : Int) := by omega
    obtain ⟨h, h'⟩ := h
    go_enter Tryd.func23, Tryd.ntmps23
    go_wp2_with fail
    go_ret
    exact ⟨by first | (rw [E.out]; done) | (rw [E.out]; rfl) | (rw [E.out]; simp; done) | (rw [E.out]; simp; omega), rfl⟩
  · have E := Lib.hid (show inL n = false from decide_eq_false (by omega))
    have f1 : ((n : Int) == 43) = false := by rw [beq_eq_false_iff_ne]; omega
    have f2 : ((n : Int) == 45) = false := by rw [beq_eq_false_iff_ne]; omega
    have g : 0 ≤ (n : Int) := by omega
    obtain ⟨h, h'⟩ := h
    go_enter Tryd.func23, Tryd.ntmps23
    go_wp2_with fail
    go_ret
    exact ⟨by first | (rw [E.out]; done) | (rw [E.out]; rfl) | (rw [E.out]; simp; done) | (rw [E.out]; simp; omega), rfl⟩
  · have E := Lib.hid (show inL n = true from decide_eq_true (by omega))
    have f1 : ((n : Int) == 43) = false := by rw [beq_eq_false_iff_ne]; omega
    have f2 : ((n : Int) == 45) = false := by rw [beq_eq_false_iff_ne]; omega
    have g : 0 ≤ (n : Int) := by omega
    obtain ⟨h, h'⟩ := h
    go_enter Tryd.func23, Tryd.ntmps23
    go_wp2_with fail
    go_ret
    exact ⟨by first | (rw [E.out]; done) | (rw [E.out]; rfl) | (rw [E.out]; simp; done) | (rw [E.out]; simp; omega), rfl⟩
  · have E := Lib.hid (show inL n = false from decide_eq_false (by omega))
    have f1 : ((n : Int) == 43) = false := by rw [beq_eq_false_iff_ne]; omega
    have f2 : ((n : Int) == 45) = false := by rw [beq_eq_false_iff_ne]; omega
    have g : 0 ≤ (n : Int) := by omega
    skip
    go_enter Tryd.func23, Tryd.ntmps23
    go_wp2_with fail
    go_ret
    exact ⟨by first | (rw [E.out]; done) | (rw [E.out]; rfl) | (rw [E.out]; simp; done) | (rw [E.out]; simp; omega), rfl⟩
theorem rletter_any (b : UInt8) (w : World) :
    Calls Tryd.prog 23 #[.int .u8 b.toNat] w fun e w' => e = .returned (.bool (ltr b)) ∧ w = w' := by
  rw [ltr_eq]
  exact rletter_n b.toNat w b.toNat_lt
end Go.Proofs.YtakpbgjmblbaiaaDoor
