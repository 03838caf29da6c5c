/-
  THE WALKS of the document's Weekdays and Name (as in chapter 4's texts).
-/
import Derived.Test.YtmkbfjklhejdnaaDoorDfPrint
namespace Go.Proofs.YtmkbfjklhejdnaaDoor
open Go Go.RowKit
def weekdaysS : List (List UInt8) := [[115, 117, 110, 100, 97, 121], [109, 111, 110, 100, 97, 121], [116, 117, 101, 115, 100, 97, 121], [119, 101, 100, 110, 101, 115, 100, 97, 121], [116, 104, 117, 114, 115, 100, 97, 121], [102, 114, 105, 100, 97, 121], [115, 97, 116, 117, 114, 100, 97, 121]]
abbrev weekdaysSObj : Obj := .cells #[.string ⟨#[115, 117, 110, 100, 97, 121]⟩, .string ⟨#[109, 111, 110, 100, 97, 121]⟩, .string ⟨#[116, 117, 101, 115, 100, 97, 121]⟩, .string ⟨#[119, 101, 100, 110, 101, 115, 100, 97, 121]⟩, .string ⟨#[116, 104, 117, 114, 115, 100, 97, 121]⟩, .string ⟨#[102, 114, 105, 100, 97, 121]⟩, .string ⟨#[115, 97, 116, 117, 114, 100, 97, 121]⟩] 9
theorem Weekdays_any (w : World) :
    Calls Tryd.prog 27 #[] w fun e w' => e = .returned (.slice (some ⟨w.heap.size, 0, none⟩) 7 7) ∧ w' = w.alloc weekdaysSObj := by
  go_enter Tryd.func27, Tryd.ntmps27
  go_wp2_with fail
  go_ret
  exact ⟨rfl, rfl⟩
theorem weekdaysS_wl (w : World) : WL (w.alloc weekdaysSObj) w.heap.size 0 weekdaysS := fun j hj => by
  rw [Nat.zero_add]
  refine (World.cell?_alloc_mark w _ _ _ j).trans ?_
  match j, hj with
  | 0, _ => rfl
  | 1, _ => rfl
  | 2, _ => rfl
  | 3, _ => rfl
  | 4, _ => rfl
  | 5, _ => rfl
  | 6, _ => rfl
theorem cv_one (n : Int) (x : UInt8) (w : World) (h : n = x.toNat) :
    (convert 68 9 (.slice (some ⟨w.heap.size, 0, none⟩) 1 1)).run Tryd.prog (w.alloc (.cells #[.int .u8 n] 5)) = .ok (.string ⟨[x].toArray⟩) (w.alloc (.cells #[.int .u8 n] 5)) :=
  run_convert_bytes_back (w.alloc (.cells #[.int .u8 n] 5)) 68 9 5 ⟨w.heap.size, 0, none⟩ 1 [x] Tryd.underlying68 Tryd.underlying5 Tryd.underlying9 (fun j hj => by
    obtain rfl : j = 0 := by simpa using hj
    subst h
    exact World.cell?_alloc_mark w _ _ _ 0)
theorem cv_three (n : Int) (x y z : UInt8) (w : World) (h : n = x.toNat) :
    (convert 68 9 (.slice (some ⟨w.heap.size, 0, none⟩) 3 3)).run Tryd.prog (w.alloc (.cells #[.int .u8 n, .int .u8 y.toNat, .int .u8 z.toNat] 5)).drew = .ok (.string ⟨[x, y, z].toArray⟩) (w.alloc (.cells #[.int .u8 n, .int .u8 y.toNat, .int .u8 z.toNat] 5)).drew :=
  run_convert_bytes_back (w.alloc (.cells #[.int .u8 n, .int .u8 y.toNat, .int .u8 z.toNat] 5)).drew 68 9 5 ⟨w.heap.size, 0, none⟩ 3 [x, y, z] Tryd.underlying68 Tryd.underlying5 Tryd.underlying9 (fun j hj => by
    subst h
    have : j = 0 ∨ j = 1 ∨ j = 2 := by simp at hj; omega
    rcases this with rfl | rfl | rfl
    · exact World.cell?_alloc_mark w _ _ _ 0
    · exact World.cell?_alloc_mark w _ _ _ 1
    · exact World.cell?_alloc_mark w _ _ _ 2)
def nameOf (l : List UInt8) : List UInt8 := [l.getD 0 0 - 32, l.getD 1 0, l.getD 2 0]
def okName (l : List UInt8) : Prop := 3 ≤ l.length ∧ 97 ≤ (l.getD 0 0).toNat ∧ (l.getD 0 0).toNat ≤ 122
theorem byte_at (l : List UInt8) (k : Nat) (h : k < l.length) : (⟨l.toArray⟩ : ByteArray)[k]'(by show k < l.toArray.size; simpa using h) = l.getD k 0 := by
  simp [List.getD, h, ByteArray.getElem_eq_getElem_data]
theorem name_any (l : List UInt8) (w : World) (h : okName l) : Calls Tryd.prog 42 #[.string ⟨l.toArray⟩] w fun e w' => e = .returned (.string ⟨(nameOf l).toArray⟩) ∧ Below w.heap.size w w' := by
  obtain ⟨hl, ha, hb⟩ := h
  have h0 := byte_at l 0 (by omega)
  have h1 := byte_at l 1 (by omega)
  have h2 := byte_at l 2 (by omega)
  unfold nameOf
  generalize l.getD 0 0 = a at *
  generalize l.getD 1 0 = b at *
  generalize l.getD 2 0 = c at *
  have ha2 : (97 : Int) ≤ a.toNat := by omega
  have hb2 : (a.toNat : Int) ≤ 122 := by omega
  clear ha hb
  have hl2 : 3 ≤ (l.length : Int) := by omega
  have b1 : (b.toNat : Int) ≤ 255 := by have := b.toNat_lt; omega
  have b0 : 0 ≤ (b.toNat : Int) := by omega
  have c1 : (c.toNat : Int) ≤ 255 := by have := c.toNat_lt; omega
  have c0 : 0 ≤ (c.toNat : Int) := by omega
  have RC := cv_three ((a.toNat : Int) - 97 + 65) (a - 32) b c w (by
    have : (32 : UInt8) ≤ a := by rw [UInt8.le_iff_toNat_le]; show 32 ≤ a.toNat; omega
    rw [UInt8.toNat_sub_of_le _ _ this]
    show (a.toNat : Int) - 97 + 65 = ((a.toNat - 32 : Nat) : Int)
    omega)
  go_enter Tryd.func42, Tryd.ntmps42
  go_wp2_with fail
  go_region
  go_wp2_with fail
  go_ret
  exact ⟨rfl, ((Below.refl _ _).alloc (Nat.le_refl _) _).drew⟩
theorem weekday_name : ∀ i, i < 7 → nameOf (weekdaysS.getD i []) = nam i ∧ okName (weekdaysS.getD i []) := by unfold okName; decide
end Go.Proofs.YtmkbfjklhejdnaaDoor
