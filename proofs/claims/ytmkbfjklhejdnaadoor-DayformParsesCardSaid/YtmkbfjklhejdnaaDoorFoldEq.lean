/-
  THE WALK of strings.EqualFold beyond ASCII: four bytes, the n-th of them the first that is no ASCII, against four ASCII letters: not equal.
-/
import Derived.Test.YtmkbfjklhejdnaaDoorFold
import Derived.Laws.RangeString
import Derived.Laws.RangeAny
import Derived.Laws.Strings3
import Derived.Lib.DecodeNEq
import Derived.Lib.Strings
import Derived.Lib.Fold
import Derived.Deep.LoopGhost
import Derived.WalkMore
namespace Go.Proofs.YtmkbfjklhejdnaaDoor
open Go Go.RowKit
set_option maxRecDepth 100000 in
set_option maxHeartbeats 4000000 in
theorem ef_high (s T S T1 : ByteArray) (n m : Nat) (y : UInt8) (c : Nat → Int) (R : Nat) (w : World) (hs : (s.size : Int) = 4) (hT : (T.size : Int) = 4) (hn : n < 4)
    (hlow : ∀ j (h : j < s.size), j < n → (s[j]).toNat < 128) (hhi : ∀ h, 128 ≤ (s[n]'h).toNat) (hTl : ∀ j (h : j < T.size), (T[j]).toNat < 128)
    (hS : s.extract n s.size = S) (hT1 : T.extract n T.size = T1) (hS0 : 0 < S.size) (hT10 : 1 ≤ T1.size) (hy : T1.data.toList[0]? = some y) (hy8 : y.toNat < 128)
    (hR : (Utf8.decode S 0).1 = R) (hR1 : 128 ≤ R) (hR2 : R ≤ 1114111)
    (hend : c m = (R : Int) → (Utf8.decode S 0).2 = S.size ∧ 2 ≤ T1.size)
    (hsf0 : ∀ W, Below w.heap.size w W → Calls Tryd.prog 47 #[.int .i32 y.toNat] W fun e w' => e = .returned (.int .i32 (c 0)) ∧ W = w')
    (hsf : ∀ W j, j < m → Below w.heap.size w W → Calls Tryd.prog 47 #[.int .i32 (c j)] W fun e w' => e = .returned (.int .i32 (c (j + 1))) ∧ W = w')
    (hc1 : ∀ j, j < m → (c j != (y.toNat : Int)) = true ∧ c j < (R : Int)) (hc2 : (c m != (y.toNat : Int)) = false ∨ ((c m != (y.toNat : Int)) = true ∧ decide (c m < (R : Int)) = false)) :
    Calls Tryd.prog 25 #[.string s, .string T] w fun e w' => e = .returned (.bool false) ∧ Below w.heap.size w w' := by
  have HL := Lib.hid hlow
  have HH := Lib.hid hhi
  have HTL := Lib.hid hTl
  have HS := Lib.hid hS
  have HT1 := Lib.hid hT1
  have HY := Lib.hid hy
  have HR := Lib.hid hR
  have HE := Lib.hid hend
  have HF0 := Lib.hid hsf0
  have HF := Lib.hid hsf
  have HC1 := Lib.hid hc1
  have HC2 := Lib.hid hc2
  have hn4 : (n : Int) < 4 := by omega
  have HSZ := Lib.hid (show s.size = 4 by omega)
  have HTZ := Lib.hid (show T.size = 4 by omega)
  clear hlow hhi hTl hS hT1 hy hR hend hsf0 hsf hc1 hc2
  go_enter Tryd.func25, Tryd.ntmps25
  go_wp2_with fail
  refine wp_scope_jumps 0 (fun a' w' => w' = w ∧ ∃ (u4 u7 u8 u14 u15 u16 u17 u18 u19 u20 u21 u22 u23 u24 u25 u26 u27 u28 u29 u30 u31 u32 u33 u34 u35 u36 u37 u38 u39 u40 u41 u42 u43 u44 u45 u46 u47 u48 u49 u50 u51 u52 u53 u54 : Value), a' = { tmps := #[.string s, .string T, undef, undef, u4, .int .i64 n, .int .i64 4, u7, u8, undef, undef, undef, undef, undef, u14, u15, u16, u17, u18, u19, u20, u21, u22, u23, u24, u25, u26, u27, u28, u29, u30, u31, u32, u33, u34, u35, u36, u37, u38, u39, u40, u41, u42, u43, u44, u45, u46, u47, u48, u49, u50, u51, u52, u53, u54, undef, undef, undef, undef, undef, undef, undef, undef, undef, undef, undef, undef, undef, undef, undef, undef, undef, undef, undef, undef, undef, undef, undef, undef, undef, undef, undef, undef, undef, undef, undef, undef, undef, undef, undef, undef, undef, undef, undef, undef, undef, undef, undef, undef, undef, undef, undef, undef, undef, undef, undef, undef, undef, undef, undef, undef, undef, undef, undef, undef, undef, undef, undef, undef, undef, undef, undef, undef], defers := [] }) (fun _ _ => 0) rfl ?_ ?_
  case _ =>
   go_wp2_with fail
   go_loopg [5, 7, 8] n (fun g v5 _ _ wx => w = wx ∧ ∃ k : Nat, k + g = n ∧ v5 = .int .i64 k)
   case atStart => exact ⟨rfl, 0, by omega, rfl⟩
   case round =>
     obtain ⟨rfl, k, hkg, rfl⟩ := hrel
     have k4 : (k : Int) < 4 := by omega
     have ks := HSZ.out
     have kt := HTZ.out
     obtain ⟨x, hx⟩ : ∃ x : UInt8, s[k]'(by omega) = x := ⟨_, rfl⟩
     obtain ⟨z, hz⟩ : ∃ z : UInt8, T[k]'(by omega) = z := ⟨_, rfl⟩
     have hz128 : z.toNat < 128 := by rw [← hz]; exact HTL.out k (by omega)
     have hx256 : x.toNat < 256 := x.toNat_lt
     have hor : bits .or .u8 (x.toNat : Int) (z.toNat : Int) = ((x.toNat ||| z.toNat : Nat) : Int) := u8_or_nat _ _ (by omega) (by omega)
     clear ks kt
     cases gk with
     | succ g =>
       have hx128 : x.toNat < 128 := by rw [← hx]; exact HL.out k (by have := HSZ.out; omega) (by omega)
       have hor128 : ¬ ((128 : Int) ≤ ((x.toNat ||| z.toNat : Nat) : Int)) := by have := Nat.or_lt_two_pow (n := 7) hx128 hz128; omega
       go_wp2_with fail
       all_goals first
         | (go_roundg g
            case measure => omega
            case rel => exact ⟨rfl, k + 1, by omega, by first | rfl | simp⟩)
         | (simp only [Exit.jump]
            go_ret
            exact ⟨rfl, Below.refl _ _⟩)
     | zero =>
       obtain rfl : k = n := by omega
       have hx128 : 128 ≤ x.toNat := by rw [← hx]; exact HH.out (by have := HSZ.out; omega)
       have hor128 : (128 : Int) ≤ ((x.toNat ||| z.toNat : Nat) : Int) := by have := @Nat.left_le_or x.toNat z.toNat; omega
       go_wp2_with fail
       go_step3
       exact ⟨rfl, rfl, _, _, _, _, _, _, _, _, _, _, _, _, _, _, _, _, _, _, _, _, _, _, _, _, _, _, _, _, _, _, _, _, _, _, _, _, _, _, _, _, _, _, _, _, rfl⟩
  case _ =>
   rintro a' w' ⟨rfl, u4, u7, u8, u14, u15, u16, u17, u18, u19, u20, u21, u22, u23, u24, u25, u26, u27, u28, u29, u30, u31, u32, u33, u34, u35, u36, u37, u38, u39, u40, u41, u42, u43, u44, u45, u46, u47, u48, u49, u50, u51, u52, u53, u54, rfl⟩
   go_wp2_with fail
   rw [HS.out, HT1.out]
   have ht0 : ((T1.size : Int) == 0) = false := by rw [beq_eq_false_iff_ne]; omega
   have ht1 : 1 ≤ (T1.size : Int) := by omega
   have yR : ((y.toNat : Int) == (R : Int)) = false := by rw [beq_eq_false_iff_ne]; omega
   have yR2 : (y.toNat : Int) < (R : Int) := by omega
   have R1 : ¬ ((R : Int) < 128) := by omega
   have hi0 : (w'.iter S 0).heap[w'.heap.size]? = some (.stringIter S 0) := heap_alloc_new w' _
   go_loopw [1, 10, 11, 12, 13] (fun v1 _ _ _ _ wr => Below w'.heap.size w' wr ∧ ((v1 = .string T1 ∧ wr.heap[w'.heap.size]? = some (.stringIter S 0)) ∨ ∃ T2 : ByteArray, v1 = .string T2 ∧ 1 ≤ T2.size ∧ wr.heap[w'.heap.size]? = some (.stringIter S S.size))) (fun _ _ _ _ _ wr => S.size - wr.iterPos w'.heap.size)
   case atStart => exact ⟨(Below.refl _ _).alloc (Nat.le_refl _) _, Or.inl ⟨rfl, hi0⟩⟩
   case round =>
     clear hi0
     obtain ⟨hbl, ⟨rfl, hit⟩ | ⟨T2, rfl, hT2, hit⟩⟩ := hrel
     · have HB := Lib.hid hbl
       have HI := Lib.hid hit
       have HPs := Lib.hid (show wr.iterPos w'.heap.size = 0 by unfold World.iterPos; rw [hit])
       have hnx := fun ty => Lib.run_next_any_at (P := Tryd.prog) wr w'.heap.size S 0 ty HI.out hS0
       obtain ⟨wd, hwd⟩ : ∃ wd, (Utf8.decode S 0).2 = wd := ⟨_, rfl⟩
       rw [HR.out, hwd] at hnx
       have HW := Lib.hid hwd
       clear hbl hit hwd
       go_wp2_with fail
       refine (Tryd.utf8_DecodeRuneInString_ascii T1 y _ HY.out hy8).mono ?_
       rintro e W1 ⟨rfl, rfl⟩
       go_wp2_with fail
       refine (HF0.out _ (Lib.below_iterAt HB.out (Nat.le_refl _) _ _)).mono ?_
       rintro e W2 ⟨rfl, rfl⟩
       go_wp2_with fail
       generalize hWW : wr.iterAt w'.heap.size S wd = WW
       have HBW := Lib.hid (show Below w'.heap.size w' WW from hWW ▸ Lib.below_iterAt HB.out (Nat.le_refl _) _ _)
       have HIW := Lib.hid (show WW.heap[w'.heap.size]? = some (.stringIter S wd) from hWW ▸ Lib.iterAt_heap _ _ _ _ _ HI.out)
       clear hWW
       go_loopg [13] m (fun g v13 wx => WW = wx ∧ ∃ j : Nat, j + g = m ∧ v13 = .int .i32 (c j))
       case atStart => exact ⟨rfl, 0, by omega, rfl⟩
       case round =>
         obtain ⟨rfl, j, hjm, rfl⟩ := hrel
         cases gk with
         | succ g =>
           have h1 := (HC1.out j (by omega)).1
           have h2 := (HC1.out j (by omega)).2
           go_wp2_with fail
           refine (HF.out _ j (by omega) HBW.out).mono ?_
           rintro e W3 ⟨rfl, rfl⟩
           go_wp2_with fail
           go_roundg g
           case measure => omega
           case rel => exact ⟨rfl, j + 1, by omega, rfl⟩
         | zero =>
           obtain rfl : j = m := by omega
           have HE2 := HE.out
           rw [HW.out] at HE2
           have HE3 := Lib.hid HE2
           clear HE2
           cases hq : (c j == (R : Int)) with
           | false =>
             rcases HC2.out with h2 | ⟨h2, h3⟩
             · go_wp2_with fail
               simp only [Exit.jump]
               go_ret
               exact ⟨rfl, HBW.out⟩
             · go_wp2_with fail
               simp only [Exit.jump]
               go_ret
               exact ⟨rfl, HBW.out⟩
           | true =>
             have HQ := Lib.hid (HE3.out (beq_iff_eq.1 hq))
             have hrd : Below w'.heap.size w' WW ∧ ((Value.string (T1.extract 1 T1.size) = .string T1 ∧ WW.heap[w'.heap.size]? = some (.stringIter S 0)) ∨ ∃ T2 : ByteArray, Value.string (T1.extract 1 T1.size) = .string T2 ∧ 1 ≤ T2.size ∧ WW.heap[w'.heap.size]? = some (.stringIter S S.size)) :=
               ⟨HBW.out, Or.inr ⟨_, rfl, by rw [ByteArray.size_extract]; have := HQ.out.2; omega, by rw [HIW.out, HQ.out.1]⟩⟩
             have hms : S.size - WW.iterPos w'.heap.size < S.size - wr.iterPos w'.heap.size := by
               rw [HPs.out, show WW.iterPos w'.heap.size = wd by unfold World.iterPos; rw [HIW.out]]
               have := HQ.out.1
               omega
             have HRD := Lib.hid hrd
             have HMS := Lib.hid hms
             clear hrd hms
             rcases HC2.out with h2 | ⟨h2, h3⟩
             · go_wp2_with fail
               go_roundw
               case rel => exact HRD.out
               case measure => exact HMS.out
             · go_wp2_with fail
               go_roundw
               case rel => exact HRD.out
               case measure => exact HMS.out
     · have hnx := fun ty => Lib.run_next_end_at (P := Tryd.prog) wr w'.heap.size S S.size ty hit (by omega)
       have ht2 : ((T2.size : Int) == 0) = false := by rw [beq_eq_false_iff_ne]; omega
       have HB := Lib.hid hbl
       clear hit hbl
       go_wp2_with fail
       simp only [Exit.jump]
       go_ret
       exact ⟨rfl, HB.out⟩
end Go.Proofs.YtmkbfjklhejdnaaDoor
