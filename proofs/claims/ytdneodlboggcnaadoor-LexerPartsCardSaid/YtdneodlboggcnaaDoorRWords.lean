/-
  THE WALK of the document's Words.
-/
import Derived.Test.YtdneodlboggcnaaDoorLexW
import Derived.Test.YtdneodlboggcnaaDoorTail
namespace Go.Proofs.YtdneodlboggcnaaDoor
open Go Go.RowKit
theorem addLast_set (out : List (List UInt8)) (x : List UInt8) (c : UInt8) : strs (addLast (out ++ [x]) c) = (strs (out ++ [x])).set out.length (.string ⟨(x ++ [c]).toArray⟩) := by
  rw [addLast_snoc]
  unfold strs
  rw [List.map_append, List.map_append, List.set_append_right _ _ (by simp)]
  simp
theorem OwnS.addLast {w : World} {B g cap : Nat} {out : List (List UInt8)} {x : List UInt8} {p : Nat} (hp : out.length = p) (h : OwnS w B (.slice (some ⟨g, 0, none⟩) (p + 1) cap) (out ++ [x])) (c : UInt8) :
    OwnS (w.setCell ⟨g, p, none⟩ (.string ⟨(x ++ [c]).toArray⟩)) B (.slice (some ⟨g, 0, none⟩) (p + 1) cap) (Go.Proofs.YtdneodlboggcnaaDoor.addLast (out ++ [x]) c) := by
  subst hp
  have h2 : w.ownsRow B 9 1 (.slice (some ⟨g, 0, none⟩) (out.length + 1) cap) (out.length + 1) (strs (out ++ [x])) := by
    have := h
    unfold OwnS at this
    rw [List.length_append, List.length_singleton] at this
    exact this
  have := (h2.stored out.length (.string ⟨(x ++ [c]).toArray⟩)).1
  unfold OwnS
  rw [addLast_set]
  rw [show (Go.Proofs.YtdneodlboggcnaaDoor.addLast (out ++ [x]) c).length = out.length + 1 by rw [addLast_snoc]; simp]
  exact this
theorem addLast_len (out : List (List UInt8)) (x : List UInt8) (c : UInt8) : (addLast (out ++ [x]) c).length = out.length + 1 := by rw [addLast_snoc]; simp
theorem ba_app (a b : List UInt8) : (⟨a.toArray⟩ : ByteArray) ++ ⟨b.toArray⟩ = ⟨(a ++ b).toArray⟩ := by
  apply ByteArray.ext
  simp
theorem nob_lex {l : List UInt8} (h : l.any nob = true) : lexW l = (12, []) := lexW_any h
theorem rs_open {l : List UInt8} (h : l.any nob = false) {out : List (List UInt8)} (h2 : rs false false [] l = (out, true)) : lexW l = (12, []) := by
  unfold lexW
  rw [h, rs_lx, h2]
  rfl
theorem rs_many {l : List UInt8} (h : l.any nob = false) {out : List (List UInt8)} (h2 : rs false false [] l = (out, false)) (h3 : 32 < out.length) : lexW l = (14, []) := by
  unfold lexW
  rw [h, rs_lx, h2]
  simp [h3]
theorem rs_ok {l : List UInt8} (h : l.any nob = false) {out : List (List UInt8)} (h2 : rs false false [] l = (out, false)) (h3 : out.length ≤ 32) : lexW l = (0, out) := by
  unfold lexW
  rw [h, rs_lx, h2]
  simp
  omega
theorem own_snoc {w : World} {B : Nat} {v : Value} {out : List (List UInt8)} (h : OwnS w B v out) (hn : out ≠ []) : ∃ (pre : List (List UInt8)) (x : List UInt8) (g cap : Nat), out = pre ++ [x] ∧ v = .slice (some ⟨g, 0, none⟩) (pre.length + 1) cap ∧ B ≤ g ∧ g < w.heap.size ∧ w.cell? ⟨g, pre.length, none⟩ = some (.string ⟨x.toArray⟩) ∧ w.frozen? ⟨g, pre.length, none⟩ = false := by
  rcases List.eq_nil_or_concat out with rfl | ⟨pre, x, rfl⟩
  · exact absurd rfl hn
  · rw [List.concat_eq_append] at h ⊢
    have h' := h
    rcases h'.2 with ⟨_, h0⟩ | ⟨g, cap, cur, rfl, hg, hh, _⟩
    · simp at h0
    · refine ⟨pre, x, g, cap, rfl, by simp, hg, (Array.getElem?_eq_some_iff.1 hh).1, ?_, World.ownsRow.frozenAt h _⟩
      rw [World.ownsRow.cellAt h pre.length (by simp)]
      simp [strs]
theorem own_last {w : World} {B : Nat} {v : Value} {pre : List (List UInt8)} {x : List UInt8} (h : OwnS w B v (pre ++ [x])) : ∃ (g cap : Nat), v = .slice (some ⟨g, 0, none⟩) (pre.length + 1) cap ∧ B ≤ g ∧ g < w.heap.size ∧ w.cell? ⟨g, pre.length, none⟩ = some (.string ⟨x.toArray⟩) ∧ w.frozen? ⟨g, pre.length, none⟩ = false := by
  have h' := h
  rcases h'.2 with ⟨_, h0⟩ | ⟨g, cap, cur, rfl, hg, hh, _⟩
  · simp at h0
  · refine ⟨g, cap, by simp, hg, (Array.getElem?_eq_some_iff.1 hh).1, ?_, World.ownsRow.frozenAt h _⟩
    rw [World.ownsRow.cellAt h pre.length (by simp)]
    simp [strs]
theorem rw_fin {R : Ending → World → Prop} (a : Act) (v1 v2 : Value) (W : World) (hd : a.defers = []) (h1 : a.tmps.getD 2 undef = v1) (h2 : a.tmps.getD 3 undef = v2) (hR : R (.returned (.tuple #[v1, v2])) W) : bodyPost Tryd.prog Tryd.f8 R Exit.ret a W := by
  refine bodyPost_ret (results_tmp2 rfl _ _ _) hd ?_
  rw [h1, h2]
  exact hR
theorem byte_ne {y : UInt8} {n : Nat} (hn : n < 256) (h : y ≠ UInt8.ofNat n) : ((y.toNat : Int) == (n : Int)) = false := by
  rw [beq_eq_false_iff_ne]
  intro e
  apply h
  apply UInt8.toNat_inj.1
  rw [UInt8.toNat_ofNat']
  omega
set_option maxRecDepth 100000 in
set_option maxHeartbeats 4000000 in
theorem rwords_any (l : List UInt8) (w : World) (hl : l.length ≤ 1000) :
    Calls Tryd.prog 8 #[.string ⟨l.toArray⟩] w fun e w' => ∃ v, e = .returned (.tuple #[v, .int .i64 (lexW l).1]) ∧ SL w.heap.size w' v (lexW l).2 ∧ Below w.heap.size w w' := by
  have hl2 : (l.length : Int) ≤ 1000 := by omega
  go_enter Tryd.func8, Tryd.ntmps8
  go_wp2_with fail
  go_loopw [7] (fun v7 wr => ∃ i : Nat, v7 = .int .i64 i ∧ i ≤ l.length ∧ (l.take i).any nob = false ∧ wr = w) (fun v7 _ => (l.length - (intOf v7)).toNat)
  case atStart => exact ⟨0, rfl, by omega, rfl, rfl⟩
  case round =>
    obtain ⟨i, rfl, hi', hany, hw0⟩ := hrel
    obtain rfl : w = wr := hw0.symm
    have HAn := Lib.hid hany
    clear hany
    by_cases hi : i < l.length
    · skip
      obtain ⟨y, ey⟩ : ∃ y, l.getD i 0 = y := ⟨_, rfl⟩
      have hy := byte_at l i hi
      rw [ey] at hy
      have hy1 : (y.toNat : Int) ≤ 255 := by have := y.toNat_lt; omega
      have hy0 : 0 ≤ (y.toNat : Int) := by omega
      have hi2 : (i : Int) < (l.length : Int) := by omega
      have HDr := Lib.hid (show l.drop i = y :: l.drop (i + 1) by rw [List.drop_eq_getElem_cons hi, ← ey]; simp [List.getD, hi])
      have HGt := Lib.hid (show l[i]? = some y by rw [← ey]; simp [List.getD, hi])
      clear ey
      by_cases hb : nob y = true
      · have EV := Lib.hid (lexW_any (l := l) (List.any_eq_true.2 ⟨y, List.mem_of_getElem? HGt.out, hb⟩))
        have hb3 : y = 0 ∨ y = 10 ∨ y = 13 := by simpa [nob, or_assoc] using hb
        clear hb
        rcases hb3 with rfl | rfl | rfl
        · skip
          go_wp2_with fail
          go_ret2
          exact ⟨_, by rw [EV.out]; rfl, by rw [EV.out]; exact SL.nil _ _, Below.refl _ _⟩
        · skip
          go_wp2_with fail
          go_ret2
          exact ⟨_, by rw [EV.out]; rfl, by rw [EV.out]; exact SL.nil _ _, Below.refl _ _⟩
        · skip
          go_wp2_with fail
          go_ret2
          exact ⟨_, by rw [EV.out]; rfl, by rw [EV.out]; exact SL.nil _ _, Below.refl _ _⟩
      · have n0 := byte_ne (y := y) (n := 0) (by omega) (by rintro rfl; exact hb rfl)
        have n10 := byte_ne (y := y) (n := 10) (by omega) (by rintro rfl; exact hb rfl)
        have n13 := byte_ne (y := y) (n := 13) (by omega) (by rintro rfl; exact hb rfl)
        have HAn2 := Lib.hid (show (l.take (i + 1)).any nob = false by rw [List.take_add_one, HGt.out, List.any_append, HAn.out]; simpa using hb)
        clear hb
        push_cast at n0 n10 n13
        go_wp2_with fail
        go_roundw
        case rel => exact ⟨i + 1, rfl, by omega, HAn2.out, trivial⟩
        case measure => simp [intOf]; omega
    · obtain rfl : i = l.length := by omega
      have hA := HAn.out
      rw [List.take_length] at hA
      have HA := Lib.hid hA
      clear hA hi hi' HAn
      go_wp2_with fail
      go_loopw [4, 5, 6, 8] (fun v4 v5 v6 v8 w2 => ∃ (i : Nat) (inn q : Bool) (out : List (List UInt8)), v8 = .int .i64 i ∧ v5 = .bool inn ∧ v6 = .bool q ∧ OwnS w2 w.heap.size v4 out ∧ i ≤ l.length ∧ out.length ≤ i ∧ (∀ x ∈ out, x.length ≤ i) ∧ rs false false [] l = rs q inn out (l.drop i) ∧ (inn = true → out ≠ []) ∧ (q = true → out ≠ []) ∧ Below w.heap.size w w2) (fun _ _ _ v8 _ => (l.length - (intOf v8)).toNat)
      case atStart => exact ⟨0, false, false, [], rfl, rfl, rfl, World.ownsRow_nil _ _ _ _, by omega, by simp, (fun x h => by cases h), rfl, by simp, by simp, Below.refl _ _⟩
      case round =>
        obtain ⟨i, inn, q, out, rfl, rfl, rfl, hO, hi', hol, hxs, hrs, hin, hqn, hB⟩ := hrel
        have HO := Lib.hid hO
        have HXs := Lib.hid hxs
        have HRs := Lib.hid hrs
        have HIn := Lib.hid hin
        have HQn := Lib.hid hqn
        have HB := Lib.hid hB
        have hsz := hB.size
        clear hO hxs hrs hin hqn hB
        by_cases hi : i < l.length
        · skip
          obtain ⟨y, ey⟩ : ∃ y, l.getD i 0 = y := ⟨_, rfl⟩
          have hy := byte_at l i hi
          rw [ey] at hy
          have hy1 : (y.toNat : Int) ≤ 255 := by have := y.toNat_lt; omega
          have hy0 : 0 ≤ (y.toNat : Int) := by omega
          have hi2 : (i : Int) < (l.length : Int) := by omega
          have HDr := Lib.hid (show l.drop i = y :: l.drop (i + 1) by rw [List.drop_eq_getElem_cons hi, ← ey]; simp [List.getD, hi])
          have HGt := Lib.hid (show l[i]? = some y by rw [← ey]; simp [List.getD, hi])
          clear ey
          have hrs := HRs.out
          rw [HDr.out] at hrs
          cases q with
          | true =>
            by_cases h34 : y = 34
            · have HR2 := Lib.hid (show rs false false [] l = rs false inn out (l.drop (i + 1)) by rw [hrs, rs_t, if_pos h34])
              have q34 : ((y.toNat : Int) == 34) = true := by rw [h34]; rfl
              clear hrs h34
              go_wp2_with fail
              go_roundw
              case rel => exact ⟨i + 1, inn, false, out, rfl, rfl, rfl, HO.out, by omega, by omega, (fun x h => by have := HXs.out x h; omega), HR2.out, HIn.out, (fun h => by cases h), HB.out⟩
              case measure => simp [intOf]; omega
            · have q34 := byte_ne (y := y) (n := 34) (by omega) h34
              push_cast at q34
              obtain ⟨pre, x, g, cap, rfl, rfl, hg, hglt, hcl, hfz⟩ := own_snoc HO.out (HQn.out rfl)
              have HR2 := Lib.hid (show rs false false [] l = rs true inn (addLast (pre ++ [x]) y) (l.drop (i + 1)) by rw [hrs, rs_t, if_neg h34])
              have HNe := Lib.hid (show addLast (pre ++ [x]) y ≠ [] by rw [addLast_snoc]; simp)
              clear hrs h34
              have hxl : x.length ≤ 1000 := by have := HXs.out x (by simp); omega
              have hpl : pre.length + 1 ≤ 1001 := by simp at hol; omega
              obtain ⟨p, hp⟩ : ∃ p, pre.length = p := ⟨_, rfl⟩
              have HP := Lib.hid hp
              rw [hp] at hcl hfz hpl HO ⊢
              have hpi : (p : Int) + 1 ≤ 1001 := by omega
              have XE := ext_mid l i (i + 1)
              rw [show (l.take (i + 1)).drop i = [y] by rw [List.take_add_one, HGt.out, List.drop_append_of_le_length (by simp; omega)]; simp] at XE
              have hw1 : IntKind.i64.wrap ((i : Int) + 1) = (i : Int) + 1 := IntWalk.i64_in _ ⟨by omega, by omega⟩
              have hw2 : IntKind.i64.wrap ((p : Int) + 1 - 1) = (p : Int) := by rw [show (p : Int) + 1 - 1 = p by omega]; exact IntWalk.i64_in _ ⟨by omega, by omega⟩
              clear hp
              go_wp2_with fail
              have bc := bw_cell hcl
              have bs1 : (i : Int) ≤ (i : Int) + 1 := by omega
              have bs2 : (i : Int) + 1 ≤ (l.length : Int) := by omega
              have bs3 : 0 ≤ (i : Int) + 1 := by omega
              have bs4 : i ≤ i + 1 := by omega
              have bs5 : i + 1 ≤ l.length := by omega
              have bs6 : ((i : Int) + 1).toNat = i + 1 := by omega
              have hne := bw_ne wr
              refine wp_region_bw_tail 17 (by kernel_rfl) (by kernel_rfl) ?_
              simp only [List.take_succ_cons, List.take_zero, List.drop_succ_cons, List.drop_zero]
              repeat (go_big_quiet_step (rfl))
              refine wpQuiet_nil ?_
              rintro W3 ⟨v3, e3⟩
              have hb3 := v3.2
              rw [← e3] at hb3
              have HO3 := Lib.hid (OwnS.dirt HO.out (Dirt.of_below (D := fun _ => False) hb3) (fun _ h => h.elim))
              have hcl3 := (hb3.cell (p := ⟨g, p, none⟩) hglt).trans hcl
              have hfz3 := (hb3.frozen (p := ⟨g, p, none⟩) hglt).trans hfz
              have HB3 := Lib.hid (HB.out.trans (hb3.mono hsz))
              clear e3 v3 hb3 bc hne hcl hfz
              go_wp2_with fail
              go_roundw
              case rel =>
                refine ⟨i + 1, inn, true, addLast (pre ++ [x]) y, rfl, rfl, rfl, OwnS.addLast HP.out HO3.out y, by omega, ?_, ?_, HR2.out, (fun _ => HNe.out), (fun _ => HNe.out), HB3.out.setCell (by simp only; omega) _⟩
                · rw [addLast_len]; have := hol; simp at this; omega
                · intro z hz
                  rw [addLast_snoc] at hz
                  rcases List.mem_append.1 hz with hz | hz
                  · have := HXs.out z (by simp [hz]); omega
                  · obtain rfl : z = x ++ [y] := by simpa using hz
                    have := HXs.out x (by simp)
                    simp; omega
              case measure => simp [intOf]; omega
          | false =>
            by_cases h35 : y = 35
            · have HR2 := Lib.hid (show rs false false [] l = (out, false) by rw [hrs, h35]; rfl)
              have q35 : ((y.toNat : Int) == 35) = true := by rw [h35]; rfl
              clear hrs h35
              go_wp2_with fail
              obtain ⟨ad, cap, hv, hsl⟩ := HO.out.sl
              have HSl := Lib.hid HO.out.sl
              obtain ⟨N, hN⟩ : ∃ N, out.length = N := ⟨_, rfl⟩
              have HN := Lib.hid hN
              rw [hN] at hv
              subst hv
              clear hN hsl
              by_cases hm : 32 < N
              · have EV := Lib.hid (rs_many HA.out HR2.out (by rw [HN.out]; exact hm))
                have hm2 : 32 < (N : Int) := by omega
                clear hm
                go_wp2_with fail
                (try go_simp); (try go_wp2_with fail); go_ret2
                exact ⟨_, by rw [EV.out]; rfl, by rw [EV.out]; exact SL.nil _ _, HB.out⟩
              · have EV := Lib.hid (rs_ok HA.out HR2.out (by rw [HN.out]; omega))
                have hm2 : (N : Int) ≤ 32 := by omega
                clear hm
                go_wp2_with fail
                (try go_simp); (try go_wp2_with fail); go_ret2
                exact ⟨_, by rw [EV.out]; rfl, by rw [EV.out]; exact HSl.out, HB.out⟩
            · have q35 := byte_ne (y := y) (n := 35) (by omega) h35
              push_cast at q35
              by_cases hg : gp y = true
              · have HR2 := Lib.hid (show rs false false [] l = rs false false out (l.drop (i + 1)) by
                  rw [hrs]
                  conv => lhs; unfold rs
                  rw [if_neg h35, if_pos hg])
                have hg2 : y = 32 ∨ y = 9 := by simpa [gp] using hg
                clear hrs h35 hg
                rcases hg2 with rfl | rfl
                · go_wp2_with fail
                  go_roundw
                  case rel => exact ⟨i + 1, false, false, out, rfl, rfl, rfl, HO.out, by omega, by omega, (fun x h => by have := HXs.out x h; omega), HR2.out, (fun h => by cases h), (fun h => by cases h), HB.out⟩
                  case measure => simp [intOf]; omega
                · go_wp2_with fail
                  go_roundw
                  case rel => exact ⟨i + 1, false, false, out, rfl, rfl, rfl, HO.out, by omega, by omega, (fun x h => by have := HXs.out x h; omega), HR2.out, (fun h => by cases h), (fun h => by cases h), HB.out⟩
                  case measure => simp [intOf]; omega
              · have q32 := byte_ne (y := y) (n := 32) (by omega) (by rintro rfl; exact hg rfl)
                have q9 := byte_ne (y := y) (n := 9) (by omega) (by rintro rfl; exact hg rfl)
                push_cast at q32 q9
                have hrs2 : rs false false [] l = if y = 34 then rs true true (if inn then out else out ++ [[]]) (l.drop (i + 1)) else rs false true (addLast (if inn then out else out ++ [[]]) y) (l.drop (i + 1)) := by
                  rw [hrs]
                  conv => lhs; unfold rs
                  rw [if_neg h35, if_neg hg]
                clear hrs h35 hg
                cases inn with
                | true =>
                  rw [if_pos rfl] at hrs2
                  by_cases h34 : y = 34
                  · have HR2 := Lib.hid (show rs false false [] l = rs true true out (l.drop (i + 1)) by rw [hrs2, if_pos h34])
                    have q34 : ((y.toNat : Int) == 34) = true := by rw [h34]; rfl
                    clear hrs2 h34
                    go_wp2_with fail
                    go_roundw
                    case rel => exact ⟨i + 1, true, true, out, rfl, rfl, rfl, HO.out, by omega, by omega, (fun x h => by have := HXs.out x h; omega), HR2.out, HIn.out, (fun _ => HIn.out rfl), HB.out⟩
                    case measure => simp [intOf]; omega
                  · have q34 := byte_ne (y := y) (n := 34) (by omega) h34
                    push_cast at q34
                    obtain ⟨pre, x, g, cap, rfl, rfl, hg, hglt, hcl, hfz⟩ := own_snoc HO.out (HIn.out rfl)
                    have HR2 := Lib.hid (show rs false false [] l = rs false true (addLast (pre ++ [x]) y) (l.drop (i + 1)) by rw [hrs2, if_neg h34])
                    have HNe := Lib.hid (show addLast (pre ++ [x]) y ≠ [] by rw [addLast_snoc]; simp)
                    clear hrs2 h34
                    have hxl : x.length ≤ 1000 := by have := HXs.out x (by simp); omega
                    have hpl : pre.length + 1 ≤ 1001 := by simp at hol; omega
                    obtain ⟨p, hp⟩ : ∃ p, pre.length = p := ⟨_, rfl⟩
                    have HP := Lib.hid hp
                    rw [hp] at hcl hfz hpl HO ⊢
                    have hpi : (p : Int) + 1 ≤ 1001 := by omega
                    have XE := ext_mid l i (i + 1)
                    rw [show (l.take (i + 1)).drop i = [y] by rw [List.take_add_one, HGt.out, List.drop_append_of_le_length (by simp; omega)]; simp] at XE
                    have hw1 : IntKind.i64.wrap ((i : Int) + 1) = (i : Int) + 1 := IntWalk.i64_in _ ⟨by omega, by omega⟩
                    have hw2 : IntKind.i64.wrap ((p : Int) + 1 - 1) = (p : Int) := by rw [show (p : Int) + 1 - 1 = p by omega]; exact IntWalk.i64_in _ ⟨by omega, by omega⟩
                    clear hp
                    go_wp2_with fail
                    have bc := bw_cell hcl
                    have bs1 : (i : Int) ≤ (i : Int) + 1 := by omega
                    have bs2 : (i : Int) + 1 ≤ (l.length : Int) := by omega
                    have bs3 : 0 ≤ (i : Int) + 1 := by omega
                    have bs4 : i ≤ i + 1 := by omega
                    have bs5 : i + 1 ≤ l.length := by omega
                    have bs6 : ((i : Int) + 1).toNat = i + 1 := by omega
                    have hne := bw_ne wr
                    refine wp_region_bw_tail 17 (by kernel_rfl) (by kernel_rfl) ?_
                    simp only [List.take_succ_cons, List.take_zero, List.drop_succ_cons, List.drop_zero]
                    repeat (go_big_quiet_step (rfl))
                    refine wpQuiet_nil ?_
                    rintro W3 ⟨v3, e3⟩
                    have hb3 := v3.2
                    rw [← e3] at hb3
                    have HO3 := Lib.hid (OwnS.dirt HO.out (Dirt.of_below (D := fun _ => False) hb3) (fun _ h => h.elim))
                    have hcl3 := (hb3.cell (p := ⟨g, p, none⟩) hglt).trans hcl
                    have hfz3 := (hb3.frozen (p := ⟨g, p, none⟩) hglt).trans hfz
                    have HB3 := Lib.hid (HB.out.trans (hb3.mono hsz))
                    clear e3 v3 hb3 bc hne hcl hfz
                    go_wp2_with fail
                    go_roundw
                    case rel =>
                      refine ⟨i + 1, true, false, addLast (pre ++ [x]) y, rfl, rfl, rfl, OwnS.addLast HP.out HO3.out y, by omega, ?_, ?_, HR2.out, (fun _ => HNe.out), (fun _ => HNe.out), HB3.out.setCell (by simp only; omega) _⟩
                      · rw [addLast_len]; have := hol; simp at this; omega
                      · intro z hz
                        rw [addLast_snoc] at hz
                        rcases List.mem_append.1 hz with hz | hz
                        · have := HXs.out z (by simp [hz]); omega
                        · obtain rfl : z = x ++ [y] := by simpa using hz
                          have := HXs.out x (by simp)
                          simp; omega
                    case measure => simp [intOf]; omega
                | false =>
                  simp only [Bool.false_eq_true, if_false] at hrs2
                  have HRs2 := Lib.hid hrs2
                  clear hrs2
                  have cn : (wr.alloc (.cells #[.string ⟨#[]⟩] 9)).cell? ⟨wr.heap.size, 0, none⟩ = some (.string ⟨([] : List UInt8).toArray⟩) := World.cell?_alloc_mark wr _ _ _ 0
                  by_cases h34 : y = 34
                  · have HR2 := Lib.hid (show rs false false [] l = rs true true (out ++ [[]]) (l.drop (i + 1)) by rw [HRs2.out, if_pos h34])
                    have q34 : ((y.toNat : Int) == 34) = true := by rw [h34]; rfl
                    clear h34
                    go_wp2_with (at_builtin; go_loud (refine wpList_append_str rfl _ _ rfl w.heap.size _ out [] (by rfl) (World.ownsRow.alloc HO.out _) wr.heap.size 1 (by rfl) cn (by omega) (by simp only [World.size_alloc]; omega) ?_))
                    intro v2 w2 hown2 hb2
                    have HO2 := Lib.hid hown2
                    have HB2 := Lib.hid ((HB.out.alloc hsz _).trans hb2)
                    have HXs2 := Lib.hid (show ∀ x ∈ out ++ [[]], x.length ≤ i from fun x hx => by
                      rcases List.mem_append.1 hx with hx | hx
                      · exact HXs.out x hx
                      · obtain rfl : x = [] := by simpa using hx
                        simp)
                    clear hown2 hb2 cn
                    go_wp2_with fail
                    go_roundw
                    case rel => exact ⟨i + 1, true, true, out ++ [[]], rfl, rfl, rfl, HO2.out, by omega, by simp; omega, (fun x h => by have := HXs2.out x h; omega), HR2.out, (fun _ => by simp), (fun _ => by simp), HB2.out⟩
                    case measure => simp [intOf]; omega
                  · have q34 := byte_ne (y := y) (n := 34) (by omega) h34
                    push_cast at q34
                    have HR2 := Lib.hid (show rs false false [] l = rs false true (addLast (out ++ [[]]) y) (l.drop (i + 1)) by rw [HRs2.out, if_neg h34])
                    have HNe := Lib.hid (show addLast (out ++ [[]]) y ≠ [] by rw [addLast_snoc]; simp)
                    clear h34
                    go_wp2_with (at_builtin; go_loud (refine wpList_append_str rfl _ _ rfl w.heap.size _ out [] (by rfl) (World.ownsRow.alloc HO.out _) wr.heap.size 1 (by rfl) cn (by omega) (by simp only [World.size_alloc]; omega) ?_))
                    intro v2 w2 hown2 hb2
                    have HO2 := Lib.hid hown2
                    have HB2 := Lib.hid ((HB.out.alloc hsz _).trans hb2)
                    have HXs2 := Lib.hid (show ∀ x ∈ out ++ [[]], x.length ≤ i from fun x hx => by
                      rcases List.mem_append.1 hx with hx | hx
                      · exact HXs.out x hx
                      · obtain rfl : x = [] := by simpa using hx
                        simp)
                    clear hown2 hb2 cn
                    obtain ⟨g, cap, rfl, hg, hglt, hcl, hfz⟩ := own_last HO2.out
                    have HOo := HO
                    clear HO HXs HB hsz
                    have HO := HO2
                    have HXs := HXs2
                    have HB := HB2
                    have hsz := HB2.out.size
                    obtain ⟨pre, hpre⟩ : ∃ pre, out = pre := ⟨_, rfl⟩
                    obtain ⟨x, hx⟩ : ∃ x : List UInt8, [] = x := ⟨_, rfl⟩
                    rw [hpre, hx] at HO HXs HR2 HNe
                    rw [hpre] at hcl hfz ⊢
                    rw [hx] at hcl
                    have hol : (pre ++ [x]).length ≤ i + 1 := by rw [← hpre]; simp; omega
                    clear hpre hx HO2 HXs2 HB2
                    have hxl : x.length ≤ 1000 := by have := HXs.out x (by simp); omega
                    have hpl : pre.length + 1 ≤ 1001 := by simp at hol; omega
                    obtain ⟨p, hp⟩ : ∃ p, pre.length = p := ⟨_, rfl⟩
                    have HP := Lib.hid hp
                    rw [hp] at hcl hfz hpl HO ⊢
                    have hpi : (p : Int) + 1 ≤ 1001 := by omega
                    have XE := ext_mid l i (i + 1)
                    rw [show (l.take (i + 1)).drop i = [y] by rw [List.take_add_one, HGt.out, List.drop_append_of_le_length (by simp; omega)]; simp] at XE
                    have hw1 : IntKind.i64.wrap ((i : Int) + 1) = (i : Int) + 1 := IntWalk.i64_in _ ⟨by omega, by omega⟩
                    have hw2 : IntKind.i64.wrap ((p : Int) + 1 - 1) = (p : Int) := by rw [show (p : Int) + 1 - 1 = p by omega]; exact IntWalk.i64_in _ ⟨by omega, by omega⟩
                    clear hp
                    go_wp2_with fail
                    have bc := bw_cell hcl
                    have bs1 : (i : Int) ≤ (i : Int) + 1 := by omega
                    have bs2 : (i : Int) + 1 ≤ (l.length : Int) := by omega
                    have bs3 : 0 ≤ (i : Int) + 1 := by omega
                    have bs4 : i ≤ i + 1 := by omega
                    have bs5 : i + 1 ≤ l.length := by omega
                    have bs6 : ((i : Int) + 1).toNat = i + 1 := by omega
                    have hne := bw_ne w2
                    refine wp_region_bw_tail 17 (by kernel_rfl) (by kernel_rfl) ?_
                    simp only [List.take_succ_cons, List.take_zero, List.drop_succ_cons, List.drop_zero]
                    repeat (go_big_quiet_step (rfl))
                    refine wpQuiet_nil ?_
                    rintro W3 ⟨v3, e3⟩
                    have hb3 := v3.2
                    rw [← e3] at hb3
                    have HO3 := Lib.hid (OwnS.dirt HO.out (Dirt.of_below (D := fun _ => False) hb3) (fun _ h => h.elim))
                    have hcl3 := (hb3.cell (p := ⟨g, p, none⟩) hglt).trans hcl
                    have hfz3 := (hb3.frozen (p := ⟨g, p, none⟩) hglt).trans hfz
                    have HB3 := Lib.hid (HB.out.trans (hb3.mono hsz))
                    clear e3 v3 hb3 bc hne hcl hfz
                    go_wp2_with fail
                    go_roundw
                    case rel =>
                      refine ⟨i + 1, true, false, addLast (pre ++ [x]) y, rfl, rfl, rfl, OwnS.addLast HP.out HO3.out y, by omega, ?_, ?_, HR2.out, (fun _ => HNe.out), (fun _ => HNe.out), HB3.out.setCell (by simp only; omega) _⟩
                      · rw [addLast_len]; have := hol; simp at this; omega
                      · intro z hz
                        rw [addLast_snoc] at hz
                        rcases List.mem_append.1 hz with hz | hz
                        · have := HXs.out z (by simp [hz]); omega
                        · obtain rfl : z = x ++ [y] := by simpa using hz
                          have := HXs.out x (by simp)
                          simp; omega
                    case measure => simp [intOf]; omega
        · obtain rfl : i = l.length := by omega
          have hrs := HRs.out
          rw [List.drop_length] at hrs
          cases q with
          | true =>
            have EV := Lib.hid (rs_open HA.out (by rw [hrs]; rfl))
            clear hrs
            go_wp2_with fail
            go_ret2
            exact ⟨_, by rw [EV.out]; rfl, by rw [EV.out]; exact SL.nil _ _, HB.out⟩
          | false =>
            have HR2 := Lib.hid (show rs false false [] l = (out, false) by rw [hrs]; rfl)
            clear hrs
            obtain ⟨ad, cap, hv, hsl⟩ := HO.out.sl
            have HSl := Lib.hid HO.out.sl
            obtain ⟨N, hN⟩ : ∃ N, out.length = N := ⟨_, rfl⟩
            have HN := Lib.hid hN
            rw [hN] at hv
            subst hv
            clear hN hsl
            by_cases hm : 32 < N
            · have EV := Lib.hid (rs_many HA.out HR2.out (by rw [HN.out]; exact hm))
              have hm2 : 32 < (N : Int) := by omega
              clear hm
              go_wp2_with fail
              go_ret2
              exact ⟨_, by rw [EV.out]; rfl, by rw [EV.out]; exact SL.nil _ _, HB.out⟩
            · have EV := Lib.hid (rs_ok HA.out HR2.out (by rw [HN.out]; omega))
              have hm2 : (N : Int) ≤ 32 := by omega
              clear hm
              go_wp2_with fail
              go_ret2
              exact ⟨_, by rw [EV.out]; rfl, by rw [EV.out]; exact HSl.out, HB.out⟩
end Go.Proofs.YtdneodlboggcnaaDoor
