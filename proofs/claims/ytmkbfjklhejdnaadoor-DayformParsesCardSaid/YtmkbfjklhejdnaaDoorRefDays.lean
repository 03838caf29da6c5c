/-
  THE WALKS of the document's answer for civil, with loops: which day a date is.
-/
import Derived.Test.YtmkbfjklhejdnaaDoorRefCiv
namespace Go.Proofs.YtmkbfjklhejdnaaDoor
open Go Go.RowKit CivM NumM

theorem vint {a b : Int} (h : a = b) : Value.int .i64 a = .int .i64 b := by rw [h]
set_option maxHeartbeats 2000000 in
theorem rstart_any (y : Int) (w : World) (h1 : -100000 ≤ y) (h2 : y ≤ 100000) :
    Calls Tryd.prog 52 #[.int .i64 y] w fun e w' => e = .returned (.int .i64 (dy y)) ∧ w = w' := by
  go_enter Tryd.func52, Tryd.ntmps52
  go_wp2_with fail
  go_loopw [3, 4] (fun nv av wr => ∃ a : Int, nv = .int .i64 (dy a) ∧ av = .int .i64 a ∧ -100000 ≤ a ∧ a ≤ 100000 ∧ w = wr) (fun _ av _ => (y - intOf av).toNat)
  case atStart => exact ⟨1970, vint dy_1970.symm, rfl, by omega, by omega, rfl⟩
  case round =>
    obtain ⟨a, rfl, rfl, a1, a2, rfl⟩ := hrel
    have b := dy_bd a (by omega) (by omega)
    obtain ⟨b1, b2⟩ := b
    by_cases t : a + 400 ≤ y
    · go_wp2_with fail
      go_roundw
      case rel => exact ⟨a + 400, vint (dy_400 a).symm, rfl, by omega, by omega, trivial⟩
      case measure => simp [intOf]; omega
    · go_wp2_with fail
      go_loopw [3, 4] (fun nv av wr => ∃ a : Int, nv = .int .i64 (dy a) ∧ av = .int .i64 a ∧ -100000 ≤ a ∧ a ≤ 100000 ∧ w = wr) (fun _ av _ => (intOf av - y).toNat)
      case atStart => exact ⟨a, rfl, rfl, a1, a2, rfl⟩
      case round =>
        clear t b1 b2 a1 a2
        obtain ⟨a, rfl, rfl, a1, a2, rfl⟩ := hrel
        have b := dy_bd a (by omega) (by omega)
        obtain ⟨b1, b2⟩ := b
        by_cases t : y ≤ a - 400
        · go_wp2_with fail
          go_roundw
          case rel => exact ⟨a - 400, vint (by have := dy_400 (a - 400); rw [show a - 400 + 400 = a by omega] at this; omega), rfl, by omega, by omega, trivial⟩
          case measure => simp [intOf]; omega
        · go_wp2_with fail
          go_loopw [3, 4] (fun nv av wr => ∃ a : Int, nv = .int .i64 (dy a) ∧ av = .int .i64 a ∧ -100000 ≤ a ∧ a ≤ 100000 ∧ w = wr) (fun _ av _ => (y - intOf av).toNat)
          case atStart => exact ⟨a, rfl, rfl, a1, a2, rfl⟩
          case round =>
            clear t b1 b2 a1 a2
            obtain ⟨a, rfl, rfl, a1, a2, rfl⟩ := hrel
            have b := dy_bd a (by omega) (by omega)
            obtain ⟨b1, b2⟩ := b
            have l := lp_01 a
            obtain ⟨l1, l2⟩ := l
            by_cases t : a < y
            · go_wp2_with fail
              refine (ryear_any a _).mono ?_
              rintro e w' ⟨rfl, rfl⟩
              go_wp2_with fail
              go_roundw
              case rel => exact ⟨a + 1, vint (by rw [dy_succ]; omega), rfl, by omega, by omega, trivial⟩
              case measure => simp [intOf]; omega
            · go_wp2_with fail
              go_loopw [3, 4] (fun nv av wr => ∃ a : Int, nv = .int .i64 (dy a) ∧ av = .int .i64 a ∧ y ≤ a ∧ a ≤ 100000 ∧ w = wr) (fun _ av _ => (intOf av - y).toNat)
              case atStart => exact ⟨a, rfl, rfl, by omega, a2, rfl⟩
              case round =>
                clear t b1 b2 a1 a2 l1 l2
                obtain ⟨a, rfl, rfl, a1, a2, rfl⟩ := hrel
                have b := dy_bd a (by omega) (by omega)
                obtain ⟨b1, b2⟩ := b
                have l := lp_01 (a - 1)
                obtain ⟨l1, l2⟩ := l
                by_cases t : y < a
                · go_wp2_with fail
                  refine (ryear_any (a - 1) _).mono ?_
                  rintro e w' ⟨rfl, rfl⟩
                  go_wp2_with fail
                  go_roundw
                  case rel => exact ⟨a - 1, vint (by have := dy_succ (a - 1); rw [show a - 1 + 1 = a by omega] at this; omega), rfl, by omega, by omega, trivial⟩
                  case measure => simp [intOf]; omega
                · obtain rfl : a = y := by omega
                  go_wp2_with fail
                  go_ret
                  exact ⟨rfl, rfl⟩
set_option maxHeartbeats 2000000 in
theorem rdays_ok (y m d : Int) (w : World) (h : Valid y m d) :
    Calls Tryd.prog 33 #[.agg #[.int .i64 y, .int .i64 m, .int .i64 d]] w fun e w' => e = .returned (.int .i64 (num y m d)) ∧ Below w.heap.size w w' := by
  obtain ⟨y1, y2, m1, m2, d1, d2⟩ := h
  have b := dim_bd y m
  obtain ⟨b1, b2⟩ := b
  have l := lp_01 y
  obtain ⟨l1, l2⟩ := l
  have c := dy_bd y (by omega) (by omega)
  obtain ⟨g1, g2⟩ := c
  go_enter Tryd.func33, Tryd.ntmps33
  have HB0 := Lib.hid ((Below.refl w.heap.size w).alloc (Nat.le_refl _) (.cells #[.int .i64 y, .int .i64 m, .int .i64 d] 31))
  go_wp2_with fail
  refine (rstart_any y _ y1 y2).mono ?_
  rintro e w' ⟨rfl, rfl⟩
  go_wp2_with fail
  have HN := Lib.hid (show num y m d = dy y + cum y m + d - 1 from rfl)
  have cb := cum_bd y m m1 m2
  obtain ⟨cb1, cb2, cb3⟩ := cb
  go_loopw [3, 4] (fun nv kv wr => ∃ k : Int, nv = .int .i64 (dy y + cum y k) ∧ kv = .int .i64 k ∧ 1 ≤ k ∧ k ≤ m ∧ wr = w.alloc (.cells #[.int .i64 y, .int .i64 m, .int .i64 d] 31)) (fun _ kv _ => (m - intOf kv).toNat)
  case atStart => exact ⟨1, vint (by rw [cum_1]; omega), rfl, by omega, by omega, rfl⟩
  case round =>
    obtain ⟨k, rfl, rfl, k1, k2, rfl⟩ := hrel
    have db := dim_bd y k
    obtain ⟨db1, db2⟩ := db
    have kb := cum_bd y k k1 (by omega)
    obtain ⟨kb1, kb2, kb3⟩ := kb
    by_cases t : k < m
    · go_wp2_with fail
      refine (rlong_any y k _).mono ?_
      rintro e w' ⟨rfl, rfl⟩
      go_wp2_with fail
      go_roundw
      case rel => exact ⟨k + 1, vint (by have := cum_succ y k k1 (by omega); omega), rfl, by omega, by omega, trivial⟩
      case measure => simp [intOf]; omega
    · obtain rfl : k = m := by omega
      go_wp2_with fail
      go_ret
      exact ⟨by first | (rw [HN.out]; done) | (rw [HN.out]; rfl), HB0.out⟩
set_option maxHeartbeats 2000000 in
theorem rof_ok (y m d : Int) (w : World) (h : Valid y m d) :
    Calls Tryd.prog 15 #[.int .i64 (num y m d)] w fun e w' => e = .returned (.tuple #[.agg #[.int .i64 y, .int .i64 m, .int .i64 d], .bool true]) ∧ Below w.heap.size w w' := by
  have HN := Lib.hid (fun y' m' d' => @num_inj y' m' d' y m d)
  have HV := Lib.hid h
  have hb := num_bd h
  obtain ⟨b1, b2⟩ := hb
  generalize num y m d = D at *
  clear h
  go_enter Tryd.func15, Tryd.ntmps15
  go_wp2_with fail
  go_loopw [0, 4] (fun dv av wr => ∃ a : Int, dv = .int .i64 (D - dy a) ∧ av = .int .i64 a ∧ -150000 ≤ a ∧ a ≤ 150000 ∧ wr = w.alloc (.cells #[.int .i64 0, .int .i64 0, .int .i64 0] 31)) (fun dv _ _ => (intOf dv).toNat)
  case atStart => exact ⟨1970, vint (by rw [dy_1970]; omega), rfl, by omega, by omega, rfl⟩
  case round =>
    obtain ⟨a, rfl, rfl, a1, a2, rfl⟩ := hrel
    have b := dy_bd a (by omega) (by omega)
    obtain ⟨g1, g2⟩ := b
    by_cases t : 146097 ≤ D - dy a
    · have hi := y_hi a (by omega)
      go_wp2_with fail
      go_roundw
      case rel => exact ⟨a + 400, vint (by rw [dy_400]; omega), rfl, by omega, by omega, trivial⟩
      case measure => simp [intOf]; omega
    · go_wp2_with fail
      go_loopw [0, 4] (fun dv av wr => ∃ a : Int, dv = .int .i64 (D - dy a) ∧ av = .int .i64 a ∧ -150000 ≤ a ∧ a ≤ 150000 ∧ wr = w.alloc (.cells #[.int .i64 0, .int .i64 0, .int .i64 0] 31)) (fun dv _ _ => (-(intOf dv)).toNat)
      case atStart => exact ⟨a, rfl, rfl, a1, a2, rfl⟩
      case round =>
        clear t g1 g2 a1 a2
        obtain ⟨a, rfl, rfl, a1, a2, rfl⟩ := hrel
        have b := dy_bd a (by omega) (by omega)
        obtain ⟨g1, g2⟩ := b
        by_cases t : D - dy a < 0
        · have lo := y_lo (a - 1) (by rw [show a - 1 + 1 = a by omega]; omega)
          go_wp2_with fail
          go_roundw
          case rel => exact ⟨a - 400, vint (by have := dy_400 (a - 400); rw [show a - 400 + 400 = a by omega] at this; omega), rfl, by omega, by omega, trivial⟩
          case measure => simp [intOf]; omega
        · go_wp2_with fail
          go_loopw [0, 4] (fun dv av wr => ∃ a : Int, dv = .int .i64 (D - dy a) ∧ av = .int .i64 a ∧ 0 ≤ D - dy a ∧ -150000 ≤ a ∧ a ≤ 150000 ∧ wr = w.alloc (.cells #[.int .i64 0, .int .i64 0, .int .i64 0] 31)) (fun dv _ _ => (intOf dv).toNat)
          case atStart => exact ⟨a, rfl, rfl, by omega, a1, a2, rfl⟩
          case round =>
            clear t g1 g2 a1 a2
            obtain ⟨a, rfl, rfl, a0, a1, a2, rfl⟩ := hrel
            have b := dy_bd a (by omega) (by omega)
            obtain ⟨g1, g2⟩ := b
            have l := lp_01 a
            obtain ⟨l1, l2⟩ := l
            by_cases t : 365 + lp a ≤ D - dy a
            · have hi := y_hi a (by omega)
              go_wp2_with fail
              refine (ryear_any a _).mono ?_
              rintro e w' ⟨rfl, rfl⟩
              go_wp2_with fail
              refine (ryear_any a _).mono ?_
              rintro e w' ⟨rfl, rfl⟩
              go_wp2_with fail
              go_roundw
              case rel => exact ⟨a + 1, vint (by rw [dy_succ]; omega), rfl, by rw [dy_succ]; omega, by omega, by omega, trivial⟩
              case measure => simp [intOf]; omega
            · go_wp2_with fail
              refine (ryear_any a _).mono ?_
              rintro e w' ⟨rfl, rfl⟩
              go_wp2_with fail
              go_loopw [0, 5] (fun dv kv wr => ∃ k : Int, dv = .int .i64 (D - dy a - cum a k) ∧ kv = .int .i64 k ∧ 1 ≤ k ∧ k ≤ 12 ∧ 0 ≤ D - dy a - cum a k ∧ wr = w.alloc (.cells #[.int .i64 0, .int .i64 0, .int .i64 0] 31)) (fun _ kv _ => (13 - intOf kv).toNat)
              case atStart => exact ⟨1, vint (by rw [cum_1]; omega), rfl, by omega, by omega, by rw [cum_1]; omega, rfl⟩
              case round =>
                obtain ⟨k, rfl, rfl, k1, k2, k0, rfl⟩ := hrel
                have db := dim_bd a k
                obtain ⟨db1, db2⟩ := db
                have kb := cum_bd a k k1 k2
                obtain ⟨kb1, kb2, kb3⟩ := kb
                by_cases s : dim a k ≤ D - dy a - cum a k
                · have k3 : k < 12 := by
                    refine Classical.byContradiction fun hn => ?_
                    obtain rfl : k = 12 := by omega
                    have := cum_succ a 12 (by omega) (by omega)
                    rw [show (12 : Int) + 1 = 13 from rfl, cum_13] at this
                    omega
                  have cs := Lib.hid (cum_succ a k k1 (by omega))
                  go_wp2_with fail
                  refine (rlong_any a k _).mono ?_
                  rintro e w' ⟨rfl, rfl⟩
                  go_wp2_with fail
                  refine (rlong_any a k _).mono ?_
                  rintro e w' ⟨rfl, rfl⟩
                  go_wp2_with fail
                  go_roundw
                  case rel => exact ⟨k + 1, vint (by rw [cs.out]; omega), rfl, by omega, by omega, by rw [cs.out]; omega, trivial⟩
                  case measure => simp [intOf]; omega
                · go_wp2_with fail
                  refine (rlong_any a k _).mono ?_
                  rintro e w' ⟨rfl, rfl⟩
                  go_wp2_with fail
                  obtain ⟨V1, V2⟩ := date_of D a (D - dy a) k ⟨b1, b2⟩ (by omega) (by omega) (by omega) k1 k2 (by omega) (by omega)
                  obtain ⟨rfl, rfl, rfl⟩ := HN.out _ _ _ V1 HV.out V2
                  refine ret_row_tmp (B := w.heap.size) _ rfl rfl rfl (heap_alloc_new w _) Tryd.underlying31 rfl szD ⟨rfl, (Below.refl _ _).alloc (Nat.le_refl _) _⟩
theorem rof_no (n : Int) (w : World) (h : ¬ (-37243778 ≤ n ∧ n ≤ 35805087)) :
    Calls Tryd.prog 15 #[.int .i64 n] w fun e w' => e = .returned (.tuple #[.agg #[.int .i64 0, .int .i64 0, .int .i64 0], .bool false]) ∧ Below w.heap.size w w' := by
  by_cases h1 : n < -37243778
  · clear h
    go_enter Tryd.func15, Tryd.ntmps15
    go_wp2_with fail
    refine ret_row_tmp (B := w.heap.size) _ rfl rfl rfl (heap_alloc_new w _) Tryd.underlying31 rfl szD ⟨rfl, (Below.refl _ _).alloc (Nat.le_refl _) _⟩
  · have h2 : 35805087 < n := by omega
    clear h
    go_enter Tryd.func15, Tryd.ntmps15
    go_wp2_with fail
    refine ret_row_tmp (B := w.heap.size) _ rfl rfl rfl (heap_alloc_new w _) Tryd.underlying31 rfl szD ⟨rfl, (Below.refl _ _).alloc (Nat.le_refl _) _⟩
end Go.Proofs.YtmkbfjklhejdnaaDoor
