/-
  The Go laws SquashTurns, SquashBack, SquashPlaces and SquashNames return true for all numbers. Condition: the table 'row' lies in its variable.
-/
import Derived.Test.YtinfkoinpnnnnaaDoorSqL
namespace Go.Proofs.YtinfkoinpnnnnaaDoor
open Go.RowKit
open Sq

set_option maxHeartbeats 1000000 in
theorem turns_core (d x y : Int) (w : World) (hT : Tab w) (h1 : -2147483648 < d) (h2 : d ≤ 2147483647) (hx : Hid (sq d = x)) (hy : Hid (sq (-d) = y)) (s0 : 4094 ≤ x + y) (s1 : x + y ≤ 4096) :
    Calls Tryd.prog 7 #[.int .i32 d] w fun e w' => e = .returned (.bool true) ∧ Below w.heap.size w w' := by
  have hne : ((d : Int) == -2147483648) = false := beq_eq_false_iff_ne.2 (by omega)
  go_enter Tryd.func7, Tryd.ntmps7
  go_wp2_with fail
  refine (squash_c d x hx.out _ hT).mono ?_
  rintro e w1 ⟨rfl, hT1, hb1⟩
  go_wp2_with fail
  refine (squash_c (-d) y hy.out _ hT1).mono ?_
  rintro e w2 ⟨rfl, hT2, hb2⟩
  go_wp2_with fail
  refine (alive_any _ hT2).mono ?_
  rintro e w3 ⟨rfl, hT3, hb3⟩
  go_wp2_with fail
  go_ret
  exact ⟨rfl, below_then (below_then hb1 hb2) hb3⟩

set_option maxHeartbeats 1000000 in
theorem turns_least (w : World) (hT : Tab w) : Calls Tryd.prog 7 #[.int .i32 (-2147483648)] w fun e w' => e = .returned (.bool true) ∧ Below w.heap.size w w' := by
  go_enter Tryd.func7, Tryd.ntmps7
  go_wp2_with fail
  refine (squash_c (-2147483648) 0 sq_closed.2.2.2.2.2.2.2.1 _ hT).mono ?_
  rintro e w1 ⟨rfl, hT1, hb1⟩
  go_wp2_with fail
  refine (alive_any _ hT1).mono ?_
  rintro e w2 ⟨rfl, hT2, hb2⟩
  go_wp2_with fail
  go_ret
  exact ⟨rfl, below_then hb1 hb2⟩

/-- SquashTurns returns true. -/
theorem turns_any (d : Int) (w : World) (hT : Tab w) (h1 : -2147483648 ≤ d) (h2 : d ≤ 2147483647) : Calls Tryd.prog 7 #[.int .i32 d] w fun e w' => e = .returned (.bool true) ∧ Below w.heap.size w w' := by
  by_cases h : d = -2147483648
  · subst h; exact turns_least w hT
  · have c := sq_turn d
    exact turns_core d _ _ w hT (by omega) h2 rfl rfl c.1 c.2

set_option maxHeartbeats 1000000 in
theorem back_out (d p q x y : Int) (w : World) (hT : Tab w) (hx : Hid (st p = x)) (hy : Hid (st q = y)) (x0 : -2047 ≤ x) (x1 : x ≤ 2047) (h1 : p < q ∧ x ≤ y ∨ q < p ∧ y ≤ x) (h : d < -2047 ∨ 2047 < d ∨ (-2047 ≤ d ∧ d ≤ 2047) ∧ 4094 < p) :
    Calls Tryd.prog 6 #[.int .i32 d, .int .i32 p, .int .i32 q] w fun e w' => e = .returned (.bool true) ∧ Below w.heap.size w w' := by
  rcases h1 with ⟨h1, h2⟩ | ⟨h1, h2⟩
  all_goals
    rcases h with h | h | ⟨⟨h, h'⟩, h''⟩
    all_goals
      go_enter Tryd.func6, Tryd.ntmps6
      go_wp2_with fail
      refine (stretch_c p x hx.out _ hT).mono ?_
      rintro e w1 ⟨rfl, hT1, hb1⟩
      go_wp2_with fail
      refine (stretch_c q y hy.out _ hT1).mono ?_
      rintro e w2 ⟨rfl, hT2, hb2⟩
      go_wp2_with fail
      refine (alive_any _ hT2).mono ?_
      rintro e w3 ⟨rfl, hT3, hb3⟩
      go_wp2_with fail
      go_ret
      exact ⟨rfl, below_then (below_then hb1 hb2) hb3⟩

set_option maxHeartbeats 1000000 in
theorem back_out_same (d p x : Int) (w : World) (hT : Tab w) (hx : Hid (st p = x)) (x0 : -2047 ≤ x) (x1 : x ≤ 2047) (h : d < -2047 ∨ 2047 < d ∨ (-2047 ≤ d ∧ d ≤ 2047) ∧ 4094 < p) :
    Calls Tryd.prog 6 #[.int .i32 d, .int .i32 p, .int .i32 p] w fun e w' => e = .returned (.bool true) ∧ Below w.heap.size w w' := by
  rcases h with h | h | ⟨⟨h, h'⟩, h''⟩
  all_goals
    go_enter Tryd.func6, Tryd.ntmps6
    go_wp2_with fail
    refine (stretch_c p x hx.out _ hT).mono ?_
    rintro e w1 ⟨rfl, hT1, hb1⟩
    go_wp2_with fail
    refine (stretch_c p x hx.out _ hT1).mono ?_
    rintro e w2 ⟨rfl, hT2, hb2⟩
    go_wp2_with fail
    refine (alive_any _ hT2).mono ?_
    rintro e w3 ⟨rfl, hT3, hb3⟩
    go_wp2_with fail
    go_ret
    exact ⟨rfl, below_then (below_then hb1 hb2) hb3⟩

set_option maxHeartbeats 1000000 in
theorem back_in (d p q x y u v z : Int) (w : World) (hT : Tab w) (hx : Hid (st p = x)) (hy : Hid (st q = y)) (hu : Hid (sq d = u)) (hv : Hid (sq x = v)) (hz : Hid (st u = z)) (x0 : -2047 ≤ x) (x1 : x ≤ 2047) (h1 : p < q ∧ x ≤ y ∨ q < p ∧ y ≤ x)
    (hd0 : -2047 ≤ d) (hd1 : d ≤ 2047) (hp : p ≤ 4094) (hv0 : p ≤ v) (hz0 : z ≤ d) (h3 : p ≤ u ∧ x ≤ d ∨ u < p ∧ d < x) :
    Calls Tryd.prog 6 #[.int .i32 d, .int .i32 p, .int .i32 q] w fun e w' => e = .returned (.bool true) ∧ Below w.heap.size w w' := by
  rcases h1 with ⟨h1, h2⟩ | ⟨h1, h2⟩
  all_goals
    rcases h3 with ⟨h3, h4⟩ | ⟨h3, h4⟩
    all_goals
      go_enter Tryd.func6, Tryd.ntmps6
      go_wp2_with fail
      refine (stretch_c p x hx.out _ hT).mono ?_
      rintro e w1 ⟨rfl, hT1, hb1⟩
      go_wp2_with fail
      refine (stretch_c q y hy.out _ hT1).mono ?_
      rintro e w2 ⟨rfl, hT2, hb2⟩
      go_wp2_with fail
      refine (squash_c d u hu.out _ hT2).mono ?_
      rintro e w3 ⟨rfl, hT3, hb3⟩
      go_wp2_with fail
      refine (squash_c x v hv.out _ hT3).mono ?_
      rintro e w4 ⟨rfl, hT4, hb4⟩
      go_wp2_with fail
      refine (squash_c d u hu.out _ hT4).mono ?_
      rintro e w5 ⟨rfl, hT5, hb5⟩
      go_wp2_with fail
      refine (stretch_c u z hz.out _ hT5).mono ?_
      rintro e w6 ⟨rfl, hT6, hb6⟩
      go_wp2_with fail
      refine (alive_any _ hT6).mono ?_
      rintro e w7 ⟨rfl, hT7, hb7⟩
      go_wp2_with fail
      go_ret
      exact ⟨rfl, below_then (below_then (below_then (below_then (below_then (below_then hb1 hb2) hb3) hb4) hb5) hb6) hb7⟩

set_option maxHeartbeats 1000000 in
theorem back_in_same (d p x u v z : Int) (w : World) (hT : Tab w) (hx : Hid (st p = x)) (hu : Hid (sq d = u)) (hv : Hid (sq x = v)) (hz : Hid (st u = z)) (x0 : -2047 ≤ x) (x1 : x ≤ 2047)
    (hd0 : -2047 ≤ d) (hd1 : d ≤ 2047) (hp : p ≤ 4094) (hv0 : p ≤ v) (hz0 : z ≤ d) (h3 : p ≤ u ∧ x ≤ d ∨ u < p ∧ d < x) :
    Calls Tryd.prog 6 #[.int .i32 d, .int .i32 p, .int .i32 p] w fun e w' => e = .returned (.bool true) ∧ Below w.heap.size w w' := by
  rcases h3 with ⟨h3, h4⟩ | ⟨h3, h4⟩
  all_goals
    go_enter Tryd.func6, Tryd.ntmps6
    go_wp2_with fail
    refine (stretch_c p x hx.out _ hT).mono ?_
    rintro e w1 ⟨rfl, hT1, hb1⟩
    go_wp2_with fail
    refine (stretch_c p x hx.out _ hT1).mono ?_
    rintro e w2 ⟨rfl, hT2, hb2⟩
    go_wp2_with fail
    refine (squash_c d u hu.out _ hT2).mono ?_
    rintro e w3 ⟨rfl, hT3, hb3⟩
    go_wp2_with fail
    refine (squash_c x v hv.out _ hT3).mono ?_
    rintro e w4 ⟨rfl, hT4, hb4⟩
    go_wp2_with fail
    refine (squash_c d u hu.out _ hT4).mono ?_
    rintro e w5 ⟨rfl, hT5, hb5⟩
    go_wp2_with fail
    refine (stretch_c u z hz.out _ hT5).mono ?_
    rintro e w6 ⟨rfl, hT6, hb6⟩
    go_wp2_with fail
    refine (alive_any _ hT6).mono ?_
    rintro e w7 ⟨rfl, hT7, hb7⟩
    go_wp2_with fail
    go_ret
    exact ⟨rfl, below_then (below_then (below_then (below_then (below_then (below_then hb1 hb2) hb3) hb4) hb5) hb6) hb7⟩

/-- SquashBack returns true. -/
theorem back_any (d p q : Int) (w : World) (hT : Tab w) : Calls Tryd.prog 6 #[.int .i32 d, .int .i32 p, .int .i32 q] w fun e w' => e = .returned (.bool true) ∧ Below w.heap.size w w' := by
  have hb := st_bd p
  by_cases ho : d < -2047 ∨ 2047 < d ∨ (-2047 ≤ d ∧ d ≤ 2047) ∧ 4094 < p
  · rcases Int.lt_trichotomy p q with h | h | h
    · exact back_out d p q _ _ w hT rfl rfl hb.1 hb.2 (.inl ⟨h, st_mono (by omega)⟩) ho
    · subst h; exact back_out_same d p _ w hT rfl hb.1 hb.2 ho
    · exact back_out d p q _ _ w hT rfl rfl hb.1 hb.2 (.inr ⟨h, st_mono (by omega)⟩) ho
  · have hd0 : -2047 ≤ d := by omega
    have hd1 : d ≤ 2047 := by omega
    have hp : p ≤ 4094 := by omega
    have h1 := sq_st hp
    have h2 := st_sq hd0 hd1
    have h3 : p ≤ sq d ∧ st p ≤ d ∨ sq d < p ∧ d < st p := by
      have hi := st_iff hd0 hd1 hp
      by_cases h : p ≤ sq d
      · exact .inl ⟨h, hi.1 h⟩
      · exact .inr ⟨by omega, by have := mt hi.2 h; omega⟩
    rcases Int.lt_trichotomy p q with h | h | h
    · exact back_in d p q _ _ _ _ _ w hT rfl rfl rfl rfl rfl hb.1 hb.2 (.inl ⟨h, st_mono (by omega)⟩) hd0 hd1 hp h1 h2 h3
    · subst h; exact back_in_same d p _ _ _ _ w hT rfl rfl rfl rfl hb.1 hb.2 hd0 hd1 hp h1 h2 h3
    · exact back_in d p q _ _ _ _ _ w hT rfl rfl rfl rfl rfl hb.1 hb.2 (.inr ⟨h, st_mono (by omega)⟩) hd0 hd1 hp h1 h2 h3

set_option maxHeartbeats 1000000 in
theorem places_out (i w0 : Int) (w : World) (hT : Tab w) (h : i < 1 ∨ 31 < i ∨ (1 ≤ i ∧ i ≤ 31) ∧ w0 < 0 ∨ (1 ≤ i ∧ i ≤ 31) ∧ 127 < w0) :
    Calls Tryd.prog 9 #[.int .i64 i, .int .i32 w0] w fun e w' => e = .returned (.bool true) ∧ Below w.heap.size w w' := by
  rcases h with h | h | ⟨⟨h, h'⟩, h2⟩ | ⟨⟨h, h'⟩, h2⟩
  case inr.inr.inr =>
    have h3 : ¬ w0 < 0 := by omega
    go_enter Tryd.func9, Tryd.ntmps9
    go_wp2_with fail
    refine (alive_any _ hT).mono ?_
    rintro e w3 ⟨rfl, hT3, hb3⟩
    go_wp2_with fail
    go_ret
    exact ⟨rfl, hb3⟩
  all_goals
    go_enter Tryd.func9, Tryd.ntmps9
    go_wp2_with fail
    refine (alive_any _ hT).mono ?_
    rintro e w3 ⟨rfl, hT3, hb3⟩
    go_wp2_with fail
    go_ret
    exact ⟨rfl, hb3⟩

set_option maxHeartbeats 1000000 in
theorem places_in (i : Nat) (w0 x y a : Int) (w : World) (hT : Tab w) (i0 : 1 ≤ (i : Int)) (i1 : (i : Int) ≤ 31) (h0 : 0 ≤ w0) (h1 : w0 ≤ 127) (ha : Hid (rowV[i]? = some (.int .i32 a))) (hb : Hid (rowV[i + 1]? = some (.int .i32 y)))
    (hs : Hid (sq (128 * ((i : Int) - 16)) = a)) (hx : Hid (sq (128 * ((i : Int) - 16) + w0) = x)) (hx0 : a ≤ x) (hx1 : x ≤ y) :
    Calls Tryd.prog 9 #[.int .i64 i, .int .i32 w0] w fun e w' => e = .returned (.bool true) ∧ Below w.heap.size w w' := by
  have t1 : ((i : Int) + 1).toNat = i + 1 := by omega
  go_enter Tryd.func9, Tryd.ntmps9
  go_wp2_with (first | (go_at_call 13; refine (row_any _ hT).mono ?_; rintro e w1 ⟨rfl, hw1⟩) | (refine store_row_new rfl 23 _ _ rfl rfl w1.heap.size rowV rfl rfl 23 zeroV (heap_alloc_new _ _) info23 zero_row rowV_one ?_; intro w2 hw2 hz2 hr2))
  have c0 : w2.cell? ⟨w1.heap.size, i, none⟩ = some (.int .i32 a) := by rw [cell_of_row _ _ _ _ _ _ hr2]; exact ha.out
  have c1 : w2.cell? ⟨w1.heap.size, i + 1, none⟩ = some (.int .i32 y) := by rw [cell_of_row _ _ _ _ _ _ hr2]; exact hb.out
  have hbel := (hw1.alloc hw1.size _).trans (hw2.mono hw1.size)
  have hT2 := tab_then hT hbel
  have hs2 : w1.heap.size < w2.heap.size := by rw [hz2]; simp
  have HB := Lib.hid hbel
  clear hbel hw1 hw2 hr2 hz2
  have HS : Hid (∀ n, Calls Tryd.prog 11 #[.int .i32 (128 * ((i : Int) - 16))] (w2.drewN n) fun e w' => e = .returned (.int .i32 a) ∧ ∃ m, w' = (w2.drewN n).drewN m) :=
    fun n => (squash_any _ _ (hT2.drewN n)).mono fun e w' ⟨he, hw⟩ => ⟨by rw [he, hs.out], hw⟩
  go_quiet ((go_at_call 11; exact Calls.quiet_of (HS.out _)))
  go_wp2_with fail
  refine (squash_c _ x hx.out _ (hT2.drewN _)).mono ?_
  rintro e w3 ⟨rfl, hT3, hb3⟩
  have d0 : w3.cell? ⟨w1.heap.size, i, none⟩ = some (.int .i32 a) := (hb3.cell (p := ⟨w1.heap.size, i, none⟩) hs2).trans c0
  have d1 : w3.cell? ⟨w1.heap.size, i + 1, none⟩ = some (.int .i32 y) := (hb3.cell (p := ⟨w1.heap.size, i + 1, none⟩) hs2).trans c1
  clear c0 c1
  go_wp2_with fail
  refine (alive_any _ hT3).mono ?_
  rintro e w4 ⟨rfl, hT4, hb4⟩
  go_wp2_with fail
  go_ret
  exact ⟨rfl, below_then (below_then (below_drewN HB.out _) hb3) hb4⟩

/-- SquashPlaces returns true. -/
theorem places_any (i w0 : Int) (w : World) (hT : Tab w) : Calls Tryd.prog 9 #[.int .i64 i, .int .i32 w0] w fun e w' => e = .returned (.bool true) ∧ Below w.heap.size w w' := by
  by_cases h : i < 1 ∨ 31 < i ∨ (1 ≤ i ∧ i ≤ 31) ∧ w0 < 0 ∨ (1 ≤ i ∧ i ≤ 31) ∧ 127 < w0
  · exact places_out i w0 w hT h
  · obtain ⟨k, rfl⟩ : ∃ k : Nat, i = k := ⟨i.toNat, by omega⟩
    have e : (128 * ((k : Int) - 16)) = 128 * (k : Int) - 2048 := by omega
    have h1 := sq_between k (by omega) (by omega) w0.toNat (by omega)
    rw [show ((w0.toNat : Nat) : Int) = w0 by omega] at h1
    exact places_in k w0 _ _ _ w hT (by omega) (by omega) (by omega) (by omega) (rowV_at k (by omega)) (rowV_at (k + 1) (by omega)) (show sq _ = _ by rw [e]; exact sq_place k (by omega) (by omega)) (show sq _ = _ by rw [e]) h1.1 h1.2

set_option maxHeartbeats 2000000 in
/-- SquashNames returns true. -/
theorem names_any (w : World) (hT : Tab w) : Calls Tryd.prog 8 #[] w fun e w' => e = .returned (.bool true) ∧ Below w.heap.size w w' := by
  go_enter Tryd.func8, Tryd.ntmps8
  go_wp2_with (first | (go_at_call 13; refine (row_any _ hT).mono ?_; rintro e w1 ⟨rfl, hw1⟩) | (refine store_row_new rfl 23 _ _ rfl rfl w1.heap.size rowV rfl rfl 23 zeroV (heap_alloc_new _ _) info23 zero_row rowV_one ?_; intro w2 hw2 hz2 hr2))
  have c0 : w2.cell? ⟨w1.heap.size, 0, none⟩ = some (.int .i32 1) := by rw [cell_of_row _ _ _ _ _ _ hr2]; rfl
  have c1 : w2.cell? ⟨w1.heap.size, 16, none⟩ = some (.int .i32 2047) := by rw [cell_of_row _ _ _ _ _ _ hr2]; rfl
  have c2 : w2.cell? ⟨w1.heap.size, 32, none⟩ = some (.int .i32 4094) := by rw [cell_of_row _ _ _ _ _ _ hr2]; rfl
  have hbel := (hw1.alloc hw1.size _).trans (hw2.mono hw1.size)
  have hT2 := tab_then hT hbel
  have hs2 : w1.heap.size < w2.heap.size := by rw [hz2]; simp
  have HB := Lib.hid hbel
  clear hbel hw1 hw2 hr2 hz2 hT
  go_wp2_with fail
  refine (squash_c 2147483647 4095 (by decide +kernel) _ hT2).mono ?_
  rintro e w3 ⟨rfl, hT3, hb3⟩
  go_wp2_with fail
  refine (squash_c (-2147483648) 0 (by decide +kernel) _ hT3).mono ?_
  rintro e w4 ⟨rfl, hT4, hb4⟩
  go_wp2_with fail
  refine (squash_c (-2048) 0 (by decide +kernel) _ hT4).mono ?_
  rintro e w5 ⟨rfl, hT5, hb5⟩
  go_wp2_with fail
  refine (stretch_c 2147483647 2047 st_max _ hT5).mono ?_
  rintro e w6 ⟨rfl, hT6, hb6⟩
  go_wp2_with fail
  refine (stretch_c (-2147483648) (-2047) st_min _ hT6).mono ?_
  rintro e w7 ⟨rfl, hT7, hb7⟩
  go_wp2_with fail
  refine (squash_c (-1) 2043 (by decide +kernel) _ hT7).mono ?_
  rintro e w8 ⟨rfl, hT8, hb8⟩
  go_wp2_with fail
  refine (squash_c 1 2051 (by decide +kernel) _ hT8).mono ?_
  rintro e w9 ⟨rfl, hT9, hb9⟩
  go_wp2_with fail
  refine (squash_c (-128) 1546 (by decide +kernel) _ hT9).mono ?_
  rintro e w10 ⟨rfl, hT10, hb10⟩
  go_wp2_with fail
  refine (squash_c 1920 4093 (by decide +kernel) _ hT10).mono ?_
  rintro e w11 ⟨rfl, hT11, hb11⟩
  go_wp2_with fail
  refine (squash_c (-1920) 2 (by decide +kernel) _ hT11).mono ?_
  rintro e w12 ⟨rfl, hT12, hb12⟩
  go_wp2_with fail
  refine (stretch_c 2048 1 st_2048 _ hT12).mono ?_
  rintro e w13 ⟨rfl, hT13, hb13⟩
  go_wp2_with fail
  refine (stretch_c 2046 0 st_2046 _ hT13).mono ?_
  rintro e w14 ⟨rfl, hT14, hb14⟩
  go_wp2_with fail
  refine (stretch_c 2549 128 st_2549 _ hT14).mono ?_
  rintro e w15 ⟨rfl, hT15, hb15⟩
  go_wp2_with fail
  refine (stretch_c 4094 1984 st_4094 _ hT15).mono ?_
  rintro e w16 ⟨rfl, hT16, hb16⟩
  go_wp2_with fail
  refine (stretch_c 2 (-1984) st_2 _ hT16).mono ?_
  rintro e w17 ⟨rfl, hT17, hb17⟩
  have hch := Lib.hid (below_then (below_then (below_then (below_then (below_then (below_then (below_then (below_then (below_then (below_then (below_then (below_then (below_then (below_then hb3 hb4) hb5) hb6) hb7) hb8) hb9) hb10) hb11) hb12) hb13) hb14) hb15) hb16) hb17)
  have d0 : w17.cell? ⟨w1.heap.size, 0, none⟩ = some (.int .i32 1) := (hch.out.cell (p := ⟨w1.heap.size, 0, none⟩) hs2).trans c0
  have d1 : w17.cell? ⟨w1.heap.size, 16, none⟩ = some (.int .i32 2047) := (hch.out.cell (p := ⟨w1.heap.size, 16, none⟩) hs2).trans c1
  have d2 : w17.cell? ⟨w1.heap.size, 32, none⟩ = some (.int .i32 4094) := (hch.out.cell (p := ⟨w1.heap.size, 32, none⟩) hs2).trans c2
  clear c0 c1 c2
  go_wp2_with fail
  refine (alive_any _ hT17).mono ?_
  rintro e wz ⟨rfl, hTz, hbz⟩
  go_wp2_with fail
  go_ret
  exact ⟨rfl, HB.out.trans ((below_then hch.out hbz).mono HB.out.size)⟩
end Go.Proofs.YtinfkoinpnnnnaaDoor
