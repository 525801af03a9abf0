/-
  The Go laws SquashMakes, SquashStretches and SquashRises return true for all numbers. Condition: the table 'row' lies in its variable.
-/
import Derived.Test.YtinfkoinpnnnnaaDoorSqZ
namespace Go.Proofs.YtinfkoinpnnnnaaDoor
open Go.RowKit
open Sq

theorem rows_same (w : World) : (binOp .eql 23 (.agg rowV) (.agg rowV)).run Tryd.prog w = .ok (.bool true) w := by kernel_rfl

set_option maxHeartbeats 1000000 in
/-- SquashMakes returns true. -/
theorem makes_any (d : Int) (w : World) (hT : Tab w) : Calls Tryd.prog 3 #[.int .i32 d] w fun e w' => e = .returned (.bool true) ∧ Below w.heap.size w w' := by
  obtain ⟨x, hx⟩ : ∃ x, sq d = x := ⟨_, rfl⟩
  have H1 := Lib.hid (squash_c d x hx w hT)
  have H2 := Lib.hid (fun W => ref_any d W)
  rw [hx] at H2
  clear hx
  have hrs := rows_same
  go_enter Tryd.func3, Tryd.ntmps3
  go_wp2_with fail
  refine (H1.out).mono ?_
  rintro e w1 ⟨rfl, hT1, hb1⟩
  go_wp2_with fail
  refine (H2.out _).mono ?_
  rintro e w2 ⟨rfl, hb2⟩
  have hT2 := tab_then hT1 hb2
  go_wp2_with fail
  refine (row_any _ hT2).mono ?_
  rintro e w3 ⟨rfl, hb3⟩
  go_wp2_with fail
  refine (ref_row_any _).mono ?_
  rintro e w4 ⟨rfl, hb4⟩
  go_wp2_with fail
  go_ret
  exact ⟨rfl, below_then (below_then (below_then hb1 hb2) hb3) hb4⟩

set_option maxHeartbeats 1000000 in
/-- SquashStretches returns true. -/
theorem stretches_any (p : Int) (w : World) (hT : Tab w) : Calls Tryd.prog 4 #[.int .i32 p] w fun e w' => e = .returned (.bool true) ∧ Below w.heap.size w w' := by
  obtain ⟨x, hx⟩ : ∃ x, st p = x := ⟨_, rfl⟩
  have H1 := Lib.hid (stretch_c p x hx w hT)
  have H2 := Lib.hid (fun W => ref_stretch_any p W)
  rw [hx] at H2
  clear hx
  go_enter Tryd.func4, Tryd.ntmps4
  go_wp2_with fail
  refine (H1.out).mono ?_
  rintro e w1 ⟨rfl, hT1, hb1⟩
  go_wp2_with fail
  refine (H2.out _).mono ?_
  rintro e w2 ⟨rfl, hb2⟩
  go_wp2_with fail
  go_ret
  exact ⟨by simp, below_then hb1 hb2⟩

set_option maxHeartbeats 1000000 in
theorem rises_out (a b x y : Int) (w : World) (hT : Tab w) (hx : Hid (sq a = x)) (hy : Hid (sq b = y)) (x0 : 0 ≤ x) (x1 : x ≤ 4095) (h : a < -2047 ∨ 2046 < a) (h1 : a < b ∧ x ≤ y ∨ a = b ∧ x = y ∨ b < a ∧ y ≤ x) :
    Calls Tryd.prog 5 #[.int .i32 a, .int .i32 b] w fun e w' => e = .returned (.bool true) ∧ Below w.heap.size w w' := by
  rcases h1 with ⟨h1, h2⟩ | ⟨h1, h2⟩ | ⟨h1, h2⟩
  case inr.inl => 
    subst h1; subst h2
    rcases h with h | h
    all_goals
      go_enter Tryd.func5, Tryd.ntmps5
      go_wp2_with fail
      refine (squash_c a x hx.out _ hT).mono ?_
      rintro e w1 ⟨rfl, hT1, hb1⟩
      go_wp2_with fail
      refine (squash_c a x hy.out _ hT1).mono ?_
      rintro e w2 ⟨rfl, hT2, hb2⟩
      go_wp2_with fail
      refine (alive_any _ hT2).mono ?_
      rintro e w3 ⟨rfl, hT3, hb3⟩
      go_wp2_with fail
      go_ret
      exact ⟨rfl, below_then (below_then hb1 hb2) hb3⟩
  all_goals
    rcases h with h | h
    all_goals
      go_enter Tryd.func5, Tryd.ntmps5
      go_wp2_with fail
      refine (squash_c a x hx.out _ hT).mono ?_
      rintro e w1 ⟨rfl, hT1, hb1⟩
      go_wp2_with fail
      refine (squash_c b y hy.out _ hT1).mono ?_
      rintro e w2 ⟨rfl, hT2, hb2⟩
      go_wp2_with fail
      refine (alive_any _ hT2).mono ?_
      rintro e w3 ⟨rfl, hT3, hb3⟩
      go_wp2_with fail
      go_ret
      exact ⟨rfl, below_then (below_then hb1 hb2) hb3⟩

set_option maxHeartbeats 1000000 in
theorem rises_in (a b x y z : Int) (w : World) (hT : Tab w) (hx : Hid (sq a = x)) (hy : Hid (sq b = y)) (hz : Hid (sq (a + 1) = z)) (x0 : 1 ≤ x) (x1 : x ≤ 4095) (ha : -2047 ≤ a) (hb : a ≤ 2046) (z0 : x ≤ z) (z1 : z ≤ x + 4) (z2 : z ≤ 4094)
    (h1 : a < b ∧ x ≤ y ∨ a = b ∧ x = y ∨ b < a ∧ y ≤ x) :
    Calls Tryd.prog 5 #[.int .i32 a, .int .i32 b] w fun e w' => e = .returned (.bool true) ∧ Below w.heap.size w w' := by
  rcases h1 with ⟨h1, h2⟩ | ⟨h1, h2⟩ | ⟨h1, h2⟩
  case inr.inl => 
    subst h1; subst h2
    go_enter Tryd.func5, Tryd.ntmps5
    go_wp2_with fail
    refine (squash_c a x hx.out _ hT).mono ?_
    rintro e w1 ⟨rfl, hT1, hb1⟩
    go_wp2_with fail
    refine (squash_c a x hy.out _ hT1).mono ?_
    rintro e w2 ⟨rfl, hT2, hb2⟩
    go_wp2_with fail
    refine (squash_c (a + 1) z hz.out _ hT2).mono ?_
    rintro e w3 ⟨rfl, hT3, hb3⟩
    go_wp2_with fail
    refine (alive_any _ hT3).mono ?_
    rintro e w4 ⟨rfl, hT4, hb4⟩
    go_wp2_with fail
    go_ret
    exact ⟨rfl, below_then (below_then (below_then hb1 hb2) hb3) hb4⟩
  all_goals
    go_enter Tryd.func5, Tryd.ntmps5
    go_wp2_with fail
    refine (squash_c a x hx.out _ hT).mono ?_
    rintro e w1 ⟨rfl, hT1, hb1⟩
    go_wp2_with fail
    refine (squash_c b y hy.out _ hT1).mono ?_
    rintro e w2 ⟨rfl, hT2, hb2⟩
    go_wp2_with fail
    refine (squash_c (a + 1) z hz.out _ hT2).mono ?_
    rintro e w3 ⟨rfl, hT3, hb3⟩
    go_wp2_with fail
    refine (alive_any _ hT3).mono ?_
    rintro e w4 ⟨rfl, hT4, hb4⟩
    go_wp2_with fail
    go_ret
    exact ⟨rfl, below_then (below_then (below_then hb1 hb2) hb3) hb4⟩

/-- SquashRises returns true. -/
theorem rises_any (a b : Int) (w : World) (hT : Tab w) : Calls Tryd.prog 5 #[.int .i32 a, .int .i32 b] w fun e w' => e = .returned (.bool true) ∧ Below w.heap.size w w' := by
  have hb := sq_bd a
  have hm : a < b ∧ sq a ≤ sq b ∨ a = b ∧ sq a = sq b ∨ b < a ∧ sq b ≤ sq a := by
    rcases Int.lt_trichotomy a b with h | h | h
    · exact .inl ⟨h, sq_mono (by omega)⟩
    · exact .inr (.inl ⟨h, by rw [h]⟩)
    · exact .inr (.inr ⟨h, sq_mono (by omega)⟩)
  by_cases h : a < -2047 ∨ 2046 < a
  · exact rises_out a b _ _ w hT rfl rfl hb.1 hb.2 h hm
  · have h1 := sq_next (d := a) (by omega) (by omega)
    have h2 := sq_range (d := a + 1) (by omega) (by omega)
    have h3 := sq_range (d := a) (by omega) (by omega)
    exact rises_in a b _ _ _ w hT rfl rfl rfl h3.1 hb.2 (by omega) (by omega) h1.1 h1.2 h2.2 hm
end Go.Proofs.YtinfkoinpnnnnaaDoor
