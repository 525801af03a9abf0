/-
  The chapter's examples of layer 4 hold: the Go function alive returns true. Condition: the table 'row' lies in its variable.
-/
import Derived.Test.YtinfkoinpnnnnaaDoorSqY
namespace Go.Proofs.YtinfkoinpnnnnaaDoor
open Go.RowKit
open Sq

theorem below_then {w w1 w2 : World} (h1 : Below w.heap.size w w1) (h2 : Below w1.heap.size w1 w2) : Below w.heap.size w w2 := h1.trans (h2.mono h1.size)
theorem tab_then {w w1 : World} (hT : Tab w) (h1 : Below w.heap.size w w1) : Tab w1 := hT.below hT.pos h1

/-- squash.Squash and Stretch once more, what they come to said by the caller. -/
theorem squash_c (d v : Int) (h : sq d = v) (w : World) (hT : Tab w) :
    Calls Tryd.prog 11 #[.int .i32 d] w fun e w' => e = .returned (.int .i32 v) ∧ Tab w' ∧ Below w.heap.size w w' :=
  (squash_any d w hT).mono fun e w' ⟨he, n, hw⟩ => ⟨by rw [he, h], by rw [hw]; exact hT.drewN n, by rw [hw]; exact below_drewN (Below.refl _ _) n⟩
theorem stretch_c (p v : Int) (h : st p = v) (w : World) (hT : Tab w) :
    Calls Tryd.prog 15 #[.int .i32 p] w fun e w' => e = .returned (.int .i32 v) ∧ Tab w' ∧ Below w.heap.size w w' :=
  (stretch_any p w hT).mono fun e w' ⟨he, hb⟩ => ⟨by rw [he, h], tab_then hT hb, hb⟩

set_option maxHeartbeats 1000000 in
/-- CONTRACT: the chapter's examples. -/
theorem alive_any (w : World) (hT : Tab w) : Calls Tryd.prog 17 #[] w fun e w' => e = .returned (.bool true) ∧ Tab w' ∧ Below w.heap.size w w' := by
  go_enter Tryd.func17, Tryd.ntmps17
  go_wp2_with fail
  refine (squash_c 0 2047 (by decide +kernel) _ hT).mono ?_
  rintro e w1 ⟨rfl, hT1, hb1⟩
  go_wp2_with fail
  refine (squash_c 128 2549 (by decide +kernel) _ hT1).mono ?_
  rintro e w2 ⟨rfl, hT2, hb2⟩
  go_wp2_with fail
  refine (squash_c 64 2298 (by decide +kernel) _ hT2).mono ?_
  rintro e w3 ⟨rfl, hT3, hb3⟩
  go_wp2_with fail
  refine (squash_c (-2047) 1 (by decide +kernel) _ hT3).mono ?_
  rintro e w4 ⟨rfl, hT4, hb4⟩
  go_wp2_with fail
  refine (squash_c 2047 4094 (by decide +kernel) _ hT4).mono ?_
  rintro e w5 ⟨rfl, hT5, hb5⟩
  go_wp2_with fail
  refine (squash_c 2048 4095 (by decide +kernel) _ hT5).mono ?_
  rintro e w6 ⟨rfl, hT6, hb6⟩
  go_wp2_with fail
  refine (stretch_c 2047 0 st_2047 _ hT6).mono ?_
  rintro e w7 ⟨rfl, hT7, hb7⟩
  go_wp2_with fail
  refine (stretch_c 0 (-2047) st_0 _ hT7).mono ?_
  rintro e w8 ⟨rfl, hT8, hb8⟩
  go_wp2_with fail
  refine (stretch_c 1 (-2047) st_1 _ hT8).mono ?_
  rintro e w9 ⟨rfl, hT9, hb9⟩
  go_wp2_with fail
  refine (stretch_c 4095 2047 st_4095 _ hT9).mono ?_
  rintro e w10 ⟨rfl, hT10, hb10⟩
  go_wp2_with fail
  go_ret
  exact ⟨rfl, hT10, (below_then (below_then (below_then (below_then (below_then (below_then (below_then (below_then (below_then hb1 hb2) hb3) hb4) hb5) hb6) hb7) hb8) hb9) hb10)⟩
end Go.Proofs.YtinfkoinpnnnnaaDoor
