/-
  The Go function squash.Squash, and the closure of squash.Stretch, come to the plain numbers 'sq'. Condition: the table 'row' lies in its variable.
-/
import Derived.Test.YtinfkoinpnnnnaaDoorProg
import Derived.Test.YtinfkoinpnnnnaaDoorSqPlain
import Derived.WalkKit
import Derived.WalkLawsBesides
import Derived.WalkSpells
import Derived.Deep.QuietTactic
import Derived.BigQuiet
import Derived.RegionTactic
import Derived.IntWalk
import Derived.Lib.Hide
namespace Go.Proofs.YtinfkoinpnnnnaaDoor
open Go.RowKit
open Sq

theorem i32_and127 (n : Int) : bits .and .i32 n 127 = n % 128 := by
  have h127 : (BitVec.ofInt 32 127).toNat = 2 ^ 7 - 1 := by decide
  have key : (BitVec.ofInt 32 n &&& BitVec.ofInt 32 127).toNat = (n % ((2 ^ 32 : Nat) : Int)).toNat % 2 ^ 7 := by
    rw [BitVec.toNat_and, BitVec.toNat_ofInt, h127, Nat.and_two_pow_sub_one_eq_mod]
  show IntKind.i32.wrap ((BitVec.ofInt 32 n &&& BitVec.ofInt 32 127).toNat : Nat) = n % 128
  rw [key, IntKind.wrap_i32]
  omega

/-- The row lies in the variable. -/
def Tab (w : World) : Prop := ∀ i : Nat, i < 33 → w.cell? ⟨0, i, none⟩ = some (.int .i32 (rowL.getD i 0))

set_option maxHeartbeats 400000 in
theorem squash_hi (d : Int) (w : World) (h : 2047 < d) :
    Calls Tryd.prog 11 #[.int .i32 d] w fun e w' => e = .returned (.int .i32 4095) ∧ w = w' := by
  go_enter Tryd.func11, Tryd.ntmps11
  go_wp2
  go_ret
  exact ⟨rfl, rfl⟩

set_option maxHeartbeats 400000 in
theorem squash_lo (d : Int) (w : World) (h : d < -2047) :
    Calls Tryd.prog 11 #[.int .i32 d] w fun e w' => e = .returned (.int .i32 0) ∧ w = w' := by
  have h2 : ¬ 2047 < d := by omega
  go_enter Tryd.func11, Tryd.ntmps11
  go_wp2
  go_ret
  exact ⟨rfl, rfl⟩

set_option maxHeartbeats 400000 in
theorem squash_in (d : Int) (q : Nat) (r a b : Int) (w : World) (h1 : -2047 ≤ d) (h2 : d ≤ 2047) (hq : q ≤ 31) (e1 : d / 128 = (q : Int) - 16) (e2 : bits .and .i32 d 127 = r)
    (ha0 : 0 ≤ a) (ha1 : a ≤ 4095) (hb0 : 0 ≤ b) (hb1 : b ≤ 4095) (hm0 : -524160 ≤ (b - a) * r) (hm1 : (b - a) * r ≤ 524160)
    (c0 : w.cell? ⟨0, q, none⟩ = some (.int .i32 a)) (c1 : w.cell? ⟨0, q + 1, none⟩ = some (.int .i32 b)) :
    Calls Tryd.prog 11 #[.int .i32 d] w fun e w' => e = .returned (.int .i32 ((a * 128 + (b - a) * r + 64) / 128)) ∧ ∃ n, w' = w.drewN n := by
  have t1 : ((q : Int) + 1).toNat = q + 1 := by omega
  have t2 : (q : Int) < 33 := by omega
  have t3 : (q : Int) + 1 < 33 := by omega
  go_enter Tryd.func11, Tryd.ntmps11
  go_wp2
  go_quiet (fail)
  go_wp2
  go_ret
  exact ⟨rfl, nq, rfl⟩

theorem mul_bd (x r : Int) (h0 : -4095 ≤ x) (h1 : x ≤ 4095) (r0 : 0 ≤ r) (r1 : r ≤ 128) : -524160 ≤ x * r ∧ x * r ≤ 524160 := by
  have a1 : x * r ≤ 4095 * r := Int.mul_le_mul_of_nonneg_right h1 r0
  have a2 : -4095 * r ≤ x * r := Int.mul_le_mul_of_nonneg_right h0 r0
  omega

theorem rowL_bd : ∀ i : Nat, i < 33 → 0 ≤ rowL.getD i 0 ∧ rowL.getD i 0 ≤ 4095 := by decide +kernel

/-- CONTRACT: squash.Squash. -/
theorem squash_any (d : Int) (w : World) (hT : Tab w) :
    Calls Tryd.prog 11 #[.int .i32 d] w fun e w' => e = .returned (.int .i32 (sq d)) ∧ ∃ n, w' = w.drewN n := by
  by_cases h1 : 2047 < d
  · rw [sq_hi h1]
    exact (squash_hi d w h1).mono fun e w' ⟨he, hw⟩ => ⟨he, 0, by rw [← hw]; rfl⟩
  · by_cases h2 : d < -2047
    · rw [sq_lo h2]
      exact (squash_lo d w h2).mono fun e w' ⟨he, hw⟩ => ⟨he, 0, by rw [← hw]; rfl⟩
    · have hq : (d + 2048).toNat / 128 ≤ 31 := by omega
      have b0 := rowL_bd ((d + 2048).toNat / 128) (by omega)
      have b1 := rowL_bd ((d + 2048).toNat / 128 + 1) (by omega)
      have hm := mul_bd (rowL.getD ((d + 2048).toNat / 128 + 1) 0 - rowL.getD ((d + 2048).toNat / 128) 0) (((d + 2048).toNat % 128 : Nat) : Int) (by omega) (by omega) (by omega) (by omega)
      refine (squash_in d ((d + 2048).toNat / 128) (((d + 2048).toNat % 128 : Nat) : Int) _ _ w (by omega) (by omega) hq (by omega) (by rw [i32_and127]; omega)
        b0.1 b0.2 b1.1 b1.2 hm.1 hm.2 (hT _ (by omega)) (hT _ (by omega))).mono fun e w' ⟨he, hw⟩ => ⟨?_, hw⟩
      rw [he, sq_mid (by omega) (by omega)]
      rfl

set_option maxHeartbeats 400000 in
/-- CONTRACT: the closure of squash.Stretch. -/
theorem closure_any (i : Nat) (B : Nat) (p : Int) (w : World) (hi : i < 4094) (hT : Tab w) (hc : w.cell? ⟨B, 0, none⟩ = some (.int .i32 p)) :
    Calls Tryd.prog 26 #[.int .i64 i, .pointer (some ⟨B, 0, none⟩)] w fun e w' => e = .returned (.bool (decide (p ≤ sq ((i : Int) - 2047)))) ∧ ∃ n, w' = w.drewN n := by
  have hi' : (i : Int) < 4094 := by omega
  have hS : Hid (∀ n, Calls Tryd.prog 11 #[.int .i32 ((i : Int) - 2047)] (w.drewN n) fun e w' => e = .returned (.int .i32 (sq ((i : Int) - 2047))) ∧ ∃ m, w' = (w.drewN n).drewN m) :=
    fun n => squash_any _ _ hT
  clear hT
  generalize sq ((i : Int) - 2047) = y at hS ⊢
  go_enter Tryd.func26, Tryd.ntmps26
  go_wp2
  go_quiet ((go_at_call 11; exact Calls.quiet_of (hS.out _)))
  go_wp2
  go_ret
  exact ⟨rfl, _, rfl⟩
end Go.Proofs.YtinfkoinpnnnnaaDoor
