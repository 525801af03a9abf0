/-
  The Go functions sort.Search (with the closure of squash.Stretch) and squash.Stretch come to the plain number 'st'. Condition: the table 'row' lies in its variable.
-/
import Derived.Test.YtinfkoinpnnnnaaDoorSqW
import Derived.Outline
namespace Go.Proofs.YtinfkoinpnnnnaaDoor
open Go.RowKit
open Sq

theorem Tab.drewN {w : World} (h : Tab w) (n : Nat) : Tab (w.drewN n) := h
theorem Tab.pos {w : World} (h : Tab w) : 0 < w.heap.size := World.block_lt_of_cell? _ _ (h 0 (by decide))
theorem Tab.below {w w' : World} (h : Tab w) {B : Nat} (hB : 0 < B) (hb : Below B w w') : Tab w' := fun i hi => (hb.cell (p := ⟨0, i, none⟩) hB).trans (h i hi)
theorem below_drewN {B : Nat} {a w : World} (h : Below B a w) (n : Nat) : Below B a (w.drewN n) := ⟨h.os, h.tape, h.output, h.size, h.block⟩

set_option maxHeartbeats 1000000 in
/-- CONTRACT: sort.Search with the closure of squash.Stretch. -/
theorem search_any (B : Nat) (p : Int) (w : World) (hT : Tab w) (hc : w.cell? ⟨B, 0, none⟩ = some (.int .i32 p)) :
    Calls Tryd.prog 25 #[.int .i64 4094, .func (.func 26) #[] #[.pointer (some ⟨B, 0, none⟩)]] w fun e w' => e = .returned (.int .i64 (st p + 2047)) ∧ ∃ n, w' = w.drewN n := by
  have hC : Hid (∀ n i, i < 4094 → Calls Tryd.prog 26 #[.int .i64 (i : Nat), .pointer (some ⟨B, 0, none⟩)] (w.drewN n) fun e w' => e = .returned (.bool (decide (p ≤ sq ((i : Int) - 2047)))) ∧ ∃ m, w' = (w.drewN n).drewN m) :=
    fun n i hi => closure_any i B p _ hi (hT.drewN n) hc
  clear hT hc
  go_enter Tryd.func25, Tryd.ntmps25
  go_wp2
  go_loopw [5, 6] (fun s5 s6 wr => ∃ lo hi q : Nat, s5 = .int .i64 lo ∧ s6 = .int .i64 hi ∧ lo ≤ hi ∧ hi ≤ 4094 ∧ wr = w.drewN q ∧ Hid ((∀ t : Nat, t < lo → sq ((t : Int) - 2047) < p) ∧ (∀ t : Nat, hi ≤ t → t < 4094 → p ≤ sq ((t : Int) - 2047)))) (fun s5 s6 _ => (intOf s6 - intOf s5).toNat)
  case atStart => exact ⟨0, 4094, 0, rfl, rfl, by omega, by omega, rfl, ⟨fun t h => by omega, fun t h1 h2 => by omega⟩⟩
  case round =>
    obtain ⟨lo, hi, q, rfl, rfl, hlh, hin, rfl, I⟩ := hrel
    by_cases hlt : lo < hi
    · have hcl := hC.out q ((lo + hi) / 2) (by omega)
      rw [show (((lo + hi) / 2 : Nat) : Int) = ((lo : Int) + (hi : Int)) / 2 by omega] at hcl
      have hb1 : ((lo : Int) + (hi : Int)) / 2 ≤ 4094 := by omega
      by_cases hp : p ≤ sq (((lo : Int) + (hi : Int)) / 2 - 2047)
      · have HP := Lib.hid hp
        rw [show decide (p ≤ sq (((lo : Int) + (hi : Int)) / 2 - 2047)) = true by simpa using hp] at hcl
        have H := Lib.hid hcl
        clear hcl hp
        go_wp2_with (go_at_call 26; refine (H.out).mono ?_; rintro e w' ⟨rfl, nq, rfl⟩)
        go_roundw
        case measure => simp [intOf]; omega
        case rel =>
          refine ⟨lo, (lo + hi) / 2, q + nq, rfl, by rw [show ((lo : Int) + (hi : Int)) / 2 = (((lo + hi) / 2 : Nat) : Int) by omega], by omega, by omega, rfl, I.out.1, fun t h1 h2 => ?_⟩
          have := sq_mono (a := ((lo : Int) + (hi : Int)) / 2 - 2047) (b := (t : Int) - 2047) (by omega)
          have := HP.out
          omega
      · have HP := Lib.hid hp
        rw [show decide (p ≤ sq (((lo : Int) + (hi : Int)) / 2 - 2047)) = false by simpa using hp] at hcl
        have H := Lib.hid hcl
        clear hcl hp
        go_wp2_with (go_at_call 26; refine (H.out).mono ?_; rintro e w' ⟨rfl, nq, rfl⟩)
        go_roundw
        case measure => simp [intOf]; omega
        case rel =>
          refine ⟨(lo + hi) / 2 + 1, hi, q + nq, by rw [show ((lo : Int) + (hi : Int)) / 2 + 1 = (((lo + hi) / 2 + 1 : Nat) : Int) by omega], rfl, by omega, by omega, rfl, fun t h1 => ?_, I.out.2⟩
          have := sq_mono (a := (t : Int) - 2047) (b := ((lo : Int) + (hi : Int)) / 2 - 2047) (by omega)
          have := HP.out
          omega
    · obtain rfl : lo = hi := by omega
      have hst : Hid (st p = (lo : Int) - 2047) := st_eq ⟨hin, I.out.1, I.out.2⟩
      go_wp2
      go_ret
      exact ⟨by rw [hst.out]; simp, q, rfl⟩

set_option maxHeartbeats 1000000 in
/-- CONTRACT: squash.Stretch. -/
theorem stretch_any (p : Int) (w : World) (hT : Tab w) :
    Calls Tryd.prog 15 #[.int .i32 p] w fun e w' => e = .returned (.int .i32 (st p)) ∧ Below w.heap.size w w' := by
  have hS : Hid (Calls Tryd.prog 25 #[.int .i64 4094, .func (.func 26) #[] #[.pointer (some ⟨w.heap.size, 0, none⟩)]] (w.alloc (.cells #[.int .i32 p] 21)) fun e w' => e = .returned (.int .i64 (st p + 2047)) ∧ ∃ n, w' = (w.alloc (.cells #[.int .i32 p] 21)).drewN n) :=
    search_any w.heap.size p _ (hT.below hT.pos ((Below.refl _ _).alloc (Nat.le_refl _) _)) (by simp)
  have hbd := st_bd p
  obtain ⟨b0, b1⟩ := hbd
  clear hT
  generalize st p = y at hS b0 b1 ⊢
  go_enter Tryd.func15, Tryd.ntmps15
  go_wp2_with (go_at_call 25; refine (hS.out).mono ?_; rintro e w' ⟨rfl, nq, rfl⟩)
  go_ret
  exact ⟨by simp, below_drewN ((Below.refl _ _).alloc (Nat.le_refl _) _) _⟩

end Go.Proofs.YtinfkoinpnnnnaaDoor
