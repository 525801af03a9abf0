/-
  The Go functions Row of squash and of its reference, Squash and Stretch of the reference come to the row, to 'sq' and to 'st'. Condition (squash.Row alone): the table 'row' lies in its variable.
-/
import Derived.Test.YtinfkoinpnnnnaaDoorSqX
import Derived.Outline
import Derived.Handy
import Derived.Great.BuildSlice
import Derived.Laws.CopyOwn
namespace Go.Proofs.YtinfkoinpnnnnaaDoor
open Go.RowKit
open Sq

/-- The row as a value. -/
def rowV : Array Value := (rowL.map (Value.int .i32)).toArray
/-- An array of zeros. -/
def zeroV : Array Value := (List.replicate 33 (Value.int .i32 0)).toArray

theorem info23 : (Tryd.prog.info? 23).map (·.size) = some rowV.size := by kernel_rfl
theorem info21 : (Tryd.prog.info? 21).map (·.size) = some 1 := by kernel_rfl
theorem info23z : ((Tryd.prog.info? 23).bind (·.zero)).map (·.cells.size) = some rowL.length := by kernel_rfl
theorem rowV_one : rowV.all (·.oneCell') = true := by kernel_rfl
theorem zero_row : zeroV.size = rowV.size := by kernel_rfl

set_option maxHeartbeats 1000000 in
theorem ref_row_any (w : World) : Calls Tryd.prog 14 #[] w fun e w' => e = .returned (.agg rowV) ∧ Below w.heap.size w w' := by
  go_enter Tryd.func14, Tryd.ntmps14
  go_wp2_with (first | (refine wpList_buildFlatArrTo rfl 23 21 33 _ rfl .i32 rowL (some 1) rfl Tryd.underlying23 info21 info23z (by kernel_rfl) ?_) | (refine wpList_store_rowTo rfl 23 _ _ rfl rfl w.heap.size rowV rfl rfl 23 zeroV (heap_alloc_new _ _) info23 zero_row rowV_one ?_))
  refine bodyPost_ret (v := .agg rowV) (results_cell_row rfl _ _ w.heap.size 23 rowV (0, 0) _ rfl (setRow_heap _ _ _ _ _ _ (heap_alloc_new _ _)) Tryd.underlying23 rfl info23) rfl ⟨rfl, ?_⟩
  exact below_setRow ((Below.refl _ _).alloc (Nat.le_refl _) _) (Nat.le_refl _) _

/-- What the loop of squash.Row has copied behind k rounds. -/
def rowToL (k : Nat) : List Int := rowL.take k ++ List.replicate (33 - k) 0
def rowTo (k : Nat) : Array Value := ((rowToL k).map (Value.int .i32)).toArray
theorem rowToL_size : ∀ k : Nat, k < 34 → (rowToL k).length = 33 := by decide +kernel
theorem rowToL_next : ∀ k : Nat, k < 33 → (rowToL k).set k (rowL.getD k 0) = rowToL (k + 1) := by decide +kernel
theorem rowTo_size (k : Nat) (h : k ≤ 33) : (rowTo k).size = 33 := by
  unfold rowTo
  simp [rowToL_size k (by omega)]
theorem rowTo_next (k : Nat) (hk : k < 33) : (rowTo k).setIfInBounds k (.int .i32 (rowL.getD k 0)) = rowTo (k + 1) := by
  unfold rowTo
  rw [← rowToL_next k hk, List.setIfInBounds_toArray, List.map_set]

set_option maxHeartbeats 2000000 in
theorem row_any (w : World) (hT : Tab w) : Calls Tryd.prog 13 #[] w fun e w' => e = .returned (.agg rowV) ∧ Below w.heap.size w w' := by
  have hw0 := hT.pos
  have HT : Hid (∀ W : World, Below w.heap.size w W → ∀ k : Nat, k < 33 → W.cell? ⟨0, k, none⟩ = some (.int .i32 (rowL.getD k 0))) := fun W hb k hk => (hT.below hw0 hb) k hk
  clear hT
  go_enter Tryd.func13, Tryd.ntmps13
  go_wp2
  go_loopw [2, 3] (fun _ s3 wr => ∃ k : Nat, k ≤ 33 ∧ s3 = .int .i64 k ∧ wr.heap[w.heap.size + 1]? = some (.cells (rowTo k) 23 (0, 0)) ∧ Hid (∃ old, wr.heap[w.heap.size]? = some (.cells old 23 (0, 0)) ∧ old.size = 33) ∧ Below w.heap.size w wr) (fun _ s3 _ => 33 - (intOf s3).toNat)
  case atStart => exact ⟨0, by omega, rfl, heap_alloc2_new _ _ _, ⟨_, heap_alloc2_old _ _ _, rfl⟩, ((Below.refl _ _).alloc (Nat.le_refl _) _).alloc (by simp) _⟩
  case round =>
    obtain ⟨k, hk, rfl, hrow, hres, hb⟩ := hrel
    by_cases hlt : k < 33
    · have hc := HT.out wr hb k hlt
      have hc2 : ∃ v, wr.cell? ⟨w.heap.size + 1, k, none⟩ = some v := by
        rw [cell_of_row _ _ _ _ _ _ hrow]
        exact ⟨_, Array.getElem?_eq_getElem (by rw [rowTo_size k hk]; exact hlt)⟩
      obtain ⟨v2, hc2⟩ := hc2
      have hz2 := frozen_of_row _ _ k _ _ hrow
      have hrn := Lib.hid (rowTo_next k hlt)
      have hrow' := Lib.hid hrow
      have hz' : (k : Int) < 33 := by omega
      clear hrow
      go_wp2
      go_roundw
      case measure => simp [intOf]; omega
      case rel =>
        refine ⟨k + 1, by omega, by go_num, ?_, ?_, hb.setCell (by simp) _⟩
        · rw [← hrn.out]
          exact heap_setCell_same _ _ _ _ _ _ hrow'.out
        · obtain ⟨old, h1, h2⟩ := hres.out
          exact ⟨old, by rw [heap_setCell_other _ _ _ _ (by simp)]; exact h1, h2⟩
    · obtain rfl : k = 33 := by omega
      have hrow' : wr.heap[w.heap.size + 1]? = some (.cells rowV 23 (0, 0)) := hrow
      have hrow2 := Lib.hid hrow'
      clear hrow hrow'
      obtain ⟨old, h1, h2⟩ := hres.out
      have hh1 := Lib.hid h1
      have hh2 := Lib.hid h2
      clear hres h1 h2
      go_wp2_with (first | (refine wpList_load_row rfl 23 _ rfl (w.heap.size + 1) rfl 23 rowV (0, 0) _ hrow2.out Tryd.underlying23 rfl info23 ?_) | (refine wpList_store_rowTo rfl 23 _ _ rfl rfl w.heap.size rowV rfl rfl 23 old hh1.out info23 hh2.out rowV_one ?_))
      refine bodyPost_ret (v := .agg rowV) (results_cell_row rfl _ _ w.heap.size 23 rowV (0, 0) _ rfl (setRow_heap _ _ _ _ _ _ hh1.out) Tryd.underlying23 rfl info23) rfl ⟨rfl, ?_⟩
      exact below_setRow hb (Nat.le_refl _) _

/-- A whole array stored into a block of the call's own: the world behind it is known by what it holds. -/
theorem store_row_new {P : Program} {ops : Array Oper} {rest : List Oper} {o : Oper} {a : Act} {w : World} {Q : Exit → Act → World → Prop} (hgd : o.guard = none) (ty : TypeId) (x y : Operand) (ho : o.op = .store ty x y)
    (hd : o.dst = none) (g : Nat) (cells : Array Value) (hx : a.eval x = .pointer (some ⟨g, 0, none⟩)) (hy : a.eval y = .agg cells)
    (t : TypeId) (old : Array Value) (hg : w.heap[g]? = some (.cells old t (0, 0))) (hi : (P.info? ty).map (·.size) = some cells.size)
    (hold : old.size = cells.size) (h1 : cells.all (·.oneCell') = true)
    (h : ∀ w2, Below g w w2 → w2.heap.size = w.heap.size → w2.heap[g]? = some (.cells cells t (0, 0)) → wpList P ops Q rest a w2) : wpList P ops Q (o :: rest) a w :=
  wpList_store_rowTo hgd ty x y ho hd g cells hx hy t old hg hi hold h1 (h _ (below_setRow (Below.refl _ _) (Nat.le_refl _) _) (by simp) (setRow_heap _ _ _ _ _ _ hg))

set_option maxHeartbeats 2000000 in
/-- What squash.Squash of the reference returns between the ends, of the two places. -/
theorem ref_in (d : Int) (q : Nat) (r a b : Int) (w : World) (h1 : -2047 ≤ d) (h2 : d ≤ 2047) (hq : q ≤ 31) (e1 : (d + 2048) / 128 = (q : Int)) (e2 : (d + 2048) % 128 = r)
    (ha : rowV[q]? = some (.int .i32 a)) (hb : rowV[q + 1]? = some (.int .i32 b))
    (hm0 : 0 ≤ a * (128 - r)) (hm1 : a * (128 - r) ≤ 524160) (hn0 : 0 ≤ b * r) (hn1 : b * r ≤ 524160) :
    Calls Tryd.prog 12 #[.int .i32 d] w fun e w' => e = .returned (.int .i32 ((a * (128 - r) + b * r + 64) / 128)) ∧ Below w.heap.size w w' := by
  have t1 : ((q : Int) + 1).toNat = q + 1 := by omega
  have t2 : (q : Int) < 33 := by omega
  have t3 : (q : Int) + 1 < 33 := by omega
  have HA := Lib.hid ha
  have HB := Lib.hid hb
  clear ha hb
  go_enter Tryd.func12, Tryd.ntmps12
  go_wp2_with (first | (go_at_call 14; refine (ref_row_any _).mono ?_; rintro e w1 ⟨rfl, hw1⟩) | (refine store_row_new rfl 23 _ _ rfl rfl w1.heap.size rowV rfl rfl 23 zeroV (heap_alloc_new _ _) info23 zero_row rowV_one ?_; intro w2 hw2 hz2 hr2))
  have c0 : w2.cell? ⟨w1.heap.size, q, none⟩ = some (.int .i32 a) := by rw [cell_of_row _ _ _ _ _ _ hr2]; exact HA.out
  have c1 : w2.cell? ⟨w1.heap.size, q + 1, none⟩ = some (.int .i32 b) := by rw [cell_of_row _ _ _ _ _ _ hr2]; exact HB.out
  have hfin : Hid (Below w.heap.size w w2) := (hw1.alloc hw1.size _).trans (hw2.mono hw1.size)
  clear hr2 hw2 hz2 hw1
  go_wp2
  go_quiet (fail)
  go_wp2
  go_ret
  exact ⟨rfl, below_drewN hfin.out _⟩

set_option maxHeartbeats 400000 in
theorem ref_hi (d : Int) (w : World) (h : 2047 < d) :
    Calls Tryd.prog 12 #[.int .i32 d] w fun e w' => e = .returned (.int .i32 4095) ∧ w = w' := by
  go_enter Tryd.func12, Tryd.ntmps12
  go_wp2
  go_ret
  exact ⟨rfl, rfl⟩

set_option maxHeartbeats 400000 in
theorem ref_lo (d : Int) (w : World) (h : d < -2047) :
    Calls Tryd.prog 12 #[.int .i32 d] w fun e w' => e = .returned (.int .i32 0) ∧ w = w' := by
  have h2 : ¬ 2047 < d := by omega
  go_enter Tryd.func12, Tryd.ntmps12
  go_wp2
  go_ret
  exact ⟨rfl, rfl⟩

theorem rowV_at (i : Nat) (h : i < 33) : rowV[i]? = some (.int .i32 (rowL.getD i 0)) := by
  have hl : rowL.length = 33 := rfl
  unfold rowV
  simp [List.getD, hl, h]
theorem mul_bd0 (x r : Int) (h0 : 0 ≤ x) (h1 : x ≤ 4095) (r0 : 0 ≤ r) (r1 : r ≤ 128) : 0 ≤ x * r ∧ x * r ≤ 524160 := by
  have a1 : x * r ≤ 4095 * r := Int.mul_le_mul_of_nonneg_right h1 r0
  have a2 : 0 ≤ x * r := Int.mul_nonneg h0 r0
  omega

/-- CONTRACT: the reference's Squash. -/
theorem ref_any (d : Int) (w : World) :
    Calls Tryd.prog 12 #[.int .i32 d] w fun e w' => e = .returned (.int .i32 (sq d)) ∧ Below w.heap.size w w' := by
  by_cases h1 : 2047 < d
  · rw [sq_hi h1]
    exact (ref_hi d w h1).mono fun e w' ⟨he, hw⟩ => ⟨he, by rw [← hw]; exact Below.refl _ _⟩
  · by_cases h2 : d < -2047
    · rw [sq_lo h2]
      exact (ref_lo d w h2).mono fun e w' ⟨he, hw⟩ => ⟨he, by rw [← hw]; exact Below.refl _ _⟩
    · have hq : (d + 2048).toNat / 128 ≤ 31 := by omega
      have b0 := rowL_bd ((d + 2048).toNat / 128) (by omega)
      have b1 := rowL_bd ((d + 2048).toNat / 128 + 1) (by omega)
      have hm := mul_bd0 _ (128 - (((d + 2048).toNat % 128 : Nat) : Int)) b0.1 b0.2 (by omega) (by omega)
      have hn := mul_bd0 _ (((d + 2048).toNat % 128 : Nat) : Int) b1.1 b1.2 (by omega) (by omega)
      refine (ref_in d ((d + 2048).toNat / 128) (((d + 2048).toNat % 128 : Nat) : Int) _ _ w (by omega) (by omega) hq (by omega) (by omega)
        (rowV_at _ (by omega)) (rowV_at _ (by omega)) hm.1 hm.2 hn.1 hn.2).mono fun e w' ⟨he, hw⟩ => ⟨?_, hw⟩
      rw [he, sq_mid (by omega) (by omega), mid_other]

set_option maxHeartbeats 1000000 in
/-- CONTRACT: the reference's Stretch. -/
theorem ref_stretch_any (p : Int) (w : World) :
    Calls Tryd.prog 16 #[.int .i32 p] w fun e w' => e = .returned (.int .i32 (st p)) ∧ Below w.heap.size w w' := by
  obtain ⟨n, hst, hn, hlo, hhi⟩ := st_spec p
  have HR : Hid (∀ (W : World) (k : Int), Calls Tryd.prog 12 #[.int .i32 k] W fun e w' => e = .returned (.int .i32 (sq k)) ∧ Below W.heap.size W w') := fun W k => ref_any k W
  rw [hst]
  have hlo := Lib.hid hlo
  have hhi := Lib.hid hhi
  clear hst
  go_enter Tryd.func16, Tryd.ntmps16
  go_wp2
  go_loopw [3] (fun s3 wr => ∃ k : Nat, k ≤ n ∧ s3 = .int .i32 ((k : Int) - 2047) ∧ Below w.heap.size w wr) (fun s3 _ => n - (intOf s3 + 2047).toNat)
  case atStart => exact ⟨0, by omega, rfl, Below.refl _ _⟩
  case round =>
    obtain ⟨k, hk, rfl, hb⟩ := hrel
    by_cases hlt : k < n
    · have h1 : (k : Int) - 2047 < 2047 := by omega
      have h2 := hlo.out k hlt
      have hr := HR.out wr ((k : Int) - 2047)
      generalize sq ((k : Int) - 2047) = y at hr h2
      have HRR := Lib.hid hr
      clear hr
      go_wp2_with (go_at_call 12; refine (HRR.out).mono ?_; rintro e w1 ⟨rfl, hb1⟩)
      go_roundw
      case measure => simp [intOf]; omega
      case rel => exact ⟨k + 1, by omega, by rw [show (((k + 1 : Nat) : Int) - 2047) = (k : Int) - 2047 + 1 by omega], hb.trans (hb1.mono hb.size)⟩
    · obtain rfl : k = n := by omega
      by_cases h4 : k = 4094
      · have h1 : ¬ ((k : Int) - 2047 < 2047) := by omega
        clear h4
        go_wp2_with fail
        go_ret
        exact ⟨rfl, hb⟩
      · have h1 : (k : Int) - 2047 < 2047 := by omega
        have h2 := hhi.out k (Nat.le_refl _) (by omega)
        have h3 : ¬ (sq ((k : Int) - 2047) < p) := by omega
        clear h2
        have hr := HR.out wr ((k : Int) - 2047)
        generalize sq ((k : Int) - 2047) = y at hr h3
        have HRR := Lib.hid hr
        clear hr h4
        go_wp2_with (go_at_call 12; refine (HRR.out).mono ?_; rintro e w1 ⟨rfl, hb1⟩)
        go_ret
        exact ⟨rfl, hb.trans (hb1.mono hb.size)⟩
end Go.Proofs.YtinfkoinpnnnnaaDoor
