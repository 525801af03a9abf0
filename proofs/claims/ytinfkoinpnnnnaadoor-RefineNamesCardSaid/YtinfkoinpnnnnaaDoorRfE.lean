/-
  The Go function refine.Look. No condition.
-/
import Derived.Test.YtinfkoinpnnnnaaDoorRfD
namespace Go.Proofs.YtinfkoinpnnnnaaDoor
open Go.RowKit
open Sq

theorem askE_zero {L : List (List Int)} {row : Int} (h : askE L row = 0) : (1 ≤ L.length ∧ L.length ≤ 256 ∧ AllGood L) ∧ 0 ≤ row ∧ row < L.length := by
  unfold askE at h
  split at h
  · omega
  · rename_i h1
    have h2 : checkE L = 0 := by simpa using h1
    split at h
    · omega
    · unfold checkE at h2
      split at h2
      · rename_i g; exact ⟨g, by omega, by omega⟩
      · omega

set_option maxHeartbeats 1000000 in
/-- refine.Look where the refiner or the row is bad. -/
theorem look_bad (p : Option Addr) (c : Nat) (L : List (List Int)) (row d : Int) (w : World) (hR : Rows32 w (.slice p L.length c) L) (hn : L.length ≤ 1000000) (h : askE L row ≠ 0) :
    Calls Tryd.prog 19 #[.agg #[.slice p L.length c], .int .i64 row, .int .i32 d] w fun e w' => e = .returned (.tuple #[.int .i32 0, .int .i64 0, .int .i64 (askE L row)]) ∧ Below w.heap.size w w' := by
  have hB : Below w.heap.size w (w.alloc (.cells #[.slice p L.length c] 34)) := (Below.refl _ _).alloc (Nat.le_refl _) _
  have HC := Lib.hid (ask_any p c L row _ (hR.below hB) hn)
  have HB := Lib.hid hB
  have hne : ((askE L row) != 0) = true := by rw [bne_iff_ne]; exact h
  clear hB hR h
  generalize askE L row = a at HC hne ⊢
  generalize L.length = n at HC HB ⊢
  go_enter Tryd.func19, Tryd.ntmps19
  go_wp2_with fail
  refine (HC.out).mono ?_
  rintro e w1 ⟨rfl, hb1⟩
  go_wp2_with fail
  go_ret3
  exact ⟨rfl, below_then HB.out hb1⟩

set_option maxHeartbeats 1000000 in
/-- refine.Look with a number far away. -/
theorem look_far (p : Option Addr) (c : Nat) (L : List (List Int)) (row d : Int) (w : World) (hR : Rows32 w (.slice p L.length c) L) (hn : L.length ≤ 1000000) (h : askE L row = 0) (hd : d < -2047 ∨ 2047 < d) :
    Calls Tryd.prog 19 #[.agg #[.slice p L.length c], .int .i64 row, .int .i32 d] w fun e w' => e = .returned (.tuple #[.int .i32 0, .int .i64 0, .int .i64 2]) ∧ Below w.heap.size w w' := by
  have hB : Below w.heap.size w (w.alloc (.cells #[.slice p L.length c] 34)) := (Below.refl _ _).alloc (Nat.le_refl _) _
  have hC := ask_any p c L row _ (hR.below hB) hn
  rw [h] at hC
  have HC := Lib.hid hC
  have HB := Lib.hid hB
  clear hB hR h hC
  generalize L.length = n at HC HB ⊢
  rcases hd with hd | hd
  · go_enter Tryd.func19, Tryd.ntmps19
    go_wp2_with fail
    refine (HC.out).mono ?_
    rintro e w1 ⟨rfl, hb1⟩
    go_wp2_with fail
    go_ret3
    exact ⟨rfl, below_then HB.out hb1⟩
  · have hd2 : ¬ d < -2047 := by omega
    go_enter Tryd.func19, Tryd.ntmps19
    go_wp2_with fail
    refine (HC.out).mono ?_
    rintro e w1 ⟨rfl, hb1⟩
    go_wp2_with fail
    go_ret3
    exact ⟨rfl, below_then HB.out hb1⟩

/-- What refine.Look sees in a row. -/
def lookP (l : List Int) (k : Nat) : Int := ((128 - ((k % 128 : Nat) : Int)) * l.getD (k / 128) 0 + ((k % 128 : Nat) : Int) * l.getD (k / 128 + 1) 0) / 2048
def lookN (k : Nat) : Int := ((k / 128 : Nat) : Int) + (((k % 128) / 64 : Nat) : Int)

set_option maxRecDepth 100000 in
set_option maxHeartbeats 2000000 in
theorem look_in (b off c n : Nat) (row : Nat) (d : Int) (w : World) (q r : Nat) (x y : Int) (b' off' c' : Nat) (a : Calls Tryd.prog 27 #[.agg #[.slice (some ⟨b, off, none⟩) n c], .int .i64 row] (w.alloc (.cells #[.slice (some ⟨b, off, none⟩) n c] 34)) fun e w' => e = .returned (.int .i64 0) ∧ Below (w.alloc (.cells #[.slice (some ⟨b, off, none⟩) n c] 34)).heap.size (w.alloc (.cells #[.slice (some ⟨b, off, none⟩) n c] 34)) w')
    (hrow : (row : Int) < n) (hd0 : -2047 ≤ d) (hd1 : d ≤ 2047) (hq : (q : Int) ≤ 31) (hr : (r : Int) < 128) (e1 : (d + 2048) / 128 = (q : Int)) (e2 : (d + 2048) % 128 = (r : Int))
    (cr : w.cell? ⟨b, off + row, none⟩ = some (.slice (some ⟨b', off', none⟩) 33 c')) (cx : w.cell? ⟨b', off' + q, none⟩ = some (.int .i32 x)) (cy : w.cell? ⟨b', off' + (q + 1), none⟩ = some (.int .i32 y))
    (m0 : 0 ≤ (128 - (r : Int)) * x) (m1 : (128 - (r : Int)) * x ≤ 8388480) (n0 : 0 ≤ (r : Int) * y) (n1 : (r : Int) * y ≤ 8388480) :
    Calls Tryd.prog 19 #[.agg #[.slice (some ⟨b, off, none⟩) n c], .int .i64 row, .int .i32 d] w fun e w' => e = .returned (.tuple #[.int .i32 (((128 - (r : Int)) * x + (r : Int) * y) / 2048), .int .i64 ((q : Int) + (r : Int) / 64), .int .i64 0]) ∧ Below w.heap.size w w' := by
  have hB : Below w.heap.size w (w.alloc (.cells #[.slice (some ⟨b, off, none⟩) n c] 34)) := (Below.refl _ _).alloc (Nat.le_refl _) _
  have HC := Lib.hid a
  have HB := Lib.hid hB
  have Cr := Lib.hid cr
  have Cx := Lib.hid cx
  have Cy := Lib.hid cy
  have t1 : ((q : Int) + 1).toNat = q + 1 := by omega
  have t3 : (q : Int) + 1 < 33 := by omega
  have hrow' := hrow
  clear a hB cr cx cy
  go_enter Tryd.func19, Tryd.ntmps19
  go_wp2_with fail
  refine (HC.out).mono ?_
  rintro e w1 ⟨rfl, hb1⟩
  have hbb := below_then HB.out hb1
  have cr := cell_behind Cr.out hbb
  have cx := cell_behind Cx.out hbb
  have cy := cell_behind Cy.out hbb
  have cb : w1.cell? ⟨w.heap.size, 0, none⟩ = some (.slice (some ⟨b, off, none⟩) n c) := (hb1.cell (p := ⟨w.heap.size, 0, none⟩) (by simp)).trans (by simp)
  have Hbb := Lib.hid hbb
  clear hbb hb1
  go_wp2_with fail
  go_quiet (fail)
  go_wp2_with fail
  go_ret3
  exact ⟨rfl, below_drewN Hbb.out _⟩

theorem good_bd {l : List Int} (h : Good l) (i : Nat) (hi : i < 33) : 0 ≤ l.getD i 0 ∧ l.getD i 0 ≤ 65535 := h.2 i hi
theorem mul_bd16 (x r : Int) (h0 : 0 ≤ x) (h1 : x ≤ 65535) (r0 : 0 ≤ r) (r1 : r ≤ 128) : 0 ≤ r * x ∧ r * x ≤ 8388480 := by
  have a1 : r * x ≤ r * 65535 := Int.mul_le_mul_of_nonneg_left h1 r0
  have a2 : 0 ≤ r * x := Int.mul_nonneg r0 h0
  omega

/-- refine.Look where all is right. -/
theorem look_ok (p : Option Addr) (c : Nat) (L : List (List Int)) (row d : Int) (w : World) (hR : Rows32 w (.slice p L.length c) L) (hn : L.length ≤ 1000000) (h : askE L row = 0) (hd0 : -2047 ≤ d) (hd1 : d ≤ 2047) :
    Calls Tryd.prog 19 #[.agg #[.slice p L.length c], .int .i64 row, .int .i32 d] w fun e w' => e = .returned (.tuple #[.int .i32 (lookP (L.getD row.toNat []) (d + 2048).toNat), .int .i64 (lookN (d + 2048).toNat), .int .i64 0]) ∧ Below w.heap.size w w' := by
  have hB : Below w.heap.size w (w.alloc (.cells #[.slice p L.length c] 34)) := (Below.refl _ _).alloc (Nat.le_refl _) _
  have hC := ask_any p c L row _ (hR.below hB) hn
  rw [h] at hC
  obtain ⟨⟨g1, g2, g3⟩, r0, r1⟩ := askE_zero h
  obtain ⟨k, rfl⟩ : ∃ k : Nat, row = k := ⟨row.toNat, by omega⟩
  obtain ⟨p', c', e, hs⟩ := hR
  simp only [Value.slice.injEq] at e
  obtain ⟨rfl, _, rfl⟩ := e
  obtain ⟨b, off, rfl, hr⟩ := hs g1 g2
  · obtain ⟨r, hcell, hrr⟩ := hr k (by omega)
    obtain ⟨pr, cr, rfl, hcells⟩ := hrr
    have hg := g3 k (by omega)
    rw [Int.toNat_natCast]
    generalize L.getD k [] = l at hcell hcells hg ⊢
    have hl33 := hg.1
    rw [hl33] at hcell
    obtain ⟨b', off', rfl, hcc⟩ := hcells hl33
    obtain ⟨j, hj⟩ : ∃ j : Nat, (d + 2048).toNat = j := ⟨_, rfl⟩
    have hx := good_bd hg (j / 128) (by omega)
    have hy := good_bd hg (j / 128 + 1) (by omega)
    have hm := mul_bd16 (l.getD (j / 128) 0) (128 - ((j % 128 : Nat) : Int)) hx.1 hx.2 (by omega) (by omega)
    have hn2 := mul_bd16 (l.getD (j / 128 + 1) 0) ((j % 128 : Nat) : Int) hy.1 hy.2 (by omega) (by omega)
    rw [hj]
    refine (look_in b off c L.length k d w (j / 128) (j % 128) _ _ b' off' cr hC r1 hd0 hd1 (by omega) (by omega) (by omega) (by omega) hcell (hcc _ (by omega)) (hcc _ (by omega)) hm.1 hm.2 hn2.1 hn2.2).mono fun e w' ⟨he, hb⟩ => ⟨?_, hb⟩
    rw [he]
    unfold lookP lookN
    rw [show (((j % 128) / 64 : Nat) : Int) = ((j % 128 : Nat) : Int) / 64 by omega]
end Go.Proofs.YtinfkoinpnnnnaaDoor
