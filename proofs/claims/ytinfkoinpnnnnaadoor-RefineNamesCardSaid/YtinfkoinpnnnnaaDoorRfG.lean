/-
  The Go functions refine.Learn (as a contract), the reference's Check, SameRow and Same where what is compared is the same. No condition.
-/
import Derived.Test.YtinfkoinpnnnnaaDoorRfF
namespace Go.Proofs.YtinfkoinpnnnnaaDoor
open Go.RowKit
open Sq

theorem owns_row32 {w : World} {B : Nat} {v : Value} {l : List Int} (h : w.ownsRow B 21 1 v l.length (l.map (Value.int .i32))) : Row32 w v l := by
  rcases h.2 with ⟨rfl, hn⟩ | ⟨g, cap, cur, rfl, _, hg, _⟩
  · exact ⟨none, 0, by rw [hn], fun h33 => by omega⟩
  · refine ⟨some ⟨g, 0, none⟩, cap, rfl, fun h33 => ⟨g, 0, rfl, fun i hi => ?_⟩⟩
    have := h.cells (g := g) rfl i (.int .i32 (l.getD i 0)) (by rw [List.getElem?_map, List.getElem?_eq_getElem (by omega)]; simp [List.getD, show i < l.length by omega])
    rwa [cell_off] at this
theorem OwnRows.rows {w : World} {B : Nat} {v : Value} {L : List (List Int)} (h : OwnRows w B v L) : Rows32 w v L := by
  obtain ⟨rs, h1, h2⟩ := h
  have e : rs.length = L.length := by have := h1.1; omega
  rcases h1.2 with ⟨rfl, hn⟩ | ⟨g, cap, cur, rfl, _, hg, _⟩
  · exact ⟨none, 0, by rw [hn], fun h33 => by omega⟩
  · refine ⟨some ⟨g, 0, none⟩, cap, rfl, fun _ _ => ⟨g, 0, rfl, fun k hk => ⟨rs[k], ?_, ?_⟩⟩⟩
    · have := h1.cells (g := g) rfl k rs[k] (List.getElem?_eq_getElem (by omega))
      rwa [cell_off] at this
    · have hL : L[k]? = some (L.getD k []) := by rw [List.getElem?_eq_getElem hk]; simp [List.getD, hk]
      exact owns_row32 (h2.1 k _ _ (List.getElem?_eq_getElem (by omega)) hL)
theorem Rows32.form {w : World} {v : Value} {L : List (List Int)} (h : Rows32 w v L) : ∃ p c, v = .slice p L.length c := by
  obtain ⟨p, c, e, _⟩ := h
  exact ⟨p, c, e⟩

theorem quiet_add_c {P : Program} {f : FuncId} {args : Array Value} {w : World} {a n : Nat} {v : Value}
    (h : Calls P f args (w.drewN (a + n)) fun e w' => e = .returned v ∧ ∃ m, w' = (w.drewN (a + n)).drewN m) :
    Calls P f args (w.drewN (a + n)) fun e w'' => e = .returned v ∧ ∃ m, w'' = w.drewN (a + m) :=
  h.mono fun _ _ ⟨he, m, hm⟩ => ⟨he, n + m, by rw [hm, World.drewN_drewN, Nat.add_assoc]⟩

/-- A refiner that has learned a 1. -/
def learnL (L : List (List Int)) (row near : Nat) : List (List Int) := L.set row ((L.getD row []).set near ((L.getD row []).getD near 0 + (65535 - (L.getD row []).getD near 0) / 64))

/-- CONTRACT: refine.Learn of a 1, where all is right. -/
theorem learn_ok (p : Option Addr) (c : Nat) (L : List (List Int)) (row near : Int) (w : World) (hR : Rows32 w (.slice p L.length c) L) (hn : L.length ≤ 1000000) (h : askE L row = 0) (n0 : 0 ≤ near) (n1 : near < 33) :
    Calls Tryd.prog 20 #[.agg #[.slice p L.length c], .int .i64 row, .int .i64 near, .bool true] w fun e w' => ∃ v, e = .returned (.tuple #[.agg #[v], .int .i64 0]) ∧ OwnRows w' w.heap.size v (learnL L row.toNat near.toNat) ∧ Below w.heap.size w w' := by
  obtain ⟨⟨g1, g2, g3⟩, r0, r1⟩ := askE_zero h
  obtain ⟨k, rfl⟩ : ∃ k : Nat, row = k := ⟨row.toNat, by omega⟩
  obtain ⟨m, rfl⟩ : ∃ m : Nat, near = m := ⟨near.toNat, by omega⟩
  obtain ⟨p', c', e, hs⟩ := id hR
  simp only [Value.slice.injEq] at e
  obtain ⟨rfl, _, rfl⟩ := e
  obtain ⟨b, off, rfl, hr⟩ := hs g1 g2
  have hg := g3 k (by omega)
  have hy := hg.2 m (by omega)
  refine learn_some b off c L k m w hR (fun W hW i hi => ?_) hn h (by omega) (by omega) hy.1 hy.2
  obtain ⟨r, hcell, pr, cr, rfl, hcells⟩ := hr i hi
  have h33 := (g3 i hi).1
  obtain ⟨b', off', rfl, hcc⟩ := hcells h33
  rw [h33] at hcell
  exact ⟨b', off', cr, cell_behind hcell hW, h33, fun j hj => cell_behind (hcc j (by omega)) hW⟩

set_option maxRecDepth 100000 in
set_option maxHeartbeats 2000000 in
/-- The reference's Check of a valid refiner. -/
theorem refcheck_ok (b off c : Nat) (L : List (List Int)) (w : World) (h1 : 1 ≤ L.length) (h2 : L.length ≤ 256) (hG : AllGood L)
    (hr : ∀ k, k < L.length → ∃ r, w.cell? ⟨b, off + k, none⟩ = some r ∧ Row32 w r (L.getD k [])) :
    Calls Tryd.prog 31 #[.agg #[.slice (some ⟨b, off, none⟩) L.length c]] w fun e w' => e = .returned (.int .i64 0) ∧ Below w.heap.size w w' := by
  have hB : Below w.heap.size w (w.alloc (.cells #[.slice (some ⟨b, off, none⟩) L.length c] 34)) := (Below.refl _ _).alloc (Nat.le_refl _) _
  have HR : Hid (∀ k, k < L.length → ∃ b' off' cr, (w.alloc (.cells #[.slice (some ⟨b, off, none⟩) L.length c] 34)).cell? ⟨b, off + k, none⟩ = some (.slice (some ⟨b', off', none⟩) 33 cr) ∧
      ∀ i, i < 33 → ∃ y, 0 ≤ y ∧ y ≤ 65535 ∧ (w.alloc (.cells #[.slice (some ⟨b, off, none⟩) L.length c] 34)).cell? ⟨b', off' + i, none⟩ = some (.int .i32 y)) := fun k hk => by
    obtain ⟨r, hcr, hrr⟩ := hr k hk
    obtain ⟨p, cr, rfl, h⟩ := hrr.below hB
    have hg := hG k hk
    rw [hg.1] at hcr
    obtain ⟨b', off', rfl, hcc⟩ := h hg.1
    exact ⟨b', off', cr, cell_behind hcr hB, fun i hi => ⟨_, (hg.2 i hi).1, (hg.2 i hi).2, hcc i hi⟩⟩
  have HB := Lib.hid hB
  clear hB hr hG
  have hn1 : 1 ≤ (L.length : Int) := by omega
  have hn2 : (L.length : Int) ≤ 256 := by omega
  generalize L.length = n at *
  go_enter Tryd.func31, Tryd.ntmps31
  go_wp2
  go_loop [3, 4] (fun i _ => ∃ k : Nat, k ≤ n ∧ i = .int .i64 k) (fun i _ => n - (intOf i).toNat)
  case atStart => exact ⟨0, by omega, rfl⟩
  case round =>
    obtain ⟨k, hk, rfl⟩ := hrel
    by_cases hlt : k < n
    · obtain ⟨b', off', cr, hcell, hcells⟩ := HR.out k hlt
      have HC := Lib.hid hcells
      have hlt' : (k : Int) < (n : Int) := by omega
      clear hcells
      go_wp2_with fail
      go_loop [4] (fun j => ∃ m : Nat, m ≤ 33 ∧ j = .int .i64 m) (fun j => 33 - (intOf j).toNat)
      case atStart => exact ⟨0, by omega, rfl⟩
      case round =>
        obtain ⟨m, hm, rfl⟩ := hrel
        by_cases hlm : m < 33
        · obtain ⟨y, y0, y1, hcy⟩ := HC.out m hlm
          have hlm' : (m : Int) < 33 := by omega
          go_wp2_with fail
          go_round
          case rel => exact ⟨m + 1, by omega, by go_num⟩
          case measure => simp [intOf]; omega
        · obtain rfl : m = 33 := by omega
          go_wp2_with fail
          go_round
          case rel => exact ⟨k + 1, by omega, by go_num⟩
          case measure => simp [intOf]; omega
    · obtain rfl : k = n := by omega
      go_wp2_with fail
      go_ret
      exact ⟨rfl, HB.out⟩

set_option maxHeartbeats 1000000 in
/-- The reference's SameRow of two rows with the same numbers. -/
theorem samerow_ok (b off c b' off' c' : Nat) (l : List Int) (w : World) (hc : ∀ i, i < 33 → w.cell? ⟨b, off + i, none⟩ = some (.int .i32 (l.getD i 0))) (hc' : ∀ i, i < 33 → w.cell? ⟨b', off' + i, none⟩ = some (.int .i32 (l.getD i 0))) :
    Calls Tryd.prog 33 #[.slice (some ⟨b, off, none⟩) 33 c, .slice (some ⟨b', off', none⟩) 33 c'] w fun e w' => e = .returned (.bool true) ∧ ∃ n, w' = w.drewN n := by
  have HC := Lib.hid hc
  have HC' := Lib.hid hc'
  clear hc hc'
  go_enter Tryd.func33, Tryd.ntmps33
  go_wp2_with fail
  go_loopw [5] (fun i wr => ∃ k q : Nat, k ≤ 33 ∧ i = .int .i64 k ∧ wr = w.drewN q) (fun i _ => 33 - (intOf i).toNat)
  case atStart => exact ⟨0, 0, by omega, rfl, rfl⟩
  case round =>
    obtain ⟨k, q, hk, rfl, rfl⟩ := hrel
    by_cases hlt : k < 33
    · have h1 := HC.out k hlt
      have h2 := HC'.out k hlt
      generalize l.getD k 0 = y at h1 h2
      have hlt' : (k : Int) < 33 := by omega
      go_wp2_with fail
      go_quiet (fail)
      go_wp2_with fail
      go_roundw
      case rel => exact ⟨k + 1, _, by omega, by go_num, rfl⟩
      case measure => simp [intOf]; omega
    · obtain rfl : k = 33 := by omega
      go_wp2_with fail
      go_ret
      exact ⟨rfl, q, rfl⟩

set_option maxRecDepth 100000 in
set_option maxHeartbeats 2000000 in
/-- The reference's Same (of mixers) of two lists of rows with the same numbers. -/
theorem same_ok (b off c b' off' c' n : Nat) (w : World) (hn : n ≤ 1000000)
    (hr : ∀ k, k < n → ∃ x ox cx y oy cy l, w.cell? ⟨b, off + k, none⟩ = some (.slice (some ⟨x, ox, none⟩) 33 cx) ∧ w.cell? ⟨b', off' + k, none⟩ = some (.slice (some ⟨y, oy, none⟩) 33 cy) ∧
      (∀ i, i < 33 → w.cell? ⟨x, ox + i, none⟩ = some (.int .i32 (List.getD l i 0))) ∧ (∀ i, i < 33 → w.cell? ⟨y, oy + i, none⟩ = some (.int .i32 (List.getD l i 0)))) :
    Calls Tryd.prog 32 #[.agg #[.slice (some ⟨b, off, none⟩) n c], .agg #[.slice (some ⟨b', off', none⟩) n c']] w fun e w' => e = .returned (.bool true) ∧ Below w.heap.size w w' := by
  have hB := below_two w (.cells #[.slice (some ⟨b, off, none⟩) n c] 54) (.cells #[.slice (some ⟨b', off', none⟩) n c'] 54)
  have HB := Lib.hid hB
  have HR := Lib.hid hr
  have hn' : (n : Int) ≤ 1000000 := by omega
  obtain ⟨W1, hW1⟩ : ∃ W1, W1 = (w.alloc (.cells #[.slice (some ⟨b, off, none⟩) n c] 54)).alloc (.cells #[.slice (some ⟨b', off', none⟩) n c'] 54) := ⟨_, rfl⟩
  clear hB hr
  go_enter Tryd.func32, Tryd.ntmps32
  go_wp2_with fail
  go_loopw [5] (fun i wr => ∃ k q : Nat, k ≤ n ∧ i = .int .i64 k ∧ wr = W1.drewN q) (fun i _ => n - (intOf i).toNat)
  case atStart => exact ⟨0, 0, by omega, rfl, hW1.symm⟩
  case round =>
    obtain ⟨k, q, hk, rfl, rfl⟩ := hrel
    have e0 : W1.cell? ⟨w.heap.size, 0, none⟩ = some (.slice (some ⟨b, off, none⟩) n c) := by rw [hW1]; exact cell_alloc_behind (by simp) _
    have e1 : W1.cell? ⟨w.heap.size + 1, 0, none⟩ = some (.slice (some ⟨b', off', none⟩) n c') := by rw [hW1]; simp
    have HB1 : Hid (Below w.heap.size w W1) := by rw [hW1]; exact HB.out
    clear HB hW1
    by_cases hlt : k < n
    · obtain ⟨x, ox, cx, y, oy, cy, l, h1, h2, h3, h4⟩ := HR.out k hlt
      have g1 := cell_behind h1 HB1.out
      have g2 := cell_behind h2 HB1.out
      have HS : Hid (∀ m, Calls Tryd.prog 33 #[.slice (some ⟨x, ox, none⟩) 33 cx, .slice (some ⟨y, oy, none⟩) 33 cy] (W1.drewN m) fun e w' => e = .returned (.bool true) ∧ ∃ n, w' = (W1.drewN m).drewN n) :=
        fun m => samerow_ok x ox cx y oy cy l _ (fun i hi => cell_behind (h3 i hi) (below_drewN HB1.out m)) (fun i hi => cell_behind (h4 i hi) (below_drewN HB1.out m))
      have hlt' : (k : Int) < (n : Int) := by omega
      clear h1 h2 h3 h4
      go_wp2_with fail
      go_quiet ((go_at_call 33; first | exact Calls.quiet_of (HS.out _) | exact quiet_add_c (HS.out _)))
      go_wp2_with fail
      go_roundw
      case rel => exact ⟨k + 1, _, by omega, by go_num, rfl⟩
      case measure => simp [intOf]; omega
    · obtain rfl : k = n := by omega
      go_wp2_with fail
      go_ret
      exact ⟨rfl, below_drewN HB1.out _⟩

set_option maxHeartbeats 1000000 in
/-- The reference's Same of two refiners with the same numbers. -/
theorem refsame_ok (b off c b' off' c' n : Nat) (w : World) (hn : n ≤ 1000000)
    (hr : ∀ k, k < n → ∃ x ox cx y oy cy l, w.cell? ⟨b, off + k, none⟩ = some (.slice (some ⟨x, ox, none⟩) 33 cx) ∧ w.cell? ⟨b', off' + k, none⟩ = some (.slice (some ⟨y, oy, none⟩) 33 cy) ∧
      (∀ i, i < 33 → w.cell? ⟨x, ox + i, none⟩ = some (.int .i32 (List.getD l i 0))) ∧ (∀ i, i < 33 → w.cell? ⟨y, oy + i, none⟩ = some (.int .i32 (List.getD l i 0)))) :
    Calls Tryd.prog 24 #[.agg #[.slice (some ⟨b, off, none⟩) n c], .agg #[.slice (some ⟨b', off', none⟩) n c']] w fun e w' => e = .returned (.bool true) ∧ Below w.heap.size w w' := by
  have HB := Lib.hid (below_two w (.cells #[.slice (some ⟨b, off, none⟩) n c] 34) (.cells #[.slice (some ⟨b', off', none⟩) n c'] 34))
  have HS := Lib.hid (same_ok b off c b' off' c' n ((w.alloc (.cells #[.slice (some ⟨b, off, none⟩) n c] 34)).alloc (.cells #[.slice (some ⟨b', off', none⟩) n c'] 34)) hn (fun k hk => by
    obtain ⟨x, ox, cx, y, oy, cy, l, h1, h2, h3, h4⟩ := hr k hk
    exact ⟨x, ox, cx, y, oy, cy, l, cell_behind h1 HB.out, cell_behind h2 HB.out, fun i hi => cell_behind (h3 i hi) HB.out, fun i hi => cell_behind (h4 i hi) HB.out⟩))
  have e0 : ((w.alloc (.cells #[.slice (some ⟨b, off, none⟩) n c] 34)).alloc (.cells #[.slice (some ⟨b', off', none⟩) n c'] 34)).cell? ⟨w.heap.size, 0, none⟩ = some (.slice (some ⟨b, off, none⟩) n c) := cell_alloc_behind (by simp) _
  clear hr
  go_enter Tryd.func24, Tryd.ntmps24
  go_wp2_with fail
  refine (HS.out).mono ?_
  rintro e w1 ⟨rfl, hb1⟩
  go_wp2_with fail
  go_ret
  exact ⟨rfl, below_then HB.out hb1⟩
end Go.Proofs.YtinfkoinpnnnnaaDoor
