/-
  What the law RefineNames asks of a new refiner and of a full one, call by call. Condition: the table 'row' lies in its variable.
-/
import Derived.Test.YtinfkoinpnnnnaaDoorRfN
namespace Go.Proofs.YtinfkoinpnnnnaaDoor
open Go.RowKit
open Sq

/-- The new refiner of 256 rows, and the variable that holds it. -/
structure Sees (w0 : World) (x g c : Nat) (w : World) : Prop where
  cell : w.cell? ⟨x, 0, none⟩ = some (.slice (some ⟨g, 0, none⟩) 256 c)
  ref : RefAt w g c 256 (List.replicate 256 newRow)
  tab : Tab w
  below : Below w0.heap.size w0 w
theorem Sees.step {w0 w w' : World} {x g c : Nat} (h : Sees w0 x g c w) (hb : Below w.heap.size w w') : Sees w0 x g c w' :=
  ⟨cell_behind h.cell hb, h.ref.below hb, tab_then h.tab hb, below_then h.below hb⟩
theorem Sees.alloc {w0 w : World} {x g c : Nat} (h : Sees w0 x g c w) (o : Obj) : Sees w0 x g c (w.alloc o) := h.step ((Below.refl _ _).alloc (Nat.le_refl _) o)

theorem len256 : (List.replicate 256 newRow).length = 256 := List.length_replicate
theorem ask_in (row : Int) (h1 : 0 ≤ row) (h2 : row < 256) : askE (List.replicate 256 newRow) row = 0 := askE_ok (by rw [len256]; omega) (by rw [len256]; omega) (new_allGood 256) h1 (by rw [len256]; omega)
theorem ask_out (row : Int) (h : row < 0 ∨ 256 ≤ row) : askE (List.replicate 256 newRow) row = 2 := askE_no (by rw [len256]; omega) (by rw [len256]; omega) (new_allGood 256) (by rw [len256]; omega)

theorem look_err {g c n : Nat} {L : List (List Int)} (row d : Int) (w : World) (hR : RefAt w g c n L) (hn : n ≤ 1000000) (h : askE L row = 2) :
    Calls Tryd.prog 19 #[.agg #[.slice (some ⟨g, 0, none⟩) n c], .int .i64 row, .int .i32 d] w fun e w' => e = .returned (.tuple #[.int .i32 0, .int .i64 0, .int .i64 2]) ∧ Below w.heap.size w w' := by
  obtain ⟨rfl, hr⟩ := hR
  exact (look_bad _ c L row d w hr hn (by rw [h]; decide)).mono fun e w' ⟨he, hb⟩ => ⟨by rw [he, h], hb⟩
theorem look_off {g c n : Nat} {L : List (List Int)} (row d : Int) (w : World) (hR : RefAt w g c n L) (hn : n ≤ 1000000) (h : askE L row = 0) (hd : d < -2047 ∨ 2047 < d) :
    Calls Tryd.prog 19 #[.agg #[.slice (some ⟨g, 0, none⟩) n c], .int .i64 row, .int .i32 d] w fun e w' => e = .returned (.tuple #[.int .i32 0, .int .i64 0, .int .i64 2]) ∧ Below w.heap.size w w' := by
  obtain ⟨rfl, hr⟩ := hR
  exact look_far _ c L row d w hr hn h hd
theorem learn_err {g c n : Nat} {L : List (List Int)} (row near : Int) (bit : Bool) (w : World) (hR : RefAt w g c n L) (hn : n ≤ 1000000) (h : askE L row = 2) :
    Calls Tryd.prog 20 #[.agg #[.slice (some ⟨g, 0, none⟩) n c], .int .i64 row, .int .i64 near, .bool bit] w fun e w' => e = .returned (.tuple #[.agg #[.slice none 0 0], .int .i64 2]) ∧ Below w.heap.size w w' := by
  obtain ⟨rfl, hr⟩ := hR
  exact (learn_bad _ c L row near bit w hr hn (by rw [h]; decide)).mono fun e w' ⟨he, hb⟩ => ⟨by rw [he, h], hb⟩
theorem learn_off {g c n : Nat} {L : List (List Int)} (row near : Int) (bit : Bool) (w : World) (hR : RefAt w g c n L) (hn : n ≤ 1000000) (h : askE L row = 0) (hd : near < 0 ∨ 33 ≤ near) :
    Calls Tryd.prog 20 #[.agg #[.slice (some ⟨g, 0, none⟩) n c], .int .i64 row, .int .i64 near, .bool bit] w fun e w' => e = .returned (.tuple #[.agg #[.slice none 0 0], .int .i64 2]) ∧ Below w.heap.size w w' := by
  obtain ⟨rfl, hr⟩ := hR
  exact learn_far _ c L row near bit w hr hn h hd

theorem Sees.look_out {w0 w : World} {x g c : Nat} (h : Sees w0 x g c w) (row d : Int) (hr : row < 0 ∨ 256 ≤ row) :
    Calls Tryd.prog 19 #[.agg #[.slice (some ⟨g, 0, none⟩) 256 c], .int .i64 row, .int .i32 d] w fun e w' => e = .returned (.tuple #[.int .i32 0, .int .i64 0, .int .i64 2]) ∧ Sees w0 x g c w' :=
  (look_err row d w h.ref (by omega) (ask_out row hr)).mono fun _ _ ⟨he, hb⟩ => ⟨he, h.step hb⟩
theorem Sees.look_off {w0 w : World} {x g c : Nat} (h : Sees w0 x g c w) (row d : Int) (h1 : 0 ≤ row) (h2 : row < 256) (hd : d < -2047 ∨ 2047 < d) :
    Calls Tryd.prog 19 #[.agg #[.slice (some ⟨g, 0, none⟩) 256 c], .int .i64 row, .int .i32 d] w fun e w' => e = .returned (.tuple #[.int .i32 0, .int .i64 0, .int .i64 2]) ∧ Sees w0 x g c w' :=
  (Go.Proofs.YtinfkoinpnnnnaaDoor.look_off row d w h.ref (by omega) (ask_in row h1 h2) hd).mono fun _ _ ⟨he, hb⟩ => ⟨he, h.step hb⟩
theorem Sees.learn_out {w0 w : World} {x g c : Nat} (h : Sees w0 x g c w) (row near : Int) (bit : Bool) (hr : row < 0 ∨ 256 ≤ row) :
    Calls Tryd.prog 20 #[.agg #[.slice (some ⟨g, 0, none⟩) 256 c], .int .i64 row, .int .i64 near, .bool bit] w fun e w' => e = .returned (.tuple #[.agg #[.slice none 0 0], .int .i64 2]) ∧ Sees w0 x g c w' :=
  (learn_err row near bit w h.ref (by omega) (ask_out row hr)).mono fun _ _ ⟨he, hb⟩ => ⟨he, h.step hb⟩
theorem Sees.learn_off {w0 w : World} {x g c : Nat} (h : Sees w0 x g c w) (row near : Int) (bit : Bool) (h1 : 0 ≤ row) (h2 : row < 256) (hd : near < 0 ∨ 33 ≤ near) :
    Calls Tryd.prog 20 #[.agg #[.slice (some ⟨g, 0, none⟩) 256 c], .int .i64 row, .int .i64 near, .bool bit] w fun e w' => e = .returned (.tuple #[.agg #[.slice none 0 0], .int .i64 2]) ∧ Sees w0 x g c w' :=
  (Go.Proofs.YtinfkoinpnnnnaaDoor.learn_off row near bit w h.ref (by omega) (ask_in row h1 h2) hd).mono fun _ _ ⟨he, hb⟩ => ⟨he, h.step hb⟩

theorem both_ends : (lookP newRow 1 = 0 ∧ lookN 1 = 0) ∧ (lookP newRow 4095 = 4094 ∧ lookN 4095 = 32) := by decide +kernel
theorem Sees.look_first {w0 w : World} {x g c : Nat} (h : Sees w0 x g c w) :
    Calls Tryd.prog 19 #[.agg #[.slice (some ⟨g, 0, none⟩) 256 c], .int .i64 255, .int .i32 (-2047)] w fun e w' => e = .returned (.tuple #[.int .i32 0, .int .i64 0, .int .i64 0]) ∧ Sees w0 x g c w' :=
  (look_c 255 (-2047) 0 0 w h.ref (by omega) (ask_in 255 (by omega) (by omega)) (by omega) (by omega) (by rw [show (255 : Int).toNat = 255 from rfl, show ((-2047 : Int) + 2048).toNat = 1 from rfl, getD_replicate 256 255 newRow (by omega)]; exact both_ends.1.1) (by rw [show ((-2047 : Int) + 2048).toNat = 1 from rfl]; exact both_ends.1.2) h.tab).mono fun _ _ ⟨he, _, hb⟩ => ⟨he, h.step hb⟩
theorem Sees.look_last {w0 w : World} {x g c : Nat} (h : Sees w0 x g c w) :
    Calls Tryd.prog 19 #[.agg #[.slice (some ⟨g, 0, none⟩) 256 c], .int .i64 255, .int .i32 2047] w fun e w' => e = .returned (.tuple #[.int .i32 4094, .int .i64 32, .int .i64 0]) ∧ Sees w0 x g c w' :=
  (look_c 255 2047 4094 32 w h.ref (by omega) (ask_in 255 (by omega) (by omega)) (by omega) (by omega) (by rw [show (255 : Int).toNat = 255 from rfl, show ((2047 : Int) + 2048).toNat = 4095 from rfl, getD_replicate 256 255 newRow (by omega)]; exact both_ends.2.1) (by rw [show ((2047 : Int) + 2048).toNat = 4095 from rfl]; exact both_ends.2.2) h.tab).mono fun _ _ ⟨he, _, hb⟩ => ⟨he, h.step hb⟩

theorem sees_new {w0 w : World} (hT : Tab w) (hb0 : Below w0.heap.size w0 w) : Calls Tryd.prog 22 #[.int .i64 256] w fun e w' => ∃ g c, e = .returned (.tuple #[.agg #[.slice (some ⟨g, 0, none⟩) 256 c], .int .i64 0]) ∧ Sees w0 w'.heap.size g c (w'.alloc (.cells #[.slice (some ⟨g, 0, none⟩) 256 c] 34)) :=
  (new_c 256 w hT (by omega) (by omega)).mono fun e w' ⟨g, c, he, hr, hT', hb⟩ => by
    have ha : Below w'.heap.size w' (w'.alloc (.cells #[.slice (some ⟨g, 0, none⟩) 256 c] 34)) := (Below.refl _ _).alloc (Nat.le_refl _) _
    exact ⟨g, c, he, by simp, hr.below ha, tab_then hT' ha, below_then (below_then hb0 hb) ha⟩

/-- The full row, when k of its numbers are set. -/
def fullTo (k : Nat) : List Int := List.replicate k 65535 ++ List.replicate (33 - k) 0
theorem fullTo_set (k : Nat) (hk : k < 33) : fullTo (k + 1) = (fullTo k).set k 65535 := by
  unfold fullTo
  obtain ⟨m, hm⟩ : ∃ m, 33 - k = m + 1 := ⟨32 - k, by omega⟩
  rw [show 33 - (k + 1) = m by omega, hm, List.set_append_right _ _ (by simp), List.replicate_succ (n := m), List.length_replicate, Nat.sub_self, List.set_cons_zero, List.replicate_succ' (n := k), List.append_assoc]
  rfl
theorem fullTo_length (k : Nat) (hk : k ≤ 33) : (fullTo k).length = 33 := by unfold fullTo; rw [List.length_append, List.length_replicate, List.length_replicate]; omega
def fullL : List Int := fullTo 33
theorem full_facts : askE [fullL] 0 = 0 ∧ lookP ([fullL].getD 0 []) 3048 = 4095 ∧ lookN 3048 = 24 ∧ learnL [fullL] 0 9 = [fullL] ∧ ([fullL].getD 0 []).length = 33 := by decide +kernel
theorem ref_full {w : World} {B g c x : Nat} (h : w.ownsRow B 21 1 (.slice (some ⟨g, 0, none⟩) 33 c) 33 (fullL.map (Value.int .i32))) (hx : w.heap[x]? = some (.cells #[.slice (some ⟨g, 0, none⟩) 33 c] 30 (0, 0))) : RefAt w x 1 1 [fullL] := by
  refine ⟨rfl, _, 1, rfl, fun _ _ => ⟨x, 0, rfl, fun k hk => ?_⟩⟩
  obtain rfl : k = 0 := by simpa using hk
  exact ⟨_, by rw [cell_of_row w x _ _ 30 (0, 0) hx]; rfl, row32_own (fullTo_length 33 (by omega)) h⟩
theorem same_full {w : World} {g c g' c' : Nat} (h : RefAt w g c 1 [fullL]) (h' : RefAt w g' c' 1 [fullL]) (hT : Tab w) :
    Calls Tryd.prog 24 #[.agg #[.slice (some ⟨g, 0, none⟩) 1 c], .agg #[.slice (some ⟨g', 0, none⟩) 1 c']] w fun e w' => e = .returned (.bool true) ∧ Tab w' ∧ Below w.heap.size w w' := by
  refine (refsame_ok g 0 c g' 0 c' 1 w (by omega) fun k hk => ?_).mono fun e w' ⟨he, hb⟩ => ⟨he, tab_then hT hb, hb⟩
  obtain rfl : k = 0 := by omega
  obtain ⟨x, ox, cx, h1, h2⟩ := h.cell (by omega) (by omega) 0 (by omega) full_facts.2.2.2.2
  obtain ⟨y, oy, cy, h3, h4⟩ := h'.cell (by omega) (by omega) 0 (by omega) full_facts.2.2.2.2
  exact ⟨x, ox, cx, y, oy, cy, _, h1, h3, h2, h4⟩
theorem make_full (w : World) : (Instr.makeSlice 30 (.int .i64 33) (.int .i64 33)).run Tryd.prog w = .ok (.slice (some ⟨w.heap.size, 0, none⟩) 33 33) (w.alloc (.cells (madeCells #[.int .i32 0] 33) 21)) := by
  obtain ⟨i0, hi0, hz0, hz1, hz2⟩ := info_parts inf21
  have hm := run_makeSlice (P := Tryd.prog) w 30 21 i0 (.int .i32 0) Tryd.underlying30 hi0 hz0 .i64 .i64 33 33 (by omega) (by omega) (by rw [hz1]; decide) (by rw [hz2]; decide) (by omega)
  rw [hz1] at hm
  exact hm
theorem made_full (w : World) (B : Nat) (hB : B ≤ w.heap.size) : (w.alloc (.cells (madeCells #[.int .i32 0] 33) 21)).ownsRow B 21 1 (.slice (some ⟨w.heap.size, 0, none⟩) 33 33) 33 ((fullTo 0).map (Value.int .i32)) :=
  ⟨by rw [List.length_map, fullTo_length 0 (by omega)], .inr ⟨w.heap.size, 33, _, rfl, hB, heap_alloc_new w _, Nat.le_refl _, by unfold maxLen; omega, by kernel_rfl, by kernel_rfl⟩⟩
/-- The full row, when it lies at block g. -/
structure Fills (w0 : World) (g k : Nat) (w : World) : Prop where
  own : w.ownsRow w0.heap.size 21 1 (.slice (some ⟨g, 0, none⟩) 33 33) 33 ((fullTo k).map (Value.int .i32))
  tab : Tab w
  below : Below w0.heap.size w0 w
theorem Fills.cell {w0 w : World} {g k : Nat} (h : Fills w0 g k w) (hk : k < 33) : w.cell? ⟨g, k, none⟩ = some (.int .i32 ((fullTo k).getD k 0)) := by
  have := h.own.cells (g := g) rfl k (.int .i32 ((fullTo k).getD k 0)) (by
    rw [List.getElem?_map, List.getD_eq_getElem?_getD, List.getElem?_eq_getElem (by rw [fullTo_length k (by omega)]; exact hk)]
    rfl)
  rwa [cell_off, Nat.zero_add] at this
theorem Fills.free {w0 w : World} {g k : Nat} (h : Fills w0 g k w) (j : Nat) : w.frozen? ⟨g, j, none⟩ = false := by
  rcases h.own.2 with ⟨h, _⟩ | ⟨g, cap, cur, hv, _, hg, _⟩
  · cases h
  · cases hv; exact frozen_of_row _ _ _ _ _ hg
theorem Fills.set {w0 w : World} {g k : Nat} (h : Fills w0 g k w) (hk : k < 33) (hT : Tab w0) : Fills w0 g (k + 1) (w.setCell ⟨g, k, none⟩ (.int .i32 65535)) := by
  have hb := h.below.setCell (p := ⟨g, k, none⟩) (h.own.lt g rfl).1 (.int .i32 65535)
  refine ⟨?_, tab_then hT hb, hb⟩
  rw [fullTo_set k hk, List.map_set]
  exact owns_setElem h.own k _
theorem Fills.below' {w0 w w' : World} {g k : Nat} (h : Fills w0 g k w) (hT : Tab w0) (hb : Below w.heap.size w w') : Fills w0 g k w' :=
  ⟨owns_below h.own hb, tab_then hT (below_then h.below hb), below_then h.below hb⟩
/-- The refiner that holds it. -/
theorem Fills.ref {w0 w : World} {g : Nat} (h : Fills w0 g 33 w) : RefAt (w.alloc (.cells #[.slice (some ⟨g, 0, none⟩) 33 33] 30)) w.heap.size 1 1 [fullL] :=
  ref_full (h.own.alloc _) (heap_alloc_new w _)
theorem fills_look {w0 w : World} {g : Nat} (h : Fills w0 g 33 w) (hT : Tab w0) :
    Calls Tryd.prog 19 #[.agg #[.slice (some ⟨w.heap.size, 0, none⟩) 1 1], .int .i64 0, .int .i32 1000] (w.alloc (.cells #[.slice (some ⟨g, 0, none⟩) 33 33] 30)) fun e w' => e = .returned (.tuple #[.int .i32 4095, .int .i64 24, .int .i64 0]) ∧ Fills w0 g 33 w' := by
  have ha : Below w.heap.size w (w.alloc (.cells #[.slice (some ⟨g, 0, none⟩) 33 33] 30)) := (Below.refl _ _).alloc (Nat.le_refl _) _
  have hf := h.below' hT ha
  exact (look_c 0 1000 4095 24 _ h.ref (by omega) full_facts.1 (by omega) (by omega) full_facts.2.1 full_facts.2.2.1 hf.tab).mono fun _ _ ⟨he, _, hb⟩ => ⟨he, hf.below' hT hb⟩
theorem fills_learn {w0 w : World} {g : Nat} (h : Fills w0 g 33 w) (hT : Tab w0) :
    Calls Tryd.prog 20 #[.agg #[.slice (some ⟨w.heap.size, 0, none⟩) 1 1], .int .i64 0, .int .i64 9, .bool true] (w.alloc (.cells #[.slice (some ⟨g, 0, none⟩) 33 33] 30)) fun e w' => ∃ g' c', e = .returned (.tuple #[.agg #[.slice (some ⟨g', 0, none⟩) 1 c'], .int .i64 0]) ∧ RefAt w' g' c' 1 [fullL] ∧ Fills w0 g 33 w' := by
  have ha : Below w.heap.size w (w.alloc (.cells #[.slice (some ⟨g, 0, none⟩) 33 33] 30)) := (Below.refl _ _).alloc (Nat.le_refl _) _
  have hf := h.below' hT ha
  exact (learn_c 0 9 _ h.ref (by omega) (by omega) full_facts.1 (by omega) (by omega) hf.tab).mono fun _ _ ⟨g', c', he, hr, _, hb⟩ => ⟨g', c', he, by rw [← full_facts.2.2.2.1]; exact hr, hf.below' hT hb⟩
theorem fills_same {w0 w : World} {g g' c' : Nat} (h : Fills w0 g 33 w) (hr : RefAt w g' c' 1 [fullL]) (hT : Tab w0) :
    Calls Tryd.prog 24 #[.agg #[.slice (some ⟨g', 0, none⟩) 1 c'], .agg #[.slice (some ⟨w.heap.size, 0, none⟩) 1 1]] (w.alloc (.cells #[.slice (some ⟨g, 0, none⟩) 33 33] 30)) fun e w' => e = .returned (.bool true) ∧ Below w0.heap.size w0 w' := by
  have ha : Below w.heap.size w (w.alloc (.cells #[.slice (some ⟨g, 0, none⟩) 33 33] 30)) := (Below.refl _ _).alloc (Nat.le_refl _) _
  have hf := h.below' hT ha
  exact (same_full (hr.below ha) h.ref hf.tab).mono fun _ _ ⟨he, _, hb⟩ => ⟨he, below_then hf.below hb⟩
end Go.Proofs.YtinfkoinpnnnnaaDoor
