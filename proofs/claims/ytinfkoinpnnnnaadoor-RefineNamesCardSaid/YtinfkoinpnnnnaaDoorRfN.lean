/-
  The six bad refiners of the law RefineNames: what the reference says of each. Condition: the statement that lays them has run.
-/
import Derived.Test.YtinfkoinpnnnnaaDoorRfK
namespace Go.Proofs.YtinfkoinpnnnnaaDoor
open Go.RowKit
open Sq

theorem ref_new_c (w : World) (hT : Tab w) : Calls Tryd.prog 18 #[] w fun e w' => ∃ g cap, e = .returned (.slice (some ⟨g, 0, none⟩) 33 cap) ∧
      w'.ownsRow w.heap.size 21 1 (.slice (some ⟨g, 0, none⟩) 33 cap) 33 (newRow.map (Value.int .i32)) ∧ Tab w' ∧ Below w.heap.size w w' :=
  (ref_new_any w).mono fun _ _ ⟨g, cap, he, ho, hb⟩ => ⟨g, cap, he, ho, tab_then hT hb, hb⟩

/-- The bad rows: a number below 0; a number that is too great. -/
def lowL : List Int := newRow.set 3 (-1)
def highL : List Int := newRow.set 32 65536

/-- What is known once both rows are spoilt. -/
structure Spoilt (w W : World) (g1 c1 g2 c2 : Nat) : Prop where
  low : W.ownsRow w.heap.size 21 1 (.slice (some ⟨g1, 0, none⟩) 33 c1) 33 (lowL.map (Value.int .i32))
  high : W.ownsRow w.heap.size 21 1 (.slice (some ⟨g2, 0, none⟩) 33 c2) 33 (highL.map (Value.int .i32))
  tab : Tab W
  below : Below w.heap.size w W
  cap : 33 ≤ c1

theorem spoilt_of {w w1 w2 : World} {g1 c1 g2 c2 : Nat} (ho1 : w1.ownsRow w.heap.size 21 1 (.slice (some ⟨g1, 0, none⟩) 33 c1) 33 (newRow.map (Value.int .i32))) (hb1 : Below w.heap.size w w1)
    (ho2 : w2.ownsRow w1.heap.size 21 1 (.slice (some ⟨g2, 0, none⟩) 33 c2) 33 (newRow.map (Value.int .i32))) (hb2 : Below w1.heap.size w1 w2) (hT : Tab w) :
    Spoilt w ((w2.setCell ⟨g1, 3, none⟩ (.int .i32 (-1))).setCell ⟨g2, 32, none⟩ (.int .i32 65536)) g1 c1 g2 c2 := by
  have h1 := ho1.lt g1 rfl
  have h2 := ho2.lt g2 rfl
  have a1 := owns_setElem (owns_below ho1 hb2) 3 (.int .i32 (-1))
  have a2 := owns_setOther a1 (a := ⟨g2, 32, none⟩) (by simp [Value.ownBlock]; omega) (.int .i32 65536)
  have b1 := owns_setOther (owns_base ho2 hb1.size) (a := ⟨g1, 3, none⟩) (by simp [Value.ownBlock]; omega) (.int .i32 (-1))
  have b2 := owns_setElem b1 32 (.int .i32 65536)
  have hb := ((below_then hb1 hb2).setCell (p := ⟨g1, 3, none⟩) h1.1 (.int .i32 (-1))).setCell (p := ⟨g2, 32, none⟩) (show w.heap.size ≤ g2 by have := hb1.size; omega) (.int .i32 65536)
  refine ⟨?_, ?_, tab_then hT hb, hb, ?_⟩
  · rw [lowL, List.map_set]; exact a2
  · rw [highL, List.map_set]; exact b2
  · rcases ho1.2 with ⟨h, _⟩ | ⟨g, cap, cur, hv, _, _, h3, _⟩
    · cases h
    · cases hv; exact h3

/-- The rows of a refiner that is bad. -/
def BadAt (w : World) (v : Value) : Prop := ∃ p c L, v = .slice p (List.length L) c ∧ Rows32 w (.slice p L.length c) L ∧ L.length ≤ 1000000 ∧ checkE L = 8
theorem BadAt.below {w w' : World} {v : Value} (h : BadAt w v) (hb : Below w.heap.size w w') : BadAt w' v := by
  obtain ⟨p, c, L, h1, h2, h3, h4⟩ := h
  exact ⟨p, c, L, h1, h2.below hb, h3, h4⟩
theorem askE_bad {L : List (List Int)} (h : checkE L = 8) (row : Int) : askE L row = 8 := by unfold askE; rw [h]; rfl
theorem check_no {w : World} {v : Value} (h : BadAt w v) (hT : Tab w) : Calls Tryd.prog 21 #[.agg #[v]] w fun e w' => e = .returned (.int .i64 8) ∧ Tab w' ∧ Below w.heap.size w w' := by
  obtain ⟨p, c, L, rfl, h2, h3, h4⟩ := h
  refine (check_any p c L w h2 h3).mono fun e w' ⟨he, hb⟩ => ⟨?_, tab_then hT hb, hb⟩
  rw [he, h4]
theorem look_no {w : World} {v : Value} (row d : Int) (h : BadAt w v) (hT : Tab w) : Calls Tryd.prog 19 #[.agg #[v], .int .i64 row, .int .i32 d] w fun e w' => e = .returned (.tuple #[.int .i32 0, .int .i64 0, .int .i64 8]) ∧ Tab w' ∧ Below w.heap.size w w' := by
  obtain ⟨p, c, L, rfl, h2, h3, h4⟩ := h
  have ha := askE_bad h4 row
  refine (look_bad p c L row d w h2 h3 (by rw [ha]; decide)).mono fun e w' ⟨he, hb⟩ => ⟨?_, tab_then hT hb, hb⟩
  rw [he, ha]
theorem learn_no {w : World} {v : Value} (row near : Int) (bit : Bool) (h : BadAt w v) (hT : Tab w) : Calls Tryd.prog 20 #[.agg #[v], .int .i64 row, .int .i64 near, .bool bit] w fun e w' => e = .returned (.tuple #[.agg #[.slice none 0 0], .int .i64 8]) ∧ Tab w' ∧ Below w.heap.size w w' := by
  obtain ⟨p, c, L, rfl, h2, h3, h4⟩ := h
  have ha := askE_bad h4 row
  refine (learn_bad p c L row near bit w h2 h3 (by rw [ha]; decide)).mono fun e w' ⟨he, hb⟩ => ⟨?_, tab_then hT hb, hb⟩
  rw [he, ha]

theorem bad_one {w : World} {u r : Value} {l : List Int} (h : One w u r) (hr : Row32 w r l) (hc : checkE [l] = 8) : BadAt w u := by
  obtain ⟨g, rfl, hg⟩ := h
  refine ⟨_, 1, [l], rfl, ⟨_, 1, rfl, fun _ _ => ⟨g, 0, rfl, fun k hk => ?_⟩⟩, by simp, hc⟩
  obtain rfl : k = 0 := by simpa using hk
  exact ⟨r, by rw [cell_of_row w g _ _ 30 (0, 0) hg]; rfl, hr⟩
theorem bad_long {w : World} {u r : Value} {n : Nat} (h : One w u r) (hr : Long n r) (hn : n ≠ 33) : BadAt w u := by
  obtain ⟨p, c, rfl⟩ := hr
  refine bad_one (l := List.replicate n 0) h ⟨p, c, by rw [List.length_replicate], fun h33 => ?_⟩ ?_
  · rw [List.length_replicate] at h33
    exact absurd h33 hn
  · unfold checkE
    rw [if_neg]
    rintro ⟨_, _, h3⟩
    have := (h3 0 (by simp)).1
    simp at this
    exact hn this
theorem row32_own {w : World} {B g c : Nat} {l : List Int} (hl : l.length = 33) (h : w.ownsRow B 21 1 (.slice (some ⟨g, 0, none⟩) 33 c) 33 (l.map (Value.int .i32))) : Row32 w (.slice (some ⟨g, 0, none⟩) 33 c) l := by
  refine ⟨_, c, by rw [hl], fun _ => ⟨g, 0, rfl, fun i hi => ?_⟩⟩
  have := h.cells (g := g) rfl i (.int .i32 (l.getD i 0)) (by
    rw [List.getElem?_map, List.getD_eq_getElem?_getD, List.getElem?_eq_getElem (by omega)]
    rfl)
  rwa [Addr.add_lit] at this

/-- All six. -/
def Bads (w : World) (g : Nat) : Prop := ∀ k, k < 6 → ∃ u, w.cell? ⟨g, k, none⟩ = some u ∧ BadAt w u
theorem Bads.below {w w' : World} {g : Nat} (h : Bads w g) (hb : Below w.heap.size w w') : Bads w' g := fun k hk => by
  obtain ⟨u, h1, h2⟩ := h k hk
  exact ⟨u, cell_behind h1 hb, h2.below hb⟩

theorem low_bad : lowL.length = 33 ∧ checkE [lowL] = 8 := by decide +kernel
theorem high_bad : highL.length = 33 ∧ checkE [highL] = 8 := by decide +kernel

theorem bads_of {w W wx : World} {g1 c1 g2 c2 : Nat} {v : Value} (hT : Tab w) (hS : Spoilt w W g1 c1 g2 c2) (hK : Kept w.heap.size W wx)
    (h6 : Six wx (.slice (some ⟨g1, 0, none⟩) 33 c1) (.slice (some ⟨g2, 0, none⟩) 33 c2) (.slice (some ⟨g1, 4, none⟩) 29 (c1 - 4)) v) : ∃ g, v = .slice (some ⟨g, 0, none⟩) 6 6 ∧ Bads wx g ∧ Tab wx ∧ Below w.heap.size w wx := by
  obtain ⟨g, u1, u2, u3, u4, u5, r, rfl, hg, h1, h2, h3, h4, h5, hr⟩ := h6
  have hb : Below w.heap.size W wx := hK.below hS.below.size
  refine ⟨g, rfl, ?_, tab_then hT (hS.below.trans hb), hS.below.trans hb⟩
  have hc := cell_of_row wx g
  intro k hk
  match k, hk with
  | 0, _ => exact ⟨.slice none 0 0, by rw [hc _ _ 34 (0, 0) hg]; rfl, none, 0, [], rfl, ⟨none, 0, rfl, fun h => by simp at h⟩, by simp, by decide⟩
  | 1, _ =>
    obtain ⟨p, c, rfl⟩ := h1
    refine ⟨.slice p 257 c, by rw [hc _ _ 34 (0, 0) hg]; rfl, p, c, List.replicate 257 [], by rw [List.length_replicate], ⟨p, c, rfl, fun _ h => ?_⟩, by rw [List.length_replicate]; omega, ?_⟩
    · rw [List.length_replicate] at h; omega
    · unfold checkE; rw [if_neg]; rintro ⟨_, h, _⟩; rw [List.length_replicate] at h; omega
  | 2, _ => exact ⟨u2, by rw [hc _ _ 34 (0, 0) hg]; rfl, bad_one h2 (row32_own low_bad.1 (hK.owns hS.low)) low_bad.2⟩
  | 3, _ => exact ⟨u3, by rw [hc _ _ 34 (0, 0) hg]; rfl, bad_one h3 (row32_own high_bad.1 (hK.owns hS.high)) high_bad.2⟩
  | 4, _ => exact ⟨u4, by rw [hc _ _ 34 (0, 0) hg]; rfl, bad_long h4 ⟨_, _, rfl⟩ (by decide)⟩
  | 5, _ => exact ⟨u5, by rw [hc _ _ 34 (0, 0) hg]; rfl, bad_long h5 hr (by decide)⟩
end Go.Proofs.YtinfkoinpnnnnaaDoor
