/-
  Rows of whole numbers in memory; the Go functions slices.Min, slices.Max and refine.Check. No condition.
-/
import Derived.Test.YtinfkoinpnnnnaaDoorSqZ
namespace Go.Proofs.YtinfkoinpnnnnaaDoor
open Go.RowKit
open Sq

/-- A slice of 32-bit numbers: its length; and, where it is that of a row, its numbers. -/
def Row32 (w : World) (v : Value) (l : List Int) : Prop := ∃ p c, v = .slice p l.length c ∧ (l.length = 33 → ∃ b off, p = some ⟨b, off, none⟩ ∧ ∀ i, i < 33 → w.cell? ⟨b, off + i, none⟩ = some (.int .i32 (l.getD i 0)))
/-- A slice of such slices: its length; and, where it is that of a refiner, its rows. -/
def Rows32 (w : World) (v : Value) (L : List (List Int)) : Prop := ∃ p c, v = .slice p L.length c ∧ (1 ≤ L.length → L.length ≤ 256 → ∃ b off, p = some ⟨b, off, none⟩ ∧ ∀ k, k < L.length → ∃ r, w.cell? ⟨b, off + k, none⟩ = some r ∧ Row32 w r (L.getD k []))

theorem cell_behind {w w1 : World} {a : Addr} {v : Value} (h : w.cell? a = some v) (hb : Below w.heap.size w w1) : w1.cell? a = some v := (hb.cell (World.block_lt_of_cell? _ _ h)).trans h
theorem Row32.below {w w' : World} {v : Value} {l : List Int} (h : Row32 w v l) (hb : Below w.heap.size w w') : Row32 w' v l := by
  obtain ⟨p, c, e, h⟩ := h
  refine ⟨p, c, e, fun h33 => ?_⟩
  obtain ⟨b, off, hp, hc⟩ := h h33
  exact ⟨b, off, hp, fun i hi => cell_behind (hc i hi) hb⟩
theorem Rows32.below {w w' : World} {v : Value} {L : List (List Int)} (h : Rows32 w v L) (hb : Below w.heap.size w w') : Rows32 w' v L := by
  obtain ⟨p, c, e, h⟩ := h
  refine ⟨p, c, e, fun h1 h2 => ?_⟩
  obtain ⟨b, off, hp, hc⟩ := h h1 h2
  exact ⟨b, off, hp, fun k hk => by
    obtain ⟨r, h3, h4⟩ := hc k hk
    exact ⟨r, cell_behind h3 hb, h4.below hb⟩⟩

/-- The least and the greatest number of a row, so far. -/
def minTo (l : List Int) : Nat → Int
  | 0 => l.getD 0 0
  | k + 1 => if l.getD k 0 < minTo l k then l.getD k 0 else minTo l k
def maxTo (l : List Int) : Nat → Int
  | 0 => l.getD 0 0
  | k + 1 => if maxTo l k < l.getD k 0 then l.getD k 0 else maxTo l k
theorem minTo_one (l : List Int) : minTo l 1 = l.getD 0 0 := by simp [minTo]
theorem maxTo_one (l : List Int) : maxTo l 1 = l.getD 0 0 := by simp [maxTo]
theorem minTo_ge (l : List Int) (k : Nat) (a : Int) (hk : 0 < k) : a ≤ minTo l k ↔ ∀ i, i < k → a ≤ l.getD i 0 := by
  induction k with
  | zero => omega
  | succ k ih =>
    by_cases h0 : k = 0
    · subst h0
      rw [minTo_one]
      exact ⟨fun h i hi => by obtain rfl : i = 0 := by omega
                              exact h, fun h => h 0 (by omega)⟩
    · have ih := ih (by omega)
      show a ≤ (if _ then _ else _) ↔ _
      split
      · rename_i h
        exact ⟨fun ha i hi => by
          by_cases e : i = k
          · subst e; exact ha
          · exact (ih.1 (by omega)) i (by omega), fun ha => ha k (by omega)⟩
      · rename_i h
        exact ⟨fun ha i hi => by
          by_cases e : i = k
          · subst e; omega
          · exact (ih.1 ha) i (by omega), fun ha => ih.2 fun i hi => ha i (by omega)⟩
theorem maxTo_le (l : List Int) (k : Nat) (a : Int) (hk : 0 < k) : maxTo l k ≤ a ↔ ∀ i, i < k → l.getD i 0 ≤ a := by
  induction k with
  | zero => omega
  | succ k ih =>
    by_cases h0 : k = 0
    · subst h0
      rw [maxTo_one]
      exact ⟨fun h i hi => by obtain rfl : i = 0 := by omega
                              exact h, fun h => h 0 (by omega)⟩
    · have ih := ih (by omega)
      show (if _ then _ else _) ≤ a ↔ _
      split
      · rename_i h
        exact ⟨fun ha i hi => by
          by_cases e : i = k
          · subst e; exact ha
          · exact (ih.1 (by omega)) i (by omega), fun ha => ha k (by omega)⟩
      · rename_i h
        exact ⟨fun ha i hi => by
          by_cases e : i = k
          · subst e; omega
          · exact (ih.1 ha) i (by omega), fun ha => ih.2 fun i hi => ha i (by omega)⟩

set_option maxHeartbeats 1000000 in
theorem min_any (b off c : Nat) (l : List Int) (w : World) (h1 : 1 ≤ l.length) (h2 : l.length ≤ 1000000) (hc : ∀ i, i < l.length → w.cell? ⟨b, off + i, none⟩ = some (.int .i32 (l.getD i 0))) :
    Calls Tryd.prog 29 #[.slice (some ⟨b, off, none⟩) l.length c] w fun e w' => e = .returned (.int .i32 (minTo l l.length)) ∧ w = w' := by
  have hn : 1 ≤ (l.length : Int) := by omega
  have hn0 : 0 < l.length := by omega
  have HC := Lib.hid hc
  have c0 : w.cell? ⟨b, off, none⟩ = some (.int .i32 (l.getD 0 0)) := hc 0 (by omega)
  have H1 := Lib.hid (minTo_one l)
  clear hc
  generalize l.getD 0 0 = y at c0 H1
  go_enter Tryd.func29, Tryd.ntmps29
  go_wp2
  go_loop [3, 4] (fun m i => ∃ k : Nat, 1 ≤ k ∧ k ≤ l.length ∧ i = .int .i64 k ∧ m = .int .i32 (minTo l k)) (fun _ i => l.length - (intOf i).toNat)
  case atStart => exact ⟨1, by omega, by omega, rfl, by rw [H1.out]⟩
  case round =>
    obtain ⟨k, hk1, hk, rfl, rfl⟩ := hrel
    by_cases hlt : k < l.length
    · have hck := HC.out k hlt
      have HS : Hid (minTo l (k + 1) = if l.getD k 0 < minTo l k then l.getD k 0 else minTo l k) := rfl
      generalize l.getD k 0 = z at hck HS
      generalize minTo l k = m at HS
      go_wp2
      go_round
      case rel => exact ⟨k + 1, by omega, by omega, by go_num, by rw [HS.out]⟩
      case measure => simp [intOf]; omega
    · obtain rfl : k = l.length := by omega
      go_wp2
      go_ret
      exact ⟨rfl, rfl⟩

set_option maxHeartbeats 1000000 in
theorem max_any (b off c : Nat) (l : List Int) (w : World) (h1 : 1 ≤ l.length) (h2 : l.length ≤ 1000000) (hc : ∀ i, i < l.length → w.cell? ⟨b, off + i, none⟩ = some (.int .i32 (l.getD i 0))) :
    Calls Tryd.prog 30 #[.slice (some ⟨b, off, none⟩) l.length c] w fun e w' => e = .returned (.int .i32 (maxTo l l.length)) ∧ w = w' := by
  have hn : 1 ≤ (l.length : Int) := by omega
  have hn0 : 0 < l.length := by omega
  have HC := Lib.hid hc
  have c0 : w.cell? ⟨b, off, none⟩ = some (.int .i32 (l.getD 0 0)) := hc 0 (by omega)
  have H1 := Lib.hid (maxTo_one l)
  clear hc
  generalize l.getD 0 0 = y at c0 H1
  go_enter Tryd.func30, Tryd.ntmps30
  go_wp2
  go_loop [3, 4] (fun m i => ∃ k : Nat, 1 ≤ k ∧ k ≤ l.length ∧ i = .int .i64 k ∧ m = .int .i32 (maxTo l k)) (fun _ i => l.length - (intOf i).toNat)
  case atStart => exact ⟨1, by omega, by omega, rfl, by rw [H1.out]⟩
  case round =>
    obtain ⟨k, hk1, hk, rfl, rfl⟩ := hrel
    by_cases hlt : k < l.length
    · have hck := HC.out k hlt
      have HS : Hid (maxTo l (k + 1) = if maxTo l k < l.getD k 0 then l.getD k 0 else maxTo l k) := rfl
      generalize l.getD k 0 = z at hck HS
      generalize maxTo l k = m at HS
      go_wp2
      go_round
      case rel => exact ⟨k + 1, by omega, by omega, by go_num, by rw [HS.out]⟩
      case measure => simp [intOf]; omega
    · obtain rfl : k = l.length := by omega
      go_wp2
      go_ret
      exact ⟨rfl, rfl⟩

end Go.Proofs.YtinfkoinpnnnnaaDoor
