/-
  What stays true of memory while the refiners of the law RefineNames are laid, in whatever order. No condition.
-/
import Derived.Test.YtinfkoinpnnnnaaDoorRfH
import Derived.Test.YtinfkoinpnnnnaaDoorRg
namespace Go.Proofs.YtinfkoinpnnnnaaDoor
open Go.RowKit
open Sq

/-- Blocks below B are as they were; a row (type 21) from B on keeps its size and its first 33 numbers; all others are as they were. -/
structure Kept (B : Nat) (w w' : World) : Prop where
  os : w'.os = w.os
  tape : w'.tape = w.tape
  output : w'.output = w.output
  size : w.heap.size ≤ w'.heap.size
  block : ∀ k, k < w.heap.size → w'.heap[k]? = w.heap[k]? ∨ (B ≤ k ∧ ∃ cur cur' : Array Value, w.heap[k]? = some (.cells cur 21 (0, 0)) ∧ w'.heap[k]? = some (.cells cur' 21 (0, 0)) ∧ cur'.size = cur.size ∧ cur'.toList.take 33 = cur.toList.take 33)

theorem Kept.refl (B : Nat) (w : World) : Kept B w w := ⟨rfl, rfl, rfl, Nat.le_refl _, fun _ _ => .inl rfl⟩
theorem Kept.trans {B : Nat} {a b c : World} (h : Kept B a b) (k : Kept B b c) : Kept B a c := by
  refine ⟨k.os.trans h.os, k.tape.trans h.tape, k.output.trans h.output, Nat.le_trans h.size k.size, fun i hi => ?_⟩
  rcases h.block i hi with h1 | ⟨hB, cur, cur', h1, h2, h3, h4⟩
  · rcases k.block i (Nat.lt_of_lt_of_le hi h.size) with k1 | ⟨hB, cur, cur', k1, k2, k3, k4⟩
    · exact .inl (k1.trans h1)
    · exact .inr ⟨hB, cur, cur', h1.symm.trans k1, k2, k3, k4⟩
  · rcases k.block i (Nat.lt_of_lt_of_le hi h.size) with k1 | ⟨_, cur2, cur3, k1, k2, k3, k4⟩
    · exact .inr ⟨hB, cur, cur', h1, k1.trans h2, h3, h4⟩
    · rw [h2] at k1
      cases k1
      exact .inr ⟨hB, cur, cur3, h1, k2, k3.trans h3, k4.trans h4⟩
theorem Kept.of_below {B : Nat} {w w' : World} (h : Below w.heap.size w w') : Kept B w w' := ⟨h.os, h.tape, h.output, h.size, fun k hk => .inl (h.block k hk)⟩
theorem Kept.below {B : Nat} {w w' : World} (h : Kept B w w') (hB : B ≤ w.heap.size) : Below B w w' := ⟨h.os, h.tape, h.output, h.size, fun k hk => by
  rcases h.block k (by omega) with h1 | ⟨h1, _⟩
  · exact h1
  · omega⟩
theorem Kept.heap {B : Nat} {w w' : World} (h : Kept B w w') {g t : Nat} {cur : Array Value} {fr : Nat × Nat} (hg : w.heap[g]? = some (.cells cur t fr)) (ht : t ≠ 21) : w'.heap[g]? = some (.cells cur t fr) := by
  rcases h.block g (Array.getElem?_eq_some_iff.1 hg).1 with h1 | ⟨_, c, c', h1, _⟩
  · exact h1.trans hg
  · rw [hg] at h1
    cases h1
    exact absurd rfl ht
theorem Kept.row {B : Nat} {w w' : World} (h : Kept B w w') {g : Nat} {cur : Array Value} (hg : w.heap[g]? = some (.cells cur 21 (0, 0))) : ∃ cur' : Array Value, w'.heap[g]? = some (.cells cur' 21 (0, 0)) ∧ cur'.size = cur.size ∧ cur'.toList.take 33 = cur.toList.take 33 := by
  rcases h.block g (Array.getElem?_eq_some_iff.1 hg).1 with h1 | ⟨_, c, c', h1, h2, h3, h4⟩
  · exact ⟨cur, h1.trans hg, rfl, rfl⟩
  · rw [hg] at h1
    cases h1
    exact ⟨c', h2, h3, h4⟩
theorem Kept.owns {B b : Nat} {w w' : World} (h : Kept B w w') {v : Value} {xs : List Value} (ho : w.ownsRow b 21 1 v 33 xs) : w'.ownsRow b 21 1 v 33 xs := by
  refine ⟨ho.1, ?_⟩
  rcases ho.2 with h1 | ⟨g, cap, cur, h1, h2, h3, h4, h5, h6, h7⟩
  · exact .inl h1
  · obtain ⟨cur', k1, k2, k3⟩ := h.row h3
    exact .inr ⟨g, cap, cur', h1, h2, k1, h4, h5, k2.trans h6, k3.trans h7⟩
/-- A store into a row of the call's own, behind its first 33 numbers. -/
theorem Kept.setRow {B : Nat} {w : World} {g : Nat} {cur cur' : Array Value} (hB : B ≤ g) (hg : w.heap[g]? = some (.cells cur 21 (0, 0))) (hs : cur'.size = cur.size) (ht : cur'.toList.take 33 = cur.toList.take 33) : Kept B w (w.setRow g cur') :=
  ⟨rfl, rfl, rfl, by simp, fun k hk => by
    by_cases e : k = g
    · subst e; exact .inr ⟨hB, cur, cur', hg, setRow_heap _ _ _ _ _ _ hg, hs, ht⟩
    · exact .inl (setRow_other _ _ _ _ e)⟩

/-- A slice of one row. -/
def One (w : World) (v r : Value) : Prop := ∃ g, v = .slice (some ⟨g, 0, none⟩) 1 1 ∧ w.heap[g]? = some (.cells #[r] 30 (0, 0))
theorem One.kept {B : Nat} {w w' : World} {v r : Value} (h : One w v r) (hk : Kept B w w') : One w' v r := by
  obtain ⟨g, h1, h2⟩ := h
  exact ⟨g, h1, hk.heap h2 (by decide)⟩
/-- So many, wherever. -/
def Long (n : Nat) (v : Value) : Prop := ∃ p c, v = .slice p n c

/-- The six refiners. -/
def Six (w : World) (low high low4 v : Value) : Prop :=
  ∃ g u1 u2 u3 u4 u5 r, v = .slice (some ⟨g, 0, none⟩) 6 6 ∧ w.heap[g]? = some (.cells #[.slice none 0 0, u1, u2, u3, u4, u5] 34 (0, 0)) ∧ Long 257 u1 ∧ One w u2 low ∧ One w u3 high ∧ One w u4 low4 ∧ One w u5 r ∧ Long 34 r
theorem Six.kept {B : Nat} {w w' : World} {low high low4 v : Value} (h : Six w low high low4 v) (hk : Kept B w w') : Six w' low high low4 v := by
  obtain ⟨g, u1, u2, u3, u4, u5, r, h1, h2, h3, h4, h5, h6, h7, h8⟩ := h
  exact ⟨g, u1, u2, u3, u4, u5, r, h1, hk.heap h2 (by decide), h3, h4.kept hk, h5.kept hk, h6.kept hk, h7.kept hk, h8⟩

/-- What each operation of the statement leaves in its temporary. -/
def Word (B : Nat) (low high low4 : Value) : Nat → Value → World → Prop
  | 0, v, _ => v = .agg #[.slice none 0 0]
  | 1, v, _ => Long 257 v
  | 2, v, _ => ∃ u, v = .agg #[u] ∧ Long 257 u
  | 3, v, _ => v = low
  | 4, v, w => One w v low
  | 5, v, w => ∃ u, v = .agg #[u] ∧ One w u low
  | 6, v, _ => v = high
  | 7, v, w => One w v high
  | 8, v, w => ∃ u, v = .agg #[u] ∧ One w u high
  | 9, v, _ => v = low
  | 10, v, _ => v = low4
  | 11, v, w => One w v low4
  | 12, v, w => ∃ u, v = .agg #[u] ∧ One w u low4
  | 13, v, w => w.ownsRow B 21 1 v 33 (newRow.map (Value.int .i32)) ∧ Long 33 v
  | 14, v, w => ∃ g, ∃ cur : Array Value, v = .slice (some ⟨g, 0, none⟩) 1 1 ∧ w.heap[g]? = some (.cells cur 21 (0, 0)) ∧ cur.toList.take 33 = [.int .i32 5]
  | 15, v, _ => Long 34 v
  | 16, v, w => ∃ r, One w v r ∧ Long 34 r
  | 17, v, w => ∃ u r, v = .agg #[u] ∧ One w u r ∧ Long 34 r
  | 18, v, w => Six w low high low4 v
  | _, v, w => Six w low high low4 v

theorem Word.kept {B : Nat} {low high low4 : Value} (i : Nat) (v : Value) (w w' : World) (h : Word B low high low4 i v w) (hk : Kept B w w') : Word B low high low4 i v w' := by
  match i, h with
  | 0, h => exact h
  | 1, h => exact h
  | 2, h => exact h
  | 3, h => exact h
  | 4, h => exact One.kept h hk
  | 5, h => obtain ⟨u, h1, h2⟩ := h; exact ⟨u, h1, h2.kept hk⟩
  | 6, h => exact h
  | 7, h => exact One.kept h hk
  | 8, h => obtain ⟨u, h1, h2⟩ := h; exact ⟨u, h1, h2.kept hk⟩
  | 9, h => exact h
  | 10, h => exact h
  | 11, h => exact One.kept h hk
  | 12, h => obtain ⟨u, h1, h2⟩ := h; exact ⟨u, h1, h2.kept hk⟩
  | 13, h => exact ⟨hk.owns h.1, h.2⟩
  | 14, h => obtain ⟨g, cur, h1, h2, h3⟩ := h; obtain ⟨cur', k1, _, k3⟩ := hk.row h2; exact ⟨g, cur', h1, k1, k3.trans h3⟩
  | 15, h => exact h
  | 16, h => obtain ⟨r, h1, h2⟩ := h; exact ⟨r, h1.kept hk, h2⟩
  | 17, h => obtain ⟨u, r, h1, h2, h3⟩ := h; exact ⟨u, r, h1, h2.kept hk, h3⟩
  | 18, h => exact Six.kept h hk
  | _ + 19, h => exact Six.kept h hk
end Go.Proofs.YtinfkoinpnnnnaaDoor
