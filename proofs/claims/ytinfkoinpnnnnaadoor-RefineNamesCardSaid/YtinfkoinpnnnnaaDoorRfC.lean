/-
  The Go functions slices.Clone, refine.New and Row of the reference. Condition: the table 'row' lies in its variable.
-/
import Derived.Test.YtinfkoinpnnnnaaDoorRfB
import Derived.Deep.RegionHeld3
import Derived.Deep.AppendLies
import Derived.Deep.DrawnRows
namespace Go.Proofs.YtinfkoinpnnnnaaDoor
open Go.RowKit
open Sq

theorem inf21 : (Tryd.prog.info? 21).map (fun i => (i.zero, i.size, i.bytes)) = some (some (.int .i32 0), 1, 4) := by kernel_rfl
theorem inf30 : (Tryd.prog.info? 30).map (fun i => (i.zero, i.size, i.bytes)) = some (some (.slice none 0 0), 1, 24) := by kernel_rfl

/-- A slice value at a place of its own. -/
theorem cell_off (b off j : Nat) : (⟨b, off, none⟩ : Addr).add j = ⟨b, off + j, none⟩ := by
  unfold Addr.add
  split
  · rename_i h; subst h; rfl
  · rfl

set_option maxHeartbeats 1000000 in
/-- CONTRACT: slices.Clone of a row that is not empty. -/
theorem clone_any (b off c : Nat) (l : List Int) (w : World) (h1 : 1 ≤ l.length) (h2 : l.length ≤ 1000000) (hc : ∀ i, i < l.length → w.cell? ⟨b, off + i, none⟩ = some (.int .i32 (l.getD i 0))) :
    Calls Tryd.prog 28 #[.slice (some ⟨b, off, none⟩) l.length c] w fun e w' => ∃ g cap, e = .returned (.slice (some ⟨g, 0, none⟩) l.length cap) ∧
      w'.ownsRow w.heap.size 21 1 (.slice (some ⟨g, 0, none⟩) l.length cap) l.length (l.map (Value.int .i32)) ∧ Below w.heap.size w w' := by
  obtain ⟨i0, hi0, hz0, hz1, hz2⟩ := info_parts inf21
  have hnil := fun W => Lib.run_eql_slice_nil (P := Tryd.prog) W 30 21 (some ⟨b, off, none⟩) l.length c 0 0 Tryd.underlying30
  have HC := Lib.hid hc
  clear hc
  have hown : (w.alloc (.cells #[] 21)).ownsRow w.heap.size 21 1 (.slice (some ⟨w.heap.size, 0, none⟩) 0 0) 0 [] := World.ownsRow_made w #[] 0 (Nat.le_refl _) (by unfold maxLen; omega) (by simp)
  have hnews : ∀ j u, (l.map (Value.int .i32))[j]? = some u → (w.alloc (.cells #[] 21)).cell? ((⟨b, off, none⟩ : Addr).add j) = some u := by
    intro j u hj
    rw [List.getElem?_map, Option.map_eq_some_iff] at hj
    obtain ⟨x, hx, rfl⟩ := hj
    obtain ⟨hlt, rfl⟩ := List.getElem?_eq_some_iff.1 hx
    have := HC.out j hlt
    rw [cell_off]
    have hb : Below w.heap.size w (w.alloc (.cells #[] 21)) := (Below.refl _ _).alloc (Nat.le_refl _) _
    rw [hb.cell (p := ⟨b, off + j, none⟩) (World.block_lt_of_cell? _ _ this), this]
    simp [List.getD, hlt]
  have HN := Lib.hid hnews
  have HO := Lib.hid hown
  clear hnews hown
  go_enter Tryd.func28, Tryd.ntmps28
  go_wp2_with (at_builtin; refine wpList_append_lies _ rfl _ _ 30 rfl w.heap.size 21 i0 (.int .i32 0) 1 4 Tryd.underlying30 hi0 hz0 hz1 hz2 rfl (by decide) _ _ _ rfl HO.out ⟨b, off, none⟩ l.length c (l.map (Value.int .i32)) rfl (by simp) HN.out (by simp [Value.oneCell']) (by omega) (by unfold maxLen; omega) (by omega) (by simp) (w.heap.size + 1) (by simp) ?_; intro g cap w1 hown1 hgrow hat hlt)
  go_ret
  refine ⟨g, cap, by simp, by simpa using hown1, ?_⟩
  exact ((Below.refl _ _).alloc (Nat.le_refl _) _).grown hgrow (by simp) (fun k hk => by cases hk; exact Nat.le_refl _)

/-- What the call owns it owns in every later world. -/
theorem owns_below {w w' : World} {base e size : Nat} {v : Value} {n : Nat} {xs : List Value} (h : w.ownsRow base e size v n xs) (hb : Below w.heap.size w w') : w'.ownsRow base e size v n xs :=
  h.kept (row := none) ⟨hb.os, hb.tape, hb.output, hb.size, fun i hi _ => hb.block i hi⟩ (by cases v.ownBlock <;> simp)

/-- A new row. -/
def newTo (k : Nat) : List Int := (List.range k).map fun (j : Nat) => 16 * sq (128 * (j : Int) - 2048)
def newRow : List Int := newTo 33
theorem newTo_next (k : Nat) : newTo (k + 1) = newTo k ++ [16 * sq (128 * (k : Int) - 2048)] := by
  unfold newTo
  rw [List.range_succ, List.map_append]
  rfl
theorem newTo_length (k : Nat) : (newTo k).length = k := by simp [newTo]

set_option maxHeartbeats 2000000 in
/-- CONTRACT: the reference's Row. -/
theorem ref_new_any (w : World) : Calls Tryd.prog 18 #[] w fun e w' => ∃ g cap, e = .returned (.slice (some ⟨g, 0, none⟩) 33 cap) ∧
      w'.ownsRow w.heap.size 21 1 (.slice (some ⟨g, 0, none⟩) 33 cap) 33 (newRow.map (Value.int .i32)) ∧ Below w.heap.size w w' := by
  obtain ⟨i0, hi0, hz0, hz1, hz2⟩ := info_parts inf21
  go_enter Tryd.func18, Tryd.ntmps18
  go_wp2
  go_loopw [1, 2] (fun v j wr => ∃ k : Nat, k ≤ 33 ∧ j = .int .i32 k ∧ wr.ownsRow w.heap.size 21 1 v k ((newTo k).map (Value.int .i32)) ∧ Below w.heap.size w wr) (fun _ j _ => 33 - (intOf j).toNat)
  case atStart => exact ⟨0, by omega, rfl, (World.ownsRow_nil _ _ _ _ : w.ownsRow w.heap.size 21 1 _ 0 []), Below.refl _ _⟩
  case round =>
    obtain ⟨k, hk, rfl, hown, hb⟩ := hrel
    by_cases hlt : k < 33
    · have h16 := sq_bd (128 * (k : Int) - 2048)
      have HN := Lib.hid (newTo_next k)
      obtain ⟨y0, y1⟩ := h16
      have HR := Lib.hid (ref_any (128 * (k : Int) - 2048) wr)
      generalize sq (128 * (k : Int) - 2048) = y at HR y0 y1 HN
      have hk' : (k : Int) < 33 := by omega
      go_wp2_with fail
      refine (HR.out).mono ?_
      rintro e w1 ⟨rfl, hb1⟩
      have HO := Lib.hid (owns_below hown hb1)
      clear hown
      go_wp2_with (at_builtin; refine wpList_append_lies _ rfl _ _ 30 rfl w.heap.size 21 i0 (.int .i32 0) 1 4 Tryd.underlying30 hi0 hz0 hz1 hz2 rfl (by decide) _ k _ rfl (HO.out.alloc _) ⟨w1.heap.size, 0, none⟩ 1 1 [.int .i32 (16 * y)] rfl rfl ?c1 (by simp [Value.oneCell']) (by omega) (by unfold maxLen; omega) (by omega) ?c2 (w1.heap.size + 1) (by simp) ?_)
      case c1 => exact World.news_of_block (cs := #[.int .i32 (16 * y)]) (t := 21) (fr := (0, 0)) (heap_alloc_new w1 _)
      case c2 => have := hb.size; have := hb1.size; simp; omega
      intro g cap w2 hown2 hgrow hat hlt2
      go_wp2
      have hown3 : w2.ownsRow w.heap.size 21 1 (.slice (some ⟨g, 0, none⟩) (k + 1) cap) (k + 1) ((newTo (k + 1)).map (Value.int .i32)) := by rw [HN.out, List.map_append]; exact hown2
      have hb3 : Below w.heap.size w w2 := ((hb.trans (hb1.mono hb.size)).alloc (by have := hb.size; have := hb1.size; omega) _).grown hgrow (by have := hb.size; have := hb1.size; simp; omega) (fun j hj => (HO.out.lt j hj).1)
      go_roundw
      case measure => simp [intOf]; omega
      case rel => exact ⟨k + 1, by omega, by go_num, hown3, hb3⟩
    · obtain rfl : k = 33 := by omega
      obtain ⟨g, cap, cur, rfl, hbg, hrest⟩ := (hown.2.resolve_left (fun h => by simp at h))
      go_wp2_with fail
      go_ret
      exact ⟨g, cap, rfl, hown, hb⟩
end Go.Proofs.YtinfkoinpnnnnaaDoor
