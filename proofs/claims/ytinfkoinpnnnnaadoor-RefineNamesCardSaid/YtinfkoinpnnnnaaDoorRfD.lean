/-
  The Go function refine.New. Condition: the table 'row' lies in its variable.
-/
import Derived.Test.YtinfkoinpnnnnaaDoorRfC
namespace Go.Proofs.YtinfkoinpnnnnaaDoor
open Go.RowKit
open Sq
attribute [local go_sem ↓] Go.wp_at_zero Go.wp_at_succ

/-- The rows rs, each in a block of its own, read L. -/
def RowsIn (w : World) (B : Nat) (rs : List Value) (L : List (List Int)) : Prop :=
  (∀ (i : Nat) r l, rs[i]? = some r → L[i]? = some l → w.ownsRow B 21 1 r l.length (l.map (Value.int .i32))) ∧
  ∀ (i j : Nat) r r' k, i < j → rs[i]? = some r → rs[j]? = some r' → r.ownBlock = some k → r'.ownBlock ≠ some k
/-- Rows of the call's own: a slice of slices that no one else writes. -/
def OwnRows (w : World) (B : Nat) (v : Value) (L : List (List Int)) : Prop := ∃ rs : List Value, w.ownsRow B 30 1 v L.length rs ∧ RowsIn w B rs L

theorem own_row_type {w : World} {B e e' : Nat} {v v' : Value} {n n' : Nat} {xs xs' : List Value} (h : w.ownsRow B e 1 v n xs) (h' : w.ownsRow B e' 1 v' n' xs') (hne : e ≠ e') : v.ownBlock = none ∨ v.ownBlock ≠ v'.ownBlock := by
  rcases h.2 with ⟨rfl, _⟩ | ⟨g, cap, cur, rfl, _, hg, _⟩
  · exact .inl rfl
  · rcases h'.2 with ⟨rfl, _⟩ | ⟨g', cap', cur', rfl, _, hg', _⟩
    · right; simp [Value.ownBlock]
    · right
      simp only [Value.ownBlock, ne_eq, Option.some.injEq]
      rintro rfl
      rw [hg] at hg'
      simp only [Option.some.injEq, Obj.cells.injEq] at hg'
      exact hne hg'.2.1

theorem owns_base {w : World} {B B' e size : Nat} {v : Value} {n : Nat} {xs : List Value} (h : w.ownsRow B e size v n xs) (hB : B' ≤ B) : w.ownsRow B' e size v n xs :=
  ⟨h.1, h.2.imp id fun ⟨g, cap, cur, e, hb, r⟩ => ⟨g, cap, cur, e, Nat.le_trans hB hb, r⟩⟩
theorem RowsIn.below {w w' : World} {B : Nat} {rs : List Value} {L : List (List Int)} (h : RowsIn w B rs L) (hb : Below w.heap.size w w') : RowsIn w' B rs L :=
  ⟨fun i r l hr hl => owns_below (h.1 i r l hr hl) hb, h.2⟩
theorem OwnRows.below {w w' : World} {B : Nat} {v : Value} {L : List (List Int)} (h : OwnRows w B v L) (hb : Below w.heap.size w w') : OwnRows w' B v L := by
  obtain ⟨rs, h1, h2⟩ := h
  exact ⟨rs, owns_below h1 hb, h2.below hb⟩

/-- One row more, appended: its block is a new one. -/
theorem OwnRows.push {w w' : World} {B N : Nat} {v v' r : Value} {L : List (List Int)} {l : List Int} {rs : List Value} (h1 : w.ownsRow B 30 1 v L.length rs) (h2 : RowsIn w B rs L)
    (hN : ∀ (i : Nat) r k, rs[i]? = some r → r.ownBlock = some k → k < N) (hBN : B ≤ N) (hr : w.ownsRow N 21 1 r l.length (l.map (Value.int .i32))) (hv : w'.ownsRow B 30 1 v' (L.length + 1) (rs ++ [r])) (hg : w.grownBy w' v.ownBlock) : OwnRows w' B v' (L ++ [l]) := by
  have e : rs.length = L.length := by have := h1.1; omega
  refine ⟨rs ++ [r], by simpa using hv, fun i r' l' hr' hl' => ?_, fun i j r1 r2 k hij h3 h4 h5 h6 => ?_⟩
  · have key : w.ownsRow B 21 1 r' l'.length (l'.map (Value.int .i32)) := by
      rw [List.getElem?_append] at hr' hl'
      by_cases hi : i < L.length
      · rw [if_pos (by omega)] at hr'
        rw [if_pos hi] at hl'
        exact h2.1 i r' l' hr' hl'
      · rw [if_neg (by omega)] at hr'
        rw [if_neg hi] at hl'
        rw [e] at hr'
        obtain ⟨k, hk⟩ : ∃ k, i - L.length = k := ⟨_, rfl⟩
        rw [hk] at hr' hl'
        cases k with
        | zero => simp at hr' hl'; subst hr'; subst hl'; exact owns_base hr hBN
        | succ k => simp at hr'
    exact key.kept hg (own_row_type key h1 (by decide))
  · rw [List.getElem?_append] at h3 h4
    by_cases hj : j < rs.length
    · rw [if_pos hj] at h4
      rw [if_pos (by omega)] at h3
      exact h2.2 i j r1 r2 k hij h3 h4 h5 h6
    · rw [if_neg hj] at h4
      have hjj : j - rs.length = 0 := by
        cases hc : j - rs.length with
        | zero => rfl
        | succ m => rw [hc] at h4; simp at h4
      rw [hjj] at h4
      simp at h4
      subst h4
      rw [if_pos (by omega)] at h3
      have := hN i r1 k h3 h5
      have := (hr.lt k h6).1
      omega

theorem OwnRows.nil (w : World) (B : Nat) : OwnRows w B (.slice none 0 0) [] := ⟨[], World.ownsRow_nil _ _ _ _, fun i r l h _ => by simp at h, fun i j r r' k _ h _ _ => by simp at h⟩

/-- A store into a block below changes nothing of it. -/
theorem OwnRows.setCell {w : World} {B : Nat} {v : Value} {L : List (List Int)} (h : OwnRows w B v L) {a : Addr} (ha : a.block < B) (u : Value) : OwnRows (w.setCell a u) B v L := by
  obtain ⟨rs, h1, h2⟩ := h
  exact ⟨rs, ownsRow_setCell_below h1 ha u, fun i r l hr hl => ownsRow_setCell_below (h2.1 i r l hr hl) ha u, h2.2⟩

theorem undrew {B : Nat} {w w1 : World} (h : Below B w.drew w1) : Below B w w1 := ⟨h.os, h.tape, h.output, h.size, h.block⟩
theorem cell_alloc_behind {w : World} {a : Addr} {v : Value} (h : w.cell? a = some v) (o : Obj) : (w.alloc o).cell? a = some v := cell_behind h ((Below.refl _ _).alloc (Nat.le_refl _) _)

theorem frozen_behind {w w1 : World} {a : Addr} (hlt : a.block < w.heap.size) (h : w.frozen? a = false) (hb : Below w.heap.size w w1) : w1.frozen? a = false := (hb.frozen hlt).trans h
theorem frozen_alloc_behind {w : World} {a : Addr} (hlt : a.block < w.heap.size) (h : w.frozen? a = false) (o : Obj) : (w.alloc o).frozen? a = false := frozen_behind hlt h ((Below.refl _ _).alloc (Nat.le_refl _) _)

/-- What a round does that appends a copy of a row to the rows of a struct of the call's own (block br). -/
theorem rows_step {wb wr w1 w2 : World} {br : Nat} {v v' r : Value} {L : List (List Int)} {l : List Int} {rs : List Value} {o : Obj} {u : Value}
    (h1 : wr.ownsRow (br + 1) 30 1 v L.length rs) (h2 : RowsIn wr (br + 1) rs L) (hbr : br < wr.heap.size) (hb0 : Below br wb wr)
    (hb1 : Below wr.heap.size wr w1) (hr : w1.ownsRow wr.heap.size 21 1 r l.length (l.map (Value.int .i32))) (hv : w2.ownsRow (br + 1) 30 1 v' (L.length + 1) (rs ++ [r])) (hg : (w1.alloc o).grownBy w2 v.ownBlock) :
    OwnRows (w2.setCell ⟨br, 0, none⟩ u) (br + 1) v' (L ++ [l]) ∧ Below br wb (w2.setCell ⟨br, 0, none⟩ u) := by
  have hB1 : Below wr.heap.size wr (w1.alloc o) := hb1.alloc hb1.size o
  have e : rs.length = L.length := by have := h1.1; omega
  have hN : ∀ (i : Nat) r k, rs[i]? = some r → r.ownBlock = some k → k < wr.heap.size := fun i r k hi hk => by
    have hlt := (List.getElem?_eq_some_iff.1 hi).1
    exact ((h2.1 i r L[i] hi (List.getElem?_eq_getElem (by omega))).lt k hk).2
  refine ⟨(OwnRows.push (owns_below h1 hB1) (h2.below hB1) hN hbr (hr.alloc o) hv hg).setCell (Nat.lt_succ_self _) u, ?_⟩
  have hB2 : Below br wb (w1.alloc o) := hb0.trans (hB1.mono (Nat.le_of_lt hbr))
  exact (hB2.grown hg (by have := hB1.size; omega) (fun k hk => by have := ((owns_below h1 hB1).lt k hk).1; omega)).setCell (Nat.le_refl _) u

theorem owns_rows_base {w : World} {B B' : Nat} {v : Value} {L : List (List Int)} (h : OwnRows w B v L) (hB : B' ≤ B) : OwnRows w B' v L := by
  obtain ⟨rs, h1, h2⟩ := h
  exact ⟨rs, owns_base h1 hB, fun i r l hr hl => owns_base (h2.1 i r l hr hl) hB, h2.2⟩

/-- Behind k rounds of refine.New's second loop. -/
def NewRel (w0 : World) (n : Nat) (s : Value) (wr : World) : Prop :=
  ∃ (k : Nat) (v : Value), k ≤ n ∧ s = .int .i64 k ∧ wr.cell? ⟨w0.heap.size, 0, none⟩ = some v ∧ wr.frozen? ⟨w0.heap.size, 0, none⟩ = false ∧ OwnRows wr (w0.heap.size + 1) v (List.replicate k newRow) ∧ Below w0.heap.size w0 wr

set_option maxHeartbeats 2000000 in
/-- refine.New of so many rows. -/
theorem new_some (n : Nat) (w : World) (hT : Tab w) (h1 : 1 ≤ n) (h2 : n ≤ 256) : Calls Tryd.prog 22 #[.int .i64 n] w fun e w' => ∃ v, e = .returned (.tuple #[.agg #[v], .int .i64 0]) ∧
      OwnRows w' w.heap.size v (List.replicate n newRow) ∧ Below w.heap.size w w' := by
  obtain ⟨i0, hi0, hz0, hz1, hz2⟩ := info_parts inf21
  obtain ⟨j0, hj0, hy0, hy1, hy2⟩ := info_parts inf30
  have hn1 : 1 ≤ (n : Int) := by omega
  have hn2 : (n : Int) ≤ 256 := by omega
  have HT := Lib.hid hT
  clear hT
  go_enter Tryd.func22, Tryd.ntmps22
  go_wp2
  go_loopw [4, 5, 14] (fun v _ j wr => ∃ k : Nat, k ≤ 33 ∧ j = .int .i32 k ∧ wr.ownsRow (w.heap.size + 1) 21 1 v k ((newTo k).map (Value.int .i32)) ∧ Below (w.heap.size + 1) (w.alloc (.cells #[.slice none 0 0] 34)) wr) (fun _ _ j _ => 33 - (intOf j).toNat)
  case atStart => exact ⟨0, by omega, rfl, (World.ownsRow_nil _ _ _ _ : (w.alloc (.cells #[.slice none 0 0] 34)).ownsRow (w.heap.size + 1) 21 1 _ 0 []), Below.refl _ _⟩
  case round =>
    obtain ⟨k, hk, rfl, hown, hb⟩ := hrel
    have hsz : w.heap.size + 1 ≤ wr.heap.size := by have := hb.size; simp at this; exact this
    by_cases hlt : k < 33
    · have h16 := sq_bd (128 * (k : Int) - 2048)
      have HN := Lib.hid (newTo_next k)
      obtain ⟨y0, y1⟩ := h16
      have hTr : Tab wr := (tab_then HT.out ((Below.refl _ _).alloc (Nat.le_refl _) (.cells #[.slice none 0 0] 34))).below (B := w.heap.size + 1) (by omega) hb
      have HR := Lib.hid (squash_any (128 * ((k : Int) - 16)) wr hTr)
      rw [show 128 * ((k : Int) - 16) = 128 * (k : Int) - 2048 by omega] at HR
      generalize sq (128 * (k : Int) - 2048) = y at HR y0 y1 HN
      rw [show 128 * (k : Int) - 2048 = 128 * ((k : Int) - 16) by omega] at HR
      have hk' : (k : Int) < 33 := by omega
      go_wp2_with fail
      refine (HR.out).mono ?_
      rintro e w1 ⟨rfl, nq, rfl⟩
      have HO := Lib.hid hown
      clear hown
      go_wp2_with (at_builtin; refine wpList_append_lies _ rfl _ _ 30 rfl (w.heap.size + 1) 21 i0 (.int .i32 0) 1 4 Tryd.underlying30 hi0 hz0 hz1 hz2 rfl (by decide) _ k _ rfl ((owns_below HO.out (below_drewN (Below.refl _ _) nq)).alloc _) ⟨wr.heap.size, 0, none⟩ 1 1 [.int .i32 (16 * y)] rfl rfl ?c1 (by simp [Value.oneCell']) (by omega) (by unfold maxLen; omega) (by omega) ?c2 (wr.heap.size + 1) (by simp) ?_)
      case c1 => exact World.news_of_block (cs := #[.int .i32 (16 * y)]) (t := 21) (fr := (0, 0)) (heap_alloc_new (wr.drewN nq) _)
      case c2 => simp; omega
      intro g cap w2 hown2 hgrow hat hlt2
      go_wp2
      have hown3 : w2.ownsRow (w.heap.size + 1) 21 1 (.slice (some ⟨g, 0, none⟩) (k + 1) cap) (k + 1) ((newTo (k + 1)).map (Value.int .i32)) := by rw [HN.out, List.map_append]; exact hown2
      have hb3 : Below (w.heap.size + 1) (w.alloc (.cells #[.slice none 0 0] 34)) w2 := ((below_drewN hb nq).alloc (by simpa using hsz) _).grown hgrow (by simp; omega) (fun j hj => (HO.out.lt j hj).1)
      go_roundw
      case measure => simp [intOf]; omega
      case rel => exact ⟨k + 1, by omega, by go_num, hown3, hb3⟩
    · obtain rfl : k = 33 := by omega
      obtain ⟨g0, cap0, cur0, rfl, hbg0, hrest0⟩ := (hown.2.resolve_left (fun h => by simp at h))
      obtain ⟨w0, rfl⟩ : ∃ w0 : World, w0 = wr := ⟨_, rfl⟩
      rw [show ((33 : Nat) : Int) = 33 from rfl]
      have hrowc : ∀ i, i < 33 → w0.cell? ⟨g0, 0 + i, none⟩ = some (.int .i32 (newRow.getD i 0)) := fun i hi => by
        have h1 := hown.cells (g := g0) rfl i (.int .i32 (newRow.getD i 0)) (by
          show ((newTo 33).map (Value.int .i32))[i]? = _
          rw [List.getElem?_map, List.getElem?_eq_getElem (by rw [newTo_length]; exact hi)]
          simp [newRow, List.getD, newTo_length, hi])
        rw [cell_off] at h1
        exact h1
      have hg0 : g0 < w0.heap.size := (hown.lt g0 rfl).2
      have HRC : Hid (∀ W, Below w0.heap.size w0 W → Calls Tryd.prog 28 #[.slice (some ⟨g0, 0, none⟩) 33 cap0] W fun e w' => ∃ g cap, e = .returned (.slice (some ⟨g, 0, none⟩) 33 cap) ∧
          w'.ownsRow W.heap.size 21 1 (.slice (some ⟨g, 0, none⟩) 33 cap) 33 (newRow.map (Value.int .i32)) ∧ Below W.heap.size W w') := fun W hW => by
        have h := clone_any g0 0 cap0 newRow W (by rw [newRow, newTo_length]; omega) (by rw [newRow, newTo_length]; omega) (fun i hi => by
          rw [newRow, newTo_length] at hi
          exact (hW.cell (p := ⟨g0, 0 + i, none⟩) hg0).trans (hrowc i hi))
        rw [show newRow.length = 33 from newTo_length 33] at h
        exact h
      have hB0 := Lib.hid hb
      clear hown hrest0 hrowc hb
      go_wp2_with fail
      go_loopw [27] (fun s wr => NewRel w0 n s wr) (fun s _ => n - (intOf s).toNat)
      case atStart => exact ⟨0, .slice none 0 0, by omega, rfl, by simp, by simp, OwnRows.nil _ _, (Below.refl _ _).alloc (Nat.le_refl _) _⟩
      case round =>
        obtain ⟨k, v, hk, rfl, hcell, hfr, HO, hb2⟩ := hrel
        have hsz2 : w0.heap.size < wr.heap.size := World.block_lt_of_cell? _ _ hcell
        by_cases hlt : k < n
        · obtain ⟨rs, ho1, ho2⟩ := HO
          rw [List.length_replicate] at ho1
          have Ho1 := Lib.hid ho1
          have Ho2 := Lib.hid ho2
          have hvb : v.ownBlock ≠ some w0.heap.size := fun e => by have := (ho1.lt _ e).1; omega
          clear ho1 ho2
          go_wp2_with fail
          go_region_law (first | (refine step_append_lies _ (by rfl) _ _ _ (by rfl) (w0.heap.size + 1) 30 j0 _ 1 24 Tryd.underlying32 hj0 hy0 hy1 hy2 rfl (by omega) v k rs (by rfl) ((owns_below (w := wr) Ho1.out hb1).alloc _) ⟨w1.heap.size, 0, none⟩ 1 1 [.slice (some ⟨g, 0, none⟩) 33 cap] (by rfl) (by rfl) (World.news_of_block (cs := #[.slice (some ⟨g, 0, none⟩) 33 cap]) (t := 30) (fr := (0, 0)) (heap_alloc_new w1 _)) (by simp [Value.oneCell']) (by omega) (by unfold maxLen; omega) (by omega) (by have := hb1.size; simp; omega) (w1.heap.size + 1) (by simp) ?_; intro gg cc w2 hown2 hgrow hat hlt2; have hc2 := (hgrow.cell_far ⟨w0.heap.size, 0, none⟩ (World.block_lt_of_cell? _ _ (cell_alloc_behind hc1 _)) (Ne.symm hvb)).trans (cell_alloc_behind hc1 _); have hf2 := (hgrow.frozen_far ⟨w0.heap.size, 0, none⟩ (World.block_lt_of_cell? _ _ (cell_alloc_behind hc1 _)) (Ne.symm hvb)).trans (frozen_alloc_behind (World.block_lt_of_cell? _ _ hc1) hf1 _)) | (go_simp; go_at_call 28; refine (HRC.out _ hb2.drew).mono ?_; rintro e w1 ⟨g, cap, rfl, hr1, hb1'⟩; have hb1 := undrew hb1'; have hc1 := cell_behind hcell hb1; have hf1 := frozen_behind hsz2 hfr hb1; have hcA := fun o => cell_alloc_behind hc1 o))
          all_goals
            have hst := rows_step (L := List.replicate k newRow) (l := newRow) (u := .slice (some ⟨gg, 0, none⟩) (k + 1) cc) (by rw [List.length_replicate]; exact Ho1.out) Ho2.out hsz2 hb2 hb1 (by rw [show newRow.length = 33 from newTo_length 33]; exact hr1) (by rw [List.length_replicate]; exact hown2) hgrow
            have hst1 := Lib.hid hst
            clear hst
            go_wp2
            go_roundw
            case measure => simp [intOf]; omega
            case rel => exact ⟨k + 1, .slice (some ⟨gg, 0, none⟩) (k + 1) cc, by omega, by go_num, World.cell?_setCell_same' _ _ _ (by rw [hc2]; rfl), by simpa using hf2, (by rw [List.replicate_succ']; exact hst1.out.1), hst1.out.2⟩
        · obtain rfl : k = n := by omega
          have HO2 := HO
          obtain ⟨rs, ho1, ho2⟩ := HO
          obtain ⟨gv, cv, curv, rfl, hbgv, hrestv⟩ := (ho1.2.resolve_left (fun h => by have := h.2; rw [List.length_replicate] at this; omega))
          rw [List.length_replicate] at hcell HO2
          have hv := Lib.hid HO2
          clear ho1 ho2 hrestv HO2
          have hcw : w0.cell? ⟨w.heap.size, 0, none⟩ = some (.slice none 0 0) := (hB0.out.cell (p := ⟨w.heap.size, 0, none⟩) (by simp)).trans (by simp)
          have hfw : w0.frozen? ⟨w.heap.size, 0, none⟩ = false := (hB0.out.frozen (p := ⟨w.heap.size, 0, none⟩) (by simp)).trans (by simp)
          have hcr : wr.cell? ⟨w.heap.size, 0, none⟩ = some (.slice none 0 0) := (hb2.cell (p := ⟨w.heap.size, 0, none⟩) hsz).trans hcw
          have hfr2 : wr.frozen? ⟨w.heap.size, 0, none⟩ = false := (hb2.frozen (p := ⟨w.heap.size, 0, none⟩) hsz).trans hfw
          have hBB : Hid (Below w.heap.size w wr) := ((Below.refl w.heap.size w).alloc (Nat.le_refl _) (.cells #[.slice none 0 0] 34)).trans ((hB0.out.mono (Nat.le_succ _)).trans (hb2.mono (by omega)))
          clear hcw hfw hb2 hfr
          go_wp2_with fail
          refine bodyPost_ret (v := .tuple #[.agg #[.slice (some ⟨gv, 0, none⟩) k cv], .int .i64 0]) (by simp [results, Tryd.results22, go_sem, hcr]) rfl ⟨_, rfl, ?_, ?_⟩
          · exact owns_rows_base (OwnRows.setCell hv.out (a := ⟨w.heap.size, 0, none⟩) (show w.heap.size < _ by omega) _) (by omega)
          · exact hBB.out.setCell (Nat.le_refl _) _

set_option maxHeartbeats 1000000 in
/-- refine.New of too few or too many rows. -/
theorem new_none (n : Int) (w : World) (h : n < 1 ∨ 1 ≤ n ∧ 256 < n) : Calls Tryd.prog 22 #[.int .i64 n] w fun e w' => e = .returned (.tuple #[.agg #[.slice none 0 0], .int .i64 2]) ∧ Below w.heap.size w w' := by
  rcases h with h | ⟨h', h⟩
  all_goals
    go_enter Tryd.func22, Tryd.ntmps22
    go_wp2
    refine bodyPost_ret (v := .tuple #[.agg #[.slice none 0 0], .int .i64 2]) (by simp [results, Tryd.results22, go_sem]) rfl ⟨rfl, ?_⟩
    exact (Below.refl _ _).alloc (Nat.le_refl _) _
end Go.Proofs.YtinfkoinpnnnnaaDoor
