/-
  The Go function refine.Learn. No condition.
-/
import Derived.Test.YtinfkoinpnnnnaaDoorRfE
namespace Go.Proofs.YtinfkoinpnnnnaaDoor
open Go.RowKit
open Sq
attribute [local go_sem ↓] Go.wp_at_zero Go.wp_at_succ

theorem below_two (w : World) (o o' : Obj) : Below w.heap.size w ((w.alloc o).alloc o') := ((Below.refl _ _).alloc (Nat.le_refl _) _).alloc (by simp) _

set_option maxRecDepth 100000 in
set_option maxHeartbeats 1000000 in
/-- refine.Learn where the refiner or the row is bad. -/
theorem learn_bad (p : Option Addr) (c : Nat) (L : List (List Int)) (row near : Int) (bit : Bool) (w : World) (hR : Rows32 w (.slice p L.length c) L) (hn : L.length ≤ 1000000) (h : askE L row ≠ 0) :
    Calls Tryd.prog 20 #[.agg #[.slice p L.length c], .int .i64 row, .int .i64 near, .bool bit] w fun e w' => e = .returned (.tuple #[.agg #[.slice none 0 0], .int .i64 (askE L row)]) ∧ Below w.heap.size w w' := by
  have hB := below_two w (.cells #[.slice p L.length c] 34) (.cells #[.slice none 0 0] 34)
  have HC := Lib.hid (ask_any p c L row _ (hR.below hB) hn)
  have HB := Lib.hid hB
  have hne : ((askE L row) != 0) = true := by rw [bne_iff_ne]; exact h
  clear hB hR h
  generalize askE L row = a at HC hne ⊢
  generalize L.length = n at HC HB ⊢
  go_enter Tryd.func20, Tryd.ntmps20
  go_wp2_with fail
  refine (HC.out).mono ?_
  rintro e w1 ⟨rfl, hb1⟩
  have c1 : w1.cell? ⟨w.heap.size + 1, 0, none⟩ = some (.slice none 0 0) := (hb1.cell (p := ⟨w.heap.size + 1, 0, none⟩) (by simp)).trans (by simp)
  have f1 : w1.frozen? ⟨w.heap.size + 1, 0, none⟩ = false := (hb1.frozen (p := ⟨w.heap.size + 1, 0, none⟩) (by simp)).trans (by simp)
  have hbb := Lib.hid (below_then HB.out hb1)
  clear hb1
  go_wp2_with fail
  refine bodyPost_ret (v := .tuple #[.agg #[.slice none 0 0], .int .i64 a]) (by simp [results, Tryd.results20, go_sem, c1]) rfl ⟨rfl, ?_⟩
  exact hbb.out.setCell (show w.heap.size ≤ w.heap.size + 1 by omega) _

set_option maxRecDepth 100000 in
set_option maxHeartbeats 1000000 in
/-- refine.Learn at no place. -/
theorem learn_far (p : Option Addr) (c : Nat) (L : List (List Int)) (row near : Int) (bit : Bool) (w : World) (hR : Rows32 w (.slice p L.length c) L) (hn : L.length ≤ 1000000) (h : askE L row = 0) (hd : near < 0 ∨ 33 ≤ near) :
    Calls Tryd.prog 20 #[.agg #[.slice p L.length c], .int .i64 row, .int .i64 near, .bool bit] w fun e w' => e = .returned (.tuple #[.agg #[.slice none 0 0], .int .i64 2]) ∧ Below w.heap.size w w' := by
  have hB := below_two w (.cells #[.slice p L.length c] 34) (.cells #[.slice none 0 0] 34)
  have hC := ask_any p c L row _ (hR.below hB) hn
  rw [h] at hC
  have HC := Lib.hid hC
  have HB := Lib.hid hB
  clear hB hR h hC
  generalize L.length = n at HC HB ⊢
  rcases hd with hd | hd
  · go_enter Tryd.func20, Tryd.ntmps20
    go_wp2_with fail
    refine (HC.out).mono ?_
    rintro e w1 ⟨rfl, hb1⟩
    have c1 : w1.cell? ⟨w.heap.size + 1, 0, none⟩ = some (.slice none 0 0) := (hb1.cell (p := ⟨w.heap.size + 1, 0, none⟩) (by simp)).trans (by simp)
    have f1 : w1.frozen? ⟨w.heap.size + 1, 0, none⟩ = false := (hb1.frozen (p := ⟨w.heap.size + 1, 0, none⟩) (by simp)).trans (by simp)
    have hbb := Lib.hid (below_then HB.out hb1)
    clear hb1
    go_wp2_with fail
    refine bodyPost_ret (v := .tuple #[.agg #[.slice none 0 0], .int .i64 2]) (by simp [results, Tryd.results20, go_sem, c1]) rfl ⟨rfl, ?_⟩
    exact hbb.out.setCell (show w.heap.size ≤ w.heap.size + 1 by omega) _
  · have hd2 : ¬ near < 0 := by omega
    go_enter Tryd.func20, Tryd.ntmps20
    go_wp2_with fail
    refine (HC.out).mono ?_
    rintro e w1 ⟨rfl, hb1⟩
    have c1 : w1.cell? ⟨w.heap.size + 1, 0, none⟩ = some (.slice none 0 0) := (hb1.cell (p := ⟨w.heap.size + 1, 0, none⟩) (by simp)).trans (by simp)
    have f1 : w1.frozen? ⟨w.heap.size + 1, 0, none⟩ = false := (hb1.frozen (p := ⟨w.heap.size + 1, 0, none⟩) (by simp)).trans (by simp)
    have hbb := Lib.hid (below_then HB.out hb1)
    clear hb1
    go_wp2_with fail
    refine bodyPost_ret (v := .tuple #[.agg #[.slice none 0 0], .int .i64 2]) (by simp [results, Tryd.results20, go_sem, c1]) rfl ⟨rfl, ?_⟩
    exact hbb.out.setCell (show w.heap.size ≤ w.heap.size + 1 by omega) _

/-- A store into a row of the call's own. -/
theorem owns_setElem {w : World} {B e : Nat} {g n cap : Nat} {xs : List Value} (h : w.ownsRow B e 1 (.slice (some ⟨g, 0, none⟩) n cap) n xs) (i : Nat) (u : Value) :
    (w.setCell ⟨g, i, none⟩ u).ownsRow B e 1 (.slice (some ⟨g, 0, none⟩) n cap) n (xs.set i u) := by
  refine ⟨by rw [List.length_set]; exact h.1, ?_⟩
  rcases h.2 with ⟨h2, _⟩ | ⟨g', cap', cur, hv, hb, hg, r1, r2, r3, r4⟩
  · cases h2
  · simp only [Value.slice.injEq, Option.some.injEq, Addr.mk.injEq] at hv
    obtain ⟨⟨rfl, _⟩, _, rfl⟩ := hv
    refine .inr ⟨g, cap, cur.setIfInBounds i u, rfl, hb, heap_setCell_same _ _ _ _ _ _ hg, r1, r2, by simpa using r3, ?_⟩
    rw [Array.toList_setIfInBounds, List.take_set, r4]

/-- A store into another block. -/
theorem owns_setOther {w : World} {B e size : Nat} {v : Value} {n : Nat} {xs : List Value} (h : w.ownsRow B e size v n xs) {a : Addr} (hne : v.ownBlock ≠ some a.block) (u : Value) : (w.setCell a u).ownsRow B e size v n xs := by
  refine h.kept (row := some a.block) ⟨rfl, rfl, rfl, by simp [World.setCell], fun k hk hne2 => heap_setCell_other _ _ _ _ (fun e => hne2 (by rw [e]))⟩ (.inr hne)

theorem OwnRows.setElem {w : World} {B : Nat} {v : Value} {L : List (List Int)} {rs : List Value} (h1 : w.ownsRow B 30 1 v L.length rs) (h2 : RowsIn w B rs L) {i g n cap : Nat} (hi : rs[i]? = some (.slice (some ⟨g, 0, none⟩) n cap)) (j : Nat) (y : Int) :
    OwnRows (w.setCell ⟨g, j, none⟩ (.int .i32 y)) B v (L.set i ((L.getD i []).set j y)) := by
  have e : rs.length = L.length := by have := h1.1; omega
  have hlt := (List.getElem?_eq_some_iff.1 hi).1
  have hL : L[i]? = some (L.getD i []) := by rw [List.getElem?_eq_getElem (by omega)]; simp [List.getD, show i < L.length by omega]
  have hrow := h2.1 i _ _ hi hL
  have hn : n = (L.getD i []).length := by
    rcases hrow.2 with ⟨h3, _⟩ | ⟨g', cap', cur, hv, _⟩
    · cases h3
    · simp only [Value.slice.injEq] at hv
      exact hv.2.1
  refine ⟨rs, ?_, ?_, h2.2⟩
  · rw [List.length_set]
    refine owns_setOther h1 (fun e1 => ?_) _
    rcases own_row_type hrow h1 (by decide) with h3 | h3
    · cases h3
    · exact h3 e1.symm
  · intro k r l hr hl
    by_cases hk : k = i
    · subst hk
      rw [hi] at hr
      cases hr
      rw [List.getElem?_set, if_pos rfl, if_pos (by omega)] at hl
      cases hl
      rw [List.map_set, List.length_set]
      rw [hn] at hrow ⊢
      exact owns_setElem hrow j _
    · rw [List.getElem?_set, if_neg (fun e => hk e.symm)] at hl
      refine owns_setOther (h2.1 k r l hr hl) (fun e1 => ?_) _
      rcases Nat.lt_or_gt_of_ne hk with h3 | h3
      · exact h2.2 k i _ _ g h3 hr hi e1 rfl
      · exact h2.2 i k _ _ g h3 hi hr rfl e1

/-- Behind k rounds of refine.Learn's loop. -/
def LearnRel (w1 : World) (L : List (List Int)) (s : Value) (wr : World) : Prop :=
  ∃ (k : Nat) (v : Value), k ≤ L.length ∧ s = .int .i64 k ∧ wr.cell? ⟨w1.heap.size, 0, none⟩ = some v ∧ wr.frozen? ⟨w1.heap.size, 0, none⟩ = false ∧ OwnRows wr (w1.heap.size + 1) v (L.take k) ∧ Below w1.heap.size w1 wr

set_option maxRecDepth 100000 in
set_option maxHeartbeats 4000000 in
/-- refine.Learn of a 1, where all is right. -/
theorem learn_some (b off c : Nat) (L : List (List Int)) (row near : Nat) (w : World) (hR : Rows32 w (.slice (some ⟨b, off, none⟩) L.length c) L) (hrows : ∀ W, Below w.heap.size w W → ∀ k, k < L.length → ∃ b' off' c', W.cell? ⟨b, off + k, none⟩ = some (.slice (some ⟨b', off', none⟩) 33 c') ∧ (L.getD k []).length = 33 ∧ ∀ i, i < (L.getD k []).length → W.cell? ⟨b', off' + i, none⟩ = some (.int .i32 ((L.getD k []).getD i 0)))
    (hn : L.length ≤ 1000000) (h : askE L row = 0) (hrow : row < L.length) (hnear : near < 33) (y0 : 0 ≤ (L.getD row []).getD near 0) (y1 : (L.getD row []).getD near 0 ≤ 65535) :
    Calls Tryd.prog 20 #[.agg #[.slice (some ⟨b, off, none⟩) L.length c], .int .i64 row, .int .i64 near, .bool true] w fun e w' => ∃ v, e = .returned (.tuple #[.agg #[v], .int .i64 0]) ∧
      OwnRows w' w.heap.size v (L.set row ((L.getD row []).set near ((L.getD row []).getD near 0 + (65535 - (L.getD row []).getD near 0) / 64))) ∧ Below w.heap.size w w' := by
  obtain ⟨j0, hj0, hy0, hy1, hy2⟩ := info_parts inf30
  have hB := below_two w (.cells #[.slice (some ⟨b, off, none⟩) L.length c] 34) (.cells #[.slice none 0 0] 34)
  have hC := ask_any (some ⟨b, off, none⟩) c L row _ (hR.below hB) hn
  rw [h] at hC
  have HC := Lib.hid hC
  have HB := Lib.hid hB
  have HR := Lib.hid hrows
  have hn' : (L.length : Int) ≤ 1000000 := by omega
  have hnear' : (near : Int) < 33 := by omega
  have hrow' : (row : Int) < (L.length : Int) := by omega
  clear hB hR h hC hrows
  go_enter Tryd.func20, Tryd.ntmps20
  go_wp2_with fail
  refine (HC.out).mono ?_
  rintro e w1 ⟨rfl, hb1⟩
  have c1 : w1.cell? ⟨w.heap.size + 1, 0, none⟩ = some (.slice none 0 0) := (hb1.cell (p := ⟨w.heap.size + 1, 0, none⟩) (by simp)).trans (by simp)
  have f1 : w1.frozen? ⟨w.heap.size + 1, 0, none⟩ = false := (hb1.frozen (p := ⟨w.heap.size + 1, 0, none⟩) (by simp)).trans (by simp)
  have c0 : w1.cell? ⟨w.heap.size, 0, none⟩ = some (.slice (some ⟨b, off, none⟩) L.length c) := (hb1.cell (p := ⟨w.heap.size, 0, none⟩) (by simp; omega)).trans (cell_alloc_behind (w := w.alloc (.cells #[.slice (some ⟨b, off, none⟩) L.length c] 34)) (by simp) _)
  have hbb := below_then HB.out hb1
  have hz1 : w.heap.size + 1 < w1.heap.size := World.block_lt_of_cell? _ _ c1
  have hz0 : w.heap.size < w1.heap.size := by omega
  have cA := fun o => cell_alloc_behind c0 o
  have Hbb := Lib.hid hbb
  clear hb1 hbb
  go_wp2_with fail
  go_loopw [13, 33] (fun _ s wr => LearnRel w1 L s wr) (fun _ s _ => L.length - (intOf s).toNat)
  case atStart => exact ⟨0, .slice none 0 0, by omega, rfl, by simp, by simp, OwnRows.nil _ _, (Below.refl _ _).alloc (Nat.le_refl _) _⟩
  case round =>
    obtain ⟨k, v, hk, rfl, hcell, hfr, HO, hb2⟩ := hrel
    have hsz2 : w1.heap.size < wr.heap.size := World.block_lt_of_cell? _ _ hcell
    by_cases hlt : k < L.length
    · obtain ⟨b', off', ck, hck, h33, hcc⟩ := HR.out wr (Hbb.out.trans (hb2.mono (by omega))) k hlt
      have HL := Lib.hid (show L.take (k + 1) = L.take k ++ [L.getD k []] by rw [List.take_succ_eq_append_getElem hlt]; simp [List.getD, hlt])
      have Hlk := Lib.hid (show (L.take k).length = k by rw [List.length_take]; omega)
      generalize L.getD k [] = l at h33 hcc HL
      have H33 := Lib.hid h33
      have HCL : Hid (∀ W, Below wr.heap.size wr W → Calls Tryd.prog 28 #[.slice (some ⟨b', off', none⟩) 33 ck] W fun e w' => ∃ g cap, e = .returned (.slice (some ⟨g, 0, none⟩) 33 cap) ∧
          w'.ownsRow W.heap.size 21 1 (.slice (some ⟨g, 0, none⟩) 33 cap) 33 (l.map (Value.int .i32)) ∧ Below W.heap.size W w') := fun W hW => by
        have h := clone_any b' off' ck l W (by omega) (by omega) (fun i hi => cell_behind (hcc i hi) hW)
        rw [h33] at h
        exact h
      obtain ⟨rs, ho1, ho2⟩ := HO
      rw [Hlk.out] at ho1
      have Ho1 := Lib.hid ho1
      have Ho2 := Lib.hid ho2
      have hvb : v.ownBlock ≠ some w1.heap.size := fun e => by have := (ho1.lt _ e).1; omega
      have hkz : (k : Int) < (L.length : Int) := by omega
      clear ho1 ho2 h33 hcc
      go_wp2_with fail
      go_region_law (first | (refine step_append_lies _ (by rfl) _ _ _ (by rfl) (w1.heap.size + 1) 30 j0 _ 1 24 Tryd.underlying32 hj0 hy0 hy1 hy2 rfl (by omega) v k rs (by rfl) ((owns_below (w := wr) Ho1.out hb1).alloc _) ⟨wx.heap.size, 0, none⟩ 1 1 [.slice (some ⟨g, 0, none⟩) 33 cap] (by rfl) (by rfl) (World.news_of_block (cs := #[.slice (some ⟨g, 0, none⟩) 33 cap]) (t := 30) (fr := (0, 0)) (heap_alloc_new wx _)) (by simp [Value.oneCell']) (by omega) (by unfold maxLen; omega) (by omega) (by have := hb1.size; simp; omega) (wx.heap.size + 1) (by simp) ?_; intro gg cc w2 hown2 hgrow hat hlt2; have hc2 := (hgrow.cell_far ⟨w1.heap.size, 0, none⟩ (World.block_lt_of_cell? _ _ (cell_alloc_behind hc1 _)) (Ne.symm hvb)).trans (cell_alloc_behind hc1 _); have hf2 := (hgrow.frozen_far ⟨w1.heap.size, 0, none⟩ (World.block_lt_of_cell? _ _ (cell_alloc_behind hc1 _)) (Ne.symm hvb)).trans (frozen_alloc_behind (World.block_lt_of_cell? _ _ hc1) hf1 _)) | (go_simp; go_at_call 28; refine (HCL.out _ (Below.refl _ _).drew).mono ?_; rintro e wx ⟨g, cap, rfl, hr1, hb1'⟩; have hb1 := undrew hb1'; have hc1 := cell_behind hcell hb1; have hf1 := frozen_behind hsz2 hfr hb1; have hcA := fun o => cell_alloc_behind hc1 o))
      all_goals
        have hst := rows_step (L := L.take k) (l := l) (u := .slice (some ⟨gg, 0, none⟩) (k + 1) cc) (by rw [Hlk.out]; exact Ho1.out) Ho2.out hsz2 hb2 hb1 (by rw [H33.out]; exact hr1) (by rw [Hlk.out]; exact hown2) hgrow
        have hst1 := Lib.hid hst
        clear hst
        go_wp2
        go_roundw
        case measure => simp [intOf]; omega
        case rel => exact ⟨k + 1, .slice (some ⟨gg, 0, none⟩) (k + 1) cc, by omega, by go_num, World.cell?_setCell_same' _ _ _ (by rw [hc2]; rfl), by simpa using hf2, (by rw [HL.out]; exact hst1.out.1), hst1.out.2⟩
    · obtain rfl : k = L.length := by omega
      rw [List.take_length] at HO
      obtain ⟨rs, ho1, ho2⟩ := HO
      obtain ⟨b', off', ck, hck, h33, hcc⟩ := HR.out wr (Hbb.out.trans (hb2.mono (by omega))) row hrow
      clear hck hcc
      obtain ⟨gv, cv, curv, rfl, hbgv, hrestv⟩ := ho1.2.resolve_left (fun h => by have := h.2; omega)
      have hrsl : rs.length = L.length := by have := ho1.1; omega
      have hri : rs[row]? = some rs[row] := List.getElem?_eq_getElem (by omega)
      have hLi : L[row]? = some (L.getD row []) := by rw [List.getElem?_eq_getElem hrow]; simp [List.getD, hrow]
      have howr := ho2.1 row _ _ hri hLi
      rw [h33] at howr
      obtain ⟨gr, cr, curr, hrv, hbgr, hrestr⟩ := howr.2.resolve_left (fun h => by have := h.2; omega)
      rw [hrv] at hri howr
      have cvr : wr.cell? ⟨gv, row, none⟩ = some (.slice (some ⟨gr, 0, none⟩) 33 cr) := by
        have := ho1.cells (g := gv) rfl row _ hri
        rwa [cell_off, Nat.zero_add] at this
      have cy : wr.cell? ⟨gr, near, none⟩ = some (.int .i32 ((L.getD row []).getD near 0)) := by
        have := howr.cells (g := gr) rfl near (.int .i32 ((L.getD row []).getD near 0)) (by
          generalize L.getD row [] = l at h33 ⊢
          rw [List.getElem?_map, List.getElem?_eq_getElem (by omega)]
          simp [List.getD, show near < l.length by omega])
        rwa [cell_off, Nat.zero_add] at this
      have fy : wr.frozen? ⟨gr, near, none⟩ = false := frozen_of_row _ _ _ _ _ hrestr.1
      have Hset := Lib.hid (fun y => OwnRows.setElem ho1 ho2 hri near y)
      have hne1 : ¬ gr = w1.heap.size := by omega
      have hne2 : ¬ gr = w.heap.size + 1 := by omega
      have c1w : wr.cell? ⟨w.heap.size + 1, 0, none⟩ = some (.slice none 0 0) := (hb2.cell (p := ⟨w.heap.size + 1, 0, none⟩) hz1).trans c1
      have f1w : wr.frozen? ⟨w.heap.size + 1, 0, none⟩ = false := (hb2.frozen (p := ⟨w.heap.size + 1, 0, none⟩) hz1).trans f1
      have Hfin := Lib.hid (Hbb.out.trans (hb2.mono (by omega)))
      have hgr0 : w.heap.size ≤ gr := by omega
      have Hgr := Lib.hid hbgr
      clear ho1 ho2 hrestv hrestr howr hri hLi hrsl h33 hb2 c1 f1 c0 cA hrv
      generalize hy : (L.getD row []).getD near 0 = y at cy y0 y1 Hset
      have Hy := Lib.hid hy
      clear hy
      go_wp2_with fail
      go_region
      all_goals go_wp2_with fail
      refine bodyPost_ret (v := .tuple #[.agg #[.slice (some ⟨gv, 0, none⟩) L.length cv], .int .i64 0]) (by simp [results, Tryd.results20, go_sem, c1w]) rfl ⟨_, rfl, ?_, ?_⟩
      · rw [Hy.out]
        exact owns_rows_base (OwnRows.setCell (Hset.out _) (a := ⟨w.heap.size + 1, 0, none⟩) (show w.heap.size + 1 < w1.heap.size + 1 by omega) _) (by omega)
      · exact (Hfin.out.drew.setCell (p := ⟨gr, near, none⟩) hgr0 _).setCell (show w.heap.size ≤ w.heap.size + 1 by omega) _
end Go.Proofs.YtinfkoinpnnnnaaDoor
