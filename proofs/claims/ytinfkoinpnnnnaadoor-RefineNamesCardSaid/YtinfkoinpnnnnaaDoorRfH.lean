/-
  The Go function alive of layer 17 returns true. Condition: the table 'row' lies in its variable.
-/
import Derived.Test.YtinfkoinpnnnnaaDoorRfG
namespace Go.Proofs.YtinfkoinpnnnnaaDoor
open Go.RowKit
open Sq

/-- A refiner of n rows at block g. -/
structure RefAt (w : World) (g c n : Nat) (L : List (List Int)) : Prop where
  len : L.length = n
  rows : Rows32 w (.slice (some ⟨g, 0, none⟩) n c) L
theorem RefAt.below {w w' : World} {g c n : Nat} {L : List (List Int)} (h : RefAt w g c n L) (hb : Below w.heap.size w w') : RefAt w' g c n L := ⟨h.len, h.rows.below hb⟩
theorem OwnRows.at {w : World} {B : Nat} {v : Value} {L : List (List Int)} (h : OwnRows w B v L) (h1 : 1 ≤ L.length) : ∃ g c, v = .slice (some ⟨g, 0, none⟩) L.length c ∧ RefAt w g c L.length L := by
  have hR := h.rows
  obtain ⟨rs, h2, _⟩ := h
  rcases h2.2 with ⟨rfl, hn⟩ | ⟨g, cap, cur, rfl, _⟩
  · omega
  · exact ⟨g, cap, rfl, rfl, hR⟩
/-- What a walk reads in it. -/
theorem RefAt.cell {w : World} {g c n : Nat} {L : List (List Int)} (h : RefAt w g c n L) (h1 : 1 ≤ n) (h2 : n ≤ 256) (k : Nat) (hk : k < n) (h33 : (L.getD k []).length = 33) :
    ∃ x ox cx, w.cell? ⟨g, k, none⟩ = some (.slice (some ⟨x, ox, none⟩) 33 cx) ∧ ∀ i, i < 33 → w.cell? ⟨x, ox + i, none⟩ = some (.int .i32 ((L.getD k []).getD i 0)) := by
  obtain ⟨hl, p, c', e, hs⟩ := h
  subst hl
  simp only [Value.slice.injEq] at e
  obtain ⟨rfl, _, rfl⟩ := e
  obtain ⟨b, off, hp, hr⟩ := hs h1 h2
  simp only [Option.some.injEq, Addr.mk.injEq] at hp
  obtain ⟨rfl, rfl, _⟩ := hp
  obtain ⟨r, hc, p', cx, rfl, hcc⟩ := hr k hk
  obtain ⟨x, ox, rfl, hx⟩ := hcc h33
  rw [h33, Nat.zero_add] at hc
  exact ⟨x, ox, cx, hc, hx⟩

theorem newRow_good : Good newRow := by decide +kernel
theorem newRow_length : newRow.length = 33 := newTo_length 33
theorem getD_replicate (n k : Nat) (l : List Int) (hk : k < n) : (List.replicate n l).getD k [] = l := by simp [List.getD, hk]
theorem new_allGood (n : Nat) : AllGood (List.replicate n newRow) := fun i hi => by
  rw [List.length_replicate] at hi
  rw [getD_replicate n i _ hi]
  exact newRow_good
theorem checkE_ok {L : List (List Int)} (h1 : 1 ≤ L.length) (h2 : L.length ≤ 256) (h : AllGood L) : checkE L = 0 := by unfold checkE; rw [if_pos ⟨h1, h2, h⟩]
theorem askE_ok {L : List (List Int)} (h1 : 1 ≤ L.length) (h2 : L.length ≤ 256) (h : AllGood L) {row : Int} (h3 : 0 ≤ row) (h4 : row < L.length) : askE L row = 0 := by
  unfold askE; rw [checkE_ok h1 h2 h]; rw [if_neg (by simp), if_neg (by omega)]
theorem askE_no {L : List (List Int)} (h1 : 1 ≤ L.length) (h2 : L.length ≤ 256) (h : AllGood L) {row : Int} (h3 : row < 0 ∨ L.length ≤ row) : askE L row = 2 := by
  unfold askE; rw [checkE_ok h1 h2 h]; rw [if_neg (by simp), if_pos h3]

theorem learn_good {L : List (List Int)} (h : AllGood L) (i j : Nat) (hi : i < L.length) (hj : j < 33) : AllGood (learnL L i j) := by
  intro k hk
  unfold learnL at hk ⊢
  rw [List.length_set] at hk
  have hgi := h i hi
  have hb := hgi.2 j hj
  by_cases e : k = i
  · subst e
    have e2 : (L.set k ((L.getD k []).set j ((L.getD k []).getD j 0 + (65535 - (L.getD k []).getD j 0) / 64))).getD k [] = (L.getD k []).set j ((L.getD k []).getD j 0 + (65535 - (L.getD k []).getD j 0) / 64) := by
      rw [List.getD, List.getElem?_set, if_pos rfl, if_pos hk]
      rfl
    rw [e2]
    generalize L.getD k [] = l at hgi hb
    generalize hy : l.getD j 0 = y at hb
    refine ⟨by rw [List.length_set]; exact hgi.1, fun m hm => ?_⟩
    by_cases e3 : j = m
    · subst e3
      rw [List.getD, List.getElem?_set, if_pos rfl, if_pos (by rw [hgi.1]; exact hm)]
      simp only [Option.getD_some]
      omega
    · rw [List.getD, List.getElem?_set, if_neg e3]
      exact hgi.2 m hm
  · have e2 : (L.set i ((L.getD i []).set j ((L.getD i []).getD j 0 + (65535 - (L.getD i []).getD j 0) / 64))).getD k [] = L.getD k [] := by
      rw [List.getD, List.getElem?_set, if_neg (fun h => e h.symm)]
      rfl
    rw [e2]
    exact h k hk
theorem learn_length (L : List (List Int)) (i j : Nat) : (learnL L i j).length = L.length := by unfold learnL; rw [List.length_set]

theorem new_c (n : Nat) (w : World) (hT : Tab w) (h1 : 1 ≤ n) (h2 : n ≤ 256) : Calls Tryd.prog 22 #[.int .i64 n] w fun e w' => ∃ g c, e = .returned (.tuple #[.agg #[.slice (some ⟨g, 0, none⟩) n c], .int .i64 0]) ∧ RefAt w' g c n (List.replicate n newRow) ∧ Tab w' ∧ Below w.heap.size w w' :=
  (new_some n w hT h1 h2).mono fun e w' ⟨v, he, ho, hb⟩ => by
    obtain ⟨g, c, rfl, hr⟩ := ho.at (by rw [List.length_replicate]; exact h1)
    rw [List.length_replicate] at hr he
    exact ⟨g, c, he, hr, tab_then hT hb, hb⟩
theorem look_c {g c n : Nat} {L : List (List Int)} (row d p near : Int) (w : World) (hR : RefAt w g c n L) (hn : n ≤ 1000000) (h : askE L row = 0) (hd0 : -2047 ≤ d) (hd1 : d ≤ 2047) (hp : lookP (L.getD row.toNat []) (d + 2048).toNat = p) (hnr : lookN (d + 2048).toNat = near) (hT : Tab w) :
    Calls Tryd.prog 19 #[.agg #[.slice (some ⟨g, 0, none⟩) n c], .int .i64 row, .int .i32 d] w fun e w' => e = .returned (.tuple #[.int .i32 p, .int .i64 near, .int .i64 0]) ∧ Tab w' ∧ Below w.heap.size w w' := by
  obtain ⟨rfl, hr⟩ := hR
  refine (look_ok _ c L row d w hr hn h hd0 hd1).mono fun e w' ⟨he, hb⟩ => ⟨?_, tab_then hT hb, hb⟩
  rw [he, hp, hnr]
theorem learn_c {g c n : Nat} {L : List (List Int)} (row near : Int) (w : World) (hR : RefAt w g c n L) (h1 : 1 ≤ n) (hn : n ≤ 1000000) (h : askE L row = 0) (n0 : 0 ≤ near) (n1 : near < 33) (hT : Tab w) :
    Calls Tryd.prog 20 #[.agg #[.slice (some ⟨g, 0, none⟩) n c], .int .i64 row, .int .i64 near, .bool true] w fun e w' => ∃ g' c', e = .returned (.tuple #[.agg #[.slice (some ⟨g', 0, none⟩) n c'], .int .i64 0]) ∧ RefAt w' g' c' n (learnL L row.toNat near.toNat) ∧ Tab w' ∧ Below w.heap.size w w' := by
  obtain ⟨rfl, hr⟩ := hR
  refine (learn_ok _ c L row near w hr hn h n0 n1).mono fun e w' ⟨v, he, ho, hb⟩ => ?_
  obtain ⟨g', c', rfl, hr⟩ := ho.at (by rw [learn_length]; exact h1)
  rw [learn_length] at hr he
  exact ⟨g', c', he, hr, tab_then hT hb, hb⟩
theorem refcheck_c {g c n : Nat} {L : List (List Int)} (w : World) (hR : RefAt w g c n L) (h1 : 1 ≤ n) (h2 : n ≤ 256) (hG : AllGood L) (hT : Tab w) :
    Calls Tryd.prog 31 #[.agg #[.slice (some ⟨g, 0, none⟩) n c]] w fun e w' => e = .returned (.int .i64 0) ∧ Tab w' ∧ Below w.heap.size w w' := by
  obtain ⟨rfl, p, c', e, hs⟩ := hR
  simp only [Value.slice.injEq] at e
  obtain ⟨rfl, _, rfl⟩ := e
  obtain ⟨b, off, hp, hr⟩ := hs h1 h2
  rw [hp]
  exact (refcheck_ok b off c L w h1 h2 hG hr).mono fun e w' ⟨he, hb⟩ => ⟨he, tab_then hT hb, hb⟩

/-- Of the chapter's examples. -/
def row1 : List (List Int) := List.replicate 1 newRow
def row2 : List (List Int) := learnL row1 0 16
theorem row1_facts : askE row1 0 = 0 ∧ lookP (row1.getD 0 []) 2048 = 2047 ∧ lookN 2048 = 16 ∧ (row1.getD 0 []).getD 16 0 = 32752 := by decide +kernel
theorem row2_facts : askE row2 0 = 0 ∧ lookP (row2.getD 0 []) 2048 = 2079 ∧ (row2.getD 0 []).getD 16 0 = 33264 := by decide +kernel
theorem row1_good : AllGood row1 := new_allGood 1
theorem row2_good : AllGood row2 := learn_good row1_good 0 16 (by decide) (by decide)

set_option maxRecDepth 100000 in
set_option maxHeartbeats 2000000 in
/-- CONTRACT: alive of layer 17. -/
theorem alive17_any (w : World) (hT : Tab w) : Calls Tryd.prog 23 #[] w fun e w' => e = .returned (.bool true) ∧ Tab w' ∧ Below w.heap.size w w' := by
  go_enter Tryd.func23, Tryd.ntmps23
  go_wp2_with fail
  refine (new_c 1 _ hT (by omega) (by omega)).mono ?_
  rintro e w1 ⟨g1, c1, rfl, hr1, hT1, hb1⟩
  have ha1 := Lib.hid ((Below.refl w1.heap.size w1).alloc (Nat.le_refl _) (.cells #[.slice (some ⟨g1, 0, none⟩) 1 c1] 34))
  have hr1a := hr1.below ha1.out
  have hT1a := tab_then hT1 ha1.out
  have hb1a := Lib.hid (below_then hb1 ha1.out)
  clear hb1
  go_wp2_with fail
  refine (look_c 0 0 2047 16 _ hr1a (by omega) row1_facts.1 (by omega) (by omega) row1_facts.2.1 row1_facts.2.2.1 hT1a).mono ?_
  rintro e w2 ⟨rfl, hT2, hb2⟩
  have cr2 : w2.cell? ⟨w1.heap.size, 0, none⟩ = some (.slice (some ⟨g1, 0, none⟩) 1 c1) := cell_behind (by simp) hb2
  have hr2 := hr1a.below hb2
  have hbb2 := Lib.hid (below_then hb1a.out hb2)
  clear hb2 hT1a hr1a hr1 hT1
  go_wp2_with fail
  refine (learn_c 0 16 _ hr2 (by omega) (by omega) row1_facts.1 (by omega) (by omega) hT2).mono ?_
  rintro e w3 ⟨g2, c2, rfl, hs3, hT3, hb3⟩
  have cr3 := cell_behind cr2 hb3
  have hr3 := hr2.below hb3
  have hbb3 := Lib.hid (below_then hbb2.out hb3)
  have ha3 := Lib.hid ((Below.refl w3.heap.size w3).alloc (Nat.le_refl _) (.cells #[.slice (some ⟨g2, 0, none⟩) 1 c2] 34))
  have hs3a := hs3.below ha3.out
  have hr3a := hr3.below ha3.out
  have cr3a := cell_behind cr3 ha3.out
  have hT3a := tab_then hT3 ha3.out
  have hbb3a := Lib.hid (below_then hbb3.out ha3.out)
  clear cr2 hr2 hb3 hT2 hbb2 hbb3 hs3 hr3
  go_wp2_with fail
  refine (look_c 0 0 2079 16 _ hs3a (by omega) row2_facts.1 (by omega) (by omega) row2_facts.2.1 row1_facts.2.2.1 hT3a).mono ?_
  rintro e w4 ⟨rfl, hT4, hb4⟩
  have cs4 : w4.cell? ⟨w3.heap.size, 0, none⟩ = some (.slice (some ⟨g2, 0, none⟩) 1 c2) := cell_behind (by simp) hb4
  have cr4 := cell_behind cr3a hb4
  have hr4 := hr3a.below hb4
  have hs4 := hs3a.below hb4
  have hbb4 := Lib.hid (below_then hbb3a.out hb4)
  clear cr3a cr3 hr3a hs3a hb4 hT3a hT3
  go_wp2_with fail
  refine (refcheck_c _ hr4 (by omega) (by omega) row1_good hT4).mono ?_
  rintro e w5 ⟨rfl, hT5, hb5⟩
  have cs5 := cell_behind cs4 hb5
  have cr5 := cell_behind cr4 hb5
  have hr5 := hr4.below hb5
  have hs5 := hs4.below hb5
  have hbb5 := Lib.hid (below_then hbb4.out hb5)
  clear cs4 cr4 hr4 hs4 hb5 hT4
  go_wp2_with fail
  refine (refcheck_c _ hs5 (by omega) (by omega) row2_good hT5).mono ?_
  rintro e w6 ⟨rfl, hT6, hb6⟩
  have cs6 := cell_behind cs5 hb6
  have cr6 := cell_behind cr5 hb6
  have hr6 := hr5.below hb6
  have hs6 := hs5.below hb6
  have hbb6 := Lib.hid (below_then hbb5.out hb6)
  clear cs5 cr5 hr5 hs5 hb6 hT5
  obtain ⟨x, ox, cx, h1, h2⟩ := hr6.cell (by omega) (by omega) 0 (by omega) (row1_good 0 (by decide)).1
  obtain ⟨y, oy, cy, h3, h4⟩ := hs6.cell (by omega) (by omega) 0 (by omega) (row2_good 0 (by decide)).1
  have h5 := h2 16 (by omega)
  have h6 := h4 16 (by omega)
  rw [show ((List.replicate 1 newRow).getD 0 []).getD 16 0 = 32752 from row1_facts.2.2.2] at h5
  rw [show ((learnL (List.replicate 1 newRow) (0 : Int).toNat (16 : Int).toNat).getD 0 []).getD 16 0 = 33264 from row2_facts.2.2] at h6
  clear h2 h4 hr6 hs6
  go_wp2_with fail
  go_ret
  exact ⟨rfl, hT6, hbb6.out⟩
end Go.Proofs.YtinfkoinpnnnnaaDoor
