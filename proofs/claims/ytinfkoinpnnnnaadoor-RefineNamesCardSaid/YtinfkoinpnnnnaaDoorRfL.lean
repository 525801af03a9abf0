/-
  The law RefineNames. Condition: the table 'row' lies in its variable.
-/
import Derived.Test.YtinfkoinpnnnnaaDoorRfO
namespace Go.Proofs.YtinfkoinpnnnnaaDoor
open Go.RowKit
open Sq

set_option maxRecDepth 100000 in
set_option maxHeartbeats 4000000 in
theorem refine_any (w : World) (hT : Tab w) : Calls Tryd.prog 10 #[] w fun e w' => e = .returned (.bool true) ∧ Below w.heap.size w w' := by
  go_enter Tryd.func10, Tryd.ntmps10
  go_wp2_with fail
  refine (ref_new_c _ hT).mono ?_
  rintro e w1 ⟨g1, c1, rfl, ho1, hT1, hb1⟩
  go_wp2_with fail
  refine (ref_new_c _ hT1).mono ?_
  rintro e w2 ⟨g2, c2, rfl, ho2, hT2, hb2⟩
  have hS := Lib.hid (spoilt_of ho1 hb1 ho2 hb2 hT)
  have x1 : w2.cell? ⟨g1, 3, none⟩ = some (.int .i32 (newRow.getD 3 0)) := by
    have := (owns_below ho1 hb2).cells (g := g1) rfl 3 (.int .i32 (newRow.getD 3 0)) (by rw [List.getElem?_map]; rfl)
    rwa [cell_off] at this
  have x2 : w2.cell? ⟨g2, 32, none⟩ = some (.int .i32 (newRow.getD 32 0)) := by
    have := ho2.cells (g := g2) rfl 32 (.int .i32 (newRow.getD 32 0)) (by rw [List.getElem?_map]; rfl)
    rwa [cell_off] at this
  have f1 : w2.frozen? ⟨g1, 3, none⟩ = false := by
    rcases (owns_below ho1 hb2).2 with ⟨h, _⟩ | ⟨g, cap, cur, hv, _, hg, _⟩
    · cases h
    · cases hv; exact frozen_of_row _ _ _ _ _ hg
  have f2 : w2.frozen? ⟨g2, 32, none⟩ = false := by
    rcases ho2.2 with ⟨h, _⟩ | ⟨g, cap, cur, hv, _, hg, _⟩
    · cases h
    · cases hv; exact frozen_of_row _ _ _ _ _ hg
  have hne : ¬ g1 = g2 := by have h1 := ho1.lt g1 rfl; have h2 := ho2.lt g2 rfl; omega
  have hne' : ¬ g2 = g1 := fun e => hne e.symm
  generalize newRow.getD 3 0 = y1 at x1
  generalize newRow.getD 32 0 = y2 at x2
  clear ho1 ho2 hb1 hb2 hT1 hT2
  go_wp2_with fail
  rename_i hrest
  generalize (w2.setCell ⟨g1, 3, none⟩ (.int .i32 (-1))).setCell ⟨g2, 32, none⟩ (.int .i32 65536) = W at hS ⊢
  clear x1 x2 f1 f2
  refine wp_region_kept _ W 281 (by kernel_rfl) rfl (by kernel_rfl) (Word w.heap.size (.slice (some ⟨g1, 0, none⟩) 33 c1) (.slice (some ⟨g2, 0, none⟩) 33 c2) (.slice (some ⟨g1, 4, none⟩) 29 (c1 - 4))) (Kept w.heap.size) ⟨rfl, rfl, rfl, Nat.le_refl _, fun _ _ => .inl rfl⟩ (fun _ _ _ => Kept.trans) Word.kept (lit_hop w.heap.size g1 c1 g2 c2 _ W rfl rfl hS.out.cap hS.out.below.size _) ?_
  intro vs wx hl hK hw
  match vs, hl with
  | [v0, v1, v2, v3, v4, v5, v6, v7, v8, v9, v10, v11, v12, v13, v14, v15, v16, v17, v18, v19], _ =>
  obtain ⟨g, rfl, hbads, hTx, hbx⟩ := bads_of hT hS.out hK (hw 19 v19 rfl)
  simp only [putAll, dsts, List.map_cons, List.map_nil, Act.put]
  have HB := Lib.hid hbads
  have HW := Lib.hid hbx
  clear hS hK hw hbads hbx hne hne'
  refine hrest _ _ ?_
  clear hrest hl
  go_wp2_with fail
  go_loopw [4] (fun i wr => ∃ k : Nat, k ≤ 6 ∧ i = .int .i64 k ∧ Tab wr ∧ Hid (Bads wr g) ∧ Hid (Below w.heap.size w wr)) (fun i _ => 6 - (intOf i).toNat)
  case atStart => exact ⟨0, by omega, rfl, hTx, HB, HW⟩
  case round =>
    obtain ⟨k, hk, rfl, hTr, hBr, hWr⟩ := hrel
    by_cases hlt : k < 6
    · obtain ⟨u, hu, hbad⟩ := hBr.out k hlt
      have hlt' : (k : Int) < 6 := by omega
      go_wp2_with fail
      refine (look_no _ _ hbad hTr).mono ?_
      rintro e w3 ⟨rfl, hT3, hb3⟩
      have hu3 := cell_behind hu hb3
      have hbad3 := hbad.below hb3
      clear hu hbad
      go_wp2_with fail
      refine (learn_no _ _ _ hbad3 hT3).mono ?_
      rintro e w4 ⟨rfl, hT4, hb4⟩
      have hu4 := cell_behind hu3 hb4
      have hbad4 := hbad3.below hb4
      clear hu3 hbad3
      have ha4 : Below w4.heap.size w4 (w4.alloc (.cells #[.slice none 0 0] 34)) := (Below.refl _ _).alloc (Nat.le_refl _) _
      have huA := cell_behind hu4 ha4
      have hbadA := Lib.hid (hbad4.below ha4)
      have hTA := Lib.hid (tab_then hT4 ha4)
      have HA := Lib.hid ha4
      clear hu4 ha4
      go_wp2_with fail
      refine (check_no hbadA.out hTA.out).mono ?_
      rintro e w5 ⟨rfl, hT5, hb5⟩
      go_wp2_with fail
      go_roundw
      case measure => simp [intOf]; omega
      case rel =>
        have hba := below_then (below_then (below_then hb3 hb4) HA.out) hb5
        exact ⟨k + 1, by omega, by go_num, hT5, Lib.hid (hBr.out.below hba), Lib.hid (hWr.out.trans (hba.mono hWr.out.size))⟩
    · obtain rfl : k = 6 := by omega
      clear hBr hk hlt HB HW
      go_wp2_with fail
      refine (new_none 0 _ (.inl (by omega))).mono ?_
      rintro e w3 ⟨rfl, hb3⟩
      have HW3 := Lib.hid ((hWr.out.trans (hb3.mono hWr.out.size)).alloc (by have := hWr.out.size; have := hb3.size; omega) (.cells #[.slice none 0 0] 34))
      clear hb3
      go_wp2_with fail
      refine (new_none 257 _ (.inr (by omega))).mono ?_
      rintro e w4 ⟨rfl, hb4⟩
      have HW4 := Lib.hid ((HW3.out.trans (hb4.mono HW3.out.size)).alloc (by have := HW3.out.size; have := hb4.size; omega) (.cells #[.slice none 0 0] 34))
      clear hb4 HW3 hTr hTx
      go_wp2_with fail
      refine (sees_new (tab_then hT HW4.out) HW4.out).mono ?_
      rintro e w5 ⟨g0, c0, rfl, hs5⟩
      have S5 := Lib.hid hs5
      have q5 := hs5.cell
      clear HW4 hs5
      go_wp2_with fail
      refine (S5.out.look_out 256 0 (.inr (by omega))).mono ?_
      rintro e w6 ⟨rfl, hs6⟩
      have S6 := Lib.hid hs6
      have q6 := hs6.cell
      clear q5 hs6 S5
      go_wp2_with fail
      refine (S6.out.look_out (-1) 0 (.inl (by omega))).mono ?_
      rintro e w7 ⟨rfl, hs7⟩
      have S7 := Lib.hid hs7
      have q7 := hs7.cell
      clear q6 hs7 S6
      go_wp2_with fail
      refine (S7.out.look_off 0 2048 (by omega) (by omega) (.inr (by omega))).mono ?_
      rintro e w8 ⟨rfl, hs8⟩
      have S8 := Lib.hid hs8
      have q8 := hs8.cell
      clear q7 hs8 S7
      go_wp2_with fail
      refine (S8.out.look_off 0 (-2048) (by omega) (by omega) (.inl (by omega))).mono ?_
      rintro e w9 ⟨rfl, hs9⟩
      have S9 := Lib.hid hs9
      have q9 := hs9.cell
      clear q8 hs9 S8
      go_wp2_with fail
      refine (S9.out.learn_off 0 33 true (by omega) (by omega) (.inr (by omega))).mono ?_
      rintro e w10 ⟨rfl, hs10⟩
      have S10 := Lib.hid (hs10.alloc (.cells #[.slice none 0 0] 34))
      have q10 := S10.out.cell
      clear q9 hs10 S9
      go_wp2_with fail
      refine (S10.out.learn_off 0 (-1) true (by omega) (by omega) (.inl (by omega))).mono ?_
      rintro e w11 ⟨rfl, hs11⟩
      have S11 := Lib.hid (hs11.alloc (.cells #[.slice none 0 0] 34))
      have q11 := S11.out.cell
      clear q10 hs11 S10
      go_wp2_with fail
      refine (S11.out.learn_out 256 0 true (.inr (by omega))).mono ?_
      rintro e w12 ⟨rfl, hs12⟩
      have S12 := Lib.hid (hs12.alloc (.cells #[.slice none 0 0] 34))
      have q12 := S12.out.cell
      clear q11 hs12 S11
      go_wp2_with fail
      refine (S12.out.look_first).mono ?_
      rintro e w13 ⟨rfl, hs13⟩
      have S13 := Lib.hid hs13
      have q13 := hs13.cell
      clear q12 hs13 S12
      go_wp2_with fail
      refine (S13.out.look_last).mono ?_
      rintro e w14 ⟨rfl, hs14⟩
      have S14 := Lib.hid hs14
      have q14 := hs14.cell
      clear q13 hs14 S13
      go_wp2_with fail
      rw [make_full w14]
      have F0 : Hid (Fills w w14.heap.size 0 (w14.alloc (.cells (madeCells #[.int .i32 0] 33) 21))) := Lib.hid ⟨made_full w14 _ S14.out.below.size, (S14.out.alloc _).tab, (S14.out.alloc _).below⟩
      clear S14 q14
      generalize w14.alloc (.cells (madeCells #[.int .i32 0] 33) 21) = w15 at F0 ⊢
      generalize w14.heap.size = gf at F0 ⊢
      go_wp2_with fail
      go_loopw [41] (fun i wr => ∃ k : Nat, k ≤ 33 ∧ i = .int .i64 k ∧ Hid (Fills w gf k wr)) (fun i _ => 33 - (intOf i).toNat)
      case atStart => exact ⟨0, by omega, rfl, F0⟩
      case round =>
        obtain ⟨k, hk, rfl, F⟩ := hrel
        by_cases hlt : k < 33
        · have hlt' : (k : Int) < 33 := by omega
          have c1 := F.out.cell hlt
          have c2 := F.out.free k
          have F1 := Lib.hid (F.out.set hlt hT)
          clear F
          generalize (fullTo k).getD k 0 = y at c1
          go_wp2_with fail
          go_roundw
          case measure => simp [intOf]; omega
          case rel => exact ⟨k + 1, by omega, by go_num, F1⟩
        · obtain rfl : k = 33 := by omega
          clear F0
          go_wp2_with fail
          refine (fills_look F.out hT).mono ?_
          rintro e w16 ⟨rfl, F16⟩
          replace F16 := Lib.hid F16
          clear F
          go_wp2_with fail
          refine (fills_learn F16.out hT).mono ?_
          rintro e w17 ⟨g5, c5, rfl, hr17, F17⟩
          have ha17 : Below w17.heap.size w17 (w17.alloc (.cells #[.slice (some ⟨g5, 0, none⟩) 1 c5] 34)) := (Below.refl _ _).alloc (Nat.le_refl _) _
          have hx17 : (w17.alloc (.cells #[.slice (some ⟨g5, 0, none⟩) 1 c5] 34)).cell? ⟨w17.heap.size, 0, none⟩ = some (.slice (some ⟨g5, 0, none⟩) 1 c5) := by simp
          have R18 := Lib.hid (hr17.below ha17)
          have F18 := Lib.hid (F17.below' hT ha17)
          have X18 := Lib.hid hx17
          clear F16 F17 hr17 ha17 hx17
          go_wp2_with fail
          refine (alive17_any _ F18.out.tab).mono ?_
          rintro e w19 ⟨rfl, _, hb19⟩
          have R19 := Lib.hid (R18.out.below hb19)
          have F19 := Lib.hid (F18.out.below' hT hb19)
          have x19 := cell_behind X18.out hb19
          clear F18 R18 X18 hb19
          go_wp2_with fail
          refine (fills_same F19.out R19.out hT).mono ?_
          rintro e w20 ⟨rfl, hb20⟩
          replace hb20 := Lib.hid hb20
          clear F19 R19
          go_wp2_with fail
          go_ret
          exact ⟨rfl, hb20.out⟩
end Go.Proofs.YtinfkoinpnnnnaaDoor
