/-
  The Go functions refine.Check, refine.check and the reference's Check come to the plain word 'checkE'. No condition.
-/
import Derived.Test.YtinfkoinpnnnnaaDoorRfA
namespace Go.Proofs.YtinfkoinpnnnnaaDoor
open Go.RowKit
open Sq

/-- A row of a refiner. -/
def Good (l : List Int) : Prop := l.length = 33 ∧ ∀ i, i < 33 → 0 ≤ l.getD i 0 ∧ l.getD i 0 ≤ 65535
instance (l : List Int) : Decidable (Good l) := inferInstanceAs (Decidable (_ ∧ _))
def AllGood (L : List (List Int)) : Prop := ∀ i, i < L.length → Good (L.getD i [])
instance (L : List (List Int)) : Decidable (AllGood L) := inferInstanceAs (Decidable (∀ i, i < L.length → _))
def checkE (L : List (List Int)) : Int := if 1 ≤ L.length ∧ L.length ≤ 256 ∧ AllGood L then 0 else 8

theorem good_min {l : List Int} (h : l.length = 33) : Good l ↔ 0 ≤ minTo l 33 ∧ maxTo l 33 ≤ 65535 := by
  rw [minTo_ge l 33 0 (by omega), maxTo_le l 33 65535 (by omega)]
  exact ⟨fun g => ⟨fun i hi => (g.2 i hi).1, fun i hi => (g.2 i hi).2⟩, fun g => ⟨h, fun i hi => ⟨g.1 i hi, g.2 i hi⟩⟩⟩

set_option maxHeartbeats 2000000 in
/-- refine.Check where there is a row, and few of them. -/
theorem check_some (b off c : Nat) (L : List (List Int)) (w : World) (h1 : 1 ≤ L.length) (h2 : L.length ≤ 256)
    (hr : ∀ k, k < L.length → ∃ r, w.cell? ⟨b, off + k, none⟩ = some r ∧ Row32 w r (L.getD k [])) :
    Calls Tryd.prog 21 #[.agg #[.slice (some ⟨b, off, none⟩) L.length c]] w fun e w' => e = .returned (.int .i64 (checkE L)) ∧ Below w.heap.size w w' := by
  have hB : Below w.heap.size w (w.alloc (.cells #[.slice (some ⟨b, off, none⟩) L.length c] 34)) := (Below.refl _ _).alloc (Nat.le_refl _) _
  have HR : Hid (∀ k, k < L.length → ∃ p cr, (w.alloc (.cells #[.slice (some ⟨b, off, none⟩) L.length c] 34)).cell? ⟨b, off + k, none⟩ = some (.slice p (L.getD k []).length cr) ∧
      ((L.getD k []).length = 33 → ∃ b' off', p = some ⟨b', off', none⟩ ∧ ∀ i, i < 33 → (w.alloc (.cells #[.slice (some ⟨b, off, none⟩) L.length c] 34)).cell? ⟨b', off' + i, none⟩ = some (.int .i32 ((L.getD k []).getD i 0)))) := fun k hk => by
    obtain ⟨r, hcr, hrr⟩ := hr k hk
    obtain ⟨p, cr, rfl, h⟩ := hrr.below hB
    exact ⟨p, cr, cell_behind hcr hB, h⟩
  have hE : Hid (checkE L = if AllGood L then 0 else 8) := by
    show checkE L = _
    unfold checkE
    by_cases h : AllGood L
    · rw [if_pos ⟨h1, h2, h⟩, if_pos h]
    · rw [if_neg (fun g => h g.2.2), if_neg h]
  have HB := Lib.hid hB
  clear hB hr
  have hn1 : 1 ≤ (L.length : Int) := by omega
  have hn2 : (L.length : Int) ≤ 256 := by omega
  go_enter Tryd.func21, Tryd.ntmps21
  go_wp2
  go_loop [4, 18] (fun _ i => ∃ k : Nat, k ≤ L.length ∧ i = .int .i64 k ∧ Hid (∀ i, i < k → Good (L.getD i []))) (fun _ i => L.length - (intOf i).toNat)
  case atStart => exact ⟨0, by omega, rfl, fun i hi => by omega⟩
  case round =>
    obtain ⟨k, hk, rfl, HG⟩ := hrel
    by_cases hlt : k < L.length
    · obtain ⟨p, cr, hcell, hcells⟩ := HR.out k hlt
      have HL : Hid (L.getD k [] = L.getD k []) := rfl
      generalize hgl : L.getD k [] = l at hcell hcells
      have Hgl := Lib.hid hgl
      clear hgl HL
      have HC := Lib.hid hcells
      clear hcells
      by_cases h33 : l.length = 33
      · obtain ⟨b', off', rfl, hcc⟩ := HC.out h33
        have Hm := Lib.hid (min_any b' off' cr l _ (by omega) (by omega) (fun i hi => hcc i (by omega)))
        have HM := Lib.hid (max_any b' off' cr l _ (by omega) (by omega) (fun i hi => hcc i (by omega)))
        have H33 := Lib.hid h33
        have HGd := Lib.hid (good_min h33)
        rw [h33] at hcell Hm HM
        clear h33 HC hcc
        generalize minTo l 33 = mn at Hm HGd
        generalize maxTo l 33 = mx at HM HGd
        by_cases hmn : mn < 0
        · go_wp2_with fail
          refine (Hm.out).mono ?_
          rintro e w1 ⟨rfl, rfl⟩
          go_wp2_with fail
          go_ret
          exact ⟨by rw [hE.out, if_neg (fun g => by have := (HGd.out.1 (Hgl.out ▸ g k hlt)).1; omega)]; rfl, HB.out⟩
        · by_cases hmx : 65535 < mx
          · go_wp2_with fail
            refine (Hm.out).mono ?_
            rintro e w1 ⟨rfl, rfl⟩
            go_wp2_with fail
            refine (HM.out).mono ?_
            rintro e w1 ⟨rfl, rfl⟩
            go_wp2_with fail
            go_ret
            exact ⟨by rw [hE.out, if_neg (fun g => by have := (HGd.out.1 (Hgl.out ▸ g k hlt)).2; omega)]; rfl, HB.out⟩
          · go_wp2_with fail
            refine (Hm.out).mono ?_
            rintro e w1 ⟨rfl, rfl⟩
            go_wp2_with fail
            refine (HM.out).mono ?_
            rintro e w1 ⟨rfl, rfl⟩
            go_wp2_with fail
            go_round
            case rel => exact ⟨k + 1, by omega, by go_num, fun i hi => by
              by_cases e : i = k
              · subst e; rw [Hgl.out]; exact HGd.out.2 ⟨by omega, by omega⟩
              · exact HG.out i (by omega)⟩
            case measure => simp [intOf]; omega
      · have hb : ((l.length : Int) != 33) = true := by rw [bne_iff_ne]; omega
        have H33 := Lib.hid h33
        clear h33
        go_wp2_with fail
        go_ret
        exact ⟨by rw [hE.out, if_neg (fun g => H33.out (Hgl.out ▸ g k hlt).1)]; rfl, HB.out⟩
    · obtain rfl : k = L.length := by omega
      go_wp2_with fail
      go_ret
      have hall : AllGood L := HG.out
      exact ⟨by rw [hE.out, if_pos hall]; rfl, HB.out⟩

set_option maxHeartbeats 400000 in
theorem check_none (p : Option Addr) (c n : Nat) (w : World) (h : n < 1 ∨ 1 ≤ n ∧ 256 < n) (hn : n ≤ 1000000) :
    Calls Tryd.prog 21 #[.agg #[.slice p n c]] w fun e w' => e = .returned (.int .i64 8) ∧ Below w.heap.size w w' := by
  rcases h with h | ⟨h', h⟩
  · have hn1 : (n : Int) < 1 := by omega
    clear h
    go_enter Tryd.func21, Tryd.ntmps21
    go_wp2
    go_ret
    exact ⟨rfl, (Below.refl _ _).alloc (Nat.le_refl _) _⟩
  · have hn1 : 1 ≤ (n : Int) := by omega
    have hn2 : 256 < (n : Int) := by omega
    clear h h'
    go_enter Tryd.func21, Tryd.ntmps21
    go_wp2
    go_ret
    exact ⟨rfl, (Below.refl _ _).alloc (Nat.le_refl _) _⟩

/-- CONTRACT: refine.Check. -/
theorem check_any (p : Option Addr) (c : Nat) (L : List (List Int)) (w : World) (hR : Rows32 w (.slice p L.length c) L) (hn : L.length ≤ 1000000) :
    Calls Tryd.prog 21 #[.agg #[.slice p L.length c]] w fun e w' => e = .returned (.int .i64 (checkE L)) ∧ Below w.heap.size w w' := by
  by_cases h : 1 ≤ L.length ∧ L.length ≤ 256
  · obtain ⟨p', c', e, hs⟩ := hR
    simp only [Value.slice.injEq] at e
    obtain ⟨rfl, _, rfl⟩ := e
    obtain ⟨b, off, rfl, hr⟩ := hs h.1 h.2
    exact check_some b off c L w h.1 h.2 hr
  · have he : checkE L = 8 := by unfold checkE; rw [if_neg (fun g => h ⟨g.1, g.2.1⟩)]
    rw [he]
    exact check_none p c L.length w (by omega) hn

/-- What refine.check comes to. -/
def askE (L : List (List Int)) (row : Int) : Int := if checkE L ≠ 0 then 8 else if row < 0 ∨ (L.length : Int) ≤ row then 2 else 0
theorem checkE_cases (L : List (List Int)) : checkE L = 0 ∨ checkE L = 8 := by unfold checkE; split <;> simp

set_option maxHeartbeats 1000000 in
/-- CONTRACT: refine.check. -/
theorem ask_any (p : Option Addr) (c : Nat) (L : List (List Int)) (row : Int) (w : World) (hR : Rows32 w (.slice p L.length c) L) (hn : L.length ≤ 1000000) :
    Calls Tryd.prog 27 #[.agg #[.slice p L.length c], .int .i64 row] w fun e w' => e = .returned (.int .i64 (askE L row)) ∧ Below w.heap.size w w' := by
  have hB : Below w.heap.size w (w.alloc (.cells #[.slice p L.length c] 34)) := (Below.refl _ _).alloc (Nat.le_refl _) _
  have hC := check_any p c L _ (hR.below hB) hn
  have HB := Lib.hid hB
  clear hB hR
  rcases checkE_cases L with h | h
  · rw [h] at hC
    have hE : Hid (askE L row = if row < 0 ∨ (L.length : Int) ≤ row then 2 else 0) := by
      show askE L row = _
      unfold askE; rw [h]; simp
    have HC := Lib.hid hC
    clear hC h
    have hcell := fun w1 => (fun (hb : Below (w.alloc (.cells #[.slice p L.length c] 34)).heap.size (w.alloc (.cells #[.slice p L.length c] 34)) w1) => (hb.cell (p := ⟨w.heap.size, 0, none⟩) (by simp)).trans (show (w.alloc (.cells #[.slice p L.length c] 34)).cell? ⟨w.heap.size, 0, none⟩ = some (.slice p L.length c) by simp))
    have HH := Lib.hid hcell
    clear hcell
    generalize hnn : L.length = n at *
    clear hnn
    have hn' : (n : Int) ≤ 1000000 := by omega
    by_cases h1 : row < 0
    · go_enter Tryd.func27, Tryd.ntmps27
      go_wp2_with fail
      refine (HC.out).mono ?_
      rintro e w1 ⟨rfl, hb1⟩
      have hcc := HH.out w1 hb1
      go_wp2_with fail
      go_ret
      exact ⟨by rw [hE.out, if_pos (.inl h1)]; rfl, below_then HB.out hb1⟩
    · by_cases h2 : (n : Int) ≤ row
      · go_enter Tryd.func27, Tryd.ntmps27
        go_wp2_with fail
        refine (HC.out).mono ?_
        rintro e w1 ⟨rfl, hb1⟩
        have hcc := HH.out w1 hb1
        go_wp2_with fail
        go_ret
        exact ⟨by rw [hE.out, if_pos (.inr h2)]; rfl, below_then HB.out hb1⟩
      · go_enter Tryd.func27, Tryd.ntmps27
        go_wp2_with fail
        refine (HC.out).mono ?_
        rintro e w1 ⟨rfl, hb1⟩
        have hcc := HH.out w1 hb1
        go_wp2_with fail
        go_ret
        exact ⟨by rw [hE.out, if_neg (by omega)]; rfl, below_then HB.out hb1⟩
  · rw [h] at hC
    have hE : Hid (askE L row = 8) := by
      show askE L row = _
      unfold askE; rw [h]; simp
    have HC := Lib.hid hC
    clear hC h
    go_enter Tryd.func27, Tryd.ntmps27
    go_wp2_with fail
    refine (HC.out).mono ?_
    rintro e w1 ⟨rfl, hb1⟩
    go_wp2_with fail
    go_ret
    exact ⟨by rw [hE.out]; rfl, below_then HB.out hb1⟩
end Go.Proofs.YtinfkoinpnnnnaaDoor
