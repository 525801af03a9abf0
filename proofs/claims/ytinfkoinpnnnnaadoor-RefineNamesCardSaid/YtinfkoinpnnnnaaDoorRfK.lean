/-
  What each operation of the statement that lays the bad refiners leaves. Condition: the two spoilt rows lie in their temporaries.
-/
import Derived.Test.YtinfkoinpnnnnaaDoorRfJ
namespace Go.Proofs.YtinfkoinpnnnnaaDoor
open Go.RowKit
open Sq

/-- The operations of a body's region. -/
def opsIn (n : Nat) : Code → Option (Array Oper)
  | .region id ops _ => if id = n then some ops else none
  | .seq a b => (opsIn n a).or (opsIn n b)
  | _ => none
noncomputable def litOps : Array Oper := ((Tryd.f10.body.bind (opsIn 4)).getD #[])

theorem wp_word {o : Oper} {a : Act} {w w' : World} {v : Value} {R : Value → World → Prop} {E : World → Prop} {Q : Exit → Act → World → Prop} (hr : (execOp a.eval o).run Tryd.prog w = .ok (.value v) w') (h1 : R v w') (h2 : E w') :
    o.wp Tryd.prog a w (fun a' w' => ∃ v, a' = a.put o.dst v ∧ R v w' ∧ E w') Q := by
  unfold Oper.wp
  rw [hr]
  exact ⟨v, rfl, h1, h2⟩

set_option maxRecDepth 100000 in
set_option maxHeartbeats 4000000 in
theorem lit_hop (B g1 c1 g2 c2 : Nat) (a0 : Act) (w0 : World) (h1 : a0.tmps[1]? = some (.slice (some ⟨g1, 0, none⟩) 33 c1)) (h2 : a0.tmps[2]? = some (.slice (some ⟨g2, 0, none⟩) 33 c2)) (hc : 33 ≤ c1) (hB : B ≤ w0.heap.size) (Q : Exit → Act → World → Prop) :
    ∀ (i : Nat) (o : Oper), litOps[i]? = some o → ∀ (a : Act) (w : World), Kept B w0 w → (∀ t, some t ∉ dsts litOps → a.tmps[t]? = a0.tmps[t]?) →
      (∀ e ∈ o.after, Region.binds .any e = true → ∀ (oj : Oper) (d : Tmp), litOps[e.on]? = some oj → oj.dst = some d → Word B (.slice (some ⟨g1, 0, none⟩) 33 c1) (.slice (some ⟨g2, 0, none⟩) 33 c2) (.slice (some ⟨g1, 4, none⟩) 29 (c1 - 4)) e.on (a.tmps.getD d undef) w) →
      o.wp Tryd.prog a w (fun a' w' => ∃ v, a' = a.put o.dst v ∧ Word B (.slice (some ⟨g1, 0, none⟩) 33 c1) (.slice (some ⟨g2, 0, none⟩) 33 c2) (.slice (some ⟨g1, 4, none⟩) 29 (c1 - 4)) i v w' ∧ Kept B w w') Q := by
  intro i o hi a w hE hoth hpre
  have e1 : a.tmps.getD 1 undef = .slice (some ⟨g1, 0, none⟩) 33 c1 := by
    rw [Array.getD_eq_getD_getElem?, hoth 1 (by decide), h1]; rfl
  have e2 : a.tmps.getD 2 undef = .slice (some ⟨g2, 0, none⟩) 33 c2 := by
    rw [Array.getD_eq_getD_getElem?, hoth 2 (by decide), h2]; rfl
  have hBw : B ≤ w.heap.size := Nat.le_trans hB hE.size
  clear hoth h1 h2
  simp only [Array.getD_eq_getD_getElem?] at hpre e1 e2
  match i, hi with
  | 0, hi =>
    have ho : o.op = .build 34 #[] := by cases hi; rfl
    clear hi hpre
    exact wp_word (v := .agg #[.slice none 0 0]) (by unfold execOp; simp [ho, go_sem]) rfl (Kept.refl _ _)
  | 1, hi =>
    have ho : o.op = .makeSlice 32 (.const (.int .i64 257)) (.const (.int .i64 257)) := by cases hi; rfl
    clear hi hpre
    obtain ⟨i0, hi0, hz0, hz1, hz2⟩ := info_parts inf30
    have hm := run_makeSlice (P := Tryd.prog) w 32 30 i0 (.slice none 0 0) Tryd.underlying32 hi0 hz0 .i64 .i64 257 257 (by omega) (by omega) (by rw [hz1]; decide) (by rw [hz2]; decide) (by omega)
    exact wp_word (v := .slice (some ⟨w.heap.size, 0, none⟩) 257 257) (w' := w.alloc (.cells (madeCells (Value.slice none 0 0).cells (Int.toNat 257 * i0.size)) 30)) (by unfold execOp; simp [ho, go_sem, hm]) ⟨_, _, rfl⟩ (Kept.of_below ((Below.refl _ _).alloc (Nat.le_refl _) _))
  | 2, hi =>
    have ho : o.op = .build 34 #[(0, .tmp 54)] := by cases hi; rfl
    have p1 : Word _ _ _ _ 1 (a.tmps[54]?.getD undef) _ := hpre ⟨1, .data⟩ (by cases hi; exact Array.mem_of_getElem? (i := 0) rfl) rfl _ _ rfl rfl
    clear hi hpre
    obtain ⟨p, c, hp⟩ := p1
    exact wp_word (v := .agg #[.slice p 257 c]) (by unfold execOp; simp [ho, go_sem, hp]) ⟨_, rfl, p, c, rfl⟩ (Kept.refl _ _)
  | 3, hi =>
    have ho : o.op = .move (.tmp 1) := by cases hi; rfl
    clear hi hpre
    exact wp_word (v := .slice (some ⟨g1, 0, none⟩) 33 c1) (by unfold execOp; simp [ho, go_sem, e1]) rfl (Kept.refl _ _)
  | 4, hi =>
    have ho : o.op = .buildSlice 32 1 #[(0, .tmp 56)] := by cases hi; rfl
    have p3 : Word _ _ _ _ 3 (a.tmps[56]?.getD undef) _ := hpre ⟨3, .data⟩ (by cases hi; exact Array.mem_of_getElem? (i := 0) rfl) rfl _ _ rfl rfl
    clear hi hpre
    have hp : a.tmps[56]?.getD undef = .slice (some ⟨g1, 0, none⟩) 33 c1 := p3
    exact wp_word (v := .slice (some ⟨w.heap.size, 0, none⟩) 1 1) (w' := w.alloc (.cells #[.slice (some ⟨g1, 0, none⟩) 33 c1] 30 (0, 0))) (by unfold execOp; simp [ho, go_sem, hp]) ⟨w.heap.size, rfl, heap_alloc_new w _⟩ (Kept.of_below ((Below.refl _ _).alloc (Nat.le_refl _) _))
  | 5, hi =>
    have ho : o.op = .build 34 #[(0, .tmp 57)] := by cases hi; rfl
    have p4 : Word _ _ _ _ 4 (a.tmps[57]?.getD undef) _ := hpre ⟨4, .data⟩ (by cases hi; exact Array.mem_of_getElem? (i := 0) rfl) rfl _ _ rfl rfl
    clear hi hpre
    obtain ⟨g, hp, hg⟩ := p4
    exact wp_word (v := .agg #[.slice (some ⟨g, 0, none⟩) 1 1]) (by unfold execOp; simp [ho, go_sem, hp]) ⟨_, rfl, g, rfl, hg⟩ (Kept.refl _ _)
  | 6, hi =>
    have ho : o.op = .move (.tmp 2) := by cases hi; rfl
    clear hi hpre
    exact wp_word (v := .slice (some ⟨g2, 0, none⟩) 33 c2) (by unfold execOp; simp [ho, go_sem, e2]) rfl (Kept.refl _ _)
  | 7, hi =>
    have ho : o.op = .buildSlice 32 1 #[(0, .tmp 59)] := by cases hi; rfl
    have p6 : Word _ _ _ _ 6 (a.tmps[59]?.getD undef) _ := hpre ⟨6, .data⟩ (by cases hi; exact Array.mem_of_getElem? (i := 0) rfl) rfl _ _ rfl rfl
    clear hi hpre
    have hp : a.tmps[59]?.getD undef = .slice (some ⟨g2, 0, none⟩) 33 c2 := p6
    exact wp_word (v := .slice (some ⟨w.heap.size, 0, none⟩) 1 1) (w' := w.alloc (.cells #[.slice (some ⟨g2, 0, none⟩) 33 c2] 30 (0, 0))) (by unfold execOp; simp [ho, go_sem, hp]) ⟨w.heap.size, rfl, heap_alloc_new w _⟩ (Kept.of_below ((Below.refl _ _).alloc (Nat.le_refl _) _))
  | 8, hi =>
    have ho : o.op = .build 34 #[(0, .tmp 60)] := by cases hi; rfl
    have p7 : Word _ _ _ _ 7 (a.tmps[60]?.getD undef) _ := hpre ⟨7, .data⟩ (by cases hi; exact Array.mem_of_getElem? (i := 0) rfl) rfl _ _ rfl rfl
    clear hi hpre
    obtain ⟨g, hp, hg⟩ := p7
    exact wp_word (v := .agg #[.slice (some ⟨g, 0, none⟩) 1 1]) (by unfold execOp; simp [ho, go_sem, hp]) ⟨_, rfl, g, rfl, hg⟩ (Kept.refl _ _)
  | 9, hi =>
    have ho : o.op = .move (.tmp 1) := by cases hi; rfl
    clear hi hpre
    exact wp_word (v := .slice (some ⟨g1, 0, none⟩) 33 c1) (by unfold execOp; simp [ho, go_sem, e1]) rfl (Kept.refl _ _)
  | 10, hi =>
    have ho : o.op = .slice 30 (.tmp 62) (some (.const (.int .i64 4))) none none := by cases hi; rfl
    have p9 : Word _ _ _ _ 9 (a.tmps[62]?.getD undef) _ := hpre ⟨9, .data⟩ (by cases hi; exact Array.mem_of_getElem? (i := 0) rfl) rfl _ _ rfl rfl
    clear hi hpre
    have hp : a.tmps[62]?.getD undef = .slice (some ⟨g1, 0, none⟩) 33 c1 := p9
    have hc4 : ¬ c1 = 4 := by omega
    exact wp_word (v := .slice (some ⟨g1, 4, none⟩) 29 (c1 - 4)) (by unfold execOp; simp [ho, go_sem, hp, hc4]) rfl (Kept.refl _ _)
  | 11, hi =>
    have ho : o.op = .buildSlice 32 1 #[(0, .tmp 63)] := by cases hi; rfl
    have p10 : Word _ _ _ _ 10 (a.tmps[63]?.getD undef) _ := hpre ⟨10, .data⟩ (by cases hi; exact Array.mem_of_getElem? (i := 0) rfl) rfl _ _ rfl rfl
    clear hi hpre
    have hp : a.tmps[63]?.getD undef = .slice (some ⟨g1, 4, none⟩) 29 (c1 - 4) := p10
    exact wp_word (v := .slice (some ⟨w.heap.size, 0, none⟩) 1 1) (w' := w.alloc (.cells #[.slice (some ⟨g1, 4, none⟩) 29 (c1 - 4)] 30 (0, 0))) (by unfold execOp; simp [ho, go_sem, hp]) ⟨w.heap.size, rfl, heap_alloc_new w _⟩ (Kept.of_below ((Below.refl _ _).alloc (Nat.le_refl _) _))
  | 12, hi =>
    have ho : o.op = .build 34 #[(0, .tmp 64)] := by cases hi; rfl
    have p11 : Word _ _ _ _ 11 (a.tmps[64]?.getD undef) _ := hpre ⟨11, .data⟩ (by cases hi; exact Array.mem_of_getElem? (i := 0) rfl) rfl _ _ rfl rfl
    clear hi hpre
    obtain ⟨g, hp, hg⟩ := p11
    exact wp_word (v := .agg #[.slice (some ⟨g, 0, none⟩) 1 1]) (by unfold execOp; simp [ho, go_sem, hp]) ⟨_, rfl, g, rfl, hg⟩ (Kept.refl _ _)
  | 13, hi =>
    have ho : o.op = .call { callee := .value (.func 18), args := #[], argTypes := #[] } := by cases hi; rfl
    clear hi hpre
    unfold Oper.wp execOp
    simp [ho, go_sem]
    refine (ref_new_any w).mono ?_
    rintro e w1 ⟨g, cap, rfl, hown, hb⟩
    exact ⟨_, rfl, ⟨owns_base hown hBw, _, _, rfl⟩, Kept.of_below hb⟩
  | 14, hi =>
    have ho : o.op = .buildSlice 30 1 #[(0, .const (.int .i32 5))] := by cases hi; rfl
    clear hi hpre
    exact wp_word (v := .slice (some ⟨w.heap.size, 0, none⟩) 1 1) (w' := w.alloc (.cells #[.int .i32 5] 21 (0, 0))) (by unfold execOp; simp [ho, go_sem]) ⟨w.heap.size, #[.int .i32 5], rfl, heap_alloc_new w _, rfl⟩ (Kept.of_below ((Below.refl _ _).alloc (Nat.le_refl _) _))
  | 15, hi =>
    have ho : o.op = .call { callee := .builtin .append, args := #[.tmp 66, .tmp 67], argTypes := #[30, 30] } := by cases hi; rfl
    have p13 : Word _ _ _ _ 13 (a.tmps[66]?.getD undef) _ := hpre ⟨13, .data⟩ (by cases hi; exact Array.mem_of_getElem? (i := 0) rfl) rfl _ _ rfl rfl
    have p14 : Word _ _ _ _ 14 (a.tmps[67]?.getD undef) _ := hpre ⟨14, .data⟩ (by cases hi; exact Array.mem_of_getElem? (i := 1) rfl) rfl _ _ rfl rfl
    clear hi hpre
    obtain ⟨hown, p, c, hp⟩ := p13
    obtain ⟨g, cur, hq, hg, hcur⟩ := p14
    rw [hp] at hown
    obtain ⟨i0, hi0, hz0, hz1, hz2⟩ := info_parts inf21
    have hv0 : cur[0]? = some (.int .i32 5) := by
      have := congrArg (·[0]?) hcur
      simpa using this
    have hnews : ∀ j u, [Value.int .i32 5][j]? = some u → w.cell? ((⟨g, 0, none⟩ : Addr).add j) = some u := by
      intro j u hu
      match j, hu with
      | 0, hu =>
        cases hu
        rw [Addr.add_lit, cell_of_row w g _ cur 21 (0, 0) hg]
        exact hv0
      | j + 1, hu => simp at hu
    rcases hown.2 with ⟨h0, _⟩ | ⟨g', cap, cur', hv', hb', hg', hle, hmx, hsz, htk⟩
    · cases h0
    · cases hv'
      by_cases hroom : 33 + 1 ≤ c
      · have hr := run_append_room (P := Tryd.prog) w 30 o.type 21 i0 Tryd.underlying30 hi0 g' 33 c cur' hg' ⟨g, 0, none⟩ 1 1 [.int .i32 5] (by rw [hz1]; rfl) hnews (by simp [Value.oneCell']) hroom (by rw [hz1, hsz]; simp; omega)
        refine wp_word (by unfold execOp; simp only [ho, resolve, invoke, builtin, Sem.run_bind, Sem.run_pure, Result.andThen_ok, List.map_toArray, List.map_cons, List.map_nil, Act.eval, Array.getD_eq_getD_getElem?, hp, hq, hr]; rfl) ⟨_, _, rfl⟩ (Kept.setRow hb' hg' ?_ ?_)
        · rw [hz1]; simp; omega
        · rw [hz1]
          show List.take 33 (List.take (33 * 1) cur'.toList ++ _ ++ _) = _
          rw [List.append_assoc, List.take_append_of_le_length (by simp; omega), List.take_take]
          rfl
      · obtain ⟨v', w', hr, ho', hgr⟩ := run_append_arg_grows (P := Tryd.prog) w 30 o.type 21 i0 (.int .i32 0) 1 4 Tryd.underlying30 hi0 hz0 hz1 hz2 rfl (by decide) ⟨g', 0, none⟩ 33 c _ hown.1 (hown.cells (g := g') rfl) ⟨g, 0, none⟩ 1 1 [.int .i32 5] rfl hnews (by omega) (by unfold maxLen; omega) (by omega)
        refine wp_word (by unfold execOp; simp only [ho, resolve, invoke, builtin, Sem.run_bind, Sem.run_pure, Result.andThen_ok, List.map_toArray, List.map_cons, List.map_nil, Act.eval, Array.getD_eq_getD_getElem?, hp, hq, hr]; rfl) ?_ (Kept.of_below ((Below.refl _ _).grown hgr (Nat.le_refl _) (fun j hj => by cases hj)))
        rcases ho'.2 with ⟨_, h0⟩ | ⟨g2, cap2, cur2, hv2, _⟩
        · cases h0
        · exact ⟨_, _, hv2⟩
  | 16, hi =>
    have ho : o.op = .buildSlice 32 1 #[(0, .tmp 68)] := by cases hi; rfl
    have p15 : Word _ _ _ _ 15 (a.tmps[68]?.getD undef) _ := hpre ⟨15, .data⟩ (by cases hi; exact Array.mem_of_getElem? (i := 0) rfl) rfl _ _ rfl rfl
    clear hi hpre
    obtain ⟨p, c, hp⟩ := p15
    exact wp_word (v := .slice (some ⟨w.heap.size, 0, none⟩) 1 1) (w' := w.alloc (.cells #[.slice p 34 c] 30 (0, 0))) (by unfold execOp; simp [ho, go_sem, hp]) ⟨_, ⟨w.heap.size, rfl, heap_alloc_new w _⟩, _, _, rfl⟩ (Kept.of_below ((Below.refl _ _).alloc (Nat.le_refl _) _))
  | 17, hi =>
    have ho : o.op = .build 34 #[(0, .tmp 69)] := by cases hi; rfl
    have p16 : Word _ _ _ _ 16 (a.tmps[69]?.getD undef) _ := hpre ⟨16, .data⟩ (by cases hi; exact Array.mem_of_getElem? (i := 0) rfl) rfl _ _ rfl rfl
    clear hi hpre
    obtain ⟨r, ⟨g, hp, hg⟩, hr⟩ := p16
    exact wp_word (v := .agg #[.slice (some ⟨g, 0, none⟩) 1 1]) (by unfold execOp; simp [ho, go_sem, hp]) ⟨_, r, rfl, ⟨g, rfl, hg⟩, hr⟩ (Kept.refl _ _)
  | 18, hi =>
    have ho : o.op = .buildSlice 35 6 #[(0, .tmp 53), (1, .tmp 55), (2, .tmp 58), (3, .tmp 61), (4, .tmp 65), (5, .tmp 70)] := by cases hi; rfl
    have p0 : Word _ _ _ _ 0 (a.tmps[53]?.getD undef) _ := hpre ⟨0, .data⟩ (by cases hi; exact Array.mem_of_getElem? (i := 0) rfl) rfl _ _ rfl rfl
    have p2 : Word _ _ _ _ 2 (a.tmps[55]?.getD undef) _ := hpre ⟨2, .data⟩ (by cases hi; exact Array.mem_of_getElem? (i := 1) rfl) rfl _ _ rfl rfl
    have p5 : Word _ _ _ _ 5 (a.tmps[58]?.getD undef) _ := hpre ⟨5, .data⟩ (by cases hi; exact Array.mem_of_getElem? (i := 2) rfl) rfl _ _ rfl rfl
    have p8 : Word _ _ _ _ 8 (a.tmps[61]?.getD undef) _ := hpre ⟨8, .data⟩ (by cases hi; exact Array.mem_of_getElem? (i := 3) rfl) rfl _ _ rfl rfl
    have p12 : Word _ _ _ _ 12 (a.tmps[65]?.getD undef) _ := hpre ⟨12, .data⟩ (by cases hi; exact Array.mem_of_getElem? (i := 4) rfl) rfl _ _ rfl rfl
    have p17 : Word _ _ _ _ 17 (a.tmps[70]?.getD undef) _ := hpre ⟨17, .data⟩ (by cases hi; exact Array.mem_of_getElem? (i := 5) rfl) rfl _ _ rfl rfl
    clear hi hpre
    obtain ⟨u1, q1, r1⟩ := p2
    obtain ⟨u2, q2, r2⟩ := p5
    obtain ⟨u3, q3, r3⟩ := p8
    obtain ⟨u4, q4, r4⟩ := p12
    obtain ⟨u5, r, q5, r5, r6⟩ := p17
    have hk : Kept B w (w.alloc (.cells #[.slice none 0 0, u1, u2, u3, u4, u5] 34 (0, 0))) := Kept.of_below ((Below.refl _ _).alloc (Nat.le_refl _) _)
    have p0' : a.tmps[53]?.getD undef = .agg #[.slice none 0 0] := p0
    exact wp_word (v := .slice (some ⟨w.heap.size, 0, none⟩) 6 6) (by unfold execOp; simp [ho, go_sem, p0', q1, q2, q3, q4, q5]) ⟨w.heap.size, u1, u2, u3, u4, u5, r, rfl, heap_alloc_new w _, r1, r2.kept hk, r3.kept hk, r4.kept hk, r5.kept hk, r6⟩ hk
  | 19, hi =>
    have ho : o.op = .assign (.tmp 71) := by cases hi; rfl
    have p18 : Word _ _ _ _ 18 (a.tmps[71]?.getD undef) _ := hpre ⟨18, .data⟩ (by cases hi; exact Array.mem_of_getElem? (i := 0) rfl) rfl _ _ rfl rfl
    clear hi hpre
    generalize hv : a.tmps[71]?.getD undef = v at p18
    exact wp_word (v := v) (by unfold execOp; simp [ho, go_sem, hv]) p18 (Kept.refl _ _)
  | _ + 20, hi => cases hi
end Go.Proofs.YtinfkoinpnnnnaaDoor
