/-
  A region that draws its order, each of whose operations only makes memory: whatever order is drawn, each temporary holds in the end what its own word says. Conditions: the words stay true while memory is made; each operation keeps to its word.
-/
import Derived.Orders
namespace Go.Proofs.YtinfkoinpnnnnaaDoor

/-- The temporaries that a region's operations write. -/
def dsts (ops : Array Oper) : List (Option Tmp) := ops.toList.map (·.dst)
/-- The frame with the values of all operations. -/
def putAll : Act → List (Option Tmp) → List Value → Act
  | a, d :: ds, v :: vs => putAll (a.put d v) ds vs
  | a, _, _ => a

theorem put_tmps (a : Act) (d : Tmp) (v : Value) : (a.put (some d) v).tmps = a.tmps.setIfInBounds d v := rfl

theorem putAll_size : ∀ (ds : List (Option Tmp)) (vs : List Value) (a : Act), (putAll a ds vs).tmps.size = a.tmps.size
  | [], _, _ => rfl
  | _ :: _, [], _ => rfl
  | d :: ds, v :: vs, a => by
    rw [putAll, putAll_size ds vs]
    cases d <;> simp [Act.put]
theorem putAll_defers : ∀ (ds : List (Option Tmp)) (vs : List Value) (a : Act), (putAll a ds vs).defers = a.defers
  | [], _, _ => rfl
  | _ :: _, [], _ => rfl
  | d :: ds, v :: vs, a => by
    rw [putAll, putAll_defers ds vs]
    cases d <;> rfl
/-- A temporary that none of them writes. -/
theorem putAll_other : ∀ (ds : List (Option Tmp)) (vs : List Value) (a : Act) (t : Tmp), some t ∉ ds → (putAll a ds vs).tmps[t]? = a.tmps[t]?
  | [], _, _, _, _ => rfl
  | _ :: _, [], _, _, _ => rfl
  | d :: ds, v :: vs, a, t, h => by
    rw [putAll, putAll_other ds vs _ t (fun h' => h (List.mem_cons_of_mem _ h'))]
    cases d with
    | none => rfl
    | some d =>
      rw [put_tmps, Array.getElem?_setIfInBounds_ne]
      rintro rfl
      exact h (List.mem_cons_self)
/-- A temporary that one of them writes, none twice. -/
theorem putAll_at : ∀ (ds : List (Option Tmp)) (vs : List Value) (a : Act) (i : Nat) (d : Tmp) (v : Value), ds.Nodup → ds[i]? = some (some d) → vs[i]? = some v → d < a.tmps.size → (putAll a ds vs).tmps[d]? = some v
  | [], _, _, i, _, _, _, h, _, _ => by simp at h
  | _ :: _, [], _, i, _, _, _, _, h, _ => by simp at h
  | d0 :: ds, v0 :: vs, a, 0, d, v, hn, h, h', hd => by
    simp at h h'
    subst h; subst h'
    rw [putAll, putAll_other _ _ _ _ (List.nodup_cons.1 hn).1, put_tmps]
    simp [hd]
  | d0 :: ds, v0 :: vs, a, i + 1, d, v, hn, h, h', hd => by
    rw [putAll]
    exact putAll_at ds vs _ i d v (List.nodup_cons.1 hn).2 (by simpa using h) (by simpa using h') (by cases d0 <;> simp [Act.put] <;> exact hd)

section
variable {P : Program} {ops : Array Oper} {Q : Exit → Act → World → Prop} {R : Nat → Value → World → Prop} {E : World → World → Prop}

/-- How far it has come. -/
structure Came (ops : Array Oper) (R : Nat → Value → World → Prop) (E : World → World → Prop) (a0 : Act) (w0 : World) (listed : Array Bool) (a : Act) (w : World) : Prop where
  world : E w0 w
  defers : a.defers = a0.defers
  size : a.tmps.size = a0.tmps.size
  other : ∀ t : Tmp, some t ∉ dsts ops → a.tmps[t]? = a0.tmps[t]?
  word : ∀ (i : Nat) (o : Oper) (d : Tmp), ops[i]? = some o → listed.getD i false = true → o.dst = some d → R i (a.tmps.getD d undef) w

theorem getD_listed {listed : Array Bool} {i j : Nat} (h : (listed.setIfInBounds i true).getD j false = true) : j = i ∨ listed.getD j false = true := by
  by_cases e : j = i
  · exact .inl e
  · right
    rw [Array.getD_eq_getD_getElem?, Array.getElem?_setIfInBounds_ne (fun h => e h.symm)] at h
    rwa [Array.getD_eq_getD_getElem?]

theorem came_any (a0 : Act) (w0 : World) (hE : ∀ w w' w'', E w w' → E w' w'' → E w w'') (hR : ∀ i v w w', R i v w → E w w' → R i v w')
    (hdst : (dsts ops).Nodup) (hsome : ∀ (i : Nat) (o : Oper), ops[i]? = some o → ∃ d, o.dst = some d ∧ d < a0.tmps.size) (hguard : ∀ (i : Nat) (o : Oper), ops[i]? = some o → o.guard = none)
    (hop : ∀ (i : Nat) (o : Oper), ops[i]? = some o → ∀ (a : Act) (w : World), E w0 w → (∀ t, some t ∉ dsts ops → a.tmps[t]? = a0.tmps[t]?) →
      (∀ e ∈ o.after, Region.binds .any e = true → ∀ (oj : Oper) (d : Tmp), ops[e.on]? = some oj → oj.dst = some d → R e.on (a.tmps.getD d undef) w) →
      o.wp P a w (fun a' w' => ∃ v, a' = a.put o.dst v ∧ R i v w' ∧ E w w') Q)
    (hend : ∀ (vs : List Value) (w : World), vs.length = ops.size → E w0 w → (∀ i v, vs[i]? = some v → R i v w) → Q .normal (putAll a0 (dsts ops) vs) w)
    (hback : ∀ (i : Nat) (o : Oper), ops[i]? = some o → ∀ e ∈ o.after, Region.binds .any e = true → e.on < i) :
    ∀ (fuel : Nat) (listed : Array Bool) (a : Act) (w : World), listed.size = ops.size → listed.toList.countP (· = false) = fuel → Came ops R E a0 w0 listed a w → wpAny P .any ops Q fuel listed a w := by
  have hall : ∀ listed : Array Bool, listed.size = ops.size → Region.ready .any ops listed = [] → ∀ i : Nat, i < ops.size → listed.getD i false = true := by
    intro listed hs hr i
    induction i using Nat.strongRecOn with
    | ind i ih =>
      intro hi
      have hlt : i < listed.size := by omega
      cases hl : listed[i] with
      | true => rw [Array.getD_eq_getD_getElem?, Array.getElem?_eq_getElem hlt, hl]; rfl
      | false =>
        have ho : ops[i]? = some ops[i] := Array.getElem?_eq_getElem hi
        have : i ∈ Region.ready .any ops listed := mem_ready.2 ⟨by rw [Array.getD_eq_getD_getElem?, Array.getElem?_eq_getElem hlt, hl]; rfl, _, ho, fun e he hb => ih e.on (hback i _ ho e he hb) (by have := hback i _ ho e he hb; omega)⟩
        rw [hr] at this
        cases this
  have done : ∀ (listed : Array Bool) (a : Act) (w : World), listed.size = ops.size → Came ops R E a0 w0 listed a w → Region.ready .any ops listed = [] → Q .normal a w := by
    intro listed a w hs c hr
    have hl := hall listed hs hr
    have hw : ∀ (i : Nat) (o : Oper) (d : Tmp), ops[i]? = some o → o.dst = some d → R i (a.tmps.getD d undef) w := fun i o d hi hd => c.word i o d hi (hl i (Array.getElem?_eq_some_iff.1 hi).1) hd
    have key : a = putAll a0 (dsts ops) (ops.toList.map fun o => a.tmps.getD (o.dst.getD 0) undef) := by
      have ht : a.tmps = (putAll a0 (dsts ops) (ops.toList.map fun o => a.tmps.getD (o.dst.getD 0) undef)).tmps := by
        apply Array.ext (by rw [putAll_size]; exact c.size)
        intro t h1 h2
        have : a.tmps[t]? = (putAll a0 (dsts ops) (ops.toList.map fun o => a.tmps.getD (o.dst.getD 0) undef)).tmps[t]? := by
          by_cases hm : some t ∈ dsts ops
          · obtain ⟨i, hi, he⟩ := List.getElem_of_mem hm
            have hi' : i < ops.size := by simpa [dsts] using hi
            have hdi : (ops[i]).dst = some t := by simpa [dsts] using he
            rw [putAll_at _ _ _ i t (a.tmps.getD t undef) hdst (by rw [List.getElem?_eq_getElem hi, he]) (by
              rw [List.getElem?_map, List.getElem?_eq_getElem (by simpa using hi')]
              simp [hdi]) (by rw [← c.size]; exact h1)]
            rw [Array.getElem?_eq_getElem h1, Array.getD_eq_getD_getElem?, Array.getElem?_eq_getElem h1]
            rfl
          · rw [putAll_other _ _ _ _ hm]
            exact c.other t hm
        rw [Array.getElem?_eq_getElem h1, Array.getElem?_eq_getElem h2] at this
        exact Option.some.inj this
      have hd : a.defers = (putAll a0 (dsts ops) (ops.toList.map fun o => a.tmps.getD (o.dst.getD 0) undef)).defers := by rw [putAll_defers]; exact c.defers
      obtain ⟨at_, ad⟩ := a
      simp only at ht hd
      generalize putAll a0 (dsts ops) (ops.toList.map fun o => (Act.mk at_ ad).tmps.getD (o.dst.getD 0) undef) = b at ht hd ⊢
      obtain ⟨bt, bd⟩ := b
      simp only at ht hd
      rw [ht, hd]
    rw [key]
    refine hend _ w (by simp) c.world fun i v hv => ?_
    rw [List.getElem?_map, Option.map_eq_some_iff] at hv
    obtain ⟨o, ho, rfl⟩ := hv
    have ho' : ops[i]? = some o := by simpa using ho
    obtain ⟨d, hd, _⟩ := hsome i o ho'
    rw [hd]
    exact hw i o d ho' hd
  intro fuel
  induction fuel with
  | zero =>
    intro listed a w hs hf c
    have hr : Region.ready .any ops listed = [] := by
      cases hrr : Region.ready .any ops listed with
      | nil => rfl
      | cons i l =>
        have hi : i ∈ Region.ready .any ops listed := by rw [hrr]; exact List.mem_cons_self
        obtain ⟨h1, o, ho, _⟩ := mem_ready.1 hi
        have hlt : i < listed.size := by rw [hs]; exact (Array.getElem?_eq_some_iff.1 ho).1
        rw [Array.getD_eq_getD_getElem?, Array.getElem?_eq_getElem hlt] at h1
        have := List.countP_eq_zero.1 hf listed[i] (by simp)
        simp at this h1
        rw [h1] at this
        cases this
    exact ⟨hr, done listed a w hs c hr⟩
  | succ fuel ih =>
    intro listed a w hs hf c
    refine ⟨done listed a w hs c, fun i hi => ?_⟩
    obtain ⟨h1, o, ho, hb⟩ := mem_ready.1 hi
    have hlt : i < listed.size := by rw [hs]; exact (Array.getElem?_eq_some_iff.1 ho).1
    have h1' : listed[i] = false := by
      rw [Array.getD_eq_getD_getElem?, Array.getElem?_eq_getElem hlt] at h1
      simpa using h1
    have hstep := hop i o ho a w c.world c.other (fun e he hbe oj d hj hd => c.word e.on oj d hj (hb e he hbe) hd)
    unfold wpOp
    rw [ho]
    have hwant : Region.wanted o (yielded ops a.tmps) = true := by simp [Region.wanted, hguard i o ho]
    simp only [hwant, if_true]
    refine .inl (Oper.wp_mono (fun a' w' h => ?_) hstep)
    obtain ⟨v, rfl, hv, hww⟩ := h
    obtain ⟨d, hd, hdl⟩ := hsome i o ho
    refine ih _ _ _ (by simpa using hs) ?_ ⟨hE _ _ _ c.world hww, ?_, ?_, ?_, ?_⟩
    · rw [Array.toList_setIfInBounds, List.countP_set (by simpa using hlt)]
      have e1 : listed.toList[i]'(by simpa using hlt) = false := by simpa using h1'
      rw [e1, hf]
      simp
    · rw [hd]; exact c.defers
    · rw [hd, put_tmps]; simpa using c.size
    · intro t ht
      rw [hd, put_tmps, Array.getElem?_setIfInBounds_ne]
      · exact c.other t ht
      · rintro rfl
        exact ht (by rw [dsts, List.mem_map]; exact ⟨o, by simpa using Array.mem_of_getElem? ho, hd⟩)
    · intro j oj dj hj hl hdj
      rcases getD_listed hl with rfl | hl'
      · rw [ho] at hj
        cases hj
        rw [hd] at hdj
        cases hdj
        rw [hd, put_tmps, Array.getD_eq_getD_getElem?, Array.getElem?_setIfInBounds_self_of_lt (by rw [c.size]; exact hdl)]
        exact hv
      · have hne : d ≠ dj := by
          rintro rfl
          by_cases e : i = j
          · subst e
            rw [Array.getD_eq_getD_getElem?, Array.getElem?_eq_getElem hlt, h1'] at hl'
            cases hl'
          · have hi1 : (dsts ops)[i]? = some (some d) := by rw [dsts, List.getElem?_map]; simp [ho, hd]
            have hj1 : (dsts ops)[j]? = some (some d) := by rw [dsts, List.getElem?_map]; simp [hj, hdj]
            have hil := (List.getElem?_eq_some_iff.1 hi1).1
            exact e ((List.getElem?_inj hil hdst).1 (hi1.trans hj1.symm))
        rw [hd, put_tmps, Array.getD_eq_getD_getElem?, Array.getElem?_setIfInBounds_ne hne, ← Array.getD_eq_getD_getElem?]
        exact hR _ _ _ _ (c.word j oj dj hj hl' hdj) hww

/-- A REGION WHOSE OPERATIONS EACH KEEP TO A WORD OF THEIR OWN, WHICH STAYS TRUE: whatever order is drawn. -/
theorem wp_region_words {id : Nat} (a0 : Act) (w0 : World) (hm : P.follows .mixedOrders = true) (R : Nat → Value → World → Prop) (E : World → World → Prop) (hE0 : E w0 { w0 with drawn := w0.drawn + 1 })
    (hE : ∀ w w' w'', E w w' → E w' w'' → E w w'') (hR : ∀ i v w w', R i v w → E w w' → R i v w')
    (hdst : (dsts ops).Nodup) (hsome : ∀ (i : Nat) (o : Oper), ops[i]? = some o → ∃ d, o.dst = some d ∧ d < a0.tmps.size) (hguard : ∀ (i : Nat) (o : Oper), ops[i]? = some o → o.guard = none)
    (hback : ∀ (i : Nat) (o : Oper), ops[i]? = some o → ∀ e ∈ o.after, Region.binds .any e = true → e.on < i)
    (hop : ∀ (i : Nat) (o : Oper), ops[i]? = some o → ∀ (a : Act) (w : World), E w0 w → (∀ t, some t ∉ dsts ops → a.tmps[t]? = a0.tmps[t]?) →
      (∀ e ∈ o.after, Region.binds .any e = true → ∀ (oj : Oper) (d : Tmp), ops[e.on]? = some oj → oj.dst = some d → R e.on (a.tmps.getD d undef) w) →
      o.wp P a w (fun a' w' => ∃ v, a' = a.put o.dst v ∧ R i v w' ∧ E w w') Q)
    (hend : ∀ (vs : List Value) (w : World), vs.length = ops.size → E w0 w → (∀ i v, vs[i]? = some v → R i v w) → Q .normal (putAll a0 (dsts ops) vs) w) :
    (Code.region id ops true).wp P Q a0 w0 := by
  refine wp_region_any hm ?_
  refine came_any a0 w0 hE hR hdst hsome hguard hop hend hback ops.size _ _ _ (by simp) ?_ ⟨hE0, rfl, rfl, fun _ _ => rfl, fun i o d _ hl _ => ?_⟩
  · rw [Array.toList_replicate, List.countP_replicate]
    simp
  · rw [Array.getD_eq_getD_getElem?, Array.getElem?_replicate] at hl
    split at hl <;> simp at hl

/-- What is asked of the region's text: each operation writes a temporary of the frame, none two, none is guarded, each waits for earlier ones alone. -/
def regionOk (ops : Array Oper) (n : Nat) : Bool :=
  decide (dsts ops).Nodup && ops.toList.all (fun o => (match o.dst with | some d => decide (d < n) | none => false) && o.guard.isNone) &&
  ops.toList.zipIdx.all (fun x => x.1.after.toList.all fun e => !Region.binds .any e || decide (e.on < x.2))

theorem regionOk_spec {n : Nat} (h : regionOk ops n = true) : (dsts ops).Nodup ∧ (∀ (i : Nat) (o : Oper), ops[i]? = some o → ∃ d, o.dst = some d ∧ d < n) ∧ (∀ (i : Nat) (o : Oper), ops[i]? = some o → o.guard = none) ∧
    (∀ (i : Nat) (o : Oper), ops[i]? = some o → ∀ e ∈ o.after, Region.binds .any e = true → e.on < i) := by
  unfold regionOk at h
  rw [Bool.and_eq_true, Bool.and_eq_true] at h
  obtain ⟨⟨h1, h2⟩, h3⟩ := h
  have hm : ∀ (i : Nat) (o : Oper), ops[i]? = some o → o ∈ ops.toList := fun i o hi => by simpa using Array.mem_of_getElem? hi
  refine ⟨of_decide_eq_true h1, fun i o hi => ?_, fun i o hi => ?_, fun i o hi e he hb => ?_⟩
  · have := List.all_eq_true.1 h2 o (hm i o hi)
    rw [Bool.and_eq_true] at this
    cases hd : o.dst with
    | none => rw [hd] at this; cases this.1
    | some d => rw [hd] at this; exact ⟨d, rfl, of_decide_eq_true this.1⟩
  · have := List.all_eq_true.1 h2 o (hm i o hi)
    rw [Bool.and_eq_true] at this
    simpa using this.2
  · have hz : (o, i) ∈ ops.toList.zipIdx := by
      rw [List.mem_zipIdx_iff_getElem?]
      simpa using hi
    have := List.all_eq_true.1 (List.all_eq_true.1 h3 _ hz) e (by simpa using he)
    simpa [hb] using this

/-- The same, its text's four conditions asked at once. -/
theorem wp_region_kept {id : Nat} (a0 : Act) (w0 : World) (n : Nat) (hm : P.follows .mixedOrders = true) (hsz : a0.tmps.size = n) (hok : regionOk ops n = true) (R : Nat → Value → World → Prop) (E : World → World → Prop) (hE0 : E w0 { w0 with drawn := w0.drawn + 1 })
    (hE : ∀ w w' w'', E w w' → E w' w'' → E w w'') (hR : ∀ i v w w', R i v w → E w w' → R i v w')
    (hop : ∀ (i : Nat) (o : Oper), ops[i]? = some o → ∀ (a : Act) (w : World), E w0 w → (∀ t, some t ∉ dsts ops → a.tmps[t]? = a0.tmps[t]?) →
      (∀ e ∈ o.after, Region.binds .any e = true → ∀ (oj : Oper) (d : Tmp), ops[e.on]? = some oj → oj.dst = some d → R e.on (a.tmps.getD d undef) w) →
      o.wp P a w (fun a' w' => ∃ v, a' = a.put o.dst v ∧ R i v w' ∧ E w w') Q)
    (hend : ∀ (vs : List Value) (w : World), vs.length = ops.size → E w0 w → (∀ i v, vs[i]? = some v → R i v w) → Q .normal (putAll a0 (dsts ops) vs) w) :
    (Code.region id ops true).wp P Q a0 w0 := by
  obtain ⟨h1, h2, h3, h4⟩ := regionOk_spec hok
  subst hsz
  exact wp_region_words a0 w0 hm R E hE0 hE hR h1 h2 h3 h4 hop hend
end
end Go.Proofs.YtinfkoinpnnnnaaDoor
