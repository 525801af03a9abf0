/-
  Plain numbers of layer 4: the row, squashing and stretching, and what follows of them. No program in sight.
-/
namespace Go.Proofs.YtinfkoinpnnnnaaDoor
namespace Sq

def rowL : List Int := [1, 2, 3, 6, 10, 16, 27, 45, 73, 120, 194, 310, 488, 747, 1101, 1546, 2047, 2549, 2994, 3348, 3607, 3785, 3901, 3975, 4022, 4050, 4068, 4079, 4085, 4089, 4092, 4093, 4094]

/-- Squashing between the ends, at the place k = d + 2048 (1 to 4095). -/
def mid (k : Nat) : Int := (rowL.getD (k / 128) 0 * 128 + (rowL.getD (k / 128 + 1) 0 - rowL.getD (k / 128) 0) * ((k % 128 : Nat) : Int) + 64) / 128

/-- A number, squashed. -/
def sq (d : Int) : Int := if 2047 < d then 4095 else if d < -2047 then 0 else mid (d + 2048).toNat

/-- Each number below 4096 is tried, 64 at a time. -/
theorem by_64 {p : Nat → Prop} (h : ∀ a < 64, ∀ b < 64, p (64 * a + b)) (k : Nat) (hk : k < 4096) : p k := by
  have := h (k / 64) (by omega) (k % 64) (by omega)
  rwa [Nat.div_add_mod] at this
theorem mid_steps : ∀ k < 4096, 0 < k → k < 4095 → mid k ≤ mid (k + 1) ∧ mid (k + 1) ≤ mid k + 4 := by_64 (by decide +kernel)
theorem mid_ends : ∀ k < 4096, 0 < k → 1 ≤ mid k ∧ mid k ≤ 4094 := by_64 (by decide +kernel)
theorem mid_turn : ∀ k < 4096, 0 < k → 4094 ≤ mid k + mid (4096 - k) ∧ mid k + mid (4096 - k) ≤ 4096 := by_64 (by decide +kernel)

theorem sq_hi {d : Int} (h : 2047 < d) : sq d = 4095 := by unfold sq; rw [if_pos h]
theorem sq_lo {d : Int} (h : d < -2047) : sq d = 0 := by unfold sq; rw [if_neg (by omega), if_pos h]
theorem sq_mid {d : Int} (h1 : -2047 ≤ d) (h2 : d ≤ 2047) : sq d = mid (d + 2048).toNat := by unfold sq; rw [if_neg (by omega), if_neg (by omega)]

theorem sq_range {d : Int} (h1 : -2047 ≤ d) (h2 : d ≤ 2047) : 1 ≤ sq d ∧ sq d ≤ 4094 := by
  rw [sq_mid h1 h2]; exact mid_ends _ (by omega) (by omega)
theorem sq_bd (d : Int) : 0 ≤ sq d ∧ sq d ≤ 4095 := by
  by_cases h : 2047 < d
  · rw [sq_hi h]; omega
  · by_cases h' : d < -2047
    · rw [sq_lo h']; omega
    · have := sq_range (d := d) (by omega) (by omega); omega

theorem sq_next {d : Int} (h1 : -2047 ≤ d) (h2 : d ≤ 2046) : sq d ≤ sq (d + 1) ∧ sq (d + 1) ≤ sq d + 4 := by
  rw [sq_mid h1 (by omega), sq_mid (by omega) (by omega)]
  have e : (d + 1 + 2048).toNat = (d + 2048).toNat + 1 := by omega
  rw [e]
  exact mid_steps _ (by omega) (by omega) (by omega)

theorem sq_mono_mid (n : Nat) : ∀ d : Int, -2047 ≤ d → d + n ≤ 2047 → sq d ≤ sq (d + n) := by
  induction n with
  | zero => intro d _ _; simp
  | succ n ih =>
    intro d h1 h2
    have a := ih d h1 (by omega)
    have b := (sq_next (d := d + n) (by omega) (by omega)).1
    have e : d + ((n + 1 : Nat) : Int) = d + n + 1 := by omega
    rw [e]; omega

theorem sq_mono {a b : Int} (h : a ≤ b) : sq a ≤ sq b := by
  by_cases ha : a < -2047
  · rw [sq_lo ha]; exact (sq_bd b).1
  · by_cases hb : 2047 < b
    · rw [sq_hi hb]; exact (sq_bd a).2
    · have := sq_mono_mid (b - a).toNat a (by omega) (by omega)
      have e : a + ((b - a).toNat : Int) = b := by omega
      rwa [e] at this

theorem sq_turn (d : Int) : 4094 ≤ sq d + sq (-d) ∧ sq d + sq (-d) ≤ 4096 := by
  by_cases h1 : 2047 < d
  · rw [sq_hi h1, sq_lo (by omega)]; omega
  · by_cases h2 : d < -2047
    · rw [sq_lo h2, sq_hi (by omega)]; omega
    · rw [sq_mid (by omega) (by omega), sq_mid (by omega) (by omega)]
      have e : (-d + 2048).toNat = 4096 - (d + 2048).toNat := by omega
      rw [e]
      exact mid_turn _ (by omega) (by omega)

/-- The other spelling of what stands between two places. -/
theorem mid_other (k : Nat) : (rowL.getD (k / 128) 0 * (128 - ((k % 128 : Nat) : Int)) + rowL.getD (k / 128 + 1) 0 * ((k % 128 : Nat) : Int) + 64) / 128 = mid k := by
  unfold mid
  rw [Int.mul_sub, Int.sub_mul]
  congr 1
  omega

/-- A number is stretched: how many numbers from -2047 on are squashed to less. -/
def IsSt (p : Int) (n : Nat) : Prop := n ≤ 4094 ∧ (∀ t : Nat, t < n → sq ((t : Int) - 2047) < p) ∧ (∀ t : Nat, n ≤ t → t < 4094 → p ≤ sq ((t : Int) - 2047))

theorem IsSt.unique {p : Int} {a b : Nat} (ha : IsSt p a) (hb : IsSt p b) : a = b := by
  obtain ⟨a0, a1, a2⟩ := ha
  obtain ⟨b0, b1, b2⟩ := hb
  rcases Nat.lt_trichotomy a b with h | h | h
  · have := b1 a h; have := a2 a (Nat.le_refl _) (by omega); omega
  · exact h
  · have := a1 b h; have := b2 b (Nat.le_refl _) (by omega); omega

theorem isSt_exists (p : Int) : ∃ n, IsSt p n := by
  have all : ∀ m : Nat, m ≤ 4094 → (∃ n, IsSt p n) ∨ (∀ t : Nat, t < m → sq ((t : Int) - 2047) < p) := by
    intro m
    induction m with
    | zero => intro _; exact .inr (fun t h => by omega)
    | succ m ih =>
      intro hm
      rcases ih (by omega) with h | h
      · exact .inl h
      · by_cases hp : sq ((m : Int) - 2047) < p
        · exact .inr (fun t ht => by
            by_cases e : t = m
            · subst e; exact hp
            · exact h t (by omega))
        · refine .inl ⟨m, by omega, h, fun t h1 _ => ?_⟩
          have := sq_mono (a := (m : Int) - 2047) (b := (t : Int) - 2047) (by omega)
          omega
  rcases all 4094 (Nat.le_refl _) with h | h
  · exact h
  · exact ⟨4094, Nat.le_refl _, h, fun t h1 h2 => by omega⟩

/-- A number, stretched. -/
noncomputable def st (p : Int) : Int := ((Classical.choose (isSt_exists p) : Nat) : Int) - 2047
theorem st_spec (p : Int) : ∃ n : Nat, st p = (n : Int) - 2047 ∧ IsSt p n := ⟨_, rfl, Classical.choose_spec (isSt_exists p)⟩
theorem st_eq {p : Int} {n : Nat} (h : IsSt p n) : st p = (n : Int) - 2047 := by
  obtain ⟨m, e, hm⟩ := st_spec p
  rw [e, IsSt.unique hm h]
theorem st_bd (p : Int) : -2047 ≤ st p ∧ st p ≤ 2047 := by
  obtain ⟨m, e, hm, _⟩ := st_spec p
  omega
/-- The least number that is, squashed, at least p. -/
theorem st_at {p d : Int} (h1 : -2047 ≤ d) (h2 : d ≤ 2047) (hlo : d = -2047 ∨ sq (d - 1) < p) (hhi : d = 2047 ∨ p ≤ sq d) : st p = d := by
  have : IsSt p (d + 2047).toNat := by
    refine ⟨by omega, fun t ht => ?_, fun t h3 h4 => ?_⟩
    · rcases hlo with h | h
      · omega
      · have := sq_mono (a := (t : Int) - 2047) (b := d - 1) (by omega); omega
    · rcases hhi with h | h
      · omega
      · have := sq_mono (a := d) (b := (t : Int) - 2047) (by omega); omega
  rw [st_eq this]; omega

theorem sq_2047 : sq 2047 = 4094 := by decide +kernel

theorem st_iff {p d : Int} (h1 : -2047 ≤ d) (h2 : d ≤ 2047) (hp : p ≤ 4094) : p ≤ sq d ↔ st p ≤ d := by
  obtain ⟨n, e, hn, hlo, hhi⟩ := st_spec p
  rw [e]
  constructor
  · intro h
    apply Int.not_lt.1
    intro hd
    have := hlo (d + 2047).toNat (by omega)
    have e2 : (((d + 2047).toNat : Nat) : Int) - 2047 = d := by omega
    rw [e2] at this; omega
  · intro h
    by_cases hd : d = 2047
    · subst hd; rw [sq_2047]; exact hp
    · have := hhi (d + 2047).toNat (by omega) (by omega)
      have e2 : (((d + 2047).toNat : Nat) : Int) - 2047 = d := by omega
      rwa [e2] at this

theorem sq_st {p : Int} (hp : p ≤ 4094) : p ≤ sq (st p) := (st_iff (st_bd p).1 (st_bd p).2 hp).2 (Int.le_refl _)
theorem st_sq {d : Int} (h1 : -2047 ≤ d) (h2 : d ≤ 2047) : st (sq d) ≤ d := (st_iff h1 h2 (sq_range h1 h2).2).1 (Int.le_refl _)
theorem st_mono {p q : Int} (h : p ≤ q) : st p ≤ st q := by
  obtain ⟨n, e, hn, hlo, hhi⟩ := st_spec p
  obtain ⟨m, f, hm, glo, ghi⟩ := st_spec q
  rw [e, f]
  suffices n ≤ m by omega
  apply Nat.le_of_not_lt
  intro hd
  have := hlo m hd
  have := ghi m (Nat.le_refl _) (by omega)
  omega

theorem sq_place : ∀ i < 32, 0 < i → sq (128 * ((i : Nat) : Int) - 2048) = rowL.getD i 0 := by decide +kernel
theorem sq_between : ∀ i < 32, 0 < i → ∀ w < 128, rowL.getD i 0 ≤ sq (128 * ((i : Nat) : Int) - 2048 + ((w : Nat) : Int)) ∧ sq (128 * ((i : Nat) : Int) - 2048 + ((w : Nat) : Int)) ≤ rowL.getD (i + 1) 0 := by decide +kernel

theorem sq_closed : sq 0 = 2047 ∧ sq 128 = 2549 ∧ sq 64 = 2298 ∧ sq (-2047) = 1 ∧ sq 2047 = 4094 ∧ sq 2048 = 4095 ∧ sq 2147483647 = 4095 ∧ sq (-2147483648) = 0 ∧ sq (-2048) = 0 ∧ sq (-1) = 2043 ∧ sq 1 = 2051 ∧ sq (-128) = 1546 ∧ sq 1920 = 4093 ∧ sq (-1920) = 2 := by decide +kernel
theorem st_2047 : st 2047 = 0 := st_at (by omega) (by omega) (.inr (by decide +kernel)) (.inr (by decide +kernel))
theorem st_0 : st 0 = -2047 := st_at (by omega) (by omega) (.inl rfl) (.inr (by decide +kernel))
theorem st_1 : st 1 = -2047 := st_at (by omega) (by omega) (.inl rfl) (.inr (by decide +kernel))
theorem st_4095 : st 4095 = 2047 := st_at (by omega) (by omega) (.inr (by decide +kernel)) (.inl rfl)
theorem st_max : st 2147483647 = 2047 := st_at (by omega) (by omega) (.inr (by decide +kernel)) (.inl rfl)
theorem st_min : st (-2147483648) = -2047 := st_at (by omega) (by omega) (.inl rfl) (.inr (by decide +kernel))
theorem st_2048 : st 2048 = 1 := st_at (by omega) (by omega) (.inr (by decide +kernel)) (.inr (by decide +kernel))
theorem st_2046 : st 2046 = 0 := st_at (by omega) (by omega) (.inr (by decide +kernel)) (.inr (by decide +kernel))
theorem st_2549 : st 2549 = 128 := st_at (by omega) (by omega) (.inr (by decide +kernel)) (.inr (by decide +kernel))
theorem st_4094 : st 4094 = 1984 := st_at (by omega) (by omega) (.inr (by decide +kernel)) (.inr (by decide +kernel))
theorem st_2 : st 2 = -1984 := st_at (by omega) (by omega) (.inr (by decide +kernel)) (.inr (by decide +kernel))

end Sq
end Go.Proofs.YtinfkoinpnnnnaaDoor
