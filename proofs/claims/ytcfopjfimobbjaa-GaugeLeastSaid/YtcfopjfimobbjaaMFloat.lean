/- Floats of 64 bits by their rungs: plain facts about Ieee's words. No program in sight. -/
import Ieee.Arith
namespace Go.Proofs.Ytcfopjfimobbjaa.FL
set_option linter.unusedVariables false
set_option linter.unusedSimpArgs false
open Ieee
def B : Nat := 4503599627370496
def INF : Nat := 9218868437227405312
def SW : Nat := 9223372036854775808
/-- The number of a rung, in the least unit. -/
def V (r : Nat) : Nat := if r < B then r else (B + r % B) * 2 ^ (r / B - 1)
theorem B_pos : 0 < B := by decide
theorem V_block (k t : Nat) (h : (k = 0 ∧ t ≤ 2 * B) ∨ (B ≤ t ∧ t ≤ 2 * B)) : V (k * B + t) = t * 2 ^ k := by
  have hB := B_pos
  unfold V
  by_cases h0 : k * B + t < B
  · rw [if_pos h0]
    have hk : k = 0 := by
      rcases Nat.eq_zero_or_pos k with h1 | h1
      · exact h1
      · have := Nat.mul_le_mul_right B h1
        omega
    subst hk
    simp
  · rw [if_neg h0]
    rcases Nat.lt_or_ge t (2 * B) with h2 | h2
    · have ht : B ≤ t := by
        rcases h with ⟨hk, _⟩ | ⟨hb, _⟩
        · subst hk; omega
        · exact hb
      obtain ⟨q, rfl⟩ : ∃ q, t = B + q := ⟨t - B, by omega⟩
      have hq : q < B := by omega
      have e1 : k * B + (B + q) = q + B * (k + 1) := by rw [Nat.mul_add, Nat.mul_comm B k]; omega
      rw [e1, Nat.add_mul_mod_self_left, Nat.add_mul_div_left _ _ hB, Nat.mod_eq_of_lt hq, Nat.div_eq_of_lt hq, Nat.zero_add, Nat.add_sub_cancel]
    · have ht : t = 2 * B := by omega
      subst ht
      have e1 : k * B + 2 * B = 0 + B * (k + 2) := by rw [Nat.mul_add, Nat.mul_comm B k]; omega
      rw [e1, Nat.add_mul_mod_self_left, Nat.add_mul_div_left _ _ hB, Nat.zero_mod, Nat.zero_div, Nat.zero_add, Nat.add_zero, show k + 2 - 1 = k + 1 by omega, Nat.pow_succ, Nat.mul_comm (2 ^ k) 2, ← Nat.mul_assoc, Nat.mul_comm B 2]
/-- Where a rung stands. -/
theorem block (r : Nat) : ∃ k t, r = k * B + t ∧ ((k = 0 ∧ t < 2 * B) ∨ (B ≤ t ∧ t < 2 * B)) := by
  have hB := B_pos
  rcases Nat.lt_or_ge r B with h | h
  · exact ⟨0, r, by simp, .inl ⟨rfl, by omega⟩⟩
  · have hm := Nat.mod_lt r hB
    have hd := Nat.div_add_mod r B
    have h1 : 1 ≤ r / B := (Nat.one_le_div_iff hB).2 h
    obtain ⟨k, hk⟩ : ∃ k, r / B = k + 1 := ⟨r / B - 1, by omega⟩
    rw [hk, Nat.mul_add, Nat.mul_comm B k] at hd
    exact ⟨k, B + r % B, by omega, .inr ⟨by omega, by omega⟩⟩
theorem V_succ (k t : Nat) (h : (k = 0 ∧ t < 2 * B) ∨ (B ≤ t ∧ t < 2 * B)) : V (k * B + t) = t * 2 ^ k ∧ V (k * B + t + 1) = (t + 1) * 2 ^ k := by
  refine ⟨V_block k t (by omega), ?_⟩
  have := V_block k (t + 1) (by omega)
  rw [← Nat.add_assoc] at this
  exact this
theorem V_lt_succ (r : Nat) : V r < V (r + 1) := by
  obtain ⟨k, t, rfl, h⟩ := block r
  obtain ⟨h1, h2⟩ := V_succ k t h
  rw [h1, h2, Nat.add_mul, Nat.one_mul]
  have := Nat.two_pow_pos k
  omega
theorem V_lt {r s : Nat} (h : r < s) : V r < V s := by
  induction s with
  | zero => omega
  | succ s ih =>
    rcases Nat.lt_or_ge r s with h1 | h1
    · exact Nat.lt_trans (ih h1) (V_lt_succ s)
    · have : r = s := by omega
      subst this
      exact V_lt_succ r
theorem V_le {r s : Nat} (h : r ≤ s) : V r ≤ V s := by
  rcases Nat.lt_or_ge r s with h1 | h1
  · exact Nat.le_of_lt (V_lt h1)
  · have : r = s := by omega
    subst this
    exact Nat.le_refl _
theorem V_lt_iff {r s : Nat} : V r < V s ↔ r < s := ⟨fun h => by
  rcases Nat.lt_or_ge r s with h1 | h1
  · exact h1
  · have := V_le h1; omega, V_lt⟩
theorem V_inj {r s : Nat} (h : V r = V s) : r = s := by
  rcases Nat.lt_trichotomy r s with h1 | h1 | h1
  · have := V_lt h1; omega
  · exact h1
  · have := V_lt h1; omega
theorem V_zero : V 0 = 0 := rfl

/-- To the nearest, the even one between two. -/
theorem cut_le (neg : Bool) (n d s : Nat) (hs : 1 ≤ s) : s ≤ Toward.even.cut neg n d ↔ (2 * s - 1) * 2 ^ d < 2 * n ∨ ((2 * s - 1) * 2 ^ d = 2 * n ∧ s % 2 = 0) := by
  have core : ∀ g : Nat, 0 < g → (s ≤ n / g + (decide (g < 2 * (n % g)) || (g == 2 * (n % g) && n / g % 2 == 1)).toNat ↔ (2 * s - 1) * g < 2 * n ∨ ((2 * s - 1) * g = 2 * n ∧ s % 2 = 0)) := by
    intro g hg
    have hd := Nat.div_add_mod n g
    have hm := Nat.mod_lt n hg
    generalize n / g = low at *
    generalize n % g = rest at *
    have h2n : 2 * n = 2 * (g * low) + 2 * rest := by omega
    rcases Nat.lt_trichotomy s (low + 1) with h | h | h
    · have h1 : s * g ≤ low * g := Nat.mul_le_mul_right g (by omega)
      have h2 : (2 * s - 1) * g < 2 * n := by
        rw [Nat.sub_mul, Nat.one_mul, Nat.mul_assoc, h2n, Nat.mul_comm g low]
        have : 0 < s * g := Nat.mul_pos hs hg
        omega
      constructor
      · intro _; exact .inl h2
      · intro _; omega
    · subst h
      have e : (2 * (low + 1) - 1) * g = 2 * (g * low) + g := by
        rw [show 2 * (low + 1) - 1 = 2 * low + 1 by omega, Nat.add_mul, Nat.one_mul, Nat.mul_assoc, Nat.mul_comm low g]
      rw [e, h2n]
      by_cases h1 : g < 2 * rest
      · simp [h1]
      · by_cases h3 : g = 2 * rest
        · have e1 : decide (g < 2 * rest) = false := decide_eq_false h1
          have e2 : (g == 2 * rest) = true := by simpa using h3
          rw [e1, e2, Bool.false_or, Bool.true_and]
          by_cases h4 : low % 2 = 1
          · have e3 : (low % 2 == 1) = true := by simpa using h4
            rw [e3]
            have h5 : (low + 1) % 2 = 0 := by omega
            simp [h5, ← h3]
          · have e3 : (low % 2 == 1) = false := by simpa using h4
            rw [e3]
            have h5 : ¬ (low + 1) % 2 = 0 := by omega
            simp [h5, ← h3]
        · have e1 : decide (g < 2 * rest) = false := decide_eq_false h1
          have e2 : (g == 2 * rest) = false := by simpa using h3
          rw [e1, e2, Bool.false_or, Bool.false_and]
          simp only [Bool.toNat_false]
          constructor
          · omega
          · omega
    · have h1 : (low + 2) * g ≤ s * g := Nat.mul_le_mul_right g (by omega)
      have h2 : 2 * n < (2 * s - 1) * g := by
        rw [Nat.sub_mul, Nat.one_mul, Nat.mul_assoc, h2n]
        rw [Nat.add_mul, Nat.mul_comm low g] at h1
        omega
      have h3 : (decide (g < 2 * rest) || (g == 2 * rest && low % 2 == 1)).toNat ≤ 1 := by
        cases (decide (g < 2 * rest) || (g == 2 * rest && low % 2 == 1)) <;> simp
      constructor
      · intro h4; omega
      · rintro (h4 | h4) <;> omega
  have hcut : ∀ g, g = 1 <<< min d (n.log2 + 2) → Toward.even.cut neg n d = n / g + (decide (g < 2 * (n % g)) || (g == 2 * (n % g) && n / g % 2 == 1)).toNat := by
    rintro g rfl
    rfl
  rw [hcut _ rfl, Nat.shiftLeft_eq, Nat.one_mul]
  rcases Nat.le_or_ge d (n.log2 + 2) with h | h
  · rw [Nat.min_eq_left h]
    exact core _ (Nat.two_pow_pos d)
  · rw [Nat.min_eq_right h]
    rw [core _ (Nat.two_pow_pos _)]
    have hn : 2 * n < 2 ^ (n.log2 + 2) := by
      have := Nat.lt_log2_self (n := n)
      rw [Nat.pow_succ]
      omega
    have hle : 2 ^ (n.log2 + 2) ≤ 2 ^ d := Nat.pow_le_pow_right (by decide) h
    have a1 : 2 ^ (n.log2 + 2) ≤ (2 * s - 1) * 2 ^ (n.log2 + 2) := Nat.le_mul_of_pos_left _ (by omega)
    have a2 : 2 ^ d ≤ (2 * s - 1) * 2 ^ d := Nat.le_mul_of_pos_left _ (by omega)
    constructor
    · rintro (h4 | h4) <;> omega
    · rintro (h4 | h4) <;> omega
theorem least : double.leastPlace = -1074 := by decide
theorem binade : double.binade = B := by decide
theorem infRung : double.infRung = INF := by decide
theorem signWeight : double.signWeight = SW := by decide
/-- The rung that is nearest. -/
def rung (mag : Nat) (place : Int) : Nat :=
  if mag = 0 then 0 else
  min ((max (place + mag.log2 - 52) (-1074) + 1074).toNat * B + Toward.even.cut false (mag <<< (place - max (place + mag.log2 - 52) (-1074)).toNat) (max (place + mag.log2 - 52) (-1074) - place).toNat) INF
theorem nearest_eq (neg : Bool) (mag : Nat) (place : Int) : double.nearest neg mag place = double.word neg (rung mag place) := by
  unfold Format.nearest rung
  by_cases h : mag = 0
  · rw [if_pos h, if_pos h]
  · rw [if_neg h, if_neg h]
    simp only [least, binade, infRung]
    rfl
theorem word_pos (r : Nat) : double.word false r = r := rfl
theorem word_neg (r : Nat) : double.word true r = SW + r := by
  show double.signWeight + r = _
  rw [signWeight]
/-- Where a number lies: at or above the middle below the rung. -/
def Mid (r mag : Nat) (up down : Nat) : Prop := (V (r - 1) + V r) * 2 ^ down < 2 * mag * 2 ^ up ∨ ((V (r - 1) + V r) * 2 ^ down = 2 * mag * 2 ^ up ∧ r % 2 = 0)
theorem pow_cancel (a b x y c : Nat) (h : x + c = y + c) : a * 2 ^ x < b * 2 ^ y ↔ a * 2 ^ x < b * 2 ^ y := Iff.rfl
theorem lt_scale (a b c : Nat) : a * 2 ^ c < b * 2 ^ c ↔ a < b := Nat.mul_lt_mul_right (Nat.two_pow_pos c)
theorem eq_scale (a b c : Nat) : a * 2 ^ c = b * 2 ^ c ↔ a = b := Nat.mul_right_cancel_iff (Nat.two_pow_pos c)
theorem le_scale (a b c : Nat) : a * 2 ^ c ≤ b * 2 ^ c ↔ a ≤ b := Nat.mul_le_mul_right_iff (Nat.two_pow_pos c)
theorem idx (place : Int) (L up down : Nat) (hp : place + 1074 = (up : Int) - down) : ∃ k sh d : Nat, max (place + L - 52) (-1074) = (k : Int) - 1074 ∧ (place - ((k : Int) - 1074)).toNat = sh ∧ ((k : Int) - 1074 - place).toNat = d ∧ ((k : Int) - 1074 + 1074).toNat = k ∧ sh + k + down = up + d ∧ (k = 0 ∨ sh + L = 52 + d) ∧ sh + L ≤ 52 + d := by
  refine ⟨(max (place + L - 52) (-1074) + 1074).toNat, _, _, by omega, rfl, rfl, by omega, by omega, by omega, by omega⟩
theorem sized (mag L sh d k : Nat) (hl1 : 2 ^ L ≤ mag) (hl2 : mag < 2 ^ (L + 1)) (hcase : k = 0 ∨ sh + L = 52 + d) (hup : sh + L ≤ 52 + d) : mag * 2 ^ sh < 2 * B * 2 ^ d ∧ (k = 0 ∨ B * 2 ^ d ≤ mag * 2 ^ sh) := by
  constructor
  · have e : 2 * B * 2 ^ d = 2 ^ (53 + d) := by rw [Nat.pow_add]; rfl
    rw [e]
    have : mag * 2 ^ sh < 2 ^ (L + 1) * 2 ^ sh := (lt_scale _ _ _).2 hl2
    rw [← Nat.pow_add] at this
    exact Nat.lt_of_lt_of_le this (Nat.pow_le_pow_right (by decide) (by clear this e hl1 hl2; omega))
  · rcases hcase with h | h
    · exact .inl h
    · right
      have e : B * 2 ^ d = 2 ^ (52 + d) := by rw [Nat.pow_add]; rfl
      rw [e, ← h, Nat.add_comm sh, Nat.pow_add]
      exact (le_scale _ _ _).2 hl1
theorem scales (mag sh d k up down : Nat) (hexp : sh + k + down = up + d) (c : Nat) : (c * 2 ^ k * 2 ^ down < 2 * mag * 2 ^ up ↔ c * 2 ^ d < 2 * (mag * 2 ^ sh)) ∧ (c * 2 ^ k * 2 ^ down = 2 * mag * 2 ^ up ↔ c * 2 ^ d = 2 * (mag * 2 ^ sh)) := by
  have e1 : c * 2 ^ k * 2 ^ down * 2 ^ d = c * 2 ^ d * 2 ^ (k + down) := by
    rw [Nat.pow_add]
    simp only [Nat.mul_assoc, Nat.mul_comm, Nat.mul_left_comm]
  have e2 : 2 * mag * 2 ^ up * 2 ^ d = 2 * (mag * 2 ^ sh) * 2 ^ (k + down) := by
    rw [Nat.mul_assoc (2 * mag), ← Nat.pow_add, ← hexp, Nat.add_assoc, Nat.pow_add, ← Nat.mul_assoc, Nat.mul_assoc 2]
  rw [← lt_scale (c * 2 ^ k * 2 ^ down) _ d, ← eq_scale (c * 2 ^ k * 2 ^ down) _ d, e1, e2, lt_scale, eq_scale]
  exact ⟨Iff.rfl, Iff.rfl⟩
/-- The same with the powers put away. -/
theorem le_core (k kept r g x kk dn T : Nat) (hg : 0 < g) (hdn : 0 < dn) (hkk : 0 < kk) (h1 : 1 ≤ r)
    (hv : ∀ t, ((k = 0 ∧ t ≤ 2 * B) ∨ (B ≤ t ∧ t ≤ 2 * B)) → V (k * B + t) = t * kk)
    (scale : ∀ c : Nat, (c * kk * dn < T ↔ c * g < 2 * x) ∧ (c * kk * dn = T ↔ c * g = 2 * x))
    (hhi : x < 2 * B * g) (hlo : k = 0 ∨ B * g ≤ x)
    (cut : ∀ s, 1 ≤ s → (s ≤ kept ↔ (2 * s - 1) * g < 2 * x ∨ ((2 * s - 1) * g = 2 * x ∧ s % 2 = 0))) :
    r ≤ k * B + kept ↔ (V (r - 1) + V r) * dn < T ∨ ((V (r - 1) + V r) * dn = T ∧ r % 2 = 0) := by
  have hB := B_pos
  have hkept_hi : kept ≤ 2 * B := by
    rcases Nat.lt_or_ge (2 * B) kept with h | h
    · exfalso
      have this : 2 * (2 * B) * g ≤ (2 * (2 * B + 1) - 1) * g := Nat.mul_le_mul_right _ (by omega)
      rw [Nat.mul_assoc 2 (2 * B)] at this
      rcases (cut (2 * B + 1) (by omega)).1 h with h3 | h3
      · omega
      · omega
    · exact h
  have hkept_lo : k = 0 ∨ B ≤ kept := by
    rcases hlo with h | h
    · exact .inl h
    · right
      refine (cut B hB).2 (.inl ?_)
      have : (2 * B - 1) * g < 2 * B * g := Nat.mul_lt_mul_of_pos_right (by omega) hg
      rw [Nat.mul_assoc 2 B] at this
      omega
  rcases Nat.lt_or_ge (k * B + 2 * B) r with hr | hr
  · have hv0 : V (k * B + 2 * B) = 2 * B * kk := hv (2 * B) (by omega)
    have hv1 : 2 * B * kk ≤ V (r - 1) := by rw [← hv0]; exact V_le (by omega)
    have hv2 : V (r - 1) < V r := V_lt (by omega)
    have h3 : ¬ (2 * (2 * B) * kk * dn < T) := by
      rw [(scale _).1, Nat.mul_assoc 2 (2 * B)]
      omega
    have h4 : 2 * (2 * B) * kk * dn < (V (r - 1) + V r) * dn := by
      refine Nat.mul_lt_mul_of_pos_right ?_ hdn
      rw [Nat.mul_assoc 2 (2 * B)]
      omega
    have hbig : T < (V (r - 1) + V r) * dn := by omega
    constructor
    · intro h; omega
    · rintro (h | h) <;> omega
  · have under : ∀ t, t ≤ k * B + B → k ≠ 0 → 1 ≤ t → (V (t - 1) + V t) * dn < T := by
      intro t ht hk0 h1t
      have hlo2 : B * g ≤ x := by
        rcases hlo with h | h
        · exact absurd h hk0
        · exact h
      have v1 : V t ≤ B * kk := by
        rw [← hv B (by omega)]
        exact V_le ht
      have v0 : V (t - 1) < V t := V_lt (by omega)
      have h3 : ¬ (T < 2 * B * kk * dn) := by
        have a := (scale (2 * B)).1
        have b := (scale (2 * B)).2
        rw [Nat.mul_assoc 2 B g] at a b
        omega
      have h4 : (V (t - 1) + V t) * dn < 2 * B * kk * dn := by
        refine Nat.mul_lt_mul_of_pos_right ?_ hdn
        rw [Nat.mul_assoc 2 B]
        omega
      omega
    rcases Nat.lt_or_ge (k * B) r with hr0 | hr0
    · obtain ⟨s, rfl⟩ : ∃ s, r = k * B + s := ⟨r - k * B, by omega⟩
      have hs1 : 1 ≤ s := by omega
      by_cases hin : k = 0 ∨ B < s
      · have v1 : V (k * B + s) = s * kk := hv s (by omega)
        have v0 : V (k * B + s - 1) = (s - 1) * kk := by
          rw [show k * B + s - 1 = k * B + (s - 1) by omega]
          exact hv (s - 1) (by omega)
        have e : V (k * B + s - 1) + V (k * B + s) = (2 * s - 1) * kk := by
          rw [v0, v1, ← Nat.add_mul]
          congr 1
          omega
        rw [e, (scale _).1, (scale _).2]
        have par : (k * B + s) % 2 = s % 2 := by
          have : k * B = 2 * (k * 2251799813685248) := by unfold B; omega
          omega
        rw [par, ← cut s hs1]
        omega
      · have hk0 : k ≠ 0 := fun h => hin (.inl h)
        have hb := under (k * B + s) (by omega) hk0 h1
        have : B ≤ kept := by omega
        exact ⟨fun _ => .inl hb, fun _ => by omega⟩
    · have hk0 : k ≠ 0 := by
        rintro rfl
        omega
      have hb := under r (by omega) hk0 h1
      exact ⟨fun _ => .inl hb, fun _ => by omega⟩
theorem le_rung (mag : Nat) (place : Int) (up down : Nat) (hp : place + 1074 = (up : Int) - down) (r : Nat) (h1 : 1 ≤ r) (h2 : r ≤ INF) : r ≤ rung mag place ↔ Mid r mag up down := by
  unfold rung
  by_cases h0 : mag = 0
  · rw [if_pos h0]
    subst h0
    have hv : 0 < V r := by have := V_lt (r := 0) (s := r) (by omega); rw [V_zero] at this; exact this
    have : 0 < (V (r - 1) + V r) * 2 ^ down := Nat.mul_pos (by omega) (Nat.two_pow_pos _)
    unfold Mid
    rw [Nat.mul_zero, Nat.zero_mul]
    generalize (V (r - 1) + V r) * 2 ^ down = q at this ⊢
    omega
  · rw [if_neg h0]
    obtain ⟨k, sh, d, e1, e2, e3, e4, hexp, hcase, hup⟩ := idx place mag.log2 up down hp
    rw [e1, e2, e3, e4, Nat.shiftLeft_eq]
    obtain ⟨hhi, hlo⟩ := sized mag mag.log2 sh d k (Nat.log2_self_le h0) Nat.lt_log2_self hcase hup
    have hmin : ∀ z, r ≤ min z INF ↔ r ≤ z := fun z => by omega
    rw [hmin]
    exact le_core k _ r (2 ^ d) (mag * 2 ^ sh) (2 ^ k) (2 ^ down) (2 * mag * 2 ^ up) (Nat.two_pow_pos _) (Nat.two_pow_pos _) (Nat.two_pow_pos _) h1 (V_block k) (scales mag sh d k up down hexp) hhi hlo (fun s hs => cut_le false _ d s hs)
end Go.Proofs.Ytcfopjfimobbjaa.FL
