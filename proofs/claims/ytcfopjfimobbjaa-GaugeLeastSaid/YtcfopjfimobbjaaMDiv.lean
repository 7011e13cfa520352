/- The quotient of two floats: where its rung lies; it grows with what is divided. No program in sight. -/
import Derived.Test.YtcfopjfimobbjaaMQuot
namespace Go.Proofs.Ytcfopjfimobbjaa.FL
set_option linter.unusedVariables false
set_option linter.unusedSimpArgs false
open Ieee
theorem rung_le (mag : Nat) (place : Int) : rung mag place ≤ INF := by
  unfold rung
  split
  · exact Nat.zero_le _
  · exact Nat.min_le_right _ _
def DivMid (r va vb : Nat) : Prop := (V (r - 1) + V r) * vb < 2 * va * 2 ^ 1074 ∨ ((V (r - 1) + V r) * vb = 2 * va * 2 ^ 1074 ∧ r % 2 = 0)
theorem mids (c n j e m i T : Nat) : (c * 2 ^ (j + e + 1) * n < 4 * (m * 2 ^ e) * 2 ^ (i + T) ↔ c * (n * 2 ^ j) < 2 * (m * 2 ^ i) * 2 ^ T) ∧ (c * 2 ^ (j + e + 1) * n = 4 * (m * 2 ^ e) * 2 ^ (i + T) ↔ c * (n * 2 ^ j) = 2 * (m * 2 ^ i) * 2 ^ T) := by
  have e1 : c * 2 ^ (j + e + 1) * n = c * (n * 2 ^ j) * 2 ^ (e + 1) := by
    rw [Nat.add_assoc, Nat.pow_add]
    simp only [Nat.mul_assoc, Nat.mul_comm, Nat.mul_left_comm]
  have e2 : 4 * (m * 2 ^ e) * 2 ^ (i + T) = 2 * (m * 2 ^ i) * 2 ^ T * 2 ^ (e + 1) := by
    rw [Nat.pow_add 2 i T, Nat.pow_succ, show (4 : Nat) = 2 * 2 from rfl]
    simp only [Nat.mul_assoc, Nat.mul_comm, Nat.mul_left_comm]
  rw [e1, e2, lt_scale, eq_scale]
  exact ⟨Iff.rfl, Iff.rfl⟩
theorem place_eq (i j e : Nat) : (i : Int) - 1074 - ((j : Int) - 1074) - (e : Int) - 1 + 1074 = ((i + 1074 : Nat) : Int) - ((j + e + 1 : Nat) : Int) := by omega
theorem div_rung (a b : Nat) (ha : rg a < INF) (hb : rg b < INF) (hb0 : 0 < rg b) :
    ∃ u, double.div a b = some (double.word (sg a ^^ sg b) u) ∧ u ≤ INF ∧ ∀ r, 1 ≤ r → r ≤ INF → (r ≤ u ↔ DivMid r (V (rg a)) (V (rg b))) := by
  obtain ⟨m, i, r1, v1⟩ := read_num a ha
  obtain ⟨n, j, r2, v2⟩ := read_num b hb
  have hn : n ≠ 0 := by
    rintro rfl
    have := V_lt hb0
    rw [v2] at this
    simp at this
  have hdiv : double.div a b = some (double.nearest (sg a ^^ sg b) (2 * ((m <<< (54 + n.log2 - m.log2)) / n) + ((m <<< (54 + n.log2 - m.log2)) % n != 0).toNat) (((i : Int) - 1074) - ((j : Int) - 1074) - ((54 + n.log2 - m.log2 : Nat) : Int) - 1)) := by
    unfold Format.div
    rw [r1, r2]
    simp only [Datum.quotient, hn, if_false, Option.map_some]
    rfl
  refine ⟨_, by rw [hdiv, nearest_eq], rung_le _ _, fun r h1 h2 => ?_⟩
  obtain ⟨e, he⟩ : ∃ e, 54 + n.log2 - m.log2 = e := ⟨_, rfl⟩
  have hbig : 0 < m → 2 ^ 53 ≤ (m <<< e) / n := fun hm => by rw [← he]; exact quot_big m n hm (Nat.pos_of_ne_zero hn)
  rw [he]
  rw [le_rung _ _ (i + 1074) (j + e + 1) (place_eq i j e) r h1 h2]
  unfold Mid DivMid
  rw [v1, v2]
  rcases Nat.eq_zero_or_pos m with h0 | h0
  · subst h0
    have hv : 0 < V r := by have := V_lt (r := 0) (s := r) h1; rw [V_zero] at this; exact this
    have a1 : 0 < (V (r - 1) + V r) * 2 ^ (j + e + 1) := Nat.mul_pos (by omega) (Nat.two_pow_pos _)
    have a2 : 0 < (V (r - 1) + V r) * (n * 2 ^ j) := Nat.mul_pos (by omega) (Nat.mul_pos (Nat.pos_of_ne_zero hn) (Nat.two_pow_pos _))
    generalize (2 : Nat) ^ 1074 = T
    generalize (2 : Nat) ^ (i + 1074) = U
    have z : 2 * ((0 <<< e) / n) + ((0 <<< e) % n != 0).toNat = 0 := by rw [Nat.zero_shiftLeft, Nat.zero_div, Nat.zero_mod]; rfl
    rw [z, Nat.mul_zero, Nat.zero_mul, Nat.zero_mul, Nat.mul_zero, Nat.zero_mul]
    generalize (V (r - 1) + V r) * 2 ^ (j + e + 1) = x at *
    generalize (V (r - 1) + V r) * (n * 2 ^ j) = y at *
    omega
  · have q := mid_quot r (m <<< e) n (i + 1074) (j + e + 1) h1 (Nat.pos_of_ne_zero hn) (hbig h0)
    rw [Nat.shiftLeft_eq] at q ⊢
    rw [q.1, q.2, (mids _ n j e m i 1074).1, (mids _ n j e m i 1074).2]
theorem DivMid_mono (r va vc vb : Nat) (h : va ≤ vc) (hm : DivMid r va vb) : DivMid r vc vb := by
  unfold DivMid at *
  have : 2 * va * 2 ^ 1074 ≤ 2 * vc * 2 ^ 1074 := Nat.mul_le_mul_right _ (Nat.mul_le_mul_left _ h)
  generalize 2 * va * 2 ^ 1074 = x at *
  generalize 2 * vc * 2 ^ 1074 = y at *
  rcases hm with h1 | ⟨h1, h2⟩
  · left; omega
  · by_cases h3 : x = y
    · right; exact ⟨by omega, h2⟩
    · left; omega
def ONE : Nat := 4607182418800017408
theorem V_one : V ONE = 2 ^ 1074 := by decide +kernel
theorem not_mid (T vb va w : Nat) (h : va ≤ vb) (hb : 0 < vb) (hw : T < w) : ¬ ((T + w) * vb ≤ 2 * va * T) := by
  intro hle
  have h1 : 2 * va * T ≤ 2 * vb * T := Nat.mul_le_mul_right _ (Nat.mul_le_mul_left _ h)
  have h2 : (2 * T + 1) * vb ≤ (T + w) * vb := Nat.mul_le_mul_right _ (by omega)
  have e : (2 * T + 1) * vb = 2 * vb * T + vb := by
    rw [Nat.add_mul, Nat.one_mul]
    simp only [Nat.mul_assoc, Nat.mul_comm, Nat.mul_left_comm]
  omega
/-- Of what is no greater the quotient is at most 1. -/
theorem div_le_one (u va vb : Nat) (hv : va ≤ vb) (hb : 0 < vb) (h : ∀ r, 1 ≤ r → r ≤ INF → (r ≤ u ↔ DivMid r va vb)) : u ≤ ONE := by
  have ho : ONE + 1 ≤ INF := by decide
  rcases Nat.lt_or_ge ONE u with h1 | h1
  · exfalso
    have hm := (h (ONE + 1) (by omega) ho).1 h1
    have hV : V ONE < V (ONE + 1) := V_lt (by omega)
    unfold DivMid at hm
    rw [show ONE + 1 - 1 = ONE by omega, V_one] at hm
    rw [V_one] at hV
    refine not_mid (2 ^ 1074) vb va (V (ONE + 1)) hv hb hV ?_
    rcases hm with h2 | ⟨h2, _⟩
    · exact Nat.le_of_lt h2
    · exact Nat.le_of_eq h2
  · exact h1
/-- It grows with what is divided. -/
theorem div_mono (u1 u2 va vc vb : Nat) (hv : va ≤ vc) (hi : u1 ≤ INF) (h1 : ∀ r, 1 ≤ r → r ≤ INF → (r ≤ u1 ↔ DivMid r va vb)) (h2 : ∀ r, 1 ≤ r → r ≤ INF → (r ≤ u2 ↔ DivMid r vc vb)) : u1 ≤ u2 := by
  rcases Nat.eq_zero_or_pos u1 with h0 | h0
  · omega
  · exact (h2 u1 h0 hi).2 (DivMid_mono u1 va vc vb hv ((h1 u1 h0 hi).1 (Nat.le_refl _)))
end Go.Proofs.Ytcfopjfimobbjaa.FL
