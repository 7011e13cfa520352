/- The rounded quotient of two floats, by its exact value. No program in sight. -/
import Derived.Test.YtcfopjfimobbjaaMShare
namespace Go.Proofs.Ytcfopjfimobbjaa.FL
set_option linter.unusedVariables false
set_option linter.unusedSimpArgs false
open Ieee
theorem quot_big (m n : Nat) (hm : 0 < m) (hn : 0 < n) : 2 ^ 53 ≤ (m <<< (54 + n.log2 - m.log2)) / n := by
  rw [Nat.le_div_iff_mul_le hn, Nat.shiftLeft_eq]
  have h1 := Nat.log2_self_le (Nat.pos_iff_ne_zero.1 hm)
  have h2 := Nat.lt_log2_self (n := n)
  have e : 2 ^ (54 + n.log2) ≤ 2 ^ (m.log2 + (54 + n.log2 - m.log2)) := Nat.pow_le_pow_right (by decide) (by clear h1 h2; omega)
  have e2 : 2 ^ (m.log2 + (54 + n.log2 - m.log2)) ≤ m * 2 ^ (54 + n.log2 - m.log2) := by
    rw [Nat.pow_add]
    exact (le_scale _ _ _).2 h1
  have e3 : 2 ^ 53 * n ≤ 2 ^ 53 * 2 ^ (n.log2 + 1) := Nat.mul_le_mul_left _ (Nat.le_of_lt h2)
  have e4 : 2 ^ 53 * 2 ^ (n.log2 + 1) = 2 ^ (54 + n.log2) := by rw [← Nat.pow_add]; congr 1; clear h1 h2 e e2 e3; omega
  rw [e4] at e3
  exact Nat.le_trans e3 (Nat.le_trans e e2)
/-- Against an even number the sticky digit tells nothing new. -/
theorem sticky (t D n : Nat) (hn : 0 < n) : (2 * t < 2 * (D / n) + (D % n != 0).toNat ↔ t * n < D) ∧ (2 * t = 2 * (D / n) + (D % n != 0).toNat ↔ t * n = D) := by
  have hd := Nat.div_add_mod D n
  have hm := Nat.mod_lt D hn
  generalize D / n = Q at *
  generalize D % n = R at *
  have hcase : t < Q ∨ t = Q ∨ Q < t := by omega
  rcases Nat.eq_zero_or_pos R with h0 | h0
  · subst h0
    have e : ((0 : Nat) != 0).toNat = 0 := rfl
    rw [e]
    rcases hcase with h | h | h
    · have : t * n < Q * n := Nat.mul_lt_mul_of_pos_right h hn
      rw [Nat.mul_comm n Q] at hd
      constructor <;> constructor <;> intro _ <;> omega
    · subst h
      rw [Nat.mul_comm n t] at hd
      constructor <;> constructor <;> intro _ <;> omega
    · have : (Q + 1) * n ≤ t * n := Nat.mul_le_mul_right n h
      rw [Nat.add_mul, Nat.one_mul] at this
      rw [Nat.mul_comm n Q] at hd
      constructor <;> constructor <;> intro _ <;> omega
  · have e : (R != 0).toNat = 1 := by
      have : (R != 0) = true := by simp; omega
      rw [this]; rfl
    rw [e]
    rw [Nat.mul_comm n Q] at hd
    rcases hcase with h | h | h
    · have : t * n < Q * n := Nat.mul_lt_mul_of_pos_right h hn
      constructor <;> constructor <;> intro _ <;> omega
    · subst h
      constructor <;> constructor <;> intro _ <;> omega
    · have : (Q + 1) * n ≤ t * n := Nat.mul_le_mul_right n h
      rw [Nat.add_mul, Nat.one_mul] at this
      constructor <;> constructor <;> intro _ <;> omega
theorem four (q n u : Nat) : 2 * (2 * q) * u * n = 4 * (q * n) * u := by
  rw [show (4 : Nat) = 2 * 2 from rfl]
  simp only [Nat.mul_assoc, Nat.mul_comm, Nat.mul_left_comm]
/-- The middle against the quotient, exactly. -/
theorem mid_quot (r D n up down : Nat) (h1 : 1 ≤ r) (hn : 0 < n) (hQ : 2 ^ 53 ≤ D / n) :
    ((V (r - 1) + V r) * 2 ^ down < 2 * (2 * (D / n) + (D % n != 0).toNat) * 2 ^ up ↔ (V (r - 1) + V r) * 2 ^ down * n < 4 * D * 2 ^ up) ∧
    ((V (r - 1) + V r) * 2 ^ down = 2 * (2 * (D / n) + (D % n != 0).toNat) * 2 ^ up ↔ (V (r - 1) + V r) * 2 ^ down * n = 4 * D * 2 ^ up) := by
  obtain ⟨k, t, hk, hb⟩ := block (r - 1)
  obtain ⟨v1, v2⟩ := V_succ k t hb
  rw [← hk] at v1 v2
  rw [show r - 1 + 1 = r by omega] at v2
  have hc : V (r - 1) + V r = (2 * t + 1) * 2 ^ k := by
    rw [v1, v2, ← Nat.add_mul]
    congr 1
    omega
  have ht : t < 2 * B := by omega
  rw [hc, Nat.mul_assoc, ← Nat.pow_add]
  clear hc v1 v2 hk hb
  rcases Nat.lt_or_ge (k + down) (up + 2) with h | h
  · have hp : 2 ^ (k + down) ≤ 2 * 2 ^ up := by
      rw [← Nat.pow_succ']
      exact Nat.pow_le_pow_right (by decide) (by omega)
    have hlt : (2 * t + 1) * 2 ^ (k + down) < 2 ^ 54 * (2 * 2 ^ up) := by
      have h3 : 2 * t + 1 < 2 ^ 54 := by
        have : B = 4503599627370496 := rfl
        omega
      exact Nat.lt_of_lt_of_le (Nat.mul_lt_mul_of_pos_right h3 (Nat.two_pow_pos _)) (Nat.mul_le_mul_left _ hp)
    generalize (2 * t + 1) * 2 ^ (k + down) = c at hlt ⊢
    have hq : 2 ^ 54 * (2 * 2 ^ up) ≤ 2 * (2 * (D / n)) * 2 ^ up := by
      rw [← Nat.mul_assoc]
      refine Nat.mul_le_mul_right _ ?_
      omega
    have hq2 : 2 * (2 * (D / n)) * 2 ^ up ≤ 2 * (2 * (D / n) + (D % n != 0).toNat) * 2 ^ up := Nat.mul_le_mul_right _ (by omega)
    have hd : D / n * n ≤ D := Nat.div_mul_le_self D n
    have hx : 2 * (2 * (D / n)) * 2 ^ up * n ≤ 4 * D * 2 ^ up := by
      rw [four]
      exact Nat.mul_le_mul_right _ (Nat.mul_le_mul_left _ hd)
    have hcn : c * n < 2 * (2 * (D / n)) * 2 ^ up * n := Nat.mul_lt_mul_of_pos_right (Nat.lt_of_lt_of_le hlt hq) hn
    have a1 : c < 2 * (2 * (D / n) + (D % n != 0).toNat) * 2 ^ up := Nat.lt_of_lt_of_le hlt (Nat.le_trans hq hq2)
    have a2 : c * n < 4 * D * 2 ^ up := Nat.lt_of_lt_of_le hcn hx
    exact ⟨⟨fun _ => a2, fun _ => a1⟩, ⟨fun h => absurd h (Nat.ne_of_lt a1), fun h => absurd h (Nat.ne_of_lt a2)⟩⟩
  · obtain ⟨z, hz⟩ : ∃ z, k + down = up + 2 + z := ⟨k + down - (up + 2), by omega⟩
    obtain ⟨s, hs⟩ : ∃ s, (2 * t + 1) * 2 ^ z = s := ⟨_, rfl⟩
    have e : (2 * t + 1) * 2 ^ (k + down) = 2 * (2 * s) * 2 ^ up := by
      rw [hz, Nat.pow_add, Nat.pow_add, ← hs]
      simp only [Nat.mul_assoc, Nat.mul_comm, Nat.mul_left_comm]
      rw [show (2 : Nat) ^ 2 = 2 * 2 from rfl]
      simp only [Nat.mul_assoc, Nat.mul_comm, Nat.mul_left_comm]
    rw [e]
    have st := sticky s D n hn
    rw [four, lt_scale, eq_scale, lt_scale, eq_scale]
    constructor
    · rw [Nat.mul_lt_mul_left (by decide : 0 < 2), Nat.mul_lt_mul_left (by decide : 0 < 4)]
      exact st.1
    · rw [Nat.mul_left_cancel_iff (by decide : 0 < 2), Nat.mul_left_cancel_iff (by decide : 0 < 4)]
      exact st.2
end Go.Proofs.Ytcfopjfimobbjaa.FL
