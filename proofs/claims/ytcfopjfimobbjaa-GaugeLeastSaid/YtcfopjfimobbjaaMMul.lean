/- The rounded product and sum of two floats that are not negative; a float cut to an integer. No program in sight. -/
import Derived.Test.YtcfopjfimobbjaaMDiv
namespace Go.Proofs.Ytcfopjfimobbjaa.FL
set_option linter.unusedVariables false
set_option linter.unusedSimpArgs false
open Ieee
def ExMid (r x d : Nat) : Prop := (V (r - 1) + V r) * d < 2 * x ∨ ((V (r - 1) + V r) * d = 2 * x ∧ r % 2 = 0)
theorem place_mul (i j : Nat) : ((i : Int) - 1074) + ((j : Int) - 1074) + 1074 = ((i + j : Nat) : Int) - ((1074 : Nat) : Int) := by omega
theorem mul_rung (a b : Nat) (ha : rg a < INF) (hb : rg b < INF) :
    ∃ u, double.mul a b = some (double.word (sg a ^^ sg b) u) ∧ u ≤ INF ∧ ∀ r, 1 ≤ r → r ≤ INF → (r ≤ u ↔ ExMid r (V (rg a) * V (rg b)) (2 ^ 1074)) := by
  obtain ⟨m, i, r1, v1⟩ := read_num a ha
  obtain ⟨n, j, r2, v2⟩ := read_num b hb
  have hmul : double.mul a b = some (double.nearest (sg a ^^ sg b) (m * n) (((i : Int) - 1074) + ((j : Int) - 1074))) := by
    unfold Format.mul
    rw [r1, r2]
    rfl
  refine ⟨_, by rw [hmul, nearest_eq], rung_le _ _, fun r h1 h2 => ?_⟩
  rw [le_rung _ _ (i + j) 1074 (place_mul i j) r h1 h2]
  unfold Mid ExMid
  rw [v1, v2]
  have e : 2 * (m * n) * 2 ^ (i + j) = 2 * (m * 2 ^ i * (n * 2 ^ j)) := by
    rw [Nat.pow_add]
    simp only [Nat.mul_assoc, Nat.mul_comm, Nat.mul_left_comm]
  rw [e]
theorem add_rung (a b : Nat) (ha : rg a < INF) (hb : rg b < INF) (sa : sg a = false) (sb : sg b = false) :
    ∃ u, double.add a b = some u ∧ u ≤ INF ∧ ∀ r, 1 ≤ r → r ≤ INF → (r ≤ u ↔ ExMid r (V (rg a) + V (rg b)) 1) := by
  obtain ⟨m, i, r1, v1⟩ := read_num a ha
  obtain ⟨n, j, r2, v2⟩ := read_num b hb
  rw [sa] at r1
  rw [sb] at r2
  obtain ⟨k, hk⟩ : ∃ k, min i j = k := ⟨_, rfl⟩
  have hb1 : min ((i : Int) - 1074) ((j : Int) - 1074) = (k : Int) - 1074 := by omega
  have e1 : ((i : Int) - 1074 - ((k : Int) - 1074)).toNat = i - k := by omega
  have e2 : ((j : Int) - 1074 - ((k : Int) - 1074)).toNat = j - k := by omega
  have hsum : double.add a b = some (double.nearest false (m * 2 ^ (i - k) + n * 2 ^ (j - k)) ((k : Int) - 1074)) := by
    unfold Format.add
    rw [r1, r2]
    simp only [Datum.sum, hb1, e1, e2, signed_eq, sv, Bool.false_eq_true, if_false, Option.map_some]
    have h3 : (((m * 2 ^ (i - k) : Nat) : Int) + ((n * 2 ^ (j - k) : Nat) : Int)).natAbs = m * 2 ^ (i - k) + n * 2 ^ (j - k) := by omega
    have h4 : (if ((m * 2 ^ (i - k) : Nat) : Int) + ((n * 2 ^ (j - k) : Nat) : Int) = 0 then (false && false) else decide (((m * 2 ^ (i - k) : Nat) : Int) + ((n * 2 ^ (j - k) : Nat) : Int) < 0)) = false := by
      split
      · rfl
      · rw [decide_eq_false_iff_not]; omega
    rw [h3, h4]
    rfl
  refine ⟨_, by rw [hsum, nearest_eq, word_pos], rung_le _ _, fun r h1 h2 => ?_⟩
  rw [le_rung _ _ k 0 (by omega) r h1 h2]
  unfold Mid ExMid
  rw [v1, v2]
  have f1 : m * 2 ^ i = m * 2 ^ (i - k) * 2 ^ k := by rw [Nat.mul_assoc, ← Nat.pow_add]; congr 2; omega
  have f2 : n * 2 ^ j = n * 2 ^ (j - k) * 2 ^ k := by rw [Nat.mul_assoc, ← Nat.pow_add]; congr 2; omega
  have e : 2 * (m * 2 ^ (i - k) + n * 2 ^ (j - k)) * 2 ^ k = 2 * (m * 2 ^ i + n * 2 ^ j) := by
    rw [f1, f2, Nat.mul_assoc, Nat.add_mul]
  rw [e, Nat.pow_zero]
end Go.Proofs.Ytcfopjfimobbjaa.FL
