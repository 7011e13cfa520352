/- A share's percent. No program in sight. -/
import Derived.Test.YtcfopjfimobbjaaMMul
namespace Go.Proofs.Ytcfopjfimobbjaa.FL
set_option linter.unusedVariables false
set_option linter.unusedSimpArgs false
open Ieee
theorem pow_split (a k : Nat) (h : k ≤ a) : 2 ^ a = 2 ^ (a - k) * 2 ^ k := by rw [← Nat.pow_add, Nat.sub_add_cancel h]
theorem zero_cut (neg : Bool) (n d : Nat) : Toward.zero.cut neg n d = n / 2 ^ d := by
  have e : Toward.zero.cut neg n d = n / (1 <<< min d (n.log2 + 2)) := rfl
  rw [e, Nat.shiftLeft_eq, Nat.one_mul]
  rcases Nat.le_or_ge d (n.log2 + 2) with h | h
  · rw [Nat.min_eq_left h]
  · rw [Nat.min_eq_right h]
    have h1 := Nat.lt_log2_self (n := n)
    have h2 : 2 ^ (n.log2 + 1) ≤ 2 ^ (n.log2 + 2) := Nat.pow_le_pow_right (by decide) (by clear h1; omega)
    have h3 : 2 ^ (n.log2 + 2) ≤ 2 ^ d := Nat.pow_le_pow_right (by decide) h
    rw [Nat.div_eq_of_lt (Nat.lt_of_lt_of_le h1 h2), Nat.div_eq_of_lt (Nat.lt_of_lt_of_le h1 (Nat.le_trans h2 h3))]
theorem toInt_pos (q : Nat) (h : rg q < INF) (hs : sg q = false) : (double.read q).toInt .zero = some ((V (rg q) / 2 ^ 1074 : Nat) : Int) := by
  obtain ⟨m, k, r1, v1⟩ := read_num q h
  rw [hs] at r1
  have e : (double.read q).toInt .zero = some (signed false (Toward.zero.cut false (m <<< ((k : Int) - 1074).toNat) (-((k : Int) - 1074)).toNat) 0) := by
    rw [r1]; rfl
  rw [e, zero_cut, signed_eq, v1, Nat.shiftLeft_eq]
  congr 1
  show (((m * 2 ^ ((k : Int) - 1074).toNat / 2 ^ (-((k : Int) - 1074)).toNat * 2 ^ 0 : Nat)) : Int) = _
  rw [Nat.pow_zero, Nat.mul_one]
  congr 1
  rcases Nat.le_or_ge 1074 k with h1 | h1
  · have a1 : ((k : Int) - 1074).toNat = k - 1074 := by omega
    have a2 : (-((k : Int) - 1074)).toNat = 0 := by omega
    rw [a1, a2, Nat.pow_zero, Nat.div_one]
    have e2 : m * 2 ^ k = m * 2 ^ (k - 1074) * 2 ^ 1074 := by rw [Nat.mul_assoc, ← pow_split k 1074 h1]
    rw [e2, Nat.mul_div_cancel _ (Nat.two_pow_pos 1074)]
  · have a1 : ((k : Int) - 1074).toNat = 0 := by omega
    have a2 : (-((k : Int) - 1074)).toNat = 1074 - k := by omega
    rw [a1, a2, Nat.pow_zero, Nat.mul_one]
    rw [pow_split 1074 k h1, Nat.mul_div_mul_right _ _ (Nat.two_pow_pos k)]
/-- Rounded, it stays at or under what the format has. -/
theorem ex_le (u x d R : Nat) (hd : 0 < d) (hR : R + 1 ≤ INF) (hx : x ≤ V R * d) (h : ∀ r, 1 ≤ r → r ≤ INF → (r ≤ u ↔ ExMid r x d)) : u ≤ R := by
  rcases Nat.lt_or_ge R u with h1 | h1
  · exfalso
    have hm := (h (R + 1) (by omega) hR).1 h1
    have hV : V R < V (R + 1) := V_lt (by omega)
    unfold ExMid at hm
    rw [show R + 1 - 1 = R by omega] at hm
    have h2 : (2 * V R + 1) * d ≤ (V R + V (R + 1)) * d := Nat.mul_le_mul_right _ (by omega)
    rw [Nat.add_mul, Nat.one_mul, Nat.mul_assoc] at h2
    rcases hm with h3 | ⟨h3, _⟩ <;> omega
  · exact h1
/-- Rounded, it stays at or above what the format has. -/
theorem ex_ge (u x d R : Nat) (hd : 0 < d) (hR : R ≤ INF) (hx : V R * d ≤ x) (h : ∀ r, 1 ≤ r → r ≤ INF → (r ≤ u ↔ ExMid r x d)) : R ≤ u := by
  rcases Nat.eq_zero_or_pos R with h0 | h0
  · omega
  · refine (h R h0 hR).2 (.inl ?_)
    have hV : V (R - 1) < V R := V_lt (by omega)
    have h2 : (V (R - 1) + V R) * d < 2 * V R * d := Nat.mul_lt_mul_of_pos_right (by omega) hd
    rw [Nat.mul_assoc] at h2
    omega
def HUN : Nat := 4636737291354636288
def HALF : Nat := 4602678819172646912
def TOP : Nat := 4636772475726725120
theorem V_top : V TOP = V HUN + V HALF := by decide +kernel
theorem V_top_div : V TOP / 2 ^ 1074 = 100 := by decide +kernel
theorem rg_small (x : Nat) (h : x < SW) : rg x = x := Nat.mod_eq_of_lt h
theorem sg_small (x : Nat) (h : x < SW) : sg x = false := by
  unfold sg
  rw [Nat.div_eq_of_lt h]
  rfl
theorem inf_sw : INF < SW := by decide
theorem percent_pos (x : Nat) (hx : x ≤ ONE) : ∃ q1 q2 : Nat, ∃ n : Nat, double.mul HUN x = some q1 ∧ double.add q1 HALF = some q2 ∧ (double.read q2).toInt .zero = some (n : Int) ∧ n ≤ 100 ∧ q1 ≤ HUN ∧
    (∀ r, 1 ≤ r → r ≤ INF → (r ≤ q1 ↔ ExMid r (V HUN * V x) (2 ^ 1074))) ∧ (∀ r, 1 ≤ r → r ≤ INF → (r ≤ q2 ↔ ExMid r (V q1 + V HALF) 1)) ∧ n = V q2 / 2 ^ 1074 := by
  have hi := inf_sw
  have c1 : ONE < INF := by decide
  have c2 : HUN + 1 ≤ INF := by decide
  have c3 : TOP + 1 ≤ INF := by decide
  have c4 : HALF < INF := by decide
  have hxr := rg_small x (by omega)
  have hxs := sg_small x (by omega)
  have hhr := rg_small HUN (by omega)
  have hhs := sg_small HUN (by omega)
  obtain ⟨u1, m1, b1, e1⟩ := mul_rung HUN x (by omega) (by omega)
  rw [hhr, hxr] at e1
  rw [hxs, hhs] at m1
  have le1 : u1 ≤ HUN := by
    refine ex_le u1 _ (2 ^ 1074) HUN (Nat.two_pow_pos _) c2 (Nat.mul_le_mul_left _ ?_) e1
    rw [← V_one]
    exact V_le hx
  have h1r := rg_small u1 (by omega)
  have h1s := sg_small u1 (by omega)
  obtain ⟨u2, m2, b2, e2⟩ := add_rung u1 HALF (by omega) (by rw [rg_small HALF (by omega)]; exact c4) h1s (sg_small HALF (by omega))
  rw [h1r, rg_small HALF (by omega)] at e2
  have le2 : u2 ≤ TOP := by
    refine ex_le u2 _ 1 TOP (by decide) c3 ?_ e2
    rw [Nat.mul_one, V_top]
    exact Nat.add_le_add_right (V_le le1) _
  have h2r := rg_small u2 (by omega)
  have h2s := sg_small u2 (by omega)
  have t := toInt_pos u2 (by omega) h2s
  rw [h2r] at t
  refine ⟨u1, u2, V u2 / 2 ^ 1074, m1, m2, t, ?_, le1, e1, e2, rfl⟩
  rw [← V_top_div]
  exact Nat.div_le_div_right (V_le le2)
end Go.Proofs.Ytcfopjfimobbjaa.FL
