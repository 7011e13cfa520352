/- Plain facts about shares of floats. No program in sight. -/
import Derived.Test.YtcfopjfimobbjaaMOrder
namespace Go.Proofs.Ytcfopjfimobbjaa.FL
set_option linter.unusedVariables false
set_option linter.unusedSimpArgs false
open Ieee
theorem isnan_iff (x : Nat) : (double.order x x != some .eq) = isnan x := by
  cases h : isnan x
  · rw [order_ky x x h h, compare_eq rfl]; rfl
  · rw [order_nan x x (.inl h)]; rfl
theorem rg_zero : rg 0 = 0 := by decide
theorem ky_zero : ky 0 = 0 := by decide
theorem nan_zero : isnan 0 = false := by decide
theorem split (x : Nat) (h : x < 2 ^ 64) : x = if sg x then SW + rg x else rg x := by
  unfold sg rg SW
  have h1 : x / 9223372036854775808 < 2 := by omega
  by_cases h2 : x / 9223372036854775808 = 0
  · have : (x / 9223372036854775808 % 2 == 1) = false := by rw [h2]; rfl
    rw [this]; simp; omega
  · have h3 : x / 9223372036854775808 = 1 := by omega
    have : (x / 9223372036854775808 % 2 == 1) = true := by rw [h3]; rfl
    rw [this]; simp; omega
theorem ky_eq_zero (x : Nat) (h : x < 2 ^ 64) : ky x = 0 ↔ x = 0 ∨ x = 9223372036854775808 := by
  have hs := split x h
  unfold ky sv
  cases hc : sg x <;> rw [hc] at hs <;> simp at hs ⊢
  · constructor
    · intro h0; left; omega
    · rintro (rfl | rfl)
      · rfl
      · exact absurd hc (by decide)
  · have hsw : SW = 9223372036854775808 := rfl
    constructor
    · intro h0; right; omega
    · rintro (rfl | rfl)
      · rfl
      · rfl
theorem cmp_lt (a b : Int) : (some (compare a b) == some Ordering.lt) = decide (a < b) := by
  rcases Int.lt_trichotomy a b with h | h | h
  · rw [compare_lt h, decide_eq_true h]; rfl
  · rw [compare_eq h, decide_eq_false (by omega)]; rfl
  · rw [compare_gt h, decide_eq_false (by omega)]; rfl
theorem cmp_eq (a b : Int) : (some (compare a b) == some Ordering.eq) = decide (a = b) := by
  rcases Int.lt_trichotomy a b with h | h | h
  · rw [compare_lt h, decide_eq_false (by omega)]; rfl
  · rw [compare_eq h, decide_eq_true h]; rfl
  · rw [compare_gt h, decide_eq_false (by omega)]; rfl
theorem cmp_gt (a b : Int) : (some (compare a b) == some Ordering.gt) = decide (b < a) := by
  rcases Int.lt_trichotomy a b with h | h | h
  · rw [compare_lt h, decide_eq_false (by omega)]; rfl
  · rw [compare_eq h, decide_eq_false (by omega)]; rfl
  · rw [compare_gt h, decide_eq_true h]; rfl
theorem lt_ky (x y : Nat) (hx : isnan x = false) (hy : isnan y = false) : (double.order x y == some .lt) = decide (ky x < ky y) := by rw [order_ky x y hx hy, cmp_lt]
theorem eq_ky (x y : Nat) (hx : isnan x = false) (hy : isnan y = false) : (double.order x y == some .eq) = decide (ky x = ky y) := by rw [order_ky x y hx hy, cmp_eq]
theorem gt_ky (x y : Nat) (hx : isnan x = false) (hy : isnan y = false) : (double.order x y == some .gt) = decide (ky y < ky x) := by rw [order_ky x y hx hy, cmp_gt]
theorem eq_zero (x : Nat) (h : x < 2 ^ 64) (he : (double.order x 0 == some .eq) = true) : x = 0 ∨ x = 9223372036854775808 := by
  cases hn : isnan x
  · rw [eq_ky x 0 hn nan_zero, decide_eq_true_eq, ky_zero] at he
    exact (ky_eq_zero x h).1 he
  · rw [order_nan x 0 (.inl hn)] at he
    exact absurd he (by decide)
theorem ky_inj (x y : Nat) (hx : x < 2 ^ 64) (hy : y < 2 ^ 64) (h : ky x = ky y) (hs : sg x = sg y) : x = y := by
  have h1 := split x hx
  have h2 := split y hy
  unfold ky sv at h
  rw [hs] at h h1
  have hsw : SW = 9223372036854775808 := rfl
  cases hc : sg y <;> rw [hc] at h h1 h2 <;> simp only [Bool.false_eq_true, if_true, if_false] at h h1 h2 <;> omega
/-- The quotient of what is no NaN by a number that is not 0. -/
theorem div_some (a b : Nat) (ha : isnan a = false) (hb : rg b < INF) (hb0 : 0 < rg b) : (double.div a b).isSome = true := by
  have ha1 := of_decide_eq_false (show decide (INF < rg a) = false from ha)
  obtain ⟨n, j, r2, v2⟩ := read_num b hb
  have hn : n ≠ 0 := by
    rintro rfl
    have := V_lt hb0
    rw [v2] at this
    simp at this
  unfold Format.div
  rw [r2]
  rcases Nat.lt_or_ge (rg a) INF with h1 | h1
  · obtain ⟨m, i, r1, v1⟩ := read_num a h1
    rw [r1]
    simp [Datum.quotient, hn]
  · rw [read_inf a (by omega)]
    simp [Datum.quotient]
end Go.Proofs.Ytcfopjfimobbjaa.FL
