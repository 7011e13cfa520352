/- How floats of 64 bits stand to each other: by their rungs with their signs. No program in sight. -/
import Derived.Test.YtcfopjfimobbjaaMFloat
namespace Go.Proofs.Ytcfopjfimobbjaa.FL
set_option linter.unusedVariables false
set_option linter.unusedSimpArgs false
open Ieee
def rg (b : Nat) : Nat := b % SW
def sg (b : Nat) : Bool := b / SW % 2 == 1
def isnan (b : Nat) : Bool := decide (INF < rg b)
/-- A rung with its sign. -/
def sv (s : Bool) (v : Nat) : Int := if s then -(v : Int) else (v : Int)
def ky (b : Nat) : Int := sv (sg b) (rg b)
theorem read_num (b : Nat) (h : rg b < INF) : ∃ m : Nat, ∃ k : Nat, double.read b = .number (sg b) m ((k : Int) - 1074) ∧ V (rg b) = m * 2 ^ k := by
  unfold Format.read
  simp only [signWeight, binade, infRung, least]
  show ∃ m : Nat, ∃ k : Nat, (if rg b < B then Datum.number (sg b) (rg b) (-1074) else if rg b < INF then Datum.number (sg b) (B + rg b % B) (-1074 + ((rg b / B - 1 : Nat) : Int)) else if rg b = INF then Datum.infinity (sg b) else Datum.nan (sg b) (rg b - INF)) = _ ∧ _
  by_cases h1 : rg b < B
  · refine ⟨rg b, 0, ?_, ?_⟩
    · rw [if_pos h1]; rfl
    · unfold V; rw [if_pos h1]; simp
  · refine ⟨B + rg b % B, rg b / B - 1, ?_, ?_⟩
    · rw [if_neg h1, if_pos h]
      first | (congr 1; done) | (congr 1; omega)
    · unfold V; rw [if_neg h1]
theorem read_inf (b : Nat) (h : rg b = INF) : double.read b = .infinity (sg b) := by
  unfold Format.read
  simp only [signWeight, binade, infRung, least]
  show (if rg b < B then Datum.number (sg b) (rg b) (-1074) else if rg b < INF then Datum.number (sg b) (B + rg b % B) (-1074 + ((rg b / B - 1 : Nat) : Int)) else if rg b = INF then Datum.infinity (sg b) else Datum.nan (sg b) (rg b - INF)) = _
  have : B < INF := by decide
  rw [if_neg (by omega), if_neg (by omega), if_pos h]
theorem read_nan (b : Nat) (h : INF < rg b) : double.read b = .nan (sg b) (rg b - INF) := by
  unfold Format.read
  simp only [signWeight, binade, infRung, least]
  show (if rg b < B then Datum.number (sg b) (rg b) (-1074) else if rg b < INF then Datum.number (sg b) (B + rg b % B) (-1074 + ((rg b / B - 1 : Nat) : Int)) else if rg b = INF then Datum.infinity (sg b) else Datum.nan (sg b) (rg b - INF)) = _
  have : B < INF := by decide
  rw [if_neg (by omega), if_neg (by omega), if_neg (by omega)]
theorem compare_lt {a b : Int} (h : a < b) : compare a b = .lt := by
  show compareOfLessAndEq a b = .lt
  unfold compareOfLessAndEq
  rw [if_pos h]
theorem compare_eq {a b : Int} (h : a = b) : compare a b = .eq := by
  show compareOfLessAndEq a b = .eq
  unfold compareOfLessAndEq
  rw [if_neg (by omega), if_pos h]
theorem compare_gt {a b : Int} (h : b < a) : compare a b = .gt := by
  show compareOfLessAndEq a b = .gt
  unfold compareOfLessAndEq
  rw [if_neg (by omega), if_neg (by omega)]
theorem compare_congr {a b c d : Int} (h1 : a < b ↔ c < d) (h2 : a = b ↔ c = d) : compare a b = compare c d := by
  rcases Int.lt_trichotomy a b with h | h | h
  · rw [compare_lt h, compare_lt (h1.1 h)]
  · rw [compare_eq h, compare_eq (h2.1 h)]
  · have : ¬ c < d := fun q => by have := h1.2 q; omega
    have : ¬ c = d := fun q => by have := h2.2 q; omega
    rw [compare_gt h, compare_gt (by omega)]
theorem signed_eq (s : Bool) (m up : Nat) : signed s m up = sv s (m * 2 ^ up) := by
  unfold signed sv
  rw [Nat.shiftLeft_eq]
theorem sv_congr (s t : Bool) (a b c d : Nat) (h1 : a < b ↔ c < d) (h2 : a = b ↔ c = d) (h3 : a = 0 ↔ c = 0) (h4 : b = 0 ↔ d = 0) : compare (sv s a) (sv t b) = compare (sv s c) (sv t d) := by
  cases s <;> cases t <;> refine compare_congr ?_ ?_ <;> simp only [sv] <;> simp <;> omega
theorem num_order (s t : Bool) (m n i j : Nat) : (Datum.number s m ((i : Int) - 1074)).order (.number t n ((j : Int) - 1074)) = some (compare (sv s (m * 2 ^ i)) (sv t (n * 2 ^ j))) := by
  show some (compare (signed s m _) (signed t n _)) = _
  congr 1
  rw [signed_eq, signed_eq]
  obtain ⟨a, ha⟩ : ∃ a, min i j = a := ⟨_, rfl⟩
  have e1 : ((i : Int) - 1074 - min ((i : Int) - 1074) ((j : Int) - 1074)).toNat = i - a := by omega
  have e2 : ((j : Int) - 1074 - min ((i : Int) - 1074) ((j : Int) - 1074)).toNat = j - a := by omega
  rw [e1, e2]
  have f1 : m * 2 ^ i = m * 2 ^ (i - a) * 2 ^ a := by rw [Nat.mul_assoc, ← Nat.pow_add]; congr 2; omega
  have f2 : n * 2 ^ j = n * 2 ^ (j - a) * 2 ^ a := by rw [Nat.mul_assoc, ← Nat.pow_add]; congr 2; omega
  rw [f1, f2]
  have hz : ∀ q : Nat, q = 0 ↔ q * 2 ^ a = 0 := fun q => by
    have := Nat.two_pow_pos a
    rw [Nat.mul_eq_zero]
    omega
  exact sv_congr s t _ _ _ _ (lt_scale _ _ _).symm (eq_scale _ _ _).symm (hz _) (hz _)
theorem V_eq_zero (r : Nat) : V r = 0 ↔ r = 0 := ⟨fun h => V_inj (h.trans V_zero.symm), fun h => by rw [h]; rfl⟩
theorem order_ky (x y : Nat) (hx : isnan x = false) (hy : isnan y = false) : double.order x y = some (compare (ky x) (ky y)) := by
  unfold isnan at hx hy
  have hx1 := of_decide_eq_false hx
  have hy1 := of_decide_eq_false hy
  unfold Format.order ky
  have low : ∀ (s t : Bool) (r q : Nat), r = INF → q < INF → compare (sv s r) (sv t q) = if s then .lt else .gt := by
    intro s t r q h1 h2
    cases s
    · refine compare_gt ?_
      cases t <;> simp only [sv] <;> simp <;> omega
    · refine compare_lt ?_
      have : 0 < INF := by decide
      cases t <;> simp only [sv] <;> simp <;> omega
  have high : ∀ (s t : Bool) (r q : Nat), r < INF → q = INF → compare (sv s r) (sv t q) = if t then .gt else .lt := by
    intro s t r q h1 h2
    cases t
    · refine compare_lt ?_
      cases s <;> simp only [sv] <;> simp <;> omega
    · refine compare_gt ?_
      have : 0 < INF := by decide
      cases s <;> simp only [sv] <;> simp <;> omega
  rcases Nat.lt_or_ge (rg x) INF with h1 | h1
  · obtain ⟨m, i, r1, v1⟩ := read_num x h1
    rcases Nat.lt_or_ge (rg y) INF with h2 | h2
    · obtain ⟨n, j, r2, v2⟩ := read_num y h2
      rw [r1, r2, num_order, ← v1, ← v2]
      congr 1
      refine sv_congr _ _ _ _ _ _ V_lt_iff ⟨V_inj, fun h => by rw [h]⟩ (V_eq_zero _) (V_eq_zero _)
    · have h3 : rg y = INF := by omega
      rw [r1, read_inf y h3, high _ _ _ _ h1 h3]
      rfl
  · have h3 : rg x = INF := by omega
    rw [read_inf x h3]
    rcases Nat.lt_or_ge (rg y) INF with h2 | h2
    · obtain ⟨n, j, r2, v2⟩ := read_num y h2
      rw [r2, low _ _ _ _ h3 h2]
      rfl
    · have h4 : rg y = INF := by omega
      rw [read_inf y h4, h3, h4]
      show some (compare (sg y).toNat (sg x).toNat) = _
      have hp : 0 < INF := by decide
      cases sg x <;> cases sg y
      · rw [compare_eq rfl]; rfl
      · rw [compare_gt (by simp only [sv]; simp; omega)]; rfl
      · rw [compare_lt (by simp only [sv]; simp; omega)]; rfl
      · rw [compare_eq rfl]; rfl
theorem order_nan (x y : Nat) (h : isnan x = true ∨ isnan y = true) : double.order x y = none := by
  unfold Format.order
  rcases h with h | h
  · rw [read_nan x (of_decide_eq_true h)]
    cases double.read y <;> rfl
  · rw [read_nan y (of_decide_eq_true h)]
    cases double.read x <;> rfl
end Go.Proofs.Ytcfopjfimobbjaa.FL
