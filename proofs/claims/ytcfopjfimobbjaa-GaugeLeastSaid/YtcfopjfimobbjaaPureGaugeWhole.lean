/- The law GaugeWhole at every input: its walk with the plain facts put in. -/
import Derived.Test.YtcfopjfimobbjaaWWhole
import Derived.Test.YtcfopjfimobbjaaPureGaugeShare
import Derived.Test.YtcfopjfimobbjaaMWhole
import Derived.Laws.Cover2
import Derived.IntWalk
namespace Go.Proofs.Ytcfopjfimobbjaa.GW
set_option linter.unusedVariables false
set_option linter.unusedSimpArgs false
open Go Go.RowKit
open Go.Proofs.Ytcfopjfimobbjaa.FL Go.Proofs.Ytcfopjfimobbjaa.WG Go.Proofs.Ytcfopjfimobbjaa.GS
open Ieee
/-- A whole number as a float. -/
theorem int_float (k : Nat) (hk : k ≤ 2 * B) : ∃ R, Go.floatOfInt .f64 (k : Int) = R ∧ V R = k * 2 ^ 1074 ∧ R + 1 ≤ INF := by
  obtain ⟨R, h1, h2⟩ := rep_in 1074 k (Nat.le_refl _) hk
  refine ⟨R, ?_, h1, h2⟩
  have e : Go.floatOfInt .f64 (k : Int) = double.nearest (decide ((k : Int) < 0)) (k : Int).natAbs 0 := rfl
  rw [e, decide_eq_false (by omega), nearest_eq, word_pos, Int.natAbs_natCast]
  exact rung_exact k R h2 h1
theorem umod (a m : Int) (h0 : 0 < m) (h1 : m ≤ 4611686018427387904) : ∃ x : Nat, (x : Int) < m ∧ wrap64 (Int.tmod (IntKind.u64.wrap a) m) = (x : Int) := by
  have g : IntKind.u64.wrap a = a % 18446744073709551616 := IntKind.wrap_u64 a
  have h2 : 0 ≤ a % 18446744073709551616 := Int.emod_nonneg _ (by decide)
  have h3 : a % 18446744073709551616 < 18446744073709551616 := Int.emod_lt_of_pos _ (by decide)
  rw [g]
  generalize a % 18446744073709551616 = b at *
  rw [Int.tmod_eq_emod_of_nonneg h2]
  have h4 := Int.emod_nonneg b (show m ≠ 0 by omega)
  have h5 := Int.emod_lt_of_pos b h0
  generalize b % m = x at *
  refine ⟨x.toNat, by omega, ?_⟩
  rw [IntWalk.wrap64_in _ ⟨by omega, by omega⟩]
  omega
theorem percent_share' (x : Nat) (hx : x ≤ ONE) : ∃ q1 q2 : Nat, V q2 / 2 ^ 1074 ≤ 100 ∧ (∀ r, 1 ≤ r → r ≤ INF → (r ≤ q1 ↔ ExMid r (V HUN * V x) (2 ^ 1074))) ∧ (∀ r, 1 ≤ r → r ≤ INF → (r ≤ q2 ↔ ExMid r (V q1 + V HALF) 1)) ∧ ∀ W, Calls Try.prog 11 #[.float .f64 x] W fun e w' => e = .returned (.int .i64 ((V q2 / 2 ^ 1074 : Nat) : Int)) ∧ W = w' := by
  obtain ⟨q1, q2, n, m1, m2, m3, m4, _, m6, m7, m8⟩ := percent_pos x hx
  refine ⟨q1, q2, by rw [← m8]; exact m4, m6, m7, fun W => ?_⟩
  rw [← m8]
  obtain ⟨f1, f2, f3, f4⟩ := small_facts x hx
  have e1 : (FloatKind.f64.format.order x x != some .eq) = false := (isnan_iff x).trans f1
  have e2 : (FloatKind.f64.format.order x 0 == some .lt) = false := by
    refine (lt_ky x 0 f1 nan_zero).trans (decide_eq_false ?_); rw [ky_zero]; omega
  have e3 : (FloatKind.f64.format.order x 4607182418800017408 == some .gt) = false := by
    refine (gt_ky x 4607182418800017408 f1 (by decide)).trans (decide_eq_false ?_)
    rw [show ky 4607182418800017408 = 4607182418800017408 by decide]
    have : ONE = 4607182418800017408 := rfl
    omega
  have k3 : floatToIntVal .f64 q2 .i64 = some (n : Int) := by
    unfold floatToIntVal
    have : (FloatKind.f64.decode q2).toInt .zero = some (n : Int) := m3
    rw [this]
    have c1 : IntKind.i64.min = -9223372036854775808 := by decide
    have c2 : IntKind.i64.max = 9223372036854775807 := by decide
    simp only [c1, c2]
    rw [if_pos (by omega)]
  have h := percent_calls x q1 q2 n W (fun _ _ _ => ⟨m1, m2, k3⟩)
  rw [e1, e2, e3] at h
  simpa using h
theorem percent_zero (W : World) : Calls Try.prog 11 #[.float .f64 0] W fun e w' => e = .returned (.int .i64 0) ∧ W = w' := by
  have h := percent_calls 0 0 4602678819172646912 0 W (fun _ _ _ => ⟨by kernel_rfl, by kernel_rfl, by kernel_rfl⟩)
  have e1 : (FloatKind.f64.format.order 0 0 != some .eq) = false := by kernel_rfl
  have e2 : (FloatKind.f64.format.order 0 0 == some .lt) = false := by kernel_rfl
  have e3 : (FloatKind.f64.format.order 0 4607182418800017408 == some .gt) = false := by kernel_rfl
  rw [e1, e2, e3] at h
  exact h
theorem percent_one (W : World) : Calls Try.prog 11 #[.float .f64 4607182418800017408] W fun e w' => e = .returned (.int .i64 100) ∧ W = w' := by
  have h := percent_calls 4607182418800017408 4636737291354636288 4636772475726725120 100 W (fun _ _ _ => ⟨by kernel_rfl, by kernel_rfl, by kernel_rfl⟩)
  have e1 : (FloatKind.f64.format.order 4607182418800017408 4607182418800017408 != some .eq) = false := by kernel_rfl
  have e2 : (FloatKind.f64.format.order 4607182418800017408 0 == some .lt) = false := by kernel_rfl
  have e3 : (FloatKind.f64.format.order 4607182418800017408 4607182418800017408 == some .gt) = false := by kernel_rfl
  rw [e1, e2, e3] at h
  exact h
/-- A float that is finite and has no sign. -/
theorem fin_facts (x : Nat) (hx : x + 1 ≤ INF) : isnan x = false ∧ ky x = (x : Int) ∧ rg x = x ∧ sg x = false ∧ x < 2 ^ 64 := by
  have hi := inf_sw
  have hS : SW = 9223372036854775808 := rfl
  have r := rg_small x (by omega)
  have s := sg_small x (by omega)
  refine ⟨by unfold isnan; rw [decide_eq_false_iff_not]; omega, by unfold ky sv; rw [s, r]; rfl, r, s, by omega⟩
theorem zero_of (n T : Nat) (hT : 0 < T) (h : 0 = n * T) : n = 0 := by
  rcases Nat.mul_eq_zero.1 h.symm with h1 | h1 <;> omega
theorem lt_mul (a b n m T : Nat) (h1 : a = n * T) (h2 : b = m * T) (hT : 0 < T) (h : n < m) : a < b := by
  subst h1 h2
  exact Nat.mul_lt_mul_of_pos_right h hT
theorem v_of0 (a T : Nat) (h : a = 0 * T) : a = 0 := by rw [h, Nat.zero_mul]
theorem le_mul (a b n m T : Nat) (h1 : a = n * T) (h2 : b = m * T) (h : n ≤ m) : a ≤ b := by
  subst h1 h2
  exact Nat.mul_le_mul_right _ h
/-- The share and its percent of whole numbers. -/
theorem whole (N M : Nat) (hM : 0 < M) (hM2 : M ≤ 100000) (hN : N ≤ M) : ∃ x p : Nat, p ≤ 100 ∧ 100 * N / M ≤ p ∧ p ≤ 100 * N / M + 1 ∧ (N = 0 → p = 0) ∧
    (∀ W, Calls Try.prog 9 #[.float .f64 (floatOfInt .f64 (N : Int)), .float .f64 (floatOfInt .f64 (M : Int))] W fun e w' => e = .returned (.float .f64 x) ∧ W = w') ∧
    (∀ W, Calls Try.prog 9 #[.float .f64 0, .float .f64 (floatOfInt .f64 (M : Int))] W fun e w' => e = .returned (.float .f64 0) ∧ W = w') ∧
    (∀ W, Calls Try.prog 9 #[.float .f64 (floatOfInt .f64 (M : Int)), .float .f64 (floatOfInt .f64 (M : Int))] W fun e w' => e = .returned (.float .f64 4607182418800017408) ∧ W = w') ∧
    (∀ W, Calls Try.prog 11 #[.float .f64 x] W fun e w' => e = .returned (.int .i64 (p : Int)) ∧ W = w') := by
  have hBig : 1000000 ≤ 2 * B := by decide
  have hd := Nat.div_add_mod (100 * N) M
  have hm := Nat.mod_lt (100 * N) hM
  have hQ : 100 * N / M ≤ 100 := by
    have : 100 * N / M ≤ 100 * M / M := Nat.div_le_div_right (by omega)
    rw [Nat.mul_div_cancel _ hM] at this
    exact this
  have g1 : 100 * N / M * M ≤ 100 * N := by rw [Nat.mul_comm (100 * N / M) M]; omega
  have g2 : 100 * N < (100 * N / M + 1) * M := by rw [Nat.add_mul, Nat.one_mul, Nat.mul_comm (100 * N / M) M]; omega
  clear hd hm
  obtain ⟨RN, eN, vN, lN⟩ := int_float N (by omega)
  obtain ⟨RM, eM, vM, lM⟩ := int_float M (by omega)
  rw [eN, eM]
  obtain ⟨a1, a2, a3, a4, a5⟩ := fin_facts RN lN
  obtain ⟨b1, b2, b3, b4, b5⟩ := fin_facts RM lM
  have pos : 0 < RM := by
    rcases Nat.eq_zero_or_pos RM with h | h
    · rw [h, V_zero] at vM
      have h1 := zero_of M _ (Nat.two_pow_pos 1074) vM
      exact absurd h1 (Nat.ne_of_gt hM)
    · exact h
  have hVV : V RN ≤ V RM := le_mul _ _ _ _ _ vN vM hN
  have hle : RN ≤ RM := by
    rcases Nat.lt_or_ge RM RN with h | h
    · exact absurd (V_lt h) (Nat.not_lt.2 hVV)
    · exact h
  have SM : share RM RM = ONE := (share_val RM RM b5 b5 b1 b1 (by omega) (by omega)).2.1 (Int.le_refl _)
  have S0 : share 0 RM = 0 := (share_val 0 RM (by decide) b5 nan_zero b1 (by rw [ky_zero]; omega) (by omega)).2.2.1 (by rw [ky_zero]; omega) (.inr rg_zero)
  have C1 := fun W => share_calls' RN RM b5 W
  have C2 := fun W => share_calls' 0 RM b5 W
  have C3 := fun W => share_calls' RM RM b5 W
  rw [S0] at C2
  rw [SM] at C3
  obtain ⟨v1, v2, v3, v4⟩ := share_val RN RM a5 b5 a1 b1 (by omega) (by omega)
  rcases Nat.eq_zero_or_pos N with h0 | h0
  · subst h0
    have hR0 : RN = 0 := V_inj ((v_of0 _ _ vN).trans V_zero.symm)
    subst hR0
    exact ⟨0, 0, Nat.zero_le _, by simp, Nat.zero_le _, fun _ => rfl, C2, C2, C3, percent_zero⟩
  · rcases Nat.lt_or_ge N M with h1 | h1
    · have hlt : RN < RM := V_lt_iff.1 (lt_mul _ _ _ _ _ vN vM (Nat.two_pow_pos 1074) h1)
      have hRN : 0 < RN := by
        rcases Nat.eq_zero_or_pos RN with h | h
        · rw [h, V_zero] at vN
          have h1 := zero_of N _ (Nat.two_pow_pos 1074) vN
          exact absurd h1 (Nat.ne_of_gt h0)
        · exact h
      have hx := v4 (by omega) (by omega) (by omega)
      rw [a3, b3, vN, vM] at hx
      obtain ⟨q1, q2, m1, m2, m3, m4⟩ := percent_share' (share RN RM) v1
      have core := whole_core N M (share RN RM) q1 q2 (100 * N / M) hM hQ g1 g2 hx m2 m3
      exact ⟨share RN RM, V q2 / 2 ^ 1074, m1, core.1, core.2, fun h => absurd h (Nat.ne_of_gt h0), C1, C2, C3, m4⟩
    · have hNM : N = M := by omega
      subst hNM
      have hrr : RN = RM := V_inj (vN.trans vM.symm)
      subst hrr
      exact ⟨ONE, 100, Nat.le_refl _, by rw [Nat.mul_div_cancel _ hM]; exact Nat.le_refl _, by rw [Nat.mul_div_cancel _ hM]; exact Nat.le_succ _, fun h => absurd h (Nat.ne_of_gt h0), C3, C2, C3, percent_one⟩
/-- The two bounds, as Go divides. -/
theorem bounds (N M p : Nat) (hM : 0 < M) (hN : N ≤ M) (h1 : 100 * N / M ≤ p) (h2 : p ≤ 100 * N / M + 1) :
    ∃ lo hi : Int, (100 * (N : Int) - (M : Int)).tdiv (M : Int) = lo ∧ (100 * (N : Int) + (M : Int)).tdiv (M : Int) = hi ∧ -2 ≤ lo ∧ lo ≤ 100 ∧ 0 ≤ hi ∧ hi ≤ 101 ∧ lo - 1 ≤ (p : Int) ∧ (p : Int) ≤ hi + 1 := by
  have hQ : 100 * N / M ≤ 100 := by
    have : 100 * N / M ≤ 100 * M / M := Nat.div_le_div_right (by omega)
    rw [Nat.mul_div_cancel _ hM] at this
    exact this
  have eh : (100 * (N : Int) + (M : Int)).tdiv (M : Int) = ((100 * N / M : Nat) : Int) + 1 := by
    rw [Int.tdiv_eq_ediv_of_nonneg (by omega), Int.add_ediv_of_dvd_right (Int.dvd_refl _), Int.ediv_self (by omega)]
    congr 1
  refine ⟨_, _, rfl, rfl, ?_⟩
  rw [eh]
  rcases Nat.lt_or_ge (100 * N) M with h | h
  · have e1 : (100 * (N : Int) - (M : Int)) = -((M : Int) - 100 * (N : Int)) := by omega
    have h3 : (0 : Int) ≤ (M : Int) - 100 * (N : Int) := by omega
    have h4 : ((M : Int) - 100 * (N : Int)) / (M : Int) ≤ 1 := by
      have : ((M : Int) - 100 * (N : Int)) / (M : Int) ≤ (M : Int) / (M : Int) := Int.ediv_le_ediv (by omega) (by omega)
      rw [Int.ediv_self (by omega)] at this
      exact this
    have h5 : 0 ≤ ((M : Int) - 100 * (N : Int)) / (M : Int) := Int.ediv_nonneg h3 (by omega)
    rw [e1, Int.neg_tdiv, Int.tdiv_eq_ediv_of_nonneg h3]
    generalize ((M : Int) - 100 * (N : Int)) / (M : Int) = z at *
    generalize 100 * N / M = Q at *
    omega
  · have e1 : (100 * (N : Int) - (M : Int)).tdiv (M : Int) = ((100 * N / M : Nat) : Int) - 1 := by
      have h6 : 100 * (N : Int) - (M : Int) = ((100 * N : Nat) : Int) + (M : Int) * (-1) := by omega
      rw [Int.tdiv_eq_ediv_of_nonneg (by omega), h6, Int.add_mul_ediv_left _ _ (by omega)]
      omega
    rw [e1]
    generalize 100 * N / M = Q at *
    omega
theorem walk (n m : Int) (W : World) (wn : (Lit.int .i64 n).wf = true) (wm : (Lit.int .i64 m).wf = true) :
    Calls Try.prog 7 #[.int .i64 n, .int .i64 m] W fun e w' => e = .returned (.bool true) ∧ Below W.heap.size W w' := by
  obtain ⟨M0, m1, m2⟩ := umod m 100000 (by decide) (by decide)
  obtain ⟨N, n1, n2⟩ := umod n (((M0 + 1 : Nat) : Int) + 1) (by omega) (by omega)
  obtain ⟨x, p, p1, p2, p3, p4, C1, C2, C3, C4⟩ := whole N (M0 + 1) (by omega) (by omega) (by omega)
  obtain ⟨lo, hi, e1, e2, b1, b2, b3, b4, b5, b6⟩ := bounds N (M0 + 1) p (by omega) (by omega) p2 p3
  refine gw n m ((M0 + 1 : Nat) : Int) (N : Int) (p : Int) lo hi x W ?_ (by omega) (by omega) (by omega) (by omega) ?_ n2 C1 C2 C3 C4 percent_one e1 e2 b1 b2 b3 b4 b5 b6 (by omega) (by omega) (fun h => by have := p4 (by omega); omega)
  · rw [m2, IntWalk.wrap64_in _ ⟨by omega, by omega⟩]
    omega
  · exact IntWalk.u64_in _ ⟨by omega, by omega⟩
end Go.Proofs.Ytcfopjfimobbjaa.GW
