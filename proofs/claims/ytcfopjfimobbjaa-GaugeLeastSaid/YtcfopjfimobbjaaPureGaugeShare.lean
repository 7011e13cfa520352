/- The law GaugeShare at every input: its walk with the plain facts put in. -/
import Derived.Test.YtcfopjfimobbjaaWShare
import Derived.Test.YtcfopjfimobbjaaMPercent
namespace Go.Proofs.Ytcfopjfimobbjaa.GS
set_option linter.unusedVariables false
set_option linter.unusedSimpArgs false
open Go Go.RowKit
open Go.Proofs.Ytcfopjfimobbjaa.FL Go.Proofs.Ytcfopjfimobbjaa.WG
theorem b64 {x : Nat} (h : (Lit.float .f64 x).wf = true) : x < 2 ^ 64 := by simpa [Lit.wf] using h
/-- What is above 0. -/
theorem pos_of (b : Nat) (hb : b < 2 ^ 64) (hn : isnan b = false) (h : 0 < ky b) : sg b = false ∧ b = rg b ∧ 0 < rg b ∧ rg b ≤ INF := by
  have hs := split b hb
  have hi := of_decide_eq_false (show decide (INF < rg b) = false from hn)
  unfold ky sv at h
  cases hc : sg b <;> rw [hc] at h hs <;> simp only [Bool.false_eq_true, if_true, if_false] at h hs
  · exact ⟨rfl, hs, by omega, by omega⟩
  · omega
theorem shq (a b : Nat) (hb : b < 2 ^ 64) : (FloatKind.f64.format.order a a != some .eq) = false → (FloatKind.f64.format.order b b != some .eq) = false → (FloatKind.f64.format.order a 0 == some .lt) = false → (FloatKind.f64.format.order b 0 == some .lt || FloatKind.f64.format.order b 0 == some .eq) = false → (FloatKind.f64.format.order b 9218868437227405311 == some .gt) = false → (floatBits .quo .f64 a b).isSome = true := by
  intro h1 h2 h3 h4 h5
  have n1 : isnan a = false := (isnan_iff a).symm.trans h1
  have n2 : isnan b = false := (isnan_iff b).symm.trans h2
  have e1 : (Ieee.double.order b 0 == some .lt) = false ∧ (Ieee.double.order b 0 == some .eq) = false := Bool.or_eq_false_iff.1 h4
  rw [lt_ky b 0 n2 nan_zero, eq_ky b 0 n2 nan_zero, ky_zero] at e1
  have k1 := of_decide_eq_false e1.1
  have k2 := of_decide_eq_false e1.2
  obtain ⟨s, e, p, q⟩ := pos_of b hb n2 (by omega)
  have h6 : (Ieee.double.order b 9218868437227405311 == some .gt) = false := h5
  rw [gt_ky b _ n2 (by decide)] at h6
  have h7 := of_decide_eq_false h6
  have h8 : ky b = (rg b : Int) := by unfold ky sv; rw [s]; rfl
  have h9 : ky 9218868437227405311 = 9218868437227405311 := by decide
  have h10 : INF = 9218868437227405312 := rfl
  exact div_some a b n1 (by omega) p
theorem nonneg_of (a : Nat) (ha : a < 2 ^ 64) (hn : isnan a = false) (h : 0 ≤ ky a) : ky a = (rg a : Int) ∧ rg a ≤ INF ∧ (0 < rg a → sg a = false) := by
  have hi := of_decide_eq_false (show decide (INF < rg a) = false from hn)
  unfold ky sv at h ⊢
  cases hc : sg a <;> rw [hc] at h <;> simp only [Bool.false_eq_true, if_true, if_false] at h ⊢
  · exact ⟨by first | trivial | rfl, by omega, fun _ => by first | trivial | rfl⟩
  · exact ⟨by omega, by omega, fun q => by omega⟩
/-- A share's value, where there is one: from 0 to 1; and more of it is no less. -/
theorem share_val (a b : Nat) (ha : a < 2 ^ 64) (hb : b < 2 ^ 64) (n1 : isnan a = false) (n2 : isnan b = false) (k1 : 0 ≤ ky a) (k2 : 0 < ky b) :
    share a b ≤ ONE ∧ (ky b ≤ ky a → share a b = ONE) ∧ (ky a < ky b → (rg b = INF ∨ rg a = 0) → share a b = 0) ∧
    (ky a < ky b → rg b < INF → 0 < rg a → ∀ r, 1 ≤ r → r ≤ INF → (r ≤ share a b ↔ DivMid r (V (rg a)) (V (rg b)))) := by
  obtain ⟨s, e, p, q⟩ := pos_of b hb n2 k2
  obtain ⟨ea, ia, sa⟩ := nonneg_of a ha n1 k1
  have eb : ky b = (rg b : Int) := by unfold ky sv; rw [s]; rfl
  have c1 : (FloatKind.f64.format.order a a != some .eq) = false := (isnan_iff a).trans n1
  have c2 : (FloatKind.f64.format.order b b != some .eq) = false := (isnan_iff b).trans n2
  have c3 : (FloatKind.f64.format.order a 0 == some .lt) = false := by
    refine (lt_ky a 0 n1 nan_zero).trans (decide_eq_false ?_); rw [ky_zero]; omega
  have c4 : (FloatKind.f64.format.order b 0 == some .lt) = false := by
    refine (lt_ky b 0 n2 nan_zero).trans (decide_eq_false ?_); rw [ky_zero]; omega
  have c4b : (FloatKind.f64.format.order b 0 == some .eq) = false := by
    refine (eq_ky b 0 n2 nan_zero).trans (decide_eq_false ?_); rw [ky_zero]; omega
  have c5 : (FloatKind.f64.format.order a b == some .gt) = decide (ky b < ky a) := gt_ky a b n1 n2
  have c5b : (FloatKind.f64.format.order a b == some .eq) = decide (ky a = ky b) := eq_ky a b n1 n2
  have c6 : (FloatKind.f64.format.order b 9218868437227405311 == some .gt) = decide ((9218868437227405311 : Int) < ky b) := by
    refine (gt_ky b _ n2 (by decide)).trans ?_
    rw [show ky 9218868437227405311 = 9218868437227405311 by decide]
  have c7 : (FloatKind.f64.format.order a 0 == some .eq) = decide (ky a = 0) := by
    refine (eq_ky a 0 n1 nan_zero).trans ?_; rw [ky_zero]
  have hI : INF = 9218868437227405312 := rfl
  unfold share
  rw [c1, c2, c3, c4, c4b, c5, c5b, c6, c7]
  simp only [Bool.or_self, Bool.false_eq_true, if_false]
  clear c1 c2 c3 c4 c4b c5 c5b c6 c7
  by_cases h5 : ky b ≤ ky a
  · have e5 : (decide (ky b < ky a) || decide (ky a = ky b)) = true := by
      rw [Bool.or_eq_true, decide_eq_true_eq, decide_eq_true_eq]; omega
    rw [e5, if_pos rfl]
    exact ⟨Nat.le_refl _, fun _ => rfl, fun h => by omega, fun h => by omega⟩
  · have e5 : (decide (ky b < ky a) || decide (ky a = ky b)) = false := by
      rw [Bool.or_eq_false_iff, decide_eq_false_iff_not, decide_eq_false_iff_not]; omega
    rw [e5, if_neg (by decide)]
    by_cases h6 : rg b = INF ∨ rg a = 0
    · have e6 : (decide ((9218868437227405311 : Int) < ky b) || decide (ky a = 0)) = true := by
        rw [Bool.or_eq_true, decide_eq_true_eq, decide_eq_true_eq]; omega
      rw [e6, if_pos rfl]
      exact ⟨Nat.zero_le _, fun h => by omega, fun _ _ => rfl, fun _ h1 h2 => by omega⟩
    · have e6 : (decide ((9218868437227405311 : Int) < ky b) || decide (ky a = 0)) = false := by
        rw [Bool.or_eq_false_iff, decide_eq_false_iff_not, decide_eq_false_iff_not]; omega
      rw [e6, if_neg (by decide)]
      obtain ⟨u, d1, d2, d3⟩ := div_rung a b (by omega) (by omega) p
      rw [sa (by omega), s] at d1
      have d4 : floatBits .quo .f64 a b = some u := d1
      rw [d4]
      refine ⟨?_, fun h => by omega, fun _ h => absurd h h6, fun _ _ _ => d3⟩
      refine div_le_one u (V (rg a)) (V (rg b)) (V_le (by omega)) ?_ d3
      have := V_lt p
      rw [V_zero] at this
      exact this
theorem share_calls' (a b : Nat) (hb : b < 2 ^ 64) (W : World) : Calls Try.prog 9 #[.float .f64 a, .float .f64 b] W fun e w' => e = .returned (.float .f64 (share a b)) ∧ W = w' := share_calls a b W (shq a b hb)
theorem percent_nan (W : World) : Calls Try.prog 11 #[.float .f64 9221120237041090561] W fun e w' => e = .returned (.int .i64 (-1)) ∧ W = w' := by
  have e1 : (FloatKind.f64.format.order 9221120237041090561 9221120237041090561 != some .eq) = true := by kernel_rfl
  have h := percent_calls 9221120237041090561 0 0 0 W (fun h _ _ => absurd (e1.symm.trans h) (by decide))
  rw [e1] at h
  simpa using h
theorem small_facts (x : Nat) (hx : x ≤ ONE) : isnan x = false ∧ ky x = (x : Int) ∧ rg x = x ∧ sg x = false := by
  have hi := inf_sw
  have c1 : ONE < INF := by decide
  have r := rg_small x (by omega)
  have s := sg_small x (by omega)
  refine ⟨by unfold isnan; rw [decide_eq_false_iff_not]; omega, by unfold ky sv; rw [s, r]; rfl, r, s⟩
theorem percent_share (x : Nat) (hx : x ≤ ONE) (W : World) : ∃ n : Nat, n ≤ 100 ∧ ∀ W, Calls Try.prog 11 #[.float .f64 x] W fun e w' => e = .returned (.int .i64 (n : Int)) ∧ W = w' := by
  obtain ⟨q1, q2, n, m1, m2, m3, m4, _⟩ := percent_pos x hx
  refine ⟨n, m4, fun W => ?_⟩
  obtain ⟨f1, f2, f3, f4⟩ := small_facts x hx
  have e1 : (FloatKind.f64.format.order x x != some .eq) = false := (isnan_iff x).trans f1
  have e2 : (FloatKind.f64.format.order x 0 == some .lt) = false := by
    refine (lt_ky x 0 f1 nan_zero).trans (decide_eq_false ?_); rw [ky_zero]; omega
  have e3 : (FloatKind.f64.format.order x 4607182418800017408 == some .gt) = false := by
    refine (gt_ky x 4607182418800017408 f1 (by decide)).trans (decide_eq_false ?_)
    rw [show ky 4607182418800017408 = 4607182418800017408 by decide]
    have : ONE = 4607182418800017408 := rfl
    omega
  have k3 : floatToIntVal .f64 q2 .i64 = some (n : Int) := by
    unfold floatToIntVal
    have : (FloatKind.f64.decode q2).toInt .zero = some (n : Int) := m3
    rw [this]
    have c1 : IntKind.i64.min = -9223372036854775808 := by decide
    have c2 : IntKind.i64.max = 9223372036854775807 := by decide
    simp only [c1, c2]
    rw [if_pos (by omega)]
  have h := percent_calls x q1 q2 n W (fun _ _ _ => ⟨m1, m2, k3⟩)
  rw [e1, e2, e3] at h
  simpa using h
theorem walk (a b c : Nat) (W : World) (wa : (Lit.float .f64 a).wf = true) (wb : (Lit.float .f64 b).wf = true) (wc : (Lit.float .f64 c).wf = true) :
    Calls Try.prog 4 #[.float .f64 a, .float .f64 b, .float .f64 c] W fun e w' => e = .returned (.bool true) ∧ Below W.heap.size W w' := by
  have ha := b64 wa
  have hb := b64 wb
  have hc := b64 wc
  have S1 := fun W => share_calls' a b hb W
  have S2 := fun W => share_calls' c b hb W
  have S3 := fun W => share_calls' b b hb W
  have O0 : ∀ x, isnan x = false → (FloatKind.f64.format.order x 0 == some .lt) = decide (ky x < 0) := fun x h => by
    refine (lt_ky x 0 h nan_zero).trans ?_; rw [ky_zero]
  by_cases hgood : isnan a = false ∧ isnan b = false ∧ 0 ≤ ky a ∧ 0 < ky b
  · obtain ⟨n1, n2, k1, k2⟩ := hgood
    obtain ⟨v1, v2, v3, v4⟩ := share_val a b ha hb n1 n2 k1 k2
    have hbb := (share_val b b hb hb n2 n2 (by omega) k2).2.1 (Int.le_refl _)
    rw [hbb] at S3
    obtain ⟨n, hn, P1⟩ := percent_share (share a b) v1 W
    obtain ⟨f1, f2, f3, f4⟩ := small_facts (share a b) v1
    have hO : ONE = 4607182418800017408 := rfl
    refine gs_some a b c (share a b) (share c b) (n : Int) W S1 S2 S3 P1 ?_ ?_ ?_ ?_ (decide_eq_false (by omega)) (decide_eq_false (by omega)) ?_
    · exact (eq_ky _ _ f1 f1).trans (decide_eq_true rfl)
    · rw [O0 _ f1]; exact decide_eq_false (by omega)
    · refine (gt_ky (share a b) 4607182418800017408 f1 (by decide)).trans (decide_eq_false ?_)
      rw [show ky 4607182418800017408 = 4607182418800017408 by decide]
      omega
    · intro h
      have h2 := (eq_ky (share a b) 0 f1 nan_zero).symm.trans h
      have h3 := of_decide_eq_true h2
      rw [ky_zero] at h3
      omega
    · intro hy hac
      have ny : isnan (share c b) = false := by
        have := isnan_iff (share c b)
        have h2 : (Ieee.double.order (share c b) (share c b) == some .eq) = true := hy
        rw [← this, bne, h2]; rfl
      have nc : isnan c = false := by
        cases q : isnan c
        · rfl
        · have : FloatKind.f64.format.order a c = none := order_nan a c (.inr q)
          rw [this] at hac
          exact absurd hac (by decide)
      have hle : ky a ≤ ky c := by
        have e1 : (FloatKind.f64.format.order a c == some .lt) = decide (ky a < ky c) := lt_ky a c n1 nc
        have e2 : (FloatKind.f64.format.order a c == some .eq) = decide (ky a = ky c) := eq_ky a c n1 nc
        rw [e1, e2, Bool.or_eq_true, decide_eq_true_eq, decide_eq_true_eq] at hac
        omega
      obtain ⟨u1, u2, u3, u4⟩ := share_val c b hc hb nc n2 (by omega) k2
      obtain ⟨g1, g2, g3, g4⟩ := small_facts (share c b) u1
      refine (gt_ky (share a b) (share c b) f1 g1).trans (decide_eq_false ?_)
      rw [f2, g2]
      obtain ⟨ea, ia, _⟩ := nonneg_of a ha n1 k1
      obtain ⟨ec, ic, _⟩ := nonneg_of c hc nc (by omega)
      have key : share a b ≤ share c b := by
        by_cases h1 : ky b ≤ ky c
        · rw [u2 h1]; exact v1
        · by_cases h2 : rg b = INF ∨ rg a = 0
          · rw [v3 (by omega) h2]; exact Nat.zero_le _
          · obtain ⟨s, e, p, q⟩ := pos_of b hb n2 k2
            have hi := inf_sw
            have cI : ONE < INF := by decide
            exact div_mono _ _ (V (rg a)) (V (rg c)) (V (rg b)) (V_le (by omega)) (by omega) (v4 (by omega) (by omega) (by omega)) (u4 (by omega) (by omega) (by omega))
      omega
  · have hcond : ((FloatKind.f64.format.order a a != some .eq) || (FloatKind.f64.format.order b b != some .eq) || (FloatKind.f64.format.order a 0 == some .lt) || !(FloatKind.f64.format.order b 0 == some .gt)) = true ∧ share a b = 9221120237041090561 := by
      have c1 : (FloatKind.f64.format.order a a != some .eq) = isnan a := isnan_iff a
      have c2 : (FloatKind.f64.format.order b b != some .eq) = isnan b := isnan_iff b
      unfold share
      rw [c1, c2]
      cases n1 : isnan a
      · cases n2 : isnan b
        · have c4 : (FloatKind.f64.format.order b 0 == some .lt) = decide (ky b < 0) := O0 b n2
          have c5 : (FloatKind.f64.format.order b 0 == some .eq) = decide (ky b = 0) := by
            refine (eq_ky b 0 n2 nan_zero).trans ?_; rw [ky_zero]
          have c6 : (FloatKind.f64.format.order b 0 == some .gt) = decide (0 < ky b) := by
            refine (gt_ky b 0 n2 nan_zero).trans ?_; rw [ky_zero]
          rw [O0 a n1, c4, c5, c6]
          by_cases h1 : ky a < 0
          · rw [decide_eq_true h1]; simp
          · have h2 : ¬ 0 < ky b := fun h => hgood ⟨n1, n2, by omega, h⟩
            have h3 : (decide (ky b < 0) || decide (ky b = 0)) = true := by
              rw [Bool.or_eq_true, decide_eq_true_eq, decide_eq_true_eq]; omega
            rw [decide_eq_false h2, h3]; simp
        · simp
      · simp
    rw [hcond.2] at S1
    exact gs_none a b c (share c b) W S1 S2 percent_nan hcond.1
end Go.Proofs.Ytcfopjfimobbjaa.GS
