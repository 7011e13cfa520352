/- The gauge's and the reference's same, share and least are one. -/
import Derived.Test.YtcfopjfimobbjaaPureGaugeWhole
import Derived.Test.YtcfopjfimobbjaaWGaugeF
namespace Go.Proofs.Ytcfopjfimobbjaa.GX
set_option linter.unusedVariables false
set_option linter.unusedSimpArgs false
open Go Go.RowKit
open Go.Proofs.Ytcfopjfimobbjaa.FL Go.Proofs.Ytcfopjfimobbjaa.WG Go.Proofs.Ytcfopjfimobbjaa.GS Go.Proofs.Ytcfopjfimobbjaa.GW
theorem neg_bit (x : Nat) (h : x < 2 ^ 64) : decide (wrap64 (x : Int) < 0) = sg x := by
  have hs := split x h
  have hS : SW = 9223372036854775808 := rfl
  have hr : rg x < SW := Nat.mod_lt _ (by decide)
  unfold wrap64
  cases hc : sg x <;> rw [hc] at hs <;> simp only [Bool.false_eq_true, if_true, if_false] at hs
  · rw [decide_eq_false_iff_not]
    omega
  · rw [decide_eq_true_eq]
    omega
theorem signed_sg (x : Nat) (h : x < 2 ^ 64) (hn : isnan x = false) : signed x = sg x := by
  have hs := split x h
  have hS : SW = 9223372036854775808 := rfl
  have c1 : (FloatKind.f64.format.order x 0 == some .lt) = decide (ky x < 0) := by
    refine (lt_ky x 0 hn nan_zero).trans ?_; rw [ky_zero]
  have c2 : (FloatKind.f64.format.order x 0 == some .eq) = decide (ky x = 0) := by
    refine (eq_ky x 0 hn nan_zero).trans ?_; rw [ky_zero]
  unfold signed
  rw [c1, c2]
  unfold ky sv
  cases hc : sg x <;> rw [hc] at hs <;> simp only [Bool.false_eq_true, if_true, if_false] at hs ⊢
  · rw [Bool.or_eq_false_iff, Bool.and_eq_false_iff, decide_eq_false_iff_not, decide_eq_false_iff_not, decide_eq_false_iff_not]
    omega
  · rw [Bool.or_eq_true, Bool.and_eq_true, decide_eq_true_eq, decide_eq_true_eq, decide_eq_true_eq]
    omega
theorem same_ref (a b : Nat) (ha : a < 2 ^ 64) (hb : b < 2 ^ 64) : refsame a b = same a b := by
  have c1 : (FloatKind.f64.format.order a a != some .eq) = isnan a := isnan_iff a
  have c2 : (FloatKind.f64.format.order b b != some .eq) = isnan b := isnan_iff b
  unfold refsame same
  rw [c1, c2, neg_bit a ha, neg_bit b hb]
  cases n1 : isnan a
  · cases n2 : isnan b
    · rw [signed_sg a ha n1, signed_sg b hb n2]
    · rfl
  · rfl
theorem same_refl (a : Nat) : same a a = true := by
  have c1 : (FloatKind.f64.format.order a a != some .eq) = isnan a := isnan_iff a
  unfold same
  rw [c1]
  cases n1 : isnan a
  · have c2 : (FloatKind.f64.format.order a a == some .eq) = decide (ky a = ky a) := eq_ky a a n1 n1
    rw [c2, decide_eq_true rfl]
    cases decide (wrap64 (a : Int) < 0) <;> rfl
  · rfl
theorem both_nan (a b : Nat) (ha : isnan a = true) (hb : isnan b = true) : same a b = true := by
  have c1 : (FloatKind.f64.format.order a a != some .eq) = true := (isnan_iff a).trans ha
  have c2 : (FloatKind.f64.format.order b b != some .eq) = true := (isnan_iff b).trans hb
  unfold same
  rw [c1, c2]
  rfl
/-- The reference's Same, called. -/
theorem same8 (a b : Nat) (v : Bool) (ha : a < 2 ^ 64) (hb : b < 2 ^ 64) (h : same a b = v) (W : World) : Calls Try.prog 8 #[.float .f64 a, .float .f64 b] W fun e w' => e = .returned (.bool v) ∧ W = w' := by
  have := refsame_calls a b W (eq_zero a ha) (eq_zero b hb)
  rw [same_ref a b ha hb, h] at this
  exact this
theorem nan0_lt : (9221120237041090561 : Nat) < 2 ^ 64 := by decide
theorem nan0 : isnan 9221120237041090561 = true := by decide
theorem V_two : V 4611686018427387904 = 2 * 2 ^ 1074 := by decide +kernel
theorem half_not (b T : Nat) (hT : 0 < T) (hb : 1 < b) (h : (V (b - 1) + V b) * (2 * T) < 2 * V b * T ∨ (V (b - 1) + V b) * (2 * T) = 2 * V b * T) : False := by
  have h0 : 0 < V (b - 1) := by have := V_lt (show 0 < b - 1 by omega); rw [V_zero] at this; exact this
  have e1 : (V (b - 1) + V b) * (2 * T) = 2 * (V (b - 1) + V b) * T := by rw [← Nat.mul_assoc, Nat.mul_comm _ 2]
  have h2 : 2 * (V (b - 1) + V b) * T ≤ 2 * V b * T := by rw [← e1]; omega
  have h3 := Nat.le_of_mul_le_mul_right h2 hT
  omega
/-- A finite number has a half, which is not the number. -/
theorem half_of (b : Nat) (hb : b < 2 ^ 64) (hs : sg b = false) (hr : rg b < INF) (h1 : 1 < rg b) : ∃ q, floatBits .quo .f64 b 4611686018427387904 = some q ∧ (FloatKind.f64.format.order q b == some .eq) = false := by
  have r2 : rg 4611686018427387904 = 4611686018427387904 := by decide
  have s2 : sg 4611686018427387904 = false := by decide
  obtain ⟨u, d1, d2, d3⟩ := div_rung b 4611686018427387904 hr (by rw [r2]; decide) (by rw [r2]; decide)
  rw [hs, s2] at d1
  have hi := inf_sw
  have ru := rg_small u (by omega)
  have su := sg_small u (by omega)
  have nu : isnan u = false := by unfold isnan; rw [ru, decide_eq_false_iff_not]; omega
  have nb : isnan b = false := by unfold isnan; rw [decide_eq_false_iff_not]; omega
  have ku : ky u = (u : Int) := by unfold ky sv; rw [su, ru]; rfl
  have kb : ky b = (rg b : Int) := by unfold ky sv; rw [hs]; rfl
  refine ⟨u, d1, (eq_ky u b nu nb).trans (decide_eq_false ?_)⟩
  rw [ku, kb]
  intro he
  have he2 : u = rg b := by omega
  have hm := (d3 (rg b) (by omega) (by omega)).1 (by omega)
  rw [r2, V_two] at hm
  unfold DivMid at hm
  exact half_not (rg b) _ (Nat.two_pow_pos 1074) h1 (hm.imp id fun h => h.1)
theorem div_inf (a : Nat) (ha : rg a < INF) (hs : sg a = false) : floatBits .quo .f64 a 9218868437227405312 = some 0 := by
  obtain ⟨m, k, r1, v1⟩ := read_num a ha
  have r2 : Ieee.double.read 9218868437227405312 = .infinity false := by decide
  show Ieee.double.div a 9218868437227405312 = some 0
  unfold Ieee.Format.div
  rw [r1, r2, hs]
  rfl
theorem dz1 : floatBits .quo .f64 0 9218868437227405312 = some 0 := by kernel_rfl
theorem dz2 : floatBits .quo .f64 9223372036854775808 9218868437227405312 = some 9223372036854775808 := by kernel_rfl
theorem nonneg_split (a : Nat) (ha : a < 2 ^ 64) (hn : isnan a = false) (h : 0 ≤ ky a) : a = rg a ∨ a = 9223372036854775808 := by
  obtain ⟨ea, ia, sa⟩ := nonneg_of a ha hn h
  have hsp := split a ha
  have hS : SW = 9223372036854775808 := rfl
  cases hsg : sg a <;> rw [hsg] at hsp <;> simp only [Bool.false_eq_true, if_true, if_false] at hsp
  · exact .inl hsp
  · right
    have : ¬ 0 < rg a := fun h => by rw [sa h] at hsg; exact absurd hsg (by decide)
    omega
theorem share_none (a b : Nat) (h : ((FloatKind.f64.format.order a a != some .eq) || (FloatKind.f64.format.order b b != some .eq) || (FloatKind.f64.format.order a 0 == some .lt) || !(FloatKind.f64.format.order b 0 == some .gt)) = true) : share a b = 9221120237041090561 := by
  have c1 : (FloatKind.f64.format.order a a != some .eq) = isnan a := isnan_iff a
  have c2 : (FloatKind.f64.format.order b b != some .eq) = isnan b := isnan_iff b
  unfold share
  rw [c1, c2] at h ⊢
  cases n1 : isnan a
  · cases n2 : isnan b
    · have c4 : (FloatKind.f64.format.order b 0 == some .lt) = decide (ky b < 0) := by
        refine (lt_ky b 0 n2 nan_zero).trans ?_; rw [ky_zero]
      have c5 : (FloatKind.f64.format.order b 0 == some .eq) = decide (ky b = 0) := by
        refine (eq_ky b 0 n2 nan_zero).trans ?_; rw [ky_zero]
      have c6 : (FloatKind.f64.format.order b 0 == some .gt) = decide (0 < ky b) := by
        refine (gt_ky b 0 n2 nan_zero).trans ?_; rw [ky_zero]
      rw [n1, n2, c6] at h
      rw [c4, c5]
      have e : (decide (ky b < 0) || decide (ky b = 0)) = !decide (0 < ky b) := by
        rw [Bool.eq_iff_iff, Bool.or_eq_true, Bool.not_eq_true', decide_eq_true_eq, decide_eq_true_eq, decide_eq_false_iff_not]
        omega
      rw [e, if_pos h]
    · simp
  · simp
/-- The reference's share is the gauge's. -/
theorem refshare_ok (a b : Nat) (ha : a < 2 ^ 64) (hb : b < 2 ^ 64) (W : World) : Calls Try.prog 10 #[.float .f64 a, .float .f64 b] W fun e w' => ∃ r n, e = .returned (.float .f64 r) ∧ r < 2 ^ 64 ∧ same (share a b) r = true ∧ w' = W.drewN n := by
  have c1 : (FloatKind.f64.format.order a a != some .eq) = isnan a := isnan_iff a
  have c2 : (FloatKind.f64.format.order b b != some .eq) = isnan b := isnan_iff b
  cases hc : ((FloatKind.f64.format.order a a != some .eq) || (FloatKind.f64.format.order b b != some .eq) || (FloatKind.f64.format.order a 0 == some .lt) || !(FloatKind.f64.format.order b 0 == some .gt))
  case true =>
    refine (refshare_none a b W hc).mono ?_
    rintro e w' ⟨r, h1, h2, h3, h4⟩
    exact ⟨r, 1, h1, h3, by rw [share_none a b hc]; exact both_nan _ _ nan0 h2, h4⟩
  case false =>
    rw [Bool.or_eq_false_iff, Bool.or_eq_false_iff, Bool.or_eq_false_iff] at hc
    obtain ⟨⟨⟨h1, h2⟩, h3⟩, h4⟩ := hc
    have h4 : (FloatKind.f64.format.order b 0 == some .gt) = true := by rw [← Bool.not_eq_false']; exact h4
    have n1 : isnan a = false := c1.symm.trans h1
    have n2 : isnan b = false := c2.symm.trans h2
    have e3 : (FloatKind.f64.format.order a 0 == some .lt) = decide (ky a < 0) := by
      refine (lt_ky a 0 n1 nan_zero).trans ?_; rw [ky_zero]
    have e4 : (FloatKind.f64.format.order b 0 == some .gt) = decide (0 < ky b) := by
      refine (gt_ky b 0 n2 nan_zero).trans ?_; rw [ky_zero]
    have k1 := of_decide_eq_false (e3.symm.trans h3)
    have k2 := of_decide_eq_true (e4.symm.trans h4)
    obtain ⟨s, e, p, q⟩ := pos_of b hb n2 k2
    obtain ⟨ea, ia, sa⟩ := nonneg_of a ha n1 (by omega)
    have eb : ky b = (rg b : Int) := by unfold ky sv; rw [s]; rfl
    have hI : INF = 9218868437227405312 := rfl
    have c5 : (FloatKind.f64.format.order a b == some .gt) = decide (ky b < ky a) := gt_ky a b n1 n2
    have c5b : (FloatKind.f64.format.order a b == some .eq) = decide (ky a = ky b) := eq_ky a b n1 n2
    have c7 : (FloatKind.f64.format.order a 0 == some .eq) = decide (ky a = 0) := by
      refine (eq_ky a 0 n1 nan_zero).trans ?_; rw [ky_zero]
    have c8 : (FloatKind.f64.format.order b 9214871658872686752 == some .gt) = decide ((9214871658872686752 : Int) < ky b) := by
      refine (gt_ky b _ n2 (by decide)).trans ?_
      rw [show ky 9214871658872686752 = 9214871658872686752 by decide]
    obtain ⟨v1, v2, v3, v4⟩ := share_val a b ha hb n1 n2 (by omega) k2
    have hO : ONE = 4607182418800017408 := rfl
    have fin : ∀ r, r = share a b → r < 2 ^ 64 ∧ same (share a b) r = true := by
      rintro r rfl
      exact ⟨by omega, same_refl _⟩
    -- the two steps of the reference, whatever the number
    have steps : ∃ q, floatBits .quo .f64 b 4611686018427387904 = some q ∧ ((FloatKind.f64.format.order b 9214871658872686752 == some .gt) && (FloatKind.f64.format.order q b == some .eq)) = decide (rg b = INF) := by
      rcases Nat.lt_or_ge (rg b) INF with hf | hf
      · rw [decide_eq_false (by omega)]
        rcases Nat.lt_or_ge 1 (rg b) with hr | hr
        · obtain ⟨q, q1, q2⟩ := half_of b hb s hf hr
          exact ⟨q, q1, by rw [q2, Bool.and_false]⟩
        · obtain ⟨q, hq⟩ := Option.isSome_iff_exists.1 (div_some b 4611686018427387904 n2 (by decide) (by decide))
          exact ⟨q, hq, by rw [c8, decide_eq_false (by omega), Bool.false_and]⟩
      · obtain rfl : b = 9218868437227405312 := by omega
        exact ⟨9218868437227405312, by kernel_rfl, by rw [decide_eq_true (by decide)]; kernel_rfl⟩
    obtain ⟨q, hq, hq2⟩ := steps
    have quot : (FloatKind.f64.format.order a b == some .gt || FloatKind.f64.format.order a b == some .eq) = false → floatBits .quo .f64 a b = some ((floatBits .quo .f64 a b).getD 0) := by
      intro hlt
      rw [c5, c5b, Bool.or_eq_false_iff, decide_eq_false_iff_not, decide_eq_false_iff_not] at hlt
      rcases Nat.lt_or_ge (rg b) INF with hf | hf
      · obtain ⟨d, hd⟩ := Option.isSome_iff_exists.1 (div_some a b n1 hf p)
        have hd2 : floatBits .quo .f64 a b = some d := hd
        rw [hd2]
        rfl
      · obtain rfl : b = 9218868437227405312 := by omega
        rcases Nat.eq_zero_or_pos (rg a) with h0 | h0
        · rcases nonneg_split a ha n1 (by omega) with h | rfl
          · obtain rfl : a = 0 := by omega
            rw [dz1]
            rfl
          · rw [dz2]
            rfl
        · rw [div_inf a (by omega) (sa h0)]
          rfl
    refine (refshare_num a b q ((floatBits .quo .f64 a b).getD 0) W h1 h2 h3 h4 hq quot).mono ?_
    rintro e' w' ⟨rfl, rfl⟩
    have hval : (if (FloatKind.f64.format.order a b == some .gt || FloatKind.f64.format.order a b == some .eq) = true then 4607182418800017408 else if ((FloatKind.f64.format.order a 0 == some .eq) || ((FloatKind.f64.format.order b 9214871658872686752 == some .gt) && (FloatKind.f64.format.order q b == some .eq))) = true then 0 else (floatBits .quo .f64 a b).getD 0) = share a b := by
      have c6 : (FloatKind.f64.format.order b 9218868437227405311 == some .gt) = decide (rg b = INF) := by
        refine (gt_ky b _ n2 (by decide)).trans ?_
        rw [show ky 9218868437227405311 = 9218868437227405311 by decide, eb]
        rw [Bool.eq_iff_iff, decide_eq_true_eq, decide_eq_true_eq]
        omega
      have c4 : (FloatKind.f64.format.order b 0 == some .lt) = false := by
        refine (lt_ky b 0 n2 nan_zero).trans (decide_eq_false ?_); rw [ky_zero]; omega
      have c4b : (FloatKind.f64.format.order b 0 == some .eq) = false := by
        refine (eq_ky b 0 n2 nan_zero).trans (decide_eq_false ?_); rw [ky_zero]; omega
      unfold share
      rw [h1, h2, h3, c4, c4b, c6, hq2, Bool.or_comm (FloatKind.f64.format.order a 0 == some .eq)]
      rfl
    obtain ⟨f1, f2⟩ := fin _ hval
    exact ⟨_, 0, rfl, f1, f2, rfl⟩
/-- The least one, by both. -/
theorem least_ref (b : Nat) (hb : isnan b = true) : ∀ l : List Nat, (∀ y ∈ l, y < 2 ^ 64) → ((refleast b l).2 = false ∧ isnan (least l) = true ∧ isnan (refleast b l).1 = true) ∨ ((refleast b l).2 = true ∧ isnan (least l) = false ∧ least l = (refleast b l).1 ∧ least l < 2 ^ 64) := by
  suffices h : ∀ (l : List Nat) (x : Nat) (p : Nat × Bool), (∀ y ∈ l, y < 2 ^ 64) → ((p.2 = false ∧ isnan x = true ∧ isnan p.1 = true) ∨ (p.2 = true ∧ isnan x = false ∧ x = p.1 ∧ x < 2 ^ 64)) → (((l.foldl rstep p).2 = false ∧ isnan (l.foldl WG.step x) = true ∧ isnan (l.foldl rstep p).1 = true) ∨ ((l.foldl rstep p).2 = true ∧ isnan (l.foldl WG.step x) = false ∧ l.foldl WG.step x = (l.foldl rstep p).1 ∧ l.foldl WG.step x < 2 ^ 64)) by
    intro l hl
    exact h l _ (b, false) hl (.inl ⟨rfl, nan0, hb⟩)
  intro l
  induction l with
  | nil => intro x p _ h; exact h
  | cons y l ih =>
    intro x p hl h
    refine ih _ _ (fun z hz => hl z (List.mem_cons_of_mem _ hz)) ?_
    have hy := hl y (List.mem_cons_self ..)
    have cy : (FloatKind.f64.format.order y y != some .eq) = isnan y := isnan_iff y
    have cx : (FloatKind.f64.format.order x x != some .eq) = isnan x := isnan_iff x
    unfold WG.step rstep
    rw [cy, cx]
    cases ny : isnan y
    · rcases h with ⟨h1, h2, h3⟩ | ⟨h1, h2, h3, h4⟩
      · rw [h1, h2]
        exact .inr ⟨rfl, ny, rfl, hy⟩
      · rw [h1, h2, ← h3]
        have e1 : (FloatKind.f64.format.order y x == some .lt) = decide (ky y < ky x) := lt_ky y x ny h2
        have e2 : (FloatKind.f64.format.order y x == some .eq) = decide (ky y = ky x) := eq_ky y x ny h2
        unfold WG.ahead
        rw [e1, e2, signed_sg y hy ny, neg_bit y hy, neg_bit x h4]
        by_cases k1 : ky y < ky x
        · rw [decide_eq_true k1]
          exact .inr ⟨rfl, ny, rfl, hy⟩
        · rw [decide_eq_false k1]
          by_cases k2 : ky y = ky x
          · rw [decide_eq_true k2]
            cases s1 : sg y
            · exact .inr ⟨h1, h2, h3, h4⟩
            · cases s2 : sg x
              · exact .inr ⟨rfl, ny, rfl, hy⟩
              · obtain rfl := ky_inj y x hy h4 k2 (s1.trans s2.symm)
                exact .inr ⟨rfl, ny, rfl, hy⟩
          · rw [decide_eq_false k2]
            exact .inr ⟨h1, h2, h3, h4⟩
    · exact h
theorem least_lt (l : List Nat) (hl : ∀ y ∈ l, y < 2 ^ 64) : least l < 2 ^ 64 := by
  suffices h : ∀ (l : List Nat) (x : Nat), (∀ y ∈ l, y < 2 ^ 64) → x < 2 ^ 64 → l.foldl WG.step x < 2 ^ 64 from h l _ hl nan0_lt
  intro l
  induction l with
  | nil => intro x _ h; exact h
  | cons y l ih =>
    intro x hl h
    refine ih _ (fun z hz => hl z (List.mem_cons_of_mem _ hz)) ?_
    have hy := hl y (List.mem_cons_self ..)
    unfold WG.step
    split
    · exact h
    · split
      · exact hy
      · exact h
theorem refleast_lt (b : Nat) (hb : b < 2 ^ 64) (l : List Nat) (hl : ∀ y ∈ l, y < 2 ^ 64) : (refleast b l).1 < 2 ^ 64 := by
  suffices h : ∀ (l : List Nat) (p : Nat × Bool), (∀ y ∈ l, y < 2 ^ 64) → p.1 < 2 ^ 64 → (l.foldl rstep p).1 < 2 ^ 64 from h l _ hl hb
  intro l
  induction l with
  | nil => intro x _ h; exact h
  | cons y l ih =>
    intro x hl h
    refine ih _ (fun z hz => hl z (List.mem_cons_of_mem _ hz)) ?_
    have hy := hl y (List.mem_cons_self ..)
    unfold rstep
    split
    · exact h
    · split
      · exact hy
      · exact h
theorem least_same (b : Nat) (hb : isnan b = true) (l : List Nat) (hl : ∀ y ∈ l, y < 2 ^ 64) : same (least l) (refleast b l).1 = true := by
  rcases least_ref b hb l hl with ⟨_, h2, h3⟩ | ⟨_, _, h3, _⟩
  · exact both_nan _ _ h2 h3
  · rw [← h3]; exact same_refl _
/-- A share's percent, by both. -/
theorem percent_both (a : Nat) (ha : a < 2 ^ 64) : ∃ n : Int, (∀ W, Calls Try.prog 11 #[.float .f64 a] W fun e w' => e = .returned (.int .i64 n) ∧ W = w') ∧ (∀ W, Calls Try.prog 12 #[.float .f64 a] W fun e w' => e = .returned (.int .i64 n) ∧ W = w') := by
  have c1 : (FloatKind.f64.format.order a a != some .eq) = isnan a := isnan_iff a
  have key : ∃ q1 q2 : Nat, ∃ n : Int, (FloatKind.f64.format.order a a != some .eq) = false → (FloatKind.f64.format.order a 0 == some .lt) = false → (FloatKind.f64.format.order a 4607182418800017408 == some .gt) = false → floatBits .mul .f64 4636737291354636288 a = some q1 ∧ floatBits .add .f64 q1 4602678819172646912 = some q2 ∧ floatToIntVal .f64 q2 .i64 = some n := by
    by_cases hg : (FloatKind.f64.format.order a a != some .eq) = false ∧ (FloatKind.f64.format.order a 0 == some .lt) = false ∧ (FloatKind.f64.format.order a 4607182418800017408 == some .gt) = false
    · obtain ⟨h1, h2, h3⟩ := hg
      have n1 : isnan a = false := c1.symm.trans h1
      have e2 : (FloatKind.f64.format.order a 0 == some .lt) = decide (ky a < ky 0) := lt_ky a 0 n1 nan_zero
      have e3 : (FloatKind.f64.format.order a 4607182418800017408 == some .gt) = decide (ky 4607182418800017408 < ky a) := gt_ky a _ n1 (by decide)
      have k2 := of_decide_eq_false (e2.symm.trans h2)
      have k3 := of_decide_eq_false (e3.symm.trans h3)
      rw [ky_zero] at k2
      rw [show ky 4607182418800017408 = 4607182418800017408 by decide] at k3
      obtain ⟨ea, ia, sa⟩ := nonneg_of a ha n1 (by omega)
      have hO : ONE = 4607182418800017408 := rfl
      rcases nonneg_split a ha n1 (by omega) with h | rfl
      · replace h : a ≤ ONE := by omega
        obtain ⟨q1, q2, n, m1, m2, m3, m4, _⟩ := percent_pos a h
        refine ⟨q1, q2, (n : Int), fun _ _ _ => ⟨m1, m2, ?_⟩⟩
        unfold floatToIntVal
        have : (FloatKind.f64.decode q2).toInt .zero = some (n : Int) := m3
        rw [this]
        have c1 : IntKind.i64.min = -9223372036854775808 := by decide
        have c2 : IntKind.i64.max = 9223372036854775807 := by decide
        simp only [c1, c2]
        rw [if_pos (by omega)]
      · exact ⟨9223372036854775808, 4602678819172646912, 0, fun _ _ _ => ⟨by kernel_rfl, by kernel_rfl, by kernel_rfl⟩⟩
    · exact ⟨0, 0, 0, fun h1 h2 h3 => absurd ⟨h1, h2, h3⟩ hg⟩
  obtain ⟨q1, q2, n, hq⟩ := key
  exact ⟨_, fun W => percent_calls a q1 q2 n W hq, fun W => refpercent_calls a q1 q2 n W hq⟩
end Go.Proofs.Ytcfopjfimobbjaa.GX
