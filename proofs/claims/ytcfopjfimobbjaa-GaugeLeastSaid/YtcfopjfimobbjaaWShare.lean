/- The walk of the law GaugeShare. Written by this session's program wip/gen/wshare.py. -/
import Derived.Test.YtcfopjfimobbjaaWGaugeG
namespace Go.Proofs.Ytcfopjfimobbjaa.WG
set_option linter.unusedVariables false
set_option linter.unusedSimpArgs false
open Go Go.RowKit
open Go.Proofs.Ytcfopjfimobbjaa.FL (isnan)
set_option maxHeartbeats 8000000 in
set_option maxRecDepth 100000 in
theorem gs_none (a b c y : Nat) (w : World)
    (S1 : ∀ W, Calls Try.prog 9 #[.float .f64 a, .float .f64 b] W fun e w' => e = .returned (.float .f64 9221120237041090561) ∧ W = w')
    (S2 : ∀ W, Calls Try.prog 9 #[.float .f64 c, .float .f64 b] W fun e w' => e = .returned (.float .f64 y) ∧ W = w')
    (P1 : ∀ W, Calls Try.prog 11 #[.float .f64 9221120237041090561] W fun e w' => e = .returned (.int .i64 (-1)) ∧ W = w')
    (hc : ((FloatKind.f64.format.order a a != some .eq) || (FloatKind.f64.format.order b b != some .eq) || (FloatKind.f64.format.order a 0 == some .lt) || !(FloatKind.f64.format.order b 0 == some .gt)) = true) :
    Calls Try.prog 4 #[.float .f64 a, .float .f64 b, .float .f64 c] w fun e w' => e = .returned (.bool true) ∧ Below w.heap.size w w' := by
  have S3 := S1
  have hn : (FloatKind.f64.format.order 9221120237041090561 9221120237041090561 == some .eq) = false := by kernel_rfl
  cases h1 : (FloatKind.f64.format.order a a != some .eq) <;> cases h2 : (FloatKind.f64.format.order b b != some .eq) <;> cases h3 : (FloatKind.f64.format.order a 0 == some .lt) <;> cases h4 : (FloatKind.f64.format.order b 0 == some .gt)
  all_goals first
    | (exfalso; rw [h1, h2, h3, h4] at hc; exact absurd hc (by decide))
    | (clear hc
       go_enter Try.func4, Try.ntmps4
       go_wp2_with (first | (go_at_call 9; (first | (with_reducible refine (S1 _).mono ?_) | (with_reducible refine (S2 _).mono ?_) | (with_reducible refine (S3 _).mono ?_)); rintro e w' ⟨rfl, rfl⟩) | (go_at_call 11; (first | (with_reducible refine (P1 _).mono ?_)); rintro e w' ⟨rfl, rfl⟩) | (go_at_call 16; (with_reducible refine (wakes_calls _).mono ?_); rintro e w' ⟨rfl, hb⟩))
       all_goals (go_ret; exact ⟨rfl, hb⟩))
set_option maxHeartbeats 8000000 in
set_option maxRecDepth 100000 in
theorem gs_some (a b c x y : Nat) (n : Int) (w : World)
    (S1 : ∀ W, Calls Try.prog 9 #[.float .f64 a, .float .f64 b] W fun e w' => e = .returned (.float .f64 x) ∧ W = w')
    (S2 : ∀ W, Calls Try.prog 9 #[.float .f64 c, .float .f64 b] W fun e w' => e = .returned (.float .f64 y) ∧ W = w')
    (S3 : ∀ W, Calls Try.prog 9 #[.float .f64 b, .float .f64 b] W fun e w' => e = .returned (.float .f64 4607182418800017408) ∧ W = w')
    (P1 : ∀ W, Calls Try.prog 11 #[.float .f64 x] W fun e w' => e = .returned (.int .i64 n) ∧ W = w')
    (k1 : (FloatKind.f64.format.order x x == some .eq) = true) (k2 : (FloatKind.f64.format.order x 0 == some .lt) = false) (k3 : (FloatKind.f64.format.order x 4607182418800017408 == some .gt) = false) (k4 : (FloatKind.f64.format.order x 0 == some .eq) = true → x = 0)
    (n0 : decide (n < 0) = false) (n1 : decide (100 < n) = false)
    (hm : (FloatKind.f64.format.order y y == some .eq) = true → (FloatKind.f64.format.order a c == some .lt || FloatKind.f64.format.order a c == some .eq) = true → (FloatKind.f64.format.order x y == some .gt) = false) :
    Calls Try.prog 4 #[.float .f64 a, .float .f64 b, .float .f64 c] w fun e w' => e = .returned (.bool true) ∧ Below w.heap.size w w' := by
  have i0 : (FloatKind.f64.format.order 4607182418800017408 4607182418800017408 == some .eq) = true := by kernel_rfl
  have i1 : (FloatKind.f64.format.order 9218868437227405312 0 == some .lt) = false := by kernel_rfl
  have run : ∀ t W, (binOp .quo t (.float .f64 4607182418800017408) (.float .f64 0)).run Try.prog W = .ok (.float .f64 9218868437227405312) W := fun t W => run_float_arith W .quo t .f64 _ _ _ (by kernel_rfl)
  have k1b : (FloatKind.f64.format.order x x != some .eq) = false := by rw [bne, k1]; rfl
  cases h1 : (FloatKind.f64.format.order x 0 == some .eq)
  case' true => obtain rfl := k4 h1
  all_goals
    (clear k4
     cases h2 : (FloatKind.f64.format.order y y == some .eq) <;> cases h3 : (FloatKind.f64.format.order a c == some .lt || FloatKind.f64.format.order a c == some .eq)
     case' true.true => have h4 := hm h2 h3
     all_goals
       (clear hm
        go_enter Try.func4, Try.ntmps4
        go_wp2_with (first | (go_at_call 9; (first | (with_reducible refine (S1 _).mono ?_) | (with_reducible refine (S2 _).mono ?_) | (with_reducible refine (S3 _).mono ?_)); rintro e w' ⟨rfl, rfl⟩) | (go_at_call 11; (first | (with_reducible refine (P1 _).mono ?_)); rintro e w' ⟨rfl, rfl⟩) | (go_at_call 16; (with_reducible refine (wakes_calls _).mono ?_); rintro e w' ⟨rfl, hb⟩))
        all_goals (go_ret; exact ⟨rfl, hb⟩)))
end Go.Proofs.Ytcfopjfimobbjaa.WG
