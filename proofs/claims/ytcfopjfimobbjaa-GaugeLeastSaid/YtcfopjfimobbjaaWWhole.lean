/- The walk of the law GaugeWhole. -/
import Derived.Test.YtcfopjfimobbjaaWGaugeG
import Derived.Deep.QuietTactic
import Derived.BigQuiet
namespace Go.Proofs.Ytcfopjfimobbjaa.WG
set_option linter.unusedVariables false
set_option linter.unusedSimpArgs false
open Go Go.RowKit
set_option maxHeartbeats 8000000 in
set_option maxRecDepth 100000 in
theorem gw (n m M N p lo hi : Int) (x : Nat) (w : World)
    (eM : wrap64 (1 + wrap64 ((IntKind.u64.wrap m).tmod 100000)) = M) (m1 : 1 ≤ M) (m2 : M ≤ 100000) (n1 : 0 ≤ N) (n2 : N ≤ M)
    (eM2 : IntKind.u64.wrap (M + 1) = M + 1)
    (eN : wrap64 ((IntKind.u64.wrap n).tmod (M + 1)) = N)
    (S1 : ∀ W, Calls Try.prog 9 #[.float .f64 (floatOfInt .f64 N), .float .f64 (floatOfInt .f64 M)] W fun e w' => e = .returned (.float .f64 x) ∧ W = w')
    (S2 : ∀ W, Calls Try.prog 9 #[.float .f64 0, .float .f64 (floatOfInt .f64 M)] W fun e w' => e = .returned (.float .f64 0) ∧ W = w')
    (S3 : ∀ W, Calls Try.prog 9 #[.float .f64 (floatOfInt .f64 M), .float .f64 (floatOfInt .f64 M)] W fun e w' => e = .returned (.float .f64 4607182418800017408) ∧ W = w')
    (P1 : ∀ W, Calls Try.prog 11 #[.float .f64 x] W fun e w' => e = .returned (.int .i64 p) ∧ W = w')
    (P2 : ∀ W, Calls Try.prog 11 #[.float .f64 4607182418800017408] W fun e w' => e = .returned (.int .i64 100) ∧ W = w')
    (elo : (100 * N - M).tdiv M = lo) (ehi : (100 * N + M).tdiv M = hi) (q1 : -2 ≤ lo) (q2 : lo ≤ 100) (q3 : 0 ≤ hi) (q4 : hi ≤ 101)
    (p1 : lo - 1 ≤ p) (p2 : p ≤ hi + 1) (p3 : 0 ≤ p) (p4 : p ≤ 100) (p5 : N = 0 → p = 0) :
    Calls Try.prog 7 #[.int .i64 n, .int .i64 m] w fun e w' => e = .returned (.bool true) ∧ Below w.heap.size w w' := by
  have hM0 : decide (M = 0) = false := decide_eq_false (by omega)
  go_enter Try.func7, Try.ntmps7
  go_wp2_with (first | (go_at_call 9; (first | (with_reducible refine (S1 _).mono ?_) | (with_reducible refine (S2 _).mono ?_) | (with_reducible refine (S3 _).mono ?_)); rintro e w' ⟨rfl, rfl⟩) | (go_at_call 11; (first | (with_reducible refine (P1 _).mono ?_) | (with_reducible refine (P2 _).mono ?_)); rintro e w' ⟨rfl, rfl⟩) | (go_at_call 16; (with_reducible refine (wakes_calls _).mono ?_); rintro e w' ⟨rfl, hb⟩))
  go_quiet (fail)
  rcases Int.lt_or_le 0 N with hN | hN
  case' inr => obtain rfl := p5 (by omega)
  all_goals
    (clear p5
     go_wp2_with (first | (go_at_call 9; (first | (with_reducible refine (S1 _).mono ?_) | (with_reducible refine (S2 _).mono ?_) | (with_reducible refine (S3 _).mono ?_)); rintro e w' ⟨rfl, rfl⟩) | (go_at_call 11; (first | (with_reducible refine (P1 _).mono ?_) | (with_reducible refine (P2 _).mono ?_)); rintro e w' ⟨rfl, rfl⟩) | (go_at_call 16; (with_reducible refine (wakes_calls _).mono ?_); rintro e w' ⟨rfl, hb⟩))
     all_goals (go_ret; exact ⟨rfl, ⟨hb.os, hb.tape, hb.output, hb.size, hb.block⟩⟩))
end Go.Proofs.Ytcfopjfimobbjaa.WG
