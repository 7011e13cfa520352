/- The walks of Signed, of the reference's Same and Share, of both Percents. Written by this session's program wip/gen/wgauge2.py. -/
import Derived.Test.YtcfopjfimobbjaaWGaugeB
namespace Go.Proofs.Ytcfopjfimobbjaa.WG
set_option linter.unusedVariables false
set_option linter.unusedSimpArgs false
open Go Go.RowKit
open Go.Proofs.Ytcfopjfimobbjaa.FL (isnan)
/-- Whether a number has a sign, by the reference. -/
def signed (x : Nat) : Bool := (FloatKind.f64.format.order x 0 == some .lt) || ((FloatKind.f64.format.order x 0 == some .eq) && decide (x ≠ 0))
set_option maxHeartbeats 8000000 in
set_option maxRecDepth 100000 in
theorem signed_calls (x : Nat) (w : World) (hz : (FloatKind.f64.format.order x 0 == some .eq) = true → x = 0 ∨ x = 9223372036854775808) :
    Calls Try.prog 18 #[.float .f64 x] w fun e w' => e = .returned (.bool (signed x)) ∧ w = w' := by
  unfold signed
  cases h1 : (FloatKind.f64.format.order x 0 == some .lt)
  case true =>
    go_enter Try.func18, Try.ntmps18
    go_wp2_with (first | (go_at_call 17; (with_reducible refine (refNaN_calls _ _).mono ?_); rintro e w' ⟨rfl, rfl⟩) | (go_at_call 19; (with_reducible refine (isNaN_calls _ _).mono ?_); rintro e w' ⟨rfl, rfl⟩))
    all_goals (go_ret; exact ⟨rfl, rfl⟩)
  cases h2 : (FloatKind.f64.format.order x 0 == some .eq)
  case true =>
    rcases hz h2 with rfl | rfl
    · have run : ∀ t W, (binOp .quo t (.float .f64 4607182418800017408) (.float .f64 0)).run Try.prog W = .ok (.float .f64 9218868437227405312) W := fun t W => run_float_arith W .quo t .f64 _ _ _ (by kernel_rfl)
      have hi : (FloatKind.f64.format.order 9218868437227405312 0 == some .lt) = false := by kernel_rfl
      go_enter Try.func18, Try.ntmps18
      go_wp2_with (first | (go_at_call 17; (with_reducible refine (refNaN_calls _ _).mono ?_); rintro e w' ⟨rfl, rfl⟩) | (go_at_call 19; (with_reducible refine (isNaN_calls _ _).mono ?_); rintro e w' ⟨rfl, rfl⟩))
      all_goals (go_ret; exact ⟨rfl, rfl⟩)
    · have run : ∀ t W, (binOp .quo t (.float .f64 4607182418800017408) (.float .f64 9223372036854775808)).run Try.prog W = .ok (.float .f64 18442240474082181120) W := fun t W => run_float_arith W .quo t .f64 _ _ _ (by kernel_rfl)
      have hi : (FloatKind.f64.format.order 18442240474082181120 0 == some .lt) = true := by kernel_rfl
      go_enter Try.func18, Try.ntmps18
      go_wp2_with (first | (go_at_call 17; (with_reducible refine (refNaN_calls _ _).mono ?_); rintro e w' ⟨rfl, rfl⟩) | (go_at_call 19; (with_reducible refine (isNaN_calls _ _).mono ?_); rintro e w' ⟨rfl, rfl⟩))
      all_goals (go_ret; exact ⟨rfl, rfl⟩)
  go_enter Try.func18, Try.ntmps18
  go_wp2_with (first | (go_at_call 17; (with_reducible refine (refNaN_calls _ _).mono ?_); rintro e w' ⟨rfl, rfl⟩) | (go_at_call 19; (with_reducible refine (isNaN_calls _ _).mono ?_); rintro e w' ⟨rfl, rfl⟩))
  all_goals (go_ret; exact ⟨rfl, rfl⟩)
/-- Whether two numbers are the same, by the reference. -/
def refsame (a b : Nat) : Bool := if (FloatKind.f64.format.order a a != some .eq) || (FloatKind.f64.format.order b b != some .eq) then (FloatKind.f64.format.order a a != some .eq) && (FloatKind.f64.format.order b b != some .eq) else (FloatKind.f64.format.order a b == some .eq) && (signed a == signed b)
set_option maxHeartbeats 8000000 in
set_option maxRecDepth 100000 in
theorem refsame_calls (a b : Nat) (w : World) (ha : (FloatKind.f64.format.order a 0 == some .eq) = true → a = 0 ∨ a = 9223372036854775808) (hb : (FloatKind.f64.format.order b 0 == some .eq) = true → b = 0 ∨ b = 9223372036854775808) :
    Calls Try.prog 8 #[.float .f64 a, .float .f64 b] w fun e w' => e = .returned (.bool (refsame a b)) ∧ w = w' := by
  unfold refsame
  have ca := fun W => signed_calls a W ha
  have cb := fun W => signed_calls b W hb
  clear ha hb
  cases h1 : (FloatKind.f64.format.order a a != some .eq) <;> cases h2 : (FloatKind.f64.format.order b b != some .eq) <;> cases h3 : (FloatKind.f64.format.order a b == some .eq) <;> cases h4 : (signed a) <;> cases h5 : (signed b)
  all_goals
    (rw [h4] at ca; rw [h5] at cb
     go_enter Try.func8, Try.ntmps8
     go_wp2_with (first | (go_at_call 17; (with_reducible refine (refNaN_calls _ _).mono ?_); rintro e w' ⟨rfl, rfl⟩) | (go_at_call 19; (with_reducible refine (isNaN_calls _ _).mono ?_); rintro e w' ⟨rfl, rfl⟩) | (go_at_call 18; (first | (with_reducible refine (ca _).mono ?_) | (with_reducible refine (cb _).mono ?_)); rintro e w' ⟨rfl, rfl⟩))
     all_goals (go_ret; exact ⟨rfl, rfl⟩))
set_option maxHeartbeats 8000000 in
set_option maxRecDepth 100000 in
theorem percent_calls (x q1 q2 : Nat) (n : Int) (w : World) (hq : (FloatKind.f64.format.order x x != some .eq) = false → (FloatKind.f64.format.order x 0 == some .lt) = false → (FloatKind.f64.format.order x 4607182418800017408 == some .gt) = false → floatBits .mul .f64 4636737291354636288 x = some q1 ∧ floatBits .add .f64 q1 4602678819172646912 = some q2 ∧ floatToIntVal .f64 q2 .i64 = some n) :
    Calls Try.prog 11 #[.float .f64 x] w fun e w' => e = .returned (.int .i64 (if (FloatKind.f64.format.order x x != some .eq) || (FloatKind.f64.format.order x 0 == some .lt) || (FloatKind.f64.format.order x 4607182418800017408 == some .gt) then -1 else n)) ∧ w = w' := by
  cases h1 : (FloatKind.f64.format.order x x != some .eq)
  case true =>
    go_enter Try.func11, Try.ntmps11
    go_wp2_with (first | (go_at_call 17; (with_reducible refine (refNaN_calls _ _).mono ?_); rintro e w' ⟨rfl, rfl⟩) | (go_at_call 19; (with_reducible refine (isNaN_calls _ _).mono ?_); rintro e w' ⟨rfl, rfl⟩))
    all_goals (go_ret; exact ⟨rfl, rfl⟩)
  cases h2 : (FloatKind.f64.format.order x 0 == some .lt)
  case true =>
    go_enter Try.func11, Try.ntmps11
    go_wp2_with (first | (go_at_call 17; (with_reducible refine (refNaN_calls _ _).mono ?_); rintro e w' ⟨rfl, rfl⟩) | (go_at_call 19; (with_reducible refine (isNaN_calls _ _).mono ?_); rintro e w' ⟨rfl, rfl⟩))
    all_goals (go_ret; exact ⟨rfl, rfl⟩)
  cases h3 : (FloatKind.f64.format.order x 4607182418800017408 == some .gt)
  case true =>
    go_enter Try.func11, Try.ntmps11
    go_wp2_with (first | (go_at_call 17; (with_reducible refine (refNaN_calls _ _).mono ?_); rintro e w' ⟨rfl, rfl⟩) | (go_at_call 19; (with_reducible refine (isNaN_calls _ _).mono ?_); rintro e w' ⟨rfl, rfl⟩))
    all_goals (go_ret; exact ⟨rfl, rfl⟩)
  obtain ⟨k1, k2, k3⟩ := hq h1 h2 h3
  have r1 : ∀ t W, (binOp .mul t (.float .f64 4636737291354636288) (.float .f64 x)).run Try.prog W = .ok (.float .f64 q1) W := fun t W => run_float_arith W .mul t .f64 _ _ _ k1
  have r2 : ∀ t W, (binOp .add t (.float .f64 q1) (.float .f64 4602678819172646912)).run Try.prog W = .ok (.float .f64 q2) W := fun t W => run_float_arith W .add t .f64 _ _ _ k2
  have r3 : ∀ W, (convert 22 3 (.float .f64 q2)).run Try.prog W = .ok (.int .i64 n) W := fun W => run_convert_float_int W 22 3 .f64 .i64 q2 n (by kernel_rfl) (by kernel_rfl) k3
  clear hq k1 k2 k3
  go_enter Try.func11, Try.ntmps11
  go_wp2_with (first | (go_at_call 17; (with_reducible refine (refNaN_calls _ _).mono ?_); rintro e w' ⟨rfl, rfl⟩) | (go_at_call 19; (with_reducible refine (isNaN_calls _ _).mono ?_); rintro e w' ⟨rfl, rfl⟩))
  all_goals (go_ret; exact ⟨rfl, rfl⟩)
set_option maxHeartbeats 8000000 in
set_option maxRecDepth 100000 in
theorem refpercent_calls (x q1 q2 : Nat) (n : Int) (w : World) (hq : (FloatKind.f64.format.order x x != some .eq) = false → (FloatKind.f64.format.order x 0 == some .lt) = false → (FloatKind.f64.format.order x 4607182418800017408 == some .gt) = false → floatBits .mul .f64 4636737291354636288 x = some q1 ∧ floatBits .add .f64 q1 4602678819172646912 = some q2 ∧ floatToIntVal .f64 q2 .i64 = some n) :
    Calls Try.prog 12 #[.float .f64 x] w fun e w' => e = .returned (.int .i64 (if (FloatKind.f64.format.order x x != some .eq) || (FloatKind.f64.format.order x 0 == some .lt) || (FloatKind.f64.format.order x 4607182418800017408 == some .gt) then -1 else n)) ∧ w = w' := by
  cases h1 : (FloatKind.f64.format.order x x != some .eq)
  case true =>
    go_enter Try.func12, Try.ntmps12
    go_wp2_with (first | (go_at_call 17; (with_reducible refine (refNaN_calls _ _).mono ?_); rintro e w' ⟨rfl, rfl⟩) | (go_at_call 19; (with_reducible refine (isNaN_calls _ _).mono ?_); rintro e w' ⟨rfl, rfl⟩))
    all_goals (go_ret; exact ⟨rfl, rfl⟩)
  cases h2 : (FloatKind.f64.format.order x 0 == some .lt)
  case true =>
    go_enter Try.func12, Try.ntmps12
    go_wp2_with (first | (go_at_call 17; (with_reducible refine (refNaN_calls _ _).mono ?_); rintro e w' ⟨rfl, rfl⟩) | (go_at_call 19; (with_reducible refine (isNaN_calls _ _).mono ?_); rintro e w' ⟨rfl, rfl⟩))
    all_goals (go_ret; exact ⟨rfl, rfl⟩)
  cases h3 : (FloatKind.f64.format.order x 4607182418800017408 == some .gt)
  case true =>
    go_enter Try.func12, Try.ntmps12
    go_wp2_with (first | (go_at_call 17; (with_reducible refine (refNaN_calls _ _).mono ?_); rintro e w' ⟨rfl, rfl⟩) | (go_at_call 19; (with_reducible refine (isNaN_calls _ _).mono ?_); rintro e w' ⟨rfl, rfl⟩))
    all_goals (go_ret; exact ⟨rfl, rfl⟩)
  obtain ⟨k1, k2, k3⟩ := hq h1 h2 h3
  have r1 : ∀ t W, (binOp .mul t (.float .f64 4636737291354636288) (.float .f64 x)).run Try.prog W = .ok (.float .f64 q1) W := fun t W => run_float_arith W .mul t .f64 _ _ _ k1
  have r2 : ∀ t W, (binOp .add t (.float .f64 q1) (.float .f64 4602678819172646912)).run Try.prog W = .ok (.float .f64 q2) W := fun t W => run_float_arith W .add t .f64 _ _ _ k2
  have r3 : ∀ W, (convert 22 3 (.float .f64 q2)).run Try.prog W = .ok (.int .i64 n) W := fun W => run_convert_float_int W 22 3 .f64 .i64 q2 n (by kernel_rfl) (by kernel_rfl) k3
  clear hq k1 k2 k3
  go_enter Try.func12, Try.ntmps12
  go_wp2_with (first | (go_at_call 17; (with_reducible refine (refNaN_calls _ _).mono ?_); rintro e w' ⟨rfl, rfl⟩) | (go_at_call 19; (with_reducible refine (isNaN_calls _ _).mono ?_); rintro e w' ⟨rfl, rfl⟩))
  all_goals (go_ret; exact ⟨rfl, rfl⟩)
end Go.Proofs.Ytcfopjfimobbjaa.WG
