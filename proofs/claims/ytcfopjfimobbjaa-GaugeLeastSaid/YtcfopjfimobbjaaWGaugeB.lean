/- The walks of Share, of ahead and of Same. Written by this session's program wip/gen/wgauge.py. -/
import Derived.Test.YtcfopjfimobbjaaWGaugeA
namespace Go.Proofs.Ytcfopjfimobbjaa.WG
set_option linter.unusedVariables false
set_option linter.unusedSimpArgs false
open Go Go.RowKit
open Go.Proofs.Ytcfopjfimobbjaa.FL (isnan)
/-- What Share gives. -/
def share (a b : Nat) : Nat :=
  if (FloatKind.f64.format.order a a != some .eq) || (FloatKind.f64.format.order b b != some .eq) || (FloatKind.f64.format.order a 0 == some .lt) || (FloatKind.f64.format.order b 0 == some .lt || FloatKind.f64.format.order b 0 == some .eq) then 9221120237041090561
  else if FloatKind.f64.format.order a b == some .gt || FloatKind.f64.format.order a b == some .eq then 4607182418800017408
  else if (FloatKind.f64.format.order b 9218868437227405311 == some .gt) || (FloatKind.f64.format.order a 0 == some .eq) then 0
  else (floatBits .quo .f64 a b).getD 0
set_option maxHeartbeats 8000000 in
set_option maxRecDepth 100000 in
theorem share_calls (a b : Nat) (w : World) (hq : (FloatKind.f64.format.order a a != some .eq) = false → (FloatKind.f64.format.order b b != some .eq) = false → (FloatKind.f64.format.order a 0 == some .lt) = false → (FloatKind.f64.format.order b 0 == some .lt || FloatKind.f64.format.order b 0 == some .eq) = false → (FloatKind.f64.format.order b 9218868437227405311 == some .gt) = false → (floatBits .quo .f64 a b).isSome = true) :
    Calls Try.prog 9 #[.float .f64 a, .float .f64 b] w fun e w' => e = .returned (.float .f64 (share a b)) ∧ w = w' := by
  unfold share
  cases h1 : (FloatKind.f64.format.order a a != some .eq)
  case true =>
    go_enter Try.func9, Try.ntmps9
    go_wp2_with (first | (go_at_call 17; (with_reducible refine (refNaN_calls _ _).mono ?_); rintro e w' ⟨rfl, rfl⟩) | (go_at_call 19; (with_reducible refine (isNaN_calls _ _).mono ?_); rintro e w' ⟨rfl, rfl⟩) | (go_at_call 20; (with_reducible refine (nan_calls _).mono ?_); rintro e w' ⟨rfl, rfl⟩) | (go_at_call 21; (with_reducible refine (isInf_calls _ _).mono ?_); rintro e w' ⟨rfl, rfl⟩) | (go_at_call 24; (with_reducible refine (signbit_calls _ _).mono ?_); rintro e w' ⟨rfl, rfl⟩))
    all_goals (go_ret; exact ⟨rfl, rfl⟩)
  cases h2 : (FloatKind.f64.format.order b b != some .eq)
  case true =>
    go_enter Try.func9, Try.ntmps9
    go_wp2_with (first | (go_at_call 17; (with_reducible refine (refNaN_calls _ _).mono ?_); rintro e w' ⟨rfl, rfl⟩) | (go_at_call 19; (with_reducible refine (isNaN_calls _ _).mono ?_); rintro e w' ⟨rfl, rfl⟩) | (go_at_call 20; (with_reducible refine (nan_calls _).mono ?_); rintro e w' ⟨rfl, rfl⟩) | (go_at_call 21; (with_reducible refine (isInf_calls _ _).mono ?_); rintro e w' ⟨rfl, rfl⟩) | (go_at_call 24; (with_reducible refine (signbit_calls _ _).mono ?_); rintro e w' ⟨rfl, rfl⟩))
    all_goals (go_ret; exact ⟨rfl, rfl⟩)
  cases h3 : (FloatKind.f64.format.order a 0 == some .lt)
  case true =>
    go_enter Try.func9, Try.ntmps9
    go_wp2_with (first | (go_at_call 17; (with_reducible refine (refNaN_calls _ _).mono ?_); rintro e w' ⟨rfl, rfl⟩) | (go_at_call 19; (with_reducible refine (isNaN_calls _ _).mono ?_); rintro e w' ⟨rfl, rfl⟩) | (go_at_call 20; (with_reducible refine (nan_calls _).mono ?_); rintro e w' ⟨rfl, rfl⟩) | (go_at_call 21; (with_reducible refine (isInf_calls _ _).mono ?_); rintro e w' ⟨rfl, rfl⟩) | (go_at_call 24; (with_reducible refine (signbit_calls _ _).mono ?_); rintro e w' ⟨rfl, rfl⟩))
    all_goals (go_ret; exact ⟨rfl, rfl⟩)
  cases h4 : (FloatKind.f64.format.order b 0 == some .lt || FloatKind.f64.format.order b 0 == some .eq)
  case true =>
    go_enter Try.func9, Try.ntmps9
    go_wp2_with (first | (go_at_call 17; (with_reducible refine (refNaN_calls _ _).mono ?_); rintro e w' ⟨rfl, rfl⟩) | (go_at_call 19; (with_reducible refine (isNaN_calls _ _).mono ?_); rintro e w' ⟨rfl, rfl⟩) | (go_at_call 20; (with_reducible refine (nan_calls _).mono ?_); rintro e w' ⟨rfl, rfl⟩) | (go_at_call 21; (with_reducible refine (isInf_calls _ _).mono ?_); rintro e w' ⟨rfl, rfl⟩) | (go_at_call 24; (with_reducible refine (signbit_calls _ _).mono ?_); rintro e w' ⟨rfl, rfl⟩))
    all_goals (go_ret; exact ⟨rfl, rfl⟩)
  cases h5 : (FloatKind.f64.format.order a b == some .gt || FloatKind.f64.format.order a b == some .eq)
  case true =>
    go_enter Try.func9, Try.ntmps9
    go_wp2_with (first | (go_at_call 17; (with_reducible refine (refNaN_calls _ _).mono ?_); rintro e w' ⟨rfl, rfl⟩) | (go_at_call 19; (with_reducible refine (isNaN_calls _ _).mono ?_); rintro e w' ⟨rfl, rfl⟩) | (go_at_call 20; (with_reducible refine (nan_calls _).mono ?_); rintro e w' ⟨rfl, rfl⟩) | (go_at_call 21; (with_reducible refine (isInf_calls _ _).mono ?_); rintro e w' ⟨rfl, rfl⟩) | (go_at_call 24; (with_reducible refine (signbit_calls _ _).mono ?_); rintro e w' ⟨rfl, rfl⟩))
    all_goals (go_ret; exact ⟨rfl, rfl⟩)
  cases h6 : (FloatKind.f64.format.order b 9218868437227405311 == some .gt)
  case true =>
    go_enter Try.func9, Try.ntmps9
    go_wp2_with (first | (go_at_call 17; (with_reducible refine (refNaN_calls _ _).mono ?_); rintro e w' ⟨rfl, rfl⟩) | (go_at_call 19; (with_reducible refine (isNaN_calls _ _).mono ?_); rintro e w' ⟨rfl, rfl⟩) | (go_at_call 20; (with_reducible refine (nan_calls _).mono ?_); rintro e w' ⟨rfl, rfl⟩) | (go_at_call 21; (with_reducible refine (isInf_calls _ _).mono ?_); rintro e w' ⟨rfl, rfl⟩) | (go_at_call 24; (with_reducible refine (signbit_calls _ _).mono ?_); rintro e w' ⟨rfl, rfl⟩))
    all_goals (go_ret; exact ⟨rfl, rfl⟩)
  cases h7 : (FloatKind.f64.format.order a 0 == some .eq)
  case true =>
    go_enter Try.func9, Try.ntmps9
    go_wp2_with (first | (go_at_call 17; (with_reducible refine (refNaN_calls _ _).mono ?_); rintro e w' ⟨rfl, rfl⟩) | (go_at_call 19; (with_reducible refine (isNaN_calls _ _).mono ?_); rintro e w' ⟨rfl, rfl⟩) | (go_at_call 20; (with_reducible refine (nan_calls _).mono ?_); rintro e w' ⟨rfl, rfl⟩) | (go_at_call 21; (with_reducible refine (isInf_calls _ _).mono ?_); rintro e w' ⟨rfl, rfl⟩) | (go_at_call 24; (with_reducible refine (signbit_calls _ _).mono ?_); rintro e w' ⟨rfl, rfl⟩))
    all_goals (go_ret; exact ⟨rfl, rfl⟩)
  obtain ⟨q, hq2⟩ := Option.isSome_iff_exists.1 (hq h1 h2 h3 h4 h6)
  have run : ∀ t W, (binOp .quo t (.float .f64 a) (.float .f64 b)).run Try.prog W = .ok (.float .f64 q) W := fun t W => run_float_arith W .quo t .f64 a b q hq2
  rw [hq2]
  clear hq hq2
  go_enter Try.func9, Try.ntmps9
  go_wp2_with (first | (go_at_call 17; (with_reducible refine (refNaN_calls _ _).mono ?_); rintro e w' ⟨rfl, rfl⟩) | (go_at_call 19; (with_reducible refine (isNaN_calls _ _).mono ?_); rintro e w' ⟨rfl, rfl⟩) | (go_at_call 20; (with_reducible refine (nan_calls _).mono ?_); rintro e w' ⟨rfl, rfl⟩) | (go_at_call 21; (with_reducible refine (isInf_calls _ _).mono ?_); rintro e w' ⟨rfl, rfl⟩) | (go_at_call 24; (with_reducible refine (signbit_calls _ _).mono ?_); rintro e w' ⟨rfl, rfl⟩))
  all_goals (go_ret; exact ⟨rfl, rfl⟩)
/-- Whether a number is ahead. -/
def ahead (a b : Nat) : Bool := (FloatKind.f64.format.order a b == some .lt) || ((FloatKind.f64.format.order a b == some .eq) && decide (wrap64 (a : Int) < 0) && !decide (wrap64 (b : Int) < 0))
set_option maxHeartbeats 8000000 in
set_option maxRecDepth 100000 in
theorem ahead_calls (a b : Nat) (w : World) :
    Calls Try.prog 23 #[.float .f64 a, .float .f64 b] w fun e w' => e = .returned (.bool (ahead a b)) ∧ w = w' := by
  unfold ahead
  cases h1 : (FloatKind.f64.format.order a b == some .lt) <;> cases h2 : (FloatKind.f64.format.order a b == some .eq) <;> cases h3 : (decide (wrap64 (a : Int) < 0)) <;> cases h4 : (decide (wrap64 (b : Int) < 0))
  all_goals
    (go_enter Try.func23, Try.ntmps23
     go_wp2_with (first | (go_at_call 17; (with_reducible refine (refNaN_calls _ _).mono ?_); rintro e w' ⟨rfl, rfl⟩) | (go_at_call 19; (with_reducible refine (isNaN_calls _ _).mono ?_); rintro e w' ⟨rfl, rfl⟩) | (go_at_call 20; (with_reducible refine (nan_calls _).mono ?_); rintro e w' ⟨rfl, rfl⟩) | (go_at_call 21; (with_reducible refine (isInf_calls _ _).mono ?_); rintro e w' ⟨rfl, rfl⟩) | (go_at_call 24; (with_reducible refine (signbit_calls _ _).mono ?_); rintro e w' ⟨rfl, rfl⟩))
     all_goals (go_ret; exact ⟨rfl, rfl⟩))
/-- Whether two numbers are the same. -/
def same (a b : Nat) : Bool := if (FloatKind.f64.format.order a a != some .eq) || (FloatKind.f64.format.order b b != some .eq) then (FloatKind.f64.format.order a a != some .eq) && (FloatKind.f64.format.order b b != some .eq) else (FloatKind.f64.format.order a b == some .eq) && (decide (wrap64 (a : Int) < 0) == decide (wrap64 (b : Int) < 0))
set_option maxHeartbeats 8000000 in
set_option maxRecDepth 100000 in
theorem same_calls (a b : Nat) (w : World) :
    Calls Try.prog 15 #[.float .f64 a, .float .f64 b] w fun e w' => e = .returned (.bool (same a b)) ∧ w = w' := by
  unfold same
  cases h1 : (FloatKind.f64.format.order a a != some .eq) <;> cases h2 : (FloatKind.f64.format.order b b != some .eq) <;> cases h3 : (FloatKind.f64.format.order a b == some .eq) <;> cases h4 : (decide (wrap64 (a : Int) < 0)) <;> cases h5 : (decide (wrap64 (b : Int) < 0))
  all_goals
    (go_enter Try.func15, Try.ntmps15
     go_wp2_with (first | (go_at_call 17; (with_reducible refine (refNaN_calls _ _).mono ?_); rintro e w' ⟨rfl, rfl⟩) | (go_at_call 19; (with_reducible refine (isNaN_calls _ _).mono ?_); rintro e w' ⟨rfl, rfl⟩) | (go_at_call 20; (with_reducible refine (nan_calls _).mono ?_); rintro e w' ⟨rfl, rfl⟩) | (go_at_call 21; (with_reducible refine (isInf_calls _ _).mono ?_); rintro e w' ⟨rfl, rfl⟩) | (go_at_call 24; (with_reducible refine (signbit_calls _ _).mono ?_); rintro e w' ⟨rfl, rfl⟩))
     all_goals (go_ret; exact ⟨rfl, rfl⟩))
end Go.Proofs.Ytcfopjfimobbjaa.WG
