/- The walk of the reference's Share. Written by this session's program wip/gen/wgauge3.py. -/
import Derived.Test.YtcfopjfimobbjaaWGaugeC
namespace Go.Proofs.Ytcfopjfimobbjaa.WG
set_option linter.unusedVariables false
set_option linter.unusedSimpArgs false
open Go Go.RowKit
open Go.Proofs.Ytcfopjfimobbjaa.FL (isnan)
set_option maxHeartbeats 8000000 in
set_option maxRecDepth 100000 in
theorem refshare_none (a b : Nat) (w : World) (h : ((FloatKind.f64.format.order a a != some .eq) || (FloatKind.f64.format.order b b != some .eq) || (FloatKind.f64.format.order a 0 == some .lt) || !(FloatKind.f64.format.order b 0 == some .gt)) = true) :
    Calls Try.prog 10 #[.float .f64 a, .float .f64 b] w fun e w' => ∃ r, e = .returned (.float .f64 r) ∧ isnan r = true ∧ r < 2 ^ 64 ∧ w' = w.drew := by
  cases h1 : (FloatKind.f64.format.order a a != some .eq)
  case true =>
    clear h
    go_enter Try.func10, Try.ntmps10
    go_wp2_with (first | (go_at_call 17; (with_reducible refine (refNaN_calls _ _).mono ?_); rintro e w' ⟨rfl, rfl⟩) | (go_at_call 19; (with_reducible refine (isNaN_calls _ _).mono ?_); rintro e w' ⟨rfl, rfl⟩) | (go_at_call 22; (with_reducible refine (none_calls _).mono ?_); rintro e w' ⟨r, rfl, hr, hlt, rfl⟩))
    all_goals (go_ret; exact ⟨r, rfl, hr, hlt, rfl⟩)
  cases h2 : (FloatKind.f64.format.order b b != some .eq)
  case true =>
    clear h
    go_enter Try.func10, Try.ntmps10
    go_wp2_with (first | (go_at_call 17; (with_reducible refine (refNaN_calls _ _).mono ?_); rintro e w' ⟨rfl, rfl⟩) | (go_at_call 19; (with_reducible refine (isNaN_calls _ _).mono ?_); rintro e w' ⟨rfl, rfl⟩) | (go_at_call 22; (with_reducible refine (none_calls _).mono ?_); rintro e w' ⟨r, rfl, hr, hlt, rfl⟩))
    all_goals (go_ret; exact ⟨r, rfl, hr, hlt, rfl⟩)
  cases h3 : (FloatKind.f64.format.order a 0 == some .lt)
  case true =>
    clear h
    go_enter Try.func10, Try.ntmps10
    go_wp2_with (first | (go_at_call 17; (with_reducible refine (refNaN_calls _ _).mono ?_); rintro e w' ⟨rfl, rfl⟩) | (go_at_call 19; (with_reducible refine (isNaN_calls _ _).mono ?_); rintro e w' ⟨rfl, rfl⟩) | (go_at_call 22; (with_reducible refine (none_calls _).mono ?_); rintro e w' ⟨r, rfl, hr, hlt, rfl⟩))
    all_goals (go_ret; exact ⟨r, rfl, hr, hlt, rfl⟩)
  cases h4 : (FloatKind.f64.format.order b 0 == some .gt)
  case true => rw [h1, h2, h3, h4] at h; exact absurd h (by decide)
  clear h
  go_enter Try.func10, Try.ntmps10
  go_wp2_with (first | (go_at_call 17; (with_reducible refine (refNaN_calls _ _).mono ?_); rintro e w' ⟨rfl, rfl⟩) | (go_at_call 19; (with_reducible refine (isNaN_calls _ _).mono ?_); rintro e w' ⟨rfl, rfl⟩) | (go_at_call 22; (with_reducible refine (none_calls _).mono ?_); rintro e w' ⟨r, rfl, hr, hlt, rfl⟩))
  all_goals (go_ret; exact ⟨r, rfl, hr, hlt, rfl⟩)
set_option maxHeartbeats 8000000 in
set_option maxRecDepth 100000 in
theorem refshare_num (a b q d : Nat) (w : World) (h1 : (FloatKind.f64.format.order a a != some .eq) = false) (h2 : (FloatKind.f64.format.order b b != some .eq) = false) (h3 : (FloatKind.f64.format.order a 0 == some .lt) = false) (h4 : (FloatKind.f64.format.order b 0 == some .gt) = true) (hq : floatBits .quo .f64 b 4611686018427387904 = some q) (hd : (FloatKind.f64.format.order a b == some .gt || FloatKind.f64.format.order a b == some .eq) = false → floatBits .quo .f64 a b = some d) :
    Calls Try.prog 10 #[.float .f64 a, .float .f64 b] w fun e w' => e = .returned (.float .f64 (if (FloatKind.f64.format.order a b == some .gt || FloatKind.f64.format.order a b == some .eq) then 4607182418800017408 else if (FloatKind.f64.format.order a 0 == some .eq) || ((FloatKind.f64.format.order b 9214871658872686752 == some .gt) && (FloatKind.f64.format.order q b == some .eq)) then 0 else d)) ∧ w = w' := by
  have r1 : ∀ t W, (binOp .quo t (.float .f64 b) (.float .f64 4611686018427387904)).run Try.prog W = .ok (.float .f64 q) W := fun t W => run_float_arith W .quo t .f64 _ _ _ hq
  clear hq
  cases h5 : (FloatKind.f64.format.order a b == some .gt || FloatKind.f64.format.order a b == some .eq)
  case true =>
    go_enter Try.func10, Try.ntmps10
    go_wp2_with (first | (go_at_call 17; (with_reducible refine (refNaN_calls _ _).mono ?_); rintro e w' ⟨rfl, rfl⟩) | (go_at_call 19; (with_reducible refine (isNaN_calls _ _).mono ?_); rintro e w' ⟨rfl, rfl⟩))
    all_goals (go_ret; exact ⟨rfl, rfl⟩)
  cases h7 : (FloatKind.f64.format.order a 0 == some .eq)
  case true =>
    go_enter Try.func10, Try.ntmps10
    go_wp2_with (first | (go_at_call 17; (with_reducible refine (refNaN_calls _ _).mono ?_); rintro e w' ⟨rfl, rfl⟩) | (go_at_call 19; (with_reducible refine (isNaN_calls _ _).mono ?_); rintro e w' ⟨rfl, rfl⟩))
    all_goals (go_ret; exact ⟨rfl, rfl⟩)
  have r2 : ∀ t W, (binOp .quo t (.float .f64 a) (.float .f64 b)).run Try.prog W = .ok (.float .f64 d) W := fun t W => run_float_arith W .quo t .f64 _ _ _ (hd h5)
  clear hd
  cases h6 : (FloatKind.f64.format.order b 9214871658872686752 == some .gt) <;> cases h8 : (FloatKind.f64.format.order q b == some .eq)
  all_goals
    (go_enter Try.func10, Try.ntmps10
     go_wp2_with (first | (go_at_call 17; (with_reducible refine (refNaN_calls _ _).mono ?_); rintro e w' ⟨rfl, rfl⟩) | (go_at_call 19; (with_reducible refine (isNaN_calls _ _).mono ?_); rintro e w' ⟨rfl, rfl⟩))
     all_goals (go_ret; exact ⟨rfl, rfl⟩))
end Go.Proofs.Ytcfopjfimobbjaa.WG
