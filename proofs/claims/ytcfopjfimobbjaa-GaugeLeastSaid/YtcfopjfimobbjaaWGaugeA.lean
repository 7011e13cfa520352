/- The walks of the gauge's small functions. -/
import Derived.Test.YtcfopjfimobbjaaChecked
import Derived.Test.YtcfopjfimobbjaaMOrder
import Derived.WalkKit
import Derived.WalkLawsBesides
import Derived.WalkSpells
import Derived.LoopTactic
namespace Go.Proofs.Ytcfopjfimobbjaa.WG
set_option linter.unusedVariables false
set_option linter.unusedSimpArgs false
open Go Go.RowKit
open Go.Proofs.Ytcfopjfimobbjaa.FL (isnan)
theorem k25 (n : Int) (w : World) : (callFunc 25 #[.int .u64 n]).run Try.prog w = .ok (.value (.float .f64 n.toNat)) w := by
  rw [run_callFunc_extern (e := Extern.MathFloatBits.float64frombits) Try.func25 (by kernel_rfl) (by kernel_rfl) (by kernel_rfl) (by kernel_rfl)]
  rfl
theorem k27 (b : Nat) (w : World) : (callFunc 27 #[.float .f64 b]).run Try.prog w = .ok (.value (.int .u64 (b : Int))) w := by
  rw [run_callFunc_extern (e := Extern.MathFloatBits.float64bits) Try.func27 (by kernel_rfl) (by kernel_rfl) (by kernel_rfl) (by kernel_rfl)]
  rfl
theorem cut_nan (x y t : Nat) : isnan (Question.cut (.nanBits .f64 x y) t) = true ∧ Question.cut (.nanBits .f64 x y) t < 2 ^ 64 := by
  have e : Question.cut (.nanBits .f64 x y) t = (t % 2) * 9223372036854775808 + 9218868437227405312 + 1 + (t / 2) % 4503599627370495 := rfl
  rw [e]
  unfold isnan FL.rg FL.INF FL.SW
  have h1 : t % 2 < 2 := Nat.mod_lt _ (by decide)
  have h2 : (t / 2) % 4503599627370495 < 4503599627370495 := Nat.mod_lt _ (by decide)
  generalize t % 2 = a at *
  generalize (t / 2) % 4503599627370495 = b at *
  constructor
  · rw [decide_eq_true_eq]; omega
  · omega
theorem run_nan {P : Program} (t : TypeId) (x y : Nat) (w : World) (h : floatBits .quo .f64 x y = none) : ∃ b, isnan b = true ∧ b < 2 ^ 64 ∧ (binOp .quo t (.float .f64 x) (.float .f64 y)).run P w = .ok (.float .f64 b) w.drew := by
  refine ⟨Question.cut (.nanBits .f64 x y) (w.tape w.drawn (.nanBits .f64 x y)), (cut_nan _ _ _).1, (cut_nan _ _ _).2, ?_⟩
  have h2 : FloatKind.f64.format.div x y = none := h
  have h3 : (Question.nanBits FloatKind.f64 x y).forced = false := rfl
  simp [binOp, Op.floatArith, h2, h3]
abbrev od (x y : Nat) : Option Ordering := FloatKind.f64.format.order x y
set_option maxHeartbeats 4000000 in
set_option maxRecDepth 100000 in
theorem isNaN_calls (x : Nat) (w : World) : Calls Try.prog 19 #[.float .f64 x] w fun e w' => e = .returned (.bool (od x x != some .eq)) ∧ w = w' := by
  go_enter Try.func19, Try.ntmps19
  go_wp2
  go_ret
  exact ⟨rfl, rfl⟩
set_option maxHeartbeats 4000000 in
set_option maxRecDepth 100000 in
theorem refNaN_calls (x : Nat) (w : World) : Calls Try.prog 17 #[.float .f64 x] w fun e w' => e = .returned (.bool (od x x != some .eq)) ∧ w = w' := by
  go_enter Try.func17, Try.ntmps17
  go_wp2
  go_ret
  exact ⟨rfl, rfl⟩
set_option maxHeartbeats 4000000 in
set_option maxRecDepth 100000 in
theorem nan_calls (w : World) : Calls Try.prog 20 #[] w fun e w' => e = .returned (.float .f64 9221120237041090561) ∧ w = w' := by
  go_enter Try.func20, Try.ntmps20
  have k := k25 9221120237041090561
  go_wp2
  go_ret
  exact ⟨rfl, rfl⟩
set_option maxHeartbeats 4000000 in
set_option maxRecDepth 100000 in
theorem isInf_calls (x : Nat) (w : World) : Calls Try.prog 21 #[.float .f64 x, .int .i64 1] w fun e w' => e = .returned (.bool (od x 9218868437227405311 == some .gt)) ∧ w = w' := by
  go_enter Try.func21, Try.ntmps21
  go_wp2
  go_ret
  exact ⟨rfl, rfl⟩
set_option maxHeartbeats 4000000 in
set_option maxRecDepth 100000 in
theorem signbit_calls (x : Nat) (w : World) : Calls Try.prog 24 #[.float .f64 x] w fun e w' => e = .returned (.bool (decide (wrap64 (x : Int) < 0))) ∧ w = w' := by
  go_enter Try.func24, Try.ntmps24
  have k := k27 x
  go_wp2
  go_ret
  exact ⟨rfl, rfl⟩
set_option maxHeartbeats 4000000 in
set_option maxRecDepth 100000 in
theorem none_calls (w : World) : Calls Try.prog 22 #[] w fun e w' => ∃ b, e = .returned (.float .f64 b) ∧ isnan b = true ∧ b < 2 ^ 64 ∧ w' = w.drew := by
  obtain ⟨b, hb, hlt, kb⟩ := run_nan (P := Try.prog) 22 0 0 w (by kernel_rfl)
  go_enter Try.func22, Try.ntmps22
  go_wp2
  go_ret
  exact ⟨b, rfl, hb, hlt, rfl⟩
end Go.Proofs.Ytcfopjfimobbjaa.WG
