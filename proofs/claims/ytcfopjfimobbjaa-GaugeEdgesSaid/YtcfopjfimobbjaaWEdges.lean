/- The walk of the law GaugeEdges, with its plain facts. -/
import Derived.Test.YtcfopjfimobbjaaPureGaugeWhole
import Derived.Deep.QuietTactic
import Derived.BigQuiet
namespace Go.Proofs.Ytcfopjfimobbjaa.GE
set_option linter.unusedVariables false
set_option linter.unusedSimpArgs false
open Go Go.RowKit
open Go.Proofs.Ytcfopjfimobbjaa.FL Go.Proofs.Ytcfopjfimobbjaa.WG Go.Proofs.Ytcfopjfimobbjaa.GS Go.Proofs.Ytcfopjfimobbjaa.GW
theorem same_nan (a b : Nat) (ha : isnan a = true) (hb : isnan b = true) : same a b = true := by
  have c1 : (FloatKind.f64.format.order a a != some .eq) = true := (isnan_iff a).trans ha
  have c2 : (FloatKind.f64.format.order b b != some .eq) = true := (isnan_iff b).trans hb
  unfold same
  rw [c1, c2]
  rfl
theorem nan0 : isnan 9221120237041090561 = true := by decide
theorem share_nan1 (a b : Nat) (ha : isnan a = true) : share a b = 9221120237041090561 := by
  have c1 : (FloatKind.f64.format.order a a != some .eq) = true := (isnan_iff a).trans ha
  unfold share
  rw [c1]
  simp
theorem share_nan2 (a b : Nat) (hb : isnan b = true) : share a b = 9221120237041090561 := by
  have c1 : (FloatKind.f64.format.order b b != some .eq) = true := (isnan_iff b).trans hb
  unfold share
  rw [c1]
  simp
theorem share_minus0 (a : Nat) : share a 9223372036854775808 = 9221120237041090561 := by
  have c1 : (FloatKind.f64.format.order 9223372036854775808 0 == some .eq) = true := by kernel_rfl
  unfold share
  rw [c1]
  simp
theorem share_inf (x : Nat) (hx : x < 2 ^ 64) (hn : isnan x = false) (h0 : 0 ≤ ky x) (h1 : ky x < 9218868437227405312) : share x 9218868437227405312 = 0 := by
  have e : ky 9218868437227405312 = 9218868437227405312 := by decide
  refine (share_val x 9218868437227405312 hx (by decide) hn (by decide) h0 (by rw [e]; decide)).2.2.1 (by rw [e]; exact h1) (.inl (by decide))
theorem least_three (r : Nat) (hr : isnan r = true) : least [0, r, 9223372036854775808] = 9223372036854775808 := by
  have c1 : (FloatKind.f64.format.order r r != some .eq) = true := (isnan_iff r).trans hr
  have s1 : WG.step 9221120237041090561 0 = 0 := by kernel_rfl
  have s2 : WG.step 0 r = 0 := by unfold WG.step; rw [c1]; rfl
  have s3 : WG.step 0 9223372036854775808 = 9223372036854775808 := by kernel_rfl
  show WG.step (WG.step (WG.step 9221120237041090561 0) r) 9223372036854775808 = _
  rw [s1, s2, s3]
theorem percent_none (r : Nat) (hr : isnan r = true) (W : World) : Calls Try.prog 11 #[.float .f64 r] W fun e w' => e = .returned (.int .i64 (-1)) ∧ W = w' := by
  have e1 : (FloatKind.f64.format.order r r != some .eq) = true := (isnan_iff r).trans hr
  have h := percent_calls r 0 0 0 W (fun h _ _ => absurd (e1.symm.trans h) (by decide))
  rw [e1] at h
  simpa using h
theorem percent_minus0 (W : World) : Calls Try.prog 11 #[.float .f64 9223372036854775808] W fun e w' => e = .returned (.int .i64 0) ∧ W = w' := by
  have h := percent_calls 9223372036854775808 9223372036854775808 4602678819172646912 0 W (fun _ _ _ => ⟨by kernel_rfl, by kernel_rfl, by kernel_rfl⟩)
  have e1 : (FloatKind.f64.format.order 9223372036854775808 9223372036854775808 != some .eq) = false := by kernel_rfl
  have e2 : (FloatKind.f64.format.order 9223372036854775808 0 == some .lt) = false := by kernel_rfl
  have e3 : (FloatKind.f64.format.order 9223372036854775808 4607182418800017408 == some .gt) = false := by kernel_rfl
  rw [e1, e2, e3] at h
  exact h
theorem percent_inf (W : World) : Calls Try.prog 11 #[.float .f64 9218868437227405312] W fun e w' => e = .returned (.int .i64 (-1)) ∧ W = w' := by
  have e1 : (FloatKind.f64.format.order 9218868437227405312 4607182418800017408 == some .gt) = true := by kernel_rfl
  have h := percent_calls 9218868437227405312 0 0 0 W (fun _ _ h => absurd (e1.symm.trans h) (by decide))
  rw [e1] at h
  simpa using h
/-- The ten rows of the table. -/
theorem rows (r x k : Nat) (hr : isnan r = true) (hlt : r < 2 ^ 64) (hx : x < 2 ^ 64) (hn : isnan x = false) (h0 : 0 ≤ ky x) (h1 : ky x < 9218868437227405312) (hk : k < 10) :
    ∃ ak bk wk : Nat, [Value.float FloatKind.f64 r, Value.float FloatKind.f64 x, Value.float FloatKind.f64 13830554455654793216, Value.float FloatKind.f64 9218868437227405312, Value.float FloatKind.f64 x, Value.float FloatKind.f64 9223372036854775808, Value.float FloatKind.f64 9218868437227405312, Value.float FloatKind.f64 18442240474082181120, Value.float FloatKind.f64 0, Value.float FloatKind.f64 x][k]'hk = .float .f64 ak ∧
      [Value.float FloatKind.f64 4607182418800017408, Value.float FloatKind.f64 r, Value.float FloatKind.f64 4617315517961601024, Value.float FloatKind.f64 9218868437227405312, Value.float FloatKind.f64 9218868437227405312, Value.float FloatKind.f64 4607182418800017408, Value.float FloatKind.f64 4617315517961601024, Value.float FloatKind.f64 4617315517961601024, Value.float FloatKind.f64 0, Value.float FloatKind.f64 9223372036854775808][k]'hk = .float .f64 bk ∧
      [Value.float FloatKind.f64 r, Value.float FloatKind.f64 r, Value.float FloatKind.f64 r, Value.float FloatKind.f64 4607182418800017408, Value.float FloatKind.f64 0, Value.float FloatKind.f64 0, Value.float FloatKind.f64 4607182418800017408, Value.float FloatKind.f64 r, Value.float FloatKind.f64 r, Value.float FloatKind.f64 r][k]'hk = .float .f64 wk ∧
      bk < 2 ^ 64 ∧ same (share ak bk) wk = true := by
  rcases (by omega : k = 0 ∨ k = 1 ∨ k = 2 ∨ k = 3 ∨ k = 4 ∨ k = 5 ∨ k = 6 ∨ k = 7 ∨ k = 8 ∨ k = 9) with rfl | rfl | rfl | rfl | rfl | rfl | rfl | rfl | rfl | rfl
  · exact ⟨_, _, _, rfl, rfl, rfl, by decide, by rw [share_nan1 r _ hr]; exact same_nan _ _ nan0 hr⟩
  · exact ⟨_, _, _, rfl, rfl, rfl, hlt, by rw [share_nan2 x r hr]; exact same_nan _ _ nan0 hr⟩
  · exact ⟨_, _, _, rfl, rfl, rfl, by decide, by rw [show share 13830554455654793216 4617315517961601024 = 9221120237041090561 by kernel_rfl]; exact same_nan _ _ nan0 hr⟩
  · exact ⟨_, _, _, rfl, rfl, rfl, by decide, by kernel_rfl⟩
  · exact ⟨_, _, _, rfl, rfl, rfl, by decide, by rw [share_inf x hx hn h0 h1]; kernel_rfl⟩
  · exact ⟨_, _, _, rfl, rfl, rfl, by decide, by kernel_rfl⟩
  · exact ⟨_, _, _, rfl, rfl, rfl, by decide, by kernel_rfl⟩
  · exact ⟨_, _, _, rfl, rfl, rfl, by decide, by rw [show share 18442240474082181120 4617315517961601024 = 9221120237041090561 by kernel_rfl]; exact same_nan _ _ nan0 hr⟩
  · exact ⟨_, _, _, rfl, rfl, rfl, by decide, by rw [show share 0 0 = 9221120237041090561 by kernel_rfl]; exact same_nan _ _ nan0 hr⟩
  · exact ⟨_, _, _, rfl, rfl, rfl, by decide, by rw [share_minus0 x]; exact same_nan _ _ nan0 hr⟩
theorem least_push (r : Nat) (hr : isnan r = true) (w : World) (g : Nat) (hg : g = w.heap.size) : Calls Try.prog 13 #[.slice (some ⟨g, 0, none⟩) 3 3] (w.alloc (.cells #[.float .f64 0, .float .f64 r, .float .f64 9223372036854775808] 22)) fun e w' => e = .returned (.float .f64 9223372036854775808) ∧ (w.alloc (.cells #[.float .f64 0, .float .f64 r, .float .f64 9223372036854775808] 22)) = w' := by
  subst hg
  have h := least_calls (some ⟨w.heap.size, 0, none⟩) 3 [0, r, 9223372036854775808] (w.alloc (.cells #[.float .f64 0, .float .f64 r, .float .f64 9223372036854775808] 22)) (fr_blk (fr := (0, 0)) (t := 22) Array.getElem?_push_size (by simp)) (by simp)
  rw [least_three r hr] at h
  exact h
end Go.Proofs.Ytcfopjfimobbjaa.GE
