/- The walk of the gauge's wakes. -/
import Derived.Test.YtcfopjfimobbjaaWGaugeE
import Derived.Below
namespace Go.Proofs.Ytcfopjfimobbjaa.WG
set_option linter.unusedVariables false
set_option linter.unusedSimpArgs false
open Go Go.RowKit
open Go.Proofs.Ytcfopjfimobbjaa.FL (isnan)
theorem add_at (g i : Nat) : (⟨g, 0, none⟩ : Addr).add i = ⟨g, i, none⟩ := by
  rcases i with _ | i
  · rfl
  · simp [Addr.add]
/-- A block that is known reads. -/
theorem fr_blk {w : World} {g : Nat} {l : List Nat} {t : TypeId} {fr : Nat × Nat} (hh : w.heap[g]? = some (.cells (l.map (Value.float .f64)).toArray t fr)) (hl : l.length ≤ 9223372036854775807) : Fr w (some ⟨g, 0, none⟩) l := by
  refine ⟨hl, .inr ⟨_, rfl, fun i hi => ?_⟩⟩
  rw [add_at]
  simp only [World.cell?, hh]
  simp [List.getElem?_eq_getElem hi, List.getD_eq_getElem?_getD]
theorem wk1 (w : World) : Calls Try.prog 9 #[.float .f64 4607182418800017408, .float .f64 4616189618054758400] w fun e w' => e = .returned (.float .f64 4598175219545276416) ∧ w = w' := by
  have h := share_calls 4607182418800017408 4616189618054758400 w (fun _ _ _ _ _ => by kernel_rfl)
  have e : share 4607182418800017408 4616189618054758400 = 4598175219545276416 := by kernel_rfl
  rw [e] at h
  exact h
theorem wk2 (w : World) : Calls Try.prog 11 #[.float .f64 4598175219545276416] w fun e w' => e = .returned (.int .i64 25) ∧ w = w' := by
  have h := percent_calls 4598175219545276416 4627730092099895296 4627870829588250624 25 w (fun _ _ _ => ⟨by kernel_rfl, by kernel_rfl, by kernel_rfl⟩)
  have e1 : (FloatKind.f64.format.order 4598175219545276416 4598175219545276416 != some .eq) = false := by kernel_rfl
  have e2 : (FloatKind.f64.format.order 4598175219545276416 0 == some .lt) = false := by kernel_rfl
  have e3 : (FloatKind.f64.format.order 4598175219545276416 4607182418800017408 == some .gt) = false := by kernel_rfl
  rw [e1, e2, e3] at h
  exact h
theorem wk3 (w : World) : Calls Try.prog 11 #[.float .f64 13830554455654793216] w fun e w' => e = .returned (.int .i64 (-1)) ∧ w = w' := by
  have e2 : (FloatKind.f64.format.order 13830554455654793216 0 == some .lt) = true := by kernel_rfl
  have h := percent_calls 13830554455654793216 0 0 0 w (fun _ h _ => absurd (e2.symm.trans h) (by decide))
  rw [e2] at h
  simp only [Bool.or_true, Bool.true_or, if_true] at h
  exact h
theorem wk4 (w : World) (g : Nat) (hg : g = w.heap.size) : Calls Try.prog 13 #[.slice (some ⟨g, 0, none⟩) 2 2] (w.alloc (.cells #[.float .f64 4613937818241073152, .float .f64 4611686018427387904] 22)) fun e w' => e = .returned (.float .f64 4611686018427387904) ∧ (w.alloc (.cells #[.float .f64 4613937818241073152, .float .f64 4611686018427387904] 22)) = w' := by
  subst hg
  have h := least_calls (some ⟨w.heap.size, 0, none⟩) 2 [4613937818241073152, 4611686018427387904] (w.alloc (.cells #[.float .f64 4613937818241073152, .float .f64 4611686018427387904] 22)) (fr_blk (fr := (0, 0)) (t := 22) Array.getElem?_push_size (by decide)) (by decide)
  have e : least [4613937818241073152, 4611686018427387904] = 4611686018427387904 := by kernel_rfl
  rw [e] at h
  exact h
theorem wk5 (w : World) : Calls Try.prog 15 #[.float .f64 4607182418800017408, .float .f64 4607182418800017408] w fun e w' => e = .returned (.bool true) ∧ w = w' := by
  have h := same_calls 4607182418800017408 4607182418800017408 w
  have e : same 4607182418800017408 4607182418800017408 = true := by kernel_rfl
  rw [e] at h
  exact h
theorem wk6 (w : World) : Calls Try.prog 15 #[.float .f64 4607182418800017408, .float .f64 4611686018427387904] w fun e w' => e = .returned (.bool false) ∧ w = w' := by
  have h := same_calls 4607182418800017408 4611686018427387904 w
  have e : same 4607182418800017408 4611686018427387904 = false := by kernel_rfl
  rw [e] at h
  exact h
set_option maxHeartbeats 8000000 in
set_option maxRecDepth 100000 in
theorem wakes_calls (w : World) : Calls Try.prog 16 #[] w fun e w' => e = .returned (.bool true) ∧ Below w.heap.size w w' := by
  have c1 : (FloatKind.f64.format.order 4598175219545276416 4598175219545276416 == some .eq) = true := by kernel_rfl
  have c2 : (FloatKind.f64.format.order 4611686018427387904 4611686018427387904 == some .eq) = true := by kernel_rfl
  go_enter Try.func16, Try.ntmps16
  go_wp2_with (first
    | (go_at_call 9; (with_reducible refine (wk1 _).mono ?_); rintro e w' ⟨rfl, rfl⟩)
    | (go_at_call 11; (first | (with_reducible refine (wk2 _).mono ?_) | (with_reducible refine (wk3 _).mono ?_)); rintro e w' ⟨rfl, rfl⟩)
    | (go_at_call 13; (with_reducible refine (wk4 _ _ rfl).mono ?_); rintro e w' ⟨rfl, rfl⟩)
    | (go_at_call 15; (first | (with_reducible refine (wk5 _).mono ?_) | (with_reducible refine (wk6 _).mono ?_)); rintro e w' ⟨rfl, rfl⟩))
  all_goals (go_ret; exact ⟨rfl, (Below.refl _ _).alloc (Nat.le_refl _) _⟩)
end Go.Proofs.Ytcfopjfimobbjaa.WG
