/- The law GaugeEdges at every input. -/
import Derived.Test.YtcfopjfimobbjaaWEdges
namespace Go.Proofs.Ytcfopjfimobbjaa.GE
set_option linter.unusedVariables false
set_option linter.unusedSimpArgs false
open Go Go.RowKit
open Go.Proofs.Ytcfopjfimobbjaa.FL Go.Proofs.Ytcfopjfimobbjaa.WG Go.Proofs.Ytcfopjfimobbjaa.GS Go.Proofs.Ytcfopjfimobbjaa.GW
theorem bel4 (w w' : World) (c1 c2 c3 c4 : Obj) (n : Nat) (hb : Below ((((((w.alloc c1).alloc c2).alloc c3).drewN n).alloc c4)).heap.size (((((w.alloc c1).alloc c2).alloc c3).drewN n).alloc c4) w') : Below w.heap.size w w' := by
  have h : Below w.heap.size w (((w.alloc c1).alloc c2).alloc c3) := (((Below.refl _ _).alloc (Nat.le_refl _) c1).alloc (by simp) c2).alloc (by simp; omega) c3
  have h2 : Below w.heap.size w ((((w.alloc c1).alloc c2).alloc c3).drewN n) := ⟨h.os, h.tape, h.output, h.size, h.block⟩
  exact (h2.alloc (by simp; omega) c4).trans (hb.mono (by simp; omega))
set_option maxHeartbeats 16000000 in
set_option maxRecDepth 100000 in
theorem ge (how : Int) (x y : Nat) (k : Nat) (w : World)
    (hx : y < 2 ^ 64) (hn : isnan y = false) (h0 : 0 ≤ ky y) (hm : ky y < 9218868437227405312)
    (ek : wrap64 ((IntKind.u64.wrap how).tmod 10) = (k : Int)) (hk : k < 10)
    (hc : ((FloatKind.f64.format.order x x != some .eq) = true ∧ y = 4617315517961601024) ∨ ((FloatKind.f64.format.order x x != some .eq) = false ∧ (FloatKind.f64.format.order x 0 == some .lt) = true ∧ y = 4617315517961601024) ∨ ((FloatKind.f64.format.order x x != some .eq) = false ∧ (FloatKind.f64.format.order x 0 == some .lt) = false ∧ (FloatKind.f64.format.order x 9094988921128908188 == some .gt) = true ∧ y = 4617315517961601024) ∨ ((FloatKind.f64.format.order x x != some .eq) = false ∧ (FloatKind.f64.format.order x 0 == some .lt) = false ∧ (FloatKind.f64.format.order x 9094988921128908188 == some .gt) = false ∧ y = x)) :
    Calls Try.prog 6 #[.int .i64 how, .float .f64 x] w fun e w' => e = .returned (.bool true) ∧ Below w.heap.size w w' := by
  obtain ⟨r, hr, hlt, kr⟩ := run_nan (P := Try.prog) 22 0 0 w (by kernel_rfl)
  obtain ⟨ak, bk, wk, ea, eb, ew, hb, hS⟩ := rows r y k hr hlt hx hn h0 hm hk
  have r1 : ∀ t W, (binOp .quo t (.float .f64 4607182418800017408) (.float .f64 0)).run Try.prog W = .ok (.float .f64 9218868437227405312) W := fun t W => run_float_arith W .quo t .f64 _ _ _ (by kernel_rfl)
  have r2 : ∀ t W, (binOp .quo t (.float .f64 13830554455654793216) (.float .f64 9218868437227405312)).run Try.prog W = .ok (.float .f64 9223372036854775808) W := fun t W => run_float_arith W .quo t .f64 _ _ _ (by kernel_rfl)
  have r3 : ∀ W, (Op.unary .neg (.float .f64 9218868437227405312)).run Try.prog W = .ok (.float .f64 18442240474082181120) W := fun W => by kernel_rfl
  have cS := fun W => share_calls' ak bk hb W
  have cT := fun W => same_calls (share ak bk) wk W
  rw [hS] at cT
  generalize share ak bk = sk at cS cT
  have cN := fun W => same_calls r r W
  rw [same_nan r r hr hr] at cN
  have cZ := fun W => same_calls 0 9223372036854775808 W
  rw [show same 0 9223372036854775808 = false by kernel_rfl] at cZ
  have cM := fun W => same_calls 9223372036854775808 9223372036854775808 W
  rw [show same 9223372036854775808 9223372036854775808 = true by kernel_rfl] at cM
  have cP := fun W => percent_none r hr W
  have i1 : (0 : Int) ≤ (k : Int) := by omega
  have i2 : (k : Int) < 10 := by omega
  clear hx hn h0 hm hS hb
  rcases hc with ⟨h1, rfl⟩ | ⟨h1, h2, rfl⟩ | ⟨h1, h2, h3, rfl⟩ | ⟨h1, h2, h3, rfl⟩
  all_goals
    (go_enter Try.func6, Try.ntmps6
     go_wp2_with fail
     rw [ek]
     go_quiet ((go_at_call 9; exact (cS _).mono fun _ _ h => ⟨h.1, _, h.2.symm⟩))
     go_wp2_with (first | (go_at_call 15; (first | (with_reducible refine (cT _).mono ?_) | (with_reducible refine (cN _).mono ?_) | (with_reducible refine (cZ _).mono ?_) | (with_reducible refine (cM _).mono ?_)); rintro e w' ⟨rfl, rfl⟩) | (go_at_call 11; (first | (with_reducible refine (cP _).mono ?_) | (with_reducible refine (percent_minus0 _).mono ?_) | (with_reducible refine (percent_inf _).mono ?_) | (with_reducible refine (percent_one _).mono ?_)); rintro e w' ⟨rfl, rfl⟩) | (go_at_call 13; (with_reducible refine (least_push r hr _ _ (by simp)).mono ?_); rintro e w' ⟨rfl, rfl⟩) | (go_at_call 16; (with_reducible refine (wakes_calls _).mono ?_); rintro e w' ⟨rfl, hbb⟩))
     go_ret
     exact ⟨rfl, bel4 _ _ _ _ _ _ _ hbb⟩)
theorem walk (how : Int) (x : Nat) (W : World) (wn : (Lit.int .i64 how).wf = true) (wx : (Lit.float .f64 x).wf = true) :
    Calls Try.prog 6 #[.int .i64 how, .float .f64 x] W fun e w' => e = .returned (.bool true) ∧ Below W.heap.size W w' := by
  have hx := b64 wx
  obtain ⟨k, k1, k2⟩ := umod how 10 (by decide) (by decide)
  have five : ky 4617315517961601024 = 4617315517961601024 := by decide
  cases h1 : (FloatKind.f64.format.order x x != some .eq)
  case true => exact ge how x _ k W (by decide) (by decide) (by rw [five]; decide) (by rw [five]; decide) k2 (by omega) (.inl ⟨h1, rfl⟩)
  cases h2 : (FloatKind.f64.format.order x 0 == some .lt)
  case true => exact ge how x _ k W (by decide) (by decide) (by rw [five]; decide) (by rw [five]; decide) k2 (by omega) (.inr (.inl ⟨h1, h2, rfl⟩))
  cases h3 : (FloatKind.f64.format.order x 9094988921128908188 == some .gt)
  case true => exact ge how x _ k W (by decide) (by decide) (by rw [five]; decide) (by rw [five]; decide) k2 (by omega) (.inr (.inr (.inl ⟨h1, h2, h3, rfl⟩)))
  have n1 : isnan x = false := (isnan_iff x).symm.trans h1
  have g2 : decide (ky x < ky 0) = false := (lt_ky x 0 n1 nan_zero).symm.trans h2
  have g3 : decide (ky 9094988921128908188 < ky x) = false := (gt_ky x 9094988921128908188 n1 (by decide)).symm.trans h3
  have q2 := of_decide_eq_false g2
  have q3 := of_decide_eq_false g3
  rw [ky_zero] at q2
  rw [show ky 9094988921128908188 = 9094988921128908188 by decide] at q3
  exact ge how x x k W hx n1 (by omega) (by omega) k2 (by omega) (.inr (.inr (.inr ⟨h1, h2, h3, rfl⟩)))
end Go.Proofs.Ytcfopjfimobbjaa.GE
