/- The steps of the machine for these functions, written out by this session's program wip/printmore.py; Lean checks every line. -/
import Derived.Test.YtblojnajchpemaaPAx0
import Derived.Test.YtblojnajchpemaaPAx1
import Derived.Test.YtblojnajchpemaaPAx2
import Derived.Test.YtblojnajchpemaaPAx3
import Derived.Test.YtblojnajchpemaaPAx4
import Derived.Test.YtblojnajchpemaaPAx5
namespace Go.Proofs.Ytblojnajchpemaa.PA
open Go.RowKit Go.Proofs.YtblojnajchpemaaW.PrintWords Go.Proofs.YtblojnajchpemaaW.PrintLast Go.Proofs.YtblojnajchpemaaW.PrintMore
attribute [local go_sem] max2_int min2_int max_two min_two max_three min_three max_four min_four   -- for this text's walks alone
set_option linter.unusedVariables false
set_option linter.unusedSimpArgs false

/-! ### woodcutlaw04_IdsExact: function 3 -/
mutual
def woodcutlaw04_IdsExact.j0 : Nat → Int → ByteArray → List Int → Bool → Option (Bool)
  | 0, _, _, _, _ => none
  | k + 1, x0, x1, x2, x22 => if x22 = true then (some true) else ((ids_Text.f k x0).bind fun bt122 => ((ids_Parse.f k x1).bind fun bt124 => ((woodcutref01_ParseId.f k x1).bind fun bt126 => (if bt126.2 = true then (woodcutlaw04_IdsExact.j1 k x0 x2 bt122.1 bt122.2 bt124.1 bt124.2 bt126.1 bt126.2) else (woodcutlaw04_IdsExact.j1 k x0 x2 bt122.1 bt122.2 bt124.1 bt124.2 0 bt126.2)))))
def woodcutlaw04_IdsExact.j1 : Nat → Int → List Int → ByteArray → Int → Int → Int → Int → Bool → Option (Bool)
  | 0, _, _, _, _, _, _, _, _ => none
  | k + 1, x0, x2, x7, x8, x9, x10, x11, x12 => woodcutlaw04_IdsExact.l0 k x0 x2 x7 x8 x9 x10 x11 x12 false 0
def woodcutlaw04_IdsExact.l0 : Nat → Int → List Int → ByteArray → Int → Int → Int → Int → Bool → Bool → Int → Option (Bool)
  | 0, _, _, _, _, _, _, _, _, _, _ => none
  | k + 1, x0, x2, x7, x8, x9, x10, x11, x12, x13, x14 => if x14 < (x2.length : Int) then (if x13 = true then (woodcutlaw04_IdsExact.l0 k x0 x2 x7 x8 x9 x10 x11 x12 true (wrap64 (x14 + 1))) else (if 0 ≤ x14 then (woodcutlaw04_IdsExact.l0 k x0 x2 x7 x8 x9 x10 x11 x12 ((rd x2 x14) == x0) (wrap64 (x14 + 1))) else (none))) else (if (x12 != (x10 == 0)) = true then (woodcutlaw04_IdsExact.j3 k x0 x7 x8 true) else (if x12 = true then (if x9 = x11 then ((ids_Has.f k x2 x0).bind fun t129 => (woodcutlaw04_IdsExact.j3 k x0 x7 x8 (t129 != x13))) else (woodcutlaw04_IdsExact.j3 k x0 x7 x8 true)) else (if x10 = 1 then (if x9 = x11 then ((ids_Has.f k x2 x0).bind fun t130 => (woodcutlaw04_IdsExact.j3 k x0 x7 x8 (t130 != x13))) else (woodcutlaw04_IdsExact.j3 k x0 x7 x8 true)) else (woodcutlaw04_IdsExact.j3 k x0 x7 x8 true))))
def woodcutlaw04_IdsExact.j3 : Nat → Int → ByteArray → Int → Bool → Option (Bool)
  | 0, _, _, _, _ => none
  | k + 1, x0, x7, x8, x78 => if x78 = true then (some false) else ((woodcutref01_Id.f x0).bind fun t131 => (if t131 = true then ((ids_Check.f x0).bind fun t132 => (if t132 = 0 then (if x8 = 0 then ((woodcutref01_IdText.f k x0).bind fun t133 => (if x7.toList = t133.toList then ((woodcutlaw04_wakes.f k).bind fun t134 => (some t134)) else (some false))) else (some false)) else (some false))) else ((ids_Check.f x0).bind fun t135 => (if t135 = 1 then (if x8 = 1 then (if x7.toList = ([] : List UInt8) then ((woodcutlaw04_wakes.f k).bind fun t136 => (some t136)) else (some false)) else (some false)) else (some false)))))
end
def woodcutlaw04_IdsExact.f (k : Nat) (a0 : Int) (a1 : ByteArray) (l2 : List Int) : Option (Bool) := if (a1.size : Int) > 100 then (woodcutlaw04_IdsExact.j0 k a0 a1 l2 true) else (woodcutlaw04_IdsExact.j0 k a0 a1 l2 (decide ((l2.length : Int) > 100)))
theorem woodcutlaw04_IdsExact.mono_l : ∀ k, (∀ y0 y1 y2 y3, LeO (woodcutlaw04_IdsExact.j0 k y0 y1 y2 y3) (woodcutlaw04_IdsExact.j0 (k + 1) y0 y1 y2 y3)) ∧ (∀ y0 y1 y2 y3 y4 y5 y6 y7, LeO (woodcutlaw04_IdsExact.j1 k y0 y1 y2 y3 y4 y5 y6 y7) (woodcutlaw04_IdsExact.j1 (k + 1) y0 y1 y2 y3 y4 y5 y6 y7)) ∧ (∀ y0 y1 y2 y3 y4 y5 y6 y7 y8 y9, LeO (woodcutlaw04_IdsExact.l0 k y0 y1 y2 y3 y4 y5 y6 y7 y8 y9) (woodcutlaw04_IdsExact.l0 (k + 1) y0 y1 y2 y3 y4 y5 y6 y7 y8 y9)) ∧ (∀ y0 y1 y2 y3, LeO (woodcutlaw04_IdsExact.j3 k y0 y1 y2 y3) (woodcutlaw04_IdsExact.j3 (k + 1) y0 y1 y2 y3))
  | 0 => ⟨fun _ _ _ _ r h => by simp [woodcutlaw04_IdsExact.j0] at h, fun _ _ _ _ _ _ _ _ r h => by simp [woodcutlaw04_IdsExact.j1] at h, fun _ _ _ _ _ _ _ _ _ _ r h => by simp [woodcutlaw04_IdsExact.l0] at h, fun _ _ _ _ r h => by simp [woodcutlaw04_IdsExact.j3] at h⟩
  | k + 1 => by
    obtain ⟨ih0, ih1, ih2, ih3⟩ := woodcutlaw04_IdsExact.mono_l k
    refine ⟨?_, ?_, ?_, ?_⟩
    · intro y0 y1 y2 y3
      unfold woodcutlaw04_IdsExact.j0
      repeat' first
      | (with_reducible exact ih0 _ _ _ _)
      | (with_reducible exact ih1 _ _ _ _ _ _ _ _)
      | (with_reducible exact ih2 _ _ _ _ _ _ _ _ _ _)
      | (with_reducible exact ih3 _ _ _ _)
      | (with_reducible exact ids_Has.mono _ _ _)
      | (with_reducible exact ids_Parse.mono _ _)
      | (with_reducible exact ids_Text.mono _ _)
      | (with_reducible exact woodcutlaw04_wakes.mono _)
      | (with_reducible exact woodcutref01_IdText.mono _ _)
      | (with_reducible exact woodcutref01_ParseId.mono _ _)
      | (with_reducible exact LeO.refl _)
      | (with_reducible exact LeO.none _)
      | (with_reducible refine LeO.ite ?_ ?_)
      | (with_reducible refine LeO.bind ?_ (fun _ => ?_))
      | exact ih0 _ _ _ _
      | exact ih1 _ _ _ _ _ _ _ _
      | exact ih2 _ _ _ _ _ _ _ _ _ _
      | exact ih3 _ _ _ _
      | exact ids_Has.mono _ _ _
      | exact ids_Parse.mono _ _
      | exact ids_Text.mono _ _
      | exact woodcutlaw04_wakes.mono _
      | exact woodcutref01_IdText.mono _ _
      | exact woodcutref01_ParseId.mono _ _
      | exact LeO.none _
      | refine LeO.ite ?_ ?_
      | refine LeO.bind ?_ (fun _ => ?_)
    · intro y0 y1 y2 y3 y4 y5 y6 y7
      unfold woodcutlaw04_IdsExact.j1
      repeat' first
      | (with_reducible exact ih0 _ _ _ _)
      | (with_reducible exact ih1 _ _ _ _ _ _ _ _)
      | (with_reducible exact ih2 _ _ _ _ _ _ _ _ _ _)
      | (with_reducible exact ih3 _ _ _ _)
      | (with_reducible exact ids_Has.mono _ _ _)
      | (with_reducible exact ids_Parse.mono _ _)
      | (with_reducible exact ids_Text.mono _ _)
      | (with_reducible exact woodcutlaw04_wakes.mono _)
      | (with_reducible exact woodcutref01_IdText.mono _ _)
      | (with_reducible exact woodcutref01_ParseId.mono _ _)
      | (with_reducible exact LeO.refl _)
      | (with_reducible exact LeO.none _)
      | (with_reducible refine LeO.ite ?_ ?_)
      | (with_reducible refine LeO.bind ?_ (fun _ => ?_))
      | exact ih0 _ _ _ _
      | exact ih1 _ _ _ _ _ _ _ _
      | exact ih2 _ _ _ _ _ _ _ _ _ _
      | exact ih3 _ _ _ _
      | exact ids_Has.mono _ _ _
      | exact ids_Parse.mono _ _
      | exact ids_Text.mono _ _
      | exact woodcutlaw04_wakes.mono _
      | exact woodcutref01_IdText.mono _ _
      | exact woodcutref01_ParseId.mono _ _
      | exact LeO.none _
      | refine LeO.ite ?_ ?_
      | refine LeO.bind ?_ (fun _ => ?_)
    · intro y0 y1 y2 y3 y4 y5 y6 y7 y8 y9
      unfold woodcutlaw04_IdsExact.l0
      repeat' first
      | (with_reducible exact ih0 _ _ _ _)
      | (with_reducible exact ih1 _ _ _ _ _ _ _ _)
      | (with_reducible exact ih2 _ _ _ _ _ _ _ _ _ _)
      | (with_reducible exact ih3 _ _ _ _)
      | (with_reducible exact ids_Has.mono _ _ _)
      | (with_reducible exact ids_Parse.mono _ _)
      | (with_reducible exact ids_Text.mono _ _)
      | (with_reducible exact woodcutlaw04_wakes.mono _)
      | (with_reducible exact woodcutref01_IdText.mono _ _)
      | (with_reducible exact woodcutref01_ParseId.mono _ _)
      | (with_reducible exact LeO.refl _)
      | (with_reducible exact LeO.none _)
      | (with_reducible refine LeO.ite ?_ ?_)
      | (with_reducible refine LeO.bind ?_ (fun _ => ?_))
      | exact ih0 _ _ _ _
      | exact ih1 _ _ _ _ _ _ _ _
      | exact ih2 _ _ _ _ _ _ _ _ _ _
      | exact ih3 _ _ _ _
      | exact ids_Has.mono _ _ _
      | exact ids_Parse.mono _ _
      | exact ids_Text.mono _ _
      | exact woodcutlaw04_wakes.mono _
      | exact woodcutref01_IdText.mono _ _
      | exact woodcutref01_ParseId.mono _ _
      | exact LeO.none _
      | refine LeO.ite ?_ ?_
      | refine LeO.bind ?_ (fun _ => ?_)
    · intro y0 y1 y2 y3
      unfold woodcutlaw04_IdsExact.j3
      repeat' first
      | (with_reducible exact ih0 _ _ _ _)
      | (with_reducible exact ih1 _ _ _ _ _ _ _ _)
      | (with_reducible exact ih2 _ _ _ _ _ _ _ _ _ _)
      | (with_reducible exact ih3 _ _ _ _)
      | (with_reducible exact ids_Has.mono _ _ _)
      | (with_reducible exact ids_Parse.mono _ _)
      | (with_reducible exact ids_Text.mono _ _)
      | (with_reducible exact woodcutlaw04_wakes.mono _)
      | (with_reducible exact woodcutref01_IdText.mono _ _)
      | (with_reducible exact woodcutref01_ParseId.mono _ _)
      | (with_reducible exact LeO.refl _)
      | (with_reducible exact LeO.none _)
      | (with_reducible refine LeO.ite ?_ ?_)
      | (with_reducible refine LeO.bind ?_ (fun _ => ?_))
      | exact ih0 _ _ _ _
      | exact ih1 _ _ _ _ _ _ _ _
      | exact ih2 _ _ _ _ _ _ _ _ _ _
      | exact ih3 _ _ _ _
      | exact ids_Has.mono _ _ _
      | exact ids_Parse.mono _ _
      | exact ids_Text.mono _ _
      | exact woodcutlaw04_wakes.mono _
      | exact woodcutref01_IdText.mono _ _
      | exact woodcutref01_ParseId.mono _ _
      | exact LeO.none _
      | refine LeO.ite ?_ ?_
      | refine LeO.bind ?_ (fun _ => ?_)
theorem woodcutlaw04_IdsExact.mono : ∀ a0 a1 a2 k, LeO (woodcutlaw04_IdsExact.f k a0 a1 a2) (woodcutlaw04_IdsExact.f (k + 1) a0 a1 a2) := by
  intro a0 a1 a2 k
  obtain ⟨ih0, ih1, ih2, ih3⟩ := woodcutlaw04_IdsExact.mono_l k
  unfold woodcutlaw04_IdsExact.f
  repeat' first
      | (with_reducible exact ih0 _ _ _ _)
      | (with_reducible exact ih1 _ _ _ _ _ _ _ _)
      | (with_reducible exact ih2 _ _ _ _ _ _ _ _ _ _)
      | (with_reducible exact ih3 _ _ _ _)
      | (with_reducible exact ids_Has.mono _ _ _)
      | (with_reducible exact ids_Parse.mono _ _)
      | (with_reducible exact ids_Text.mono _ _)
      | (with_reducible exact woodcutlaw04_wakes.mono _)
      | (with_reducible exact woodcutref01_IdText.mono _ _)
      | (with_reducible exact woodcutref01_ParseId.mono _ _)
      | (with_reducible exact LeO.refl _)
      | (with_reducible exact LeO.none _)
      | (with_reducible refine LeO.ite ?_ ?_)
      | (with_reducible refine LeO.bind ?_ (fun _ => ?_))
      | exact ih0 _ _ _ _
      | exact ih1 _ _ _ _ _ _ _ _
      | exact ih2 _ _ _ _ _ _ _ _ _ _
      | exact ih3 _ _ _ _
      | exact ids_Has.mono _ _ _
      | exact ids_Parse.mono _ _
      | exact ids_Text.mono _ _
      | exact woodcutlaw04_wakes.mono _
      | exact woodcutref01_IdText.mono _ _
      | exact woodcutref01_ParseId.mono _ _
      | exact LeO.none _
      | refine LeO.ite ?_ ?_
      | refine LeO.bind ?_ (fun _ => ?_)
set_option maxHeartbeats 8000000 in
set_option maxRecDepth 100000 in
theorem woodcutlaw04_IdsExact.calls (k : Nat) (a0 : Int) (a1 : ByteArray) (A2 : Option Addr) (c2 : Nat) (l2 : List Int) (r : Bool) (w : World) (hr2 : Kd.C (Kd.int .i64) w A2 l2.length l2) (hc2 : l2.length ≤ c2) (h : woodcutlaw04_IdsExact.f k a0 a1 l2 = some r) :
    Calls Try.prog 3 #[.int .i64 a0, .string a1, .slice A2 l2.length c2] w fun e w' => e = .returned (.bool r) ∧ Below w.heap.size w w' := by
  have HR2 := Aside0.mk hr2
  have HC2 := Aside0.mk hc2
  clear hr2 hc2
  have HB := Aside0.mk (Below.refl w.heap.size w)
  have H : (if (a1.size : Int) > 100 then (woodcutlaw04_IdsExact.j0 k a0 a1 l2 true) else (woodcutlaw04_IdsExact.j0 k a0 a1 l2 (decide ((l2.length : Int) > 100)))) = some r := h
  clear h
  have HC4 := Aside0.mk H
  clear H
  go_enter Try.func3, Try.ntmps3
  go_upto_region 1 with (fail)
  go_cut [22] (fun v22 wc => ∃ (kq : Nat) (x22_3 : Bool), v22 = .bool x22_3 ∧ Aside0 (woodcutlaw04_IdsExact.j0 kq a0 a1 l2 x22_3 = some r) ∧ Aside0 (kq ≤ k) ∧ Aside0 (Below w.heap.size w wc))
  case first =>
    have H := HC4.out
    clear HC4
    by_cases c5 : (a1.size : Int) > 100
    · rw [if_pos c5] at H
      have c5b0 : decide (100 < (a1.size : Int)) = true := decide_eq_true c5
      have c5b1 : decide (100 < a1.size) = true := decide_eq_true (by omega)
      clear c5
      (first | rw [c5b0] | (simp only [i64_w, i32_w]; rw [c5b0]) | skip)
      have H' := Aside0.mk H
      clear H
      go_wp2
      go_meet
      case rel => exact ⟨_, (true), (by first | rfl | (simp; done) | (simp [*]; done)), H', ⟨by first | omega | exact Nat.le_refl _⟩, ⟨by repeat (first | (with_reducible first | exact HB.out | apply below_alloc | apply pw_below_drewN | apply below_drew1) | exact HB.out)⟩⟩
    · rw [if_neg c5] at H
      have c5b0 : decide (100 < (a1.size : Int)) = false := decide_eq_false c5
      have c5b1 : decide (100 < a1.size) = false := decide_eq_false (by omega)
      clear c5
      (first | rw [c5b0] | (simp only [i64_w, i32_w]; rw [c5b0]) | skip)
      have H' := Aside0.mk H
      clear H
      go_wp2
      go_meet
      case rel => exact ⟨_, (decide ((l2.length : Int) > 100)), (by first | rfl | (simp; done) | (simp [*]; done)), H', ⟨by first | omega | exact Nat.le_refl _⟩, ⟨by repeat (first | (with_reducible first | exact HB.out | apply below_alloc | apply pw_below_drewN | apply below_drew1) | exact HB.out)⟩⟩
  case rest =>
    clear HC4
    try clear c2
    try clear p2
    try clear c3
    try clear c5
    try clear c5b0
    try clear c5b1
    obtain ⟨kq, x22_3, rfl, HA, HJ3, HB⟩ := hcut
    cases kq with
    | zero => exact absurd HA.out (by simp [woodcutlaw04_IdsExact.j0])
    | succ kj3 =>
      have H := HA.out
      clear HA
      simp only [woodcutlaw04_IdsExact.j0] at H
      by_cases c6 : x22_3 = true
      · subst c6
        have H1 : (some true) = some r := by rw [if_pos rfl] at H; exact H
        clear H
        have H := H1
        clear H1
        obtain rfl := Option.some.inj H
        go_wp2
        go_ret
        exact ⟨by first | rfl | (simp [errW_none, errW_some] <;> rfl) | (simp [*, errW_none, errW_some] <;> rfl), by repeat (first | (with_reducible first | exact HB.out | apply below_alloc | apply pw_below_drewN | apply below_drew1) | exact HB.out)⟩
      · replace c6 := Bool.eq_false_iff.mpr c6
        subst c6
        have H1 : ((ids_Text.f kj3 a0).bind fun bt122 => ((ids_Parse.f kj3 a1).bind fun bt124 => ((woodcutref01_ParseId.f kj3 a1).bind fun bt126 => (if bt126.2 = true then (woodcutlaw04_IdsExact.j1 kj3 a0 l2 bt122.1 bt122.2 bt124.1 bt124.2 bt126.1 bt126.2) else (woodcutlaw04_IdsExact.j1 kj3 a0 l2 bt122.1 bt122.2 bt124.1 bt124.2 0 bt126.2))))) = some r := by rw [if_neg (show ¬ (false = true) by decide)] at H; exact H
        clear H
        have H := H1
        clear H1
        replace H := Option.bind_eq_some_iff.mp H
        obtain ⟨⟨t122, t123⟩, A70, H⟩ := H
        replace H : ((ids_Parse.f kj3 a1).bind fun bt124 => ((woodcutref01_ParseId.f kj3 a1).bind fun bt126 => (if bt126.2 = true then (woodcutlaw04_IdsExact.j1 kj3 a0 l2 t122 t123 bt124.1 bt124.2 bt126.1 bt126.2) else (woodcutlaw04_IdsExact.j1 kj3 a0 l2 t122 t123 bt124.1 bt124.2 0 bt126.2)))) = some r := H
        have A7 := Aside0.mk A70
        clear A70
        replace H := Option.bind_eq_some_iff.mp H
        obtain ⟨⟨t124, t125⟩, A80, H⟩ := H
        replace H : ((woodcutref01_ParseId.f kj3 a1).bind fun bt126 => (if bt126.2 = true then (woodcutlaw04_IdsExact.j1 kj3 a0 l2 t122 t123 t124 t125 bt126.1 bt126.2) else (woodcutlaw04_IdsExact.j1 kj3 a0 l2 t122 t123 t124 t125 0 bt126.2))) = some r := H
        have A8 := Aside0.mk A80
        clear A80
        replace H := Option.bind_eq_some_iff.mp H
        obtain ⟨⟨t126, t127⟩, A90, H⟩ := H
        replace H : (if t127 = true then (woodcutlaw04_IdsExact.j1 kj3 a0 l2 t122 t123 t124 t125 t126 t127) else (woodcutlaw04_IdsExact.j1 kj3 a0 l2 t122 t123 t124 t125 0 t127)) = some r := H
        have A9 := Aside0.mk A90
        clear A90
        have HC10 := Aside0.mk H
        clear H
        go_upto_if 39 with (first | ((with_reducible refine gate_callee (f := 6) rfl ?_); refine goesL_ (some 25) rfl rfl Try.func6 (by kernel_rfl) rfl #[.int .i64 a0] rfl (by (try simp only [List.map_toArray, List.map_cons, List.map_nil]); first | done | rfl | (simp only [List.length_drop, List.length_take]; rfl)) ?_; (with_reducible refine (ids_Text.calls kj3 a0 t122 t123 _ A7.out).mono ?_); rintro e w11 ⟨rfl, hb⟩; refine ⟨_, rfl, ?_⟩; have n0_ := Aside0.mk (below_step (by repeat (first | (with_reducible first | exact HB.out | apply below_alloc | apply pw_below_drewN | apply below_drew1) | exact HB.out)) hb); clear HB; have HB := n0_; clear n0_; (try clear hb); (try clear hb2); (try clear hk); (try clear hi)) | ((with_reducible refine gate_callee (f := 7) rfl ?_); refine goesL_ (some 30) rfl rfl Try.func7 (by kernel_rfl) rfl #[.string a1] rfl (by (try simp only [List.map_toArray, List.map_cons, List.map_nil]); first | done | rfl | (simp only [List.length_drop, List.length_take]; rfl)) ?_; (with_reducible refine (ids_Parse.calls kj3 a1 t124 t125 _ A8.out).mono ?_); rintro e w' ⟨rfl, ⟨nd, rfl⟩⟩; refine ⟨_, rfl, ?_⟩) | ((with_reducible refine gate_callee (f := 8) rfl ?_); refine goesL_ (some 35) rfl rfl Try.func8 (by kernel_rfl) rfl #[.string a1] rfl (by (try simp only [List.map_toArray, List.map_cons, List.map_nil]); first | done | rfl | (simp only [List.length_drop, List.length_take]; rfl)) ?_; (with_reducible refine (woodcutref01_ParseId.calls kj3 a1 t126 t127 _ A9.out).mono ?_); rintro e w' ⟨rfl, ⟨nd, rfl⟩⟩; refine ⟨_, rfl, ?_⟩))
        (try simp only [Act.put, List.setIfInBounds_toArray, List.set_cons_zero, List.set_cons_succ])
        go_cut [11] (fun v11 wc => ∃ (kq : Nat) (x11_9 : Int), v11 = .int .i64 x11_9 ∧ Aside0 (woodcutlaw04_IdsExact.j1 kq a0 l2 t122 t123 t124 t125 x11_9 t127 = some r) ∧ Aside0 (kq ≤ kj3) ∧ Aside0 (Below w.heap.size w wc))
        case first =>
          have H := HC10.out
          clear HC10
          by_cases c12 : t127 = true
          · subst c12
            have H1 : (woodcutlaw04_IdsExact.j1 kj3 a0 l2 t122 t123 t124 t125 t126 true) = some r := by rw [if_pos rfl] at H; exact H
            clear H
            have H := H1
            clear H1
            have H' := Aside0.mk H
            clear H
            go_wp2
            go_meet
            case rel => exact ⟨_, (t126), (by first | rfl | (simp; done) | (simp [*]; done)), H', ⟨by have := HJ3.out; first | omega | exact Nat.le_refl _⟩, ⟨by repeat (first | (with_reducible first | exact HB.out | apply below_alloc | apply pw_below_drewN | apply below_drew1) | exact HB.out)⟩⟩
          · replace c12 := Bool.eq_false_iff.mpr c12
            subst c12
            have H1 : (woodcutlaw04_IdsExact.j1 kj3 a0 l2 t122 t123 t124 t125 0 false) = some r := by rw [if_neg (show ¬ (false = true) by decide)] at H; exact H
            clear H
            have H := H1
            clear H1
            have H' := Aside0.mk H
            clear H
            go_wp2
            go_meet
            case rel => exact ⟨_, (0), (by first | rfl | (simp; done) | (simp [*]; done)), H', ⟨by have := HJ3.out; first | omega | exact Nat.le_refl _⟩, ⟨by repeat (first | (with_reducible first | exact HB.out | apply below_alloc | apply pw_below_drewN | apply below_drew1) | exact HB.out)⟩⟩
        case rest =>
          clear HC10
          try clear c1
          try clear c2
          try clear p2
          try clear c3
          try clear c5
          try clear c5b0
          try clear c5b1
          try clear c6
          try clear c7
          try clear c8
          try clear c12
          try clear p2
          obtain ⟨kq, x11_9, rfl, HA, HJ9, HB⟩ := hcut
          cases kq with
          | zero => exact absurd HA.out (by simp [woodcutlaw04_IdsExact.j1])
          | succ kj9 =>
            have H := HA.out
            clear HA
            simp only [woodcutlaw04_IdsExact.j1] at H
            have H' := Aside0.mk H
            clear H
            go_wp2
            go_loopg [13, 14] kj9 (fun kq v13 v14 w' => ∃ (x13_3 : Bool) (x14_3 : Int), v13 = .bool x13_3 ∧ v14 = .int .i64 x14_3 ∧ Aside0 (woodcutlaw04_IdsExact.l0 kq a0 l2 t122 t123 t124 t125 x11_9 t127 x13_3 x14_3 = some r) ∧ Aside0 (kq ≤ kj9) ∧ Aside0 (Below w.heap.size w w'))
            case atStart => exact ⟨(false), (0), (by first | rfl | (simp; done) | (simp [*]; done)), (by first | rfl | (simp; done) | (simp [*]; done)), H', ⟨Nat.le_refl _⟩, ⟨by repeat (first | (with_reducible first | exact HB.out | apply below_alloc | apply pw_below_drewN | apply below_drew1) | exact HB.out)⟩⟩
            case round =>
              clear H'
              try clear c1
              try clear c2
              try clear p2
              try clear c3
              try clear c5
              try clear c5b0
              try clear c5b1
              try clear c6
              try clear c7
              try clear c8
              try clear c12
              try clear p2
              obtain ⟨x13_3, x14_3, rfl, rfl, HA, HK3, HB⟩ := hrel
              cases gk with
              | zero => exact absurd HA.out (by simp [woodcutlaw04_IdsExact.l0])
              | succ k3 =>
                have H := HA.out
                clear HA
                simp only [woodcutlaw04_IdsExact.l0] at H
                by_cases c13 : x14_3 < (l2.length : Int)
                · rw [if_pos c13] at H
                  have c13b0 : decide (x14_3 < (l2.length : Int)) = true := decide_eq_true c13
                  clear c13
                  by_cases c14 : x13_3 = true
                  · subst c14
                    have H1 : (woodcutlaw04_IdsExact.l0 k3 a0 l2 t122 t123 t124 t125 x11_9 t127 true (wrap64 (x14_3 + 1))) = some r := by rw [if_pos rfl] at H; exact H
                    clear H
                    have H := H1
                    clear H1
                    have H' := Aside0.mk H
                    clear H
                    go_wp2
                    go_roundg k3
                    case measure => have := HJ3.out; have := HJ9.out; have := HK3.out; omega
                    case rel => exact ⟨(true), (wrap64 (x14_3 + 1)), (by first | rfl | (simp; done) | (simp [*]; done)), (by first | rfl | (simp; done) | (simp [*]; done)), H', ⟨by have := HJ3.out; have := HJ9.out; have := HK3.out; omega⟩, ⟨by repeat (first | (with_reducible first | exact HB.out | apply below_alloc | apply pw_below_drewN | apply below_drew1) | exact HB.out)⟩⟩
                  · replace c14 := Bool.eq_false_iff.mpr c14
                    subst c14
                    have H1 : (if 0 ≤ x14_3 then (woodcutlaw04_IdsExact.l0 k3 a0 l2 t122 t123 t124 t125 x11_9 t127 ((rd l2 x14_3) == a0) (wrap64 (x14_3 + 1))) else (none)) = some r := by rw [if_neg (show ¬ (false = true) by decide)] at H; exact H
                    clear H
                    have H := H1
                    clear H1
                    by_cases c15 : 0 ≤ x14_3
                    · rw [if_pos c15] at H
                      have c15b0 : decide (0 ≤ x14_3) = true := decide_eq_true c15
                      clear c15
                      have H' := Aside0.mk H
                      clear H
                      have p128 : 0 ≤ (x14_3 : Int) := of_decide_eq_true (by first | (with_reducible assumption) | assumption)
                      have q128 : x14_3 < (l2.length : Int) := of_decide_eq_true (by first | (with_reducible assumption) | assumption)
                      obtain ⟨ad128, e128, hx128_0⟩ := Kd.at_int HR2.out x14_3 p128 q128
                      cases e128
                      replace hx128_0 := (HB.out.cell (World.block_lt_of_cell? w _ hx128_0)).trans hx128_0
                      replace p128 := eq_true p128
                      replace q128 := eq_true q128
                      go_wp2
                      go_roundg k3
                      case measure => have := HJ3.out; have := HJ9.out; have := HK3.out; omega
                      case rel => exact ⟨(((rd l2 x14_3) == a0)), (wrap64 (x14_3 + 1)), (by first | rfl | (simp; done) | (simp [*]; done)), (by first | rfl | (simp; done) | (simp [*]; done)), H', ⟨by have := HJ3.out; have := HJ9.out; have := HK3.out; omega⟩, ⟨by repeat (first | (with_reducible first | exact HB.out | apply below_alloc | apply pw_below_drewN | apply below_drew1) | exact HB.out)⟩⟩
                    · rw [if_neg c15] at H
                      exact absurd H (by simp)
                · rw [if_neg c13] at H
                  have c13b0 : decide (x14_3 < (l2.length : Int)) = false := decide_eq_false c13
                  clear c13
                  have HC16 := Aside0.mk H
                  clear H
                  go_upto_region 13 with (fail)
                  go_cut [78] (fun v78 wc => ∃ (kq : Nat) (x78_15 : Bool), v78 = .bool x78_15 ∧ Aside0 (woodcutlaw04_IdsExact.j3 kq a0 t122 t123 x78_15 = some r) ∧ Aside0 (kq ≤ k3) ∧ Aside0 (Below w.heap.size w wc))
                  case first =>
                    have H := HC16.out
                    clear HC16
                    by_cases c17 : (t127 != (t125 == 0)) = true
                    · rw [if_pos c17] at H
                      have c17b0 : (t127 != (t125 == 0)) = true := c17
                      (try (have c17b1 : decide (t127 = (t125 == 0)) = false := by simpa using c17))
                      (try (have c17b2 : (t127 == (t125 == 0)) = false := by simpa using c17))
                      (try (have c17b3 : ¬ (t127 = (t125 == 0)) := by simpa using c17))
                      clear c17
                      (first | rw [c17b0] | (simp only [i64_w, i32_w]; rw [c17b0]) | skip)
                      have H' := Aside0.mk H
                      clear H
                      go_wp2
                      go_meet
                      case rel => exact ⟨_, (true), (by first | rfl | (simp; done) | (simp [*]; done)), H', ⟨by have := HJ3.out; have := HJ9.out; have := HK3.out; first | omega | exact Nat.le_refl _⟩, ⟨by repeat (first | (with_reducible first | exact HB.out | apply below_alloc | apply pw_below_drewN | apply below_drew1) | exact HB.out)⟩⟩
                    · rw [if_neg c17] at H
                      have c17b0 : (t127 != (t125 == 0)) = false := by simpa using c17
                      (try (have c17b1 : decide (t127 = (t125 == 0)) = true := by simpa using c17))
                      (try (have c17b2 : (t127 == (t125 == 0)) = true := by simpa using c17))
                      clear c17
                      (first | rw [c17b0] | (simp only [i64_w, i32_w]; rw [c17b0]) | skip)
                      by_cases c18 : t127 = true
                      · subst c18
                        have H1 : (if t124 = x11_9 then ((ids_Has.f k3 l2 a0).bind fun t129 => (woodcutlaw04_IdsExact.j3 k3 a0 t122 t123 (t129 != x13_3))) else (woodcutlaw04_IdsExact.j3 k3 a0 t122 t123 true)) = some r := by rw [if_pos rfl] at H; exact H
                        clear H
                        have H := H1
                        clear H1
                        by_cases c19 : t124 = x11_9
                        · rw [if_pos c19] at H
                          have c19b0 : (t124 == x11_9) = true := beq_iff_eq.mpr c19
                          have c19b1 : (t124 != x11_9) = false := bne_eq_false_iff_eq.mpr c19
                          clear c19
                          replace H := Option.bind_eq_some_iff.mp H
                          obtain ⟨t129, A200, H⟩ := H
                          replace H : (woodcutlaw04_IdsExact.j3 k3 a0 t122 t123 (t129 != x13_3)) = some r := H
                          have A20 := Aside0.mk A200
                          clear A200
                          have H' := Aside0.mk H
                          clear H
                          go_wp2_with (first | (go_at_call 9; (with_reducible refine (ids_Has.calls k3 _ _ l2 a0 t129 _ ?side1 ?side2 A20.out).mono ?_); (case side1 => repeat (first | exact (Kd.C_below HR2.out HB.out) | (with_reducible refine Kd.C_alloc ?_ _) | (with_reducible refine Kd.C_drewN ?_ _) | (with_reducible refine Kd.C_drew ?_))); (case side2 => exact HC2.out); rintro e w' ⟨rfl, ⟨nd, rfl⟩⟩))
                          go_meet
                          case rel => exact ⟨_, ((t129 != x13_3)), (by first | rfl | (simp; done) | (simp [*]; done)), H', ⟨by have := HJ3.out; have := HJ9.out; have := HK3.out; first | omega | exact Nat.le_refl _⟩, ⟨by repeat (first | (with_reducible first | exact HB.out | apply below_alloc | apply pw_below_drewN | apply below_drew1) | exact HB.out)⟩⟩
                        · rw [if_neg c19] at H
                          have c19b0 : (t124 == x11_9) = false := beq_eq_false_iff_ne.mpr c19
                          have c19b1 : (t124 != x11_9) = true := bne_iff_ne.mpr c19
                          have H' := Aside0.mk H
                          clear H
                          go_wp2
                          go_meet
                          case rel => exact ⟨_, (true), (by first | rfl | (simp; done) | (simp [*]; done)), H', ⟨by have := HJ3.out; have := HJ9.out; have := HK3.out; first | omega | exact Nat.le_refl _⟩, ⟨by repeat (first | (with_reducible first | exact HB.out | apply below_alloc | apply pw_below_drewN | apply below_drew1) | exact HB.out)⟩⟩
                      · replace c18 := Bool.eq_false_iff.mpr c18
                        subst c18
                        have H1 : (if t125 = 1 then (if t124 = x11_9 then ((ids_Has.f k3 l2 a0).bind fun t130 => (woodcutlaw04_IdsExact.j3 k3 a0 t122 t123 (t130 != x13_3))) else (woodcutlaw04_IdsExact.j3 k3 a0 t122 t123 true)) else (woodcutlaw04_IdsExact.j3 k3 a0 t122 t123 true)) = some r := by rw [if_neg (show ¬ (false = true) by decide)] at H; exact H
                        clear H
                        have H := H1
                        clear H1
                        by_cases c21 : t125 = 1
                        · rw [if_pos c21] at H
                          have c21b0 : (t125 == 1) = true := beq_iff_eq.mpr c21
                          have c21b1 : (t125 != 1) = false := bne_eq_false_iff_eq.mpr c21
                          clear c21
                          by_cases c22 : t124 = x11_9
                          · rw [if_pos c22] at H
                            have c22b0 : (t124 == x11_9) = true := beq_iff_eq.mpr c22
                            have c22b1 : (t124 != x11_9) = false := bne_eq_false_iff_eq.mpr c22
                            clear c22
                            replace H := Option.bind_eq_some_iff.mp H
                            obtain ⟨t130, A230, H⟩ := H
                            replace H : (woodcutlaw04_IdsExact.j3 k3 a0 t122 t123 (t130 != x13_3)) = some r := H
                            have A23 := Aside0.mk A230
                            clear A230
                            have H' := Aside0.mk H
                            clear H
                            go_wp2_with (first | (go_at_call 9; (with_reducible refine (ids_Has.calls k3 _ _ l2 a0 t130 _ ?side1 ?side2 A23.out).mono ?_); (case side1 => repeat (first | exact (Kd.C_below HR2.out HB.out) | (with_reducible refine Kd.C_alloc ?_ _) | (with_reducible refine Kd.C_drewN ?_ _) | (with_reducible refine Kd.C_drew ?_))); (case side2 => exact HC2.out); rintro e w' ⟨rfl, ⟨nd, rfl⟩⟩))
                            go_meet
                            case rel => exact ⟨_, ((t130 != x13_3)), (by first | rfl | (simp; done) | (simp [*]; done)), H', ⟨by have := HJ3.out; have := HJ9.out; have := HK3.out; first | omega | exact Nat.le_refl _⟩, ⟨by repeat (first | (with_reducible first | exact HB.out | apply below_alloc | apply pw_below_drewN | apply below_drew1) | exact HB.out)⟩⟩
                          · rw [if_neg c22] at H
                            have c22b0 : (t124 == x11_9) = false := beq_eq_false_iff_ne.mpr c22
                            have c22b1 : (t124 != x11_9) = true := bne_iff_ne.mpr c22
                            have H' := Aside0.mk H
                            clear H
                            go_wp2
                            go_meet
                            case rel => exact ⟨_, (true), (by first | rfl | (simp; done) | (simp [*]; done)), H', ⟨by have := HJ3.out; have := HJ9.out; have := HK3.out; first | omega | exact Nat.le_refl _⟩, ⟨by repeat (first | (with_reducible first | exact HB.out | apply below_alloc | apply pw_below_drewN | apply below_drew1) | exact HB.out)⟩⟩
                        · rw [if_neg c21] at H
                          have c21b0 : (t125 == 1) = false := beq_eq_false_iff_ne.mpr c21
                          have c21b1 : (t125 != 1) = true := bne_iff_ne.mpr c21
                          have H' := Aside0.mk H
                          clear H
                          go_wp2
                          go_meet
                          case rel => exact ⟨_, (true), (by first | rfl | (simp; done) | (simp [*]; done)), H', ⟨by have := HJ3.out; have := HJ9.out; have := HK3.out; first | omega | exact Nat.le_refl _⟩, ⟨by repeat (first | (with_reducible first | exact HB.out | apply below_alloc | apply pw_below_drewN | apply below_drew1) | exact HB.out)⟩⟩
                  case rest =>
                    clear HC16
                    try clear c1
                    try clear p1
                    try clear q1
                    try clear hx1
                    try clear c2
                    try clear p2
                    try clear c3
                    try clear c5
                    try clear c5b0
                    try clear c5b1
                    try clear c6
                    try clear p6
                    try clear c7
                    try clear c8
                    try clear c12
                    try clear p12
                    try clear q12
                    try clear hx12
                    try clear c13
                    try clear c13b0
                    try clear c14
                    try clear c15
                    try clear c15b0
                    try clear c17
                    try clear c17b0
                    try clear c17b1
                    try clear c17b2
                    try clear c18
                    try clear c19
                    try clear c19b0
                    try clear c19b1
                    try clear c21
                    try clear c21b0
                    try clear c21b1
                    try clear c22
                    try clear c22b0
                    try clear c22b1
                    try clear hx128_0
                    try clear p128
                    try clear p2
                    try clear q128
                    obtain ⟨kq, x78_15, rfl, HA, HJ15, HB⟩ := hcut
                    cases kq with
                    | zero => exact absurd HA.out (by simp [woodcutlaw04_IdsExact.j3])
                    | succ kj15 =>
                      have H := HA.out
                      clear HA
                      simp only [woodcutlaw04_IdsExact.j3] at H
                      by_cases c24 : x78_15 = true
                      · subst c24
                        have H1 : (some false) = some r := by rw [if_pos rfl] at H; exact H
                        clear H
                        have H := H1
                        clear H1
                        obtain rfl := Option.some.inj H
                        go_wp2
                        go_ret
                        exact ⟨by first | rfl | (simp [errW_none, errW_some] <;> rfl) | (simp [*, errW_none, errW_some] <;> rfl), by repeat (first | (with_reducible first | exact HB.out | apply below_alloc | apply pw_below_drewN | apply below_drew1) | exact HB.out)⟩
                      · replace c24 := Bool.eq_false_iff.mpr c24
                        subst c24
                        have H1 : ((woodcutref01_Id.f a0).bind fun t131 => (if t131 = true then ((ids_Check.f a0).bind fun t132 => (if t132 = 0 then (if t123 = 0 then ((woodcutref01_IdText.f kj15 a0).bind fun t133 => (if t122.toList = t133.toList then ((woodcutlaw04_wakes.f kj15).bind fun t134 => (some t134)) else (some false))) else (some false)) else (some false))) else ((ids_Check.f a0).bind fun t135 => (if t135 = 1 then (if t123 = 1 then (if t122.toList = ([] : List UInt8) then ((woodcutlaw04_wakes.f kj15).bind fun t136 => (some t136)) else (some false)) else (some false)) else (some false))))) = some r := by rw [if_neg (show ¬ (false = true) by decide)] at H; exact H
                        clear H
                        have H := H1
                        clear H1
                        replace H := Option.bind_eq_some_iff.mp H
                        obtain ⟨t131, A250, H⟩ := H
                        replace H : (if t131 = true then ((ids_Check.f a0).bind fun t132 => (if t132 = 0 then (if t123 = 0 then ((woodcutref01_IdText.f kj15 a0).bind fun t133 => (if t122.toList = t133.toList then ((woodcutlaw04_wakes.f kj15).bind fun t134 => (some t134)) else (some false))) else (some false)) else (some false))) else ((ids_Check.f a0).bind fun t135 => (if t135 = 1 then (if t123 = 1 then (if t122.toList = ([] : List UInt8) then ((woodcutlaw04_wakes.f kj15).bind fun t136 => (some t136)) else (some false)) else (some false)) else (some false)))) = some r := H
                        have A25 := Aside0.mk A250
                        clear A250
                        by_cases c26 : t131 = true
                        · subst c26
                          have H1 : ((ids_Check.f a0).bind fun t132 => (if t132 = 0 then (if t123 = 0 then ((woodcutref01_IdText.f kj15 a0).bind fun t133 => (if t122.toList = t133.toList then ((woodcutlaw04_wakes.f kj15).bind fun t134 => (some t134)) else (some false))) else (some false)) else (some false))) = some r := by rw [if_pos rfl] at H; exact H
                          clear H
                          have H := H1
                          clear H1
                          replace H := Option.bind_eq_some_iff.mp H
                          obtain ⟨t132, A270, H⟩ := H
                          replace H : (if t132 = 0 then (if t123 = 0 then ((woodcutref01_IdText.f kj15 a0).bind fun t133 => (if t122.toList = t133.toList then ((woodcutlaw04_wakes.f kj15).bind fun t134 => (some t134)) else (some false))) else (some false)) else (some false)) = some r := H
                          have A27 := Aside0.mk A270
                          clear A270
                          by_cases c28 : t132 = 0
                          · rw [if_pos c28] at H
                            have c28b0 : (t132 == 0) = true := beq_iff_eq.mpr c28
                            have c28b1 : (t132 != 0) = false := bne_eq_false_iff_eq.mpr c28
                            clear c28
                            by_cases c29 : t123 = 0
                            · rw [if_pos c29] at H
                              have c29b0 : (t123 == 0) = true := beq_iff_eq.mpr c29
                              have c29b1 : (t123 != 0) = false := bne_eq_false_iff_eq.mpr c29
                              clear c29
                              replace H := Option.bind_eq_some_iff.mp H
                              obtain ⟨t133, A300, H⟩ := H
                              replace H : (if t122.toList = t133.toList then ((woodcutlaw04_wakes.f kj15).bind fun t134 => (some t134)) else (some false)) = some r := H
                              have A30 := Aside0.mk A300
                              clear A300
                              by_cases c31 : t122.toList = t133.toList
                              · rw [if_pos c31] at H
                                have c31b0 : (t122.toList == t133.toList) = true := beq_iff_eq.mpr c31
                                have c31b1 : (t122.toList != t133.toList) = false := bne_eq_false_iff_eq.mpr c31
                                clear c31
                                replace H := Option.bind_eq_some_iff.mp H
                                obtain ⟨t134, A320, H⟩ := H
                                replace H : (some t134) = some r := H
                                have A32 := Aside0.mk A320
                                clear A320
                                obtain rfl := Option.some.inj H
                                go_wp2_with (first | ((with_reducible refine gate_callee (f := 10) rfl ?_); refine goesL_ (some 80) rfl rfl Try.func10 (by kernel_rfl) rfl #[.int .i64 a0] rfl (by (try simp only [List.map_toArray, List.map_cons, List.map_nil]); first | done | rfl | (simp only [List.length_drop, List.length_take]; rfl)) ?_; (with_reducible refine (woodcutref01_Id.calls a0 true _ A25.out).mono ?_); rintro e w' ⟨rfl, ⟨nd, rfl⟩⟩; refine ⟨_, rfl, ?_⟩) | ((with_reducible refine gate_callee (f := 11) rfl ?_); refine goesL_ (some 97) rfl rfl Try.func11 (by kernel_rfl) rfl #[.int .i64 a0] rfl (by (try simp only [List.map_toArray, List.map_cons, List.map_nil]); first | done | rfl | (simp only [List.length_drop, List.length_take]; rfl)) ?_; (with_reducible refine (ids_Check.calls a0 t132 _ A27.out).mono ?_); rintro e w' ⟨rfl, ⟨nd, rfl⟩⟩; refine ⟨_, rfl, ?_⟩) | (go_at_call 13; (with_reducible refine (woodcutref01_IdText.calls kj15 a0 t133 _ A30.out).mono ?_); rintro e w' ⟨rfl, ⟨nd, rfl⟩⟩) | (go_at_call 12; (with_reducible refine (woodcutlaw04_wakes.calls kj15  t134 _ A32.out).mono ?_); rintro e w33 ⟨rfl, hb⟩; have n0_ := Aside0.mk (below_step (by repeat (first | (with_reducible first | exact HB.out | apply below_alloc | apply pw_below_drewN | apply below_drew1) | exact HB.out)) hb); clear HB; have HB := n0_; clear n0_; (try clear hb); (try clear hb2); (try clear hk); (try clear hi)))
                                go_ret
                                exact ⟨by first | rfl | (simp [errW_none, errW_some] <;> rfl) | (simp [*, errW_none, errW_some] <;> rfl), by repeat (first | (with_reducible first | exact HB.out | apply below_alloc | apply pw_below_drewN | apply below_drew1) | exact HB.out)⟩
                              · rw [if_neg c31] at H
                                have c31b0 : (t122.toList == t133.toList) = false := beq_eq_false_iff_ne.mpr c31
                                have c31b1 : (t122.toList != t133.toList) = true := bne_iff_ne.mpr c31
                                obtain rfl := Option.some.inj H
                                go_wp2_with (first | ((with_reducible refine gate_callee (f := 10) rfl ?_); refine goesL_ (some 80) rfl rfl Try.func10 (by kernel_rfl) rfl #[.int .i64 a0] rfl (by (try simp only [List.map_toArray, List.map_cons, List.map_nil]); first | done | rfl | (simp only [List.length_drop, List.length_take]; rfl)) ?_; (with_reducible refine (woodcutref01_Id.calls a0 true _ A25.out).mono ?_); rintro e w' ⟨rfl, ⟨nd, rfl⟩⟩; refine ⟨_, rfl, ?_⟩) | ((with_reducible refine gate_callee (f := 11) rfl ?_); refine goesL_ (some 97) rfl rfl Try.func11 (by kernel_rfl) rfl #[.int .i64 a0] rfl (by (try simp only [List.map_toArray, List.map_cons, List.map_nil]); first | done | rfl | (simp only [List.length_drop, List.length_take]; rfl)) ?_; (with_reducible refine (ids_Check.calls a0 t132 _ A27.out).mono ?_); rintro e w' ⟨rfl, ⟨nd, rfl⟩⟩; refine ⟨_, rfl, ?_⟩) | (go_at_call 13; (with_reducible refine (woodcutref01_IdText.calls kj15 a0 t133 _ A30.out).mono ?_); rintro e w' ⟨rfl, ⟨nd, rfl⟩⟩))
                                go_ret
                                exact ⟨by first | rfl | (simp [errW_none, errW_some] <;> rfl) | (simp [*, errW_none, errW_some] <;> rfl), by repeat (first | (with_reducible first | exact HB.out | apply below_alloc | apply pw_below_drewN | apply below_drew1) | exact HB.out)⟩
                            · rw [if_neg c29] at H
                              have c29b0 : (t123 == 0) = false := beq_eq_false_iff_ne.mpr c29
                              have c29b1 : (t123 != 0) = true := bne_iff_ne.mpr c29
                              obtain rfl := Option.some.inj H
                              go_wp2_with (first | ((with_reducible refine gate_callee (f := 10) rfl ?_); refine goesL_ (some 80) rfl rfl Try.func10 (by kernel_rfl) rfl #[.int .i64 a0] rfl (by (try simp only [List.map_toArray, List.map_cons, List.map_nil]); first | done | rfl | (simp only [List.length_drop, List.length_take]; rfl)) ?_; (with_reducible refine (woodcutref01_Id.calls a0 true _ A25.out).mono ?_); rintro e w' ⟨rfl, ⟨nd, rfl⟩⟩; refine ⟨_, rfl, ?_⟩) | ((with_reducible refine gate_callee (f := 11) rfl ?_); refine goesL_ (some 97) rfl rfl Try.func11 (by kernel_rfl) rfl #[.int .i64 a0] rfl (by (try simp only [List.map_toArray, List.map_cons, List.map_nil]); first | done | rfl | (simp only [List.length_drop, List.length_take]; rfl)) ?_; (with_reducible refine (ids_Check.calls a0 t132 _ A27.out).mono ?_); rintro e w' ⟨rfl, ⟨nd, rfl⟩⟩; refine ⟨_, rfl, ?_⟩))
                              go_ret
                              exact ⟨by first | rfl | (simp [errW_none, errW_some] <;> rfl) | (simp [*, errW_none, errW_some] <;> rfl), by repeat (first | (with_reducible first | exact HB.out | apply below_alloc | apply pw_below_drewN | apply below_drew1) | exact HB.out)⟩
                          · rw [if_neg c28] at H
                            have c28b0 : (t132 == 0) = false := beq_eq_false_iff_ne.mpr c28
                            have c28b1 : (t132 != 0) = true := bne_iff_ne.mpr c28
                            obtain rfl := Option.some.inj H
                            go_wp2_with (first | ((with_reducible refine gate_callee (f := 10) rfl ?_); refine goesL_ (some 80) rfl rfl Try.func10 (by kernel_rfl) rfl #[.int .i64 a0] rfl (by (try simp only [List.map_toArray, List.map_cons, List.map_nil]); first | done | rfl | (simp only [List.length_drop, List.length_take]; rfl)) ?_; (with_reducible refine (woodcutref01_Id.calls a0 true _ A25.out).mono ?_); rintro e w' ⟨rfl, ⟨nd, rfl⟩⟩; refine ⟨_, rfl, ?_⟩) | ((with_reducible refine gate_callee (f := 11) rfl ?_); refine goesL_ (some 97) rfl rfl Try.func11 (by kernel_rfl) rfl #[.int .i64 a0] rfl (by (try simp only [List.map_toArray, List.map_cons, List.map_nil]); first | done | rfl | (simp only [List.length_drop, List.length_take]; rfl)) ?_; (with_reducible refine (ids_Check.calls a0 t132 _ A27.out).mono ?_); rintro e w' ⟨rfl, ⟨nd, rfl⟩⟩; refine ⟨_, rfl, ?_⟩))
                            go_ret
                            exact ⟨by first | rfl | (simp [errW_none, errW_some] <;> rfl) | (simp [*, errW_none, errW_some] <;> rfl), by repeat (first | (with_reducible first | exact HB.out | apply below_alloc | apply pw_below_drewN | apply below_drew1) | exact HB.out)⟩
                        · replace c26 := Bool.eq_false_iff.mpr c26
                          subst c26
                          have H1 : ((ids_Check.f a0).bind fun t135 => (if t135 = 1 then (if t123 = 1 then (if t122.toList = ([] : List UInt8) then ((woodcutlaw04_wakes.f kj15).bind fun t136 => (some t136)) else (some false)) else (some false)) else (some false))) = some r := by rw [if_neg (show ¬ (false = true) by decide)] at H; exact H
                          clear H
                          have H := H1
                          clear H1
                          replace H := Option.bind_eq_some_iff.mp H
                          obtain ⟨t135, A340, H⟩ := H
                          replace H : (if t135 = 1 then (if t123 = 1 then (if t122.toList = ([] : List UInt8) then ((woodcutlaw04_wakes.f kj15).bind fun t136 => (some t136)) else (some false)) else (some false)) else (some false)) = some r := H
                          have A34 := Aside0.mk A340
                          clear A340
                          by_cases c35 : t135 = 1
                          · rw [if_pos c35] at H
                            have c35b0 : (t135 == 1) = true := beq_iff_eq.mpr c35
                            have c35b1 : (t135 != 1) = false := bne_eq_false_iff_eq.mpr c35
                            clear c35
                            by_cases c36 : t123 = 1
                            · rw [if_pos c36] at H
                              have c36b0 : (t123 == 1) = true := beq_iff_eq.mpr c36
                              have c36b1 : (t123 != 1) = false := bne_eq_false_iff_eq.mpr c36
                              clear c36
                              by_cases c37 : t122.toList = ([] : List UInt8)
                              · rw [if_pos c37] at H
                                have c37b0 : (t122.toList == ([] : List UInt8)) = true := beq_iff_eq.mpr c37
                                have c37b1 : (t122.toList != ([] : List UInt8)) = false := bne_eq_false_iff_eq.mpr c37
                                clear c37
                                replace H := Option.bind_eq_some_iff.mp H
                                obtain ⟨t136, A380, H⟩ := H
                                replace H : (some t136) = some r := H
                                have A38 := Aside0.mk A380
                                clear A380
                                obtain rfl := Option.some.inj H
                                go_wp2_with (first | ((with_reducible refine gate_callee (f := 10) rfl ?_); refine goesL_ (some 80) rfl rfl Try.func10 (by kernel_rfl) rfl #[.int .i64 a0] rfl (by (try simp only [List.map_toArray, List.map_cons, List.map_nil]); first | done | rfl | (simp only [List.length_drop, List.length_take]; rfl)) ?_; (with_reducible refine (woodcutref01_Id.calls a0 false _ A25.out).mono ?_); rintro e w' ⟨rfl, ⟨nd, rfl⟩⟩; refine ⟨_, rfl, ?_⟩) | ((with_reducible refine gate_callee (f := 11) rfl ?_); refine goesL_ (some 83) rfl rfl Try.func11 (by kernel_rfl) rfl #[.int .i64 a0] rfl (by (try simp only [List.map_toArray, List.map_cons, List.map_nil]); first | done | rfl | (simp only [List.length_drop, List.length_take]; rfl)) ?_; (with_reducible refine (ids_Check.calls a0 t135 _ A34.out).mono ?_); rintro e w' ⟨rfl, ⟨nd, rfl⟩⟩; refine ⟨_, rfl, ?_⟩) | (go_at_call 12; (with_reducible refine (woodcutlaw04_wakes.calls kj15  t136 _ A38.out).mono ?_); rintro e w39 ⟨rfl, hb⟩; have n0_ := Aside0.mk (below_step (by repeat (first | (with_reducible first | exact HB.out | apply below_alloc | apply pw_below_drewN | apply below_drew1) | exact HB.out)) hb); clear HB; have HB := n0_; clear n0_; (try clear hb); (try clear hb2); (try clear hk); (try clear hi)))
                                go_ret
                                exact ⟨by first | rfl | (simp [errW_none, errW_some] <;> rfl) | (simp [*, errW_none, errW_some] <;> rfl), by repeat (first | (with_reducible first | exact HB.out | apply below_alloc | apply pw_below_drewN | apply below_drew1) | exact HB.out)⟩
                              · rw [if_neg c37] at H
                                have c37b0 : (t122.toList == ([] : List UInt8)) = false := beq_eq_false_iff_ne.mpr c37
                                have c37b1 : (t122.toList != ([] : List UInt8)) = true := bne_iff_ne.mpr c37
                                obtain rfl := Option.some.inj H
                                go_wp2_with (first | ((with_reducible refine gate_callee (f := 10) rfl ?_); refine goesL_ (some 80) rfl rfl Try.func10 (by kernel_rfl) rfl #[.int .i64 a0] rfl (by (try simp only [List.map_toArray, List.map_cons, List.map_nil]); first | done | rfl | (simp only [List.length_drop, List.length_take]; rfl)) ?_; (with_reducible refine (woodcutref01_Id.calls a0 false _ A25.out).mono ?_); rintro e w' ⟨rfl, ⟨nd, rfl⟩⟩; refine ⟨_, rfl, ?_⟩) | ((with_reducible refine gate_callee (f := 11) rfl ?_); refine goesL_ (some 83) rfl rfl Try.func11 (by kernel_rfl) rfl #[.int .i64 a0] rfl (by (try simp only [List.map_toArray, List.map_cons, List.map_nil]); first | done | rfl | (simp only [List.length_drop, List.length_take]; rfl)) ?_; (with_reducible refine (ids_Check.calls a0 t135 _ A34.out).mono ?_); rintro e w' ⟨rfl, ⟨nd, rfl⟩⟩; refine ⟨_, rfl, ?_⟩))
                                go_ret
                                exact ⟨by first | rfl | (simp [errW_none, errW_some] <;> rfl) | (simp [*, errW_none, errW_some] <;> rfl), by repeat (first | (with_reducible first | exact HB.out | apply below_alloc | apply pw_below_drewN | apply below_drew1) | exact HB.out)⟩
                            · rw [if_neg c36] at H
                              have c36b0 : (t123 == 1) = false := beq_eq_false_iff_ne.mpr c36
                              have c36b1 : (t123 != 1) = true := bne_iff_ne.mpr c36
                              obtain rfl := Option.some.inj H
                              go_wp2_with (first | ((with_reducible refine gate_callee (f := 10) rfl ?_); refine goesL_ (some 80) rfl rfl Try.func10 (by kernel_rfl) rfl #[.int .i64 a0] rfl (by (try simp only [List.map_toArray, List.map_cons, List.map_nil]); first | done | rfl | (simp only [List.length_drop, List.length_take]; rfl)) ?_; (with_reducible refine (woodcutref01_Id.calls a0 false _ A25.out).mono ?_); rintro e w' ⟨rfl, ⟨nd, rfl⟩⟩; refine ⟨_, rfl, ?_⟩) | ((with_reducible refine gate_callee (f := 11) rfl ?_); refine goesL_ (some 83) rfl rfl Try.func11 (by kernel_rfl) rfl #[.int .i64 a0] rfl (by (try simp only [List.map_toArray, List.map_cons, List.map_nil]); first | done | rfl | (simp only [List.length_drop, List.length_take]; rfl)) ?_; (with_reducible refine (ids_Check.calls a0 t135 _ A34.out).mono ?_); rintro e w' ⟨rfl, ⟨nd, rfl⟩⟩; refine ⟨_, rfl, ?_⟩))
                              go_ret
                              exact ⟨by first | rfl | (simp [errW_none, errW_some] <;> rfl) | (simp [*, errW_none, errW_some] <;> rfl), by repeat (first | (with_reducible first | exact HB.out | apply below_alloc | apply pw_below_drewN | apply below_drew1) | exact HB.out)⟩
                          · rw [if_neg c35] at H
                            have c35b0 : (t135 == 1) = false := beq_eq_false_iff_ne.mpr c35
                            have c35b1 : (t135 != 1) = true := bne_iff_ne.mpr c35
                            obtain rfl := Option.some.inj H
                            go_wp2_with (first | ((with_reducible refine gate_callee (f := 10) rfl ?_); refine goesL_ (some 80) rfl rfl Try.func10 (by kernel_rfl) rfl #[.int .i64 a0] rfl (by (try simp only [List.map_toArray, List.map_cons, List.map_nil]); first | done | rfl | (simp only [List.length_drop, List.length_take]; rfl)) ?_; (with_reducible refine (woodcutref01_Id.calls a0 false _ A25.out).mono ?_); rintro e w' ⟨rfl, ⟨nd, rfl⟩⟩; refine ⟨_, rfl, ?_⟩) | ((with_reducible refine gate_callee (f := 11) rfl ?_); refine goesL_ (some 83) rfl rfl Try.func11 (by kernel_rfl) rfl #[.int .i64 a0] rfl (by (try simp only [List.map_toArray, List.map_cons, List.map_nil]); first | done | rfl | (simp only [List.length_drop, List.length_take]; rfl)) ?_; (with_reducible refine (ids_Check.calls a0 t135 _ A34.out).mono ?_); rintro e w' ⟨rfl, ⟨nd, rfl⟩⟩; refine ⟨_, rfl, ?_⟩))
                            go_ret
                            exact ⟨by first | rfl | (simp [errW_none, errW_some] <;> rfl) | (simp [*, errW_none, errW_some] <;> rfl), by repeat (first | (with_reducible first | exact HB.out | apply below_alloc | apply pw_below_drewN | apply below_drew1) | exact HB.out)⟩

/-- THE ONE PURE STATEMENT of woodcutlaw04_IdsExact: yours. -/
def woodcutlaw04_IdsExact.Pure : Prop := ∀ (a0 : Int) (a1 : ByteArray) (l2 : List Int), (Lit.int .i64 a0).wf = true → a1.size ≤ 140737488351232 → l2.length ≤ maxLen → l2.length * 8 ≤ 140737488351232 → (∀ x ∈ l2, (Lit.int .i64 x).wf = true) → ∃ k, woodcutlaw04_IdsExact.f k a0 a1 l2 = some true
theorem woodcutlaw04_IdsExact.walk (P : woodcutlaw04_IdsExact.Pure) (a0 : Int) (a1 : ByteArray) (a2 : Option Addr) (len2 cap2 : Nat) (z2 : List Int) (w : World) (w0 : (Lit.int .i64 a0).wf = true) (w1 : a1.size ≤ 140737488351232) (w2 : (a2 = none ∧ len2 = 0 ∧ cap2 = 0 ∧ z2 = []) ∨ ∃ x, a2 = some x ∧ len2 ≤ cap2 ∧ cap2 ≤ maxLen ∧ z2.length = cap2 ∧ (∀ i, i < z2.length → w.cell? (x.add i) = some (.int .i64 (z2.getD i 0))) ∧ ∀ n ∈ z2, (Lit.int .i64 n).wf = true) (y2 : len2 * 8 ≤ 140737488351232) :
    Calls Try.prog 3 #[.int .i64 a0, .string a1, .slice a2 len2 cap2] w fun e w' => e = .returned (.bool true) ∧ Below w.heap.size w w' := by
  obtain ⟨l2, rfl, hr2, hm2, hw2, hc2⟩ := ReadsInt.ofRowC w2
  obtain ⟨k, h⟩ := P a0 a1 l2 w0 w1 hm2 y2 hw2
  refine (woodcutlaw04_IdsExact.calls k a0 a1 _ _ l2 true w (Kd.C_of_reads (d := (0 : Int)) (h1 := fun _ => rfl) hr2) hc2 h).mono ?_
  rintro e w' ⟨rfl, hd⟩
  exact ⟨rfl, hd⟩

end Go.Proofs.Ytblojnajchpemaa.PA
