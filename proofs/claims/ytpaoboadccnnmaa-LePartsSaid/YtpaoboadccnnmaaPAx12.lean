/- The steps of the machine for these functions, written out by this session's program wip/printmore.py; Lean checks every line. -/
import Derived.Test.YtpaoboadccnnmaaPAx0
import Derived.Test.YtpaoboadccnnmaaPAx3
import Derived.Test.YtpaoboadccnnmaaPAx4
import Derived.Test.YtpaoboadccnnmaaPAx8
import Derived.Test.YtpaoboadccnnmaaPAx10
namespace Go.Proofs.Ytpaoboadccnnmaa.PA
open Go.RowKit Go.Proofs.YtpaoboadccnnmaaW.PrintWords Go.Proofs.YtpaoboadccnnmaaW.PrintLast Go.Proofs.YtpaoboadccnnmaaW.PrintMore
attribute [local go_sem] max2_int min2_int max_two min_two max_three min_three max_four min_four   -- for this text's walks alone
set_option linter.unusedVariables false
set_option linter.unusedSimpArgs false

/-! ### woodcutlaw01_LeParts: function 9 -/
def woodcutlaw01_LeParts.j0 : Nat → Int → Int → Int → List Int → List Int → Int → Int → Bool → Option (Bool)
  | 0, _, _, _, _, _, _, _, _ => none
  | k + 1, x0, x1, x2, x7, x11, x13, x15, x92 => if x92 = true then (some false) else (if 8 ≤ (x7.length : Int) then ((woodcutkeep_Bytes.f k (x7.take 8) x11).bind fun t289 => (if t289 = true then (if x13 = (wrap64 (x0 + (wrap64 (x1 * 4294967296)))) then (if x15 = x2 then ((woodcutlaw01_wakes.f k).bind fun t290 => (some t290)) else (some false)) else (some false)) else (some false))) else (none))
def woodcutlaw01_LeParts.f (k : Nat) (a0 : Int) (a1 : Int) (a2 : Int) : Option (Bool) := if 9 ≤ 281474976710656 then ((le_Put.f k (List.replicate 9 0) 0 4 (wrap64 (Int.tmod (IntKind.u64.wrap (a0)) 4294967296))).bind fun bt262 => ((le_Put.f k bt262.1 4 4 (wrap64 (Int.tmod (IntKind.u64.wrap (a1)) 1073741824))).bind fun bt266 => ((le_Put.f k bt266.1 8 1 (wrap64 (Int.tmod (IntKind.u64.wrap (a2)) 256))).bind fun bt270 => (if 8 ≤ 281474976710656 then ((le_Put.f k (List.replicate 8 0) 0 8 (wrap64 ((wrap64 (Int.tmod (IntKind.u64.wrap (a0)) 4294967296)) + (wrap64 ((wrap64 (Int.tmod (IntKind.u64.wrap (a1)) 1073741824)) * 4294967296))))).bind fun bt277 => ((le_Get.f k bt270.1 0 8).bind fun bt281 => ((le_Get.f k bt270.1 8 1).bind fun bt283 => (if bt262.2 = 0 then (if bt266.2 = 0 then (if bt270.2 = 0 then (if bt277.2 = 0 then (if bt281.2 = 0 then (if bt283.2 = 0 then (woodcutlaw01_LeParts.j0 k (wrap64 (Int.tmod (IntKind.u64.wrap (a0)) 4294967296)) (wrap64 (Int.tmod (IntKind.u64.wrap (a1)) 1073741824)) (wrap64 (Int.tmod (IntKind.u64.wrap (a2)) 256)) bt270.1 bt277.1 bt281.1 bt283.1 ((bt270.1.length : Int) != 9)) else (woodcutlaw01_LeParts.j0 k (wrap64 (Int.tmod (IntKind.u64.wrap (a0)) 4294967296)) (wrap64 (Int.tmod (IntKind.u64.wrap (a1)) 1073741824)) (wrap64 (Int.tmod (IntKind.u64.wrap (a2)) 256)) bt270.1 bt277.1 bt281.1 bt283.1 true)) else (woodcutlaw01_LeParts.j0 k (wrap64 (Int.tmod (IntKind.u64.wrap (a0)) 4294967296)) (wrap64 (Int.tmod (IntKind.u64.wrap (a1)) 1073741824)) (wrap64 (Int.tmod (IntKind.u64.wrap (a2)) 256)) bt270.1 bt277.1 bt281.1 bt283.1 true)) else (woodcutlaw01_LeParts.j0 k (wrap64 (Int.tmod (IntKind.u64.wrap (a0)) 4294967296)) (wrap64 (Int.tmod (IntKind.u64.wrap (a1)) 1073741824)) (wrap64 (Int.tmod (IntKind.u64.wrap (a2)) 256)) bt270.1 bt277.1 bt281.1 bt283.1 true)) else (woodcutlaw01_LeParts.j0 k (wrap64 (Int.tmod (IntKind.u64.wrap (a0)) 4294967296)) (wrap64 (Int.tmod (IntKind.u64.wrap (a1)) 1073741824)) (wrap64 (Int.tmod (IntKind.u64.wrap (a2)) 256)) bt270.1 bt277.1 bt281.1 bt283.1 true)) else (woodcutlaw01_LeParts.j0 k (wrap64 (Int.tmod (IntKind.u64.wrap (a0)) 4294967296)) (wrap64 (Int.tmod (IntKind.u64.wrap (a1)) 1073741824)) (wrap64 (Int.tmod (IntKind.u64.wrap (a2)) 256)) bt270.1 bt277.1 bt281.1 bt283.1 true)) else (woodcutlaw01_LeParts.j0 k (wrap64 (Int.tmod (IntKind.u64.wrap (a0)) 4294967296)) (wrap64 (Int.tmod (IntKind.u64.wrap (a1)) 1073741824)) (wrap64 (Int.tmod (IntKind.u64.wrap (a2)) 256)) bt270.1 bt277.1 bt281.1 bt283.1 true))))) else (none))))) else (none)
theorem woodcutlaw01_LeParts.mono_l : ∀ k, (∀ y0 y1 y2 y3 y4 y5 y6 y7, LeO (woodcutlaw01_LeParts.j0 k y0 y1 y2 y3 y4 y5 y6 y7) (woodcutlaw01_LeParts.j0 (k + 1) y0 y1 y2 y3 y4 y5 y6 y7))
  | 0 => fun _ _ _ _ _ _ _ _ r h => by simp [woodcutlaw01_LeParts.j0] at h
  | k + 1 => by
    have ih0 := woodcutlaw01_LeParts.mono_l k
    · intro y0 y1 y2 y3 y4 y5 y6 y7
      unfold woodcutlaw01_LeParts.j0
      repeat' first
      | (with_reducible exact ih0 _ _ _ _ _ _ _ _)
      | (with_reducible exact le_Get.mono _ _ _ _)
      | (with_reducible exact le_Put.mono _ _ _ _ _)
      | (with_reducible exact woodcutkeep_Bytes.mono _ _ _)
      | (with_reducible exact woodcutlaw01_wakes.mono _)
      | (with_reducible exact LeO.refl _)
      | (with_reducible exact LeO.none _)
      | (with_reducible refine LeO.ite ?_ ?_)
      | (with_reducible refine LeO.bind ?_ (fun _ => ?_))
      | exact ih0 _ _ _ _ _ _ _ _
      | exact le_Get.mono _ _ _ _
      | exact le_Put.mono _ _ _ _ _
      | exact woodcutkeep_Bytes.mono _ _ _
      | exact woodcutlaw01_wakes.mono _
      | exact LeO.none _
      | refine LeO.ite ?_ ?_
      | refine LeO.bind ?_ (fun _ => ?_)
theorem woodcutlaw01_LeParts.mono : ∀ a0 a1 a2 k, LeO (woodcutlaw01_LeParts.f k a0 a1 a2) (woodcutlaw01_LeParts.f (k + 1) a0 a1 a2) := by
  intro a0 a1 a2 k
  have ih0 := woodcutlaw01_LeParts.mono_l k
  unfold woodcutlaw01_LeParts.f
  repeat' first
      | (with_reducible exact ih0 _ _ _ _ _ _ _ _)
      | (with_reducible exact le_Get.mono _ _ _ _)
      | (with_reducible exact le_Put.mono _ _ _ _ _)
      | (with_reducible exact woodcutkeep_Bytes.mono _ _ _)
      | (with_reducible exact woodcutlaw01_wakes.mono _)
      | (with_reducible exact LeO.refl _)
      | (with_reducible exact LeO.none _)
      | (with_reducible refine LeO.ite ?_ ?_)
      | (with_reducible refine LeO.bind ?_ (fun _ => ?_))
      | exact ih0 _ _ _ _ _ _ _ _
      | exact le_Get.mono _ _ _ _
      | exact le_Put.mono _ _ _ _ _
      | exact woodcutkeep_Bytes.mono _ _ _
      | exact woodcutlaw01_wakes.mono _
      | exact LeO.none _
      | refine LeO.ite ?_ ?_
      | refine LeO.bind ?_ (fun _ => ?_)
set_option maxHeartbeats 8000000 in
set_option maxRecDepth 100000 in
theorem woodcutlaw01_LeParts.calls (k : Nat) (a0 : Int) (a1 : Int) (a2 : Int) (r : Bool) (w : World) (h : woodcutlaw01_LeParts.f k a0 a1 a2 = some r) :
    Calls Try.prog 9 #[.int .i64 a0, .int .i64 a1, .int .i64 a2] w fun e w' => e = .returned (.bool r) ∧ Below w.heap.size w w' := by
  have HB := Aside0.mk (Below.refl w.heap.size w)
  have H : (if 9 ≤ 281474976710656 then ((le_Put.f k (List.replicate 9 0) 0 4 (wrap64 (Int.tmod (IntKind.u64.wrap (a0)) 4294967296))).bind fun bt262 => ((le_Put.f k bt262.1 4 4 (wrap64 (Int.tmod (IntKind.u64.wrap (a1)) 1073741824))).bind fun bt266 => ((le_Put.f k bt266.1 8 1 (wrap64 (Int.tmod (IntKind.u64.wrap (a2)) 256))).bind fun bt270 => (if 8 ≤ 281474976710656 then ((le_Put.f k (List.replicate 8 0) 0 8 (wrap64 ((wrap64 (Int.tmod (IntKind.u64.wrap (a0)) 4294967296)) + (wrap64 ((wrap64 (Int.tmod (IntKind.u64.wrap (a1)) 1073741824)) * 4294967296))))).bind fun bt277 => ((le_Get.f k bt270.1 0 8).bind fun bt281 => ((le_Get.f k bt270.1 8 1).bind fun bt283 => (if bt262.2 = 0 then (if bt266.2 = 0 then (if bt270.2 = 0 then (if bt277.2 = 0 then (if bt281.2 = 0 then (if bt283.2 = 0 then (woodcutlaw01_LeParts.j0 k (wrap64 (Int.tmod (IntKind.u64.wrap (a0)) 4294967296)) (wrap64 (Int.tmod (IntKind.u64.wrap (a1)) 1073741824)) (wrap64 (Int.tmod (IntKind.u64.wrap (a2)) 256)) bt270.1 bt277.1 bt281.1 bt283.1 ((bt270.1.length : Int) != 9)) else (woodcutlaw01_LeParts.j0 k (wrap64 (Int.tmod (IntKind.u64.wrap (a0)) 4294967296)) (wrap64 (Int.tmod (IntKind.u64.wrap (a1)) 1073741824)) (wrap64 (Int.tmod (IntKind.u64.wrap (a2)) 256)) bt270.1 bt277.1 bt281.1 bt283.1 true)) else (woodcutlaw01_LeParts.j0 k (wrap64 (Int.tmod (IntKind.u64.wrap (a0)) 4294967296)) (wrap64 (Int.tmod (IntKind.u64.wrap (a1)) 1073741824)) (wrap64 (Int.tmod (IntKind.u64.wrap (a2)) 256)) bt270.1 bt277.1 bt281.1 bt283.1 true)) else (woodcutlaw01_LeParts.j0 k (wrap64 (Int.tmod (IntKind.u64.wrap (a0)) 4294967296)) (wrap64 (Int.tmod (IntKind.u64.wrap (a1)) 1073741824)) (wrap64 (Int.tmod (IntKind.u64.wrap (a2)) 256)) bt270.1 bt277.1 bt281.1 bt283.1 true)) else (woodcutlaw01_LeParts.j0 k (wrap64 (Int.tmod (IntKind.u64.wrap (a0)) 4294967296)) (wrap64 (Int.tmod (IntKind.u64.wrap (a1)) 1073741824)) (wrap64 (Int.tmod (IntKind.u64.wrap (a2)) 256)) bt270.1 bt277.1 bt281.1 bt283.1 true)) else (woodcutlaw01_LeParts.j0 k (wrap64 (Int.tmod (IntKind.u64.wrap (a0)) 4294967296)) (wrap64 (Int.tmod (IntKind.u64.wrap (a1)) 1073741824)) (wrap64 (Int.tmod (IntKind.u64.wrap (a2)) 256)) bt270.1 bt277.1 bt281.1 bt283.1 true)) else (woodcutlaw01_LeParts.j0 k (wrap64 (Int.tmod (IntKind.u64.wrap (a0)) 4294967296)) (wrap64 (Int.tmod (IntKind.u64.wrap (a1)) 1073741824)) (wrap64 (Int.tmod (IntKind.u64.wrap (a2)) 256)) bt270.1 bt277.1 bt281.1 bt283.1 true))))) else (none))))) else (none)) = some r := h
  clear h
  by_cases c4 : 9 ≤ 281474976710656
  · rw [if_pos c4] at H
    have c4b0 := eq_true c4
    have c4b1 : decide (9 ≤ 281474976710656) = true := decide_eq_true c4
    clear c4
    obtain ⟨y259, hy259⟩ : ∃ y_ : List Int, y_ = (List.replicate 9 0) := ⟨_, rfl⟩
    replace H : ((le_Put.f k y259 0 4 (wrap64 (Int.tmod (IntKind.u64.wrap (a0)) 4294967296))).bind fun bt262 => ((le_Put.f k bt262.1 4 4 (wrap64 (Int.tmod (IntKind.u64.wrap (a1)) 1073741824))).bind fun bt266 => ((le_Put.f k bt266.1 8 1 (wrap64 (Int.tmod (IntKind.u64.wrap (a2)) 256))).bind fun bt270 => (if 8 ≤ 281474976710656 then ((le_Put.f k (List.replicate 8 0) 0 8 (wrap64 ((wrap64 (Int.tmod (IntKind.u64.wrap (a0)) 4294967296)) + (wrap64 ((wrap64 (Int.tmod (IntKind.u64.wrap (a1)) 1073741824)) * 4294967296))))).bind fun bt277 => ((le_Get.f k bt270.1 0 8).bind fun bt281 => ((le_Get.f k bt270.1 8 1).bind fun bt283 => (if bt262.2 = 0 then (if bt266.2 = 0 then (if bt270.2 = 0 then (if bt277.2 = 0 then (if bt281.2 = 0 then (if bt283.2 = 0 then (woodcutlaw01_LeParts.j0 k (wrap64 (Int.tmod (IntKind.u64.wrap (a0)) 4294967296)) (wrap64 (Int.tmod (IntKind.u64.wrap (a1)) 1073741824)) (wrap64 (Int.tmod (IntKind.u64.wrap (a2)) 256)) bt270.1 bt277.1 bt281.1 bt283.1 ((bt270.1.length : Int) != 9)) else (woodcutlaw01_LeParts.j0 k (wrap64 (Int.tmod (IntKind.u64.wrap (a0)) 4294967296)) (wrap64 (Int.tmod (IntKind.u64.wrap (a1)) 1073741824)) (wrap64 (Int.tmod (IntKind.u64.wrap (a2)) 256)) bt270.1 bt277.1 bt281.1 bt283.1 true)) else (woodcutlaw01_LeParts.j0 k (wrap64 (Int.tmod (IntKind.u64.wrap (a0)) 4294967296)) (wrap64 (Int.tmod (IntKind.u64.wrap (a1)) 1073741824)) (wrap64 (Int.tmod (IntKind.u64.wrap (a2)) 256)) bt270.1 bt277.1 bt281.1 bt283.1 true)) else (woodcutlaw01_LeParts.j0 k (wrap64 (Int.tmod (IntKind.u64.wrap (a0)) 4294967296)) (wrap64 (Int.tmod (IntKind.u64.wrap (a1)) 1073741824)) (wrap64 (Int.tmod (IntKind.u64.wrap (a2)) 256)) bt270.1 bt277.1 bt281.1 bt283.1 true)) else (woodcutlaw01_LeParts.j0 k (wrap64 (Int.tmod (IntKind.u64.wrap (a0)) 4294967296)) (wrap64 (Int.tmod (IntKind.u64.wrap (a1)) 1073741824)) (wrap64 (Int.tmod (IntKind.u64.wrap (a2)) 256)) bt270.1 bt277.1 bt281.1 bt283.1 true)) else (woodcutlaw01_LeParts.j0 k (wrap64 (Int.tmod (IntKind.u64.wrap (a0)) 4294967296)) (wrap64 (Int.tmod (IntKind.u64.wrap (a1)) 1073741824)) (wrap64 (Int.tmod (IntKind.u64.wrap (a2)) 256)) bt270.1 bt277.1 bt281.1 bt283.1 true)) else (woodcutlaw01_LeParts.j0 k (wrap64 (Int.tmod (IntKind.u64.wrap (a0)) 4294967296)) (wrap64 (Int.tmod (IntKind.u64.wrap (a1)) 1073741824)) (wrap64 (Int.tmod (IntKind.u64.wrap (a2)) 256)) bt270.1 bt277.1 bt281.1 bt283.1 true))))) else (none))))) = some r := by first | (rw [hy259]; with_reducible exact H) | (have H2_ := (Option.bind_some _ _).symm.trans H; rw [hy259]; with_reducible exact H2_) | (have H2_ := (Option.bind_some _ _).symm.trans H; with_reducible exact H2_) | with_reducible exact H | (rw [hy259]; exact H) | exact H
    have Ny259 := Aside0.mk hy259
    clear hy259
    replace H := Option.bind_eq_some_iff.mp H
    obtain ⟨⟨t262, t263⟩, A50, H⟩ := H
    replace H : ((le_Put.f k t262 4 4 (wrap64 (Int.tmod (IntKind.u64.wrap (a1)) 1073741824))).bind fun bt266 => ((le_Put.f k bt266.1 8 1 (wrap64 (Int.tmod (IntKind.u64.wrap (a2)) 256))).bind fun bt270 => (if 8 ≤ 281474976710656 then ((le_Put.f k (List.replicate 8 0) 0 8 (wrap64 ((wrap64 (Int.tmod (IntKind.u64.wrap (a0)) 4294967296)) + (wrap64 ((wrap64 (Int.tmod (IntKind.u64.wrap (a1)) 1073741824)) * 4294967296))))).bind fun bt277 => ((le_Get.f k bt270.1 0 8).bind fun bt281 => ((le_Get.f k bt270.1 8 1).bind fun bt283 => (if t263 = 0 then (if bt266.2 = 0 then (if bt270.2 = 0 then (if bt277.2 = 0 then (if bt281.2 = 0 then (if bt283.2 = 0 then (woodcutlaw01_LeParts.j0 k (wrap64 (Int.tmod (IntKind.u64.wrap (a0)) 4294967296)) (wrap64 (Int.tmod (IntKind.u64.wrap (a1)) 1073741824)) (wrap64 (Int.tmod (IntKind.u64.wrap (a2)) 256)) bt270.1 bt277.1 bt281.1 bt283.1 ((bt270.1.length : Int) != 9)) else (woodcutlaw01_LeParts.j0 k (wrap64 (Int.tmod (IntKind.u64.wrap (a0)) 4294967296)) (wrap64 (Int.tmod (IntKind.u64.wrap (a1)) 1073741824)) (wrap64 (Int.tmod (IntKind.u64.wrap (a2)) 256)) bt270.1 bt277.1 bt281.1 bt283.1 true)) else (woodcutlaw01_LeParts.j0 k (wrap64 (Int.tmod (IntKind.u64.wrap (a0)) 4294967296)) (wrap64 (Int.tmod (IntKind.u64.wrap (a1)) 1073741824)) (wrap64 (Int.tmod (IntKind.u64.wrap (a2)) 256)) bt270.1 bt277.1 bt281.1 bt283.1 true)) else (woodcutlaw01_LeParts.j0 k (wrap64 (Int.tmod (IntKind.u64.wrap (a0)) 4294967296)) (wrap64 (Int.tmod (IntKind.u64.wrap (a1)) 1073741824)) (wrap64 (Int.tmod (IntKind.u64.wrap (a2)) 256)) bt270.1 bt277.1 bt281.1 bt283.1 true)) else (woodcutlaw01_LeParts.j0 k (wrap64 (Int.tmod (IntKind.u64.wrap (a0)) 4294967296)) (wrap64 (Int.tmod (IntKind.u64.wrap (a1)) 1073741824)) (wrap64 (Int.tmod (IntKind.u64.wrap (a2)) 256)) bt270.1 bt277.1 bt281.1 bt283.1 true)) else (woodcutlaw01_LeParts.j0 k (wrap64 (Int.tmod (IntKind.u64.wrap (a0)) 4294967296)) (wrap64 (Int.tmod (IntKind.u64.wrap (a1)) 1073741824)) (wrap64 (Int.tmod (IntKind.u64.wrap (a2)) 256)) bt270.1 bt277.1 bt281.1 bt283.1 true)) else (woodcutlaw01_LeParts.j0 k (wrap64 (Int.tmod (IntKind.u64.wrap (a0)) 4294967296)) (wrap64 (Int.tmod (IntKind.u64.wrap (a1)) 1073741824)) (wrap64 (Int.tmod (IntKind.u64.wrap (a2)) 256)) bt270.1 bt277.1 bt281.1 bt283.1 true))))) else (none)))) = some r := H
    have A5 := Aside0.mk A50
    clear A50
    replace H := Option.bind_eq_some_iff.mp H
    obtain ⟨⟨t266, t267⟩, A60, H⟩ := H
    replace H : ((le_Put.f k t266 8 1 (wrap64 (Int.tmod (IntKind.u64.wrap (a2)) 256))).bind fun bt270 => (if 8 ≤ 281474976710656 then ((le_Put.f k (List.replicate 8 0) 0 8 (wrap64 ((wrap64 (Int.tmod (IntKind.u64.wrap (a0)) 4294967296)) + (wrap64 ((wrap64 (Int.tmod (IntKind.u64.wrap (a1)) 1073741824)) * 4294967296))))).bind fun bt277 => ((le_Get.f k bt270.1 0 8).bind fun bt281 => ((le_Get.f k bt270.1 8 1).bind fun bt283 => (if t263 = 0 then (if t267 = 0 then (if bt270.2 = 0 then (if bt277.2 = 0 then (if bt281.2 = 0 then (if bt283.2 = 0 then (woodcutlaw01_LeParts.j0 k (wrap64 (Int.tmod (IntKind.u64.wrap (a0)) 4294967296)) (wrap64 (Int.tmod (IntKind.u64.wrap (a1)) 1073741824)) (wrap64 (Int.tmod (IntKind.u64.wrap (a2)) 256)) bt270.1 bt277.1 bt281.1 bt283.1 ((bt270.1.length : Int) != 9)) else (woodcutlaw01_LeParts.j0 k (wrap64 (Int.tmod (IntKind.u64.wrap (a0)) 4294967296)) (wrap64 (Int.tmod (IntKind.u64.wrap (a1)) 1073741824)) (wrap64 (Int.tmod (IntKind.u64.wrap (a2)) 256)) bt270.1 bt277.1 bt281.1 bt283.1 true)) else (woodcutlaw01_LeParts.j0 k (wrap64 (Int.tmod (IntKind.u64.wrap (a0)) 4294967296)) (wrap64 (Int.tmod (IntKind.u64.wrap (a1)) 1073741824)) (wrap64 (Int.tmod (IntKind.u64.wrap (a2)) 256)) bt270.1 bt277.1 bt281.1 bt283.1 true)) else (woodcutlaw01_LeParts.j0 k (wrap64 (Int.tmod (IntKind.u64.wrap (a0)) 4294967296)) (wrap64 (Int.tmod (IntKind.u64.wrap (a1)) 1073741824)) (wrap64 (Int.tmod (IntKind.u64.wrap (a2)) 256)) bt270.1 bt277.1 bt281.1 bt283.1 true)) else (woodcutlaw01_LeParts.j0 k (wrap64 (Int.tmod (IntKind.u64.wrap (a0)) 4294967296)) (wrap64 (Int.tmod (IntKind.u64.wrap (a1)) 1073741824)) (wrap64 (Int.tmod (IntKind.u64.wrap (a2)) 256)) bt270.1 bt277.1 bt281.1 bt283.1 true)) else (woodcutlaw01_LeParts.j0 k (wrap64 (Int.tmod (IntKind.u64.wrap (a0)) 4294967296)) (wrap64 (Int.tmod (IntKind.u64.wrap (a1)) 1073741824)) (wrap64 (Int.tmod (IntKind.u64.wrap (a2)) 256)) bt270.1 bt277.1 bt281.1 bt283.1 true)) else (woodcutlaw01_LeParts.j0 k (wrap64 (Int.tmod (IntKind.u64.wrap (a0)) 4294967296)) (wrap64 (Int.tmod (IntKind.u64.wrap (a1)) 1073741824)) (wrap64 (Int.tmod (IntKind.u64.wrap (a2)) 256)) bt270.1 bt277.1 bt281.1 bt283.1 true))))) else (none))) = some r := H
    have A6 := Aside0.mk A60
    clear A60
    replace H := Option.bind_eq_some_iff.mp H
    obtain ⟨⟨t270, t271⟩, A70, H⟩ := H
    replace H : (if 8 ≤ 281474976710656 then ((le_Put.f k (List.replicate 8 0) 0 8 (wrap64 ((wrap64 (Int.tmod (IntKind.u64.wrap (a0)) 4294967296)) + (wrap64 ((wrap64 (Int.tmod (IntKind.u64.wrap (a1)) 1073741824)) * 4294967296))))).bind fun bt277 => ((le_Get.f k t270 0 8).bind fun bt281 => ((le_Get.f k t270 8 1).bind fun bt283 => (if t263 = 0 then (if t267 = 0 then (if t271 = 0 then (if bt277.2 = 0 then (if bt281.2 = 0 then (if bt283.2 = 0 then (woodcutlaw01_LeParts.j0 k (wrap64 (Int.tmod (IntKind.u64.wrap (a0)) 4294967296)) (wrap64 (Int.tmod (IntKind.u64.wrap (a1)) 1073741824)) (wrap64 (Int.tmod (IntKind.u64.wrap (a2)) 256)) t270 bt277.1 bt281.1 bt283.1 ((t270.length : Int) != 9)) else (woodcutlaw01_LeParts.j0 k (wrap64 (Int.tmod (IntKind.u64.wrap (a0)) 4294967296)) (wrap64 (Int.tmod (IntKind.u64.wrap (a1)) 1073741824)) (wrap64 (Int.tmod (IntKind.u64.wrap (a2)) 256)) t270 bt277.1 bt281.1 bt283.1 true)) else (woodcutlaw01_LeParts.j0 k (wrap64 (Int.tmod (IntKind.u64.wrap (a0)) 4294967296)) (wrap64 (Int.tmod (IntKind.u64.wrap (a1)) 1073741824)) (wrap64 (Int.tmod (IntKind.u64.wrap (a2)) 256)) t270 bt277.1 bt281.1 bt283.1 true)) else (woodcutlaw01_LeParts.j0 k (wrap64 (Int.tmod (IntKind.u64.wrap (a0)) 4294967296)) (wrap64 (Int.tmod (IntKind.u64.wrap (a1)) 1073741824)) (wrap64 (Int.tmod (IntKind.u64.wrap (a2)) 256)) t270 bt277.1 bt281.1 bt283.1 true)) else (woodcutlaw01_LeParts.j0 k (wrap64 (Int.tmod (IntKind.u64.wrap (a0)) 4294967296)) (wrap64 (Int.tmod (IntKind.u64.wrap (a1)) 1073741824)) (wrap64 (Int.tmod (IntKind.u64.wrap (a2)) 256)) t270 bt277.1 bt281.1 bt283.1 true)) else (woodcutlaw01_LeParts.j0 k (wrap64 (Int.tmod (IntKind.u64.wrap (a0)) 4294967296)) (wrap64 (Int.tmod (IntKind.u64.wrap (a1)) 1073741824)) (wrap64 (Int.tmod (IntKind.u64.wrap (a2)) 256)) t270 bt277.1 bt281.1 bt283.1 true)) else (woodcutlaw01_LeParts.j0 k (wrap64 (Int.tmod (IntKind.u64.wrap (a0)) 4294967296)) (wrap64 (Int.tmod (IntKind.u64.wrap (a1)) 1073741824)) (wrap64 (Int.tmod (IntKind.u64.wrap (a2)) 256)) t270 bt277.1 bt281.1 bt283.1 true))))) else (none)) = some r := H
    have A7 := Aside0.mk A70
    clear A70
    by_cases c8 : 8 ≤ 281474976710656
    · rw [if_pos c8] at H
      have c8b0 := eq_true c8
      have c8b1 : decide (8 ≤ 281474976710656) = true := decide_eq_true c8
      clear c8
      obtain ⟨y274, hy274⟩ : ∃ y_ : List Int, y_ = (List.replicate 8 0) := ⟨_, rfl⟩
      replace H : ((le_Put.f k y274 0 8 (wrap64 ((wrap64 (Int.tmod (IntKind.u64.wrap (a0)) 4294967296)) + (wrap64 ((wrap64 (Int.tmod (IntKind.u64.wrap (a1)) 1073741824)) * 4294967296))))).bind fun bt277 => ((le_Get.f k t270 0 8).bind fun bt281 => ((le_Get.f k t270 8 1).bind fun bt283 => (if t263 = 0 then (if t267 = 0 then (if t271 = 0 then (if bt277.2 = 0 then (if bt281.2 = 0 then (if bt283.2 = 0 then (woodcutlaw01_LeParts.j0 k (wrap64 (Int.tmod (IntKind.u64.wrap (a0)) 4294967296)) (wrap64 (Int.tmod (IntKind.u64.wrap (a1)) 1073741824)) (wrap64 (Int.tmod (IntKind.u64.wrap (a2)) 256)) t270 bt277.1 bt281.1 bt283.1 ((t270.length : Int) != 9)) else (woodcutlaw01_LeParts.j0 k (wrap64 (Int.tmod (IntKind.u64.wrap (a0)) 4294967296)) (wrap64 (Int.tmod (IntKind.u64.wrap (a1)) 1073741824)) (wrap64 (Int.tmod (IntKind.u64.wrap (a2)) 256)) t270 bt277.1 bt281.1 bt283.1 true)) else (woodcutlaw01_LeParts.j0 k (wrap64 (Int.tmod (IntKind.u64.wrap (a0)) 4294967296)) (wrap64 (Int.tmod (IntKind.u64.wrap (a1)) 1073741824)) (wrap64 (Int.tmod (IntKind.u64.wrap (a2)) 256)) t270 bt277.1 bt281.1 bt283.1 true)) else (woodcutlaw01_LeParts.j0 k (wrap64 (Int.tmod (IntKind.u64.wrap (a0)) 4294967296)) (wrap64 (Int.tmod (IntKind.u64.wrap (a1)) 1073741824)) (wrap64 (Int.tmod (IntKind.u64.wrap (a2)) 256)) t270 bt277.1 bt281.1 bt283.1 true)) else (woodcutlaw01_LeParts.j0 k (wrap64 (Int.tmod (IntKind.u64.wrap (a0)) 4294967296)) (wrap64 (Int.tmod (IntKind.u64.wrap (a1)) 1073741824)) (wrap64 (Int.tmod (IntKind.u64.wrap (a2)) 256)) t270 bt277.1 bt281.1 bt283.1 true)) else (woodcutlaw01_LeParts.j0 k (wrap64 (Int.tmod (IntKind.u64.wrap (a0)) 4294967296)) (wrap64 (Int.tmod (IntKind.u64.wrap (a1)) 1073741824)) (wrap64 (Int.tmod (IntKind.u64.wrap (a2)) 256)) t270 bt277.1 bt281.1 bt283.1 true)) else (woodcutlaw01_LeParts.j0 k (wrap64 (Int.tmod (IntKind.u64.wrap (a0)) 4294967296)) (wrap64 (Int.tmod (IntKind.u64.wrap (a1)) 1073741824)) (wrap64 (Int.tmod (IntKind.u64.wrap (a2)) 256)) t270 bt277.1 bt281.1 bt283.1 true))))) = some r := by first | (rw [hy274]; with_reducible exact H) | (have H2_ := (Option.bind_some _ _).symm.trans H; rw [hy274]; with_reducible exact H2_) | (have H2_ := (Option.bind_some _ _).symm.trans H; with_reducible exact H2_) | with_reducible exact H | (rw [hy274]; exact H) | exact H
      have Ny274 := Aside0.mk hy274
      clear hy274
      replace H := Option.bind_eq_some_iff.mp H
      obtain ⟨⟨t277, t278⟩, A90, H⟩ := H
      replace H : ((le_Get.f k t270 0 8).bind fun bt281 => ((le_Get.f k t270 8 1).bind fun bt283 => (if t263 = 0 then (if t267 = 0 then (if t271 = 0 then (if t278 = 0 then (if bt281.2 = 0 then (if bt283.2 = 0 then (woodcutlaw01_LeParts.j0 k (wrap64 (Int.tmod (IntKind.u64.wrap (a0)) 4294967296)) (wrap64 (Int.tmod (IntKind.u64.wrap (a1)) 1073741824)) (wrap64 (Int.tmod (IntKind.u64.wrap (a2)) 256)) t270 t277 bt281.1 bt283.1 ((t270.length : Int) != 9)) else (woodcutlaw01_LeParts.j0 k (wrap64 (Int.tmod (IntKind.u64.wrap (a0)) 4294967296)) (wrap64 (Int.tmod (IntKind.u64.wrap (a1)) 1073741824)) (wrap64 (Int.tmod (IntKind.u64.wrap (a2)) 256)) t270 t277 bt281.1 bt283.1 true)) else (woodcutlaw01_LeParts.j0 k (wrap64 (Int.tmod (IntKind.u64.wrap (a0)) 4294967296)) (wrap64 (Int.tmod (IntKind.u64.wrap (a1)) 1073741824)) (wrap64 (Int.tmod (IntKind.u64.wrap (a2)) 256)) t270 t277 bt281.1 bt283.1 true)) else (woodcutlaw01_LeParts.j0 k (wrap64 (Int.tmod (IntKind.u64.wrap (a0)) 4294967296)) (wrap64 (Int.tmod (IntKind.u64.wrap (a1)) 1073741824)) (wrap64 (Int.tmod (IntKind.u64.wrap (a2)) 256)) t270 t277 bt281.1 bt283.1 true)) else (woodcutlaw01_LeParts.j0 k (wrap64 (Int.tmod (IntKind.u64.wrap (a0)) 4294967296)) (wrap64 (Int.tmod (IntKind.u64.wrap (a1)) 1073741824)) (wrap64 (Int.tmod (IntKind.u64.wrap (a2)) 256)) t270 t277 bt281.1 bt283.1 true)) else (woodcutlaw01_LeParts.j0 k (wrap64 (Int.tmod (IntKind.u64.wrap (a0)) 4294967296)) (wrap64 (Int.tmod (IntKind.u64.wrap (a1)) 1073741824)) (wrap64 (Int.tmod (IntKind.u64.wrap (a2)) 256)) t270 t277 bt281.1 bt283.1 true)) else (woodcutlaw01_LeParts.j0 k (wrap64 (Int.tmod (IntKind.u64.wrap (a0)) 4294967296)) (wrap64 (Int.tmod (IntKind.u64.wrap (a1)) 1073741824)) (wrap64 (Int.tmod (IntKind.u64.wrap (a2)) 256)) t270 t277 bt281.1 bt283.1 true)))) = some r := H
      have A9 := Aside0.mk A90
      clear A90
      replace H := Option.bind_eq_some_iff.mp H
      obtain ⟨⟨t281, t282⟩, A100, H⟩ := H
      replace H : ((le_Get.f k t270 8 1).bind fun bt283 => (if t263 = 0 then (if t267 = 0 then (if t271 = 0 then (if t278 = 0 then (if t282 = 0 then (if bt283.2 = 0 then (woodcutlaw01_LeParts.j0 k (wrap64 (Int.tmod (IntKind.u64.wrap (a0)) 4294967296)) (wrap64 (Int.tmod (IntKind.u64.wrap (a1)) 1073741824)) (wrap64 (Int.tmod (IntKind.u64.wrap (a2)) 256)) t270 t277 t281 bt283.1 ((t270.length : Int) != 9)) else (woodcutlaw01_LeParts.j0 k (wrap64 (Int.tmod (IntKind.u64.wrap (a0)) 4294967296)) (wrap64 (Int.tmod (IntKind.u64.wrap (a1)) 1073741824)) (wrap64 (Int.tmod (IntKind.u64.wrap (a2)) 256)) t270 t277 t281 bt283.1 true)) else (woodcutlaw01_LeParts.j0 k (wrap64 (Int.tmod (IntKind.u64.wrap (a0)) 4294967296)) (wrap64 (Int.tmod (IntKind.u64.wrap (a1)) 1073741824)) (wrap64 (Int.tmod (IntKind.u64.wrap (a2)) 256)) t270 t277 t281 bt283.1 true)) else (woodcutlaw01_LeParts.j0 k (wrap64 (Int.tmod (IntKind.u64.wrap (a0)) 4294967296)) (wrap64 (Int.tmod (IntKind.u64.wrap (a1)) 1073741824)) (wrap64 (Int.tmod (IntKind.u64.wrap (a2)) 256)) t270 t277 t281 bt283.1 true)) else (woodcutlaw01_LeParts.j0 k (wrap64 (Int.tmod (IntKind.u64.wrap (a0)) 4294967296)) (wrap64 (Int.tmod (IntKind.u64.wrap (a1)) 1073741824)) (wrap64 (Int.tmod (IntKind.u64.wrap (a2)) 256)) t270 t277 t281 bt283.1 true)) else (woodcutlaw01_LeParts.j0 k (wrap64 (Int.tmod (IntKind.u64.wrap (a0)) 4294967296)) (wrap64 (Int.tmod (IntKind.u64.wrap (a1)) 1073741824)) (wrap64 (Int.tmod (IntKind.u64.wrap (a2)) 256)) t270 t277 t281 bt283.1 true)) else (woodcutlaw01_LeParts.j0 k (wrap64 (Int.tmod (IntKind.u64.wrap (a0)) 4294967296)) (wrap64 (Int.tmod (IntKind.u64.wrap (a1)) 1073741824)) (wrap64 (Int.tmod (IntKind.u64.wrap (a2)) 256)) t270 t277 t281 bt283.1 true))) = some r := H
      have A10 := Aside0.mk A100
      clear A100
      replace H := Option.bind_eq_some_iff.mp H
      obtain ⟨⟨t283, t284⟩, A110, H⟩ := H
      replace H : (if t263 = 0 then (if t267 = 0 then (if t271 = 0 then (if t278 = 0 then (if t282 = 0 then (if t284 = 0 then (woodcutlaw01_LeParts.j0 k (wrap64 (Int.tmod (IntKind.u64.wrap (a0)) 4294967296)) (wrap64 (Int.tmod (IntKind.u64.wrap (a1)) 1073741824)) (wrap64 (Int.tmod (IntKind.u64.wrap (a2)) 256)) t270 t277 t281 t283 ((t270.length : Int) != 9)) else (woodcutlaw01_LeParts.j0 k (wrap64 (Int.tmod (IntKind.u64.wrap (a0)) 4294967296)) (wrap64 (Int.tmod (IntKind.u64.wrap (a1)) 1073741824)) (wrap64 (Int.tmod (IntKind.u64.wrap (a2)) 256)) t270 t277 t281 t283 true)) else (woodcutlaw01_LeParts.j0 k (wrap64 (Int.tmod (IntKind.u64.wrap (a0)) 4294967296)) (wrap64 (Int.tmod (IntKind.u64.wrap (a1)) 1073741824)) (wrap64 (Int.tmod (IntKind.u64.wrap (a2)) 256)) t270 t277 t281 t283 true)) else (woodcutlaw01_LeParts.j0 k (wrap64 (Int.tmod (IntKind.u64.wrap (a0)) 4294967296)) (wrap64 (Int.tmod (IntKind.u64.wrap (a1)) 1073741824)) (wrap64 (Int.tmod (IntKind.u64.wrap (a2)) 256)) t270 t277 t281 t283 true)) else (woodcutlaw01_LeParts.j0 k (wrap64 (Int.tmod (IntKind.u64.wrap (a0)) 4294967296)) (wrap64 (Int.tmod (IntKind.u64.wrap (a1)) 1073741824)) (wrap64 (Int.tmod (IntKind.u64.wrap (a2)) 256)) t270 t277 t281 t283 true)) else (woodcutlaw01_LeParts.j0 k (wrap64 (Int.tmod (IntKind.u64.wrap (a0)) 4294967296)) (wrap64 (Int.tmod (IntKind.u64.wrap (a1)) 1073741824)) (wrap64 (Int.tmod (IntKind.u64.wrap (a2)) 256)) t270 t277 t281 t283 true)) else (woodcutlaw01_LeParts.j0 k (wrap64 (Int.tmod (IntKind.u64.wrap (a0)) 4294967296)) (wrap64 (Int.tmod (IntKind.u64.wrap (a1)) 1073741824)) (wrap64 (Int.tmod (IntKind.u64.wrap (a2)) 256)) t270 t277 t281 t283 true)) = some r := H
      have A11 := Aside0.mk A110
      clear A110
      have HC12 := Aside0.mk H
      clear H
      go_enter Try.func9, Try.ntmps9
      go_upto_region 8 with (first | ((with_reducible refine gate_dst (N := 30) rfl ?_); (try (refine gate_guard (by rfl) ?_; dsimp only)); refine Kd.R_make (Kd.int .u8) _ 5 rfl (N := 30) rfl 22 _ _ rfl 9 rfl rfl Try.underlying22 (.int .u8 0) 1 info5 rfl (by decide) (by omega) 0 (ok := fun _ => True) (okp := fun _ => True) rfl (fun _ hk => hk) trivial (by omega) (by omega) (Below.refl _ _) (Nat.le_refl _) ?_; intro v260 w13 ho14 hb hg_ hnew_; clear hg_ hnew_; (first | rw [← Ny259.out] at ho14 | (simp only [Int.reduceToNat] at ho14; rw [← Ny259.out] at ho14)); have n0_ := Aside0.mk (Kd.R_lower ho14 (below_size (by repeat (first | (with_reducible first | exact HB.out | apply below_alloc | apply pw_below_drewN | apply below_drew1) | exact HB.out)))); have n1_ := Aside0.mk (below_step (by repeat (first | (with_reducible first | exact HB.out | apply below_alloc | apply pw_below_drewN | apply below_drew1) | exact HB.out)) hb); clear HB; have HO261 := n0_; have HB := n1_; clear n0_ n1_; clear hb ho14; obtain ⟨Ao15, co15, eo15⟩ := Kd.R_slice HO261.out; subst eo15) | ((with_reducible refine gate_callee (f := 21) rfl ?_); refine goesL_ (some 32) rfl rfl Try.func21 (by kernel_rfl) rfl #[.slice Ao15 y259.length co15, .int .i64 0, .int .i64 4, .int .i64 (wrap64 (Int.tmod (IntKind.u64.wrap (a0)) 4294967296))] rfl (by (try simp only [List.map_toArray, List.map_cons, List.map_nil]); first | done | rfl | (simp only [List.length_drop, List.length_take]; rfl)) ?_; (with_reducible refine (le_Put.calls k _ _ y259 0 4 (wrap64 (Int.tmod (IntKind.u64.wrap (a0)) 4294967296)) t262 t263 _ ?side1 ?side2 A5.out).mono ?_); (case side1 => repeat (first | exact (Kd.R_reads' HO261.out).2.2 | (with_reducible refine Kd.C_alloc ?_ _) | (with_reducible refine Kd.C_drewN ?_ _) | (with_reducible refine Kd.C_drew ?_))); (case side2 => exact (Kd.R_reads' HO261.out).2.1); rintro e w16 ⟨v264, rfl, ho0, hb⟩; refine ⟨_, rfl, ?_⟩; have n0_ := Aside0.mk (Kd.R_elder' (by (with_reducible repeat (first | apply Kd.R_alloc | apply Kd.R_drewN | apply Kd.R_drew)); exact HO261.out) (Kd.R_base ho0) hb); have n1_ := Aside0.mk (Kd.R_lower (Kd.R_new' ho0 (Kd.R_lt (by (with_reducible repeat (first | apply Kd.R_alloc | apply Kd.R_drewN | apply Kd.R_drew)); exact HO261.out))) (below_size (by repeat (first | (with_reducible first | exact HB.out | apply below_alloc | apply pw_below_drewN | apply below_drew1) | exact HB.out)))); have n2_ := Aside0.mk (below_step (by repeat (first | (with_reducible first | exact HB.out | apply below_alloc | apply pw_below_drewN | apply below_drew1) | exact HB.out)) hb); clear HO261; clear HB; have HO261 := n0_; have HO265 := n1_; have HB := n2_; clear n0_ n1_ n2_; (try clear hb); (try clear hb2); (try clear hk); (try clear hi); (try clear ho0); obtain ⟨Ao17, co17, eo17⟩ := Kd.R_slice HO265.out; subst eo17) | ((with_reducible refine gate_callee (f := 21) rfl ?_); refine goesL_ (some 38) rfl rfl Try.func21 (by kernel_rfl) rfl #[.slice Ao17 t262.length co17, .int .i64 4, .int .i64 4, .int .i64 (wrap64 (Int.tmod (IntKind.u64.wrap (a1)) 1073741824))] rfl (by (try simp only [List.map_toArray, List.map_cons, List.map_nil]); first | done | rfl | (simp only [List.length_drop, List.length_take]; rfl)) ?_; (with_reducible refine (le_Put.calls k _ _ t262 4 4 (wrap64 (Int.tmod (IntKind.u64.wrap (a1)) 1073741824)) t266 t267 _ ?side1 ?side2 A6.out).mono ?_); (case side1 => repeat (first | exact (Kd.R_reads' HO265.out).2.2 | (with_reducible refine Kd.C_alloc ?_ _) | (with_reducible refine Kd.C_drewN ?_ _) | (with_reducible refine Kd.C_drew ?_))); (case side2 => exact (Kd.R_reads' HO265.out).2.1); rintro e w18 ⟨v268, rfl, ho0, hb⟩; refine ⟨_, rfl, ?_⟩; have n0_ := Aside0.mk (Kd.R_elder' (by (with_reducible repeat (first | apply Kd.R_alloc | apply Kd.R_drewN | apply Kd.R_drew)); exact HO261.out) (Kd.R_base ho0) hb); have n1_ := Aside0.mk (Kd.R_elder' (by (with_reducible repeat (first | apply Kd.R_alloc | apply Kd.R_drewN | apply Kd.R_drew)); exact HO265.out) (Kd.R_base ho0) hb); have n2_ := Aside0.mk (Kd.R_lower (Kd.R_new' (Kd.R_new' ho0 (Kd.R_lt (by (with_reducible repeat (first | apply Kd.R_alloc | apply Kd.R_drewN | apply Kd.R_drew)); exact HO261.out))) (Kd.R_lt (by (with_reducible repeat (first | apply Kd.R_alloc | apply Kd.R_drewN | apply Kd.R_drew)); exact HO265.out))) (below_size (by repeat (first | (with_reducible first | exact HB.out | apply below_alloc | apply pw_below_drewN | apply below_drew1) | exact HB.out)))); have n3_ := Aside0.mk (below_step (by repeat (first | (with_reducible first | exact HB.out | apply below_alloc | apply pw_below_drewN | apply below_drew1) | exact HB.out)) hb); clear HO261; clear HO265; clear HB; have HO261 := n0_; have HO265 := n1_; have HO269 := n2_; have HB := n3_; clear n0_ n1_ n2_ n3_; (try clear hb); (try clear hb2); (try clear hk); (try clear hi); (try clear ho0); obtain ⟨Ao19, co19, eo19⟩ := Kd.R_slice HO269.out; subst eo19) | ((with_reducible refine gate_callee (f := 21) rfl ?_); refine goesL_ (some 44) rfl rfl Try.func21 (by kernel_rfl) rfl #[.slice Ao19 t266.length co19, .int .i64 8, .int .i64 1, .int .i64 (wrap64 (Int.tmod (IntKind.u64.wrap (a2)) 256))] rfl (by (try simp only [List.map_toArray, List.map_cons, List.map_nil]); first | done | rfl | (simp only [List.length_drop, List.length_take]; rfl)) ?_; (with_reducible refine (le_Put.calls k _ _ t266 8 1 (wrap64 (Int.tmod (IntKind.u64.wrap (a2)) 256)) t270 t271 _ ?side1 ?side2 A7.out).mono ?_); (case side1 => repeat (first | exact (Kd.R_reads' HO269.out).2.2 | (with_reducible refine Kd.C_alloc ?_ _) | (with_reducible refine Kd.C_drewN ?_ _) | (with_reducible refine Kd.C_drew ?_))); (case side2 => exact (Kd.R_reads' HO269.out).2.1); rintro e w20 ⟨v272, rfl, ho0, hb⟩; refine ⟨_, rfl, ?_⟩; have n0_ := Aside0.mk (Kd.R_elder' (by (with_reducible repeat (first | apply Kd.R_alloc | apply Kd.R_drewN | apply Kd.R_drew)); exact HO261.out) (Kd.R_base ho0) hb); have n1_ := Aside0.mk (Kd.R_elder' (by (with_reducible repeat (first | apply Kd.R_alloc | apply Kd.R_drewN | apply Kd.R_drew)); exact HO265.out) (Kd.R_base ho0) hb); have n2_ := Aside0.mk (Kd.R_elder' (by (with_reducible repeat (first | apply Kd.R_alloc | apply Kd.R_drewN | apply Kd.R_drew)); exact HO269.out) (Kd.R_base ho0) hb); have n3_ := Aside0.mk (Kd.R_lower (Kd.R_new' (Kd.R_new' (Kd.R_new' ho0 (Kd.R_lt (by (with_reducible repeat (first | apply Kd.R_alloc | apply Kd.R_drewN | apply Kd.R_drew)); exact HO261.out))) (Kd.R_lt (by (with_reducible repeat (first | apply Kd.R_alloc | apply Kd.R_drewN | apply Kd.R_drew)); exact HO265.out))) (Kd.R_lt (by (with_reducible repeat (first | apply Kd.R_alloc | apply Kd.R_drewN | apply Kd.R_drew)); exact HO269.out))) (below_size (by repeat (first | (with_reducible first | exact HB.out | apply below_alloc | apply pw_below_drewN | apply below_drew1) | exact HB.out)))); have n4_ := Aside0.mk (below_step (by repeat (first | (with_reducible first | exact HB.out | apply below_alloc | apply pw_below_drewN | apply below_drew1) | exact HB.out)) hb); clear HO261; clear HO265; clear HO269; clear HB; have HO261 := n0_; have HO265 := n1_; have HO269 := n2_; have HO273 := n3_; have HB := n4_; clear n0_ n1_ n2_ n3_ n4_; (try clear hb); (try clear hb2); (try clear hk); (try clear hi); (try clear ho0)) | ((with_reducible refine gate_dst (N := 48) rfl ?_); (try (refine gate_guard (by rfl) ?_; dsimp only)); refine Kd.R_make (Kd.int .u8) _ 5 rfl (N := 48) rfl 22 _ _ rfl 8 rfl rfl Try.underlying22 (.int .u8 0) 1 info5 rfl (by decide) (by omega) 0 (ok := fun _ => True) (okp := fun _ => True) rfl (fun _ hk => hk) trivial (by omega) (by omega) (Below.refl _ _) (Nat.le_refl _) ?_; intro v275 w21 ho22 hb hg_ hnew_; clear hg_ hnew_; (first | rw [← Ny274.out] at ho22 | (simp only [Int.reduceToNat] at ho22; rw [← Ny274.out] at ho22)); have n0_ := Aside0.mk (Kd.R_elder' (by (with_reducible repeat (first | apply Kd.R_alloc | apply Kd.R_drewN | apply Kd.R_drew)); exact HO261.out) (Kd.R_base ho22) hb); have n1_ := Aside0.mk (Kd.R_elder' (by (with_reducible repeat (first | apply Kd.R_alloc | apply Kd.R_drewN | apply Kd.R_drew)); exact HO265.out) (Kd.R_base ho22) hb); have n2_ := Aside0.mk (Kd.R_elder' (by (with_reducible repeat (first | apply Kd.R_alloc | apply Kd.R_drewN | apply Kd.R_drew)); exact HO269.out) (Kd.R_base ho22) hb); have n3_ := Aside0.mk (Kd.R_elder' (by (with_reducible repeat (first | apply Kd.R_alloc | apply Kd.R_drewN | apply Kd.R_drew)); exact HO273.out) (Kd.R_base ho22) hb); have n4_ := Aside0.mk (Kd.R_lower (Kd.R_new' (Kd.R_new' (Kd.R_new' (Kd.R_new' ho22 (Kd.R_lt (by (with_reducible repeat (first | apply Kd.R_alloc | apply Kd.R_drewN | apply Kd.R_drew)); exact HO261.out))) (Kd.R_lt (by (with_reducible repeat (first | apply Kd.R_alloc | apply Kd.R_drewN | apply Kd.R_drew)); exact HO265.out))) (Kd.R_lt (by (with_reducible repeat (first | apply Kd.R_alloc | apply Kd.R_drewN | apply Kd.R_drew)); exact HO269.out))) (Kd.R_lt (by (with_reducible repeat (first | apply Kd.R_alloc | apply Kd.R_drewN | apply Kd.R_drew)); exact HO273.out))) (below_size (by repeat (first | (with_reducible first | exact HB.out | apply below_alloc | apply pw_below_drewN | apply below_drew1) | exact HB.out)))); have n5_ := Aside0.mk (below_step (by repeat (first | (with_reducible first | exact HB.out | apply below_alloc | apply pw_below_drewN | apply below_drew1) | exact HB.out)) hb); clear HO261; clear HO265; clear HO269; clear HO273; clear HB; have HO261 := n0_; have HO265 := n1_; have HO269 := n2_; have HO273 := n3_; have HO276 := n4_; have HB := n5_; clear n0_ n1_ n2_ n3_ n4_ n5_; clear hb ho22; obtain ⟨Ao23, co23, eo23⟩ := Kd.R_slice HO276.out; subst eo23) | ((with_reducible refine gate_callee (f := 21) rfl ?_); refine goesL_ (some 53) rfl rfl Try.func21 (by kernel_rfl) rfl #[.slice Ao23 y274.length co23, .int .i64 0, .int .i64 8, .int .i64 (wrap64 ((wrap64 (Int.tmod (IntKind.u64.wrap (a0)) 4294967296)) + (wrap64 ((wrap64 (Int.tmod (IntKind.u64.wrap (a1)) 1073741824)) * 4294967296))))] rfl (by (try simp only [List.map_toArray, List.map_cons, List.map_nil]); first | done | rfl | (simp only [List.length_drop, List.length_take]; rfl)) ?_; (with_reducible refine (le_Put.calls k _ _ y274 0 8 (wrap64 ((wrap64 (Int.tmod (IntKind.u64.wrap (a0)) 4294967296)) + (wrap64 ((wrap64 (Int.tmod (IntKind.u64.wrap (a1)) 1073741824)) * 4294967296)))) t277 t278 _ ?side1 ?side2 A9.out).mono ?_); (case side1 => repeat (first | exact (Kd.R_reads' HO276.out).2.2 | (with_reducible refine Kd.C_alloc ?_ _) | (with_reducible refine Kd.C_drewN ?_ _) | (with_reducible refine Kd.C_drew ?_))); (case side2 => exact (Kd.R_reads' HO276.out).2.1); rintro e w24 ⟨v279, rfl, ho0, hb⟩; refine ⟨_, rfl, ?_⟩; have n0_ := Aside0.mk (Kd.R_elder' (by (with_reducible repeat (first | apply Kd.R_alloc | apply Kd.R_drewN | apply Kd.R_drew)); exact HO261.out) (Kd.R_base ho0) hb); have n1_ := Aside0.mk (Kd.R_elder' (by (with_reducible repeat (first | apply Kd.R_alloc | apply Kd.R_drewN | apply Kd.R_drew)); exact HO265.out) (Kd.R_base ho0) hb); have n2_ := Aside0.mk (Kd.R_elder' (by (with_reducible repeat (first | apply Kd.R_alloc | apply Kd.R_drewN | apply Kd.R_drew)); exact HO269.out) (Kd.R_base ho0) hb); have n3_ := Aside0.mk (Kd.R_elder' (by (with_reducible repeat (first | apply Kd.R_alloc | apply Kd.R_drewN | apply Kd.R_drew)); exact HO273.out) (Kd.R_base ho0) hb); have n4_ := Aside0.mk (Kd.R_elder' (by (with_reducible repeat (first | apply Kd.R_alloc | apply Kd.R_drewN | apply Kd.R_drew)); exact HO276.out) (Kd.R_base ho0) hb); have n5_ := Aside0.mk (Kd.R_lower (Kd.R_new' (Kd.R_new' (Kd.R_new' (Kd.R_new' (Kd.R_new' ho0 (Kd.R_lt (by (with_reducible repeat (first | apply Kd.R_alloc | apply Kd.R_drewN | apply Kd.R_drew)); exact HO261.out))) (Kd.R_lt (by (with_reducible repeat (first | apply Kd.R_alloc | apply Kd.R_drewN | apply Kd.R_drew)); exact HO265.out))) (Kd.R_lt (by (with_reducible repeat (first | apply Kd.R_alloc | apply Kd.R_drewN | apply Kd.R_drew)); exact HO269.out))) (Kd.R_lt (by (with_reducible repeat (first | apply Kd.R_alloc | apply Kd.R_drewN | apply Kd.R_drew)); exact HO273.out))) (Kd.R_lt (by (with_reducible repeat (first | apply Kd.R_alloc | apply Kd.R_drewN | apply Kd.R_drew)); exact HO276.out))) (below_size (by repeat (first | (with_reducible first | exact HB.out | apply below_alloc | apply pw_below_drewN | apply below_drew1) | exact HB.out)))); have n6_ := Aside0.mk (below_step (by repeat (first | (with_reducible first | exact HB.out | apply below_alloc | apply pw_below_drewN | apply below_drew1) | exact HB.out)) hb); clear HO261; clear HO265; clear HO269; clear HO273; clear HO276; clear HB; have HO261 := n0_; have HO265 := n1_; have HO269 := n2_; have HO273 := n3_; have HO276 := n4_; have HO280 := n5_; have HB := n6_; clear n0_ n1_ n2_ n3_ n4_ n5_ n6_; (try clear hb); (try clear hb2); (try clear hk); (try clear hi); (try clear ho0); obtain ⟨Ao25, co25, eo25⟩ := Kd.R_slice HO273.out; subst eo25) | ((with_reducible refine gate_callee (f := 22) rfl ?_); refine goesL_ (some 58) rfl rfl Try.func22 (by kernel_rfl) rfl #[.slice Ao25 t270.length co25, .int .i64 0, .int .i64 8] rfl (by (try simp only [List.map_toArray, List.map_cons, List.map_nil]); first | done | rfl | (simp only [List.length_drop, List.length_take]; rfl)) ?_; (with_reducible refine (le_Get.calls k _ _ t270 0 8 t281 t282 _ ?side1 ?side2 A10.out).mono ?_); (case side1 => repeat (first | exact (Kd.R_reads' HO273.out).2.2 | (with_reducible refine Kd.C_alloc ?_ _) | (with_reducible refine Kd.C_drewN ?_ _) | (with_reducible refine Kd.C_drew ?_))); (case side2 => exact (Kd.R_reads' HO273.out).2.1); rintro e w' ⟨rfl, ⟨nd, rfl⟩⟩; refine ⟨_, rfl, ?_⟩) | ((with_reducible refine gate_callee (f := 22) rfl ?_); refine goesL_ (some 63) rfl rfl Try.func22 (by kernel_rfl) rfl #[.slice Ao25 t270.length co25, .int .i64 8, .int .i64 1] rfl (by (try simp only [List.map_toArray, List.map_cons, List.map_nil]); first | done | rfl | (simp only [List.length_drop, List.length_take]; rfl)) ?_; (with_reducible refine (le_Get.calls k _ _ t270 8 1 t283 t284 _ ?side1 ?side2 A11.out).mono ?_); (case side1 => repeat (first | exact (Kd.R_reads' HO273.out).2.2 | (with_reducible refine Kd.C_alloc ?_ _) | (with_reducible refine Kd.C_drewN ?_ _) | (with_reducible refine Kd.C_drew ?_))); (case side2 => exact (Kd.R_reads' HO273.out).2.1); rintro e w' ⟨rfl, ⟨nd, rfl⟩⟩; refine ⟨_, rfl, ?_⟩))
      (try simp only [Act.put, List.setIfInBounds_toArray, List.set_cons_zero, List.set_cons_succ])
      go_cut [92] (fun v92 wc => ∃ (kq : Nat) (x92_11 : Bool), v92 = .bool x92_11 ∧ Aside0 (woodcutlaw01_LeParts.j0 kq (wrap64 (Int.tmod (IntKind.u64.wrap (a0)) 4294967296)) (wrap64 (Int.tmod (IntKind.u64.wrap (a1)) 1073741824)) (wrap64 (Int.tmod (IntKind.u64.wrap (a2)) 256)) t270 t277 t281 t283 x92_11 = some r) ∧ Aside0 (kq ≤ k) ∧ Aside0 (Kd.R (Kd.int .u8) 5 wc w.heap.size (fun k_ => some k_ ≠ (v279 : Value).ownBlock) (.slice Ao25 t270.length co25) t270) ∧ Aside0 (Kd.R (Kd.int .u8) 5 wc w.heap.size (fun k_ => some k_ ≠ ((.slice Ao25 t270.length co25) : Value).ownBlock) v279 t277) ∧ Aside0 (Below w.heap.size w wc))
      case first =>
        have H := HC12.out
        clear HC12
        by_cases c26 : t263 = 0
        · rw [if_pos c26] at H
          have c26b0 : (t263 == 0) = true := beq_iff_eq.mpr c26
          have c26b1 : (t263 != 0) = false := bne_eq_false_iff_eq.mpr c26
          clear c26
          (first | rw [c26b0] | (simp only [i64_w, i32_w]; rw [c26b0]) | skip)
          by_cases c27 : t267 = 0
          · rw [if_pos c27] at H
            have c27b0 : (t267 == 0) = true := beq_iff_eq.mpr c27
            have c27b1 : (t267 != 0) = false := bne_eq_false_iff_eq.mpr c27
            clear c27
            by_cases c28 : t271 = 0
            · rw [if_pos c28] at H
              have c28b0 : (t271 == 0) = true := beq_iff_eq.mpr c28
              have c28b1 : (t271 != 0) = false := bne_eq_false_iff_eq.mpr c28
              clear c28
              by_cases c29 : t278 = 0
              · rw [if_pos c29] at H
                have c29b0 : (t278 == 0) = true := beq_iff_eq.mpr c29
                have c29b1 : (t278 != 0) = false := bne_eq_false_iff_eq.mpr c29
                clear c29
                by_cases c30 : t282 = 0
                · rw [if_pos c30] at H
                  have c30b0 : (t282 == 0) = true := beq_iff_eq.mpr c30
                  have c30b1 : (t282 != 0) = false := bne_eq_false_iff_eq.mpr c30
                  clear c30
                  by_cases c31 : t284 = 0
                  · rw [if_pos c31] at H
                    have c31b0 : (t284 == 0) = true := beq_iff_eq.mpr c31
                    have c31b1 : (t284 != 0) = false := bne_eq_false_iff_eq.mpr c31
                    clear c31
                    have H' := Aside0.mk H
                    clear H
                    go_wp2
                    go_meet
                    case rel => exact ⟨_, (((t270.length : Int) != 9)), (by first | rfl | (simp; done) | (simp [*]; done)), H', ⟨by first | omega | exact Nat.le_refl _⟩, ⟨by (with_reducible repeat (first | apply Kd.R_alloc | apply Kd.R_drewN | apply Kd.R_drew)); exact Kd.R_mono HO273.out (fun _ hk => hk.2)⟩, ⟨by (with_reducible repeat (first | apply Kd.R_alloc | apply Kd.R_drewN | apply Kd.R_drew)); exact Kd.R_mono HO280.out (fun _ hk => hk.1.2)⟩, ⟨by repeat (first | (with_reducible first | exact HB.out | apply below_alloc | apply pw_below_drewN | apply below_drew1) | exact HB.out)⟩⟩
                  · rw [if_neg c31] at H
                    have c31b0 : (t284 == 0) = false := beq_eq_false_iff_ne.mpr c31
                    have c31b1 : (t284 != 0) = true := bne_iff_ne.mpr c31
                    have H' := Aside0.mk H
                    clear H
                    go_wp2
                    go_meet
                    case rel => exact ⟨_, (true), (by first | rfl | (simp; done) | (simp [*]; done)), H', ⟨by first | omega | exact Nat.le_refl _⟩, ⟨by (with_reducible repeat (first | apply Kd.R_alloc | apply Kd.R_drewN | apply Kd.R_drew)); exact Kd.R_mono HO273.out (fun _ hk => hk.2)⟩, ⟨by (with_reducible repeat (first | apply Kd.R_alloc | apply Kd.R_drewN | apply Kd.R_drew)); exact Kd.R_mono HO280.out (fun _ hk => hk.1.2)⟩, ⟨by repeat (first | (with_reducible first | exact HB.out | apply below_alloc | apply pw_below_drewN | apply below_drew1) | exact HB.out)⟩⟩
                · rw [if_neg c30] at H
                  have c30b0 : (t282 == 0) = false := beq_eq_false_iff_ne.mpr c30
                  have c30b1 : (t282 != 0) = true := bne_iff_ne.mpr c30
                  have H' := Aside0.mk H
                  clear H
                  go_wp2
                  go_meet
                  case rel => exact ⟨_, (true), (by first | rfl | (simp; done) | (simp [*]; done)), H', ⟨by first | omega | exact Nat.le_refl _⟩, ⟨by (with_reducible repeat (first | apply Kd.R_alloc | apply Kd.R_drewN | apply Kd.R_drew)); exact Kd.R_mono HO273.out (fun _ hk => hk.2)⟩, ⟨by (with_reducible repeat (first | apply Kd.R_alloc | apply Kd.R_drewN | apply Kd.R_drew)); exact Kd.R_mono HO280.out (fun _ hk => hk.1.2)⟩, ⟨by repeat (first | (with_reducible first | exact HB.out | apply below_alloc | apply pw_below_drewN | apply below_drew1) | exact HB.out)⟩⟩
              · rw [if_neg c29] at H
                have c29b0 : (t278 == 0) = false := beq_eq_false_iff_ne.mpr c29
                have c29b1 : (t278 != 0) = true := bne_iff_ne.mpr c29
                have H' := Aside0.mk H
                clear H
                go_wp2
                go_meet
                case rel => exact ⟨_, (true), (by first | rfl | (simp; done) | (simp [*]; done)), H', ⟨by first | omega | exact Nat.le_refl _⟩, ⟨by (with_reducible repeat (first | apply Kd.R_alloc | apply Kd.R_drewN | apply Kd.R_drew)); exact Kd.R_mono HO273.out (fun _ hk => hk.2)⟩, ⟨by (with_reducible repeat (first | apply Kd.R_alloc | apply Kd.R_drewN | apply Kd.R_drew)); exact Kd.R_mono HO280.out (fun _ hk => hk.1.2)⟩, ⟨by repeat (first | (with_reducible first | exact HB.out | apply below_alloc | apply pw_below_drewN | apply below_drew1) | exact HB.out)⟩⟩
            · rw [if_neg c28] at H
              have c28b0 : (t271 == 0) = false := beq_eq_false_iff_ne.mpr c28
              have c28b1 : (t271 != 0) = true := bne_iff_ne.mpr c28
              have H' := Aside0.mk H
              clear H
              go_wp2
              go_meet
              case rel => exact ⟨_, (true), (by first | rfl | (simp; done) | (simp [*]; done)), H', ⟨by first | omega | exact Nat.le_refl _⟩, ⟨by (with_reducible repeat (first | apply Kd.R_alloc | apply Kd.R_drewN | apply Kd.R_drew)); exact Kd.R_mono HO273.out (fun _ hk => hk.2)⟩, ⟨by (with_reducible repeat (first | apply Kd.R_alloc | apply Kd.R_drewN | apply Kd.R_drew)); exact Kd.R_mono HO280.out (fun _ hk => hk.1.2)⟩, ⟨by repeat (first | (with_reducible first | exact HB.out | apply below_alloc | apply pw_below_drewN | apply below_drew1) | exact HB.out)⟩⟩
          · rw [if_neg c27] at H
            have c27b0 : (t267 == 0) = false := beq_eq_false_iff_ne.mpr c27
            have c27b1 : (t267 != 0) = true := bne_iff_ne.mpr c27
            have H' := Aside0.mk H
            clear H
            go_wp2
            go_meet
            case rel => exact ⟨_, (true), (by first | rfl | (simp; done) | (simp [*]; done)), H', ⟨by first | omega | exact Nat.le_refl _⟩, ⟨by (with_reducible repeat (first | apply Kd.R_alloc | apply Kd.R_drewN | apply Kd.R_drew)); exact Kd.R_mono HO273.out (fun _ hk => hk.2)⟩, ⟨by (with_reducible repeat (first | apply Kd.R_alloc | apply Kd.R_drewN | apply Kd.R_drew)); exact Kd.R_mono HO280.out (fun _ hk => hk.1.2)⟩, ⟨by repeat (first | (with_reducible first | exact HB.out | apply below_alloc | apply pw_below_drewN | apply below_drew1) | exact HB.out)⟩⟩
        · rw [if_neg c26] at H
          have c26b0 : (t263 == 0) = false := beq_eq_false_iff_ne.mpr c26
          have c26b1 : (t263 != 0) = true := bne_iff_ne.mpr c26
          (first | rw [c26b0] | (simp only [i64_w, i32_w]; rw [c26b0]) | skip)
          have H' := Aside0.mk H
          clear H
          go_wp2
          go_meet
          case rel => exact ⟨_, (true), (by first | rfl | (simp; done) | (simp [*]; done)), H', ⟨by first | omega | exact Nat.le_refl _⟩, ⟨by (with_reducible repeat (first | apply Kd.R_alloc | apply Kd.R_drewN | apply Kd.R_drew)); exact Kd.R_mono HO273.out (fun _ hk => hk.2)⟩, ⟨by (with_reducible repeat (first | apply Kd.R_alloc | apply Kd.R_drewN | apply Kd.R_drew)); exact Kd.R_mono HO280.out (fun _ hk => hk.1.2)⟩, ⟨by repeat (first | (with_reducible first | exact HB.out | apply below_alloc | apply pw_below_drewN | apply below_drew1) | exact HB.out)⟩⟩
      case rest =>
        clear HC12
        try clear c2
        try clear p2
        try clear c3
        try clear c4
        try clear c4b0
        try clear c4b1
        try clear p6
        try clear c8
        try clear c8b0
        try clear c8b1
        try clear c9
        try clear c21
        try clear c22
        try clear c26
        try clear c26b0
        try clear c26b1
        try clear c27
        try clear c27b0
        try clear c27b1
        try clear c28
        try clear c28b0
        try clear c28b1
        try clear c29
        try clear c29b0
        try clear c29b1
        try clear c30
        try clear c30b0
        try clear c30b1
        try clear c31
        try clear c31b0
        try clear c31b1
        obtain ⟨kq, x92_11, rfl, HA, HJ11, HO_7, HO_11, HB⟩ := hcut
        cases kq with
        | zero => exact absurd HA.out (by simp [woodcutlaw01_LeParts.j0])
        | succ kj11 =>
          have H := HA.out
          clear HA
          simp only [woodcutlaw01_LeParts.j0] at H
          by_cases c32 : x92_11 = true
          · subst c32
            have H1 : (some false) = some r := by rw [if_pos rfl] at H; exact H
            clear H
            have H := H1
            clear H1
            obtain rfl := Option.some.inj H
            go_wp2
            go_ret
            exact ⟨by first | rfl | (simp [errW_none, errW_some] <;> rfl) | (simp [*, errW_none, errW_some] <;> rfl), by repeat (first | (with_reducible first | exact HB.out | apply below_alloc | apply pw_below_drewN | apply below_drew1) | exact HB.out)⟩
          · replace c32 := Bool.eq_false_iff.mpr c32
            subst c32
            have H1 : (if 8 ≤ (t270.length : Int) then ((woodcutkeep_Bytes.f kj11 (t270.take 8) t277).bind fun t289 => (if t289 = true then (if t281 = (wrap64 ((wrap64 (Int.tmod (IntKind.u64.wrap (a0)) 4294967296)) + (wrap64 ((wrap64 (Int.tmod (IntKind.u64.wrap (a1)) 1073741824)) * 4294967296)))) then (if t283 = (wrap64 (Int.tmod (IntKind.u64.wrap (a2)) 256)) then ((woodcutlaw01_wakes.f kj11).bind fun t290 => (some t290)) else (some false)) else (some false)) else (some false))) else (none)) = some r := by rw [if_neg (show ¬ (false = true) by decide)] at H; exact H
            clear H
            have H := H1
            clear H1
            by_cases c33 : 8 ≤ (t270.length : Int)
            · rw [if_pos c33] at H
              have c33b0 := eq_true c33
              have c33b1 : decide (8 ≤ (t270.length : Int)) = true := decide_eq_true c33
              clear c33
              obtain ⟨y285, hy285⟩ : ∃ y_ : List Int, y_ = (t270.take 8) := ⟨_, rfl⟩
              replace H : ((woodcutkeep_Bytes.f kj11 y285 t277).bind fun t289 => (if t289 = true then (if t281 = (wrap64 ((wrap64 (Int.tmod (IntKind.u64.wrap (a0)) 4294967296)) + (wrap64 ((wrap64 (Int.tmod (IntKind.u64.wrap (a1)) 1073741824)) * 4294967296)))) then (if t283 = (wrap64 (Int.tmod (IntKind.u64.wrap (a2)) 256)) then ((woodcutlaw01_wakes.f kj11).bind fun t290 => (some t290)) else (some false)) else (some false)) else (some false))) = some r := by first | (rw [hy285]; with_reducible exact H) | (have H2_ := (Option.bind_some _ _).symm.trans H; rw [hy285]; with_reducible exact H2_) | (have H2_ := (Option.bind_some _ _).symm.trans H; with_reducible exact H2_) | with_reducible exact H | (rw [hy285]; exact H) | exact H
              have Ny285 := Aside0.mk hy285
              clear hy285
              replace H := Option.bind_eq_some_iff.mp H
              obtain ⟨t289, A340, H⟩ := H
              replace H : (if t289 = true then (if t281 = (wrap64 ((wrap64 (Int.tmod (IntKind.u64.wrap (a0)) 4294967296)) + (wrap64 ((wrap64 (Int.tmod (IntKind.u64.wrap (a1)) 1073741824)) * 4294967296)))) then (if t283 = (wrap64 (Int.tmod (IntKind.u64.wrap (a2)) 256)) then ((woodcutlaw01_wakes.f kj11).bind fun t290 => (some t290)) else (some false)) else (some false)) else (some false)) = some r := H
              have A34 := Aside0.mk A340
              clear A340
              by_cases c35 : t289 = true
              · subst c35
                have H1 : (if t281 = (wrap64 ((wrap64 (Int.tmod (IntKind.u64.wrap (a0)) 4294967296)) + (wrap64 ((wrap64 (Int.tmod (IntKind.u64.wrap (a1)) 1073741824)) * 4294967296)))) then (if t283 = (wrap64 (Int.tmod (IntKind.u64.wrap (a2)) 256)) then ((woodcutlaw01_wakes.f kj11).bind fun t290 => (some t290)) else (some false)) else (some false)) = some r := by rw [if_pos rfl] at H; exact H
                clear H
                have H := H1
                clear H1
                by_cases c36 : t281 = (wrap64 ((wrap64 (Int.tmod (IntKind.u64.wrap (a0)) 4294967296)) + (wrap64 ((wrap64 (Int.tmod (IntKind.u64.wrap (a1)) 1073741824)) * 4294967296))))
                · rw [if_pos c36] at H
                  have c36b0 : (t281 == (wrap64 ((wrap64 (Int.tmod (IntKind.u64.wrap (a0)) 4294967296)) + (wrap64 ((wrap64 (Int.tmod (IntKind.u64.wrap (a1)) 1073741824)) * 4294967296))))) = true := beq_iff_eq.mpr c36
                  have c36b1 : (t281 != (wrap64 ((wrap64 (Int.tmod (IntKind.u64.wrap (a0)) 4294967296)) + (wrap64 ((wrap64 (Int.tmod (IntKind.u64.wrap (a1)) 1073741824)) * 4294967296))))) = false := bne_eq_false_iff_eq.mpr c36
                  clear c36
                  by_cases c37 : t283 = (wrap64 (Int.tmod (IntKind.u64.wrap (a2)) 256))
                  · rw [if_pos c37] at H
                    have c37b0 : (t283 == (wrap64 (Int.tmod (IntKind.u64.wrap (a2)) 256))) = true := beq_iff_eq.mpr c37
                    have c37b1 : (t283 != (wrap64 (Int.tmod (IntKind.u64.wrap (a2)) 256))) = false := bne_eq_false_iff_eq.mpr c37
                    clear c37
                    replace H := Option.bind_eq_some_iff.mp H
                    obtain ⟨t290, A380, H⟩ := H
                    replace H : (some t290) = some r := H
                    have A38 := Aside0.mk A380
                    clear A380
                    obtain rfl := Option.some.inj H
                    have q39 : (8 : Int) ≤ ((t270.length : Int) : Int) := of_decide_eq_true (by first | (with_reducible assumption) | assumption)
                    obtain ⟨i039, hi039, _, hsz39, _⟩ := info_parts info5
                    have hroom39 : t270.length ≤ co25 := (Kd.R_reads' HO_7.out).2.1
                    have hC39 : Kd.C (Kd.int .u8) _ Ao25 t270.length t270 := (Kd.R_reads' HO_7.out).2.2
                    have hcut39 := cut_to (P := Try.prog) 22 5 .i64 Try.underlying22 hi039 Ao25 t270.length co25 8 (by omega) q39 hroom39
                    have hr39 := Kd.C_take (m := 8) hC39 (by omega)
                    have hy39 : y285.length = (8 : Int).toNat := (by rw [Ny285.out, List.length_take]; omega)
                    rw [← Ny285.out] at hr39
                    rw [← hy39] at hcut39
                    have HR288 := Aside0.mk hr39
                    have HC288 := Aside0.mk (show y285.length ≤ co25 from by omega)
                    clear hr39 hC39 hroom39 hi039 hsz39
                    have KY39 := Aside0.mk hy39
                    clear hy39
                    have KL39 := Aside0.mk (show 8 ≤ t270.length from by omega)
                    replace q39 := eq_true q39
                    obtain ⟨Ao40, co40, eo40⟩ := Kd.R_slice HO_11.out
                    subst eo40
                    go_wp2_with (first | ((with_reducible refine gate_callee (f := 19) rfl ?_); refine goesL_ (some 96) rfl rfl Try.func19 (by kernel_rfl) rfl #[.slice Ao25 y285.length co25, .slice Ao40 t277.length co40] rfl (by (try simp only [List.map_toArray, List.map_cons, List.map_nil]); first | done | rfl | (simp only [List.length_drop, List.length_take]; rfl)) ?_; (with_reducible refine (woodcutkeep_Bytes.calls kj11 _ _ y285 _ _ t277 true _ ?side1 ?side2 ?side3 ?side4 A34.out).mono ?_); (case side1 => repeat (first | exact (by repeat (first | (with_reducible exact HR288.out) | (with_reducible refine Kd.C_alloc ?_ _) | (with_reducible refine Kd.C_drewN ?_ _) | (with_reducible refine Kd.C_drew ?_) | exact HR288.out)) | (with_reducible refine Kd.C_alloc ?_ _) | (with_reducible refine Kd.C_drewN ?_ _) | (with_reducible refine Kd.C_drew ?_))); (case side2 => exact HC288.out); (case side3 => repeat (first | exact (Kd.R_reads' HO_11.out).2.2 | (with_reducible refine Kd.C_alloc ?_ _) | (with_reducible refine Kd.C_drewN ?_ _) | (with_reducible refine Kd.C_drew ?_))); (case side4 => exact (Kd.R_reads' HO_11.out).2.1); rintro e w' ⟨rfl, ⟨nd, rfl⟩⟩; refine ⟨_, rfl, ?_⟩) | (go_at_call 26; (with_reducible refine (woodcutlaw01_wakes.calls kj11  t290 _ A38.out).mono ?_); rintro e w41 ⟨rfl, hb⟩; have n0_ := Aside0.mk (Kd.R_below (by (with_reducible repeat (first | apply Kd.R_alloc | apply Kd.R_drewN | apply Kd.R_drew)); exact HO_7.out) hb); have n1_ := Aside0.mk (Kd.R_below (by (with_reducible repeat (first | apply Kd.R_alloc | apply Kd.R_drewN | apply Kd.R_drew)); exact HO_11.out) hb); have n2_ := Aside0.mk (Kd.C_below (by repeat (first | (with_reducible exact HR288.out) | (with_reducible refine Kd.C_alloc ?_ _) | (with_reducible refine Kd.C_drewN ?_ _) | (with_reducible refine Kd.C_drew ?_) | exact HR288.out)) hb); have n3_ := Aside0.mk (below_step (by repeat (first | (with_reducible first | exact HB.out | apply below_alloc | apply pw_below_drewN | apply below_drew1) | exact HB.out)) hb); clear HO_7; clear HO_11; clear HR288; clear HB; have HO_7 := n0_; have HO_11 := n1_; have HR288 := n2_; have HB := n3_; clear n0_ n1_ n2_ n3_; (try clear hb); (try clear hb2); (try clear hk); (try clear hi)))
                    go_ret
                    exact ⟨by first | rfl | (simp [errW_none, errW_some] <;> rfl) | (simp [*, errW_none, errW_some] <;> rfl), by repeat (first | (with_reducible first | exact HB.out | apply below_alloc | apply pw_below_drewN | apply below_drew1) | exact HB.out)⟩
                  · rw [if_neg c37] at H
                    have c37b0 : (t283 == (wrap64 (Int.tmod (IntKind.u64.wrap (a2)) 256))) = false := beq_eq_false_iff_ne.mpr c37
                    have c37b1 : (t283 != (wrap64 (Int.tmod (IntKind.u64.wrap (a2)) 256))) = true := bne_iff_ne.mpr c37
                    obtain rfl := Option.some.inj H
                    have q42 : (8 : Int) ≤ ((t270.length : Int) : Int) := of_decide_eq_true (by first | (with_reducible assumption) | assumption)
                    obtain ⟨i042, hi042, _, hsz42, _⟩ := info_parts info5
                    have hroom42 : t270.length ≤ co25 := (Kd.R_reads' HO_7.out).2.1
                    have hC42 : Kd.C (Kd.int .u8) _ Ao25 t270.length t270 := (Kd.R_reads' HO_7.out).2.2
                    have hcut42 := cut_to (P := Try.prog) 22 5 .i64 Try.underlying22 hi042 Ao25 t270.length co25 8 (by omega) q42 hroom42
                    have hr42 := Kd.C_take (m := 8) hC42 (by omega)
                    have hy42 : y285.length = (8 : Int).toNat := (by rw [Ny285.out, List.length_take]; omega)
                    rw [← Ny285.out] at hr42
                    rw [← hy42] at hcut42
                    have HR288 := Aside0.mk hr42
                    have HC288 := Aside0.mk (show y285.length ≤ co25 from by omega)
                    clear hr42 hC42 hroom42 hi042 hsz42
                    have KY42 := Aside0.mk hy42
                    clear hy42
                    have KL42 := Aside0.mk (show 8 ≤ t270.length from by omega)
                    replace q42 := eq_true q42
                    obtain ⟨Ao43, co43, eo43⟩ := Kd.R_slice HO_11.out
                    subst eo43
                    go_wp2_with (first | ((with_reducible refine gate_callee (f := 19) rfl ?_); refine goesL_ (some 96) rfl rfl Try.func19 (by kernel_rfl) rfl #[.slice Ao25 y285.length co25, .slice Ao43 t277.length co43] rfl (by (try simp only [List.map_toArray, List.map_cons, List.map_nil]); first | done | rfl | (simp only [List.length_drop, List.length_take]; rfl)) ?_; (with_reducible refine (woodcutkeep_Bytes.calls kj11 _ _ y285 _ _ t277 true _ ?side1 ?side2 ?side3 ?side4 A34.out).mono ?_); (case side1 => repeat (first | exact (by repeat (first | (with_reducible exact HR288.out) | (with_reducible refine Kd.C_alloc ?_ _) | (with_reducible refine Kd.C_drewN ?_ _) | (with_reducible refine Kd.C_drew ?_) | exact HR288.out)) | (with_reducible refine Kd.C_alloc ?_ _) | (with_reducible refine Kd.C_drewN ?_ _) | (with_reducible refine Kd.C_drew ?_))); (case side2 => exact HC288.out); (case side3 => repeat (first | exact (Kd.R_reads' HO_11.out).2.2 | (with_reducible refine Kd.C_alloc ?_ _) | (with_reducible refine Kd.C_drewN ?_ _) | (with_reducible refine Kd.C_drew ?_))); (case side4 => exact (Kd.R_reads' HO_11.out).2.1); rintro e w' ⟨rfl, ⟨nd, rfl⟩⟩; refine ⟨_, rfl, ?_⟩))
                    go_ret
                    exact ⟨by first | rfl | (simp [errW_none, errW_some] <;> rfl) | (simp [*, errW_none, errW_some] <;> rfl), by repeat (first | (with_reducible first | exact HB.out | apply below_alloc | apply pw_below_drewN | apply below_drew1) | exact HB.out)⟩
                · rw [if_neg c36] at H
                  have c36b0 : (t281 == (wrap64 ((wrap64 (Int.tmod (IntKind.u64.wrap (a0)) 4294967296)) + (wrap64 ((wrap64 (Int.tmod (IntKind.u64.wrap (a1)) 1073741824)) * 4294967296))))) = false := beq_eq_false_iff_ne.mpr c36
                  have c36b1 : (t281 != (wrap64 ((wrap64 (Int.tmod (IntKind.u64.wrap (a0)) 4294967296)) + (wrap64 ((wrap64 (Int.tmod (IntKind.u64.wrap (a1)) 1073741824)) * 4294967296))))) = true := bne_iff_ne.mpr c36
                  obtain rfl := Option.some.inj H
                  have q44 : (8 : Int) ≤ ((t270.length : Int) : Int) := of_decide_eq_true (by first | (with_reducible assumption) | assumption)
                  obtain ⟨i044, hi044, _, hsz44, _⟩ := info_parts info5
                  have hroom44 : t270.length ≤ co25 := (Kd.R_reads' HO_7.out).2.1
                  have hC44 : Kd.C (Kd.int .u8) _ Ao25 t270.length t270 := (Kd.R_reads' HO_7.out).2.2
                  have hcut44 := cut_to (P := Try.prog) 22 5 .i64 Try.underlying22 hi044 Ao25 t270.length co25 8 (by omega) q44 hroom44
                  have hr44 := Kd.C_take (m := 8) hC44 (by omega)
                  have hy44 : y285.length = (8 : Int).toNat := (by rw [Ny285.out, List.length_take]; omega)
                  rw [← Ny285.out] at hr44
                  rw [← hy44] at hcut44
                  have HR288 := Aside0.mk hr44
                  have HC288 := Aside0.mk (show y285.length ≤ co25 from by omega)
                  clear hr44 hC44 hroom44 hi044 hsz44
                  have KY44 := Aside0.mk hy44
                  clear hy44
                  have KL44 := Aside0.mk (show 8 ≤ t270.length from by omega)
                  replace q44 := eq_true q44
                  obtain ⟨Ao45, co45, eo45⟩ := Kd.R_slice HO_11.out
                  subst eo45
                  go_wp2_with (first | ((with_reducible refine gate_callee (f := 19) rfl ?_); refine goesL_ (some 96) rfl rfl Try.func19 (by kernel_rfl) rfl #[.slice Ao25 y285.length co25, .slice Ao45 t277.length co45] rfl (by (try simp only [List.map_toArray, List.map_cons, List.map_nil]); first | done | rfl | (simp only [List.length_drop, List.length_take]; rfl)) ?_; (with_reducible refine (woodcutkeep_Bytes.calls kj11 _ _ y285 _ _ t277 true _ ?side1 ?side2 ?side3 ?side4 A34.out).mono ?_); (case side1 => repeat (first | exact (by repeat (first | (with_reducible exact HR288.out) | (with_reducible refine Kd.C_alloc ?_ _) | (with_reducible refine Kd.C_drewN ?_ _) | (with_reducible refine Kd.C_drew ?_) | exact HR288.out)) | (with_reducible refine Kd.C_alloc ?_ _) | (with_reducible refine Kd.C_drewN ?_ _) | (with_reducible refine Kd.C_drew ?_))); (case side2 => exact HC288.out); (case side3 => repeat (first | exact (Kd.R_reads' HO_11.out).2.2 | (with_reducible refine Kd.C_alloc ?_ _) | (with_reducible refine Kd.C_drewN ?_ _) | (with_reducible refine Kd.C_drew ?_))); (case side4 => exact (Kd.R_reads' HO_11.out).2.1); rintro e w' ⟨rfl, ⟨nd, rfl⟩⟩; refine ⟨_, rfl, ?_⟩))
                  go_ret
                  exact ⟨by first | rfl | (simp [errW_none, errW_some] <;> rfl) | (simp [*, errW_none, errW_some] <;> rfl), by repeat (first | (with_reducible first | exact HB.out | apply below_alloc | apply pw_below_drewN | apply below_drew1) | exact HB.out)⟩
              · replace c35 := Bool.eq_false_iff.mpr c35
                subst c35
                have H1 : (some false) = some r := by rw [if_neg (show ¬ (false = true) by decide)] at H; exact H
                clear H
                have H := H1
                clear H1
                obtain rfl := Option.some.inj H
                have q46 : (8 : Int) ≤ ((t270.length : Int) : Int) := of_decide_eq_true (by first | (with_reducible assumption) | assumption)
                obtain ⟨i046, hi046, _, hsz46, _⟩ := info_parts info5
                have hroom46 : t270.length ≤ co25 := (Kd.R_reads' HO_7.out).2.1
                have hC46 : Kd.C (Kd.int .u8) _ Ao25 t270.length t270 := (Kd.R_reads' HO_7.out).2.2
                have hcut46 := cut_to (P := Try.prog) 22 5 .i64 Try.underlying22 hi046 Ao25 t270.length co25 8 (by omega) q46 hroom46
                have hr46 := Kd.C_take (m := 8) hC46 (by omega)
                have hy46 : y285.length = (8 : Int).toNat := (by rw [Ny285.out, List.length_take]; omega)
                rw [← Ny285.out] at hr46
                rw [← hy46] at hcut46
                have HR288 := Aside0.mk hr46
                have HC288 := Aside0.mk (show y285.length ≤ co25 from by omega)
                clear hr46 hC46 hroom46 hi046 hsz46
                have KY46 := Aside0.mk hy46
                clear hy46
                have KL46 := Aside0.mk (show 8 ≤ t270.length from by omega)
                replace q46 := eq_true q46
                obtain ⟨Ao47, co47, eo47⟩ := Kd.R_slice HO_11.out
                subst eo47
                go_wp2_with (first | ((with_reducible refine gate_callee (f := 19) rfl ?_); refine goesL_ (some 96) rfl rfl Try.func19 (by kernel_rfl) rfl #[.slice Ao25 y285.length co25, .slice Ao47 t277.length co47] rfl (by (try simp only [List.map_toArray, List.map_cons, List.map_nil]); first | done | rfl | (simp only [List.length_drop, List.length_take]; rfl)) ?_; (with_reducible refine (woodcutkeep_Bytes.calls kj11 _ _ y285 _ _ t277 false _ ?side1 ?side2 ?side3 ?side4 A34.out).mono ?_); (case side1 => repeat (first | exact (by repeat (first | (with_reducible exact HR288.out) | (with_reducible refine Kd.C_alloc ?_ _) | (with_reducible refine Kd.C_drewN ?_ _) | (with_reducible refine Kd.C_drew ?_) | exact HR288.out)) | (with_reducible refine Kd.C_alloc ?_ _) | (with_reducible refine Kd.C_drewN ?_ _) | (with_reducible refine Kd.C_drew ?_))); (case side2 => exact HC288.out); (case side3 => repeat (first | exact (Kd.R_reads' HO_11.out).2.2 | (with_reducible refine Kd.C_alloc ?_ _) | (with_reducible refine Kd.C_drewN ?_ _) | (with_reducible refine Kd.C_drew ?_))); (case side4 => exact (Kd.R_reads' HO_11.out).2.1); rintro e w' ⟨rfl, ⟨nd, rfl⟩⟩; refine ⟨_, rfl, ?_⟩))
                go_ret
                exact ⟨by first | rfl | (simp [errW_none, errW_some] <;> rfl) | (simp [*, errW_none, errW_some] <;> rfl), by repeat (first | (with_reducible first | exact HB.out | apply below_alloc | apply pw_below_drewN | apply below_drew1) | exact HB.out)⟩
            · rw [if_neg c33] at H
              exact absurd H (by simp)
    · rw [if_neg c8] at H
      exact absurd H (by simp)
  · rw [if_neg c4] at H
    exact absurd H (by simp)

/-- THE ONE PURE STATEMENT of woodcutlaw01_LeParts: yours. -/
def woodcutlaw01_LeParts.Pure : Prop := ∀ (a0 : Int) (a1 : Int) (a2 : Int), (Lit.int .i64 a0).wf = true → (Lit.int .i64 a1).wf = true → (Lit.int .i64 a2).wf = true → ∃ k, woodcutlaw01_LeParts.f k a0 a1 a2 = some true
theorem woodcutlaw01_LeParts.walk (P : woodcutlaw01_LeParts.Pure) (a0 : Int) (a1 : Int) (a2 : Int) (w : World) (w0 : (Lit.int .i64 a0).wf = true) (w1 : (Lit.int .i64 a1).wf = true) (w2 : (Lit.int .i64 a2).wf = true) :
    Calls Try.prog 9 #[.int .i64 a0, .int .i64 a1, .int .i64 a2] w fun e w' => e = .returned (.bool true) ∧ Below w.heap.size w w' := by
  obtain ⟨k, h⟩ := P a0 a1 a2 w0 w1 w2
  refine (woodcutlaw01_LeParts.calls k a0 a1 a2 true w h).mono ?_
  rintro e w' ⟨rfl, hd⟩
  exact ⟨rfl, hd⟩

end Go.Proofs.Ytpaoboadccnnmaa.PA
