/- The walk of Least. -/
import Derived.Test.YtcfopjfimobbjaaWGaugeD
namespace Go.Proofs.Ytcfopjfimobbjaa.WG
set_option linter.unusedVariables false
set_option linter.unusedSimpArgs false
open Go Go.RowKit
open Go.Proofs.Ytcfopjfimobbjaa.FL (isnan)
/-- A row of floats reads. -/
def Fr (w : World) (A : Option Addr) (l : List Nat) : Prop := l.length ≤ 9223372036854775807 ∧ (l.length = 0 ∨ ∃ x : Addr, A = some x ∧ ∀ i, i < l.length → w.cell? (x.add i) = some (.float .f64 (l.getD i 0)))
/-- One number more. -/
def step (best x : Nat) : Nat := if (FloatKind.f64.format.order x x != some .eq) then best else if (FloatKind.f64.format.order best best != some .eq) || ahead x best then x else best
def least (l : List Nat) : Nat := l.foldl step 9221120237041090561
theorem least_succ (l : List Nat) (i : Nat) (h : i < l.length) : least (l.take (i + 1)) = step (least (l.take i)) (l.getD i 0) := by
  unfold least
  rw [List.take_add_one, List.foldl_append]
  simp [List.getElem?_eq_getElem h, List.getD_eq_getElem?_getD]
theorem next_in (i n : Nat) (h : i < n) (hn : n ≤ 9223372036854775807) : wrap64 ((i : Int) + 1) = ((i + 1 : Nat) : Int) := by
  unfold wrap64
  omega
set_option maxHeartbeats 8000000 in
set_option maxRecDepth 100000 in
theorem least_calls (A : Option Addr) (c : Nat) (l : List Nat) (w : World) (hr : Fr w A l) (hc : l.length ≤ c) :
    Calls Try.prog 13 #[.slice A l.length c] w fun e w' => e = .returned (.float .f64 (least l)) ∧ w = w' := by
  obtain ⟨hm, hr⟩ := hr
  go_enter Try.func13, Try.ntmps13
  go_wp2_with (first | (go_at_call 20; (with_reducible refine (nan_calls _).mono ?_); rintro e w' ⟨rfl, rfl⟩))
  go_loop [3, 9] (fun v3 v9 => ∃ i : Nat, i ≤ l.length ∧ v9 = .int .i64 (i : Int) ∧ v3 = .float .f64 (least (l.take i))) (fun _ v9 => match v9 with | .int _ i => ((l.length : Int) - i).toNat | _ => 0)
  case atStart => exact ⟨0, Nat.zero_le _, rfl, by simp [least]⟩
  case round =>
  obtain ⟨i, hi, rfl, rfl⟩ := hrel
  rcases Nat.lt_or_ge i l.length with hlt | hge
  · have e1 : decide ((i : Int) < (l.length : Int)) = true := decide_eq_true (by omega)
    obtain ⟨x, rfl, hx⟩ : ∃ x : Addr, A = some x ∧ ∀ i, i < l.length → w.cell? (x.add i) = some (.float .f64 (l.getD i 0)) := by
      rcases hr with h | h
      · omega
      · exact h
    have hcell := hx i hlt
    have i1 : (0 : Int) ≤ (i : Int) := by omega
    have i2 : (i : Int) < (l.length : Int) := by omega
    have e2 := next_in i l.length hlt hm
    have hs := least_succ l i hlt
    have dec : ((l.length : Int) - ((i + 1 : Nat) : Int)).toNat < ((l.length : Int) - (i : Int)).toNat := by omega
    clear hx hr hm
    generalize l.getD i 0 = X at hcell hs
    generalize least (l.take i) = best at hs ⊢
    unfold step at hs
    cases h1 : (FloatKind.f64.format.order X X != some .eq) <;> cases h2 : (FloatKind.f64.format.order best best != some .eq) <;> cases h3 : ahead X best
    all_goals
      (go_wp2_with (first | (go_at_call 19; (with_reducible refine (isNaN_calls _ _).mono ?_); rintro e w' ⟨rfl, rfl⟩) | (go_at_call 23; (with_reducible refine (ahead_calls _ _ _).mono ?_); rintro e w' ⟨rfl, rfl⟩))
       rw [e2]
       exact ⟨⟨i + 1, hlt, rfl, by rw [hs]; simp [h1, h2, h3]⟩, dec⟩)
  · have hil : i = l.length := by omega
    subst hil
    have e1 : decide ((l.length : Int) < (l.length : Int)) = false := decide_eq_false (by omega)
    rw [List.take_length]
    go_wp2
    go_ret
    exact ⟨rfl, rfl⟩
end Go.Proofs.Ytcfopjfimobbjaa.WG
