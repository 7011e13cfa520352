/- The walk of the reference's Least. -/
import Derived.Test.YtcfopjfimobbjaaWGaugeE
namespace Go.Proofs.Ytcfopjfimobbjaa.WG
set_option linter.unusedVariables false
set_option linter.unusedSimpArgs false
open Go Go.RowKit
open Go.Proofs.Ytcfopjfimobbjaa.FL (isnan)
/-- One number more, by the reference. -/
def rstep (p : Nat × Bool) (x : Nat) : Nat × Bool := if (FloatKind.f64.format.order x x != some .eq) then p else if (!p.2) || (FloatKind.f64.format.order x p.1 == some .lt) || ((FloatKind.f64.format.order x p.1 == some .eq) && signed x) then (x, true) else p
def refleast (b : Nat) (l : List Nat) : Nat × Bool := l.foldl rstep (b, false)
theorem refleast_succ (b : Nat) (l : List Nat) (i : Nat) (h : i < l.length) : refleast b (l.take (i + 1)) = rstep (refleast b (l.take i)) (l.getD i 0) := by
  unfold refleast
  rw [List.take_add_one, List.foldl_append]
  simp [List.getElem?_eq_getElem h, List.getD_eq_getElem?_getD]
set_option maxHeartbeats 8000000 in
set_option maxRecDepth 100000 in
theorem refleast_calls (A : Option Addr) (c : Nat) (l : List Nat) (w : World) (hr : Fr w A l) (hc : l.length ≤ c) (hz : ∀ i, i < l.length → (FloatKind.f64.format.order (l.getD i 0) 0 == some .eq) = true → l.getD i 0 = 0 ∨ l.getD i 0 = 9223372036854775808) :
    Calls Try.prog 14 #[.slice A l.length c] w fun e w' => ∃ b, e = .returned (.float .f64 (refleast b l).1) ∧ isnan b = true ∧ b < 2 ^ 64 ∧ w' = w.drew := by
  obtain ⟨hm, hr⟩ := hr
  go_enter Try.func14, Try.ntmps14
  go_wp2_with (first | (go_at_call 22; (with_reducible refine (none_calls _).mono ?_); rintro e w' ⟨b, rfl, hb, hlt, rfl⟩))
  go_loop [3, 4, 5] (fun v3 v4 v5 => ∃ i : Nat, i ≤ l.length ∧ v5 = .int .i64 (i : Int) ∧ v3 = .float .f64 (refleast b (l.take i)).1 ∧ v4 = .bool (refleast b (l.take i)).2) (fun _ _ v5 => match v5 with | .int _ i => ((l.length : Int) - i).toNat | _ => 0)
  case atStart => exact ⟨0, Nat.zero_le _, rfl, by simp [refleast], by simp [refleast]⟩
  case round =>
  obtain ⟨i, hi, rfl, rfl, rfl⟩ := hrel
  rcases Nat.lt_or_ge i l.length with hlt2 | hge
  · have e1 : decide ((i : Int) < (l.length : Int)) = true := decide_eq_true (by omega)
    obtain ⟨x, rfl, hx⟩ : ∃ x : Addr, A = some x ∧ ∀ i, i < l.length → w.cell? (x.add i) = some (.float .f64 (l.getD i 0)) := by
      rcases hr with h | h
      · omega
      · exact h
    have hcell : w.drew.cell? (x.add i) = some (.float .f64 (l.getD i 0)) := hx i hlt2
    have i1 : (0 : Int) ≤ (i : Int) := by omega
    have i2 : (i : Int) < (l.length : Int) := by omega
    have e2 := next_in i l.length hlt2 hm
    have hs := refleast_succ b l i hlt2
    have dec : ((l.length : Int) - ((i + 1 : Nat) : Int)).toNat < ((l.length : Int) - (i : Int)).toNat := by omega
    have hS := fun W => signed_calls (l.getD i 0) W (hz i hlt2)
    clear hx hr hm hz
    generalize w.drew = w2 at hcell ⊢
    generalize l.getD i 0 = X at hcell hs hS
    generalize refleast b (l.take i) = p at hs ⊢
    obtain ⟨best, any⟩ := p
    unfold rstep at hs
    dsimp only at hs ⊢
    cases h1 : (FloatKind.f64.format.order X X != some .eq) <;> cases any <;> cases h3 : (FloatKind.f64.format.order X best == some .lt) <;> cases h4 : (FloatKind.f64.format.order X best == some .eq) <;> cases h5 : signed X
    all_goals
      (rw [h5] at hS
       go_wp2_with (first | (go_at_call 17; (with_reducible refine (refNaN_calls _ _).mono ?_); rintro e w' ⟨rfl, rfl⟩) | (go_at_call 18; (with_reducible refine (hS _).mono ?_); rintro e w' ⟨rfl, rfl⟩))
       rw [e2]
       exact ⟨⟨i + 1, hlt2, rfl, by rw [hs]; simp [h1, h3, h4, h5], by rw [hs]; simp [h1, h3, h4, h5]⟩, dec⟩)
  · have hil : i = l.length := by omega
    subst hil
    have e1 : decide ((l.length : Int) < (l.length : Int)) = false := decide_eq_false (by omega)
    rw [List.take_length]
    go_wp2
    go_ret
    exact ⟨b, rfl, hb, hlt, rfl⟩
end Go.Proofs.Ytcfopjfimobbjaa.WG
