/- The least one of a list: one of them, no other ahead of it, the order is nothing. -/
import Derived.Test.YtcfopjfimobbjaaMExact
namespace Go.Proofs.Ytcfopjfimobbjaa.GL
set_option linter.unusedVariables false
set_option linter.unusedSimpArgs false
open Go Go.RowKit
open Go.Proofs.Ytcfopjfimobbjaa.FL Go.Proofs.Ytcfopjfimobbjaa.WG Go.Proofs.Ytcfopjfimobbjaa.GS Go.Proofs.Ytcfopjfimobbjaa.GW Go.Proofs.Ytcfopjfimobbjaa.GX
/-- What the least one of a list is. -/
def Spec (l : List Nat) (x : Nat) : Prop :=
  ((∀ v ∈ l, isnan v = true) ∧ isnan x = true) ∨
  (x ∈ l ∧ isnan x = false ∧ ∀ v ∈ l, isnan v = false → ¬ (ky v < ky x) ∧ (ky v = ky x → sg v = true → sg x = true))
theorem spec_step (l : List Nat) (x y : Nat) (hl : ∀ v ∈ l, v < 2 ^ 64) (hy : y < 2 ^ 64) (h : Spec l x) : Spec (l ++ [y]) (WG.step x y) := by
  have cy : (FloatKind.f64.format.order y y != some .eq) = isnan y := isnan_iff y
  have cx : (FloatKind.f64.format.order x x != some .eq) = isnan x := isnan_iff x
  unfold WG.step
  rw [cy, cx]
  cases ny : isnan y
  · rcases h with ⟨h1, h2⟩ | ⟨h1, h2, h3⟩
    · rw [h2]
      refine .inr ⟨by simp, ny, fun v hv hn => ?_⟩
      rcases List.mem_append.1 hv with h | h
      · rw [h1 v h] at hn; cases hn
      · obtain rfl := List.mem_singleton.1 h
        exact ⟨Int.lt_irrefl _, fun _ h => h⟩
    · rw [h2]
      have hx := hl x h1
      have e1 : (FloatKind.f64.format.order y x == some .lt) = decide (ky y < ky x) := lt_ky y x ny h2
      have e2 : (FloatKind.f64.format.order y x == some .eq) = decide (ky y = ky x) := eq_ky y x ny h2
      unfold WG.ahead
      rw [e1, e2, neg_bit y hy, neg_bit x hx]
      by_cases hc : (decide (ky y < ky x) || (decide (ky y = ky x) && sg y && !sg x)) = true
      · rw [hc]
        refine .inr ⟨by simp, ny, fun v hv hn => ?_⟩
        rw [Bool.or_eq_true, Bool.and_eq_true, Bool.and_eq_true, decide_eq_true_eq, decide_eq_true_eq, Bool.not_eq_true'] at hc
        rcases List.mem_append.1 hv with h | h
        · obtain ⟨k1, k2⟩ := h3 v h hn
          rcases hc with hc | ⟨⟨c1, c2⟩, c3⟩
          · exact ⟨by simp only [Bool.false_or]; simp; omega, fun h => by simp at h; omega⟩
          · exact ⟨by simp; omega, fun h _ => by simpa using c2⟩
        · obtain rfl := List.mem_singleton.1 h
          exact ⟨Int.lt_irrefl _, fun _ h => h⟩
      · have hc2 : (decide (ky y < ky x) || (decide (ky y = ky x) && sg y && !sg x)) = false := by
          rwa [Bool.not_eq_true] at hc
        rw [hc2]
        refine .inr ⟨List.mem_append_left _ h1, h2, fun v hv hn => ?_⟩
        rcases List.mem_append.1 hv with h | h
        · exact h3 v h hn
        · obtain rfl := List.mem_singleton.1 h
          rw [Bool.or_eq_false_iff, decide_eq_false_iff_not] at hc2
          refine ⟨hc2.1, fun k s => ?_⟩
          have := hc2.2
          simp only [Bool.false_or, Bool.false_eq_true, if_false] at k s ⊢
          rw [decide_eq_true k, s] at this
          simpa using this
  · rcases h with ⟨h1, h2⟩ | ⟨h1, h2, h3⟩
    · refine .inl ⟨fun v hv => ?_, h2⟩
      rcases List.mem_append.1 hv with h | h
      · exact h1 v h
      · obtain rfl := List.mem_singleton.1 h
        exact ny
    · refine .inr ⟨List.mem_append_left _ h1, h2, fun v hv hn => ?_⟩
      rcases List.mem_append.1 hv with h | h
      · exact h3 v h hn
      · obtain rfl := List.mem_singleton.1 h
        rw [ny] at hn; cases hn
theorem spec_fold : ∀ (l seen : List Nat) (x : Nat), (∀ v ∈ seen, v < 2 ^ 64) → (∀ v ∈ l, v < 2 ^ 64) → Spec seen x → Spec (seen ++ l) (l.foldl WG.step x) := by
  intro l
  induction l with
  | nil => intro seen x _ _ h; simpa using h
  | cons y l ih =>
    intro seen x hs hl h
    have hy := hl y (List.mem_cons_self ..)
    have := ih (seen ++ [y]) (WG.step x y) (fun v hv => by rcases List.mem_append.1 hv with h | h; exact hs v h; obtain rfl := List.mem_singleton.1 h; exact hy) (fun v hv => hl v (List.mem_cons_of_mem _ hv)) (spec_step seen x y hs hy h)
    rw [List.append_assoc] at this
    exact this
theorem least_spec (l : List Nat) (hl : ∀ v ∈ l, v < 2 ^ 64) : Spec l (least l) := by
  have := spec_fold l [] 9221120237041090561 (fun v h => (by cases h)) hl (.inl ⟨fun v h => (by cases h), nan0⟩)
  rw [List.nil_append] at this
  exact this
theorem no_less (l : List Nat) (hl : ∀ v ∈ l, v < 2 ^ 64) (v : Nat) (hv : v ∈ l) : (FloatKind.f64.format.order v (least l) == some .lt) = false := by
  rcases least_spec l hl with ⟨h1, h2⟩ | ⟨h1, h2, h3⟩
  · have : FloatKind.f64.format.order v (least l) = none := order_nan _ _ (.inl (h1 v hv))
    rw [this]; rfl
  · cases nv : isnan v
    · refine (lt_ky v (least l) nv h2).trans (decide_eq_false (h3 v hv nv).1)
    · have : FloatKind.f64.format.order v (least l) = none := order_nan _ _ (.inl nv)
      rw [this]; rfl
theorem is_met (l : List Nat) (hl : ∀ v ∈ l, v < 2 ^ 64) (h0 : 0 < l.length) : l.any (fun v => same v (least l)) = true := by
  rw [List.any_eq_true]
  rcases least_spec l hl with ⟨h1, h2⟩ | ⟨h1, h2, h3⟩
  · match l, h0 with
    | y :: l, _ => exact ⟨y, List.mem_cons_self .., both_nan _ _ (h1 y (List.mem_cons_self ..)) h2⟩
  · exact ⟨_, h1, same_refl _⟩
theorem ord_self (v : Nat) : (FloatKind.f64.format.order v v == some .eq) = !isnan v := by
  have := isnan_iff v
  have h2 : (FloatKind.f64.format.order v v != some .eq) = isnan v := this
  rw [← h2, bne, Bool.not_not]
theorem is_any (l : List Nat) (hl : ∀ v ∈ l, v < 2 ^ 64) : l.any (fun v => FloatKind.f64.format.order v v == some .eq) = (FloatKind.f64.format.order (least l) (least l) == some .eq) := by
  rw [ord_self]
  rcases least_spec l hl with ⟨h1, h2⟩ | ⟨h1, h2, h3⟩
  · rw [h2, Bool.not_true, Bool.eq_false_iff, ne_eq, List.any_eq_true]
    rintro ⟨v, hv, h⟩
    rw [ord_self, h1 v hv] at h
    cases h
  · rw [h2, Bool.not_false, List.any_eq_true]
    exact ⟨_, h1, by rw [ord_self, h2]; rfl⟩
theorem least_perm (l m : List Nat) (hl : ∀ v ∈ l, v < 2 ^ 64) (hm : ∀ v, v ∈ m ↔ v ∈ l) : same (least l) (least m) = true := by
  rcases least_spec l hl with ⟨h1, h2⟩ | ⟨h1, h2, h3⟩ <;> rcases least_spec m (fun v hv => hl v ((hm v).1 hv)) with ⟨k1, k2⟩ | ⟨k1, k2, k3⟩
  · exact both_nan _ _ h2 k2
  · rw [h1 _ ((hm _).1 k1)] at k2; cases k2
  · rw [k1 _ ((hm _).2 h1)] at h2; cases h2
  · obtain ⟨a1, a2⟩ := h3 _ ((hm _).1 k1) k2
    obtain ⟨b1, b2⟩ := k3 _ ((hm _).2 h1) h2
    have hk : ky (least l) = ky (least m) := by omega
    have hs : sg (least l) = sg (least m) := by
      cases s1 : sg (least l) <;> cases s2 : sg (least m)
      · rfl
      · rw [a2 hk.symm s2] at s1; cases s1
      · rw [b2 hk s1] at s2; cases s2
      · rfl
    rw [ky_inj _ _ (hl _ h1) (hl _ ((hm _).1 k1)) hk hs]
    exact same_refl _
theorem rot_mem (l : List Nat) (k : Nat) (v : Nat) : v ∈ l.drop k ++ l.take k ↔ v ∈ l := by
  rw [List.mem_append, Or.comm, ← List.mem_append, List.take_append_drop]
theorem any_succ (f : Nat → Bool) (l : List Nat) (i : Nat) (h : i < l.length) : (l.take (i + 1)).any f = ((l.take i).any f || f (l.getD i 0)) := by
  rw [List.take_succ_eq_append_getElem h, List.any_append, List.any_cons, List.any_nil, Bool.or_false, List.getD_eq_getElem?_getD, List.getElem?_eq_getElem h]
  rfl
end Go.Proofs.Ytcfopjfimobbjaa.GL
