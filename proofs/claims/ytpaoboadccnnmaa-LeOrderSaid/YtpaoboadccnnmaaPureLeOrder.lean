/- The plain law behind the statement LeOrder: what the printed functions tell, put together. No program in sight. -/
import Derived.Test.YtpaoboadccnnmaaPAx11
import Derived.Test.YtpaoboadccnnmaaFLe
import Derived.Test.YtpaoboadccnnmaaFUse
namespace Go.Proofs.Ytpaoboadccnnmaa.Pure
set_option linter.unusedVariables false
set_option linter.unusedSimpArgs false
open Go Go.RowKit Go.Proofs.Ytpaoboadccnnmaa.PA Go.Proofs.Ytpaoboadccnnmaa.F Go.Proofs.YtpaoboadccnnmaaW.PrintWords Go.Proofs.YtpaoboadccnnmaaW.PrintLast Go.Proofs.YtpaoboadccnnmaaW.PrintMore

theorem one_byte (i c : Nat) (hi : i < 8) (hc : c < 256) : (List.replicate 8 (0 : Int)).set i (c : Int) = digs 8 (256 ^ i * c) := by
  have h8 : i = 0 ∨ i = 1 ∨ i = 2 ∨ i = 3 ∨ i = 4 ∨ i = 5 ∨ i = 6 ∨ i = 7 := by omega
  rcases h8 with rfl | rfl | rfl | rfl | rfl | rfl | rfl | rfl <;>
    simp only [List.replicate, List.set, digs, List.cons.injEq, and_true] <;> refine ⟨?_, ?_, ?_, ?_, ?_, ?_, ?_, ?_⟩ <;> omega
theorem pow_bd (i : Nat) (hi : i < 8) : 256 ^ i ≤ 72057594037927936 := by
  have h := Nat.pow_le_pow_right (n := 256) (by decide) (by omega : i ≤ 7)
  exact h
theorem order_loop (c : Nat) (i : Nat) (hi : i < 8) (B : List Int) (n e : Int) (r : Bool) : ∀ (d j : Nat), j + d = i →
    Ev (fun k => woodcutlaw01_LeOrder.l0 k (c : Int) (i : Int) B n e ((256 ^ i : Nat) : Int) (i : Int)) r →
    Ev (fun k => woodcutlaw01_LeOrder.l0 k (c : Int) (i : Int) B n e ((256 ^ j : Nat) : Int) (j : Int)) r := by
  intro d
  induction d with
  | zero =>
    intro j hj h
    obtain rfl : j = i := by omega
    exact h
  | succ d ih =>
    intro j hj h
    have hp := pow_bd (j + 1) (by omega)
    rw [Nat.pow_succ] at hp
    have c1 : (j : Int) < (i : Int) := by omega
    have e1 : j + 1 + d = i := by omega
    have hw := idx_up j i (by omega) (by omega)
    have hm : wrap64 (((256 ^ j : Nat) : Int) * 256) = ((256 ^ (j + 1) : Nat) : Int) := by
      rw [Nat.pow_succ]
      generalize 256 ^ j = p at hp
      rw [wrap_in (by omega) (by omega)]
      omega
    refine Ev.step (fun k => ?_) (ih (j + 1) e1 h)
    simp only [woodcutlaw01_LeOrder.l0]
    rw [if_pos c1, hm, hw]
theorem zs_set (i c : Nat) (hi : i < 8) (f t : Int) (h : c = 0 ∨ ¬ (f ≤ (i : Int) ∧ (i : Int) < t)) : Zs ((List.replicate 8 (0 : Int)).set i (c : Int)) f t := by
  intro j h1 h2 h3
  rw [List.getD_eq_getElem?_getD, List.getElem?_set]
  by_cases e : i = j
  · subst e
    have hc : c = 0 := by
      rcases h with h | h
      · exact h
      · exact absurd ⟨h1, h2⟩ h
    subst hc
    simp [hi]
  · rw [if_neg e, List.getElem?_replicate]
    split <;> rfl
theorem order_div (c p : Nat) (hp : 0 < p) : (c : Int) > ((4611686018427387903 / p : Nat) : Int) ↔ p * c > 4611686018427387903 := by
  have h := Nat.div_lt_iff_lt_mul hp (x := 4611686018427387903) (y := c)
  rw [Nat.mul_comm] at h
  omega
theorem order_wraps (c i V : Nat) (hc : c < 256) (hi : i < 8) : wrap64 (c : Int) = (c : Int) ∧ wrap64 ((i : Int) + 1) = (i : Int) + 1 := ⟨wrap_in (by omega) (by omega), wrap_in (by omega) (by omega)⟩
theorem order_quo (i : Nat) : wrap64 (Int.tdiv (4611686018427387903 : Int) ((256 ^ i : Nat) : Int)) = ((4611686018427387903 / 256 ^ i : Nat) : Int) := by
  have h2 : 4611686018427387903 / 256 ^ i ≤ 4611686018427387903 := Nat.div_le_self _ _
  rw [Int.tdiv_eq_ediv_of_nonneg (by decide)]
  have h3 : (4611686018427387903 : Int) / ((256 ^ i : Nat) : Int) = ((4611686018427387903 / 256 ^ i : Nat) : Int) := by
    rw [Int.natCast_ediv]; rfl
  rw [h3]
  generalize 4611686018427387903 / 256 ^ i = q at h2
  exact wrap_in (by omega) (by omega)
theorem order_mul (c i V : Nat) (hV : V = 256 ^ i * c) (h : V ≤ 4611686018427387903) : wrap64 ((c : Int) * ((256 ^ i : Nat) : Int)) = (V : Int) := by
  have e : (c : Int) * ((256 ^ i : Nat) : Int) = (V : Int) := by rw [hV, Int.natCast_mul, Int.mul_comm]
  rw [e]
  exact wrap_in (by omega) (by omega)
theorem LeOrder : woodcutlaw01_LeOrder.Pure := by
  intro a0 a1 h0 h1
  have hc0 : 0 ≤ a0 ∧ a0 < 256 := byt_of_wf (l := [a0]) (fun x hx => by rw [List.mem_singleton.1 hx]; exact h0) a0 List.mem_cons_self
  obtain ⟨c, rfl⟩ := Int.eq_ofNat_of_zero_le hc0.1
  have hc : c < 256 := by omega
  obtain ⟨i, hi', ei⟩ := umod a1 8 (by decide) (by decide)
  have hi : i < 8 := by omega
  have hB := one_byte i c hi hc
  have hp := pow_bd i hi
  have hp0 : 0 < 256 ^ i := Nat.pow_pos (by decide)
  have hgt := order_div c (256 ^ i) hp0
  have hz1 := zs_set i c hi 0 (i : Int) (by omega)
  have hz2 := zs_set i c hi ((i : Int) + 1) 8 (by omega)
  have hz3 : c = 0 → Zs ((List.replicate 8 (0 : Int)).set i (c : Int)) 0 8 := fun h => zs_set i c hi 0 8 (.inl h)
  have hz4 : ¬ c = 0 → ¬ Zs ((List.replicate 8 (0 : Int)).set i (c : Int)) 0 8 := fun hne hz => by
    have h := hz i (by omega) (by omega) (by simpa using hi)
    rw [List.getD_eq_getElem?_getD, List.getElem?_set] at h
    simp [hi] at h
    exact hne h
  obtain ⟨B, hBe⟩ : ∃ B, B = (List.replicate 8 (0 : Int)).set i (c : Int) := ⟨_, rfl⟩
  rw [← hBe] at hB hz1 hz2 hz3 hz4
  have hBl : B.length = 8 := by rw [hB, digs_length]
  have hBb : Byt B := by rw [hB]; exact digs_byt _ _
  have hpc : 256 ^ i * c ≤ 72057594037927936 * 255 := Nat.mul_le_mul hp (by omega)
  obtain ⟨V, hV⟩ : ∃ V, V = 256 ^ i * c := ⟨_, rfl⟩
  rw [← hV] at hB hgt hpc
  have hbv : bv (nats B) = V := by rw [hB]; exact bv_digs 8 V (by omega)
  have g1 : Ev (fun k => le_Get.f k B 0 8) (if V > 4611686018427387903 then (0, 1) else ((V : Int), 0)) := by
    have h := F.get_at [] B [] 8 hBl (by unfold Right; simp) hBb (by intro x hx; cases hx) (by intro x hx; cases hx) (by simp [hBl])
    rw [hbv, List.append_nil, List.nil_append] at h
    exact h
  have c0 : (8 : Nat) ≤ 281474976710656 := by decide
  have c1 : (0 : Int) ≤ (i : Int) := by omega
  have c2 : (i : Int) < ((List.replicate 8 (0 : Int)).length : Int) := by simp; omega
  have c3 : ¬ (i : Int) < (i : Int) := by omega
  have c4 : ¬ ((256 ^ i : Nat) : Int) = 0 := by omega
  have c5 : B.length ≤ 140737488355328 := by rw [hBl]; decide
  have g0 : ¬ V > 4611686018427387903 → Fits ((8 : Nat) : Int) (V : Int) := fun h => by unfold Fits; omega
  have g00 : ¬ V > 4611686018427387903 → V ≤ 4611686018427387903 := fun h => by omega
  have e00 : c = 0 → (true == ((c : Int) == 0)) = true := fun h => by subst h; rfl
  have e01 : ¬ c = 0 → (false == ((c : Int) == 0)) = true := fun h => by
    have : ((c : Int) == 0) = false := by rw [beq_eq_false_iff_ne]; omega
    rw [this]
    rfl
  have e02 : 0 + i = i := Nat.zero_add i
  obtain ⟨hwc, hw1⟩ := order_wraps c i V hc hi
  have hdiv := order_quo i
  refine Ev.rounds (g := fun k => woodcutlaw01_LeOrder.f k (c : Int) a1) ?_
  unfold woodcutlaw01_LeOrder.f
  simp only [ei, c0, c1, c2, if_true, Option.bind_some, Int.toNat_natCast, ← hBe]
  refine Ev.bind g1 ?_
  by_cases hbig : V > 4611686018427387903
  · rw [if_pos hbig]
    have h9 := hgt.2 hbig
    refine order_loop c i hi B 0 1 true i 0 e02 ?_
    refine Ev.step (f := fun k => _) (fun k => by simp only [woodcutlaw01_LeOrder.l0]; rw [if_neg c3, if_neg c4, hdiv, hwc, if_pos h9]) ?_
    simp only [if_true]
    exact Ev.bind le_wakes (Ev.now _)
  · rw [if_neg hbig]
    have h9 : ¬ (c : Int) > ((4611686018427387903 / 256 ^ i : Nat) : Int) := fun h => hbig (hgt.1 h)
    have p1 : Ev (fun k => le_Put.f k (List.replicate 8 0) 0 8 (V : Int)) (B, 0) := by
      have h := F.put_at [] (List.replicate 8 0) 8 V (by simp) (by unfold Right; simp) (g0 hbig) (by simp)
      rw [show List.drop 8 (List.replicate 8 (0 : Int)) = [] from rfl, List.append_nil] at h
      rw [hB]
      exact h
    have hm := order_mul c i V hV (g00 hbig)
    refine order_loop c i hi B (V : Int) 0 true i 0 e02 ?_
    refine Ev.step (f := fun k => _) (fun k => by simp only [woodcutlaw01_LeOrder.l0]; rw [if_neg c3, if_neg c4, hdiv, hwc, if_neg h9, if_pos c0]) ?_
    refine Ev.bind p1 ?_
    simp only [hm, if_true]
    refine Ev.bind (same B B c5) ?_
    simp only [decide_true, if_true]
    refine Ev.bind (zeros_yes B c5 0 (i : Int) hz1) ?_
    simp only [if_true, hw1]
    refine Ev.bind (zeros_yes B c5 ((i : Int) + 1) 8 hz2) ?_
    simp only [if_true]
    by_cases hc00 : c = 0
    · refine Ev.bind (zeros_yes B c5 0 8 (hz3 hc00)) ?_
      have e := e00 hc00
      simp only [e, if_true]
      exact Ev.bind le_wakes (Ev.now _)
    · refine Ev.bind (zeros_no B c5 0 8 (hz4 hc00)) ?_
      have e := e01 hc00
      simp only [e, if_true]
      exact Ev.bind le_wakes (Ev.now _)

end Go.Proofs.Ytpaoboadccnnmaa.Pure
