/- The percent of a share of whole numbers lies at the percent of these, or one above. No program in sight. -/
import Derived.Test.YtcfopjfimobbjaaMPercent
namespace Go.Proofs.Ytcfopjfimobbjaa.FL
set_option linter.unusedVariables false
set_option linter.unusedSimpArgs false
open Ieee
/-- A small multiple of a power of two has its rung. -/
theorem rep : ∀ e k : Nat, k ≤ 2 * B → ∃ R, V R = k * 2 ^ e ∧ R ≤ (e + 2) * B := by
  intro e
  induction e with
  | zero =>
    intro k hk
    refine ⟨k, ?_, by omega⟩
    have := V_block 0 k (.inl ⟨rfl, hk⟩)
    rw [Nat.zero_mul, Nat.zero_add] at this
    exact this
  | succ e ih =>
    intro k hk
    rcases Nat.lt_or_ge k B with h | h
    · obtain ⟨R, h1, h2⟩ := ih (2 * k) (by omega)
      refine ⟨R, ?_, ?_⟩
      · rw [h1, Nat.pow_succ, Nat.mul_comm (2 ^ e) 2, ← Nat.mul_assoc, Nat.mul_comm k 2]
      · have : (e + 2) * B ≤ (e + 1 + 2) * B := Nat.mul_le_mul_right _ (by omega)
        exact Nat.le_trans h2 this
    · refine ⟨(e + 1) * B + k, V_block (e + 1) k (.inr ⟨h, hk⟩), ?_⟩
      rw [show e + 1 + 2 = (e + 1) + 2 from rfl, Nat.add_mul (e + 1) 2 B]
      omega
theorem rep_in (e k : Nat) (he : e ≤ 1074) (hk : k ≤ 2 * B) : ∃ R, V R = k * 2 ^ e ∧ R + 1 ≤ INF := by
  obtain ⟨R, h1, h2⟩ := rep e k hk
  refine ⟨R, h1, ?_⟩
  have h3 : (e + 2) * B ≤ 1076 * B := Nat.mul_le_mul_right _ (by omega)
  have h4 : 1076 * B + 1 ≤ INF := by decide
  omega
theorem rung_exact (mag R : Nat) (hR : R + 1 ≤ INF) (h : V R = mag * 2 ^ 1074) : rung mag 0 = R := by
  have key : ∀ r, 1 ≤ r → r ≤ INF → (r ≤ rung mag 0 ↔ ExMid r (mag * 2 ^ 1074) 1) := by
    intro r h1 h2
    rw [le_rung mag 0 1074 0 (by omega) r h1 h2]
    unfold Mid ExMid
    rw [Nat.pow_zero, Nat.mul_assoc 2 mag]
  refine Nat.le_antisymm (ex_le _ _ 1 R (by decide) hR ?_ key) (ex_ge _ _ 1 R (by decide) (by omega) ?_ key)
  · rw [h, Nat.mul_one]; exact Nat.le_refl _
  · rw [h, Nat.mul_one]; exact Nat.le_refl _
theorem divmid_ex (r va vb : Nat) : DivMid r va vb ↔ ExMid r (va * 2 ^ 1074) vb := by
  unfold DivMid ExMid
  rw [Nat.mul_assoc 2 va]
theorem V_hun : V HUN = 100 * 2 ^ 1074 := by decide +kernel
theorem V_half : V HALF = 512 * 2 ^ 1064 := by decide +kernel
theorem T_U : 2 ^ 1074 = 1024 * 2 ^ 1064 := by decide +kernel
/-- Where the quotient lies between two numbers of the format. -/
theorem div_between (u va vb C D : Nat) (hb : 0 < vb) (hC : C + 1 ≤ INF) (hD : D ≤ INF) (h1 : va * 2 ^ 1074 ≤ V C * vb) (h2 : V D * vb ≤ va * 2 ^ 1074)
    (h : ∀ r, 1 ≤ r → r ≤ INF → (r ≤ u ↔ DivMid r va vb)) : D ≤ u ∧ u ≤ C := by
  have key : ∀ r, 1 ≤ r → r ≤ INF → (r ≤ u ↔ ExMid r (va * 2 ^ 1074) vb) := fun r a b => by rw [h r a b, divmid_ex]
  exact ⟨ex_ge u _ vb D hb hD h2 key, ex_le u _ vb C hb hC h1 key⟩
theorem cross (n m c U : Nat) (h : n * 1024 ≤ c * m) : n * (1024 * U) * (1024 * U) ≤ c * U * (m * (1024 * U)) := by
  have e1 : n * (1024 * U) * (1024 * U) = (n * 1024) * (1024 * U * U) := by simp only [Nat.mul_assoc, Nat.mul_comm, Nat.mul_left_comm]
  have e2 : c * U * (m * (1024 * U)) = (c * m) * (1024 * U * U) := by simp only [Nat.mul_assoc, Nat.mul_comm, Nat.mul_left_comm]
  rw [e1, e2]
  exact Nat.mul_le_mul_right _ h
theorem cross' (n m c U : Nat) (h : c * m ≤ n * 1024) : c * U * (m * (1024 * U)) ≤ n * (1024 * U) * (1024 * U) := by
  have e1 : n * (1024 * U) * (1024 * U) = (n * 1024) * (1024 * U * U) := by simp only [Nat.mul_assoc, Nat.mul_comm, Nat.mul_left_comm]
  have e2 : c * U * (m * (1024 * U)) = (c * m) * (1024 * U * U) := by simp only [Nat.mul_assoc, Nat.mul_comm, Nat.mul_left_comm]
  rw [e1, e2]
  exact Nat.mul_le_mul_right _ h
theorem upper (n m Q c : Nat) (hm : 0 < m) (h : 100 * n < (Q + 1) * m) (hc : 1024 * (Q + 1) ≤ c * 100) : n * 1024 ≤ c * m := by
  have h1 : 1024 * (Q + 1) * m ≤ c * 100 * m := Nat.mul_le_mul_right _ hc
  rw [Nat.mul_assoc, Nat.mul_right_comm] at h1
  omega
theorem lower (n m Q c : Nat) (h : Q * m ≤ 100 * n) (hc : c * 100 ≤ 1024 * Q) : c * m ≤ n * 1024 := by
  have h1 : c * 100 * m ≤ 1024 * Q * m := Nat.mul_le_mul_right _ hc
  rw [Nat.mul_assoc 1024, Nat.mul_right_comm] at h1
  omega
theorem prod (c d U : Nat) (h : 100 * c ≤ d) : 100 * (1024 * U) * (c * U) ≤ d * U * (1024 * U) := by
  have e1 : 100 * (1024 * U) * (c * U) = (100 * c) * (U * (1024 * U)) := by simp only [Nat.mul_assoc, Nat.mul_comm, Nat.mul_left_comm]
  rw [e1, Nat.mul_assoc d]
  exact Nat.mul_le_mul_right _ h
theorem prod' (c d U : Nat) (h : d ≤ 100 * c) : d * U * (1024 * U) ≤ 100 * (1024 * U) * (c * U) := by
  have e1 : 100 * (1024 * U) * (c * U) = (100 * c) * (U * (1024 * U)) := by simp only [Nat.mul_assoc, Nat.mul_comm, Nat.mul_left_comm]
  rw [e1, Nat.mul_assoc d]
  exact Nat.mul_le_mul_right _ h
theorem cut_lt (x e Q U : Nat) (hU : 0 < U) (h : x ≤ e * U) (he : e < 1024 * (Q + 1)) : x / (1024 * U) ≤ Q := by
  refine Nat.lt_succ_iff.1 ((Nat.div_lt_iff_lt_mul (Nat.mul_pos (by decide) hU)).2 ?_)
  have h1 : (e + 1) * U ≤ 1024 * (Q + 1) * U := Nat.mul_le_mul_right _ he
  rw [Nat.add_mul] at h1
  have e2 : Q.succ * (1024 * U) = 1024 * (Q + 1) * U := by
    simp only [Nat.succ_eq_add_one, Nat.mul_assoc, Nat.mul_comm, Nat.mul_left_comm]
  rw [e2]
  omega
theorem cut_ge (x e Q U : Nat) (hU : 0 < U) (h : e * U ≤ x) (he : 1024 * Q ≤ e) : Q ≤ x / (1024 * U) := by
  refine (Nat.le_div_iff_mul_le (Nat.mul_pos (by decide) hU)).2 ?_
  have h1 : 1024 * Q * U ≤ e * U := Nat.mul_le_mul_right _ he
  have e2 : Q * (1024 * U) = 1024 * Q * U := by
    simp only [Nat.mul_assoc, Nat.mul_comm, Nat.mul_left_comm]
  rw [e2]
  omega
/-- The percent, out of the three rounded steps. -/
theorem whole_core (n m x q1 q2 Q : Nat) (hm : 0 < m) (hQ : Q ≤ 100) (h1 : Q * m ≤ 100 * n) (h2 : 100 * n < (Q + 1) * m)
    (hx : ∀ r, 1 ≤ r → r ≤ INF → (r ≤ x ↔ DivMid r (n * 2 ^ 1074) (m * 2 ^ 1074)))
    (hq1 : ∀ r, 1 ≤ r → r ≤ INF → (r ≤ q1 ↔ ExMid r (V HUN * V x) (2 ^ 1074)))
    (hq2 : ∀ r, 1 ≤ r → r ≤ INF → (r ≤ q2 ↔ ExMid r (V q1 + V HALF) 1)) :
    Q ≤ V q2 / 2 ^ 1074 ∧ V q2 / 2 ^ 1074 ≤ Q + 1 := by
  have hB : 1000000 ≤ B := by decide
  obtain ⟨c, hc⟩ : ∃ c, c = 1024 * (Q + 1) / 100 + 1 := ⟨_, rfl⟩
  obtain ⟨c', hc'⟩ : ∃ c, c = 1024 * Q / 100 := ⟨_, rfl⟩
  have g1 : 1024 * Q ≤ 100 * c' + 512 := by omega
  have g2 : 100 * c + 512 < 1024 * (Q + 1 + 1) := by omega
  have g3 : 1024 * (Q + 1) ≤ c * 100 := by omega
  have g4 : c' * 100 ≤ 1024 * Q := by omega
  obtain ⟨C, vC, lC⟩ := rep_in 1064 c (by decide) (by omega)
  obtain ⟨C', vC', lC'⟩ := rep_in 1064 c' (by decide) (by omega)
  obtain ⟨D, vD, lD⟩ := rep_in 1064 (100 * c) (by decide) (by omega)
  obtain ⟨D', vD', lD'⟩ := rep_in 1064 (100 * c') (by decide) (by omega)
  obtain ⟨E, vE, lE⟩ := rep_in 1064 (100 * c + 512) (by decide) (by omega)
  obtain ⟨E', vE', lE'⟩ := rep_in 1064 (100 * c' + 512) (by decide) (by omega)
  have kC := Nat.le_of_succ_le lC'
  have kD := Nat.le_of_succ_le lD'
  have kE := Nat.le_of_succ_le lE'
  have vHu := V_hun
  have vHa := V_half
  have hU := Nat.two_pow_pos 1064
  have hT := T_U
  generalize 2 ^ 1064 = U at *
  rw [hT] at hx hq1 vHu ⊢
  have b1 : C' ≤ x ∧ x ≤ C := by
    refine div_between x _ _ C C' (Nat.mul_pos hm (Nat.mul_pos (by decide) hU)) lC kC ?_ ?_ hx
    · rw [vC, hT]
      exact cross n m c U (upper n m Q c hm h2 g3)
    · rw [vC', hT]
      exact cross' n m c' U (lower n m Q c' h1 g4)
  have x1 : c' * U ≤ V x := by rw [← vC']; exact V_le b1.1
  have x2 : V x ≤ c * U := by rw [← vC]; exact V_le b1.2
  have b2 : D' ≤ q1 ∧ q1 ≤ D := by
    refine ⟨ex_ge q1 _ _ D' (Nat.mul_pos (by decide) hU) kD ?_ hq1, ex_le q1 _ _ D (Nat.mul_pos (by decide) hU) lD ?_ hq1⟩
    · rw [vD', vHu]
      exact Nat.le_trans (prod' c' (100 * c') U (Nat.le_refl _)) (Nat.mul_le_mul_left _ x1)
    · rw [vD, vHu]
      exact Nat.le_trans (Nat.mul_le_mul_left _ x2) (prod c (100 * c) U (Nat.le_refl _))
  have y1 : 100 * c' * U ≤ V q1 := by rw [← vD']; exact V_le b2.1
  have y2 : V q1 ≤ 100 * c * U := by rw [← vD]; exact V_le b2.2
  have b3 : E' ≤ q2 ∧ q2 ≤ E := by
    refine ⟨ex_ge q2 _ _ E' (by decide) kE ?_ hq2, ex_le q2 _ _ E (by decide) lE ?_ hq2⟩
    · rw [vE', vHa, Nat.mul_one, Nat.add_mul]
      exact Nat.add_le_add_right y1 _
    · rw [vE, vHa, Nat.mul_one, Nat.add_mul]
      exact Nat.add_le_add_right y2 _
  have z1 : (100 * c' + 512) * U ≤ V q2 := by rw [← vE']; exact V_le b3.1
  have z2 : V q2 ≤ (100 * c + 512) * U := by rw [← vE]; exact V_le b3.2
  exact ⟨cut_ge _ _ Q _ hU z1 g1, cut_lt _ _ (Q + 1) _ hU z2 g2⟩
end Go.Proofs.Ytcfopjfimobbjaa.FL
