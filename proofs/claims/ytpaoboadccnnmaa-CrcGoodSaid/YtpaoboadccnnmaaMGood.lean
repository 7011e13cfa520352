/- A run of four bytes changed in a message with its sum behind: plain facts. -/
import Derived.Test.YtpaoboadccnnmaaMCrc
namespace Go.Proofs.Ytpaoboadccnnmaa.MC
set_option linter.unusedVariables false
set_option linter.unusedSimpArgs false
theorem mul_xor (n a b : Nat) : 2 ^ n * (a ^^^ b) = 2 ^ n * a ^^^ 2 ^ n * b := by
  rw [Nat.mul_comm, Nat.mul_comm (2 ^ n) a, Nat.mul_comm (2 ^ n) b, ← Nat.shiftLeft_eq, ← Nat.shiftLeft_eq, ← Nat.shiftLeft_eq, Nat.shiftLeft_xor_distrib]
theorem le_set (L : List Nat) (p v : Nat) (h : p < L.length) : le (L.set p (L[p] ^^^ v)) = le L ^^^ 2 ^ (8 * p) * v := by
  induction L generalizing p with
  | nil => simp at h
  | cons x l ih =>
    cases p with
    | zero =>
      show (x ^^^ v) ^^^ 256 * le l = (x ^^^ 256 * le l) ^^^ 2 ^ 0 * v
      simp only [Nat.pow_zero, Nat.one_mul]
      rw [Nat.xor_assoc, Nat.xor_assoc, Nat.xor_comm v]
    | succ p =>
      have h2 : p < l.length := by simpa using h
      show x ^^^ 256 * le (l.set p (l[p] ^^^ v)) = (x ^^^ 256 * le l) ^^^ 2 ^ (8 * (p + 1)) * v
      rw [ih p h2, show (256 : Nat) = 2 ^ 8 from rfl, mul_xor, Nat.xor_assoc, ← Nat.mul_assoc, ← Nat.pow_add, show 8 + 8 * p = 8 * (p + 1) by omega]
/-- What a message and its sum tell: a number. -/
def S (n : Nat) (L : List Nat) : Nat := stn (8 * n) (le (L.take n)) ^^^ le (L.drop n)
def c (n p v : Nat) : Nat := if p < n then stn (8 * (n - p)) v else 2 ^ (8 * (p - n)) * v
theorem S_set (n : Nat) (L : List Nat) (p v : Nat) (h : p < L.length) : S n (L.set p (L[p] ^^^ v)) = S n L ^^^ c n p v := by
  unfold S c
  by_cases hp : p < n
  · rw [if_pos hp, List.take_set, List.drop_set, if_pos hp]
    have h2 : p < (L.take n).length := by rw [List.length_take]; omega
    have h3 : (L.take n)[p] = L[p] := List.getElem_take
    have := le_set (L.take n) p v h2
    rw [h3] at this
    rw [this, stn_xor, show stn (8 * n) (2 ^ (8 * p) * v) = stn (8 * (n - p)) v by rw [show 8 * n = 8 * p + 8 * (n - p) by omega, stn_add, stn_pow]]
    rw [Nat.xor_assoc, Nat.xor_assoc, Nat.xor_comm (stn _ v)]
  · rw [if_neg hp, List.take_set, List.drop_set, if_neg hp, List.set_eq_of_length_le (by rw [List.length_take]; omega)]
    have h2 : p - n < (L.drop n).length := by rw [List.length_drop]; omega
    have h3 : (L.drop n)[p - n] = L[p] := by rw [List.getElem_drop]; congr 1; omega
    have := le_set (L.drop n) (p - n) v h2
    rw [h3] at this
    rw [this, Nat.xor_assoc]
theorem xor_cancel (a b : Nat) : a ^^^ b = a ↔ b = 0 := by
  constructor
  · intro h
    have := congrArg (a ^^^ ·) h
    simpa [← Nat.xor_assoc] using this
  · rintro rfl; simp
theorem xor_zero_iff (a b : Nat) : a ^^^ b = 0 ↔ b = a := by
  constructor
  · intro h
    have := congrArg (a ^^^ ·) h
    simpa [← Nat.xor_assoc] using this
  · rintro rfl; simp
theorem le4 (x0 x1 x2 x3 : Nat) : le [x0, x1, x2, x3] = x0 ^^^ 2 ^ 8 * x1 ^^^ 2 ^ 16 * x2 ^^^ 2 ^ 24 * x3 := by
  simp only [le, Nat.mul_zero, Nat.xor_zero]
  rw [show (256 : Nat) = 2 ^ 8 from rfl]
  simp only [mul_xor, ← Nat.mul_assoc, ← Nat.pow_add, Nat.xor_assoc]
theorem le_zero (l : List Nat) (hl : ∀ x ∈ l, x < 256) (h : le l = 0) : ∀ x ∈ l, x = 0 := by
  induction l with
  | nil => simp
  | cons x l ih =>
    have hx := hl x List.mem_cons_self
    have h1 : x ^^^ 256 * le l = 0 := h
    have h2 : 256 * le l = x := (xor_zero_iff _ _).1 h1
    have h3 : le l = 0 ∧ x = 0 := by omega
    intro y hy
    rcases List.mem_cons.1 hy with rfl | hy
    · exact h3.2
    · exact ih (fun z hz => hl z (List.mem_cons_of_mem _ hz)) h3.1 y hy
theorem stn_mul (m i v : Nat) (h : i ≤ m) : stn m (2 ^ i * v) = stn (m - i) v := by
  rw [show m = i + (m - i) by omega, stn_add, stn_pow]
  congr 1
  omega
/-- The four changes together tell nothing only where there is none. -/
theorem run_four (n j x0 x1 x2 x3 : Nat) (hj : j ≤ n) (h0 : x0 < 256) (h1 : x1 < 256) (h2 : x2 < 256) (h3 : x3 < 256)
    (h : c n j x0 ^^^ c n (j + 1) x1 ^^^ c n (j + 2) x2 ^^^ c n (j + 3) x3 = 0) : x0 = 0 ∧ x1 = 0 ∧ x2 = 0 ∧ x3 = 0 := by
  have all : ∀ l : List Nat, (∀ x ∈ l, x < 256) → le l = 0 → ∀ x ∈ l, x = 0 := le_zero
  obtain ⟨d, rfl⟩ : ∃ d, n = j + d := ⟨n - j, by omega⟩
  have b4 : ∀ x ∈ [x0, x1, x2, x3], x < 256 := by simp; omega
  unfold c at h
  match d with
  | 0 =>
    rw [if_neg (by omega), if_neg (by omega), if_neg (by omega), if_neg (by omega)] at h
    have e : le [x0, x1, x2, x3] = 0 := by
      rw [le4, ← h]
      simp
    have := le_zero _ b4 e
    simpa using this
  | 1 =>
    rw [if_pos (by omega), if_neg (by omega), if_neg (by omega), if_neg (by omega)] at h
    simp only [show j + 1 - j = 1 by omega, show j + 1 - (j + 1) = 0 by omega, show j + 2 - (j + 1) = 1 by omega, show j + 3 - (j + 1) = 2 by omega, Nat.mul_zero, Nat.mul_one, Nat.pow_zero, Nat.one_mul, Nat.xor_assoc] at h
    have e : stn 8 (le [x0]) = le [x1, x2, x3] := by
      have := (xor_zero_iff _ _).1 h
      simp only [le, Nat.mul_zero, Nat.xor_zero]
      rw [← this, show (256 : Nat) = 2 ^ 8 from rfl, mul_xor, ← Nat.mul_assoc, ← Nat.pow_add]
    have hb := burst 8 (le [x0]) (le [x1, x2, x3]) (by decide) (le_lt [x0] (by simp; omega)) (le_lt [x1, x2, x3] (by simp; omega)) e
    have a := le_zero _ (by simp; omega) hb.1
    have b := le_zero _ (by simp; omega) hb.2
    simp at a b
    exact ⟨a, b⟩
  | 2 =>
    rw [if_pos (by omega), if_pos (by omega), if_neg (by omega), if_neg (by omega)] at h
    simp only [show j + 2 - j = 2 by omega, show j + 2 - (j + 1) = 1 by omega, show j + 2 - (j + 2) = 0 by omega, show j + 3 - (j + 2) = 1 by omega, Nat.mul_zero, Nat.mul_one, Nat.pow_zero, Nat.one_mul] at h
    rw [Nat.xor_assoc (_ ^^^ _)] at h
    have e : stn 16 (le [x0, x1]) = le [x2, x3] := by
      have := (xor_zero_iff _ _).1 h
      simp only [le, Nat.mul_zero, Nat.xor_zero]
      rw [show (256 : Nat) = 2 ^ 8 from rfl, this, stn_xor, stn_mul 16 8 x1 (by decide)]
    have hb := burst 16 (le [x0, x1]) (le [x2, x3]) (by decide) (le_lt [x0, x1] (by simp; omega)) (le_lt [x2, x3] (by simp; omega)) e
    have a := le_zero [x0, x1] (by simp; omega) hb.1
    have b := le_zero [x2, x3] (by simp; omega) hb.2
    simp at a b
    exact ⟨a.1, a.2, b⟩
  | 3 =>
    rw [if_pos (by omega), if_pos (by omega), if_pos (by omega), if_neg (by omega)] at h
    simp only [show j + 3 - j = 3 by omega, show j + 3 - (j + 1) = 2 by omega, show j + 3 - (j + 2) = 1 by omega, show j + 3 - (j + 3) = 0 by omega, Nat.mul_zero, Nat.mul_one, Nat.pow_zero, Nat.one_mul] at h
    have e : stn 24 (le [x0, x1, x2]) = le [x3] := by
      have := (xor_zero_iff _ _).1 h
      simp only [le, Nat.mul_zero, Nat.xor_zero]
      rw [show (256 : Nat) = 2 ^ 8 from rfl, this, mul_xor, ← Nat.mul_assoc, ← Nat.pow_add, stn_xor, stn_xor, stn_mul 24 8 x1 (by decide), stn_mul 24 (8 + 8) x2 (by decide), Nat.xor_assoc]
    have hb := burst 24 (le [x0, x1, x2]) (le [x3]) (by decide) (le_lt [x0, x1, x2] (by simp; omega)) (le_lt [x3] (by simp; omega)) e
    have a := le_zero [x0, x1, x2] (by simp; omega) hb.1
    have b := le_zero [x3] (by simp; omega) hb.2
    simp at a b
    exact ⟨a.1, a.2.1, a.2.2, b⟩
  | d + 4 =>
    rw [if_pos (by omega), if_pos (by omega), if_pos (by omega), if_pos (by omega)] at h
    have e : stn (8 * (d + 4)) (le [x0, x1, x2, x3]) = 0 := by
      rw [le4, stn_xor, stn_xor, stn_xor, stn_mul _ 8 x1 (by omega), stn_mul _ 16 x2 (by omega), stn_mul _ 24 x3 (by omega), ← h]
      congr 1
      · congr 1
        · congr 1
          · congr 1; omega
          · congr 1; omega
        · congr 1; omega
      · congr 1; omega
    have hlt : le [x0, x1, x2, x3] < 2 ^ 32 := le_lt [x0, x1, x2, x3] b4
    have := le_zero _ b4 (stn_eq_zero _ _ hlt e)
    simpa using this
/-- Good: what it tells is the empty message's. -/
theorem good_S (n : Nat) (L : List Nat) (hn : n + 4 = L.length) : le (L.drop n) = more 0 (L.take n) ↔ S n L = M ^^^ stn (8 * n) M := by
  have hl : (L.take n).length = n := by rw [List.length_take]; omega
  unfold more S
  rw [run_le, hl, Nat.xor_zero, stn_xor]
  generalize stn (8 * n) M = a
  generalize stn (8 * n) (le (L.take n)) = b
  generalize le (L.drop n) = e
  constructor
  · rintro rfl
    rw [Nat.xor_comm b, ← Nat.xor_assoc, Nat.xor_assoc _ b b, Nat.xor_self, Nat.xor_zero]
  · intro h
    rw [← Nat.xor_assoc, ← h, Nat.xor_comm b, Nat.xor_assoc, Nat.xor_self, Nat.xor_zero]
end Go.Proofs.Ytpaoboadccnnmaa.MC
