/- Plain numbers: the sum's step, bit by bit, and what follows of it. No program in sight. -/
import Derived.RowKit
namespace Go.Proofs.Ytpaoboadccnnmaa.MC

def P : Nat := 2197175160
def M : Nat := 4294967295
def st (r : Nat) : Nat := if r % 2 = 1 then (r / 2) ^^^ P else r / 2
def stn : Nat → Nat → Nat
  | 0, r => r
  | n + 1, r => stn n (st r)
def run (r : Nat) (l : List Nat) : Nat := l.foldl (fun r c => stn 8 (r ^^^ c)) r
/-- The sum of bytes of a sum (below 2^32), and more. -/
def more (a : Nat) (l : List Nat) : Nat := M ^^^ run (M ^^^ a) l

theorem stn_add (m n r : Nat) : stn (m + n) r = stn n (stn m r) := by
  induction m generalizing r with
  | zero => simp [stn]
  | succ m ih => rw [Nat.succ_add]; exact ih (st r)

theorem st_lt (r : Nat) (h : r < 2 ^ 32) : st r < 2 ^ 32 := by
  unfold st
  split
  · exact Nat.xor_lt_two_pow (by omega) (by decide)
  · omega
theorem stn_lt (n r : Nat) (h : r < 2 ^ 32) : stn n r < 2 ^ 32 := by
  induction n generalizing r with
  | zero => exact h
  | succ n ih => exact ih _ (st_lt r h)
theorem run_lt (l : List Nat) (r : Nat) (h : r < 2 ^ 32) (hl : ∀ x ∈ l, x < 256) : run r l < 2 ^ 32 := by
  induction l generalizing r with
  | nil => exact h
  | cons x l ih =>
    have hx : x < 2 ^ 32 := by have := hl x List.mem_cons_self; omega
    exact ih _ (stn_lt 8 _ (Nat.xor_lt_two_pow h hx)) (fun y hy => hl y (List.mem_cons_of_mem _ hy))
theorem more_lt (a : Nat) (l : List Nat) (h : a < 2 ^ 32) (hl : ∀ x ∈ l, x < 256) : more a l < 2 ^ 32 :=
  Nat.xor_lt_two_pow (by decide) (run_lt l _ (Nat.xor_lt_two_pow (by decide) h) hl)
theorem run_append (r : Nat) (a b : List Nat) : run r (a ++ b) = run (run r a) b := by
  simp [run, List.foldl_append]
theorem more_append (s : Nat) (a b : List Nat) : more s (a ++ b) = more (more s a) b := by
  unfold more
  rw [run_append, ← Nat.xor_assoc M M, Nat.xor_self, Nat.zero_xor]
theorem more_nil (s : Nat) : more s [] = s := by
  show M ^^^ (M ^^^ s) = s
  rw [← Nat.xor_assoc, Nat.xor_self, Nat.zero_xor]

theorem xor_half (a b : Nat) : (a ^^^ b) / 2 = a / 2 ^^^ b / 2 := by
  have := Nat.shiftRight_xor_distrib (a := a) (b := b) (i := 1)
  simpa [Nat.shiftRight_eq_div_pow] using this
theorem xor_odd (a b : Nat) : (a ^^^ b) % 2 = 1 ↔ ¬ (a % 2 = 1 ↔ b % 2 = 1) := by
  have h := Nat.testBit_xor (x := a) (y := b) (i := 0)
  simp only [Nat.testBit_zero] at h
  by_cases ha : a % 2 = 1 <;> by_cases hb : b % 2 = 1 <;> simp_all
theorem st_xor (a b : Nat) : st (a ^^^ b) = st a ^^^ st b := by
  have h := xor_odd a b
  unfold st
  rw [xor_half]
  by_cases ha : a % 2 = 1 <;> by_cases hb : b % 2 = 1
  · rw [if_neg (by rw [h]; simp [ha, hb]), if_pos ha, if_pos hb]
    rw [Nat.xor_comm (b / 2) P, Nat.xor_assoc, ← Nat.xor_assoc P P, Nat.xor_self, Nat.zero_xor]
  · rw [if_pos (by rw [h]; simp [ha, hb]), if_pos ha, if_neg hb, Nat.xor_assoc, Nat.xor_assoc, Nat.xor_comm P]
  · rw [if_pos (by rw [h]; simp [ha, hb]), if_neg ha, if_pos hb, Nat.xor_assoc]
  · rw [if_neg (by rw [h]; simp [ha, hb]), if_neg ha, if_neg hb]
theorem stn_xor (n a b : Nat) : stn n (a ^^^ b) = stn n a ^^^ stn n b := by
  induction n generalizing a b with
  | zero => rfl
  | succ n ih => show stn n (st (a ^^^ b)) = _; rw [st_xor, ih]; rfl

/-- The numbers of bytes, the least one first. -/
def le : List Nat → Nat
  | [] => 0
  | x :: l => x ^^^ 256 * le l
theorem st_two (z : Nat) : st (2 * z) = z := by
  unfold st
  rw [if_neg (by omega)]
  omega
theorem stn_pow (n z : Nat) : stn n (2 ^ n * z) = z := by
  induction n generalizing z with
  | zero => simp [stn]
  | succ n ih =>
    show stn n (st (2 ^ (n + 1) * z)) = z
    rw [Nat.pow_succ, Nat.mul_comm (2 ^ n) 2, Nat.mul_assoc, st_two, ih]
theorem run_le (l : List Nat) (r : Nat) : run r l = stn (8 * l.length) (r ^^^ le l) := by
  induction l generalizing r with
  | nil => simp [run, stn, le]
  | cons x l ih =>
    have h : run r (x :: l) = run (stn 8 (r ^^^ x)) l := rfl
    rw [h, ih, List.length_cons, Nat.mul_succ, Nat.add_comm _ 8, stn_add, le, ← Nat.xor_assoc, stn_xor 8 (r ^^^ x), show (256 : Nat) = 2 ^ 8 from rfl, stn_pow]
theorem le_lt (l : List Nat) (hl : ∀ x ∈ l, x < 256) : le l < 2 ^ (8 * l.length) := by
  induction l with
  | nil => simp [le]
  | cons x l ih =>
    have hx := hl x List.mem_cons_self
    have h := ih (fun y hy => hl y (List.mem_cons_of_mem _ hy))
    have hp : 2 ^ (8 * (x :: l).length) = 256 * 2 ^ (8 * l.length) := by
      rw [List.length_cons, Nat.mul_succ, Nat.pow_add, Nat.mul_comm]
    have h0 : 0 < 2 ^ (8 * l.length) := Nat.two_pow_pos _
    rw [le]
    refine Nat.xor_lt_two_pow ?_ ?_
    · rw [hp]; omega
    · rw [hp]; omega

theorem ge_of_odd (a : Nat) (h : a / 2 < 2 ^ 31) : 2 ^ 31 ≤ (a / 2) ^^^ P := by
  have h1 : (a / 2 ^^^ P).testBit 31 = true := by
    rw [Nat.testBit_xor, Nat.testBit_lt_two_pow h]
    decide
  exact Nat.ge_two_pow_of_testBit h1
theorem st_small (r : Nat) (h : r < 2 ^ 32) (hs : st r < 2 ^ 31) : r = 2 * st r := by
  unfold st at hs ⊢
  by_cases ho : r % 2 = 1
  · rw [if_pos ho] at hs
    have := ge_of_odd r (by omega)
    omega
  · rw [if_neg ho]
    omega
theorem stn_small (m : Nat) : ∀ r, m ≤ 32 → r < 2 ^ 32 → stn m r < 2 ^ (32 - m) → r = 2 ^ m * stn m r := by
  induction m with
  | zero => intro r _ _ _; simp [stn]
  | succ m ih =>
    intro r hm hr hs
    have hlt : stn m (st r) < 2 ^ (32 - (m + 1)) := hs
    have hle : 2 ^ (32 - (m + 1)) ≤ 2 ^ (32 - m) := Nat.pow_le_pow_right (by decide) (by omega)
    have h1 := ih (st r) (by omega) (st_lt r hr) (by omega)
    have hp : 2 ^ m * 2 ^ (32 - (m + 1)) = 2 ^ 31 := by rw [← Nat.pow_add]; congr 1; omega
    have h2 : st r < 2 ^ 31 := by
      rw [h1, ← hp]
      exact Nat.mul_lt_mul_of_pos_left hlt (Nat.two_pow_pos m)
    have h3 := st_small r hr h2
    show r = 2 ^ (m + 1) * stn m (st r)
    rw [Nat.pow_succ, Nat.mul_comm (2 ^ m) 2, Nat.mul_assoc, ← h1]
    exact h3
/-- A run across the end: of what is not nought nothing small is left. -/
theorem burst (m w e : Nat) (hm : m ≤ 32) (hw : w < 2 ^ m) (he : e < 2 ^ (32 - m)) (h : stn m w = e) : w = 0 ∧ e = 0 := by
  have hle : 2 ^ m ≤ 2 ^ 32 := Nat.pow_le_pow_right (by decide) hm
  have h1 := stn_small m w hm (by omega) (by omega)
  rw [h] at h1
  rcases Nat.eq_zero_or_pos e with h0 | h0
  · subst h0; exact ⟨by simpa using h1, rfl⟩
  · have := Nat.le_mul_of_pos_right (2 ^ m) h0
    omega
theorem stn_zero (n : Nat) : stn n 0 = 0 := by
  induction n with
  | zero => rfl
  | succ n ih => exact ih
theorem st_eq_zero (r : Nat) (h : r < 2 ^ 32) (hs : st r = 0) : r = 0 := by
  have := st_small r h (by rw [hs]; decide)
  omega
theorem stn_eq_zero (n r : Nat) (h : r < 2 ^ 32) (hs : stn n r = 0) : r = 0 := by
  induction n generalizing r with
  | zero => exact hs
  | succ n ih => exact st_eq_zero r h (ih _ (st_lt r h) hs)
end Go.Proofs.Ytpaoboadccnnmaa.MC
