/- Put and Get at a place, as the laws use them. -/
import Derived.Test.YtpaoboadccnnmaaFLe
namespace Go.Proofs.Ytpaoboadccnnmaa.F
open Go Go.RowKit Go.Proofs.Ytpaoboadccnnmaa.PA Go.Proofs.YtpaoboadccnnmaaW.PrintWords Go.Proofs.YtpaoboadccnnmaaW.PrintLast Go.Proofs.YtpaoboadccnnmaaW.PrintMore

theorem umod (a m : Int) (h0 : 0 < m) (h1 : m ≤ 4611686018427387904) : ∃ x : Nat, (x : Int) < m ∧ wrap64 (Int.tmod (IntKind.u64.wrap a) m) = (x : Int) := by
  rw [IntKind.wrap_u64]
  have h2 : 0 ≤ a % 18446744073709551616 := Int.emod_nonneg _ (by decide)
  rw [Int.tmod_eq_emod_of_nonneg h2]
  have h3 := Int.emod_nonneg (a % 18446744073709551616) (by omega : m ≠ 0)
  have h4 := Int.emod_lt_of_pos (a % 18446744073709551616) h0
  refine ⟨(a % 18446744073709551616 % m).toNat, by omega, ?_⟩
  rw [wrap_in (by omega) (by omega)]
  omega
theorem digs_add (s n m : Nat) : digs s (n + 256 ^ s * m) = digs s n := by
  induction s generalizing n with
  | zero => rfl
  | succ s ih =>
    have e : n + 256 ^ (s + 1) * m = n + 256 * (256 ^ s * m) := by rw [Nat.pow_succ, Nat.mul_comm (256 ^ s) 256, Nat.mul_assoc]
    rw [digs, digs, e, show (n + 256 * (256 ^ s * m)) / 256 = n / 256 + 256 ^ s * m by omega, ih, show (n + 256 * (256 ^ s * m)) % 256 = n % 256 by omega]
theorem digs_split (s t n : Nat) : digs (s + t) n = digs s n ++ digs t (n / 256 ^ s) := by
  induction s generalizing n with
  | zero => simp [digs]
  | succ s ih =>
    rw [show s + 1 + t = (s + t) + 1 by omega, digs, ih, digs, Nat.div_div_eq_div_mul, show 256 * 256 ^ s = 256 ^ (s + 1) by rw [Nat.pow_succ, Nat.mul_comm]]
    rfl
theorem digs_join (s t a b : Nat) (h : a < 256 ^ s) : digs (s + t) (a + 256 ^ s * b) = digs s a ++ digs t b := by
  rw [digs_split, digs_add, Nat.add_mul_div_left _ _ (Nat.pow_pos (by decide)), Nat.div_eq_of_lt h, Nat.zero_add]
theorem putl_at (P Q : List Int) (s n : Nat) : putl (P ++ Q) P.length s n = P ++ digs s n ++ Q.drop s := by
  unfold putl
  rw [List.take_left, List.drop_append, List.drop_eq_nil_of_le (by omega), show P.length + s - P.length = s by omega, List.nil_append]
theorem put_at (P Q : List Int) (s n : Nat) (hl : (P ++ Q).length < 140737488355328) (hr : Right (s : Int)) (hf : Fits (s : Int) (n : Int)) (hq : s ≤ Q.length) :
    Ev (fun k => le_Put.f k (P ++ Q) (P.length : Int) (s : Int) (n : Int)) (P ++ digs s n ++ Q.drop s, 0) := by
  have h := put_f (P ++ Q) hl (P.length : Int) (s : Int) (n : Int)
  unfold put at h
  rw [if_pos ⟨hr, hf⟩, if_pos ⟨by omega, by rw [List.length_append]; omega⟩, Int.toNat_natCast, Int.toNat_natCast, Int.toNat_natCast, putl_at] at h
  exact h
theorem seg_at (P S Q : List Int) (s : Nat) (hs : S.length = s) : seg (P ++ S ++ Q) (P.length : Int) (s : Int) = nats S := by
  unfold seg
  rw [Int.toNat_natCast, Int.toNat_natCast]
  simp only [nats, List.map_append, List.append_assoc]
  rw [← List.length_map (f := Int.toNat), List.drop_left]
  rw [show s = (S.map Int.toNat).length by simp [hs], List.take_left]
theorem get_at (P S Q : List Int) (s : Nat) (hs : S.length = s) (hr : Right (s : Int)) (bS : Byt S) (bP : Byt P) (bQ : Byt Q) (hl : (P ++ S ++ Q).length ≤ 140737488355328) :
    Ev (fun k => le_Get.f k (P ++ S ++ Q) (P.length : Int) (s : Int)) (if bv (nats S) > 4611686018427387903 then (0, 1) else ((bv (nats S) : Int), 0)) := by
  have h := get (P ++ S ++ Q) ((bP.append bS).append bQ) hl (P.length : Int) (s : Int)
  unfold got at h
  rw [if_pos hr, if_pos ⟨by omega, by rw [List.length_append, List.length_append]; omega⟩, seg_at P S Q s hs] at h
  exact h
end Go.Proofs.Ytpaoboadccnnmaa.F
