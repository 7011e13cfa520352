/- The plain law behind the statement CrcLinear: what the printed functions tell, put together. No program in sight. -/
import Derived.Test.YtpaoboadccnnmaaPAx7
import Derived.Test.YtpaoboadccnnmaaFGet
namespace Go.Proofs.Ytpaoboadccnnmaa.Pure
set_option linter.unusedVariables false
set_option linter.unusedSimpArgs false
open Go Go.RowKit Go.Proofs.Ytpaoboadccnnmaa.PA Go.Proofs.Ytpaoboadccnnmaa.F Go.Proofs.YtpaoboadccnnmaaW.PrintWords Go.Proofs.YtpaoboadccnnmaaW.PrintLast Go.Proofs.YtpaoboadccnnmaaW.PrintMore
open Go.Proofs.Ytpaoboadccnnmaa.MC (more run stn)

def xs3 (A B C : List Nat) (n : Nat) : List Nat := (List.range n).map fun i => (A.getD i 0 ^^^ B.getD i 0) ^^^ C.getD i 0
theorem getD_get (A : List Nat) (n : Nat) (h : n < A.length) : A.getD n 0 = A[n] := by
  rw [List.getD_eq_getElem?_getD, List.getElem?_eq_getElem h]
  rfl
theorem run_snoc (r : Nat) (l : List Nat) (x : Nat) : run r (l ++ [x]) = stn 8 (run r l ^^^ x) := by rw [MC.run_append]; rfl
theorem lin (A B C : List Nat) (r s t : Nat) (n : Nat) (ha : n ≤ A.length) (hb : n ≤ B.length) (hc : n ≤ C.length) :
    run ((r ^^^ s) ^^^ t) (xs3 A B C n) = (run r (A.take n) ^^^ run s (B.take n)) ^^^ run t (C.take n) := by
  induction n with
  | zero => simp [xs3, run]
  | succ n ih =>
    have e : xs3 A B C (n + 1) = xs3 A B C n ++ [(A[n] ^^^ B[n]) ^^^ C[n]] := by
      unfold xs3
      rw [List.range_succ, List.map_append, List.map_cons, List.map_nil, getD_get A n (by omega), getD_get B n (by omega), getD_get C n (by omega)]
    rw [e, run_snoc, ih (by omega) (by omega) (by omega), List.take_succ_eq_append_getElem (by omega : n < A.length), List.take_succ_eq_append_getElem (by omega : n < B.length), List.take_succ_eq_append_getElem (by omega : n < C.length),
      run_snoc, run_snoc, run_snoc, ← MC.stn_xor, ← MC.stn_xor]
    congr 1
    ac_rfl
theorem more_lin (A B C : List Nat) (n : Nat) (ha : n ≤ A.length) (hb : n ≤ B.length) (hc : n ≤ C.length) :
    more 0 (xs3 A B C n) = (more 0 (A.take n) ^^^ more 0 (B.take n)) ^^^ more 0 (C.take n) := by
  have h := lin A B C MC.M MC.M MC.M n ha hb hc
  have e : (MC.M ^^^ MC.M) ^^^ MC.M = MC.M := by rw [Nat.xor_self, Nat.zero_xor]
  unfold more
  rw [Nat.xor_zero]
  rw [e] at h
  rw [h]
  generalize run MC.M (A.take n) = x
  generalize run MC.M (B.take n) = y
  generalize run MC.M (C.take n) = z
  have e2 : (MC.M ^^^ x ^^^ (MC.M ^^^ y)) = x ^^^ y := by
    rw [Nat.xor_assoc, Nat.xor_comm x, Nat.xor_assoc, ← Nat.xor_assoc MC.M MC.M, Nat.xor_self, Nat.zero_xor, Nat.xor_comm]
  rw [e2]
  ac_rfl
theorem xor_i64 (a b : Nat) (ha : a < 4294967296) (hb : b < 4294967296) : bits .xor .i64 (a : Int) (b : Int) = ((a ^^^ b : Nat) : Int) := by
  have hx : a ^^^ b < 2 ^ 32 := Nat.xor_lt_two_pow (by omega) (by omega)
  show IntKind.i64.wrap ((BitVec.ofInt 64 (a : Int) ^^^ BitVec.ofInt 64 (b : Int)).toNat : Int) = _
  rw [BitVec.toNat_xor, ofInt_u64 a (by omega), ofInt_u64 b (by omega), IntKind.wrap_i64]
  omega
theorem bytes3 (a b c : List Int) (ha : Byt a) (hb : Byt b) (hc : Byt c) (i : Nat) (h0 : i < a.length) (h1 : i < b.length) (h2 : i < c.length) :
    bits .xor .u8 (bits .xor .u8 a[i] b[i]) c[i] = ((((nats a).getD i 0 ^^^ (nats b).getD i 0) ^^^ (nats c).getD i 0 : Nat) : Int) ∧ ((nats a).getD i 0 ^^^ (nats b).getD i 0) ^^^ (nats c).getD i 0 < 256 := by
  have e1 : (nats a).getD i 0 = (a[i]).toNat := by rw [getD_get _ _ (by rw [nats_length]; exact h0)]; simp [nats]
  have e2 : (nats b).getD i 0 = (b[i]).toNat := by rw [getD_get _ _ (by rw [nats_length]; exact h1)]; simp [nats]
  have e3 : (nats c).getD i 0 = (c[i]).toNat := by rw [getD_get _ _ (by rw [nats_length]; exact h2)]; simp [nats]
  have k1 := ha _ (List.getElem_mem h0)
  have k2 := hb _ (List.getElem_mem h1)
  have k3 := hc _ (List.getElem_mem h2)
  have hx : (a[i]).toNat ^^^ (b[i]).toNat < 256 := Nat.xor_lt_two_pow (n := 8) (by omega) (by omega)
  have hx2 : ((a[i]).toNat ^^^ (b[i]).toNat) ^^^ (c[i]).toNat < 256 := Nat.xor_lt_two_pow (n := 8) (by omega) (by omega)
  rw [e1, e2, e3]
  refine ⟨?_, hx2⟩
  rw [u8_xor _ _ k1.1 k1.2 k2.1 k2.2, u8_xor _ _ (by omega) (by omega) k3.1 k3.2, Int.toNat_natCast]
def ints (l : List Nat) : List Int := l.map fun (x : Nat) => (x : Int)
theorem nats_ints (l : List Nat) : nats (ints l) = l := by simp [nats, ints, Function.comp_def]
theorem set_take (D : List Int) (i : Nat) (v : Int) (h : i < D.length) : (D.set i v).take (i + 1) = D.take i ++ [v] := by
  rw [List.take_succ_eq_append_getElem (by simpa using h), List.getElem_set_self, List.take_set_of_le (Nat.le_refl i)]
theorem linear_loop (a b c : List Int) (ha : Byt a) (hb : Byt b) (hc : Byt c) (hla : a.length ≤ 140737488355328) (hlb : b.length ≤ 140737488355328) (hlc : c.length ≤ 140737488355328)
    (n : Nat) (h0 : n ≤ a.length) (h1 : n ≤ b.length) (h2 : n ≤ c.length) : ∀ (d i : Nat), i + d = n → ∀ D : List Int, D.length = n → D.take i = (ints (xs3 (nats a) (nats b) (nats c) n)).take i →
    Ev (fun k => woodcutlaw02_CrcLinear.l0 k a b c (n : Int) D (i : Int)) true := by
  intro d
  have hXl : (ints (xs3 (nats a) (nats b) (nats c) n)).length = n := by simp [ints, xs3]
  have hXget : ∀ i (h : i < n), (ints (xs3 (nats a) (nats b) (nats c) n))[i]'(by rw [hXl]; exact h) = ((((nats a).getD i 0 ^^^ (nats b).getD i 0) ^^^ (nats c).getD i 0 : Nat) : Int) := by
    intro i h
    simp [ints, xs3]
  induction d with
  | zero =>
    intro i hi D hD hT
    obtain rfl : i = n := by omega
    rw [List.take_of_length_le (by omega), List.take_of_length_le (by omega)] at hT
    subst hT
    have hbX : Byt (ints (xs3 (nats a) (nats b) (nats c) i)) := by
      intro x hx
      obtain ⟨j, hj, rfl⟩ := List.getElem_of_mem hx
      rw [hXl] at hj
      rw [hXget j hj]
      have := (bytes3 a b c ha hb hc j (by omega) (by omega) (by omega)).2
      omega
    have c1 : (0 : Int) ≤ (i : Int) := by omega
    have c2 : (i : Int) ≤ (a.length : Int) := by omega
    have c3 : (i : Int) ≤ (b.length : Int) := by omega
    have c4 : (i : Int) ≤ (c.length : Int) := by omega
    have q1 : (a.take i).length ≤ 140737488355328 := by rw [List.length_take]; omega
    have q2 : (b.take i).length ≤ 140737488355328 := by rw [List.length_take]; omega
    have q3 : (c.take i).length ≤ 140737488355328 := by rw [List.length_take]; omega
    have hlen : (ints (xs3 (nats a) (nats b) (nats c) i)).length ≤ 140737488355328 := by rw [hXl]; omega
    have q4 : ¬ (i : Int) < (i : Int) := by omega
    have m1 := more_lt32 0 (by decide) _ (ha.take i)
    have m2 := more_lt32 0 (by decide) _ (hb.take i)
    have m3 := more_lt32 0 (by decide) _ (hc.take i)
    have hml := more_lin (nats a) (nats b) (nats c) i (by rw [nats_length]; exact h0) (by rw [nats_length]; exact h1) (by rw [nats_length]; exact h2)
    have hx : more 0 (nats (a.take i)) ^^^ more 0 (nats (b.take i)) < 4294967296 := Nat.xor_lt_two_pow (n := 32) m1 m2
    refine Ev.step (f := fun k => _) (fun k => by simp only [woodcutlaw02_CrcLinear.l0]; rw [if_neg q4]) ?_
    refine Ev.bind (crc_sum _ hbX hlen) ?_
    simp only [c1, c2, c3, c4, if_true, Int.toNat_natCast]
    refine Ev.bind (crc_sum _ (ha.take i) q1) (Ev.bind (crc_sum _ (hb.take i) q2) (Ev.bind (crc_sum _ (hc.take i) q3) ?_))
    rw [nats_ints, hml, xor_i64 _ _ m1 m2, xor_i64 _ _ hx m3, nats_take, nats_take, nats_take]
    simp only [if_true]
    exact Ev.bind crc_wakes (Ev.now _)
  | succ d ih =>
    intro i hi D hD hT
    have hin : i < n := by omega
    have l0 : i < a.length := by omega
    have l1 : i < b.length := by omega
    have l2 : i < c.length := by omega
    have l3 : i < D.length := by omega
    have e1 : i + 1 + d = n := by omega
    have c1 : (i : Int) < (n : Int) := by omega
    have c2 : (0 : Int) ≤ (i : Int) := by omega
    have c3 : (i : Int) < (a.length : Int) := by omega
    have c4 : (i : Int) < (b.length : Int) := by omega
    have c5 : (i : Int) < (c.length : Int) := by omega
    have c6 : (i : Int) < (D.length : Int) := by omega
    have hn : n ≤ 140737488355328 := by omega
    have hw := idx_up i n hn hin
    have b3 := bytes3 a b c ha hb hc i l0 l1 l2
    have h1 := ih (i + 1) e1 (D.set i ((((nats a).getD i 0 ^^^ (nats b).getD i 0) ^^^ (nats c).getD i 0 : Nat) : Int)) (by rw [List.length_set]; exact hD) (by
      rw [set_take _ _ _ l3, hT, List.take_succ_eq_append_getElem (by rw [hXl]; exact hin), hXget i hin])
    refine Ev.step (fun k => ?_) h1
    simp only [woodcutlaw02_CrcLinear.l0]
    rw [if_pos c1, if_pos c2, if_pos c3, if_pos c4, if_pos c5, if_pos c6, rd_get a i l0, rd_get b i l1, rd_get c i l2, b3.1, hw, Int.toNat_natCast]
theorem mn3 (x y z : Nat) : ∃ n : Nat, mn (mn (x : Int) (y : Int)) (z : Int) = (n : Int) ∧ n ≤ x ∧ n ≤ y ∧ n ≤ z := by
  refine ⟨min (min x y) z, ?_, by omega, by omega, by omega⟩
  unfold mn
  split <;> split <;> omega
theorem CrcLinear : woodcutlaw02_CrcLinear.Pure := by
  intro a b c ha0 ha1 ha2 hb0 hb1 hb2 hc0 hc1 hc2
  have ha := byt_of_wf ha2
  have hb := byt_of_wf hb2
  have hc := byt_of_wf hc2
  refine Ev.rounds (g := fun k => woodcutlaw02_CrcLinear.f k a b c) ?_
  unfold woodcutlaw02_CrcLinear.f
  obtain ⟨n, hn, h0, h1, h2⟩ := mn3 a.length b.length c.length
  rw [hn]
  by_cases hbig : (n : Int) > 600
  · simp only [hbig, if_true]
    exact Ev.now _
  · have c1 : (0 : Int) ≤ (n : Int) := by omega
    have c2 : n ≤ 281474976710656 := by omega
    simp only [hbig, c1, c2, if_true, if_false, Int.toNat_natCast]
    exact linear_loop a b c ha hb hc (by omega) (by omega) (by omega) n h0 h1 h2 n 0 (by omega) (List.replicate n 0) (by simp) (by simp)

end Go.Proofs.Ytpaoboadccnnmaa.Pure
