/- The law IdsBack at every input: its walk (WBack) with the plain facts put in. -/
import Derived.Test.YtblojnajchpemaaFRef
import Derived.Test.YtblojnajchpemaaWBack
import Derived.Sort.Walk0
namespace Go.Proofs.Ytblojnajchpemaa.Back
set_option linter.unusedVariables false
set_option linter.unusedSimpArgs false
open Go Go.RowKit Go.Proofs.Ytblojnajchpemaa.PA Go.Proofs.Ytblojnajchpemaa.F Go.Proofs.YtblojnajchpemaaW.PrintWords Go.Proofs.YtblojnajchpemaaW.PrintLast Go.Proofs.YtblojnajchpemaaW.PrintMore

theorem bytes_str (l : List Int) (h : ∀ x ∈ l, 0 ≤ x ∧ x < 256) : bytesOf (strOfNums l) = l := by
  unfold bytesOf
  rw [strOfNums_data, List.map_map]
  have h2 : ∀ x ∈ l, ((UInt8.ofNat x.toNat).toNat : Int) = x := by
    intro x hx_
    have h1 := h x hx_
    rw [UInt8.toNat_ofNat']
    omega
  exact (List.map_congr_left h2).trans (List.map_id _)
theorem str_bytes (s : ByteArray) : strOfNums (bytesOf s) = s := by
  apply ByteArray.ext
  unfold strOfNums bytesOf
  rw [List.map_map]
  have h : ∀ b ∈ s.data.toList, (fun n : Int => UInt8.ofNat n.toNat) ((fun b : UInt8 => (b.toNat : Int)) b) = b := fun b _ => by
    show UInt8.ofNat ((b.toNat : Int)).toNat = b
    rw [Int.toNat_natCast, UInt8.ofNat_toNat]
  have e := (List.map_congr_left h).trans (List.map_id _)
  rw [show (fun n : Int => UInt8.ofNat n.toNat) ∘ (fun b : UInt8 => (b.toNat : Int)) = fun b => (fun n : Int => UInt8.ofNat n.toNat) ((fun b : UInt8 => (b.toNat : Int)) b) from rfl, e]
theorem hx_bytes (s n : Nat) : ∀ x ∈ hx (td s n), 0 ≤ x ∧ x < 256 := fun x hx_ => by
  obtain ⟨d, hd_, rfl⟩ := List.mem_map.1 hx_
  exact hd_byte d (td_lt s n d hd_)
theorem bytes_text (n : Nat) : bytesOf (text n) = hx (td 16 n) := bytes_str _ (hx_bytes 16 n)
theorem dig_hd (d : Nat) (h : d < 16) : dig ((hd d : Nat) : Int) = (d : Int) := by
  unfold dig hd
  by_cases h1 : d < 10
  · rw [if_pos h1, if_pos (by omega)]; omega
  · rw [if_neg h1, if_neg (by omega), if_pos (by omega)]; omega
theorem pv_text (s : Nat) : ∀ a n : Nat, pv a (hx (td s n)) = some (a * 16 ^ s + n % 16 ^ s) := by
  induction s with
  | zero => intro a n; simp [td, hx, pv, Nat.mod_one]
  | succ s ih =>
    intro a n
    have hp : n / 16 ^ s % 16 < 16 := Nat.mod_lt _ (by decide)
    have hm := Nat.mod_pow_succ (b := 16) (k := s) (x := n)
    rw [td_cons, hx_cons, pv, dig_hd _ hp, if_neg (by omega), Int.toNat_natCast, ih, hm]
    congr 1
    rw [Nat.add_mul, Nat.pow_succ, Nat.mul_comm 16 a, Nat.mul_assoc, Nat.mul_comm 16 (16 ^ s), Nat.mul_comm (n / 16 ^ s % 16)]
    omega
theorem parsed_text (n : Nat) (h : IsId (n : Int)) : parsed (bytesOf (text n)) = ((n : Int), 0) := by
  unfold IsId at h
  have hn : n < 16 ^ 16 := Nat.lt_of_le_of_lt (by omega : n ≤ 4611686018427387903) (by decide)
  have e := pv_text 16 0 n
  rw [Nat.zero_mul, Nat.zero_add, Nat.mod_eq_of_lt hn] at e
  unfold parsed
  rw [bytes_text, if_pos (by rw [hx_length, td_length]), e]
  unfold fin
  simp only []
  rw [if_neg (by omega)]
theorem pv_none (l : List Int) (c : Int) (hc : c ∈ l) (hd : dig c < 0) : ∀ n, pv n l = none := by
  induction l with
  | nil => cases hc
  | cons x l ih =>
    intro n
    rw [pv]
    rcases List.mem_cons.1 hc with rfl | h
    · rw [if_pos hd]
    · by_cases hx_ : dig x < 0
      · rw [if_pos hx_]
      · rw [if_neg hx_]; exact ih h _
def hb (d : Nat) : UInt8 := UInt8.ofNat (hd d)
theorem text_list (n : Nat) : (text n).toList = (td 16 n).map hb := by
  rw [Lib.toList_data]
  unfold text
  rw [strOfNums_data, hx, List.map_map]
  rfl
theorem hb_lt (p q : Nat) (hp : p < 16) (hq : q < 16) : (hb p < hb q ↔ p < q) ∧ (hb p = hb q ↔ p = q) := by
  have h1 : (hb p).toNat = hd p := by unfold hb hd; rw [UInt8.toNat_ofNat']; split <;> omega
  have h2 : (hb q).toNat = hd q := by unfold hb hd; rw [UInt8.toNat_ofNat']; split <;> omega
  rw [UInt8.lt_iff_toNat_lt, h1, h2]
  refine ⟨?_, ?_⟩
  · unfold hd
    split <;> split <;> omega
  · rw [← UInt8.toNat_inj, h1, h2]
    unfold hd
    split <;> split <;> omega
theorem less_td (s n m : Nat) : Op.bytesLess ((td s n).map hb) ((td s m).map hb) = decide (n % 16 ^ s < m % 16 ^ s) := by
  induction s with
  | zero => simp [td, Op.bytesLess, Nat.mod_one]
  | succ s ih =>
    have hp : n / 16 ^ s % 16 < 16 := Nat.mod_lt _ (by decide)
    have hq : m / 16 ^ s % 16 < 16 := Nat.mod_lt _ (by decide)
    have hn := Nat.mod_pow_succ (b := 16) (k := s) (x := n)
    have hm := Nat.mod_pow_succ (b := 16) (k := s) (x := m)
    have h0 : 0 < 16 ^ s := Nat.pow_pos (by decide)
    have hnl := Nat.mod_lt n h0
    have hml := Nat.mod_lt m h0
    obtain ⟨hl, he⟩ := hb_lt _ _ hp hq
    rw [td_cons, td_cons, List.map_cons, List.map_cons, Op.bytesLess, ih, hn, hm]
    generalize n / 16 ^ s % 16 = p at *
    generalize m / 16 ^ s % 16 = q at *
    generalize n % 16 ^ s = x at *
    generalize m % 16 ^ s = y at *
    generalize 16 ^ s = P at *
    rcases Nat.lt_trichotomy p q with h | h | h
    · have h3 : P * (p + 1) ≤ P * q := Nat.mul_le_mul_left P h
      rw [Nat.mul_succ] at h3
      rw [decide_eq_true (hl.2 h), Bool.true_or]
      symm
      rw [decide_eq_true_eq]
      omega
    · subst h
      have h4 : ¬ hb p < hb p := fun h => Nat.lt_irrefl _ (hl.1 h)
      rw [decide_eq_false h4, beq_self_eq_true, Bool.false_or, Bool.true_and, decide_eq_decide]
      omega
    · have h3 : P * (q + 1) ≤ P * p := Nat.mul_le_mul_left P h
      rw [Nat.mul_succ] at h3
      have h4 : ¬ hb p < hb q := fun h' => by have := hl.1 h'; omega
      have h5 : ¬ hb p = hb q := fun h' => by have := he.1 h'; omega
      rw [decide_eq_false h4, beq_eq_false_iff_ne.2 h5, Bool.false_or, Bool.false_and]
      symm
      rw [decide_eq_false_iff_not]
      omega
theorem less_text (n m : Nat) (hn : IsId (n : Int)) (hm : IsId (m : Int)) : Op.bytesLess (text n).toList (text m).toList = decide ((n : Int) < (m : Int)) := by
  unfold IsId at hn hm
  have h1 : n < 16 ^ 16 := Nat.lt_of_le_of_lt (by omega : n ≤ 4611686018427387903) (by decide)
  have h2 : m < 16 ^ 16 := Nat.lt_of_le_of_lt (by omega : m ≤ 4611686018427387903) (by decide)
  rw [text_list, text_list, less_td, Nat.mod_eq_of_lt h1, Nat.mod_eq_of_lt h2, decide_eq_decide]
  omega
theorem same_text (n m : Nat) (hn : IsId (n : Int)) (hm : IsId (m : Int)) : ((text n).toList == (text m).toList) = ((n : Int) == (m : Int)) := by
  rw [Bool.eq_iff_iff, beq_iff_eq, beq_iff_eq]
  constructor
  · intro h
    rw [Lib.toList_data, Lib.toList_data] at h
    have e : bytesOf (text n) = bytesOf (text m) := by unfold bytesOf; rw [h]
    have h1 := parsed_text n hn
    rw [e, parsed_text m hm] at h1
    exact (congrArg Prod.fst h1).symm
  · intro h
    rw [Int.natCast_inj.1 h]
theorem umod (a m : Int) (h0 : 0 < m) (h1 : m ≤ 4611686018427387904) : ∃ x : Nat, (x : Int) < m ∧ IntKind.i64.wrap (Int.tmod (IntKind.u64.wrap a) m) = (x : Int) := by
  rw [IntKind.wrap_u64]
  have h2 : 0 ≤ a % 18446744073709551616 := Int.emod_nonneg _ (by decide)
  rw [Int.tmod_eq_emod_of_nonneg h2]
  have h3 := Int.emod_nonneg (a % 18446744073709551616) (by omega : m ≠ 0)
  have h4 := Int.emod_lt_of_pos (a % 18446744073709551616) h0
  refine ⟨(a % 18446744073709551616 % m).toNat, by omega, ?_⟩
  rw [IntKind.wrap_i64]
  omega
theorem letter (n : Nat) (j : Nat) (hj : j < 16) : ∃ d : Nat, d < 16 ∧ bt (text n) (j : Int) = ((hd d : Nat) : Int) := by
  have hlen : (bytesOf (text n)).length = 16 := by rw [bytes_text, hx_length, td_length]
  have hm : (bytesOf (text n))[j]'(by rw [hlen]; exact hj) ∈ hx (td 16 n) := by rw [← bytes_text]; exact List.getElem_mem _
  rw [bt_get (text n) j (by rw [hlen]; exact hj)]
  obtain ⟨d, hd1, hd2⟩ := List.mem_map.1 hm
  exact ⟨d, td_lt 16 n d hd1, hd2.symm⟩
/-- With enough rounds all that is met is told at once. -/
theorem rounds3 {α β γ : Type} {f : Nat → Option α} {g : Nat → Option β} {h : Nat → Option γ} {a : α} {b : β} {c : γ} (hf : Ev f a) (hg : Ev g b) (hh : Ev h c) : ∃ K, ∀ k, K ≤ k → f k = some a ∧ g k = some b ∧ h k = some c := by
  obtain ⟨K1, h1⟩ := hf
  obtain ⟨K2, h2⟩ := hg
  obtain ⟨K3, h3⟩ := hh
  exact ⟨max K1 (max K2 K3), fun k hk => ⟨h1 k (by omega), h2 k (by omega), h3 k (by omega)⟩⟩
theorem size_text (n : Nat) : (text n).size = 16 := by
  unfold text
  rw [strOfNums_size, hx_length, td_length]
theorem walk (a b c : Int) (W : World) (h0 : (Lit.int .i64 a).wf = true) (h1 : (Lit.int .i64 b).wf = true) (h2 : (Lit.int .i64 c).wf = true) :
    Calls Try.prog 4 #[.int .i64 a, .int .i64 b, .int .i64 c] W fun e w' => e = .returned (.bool true) ∧ Below W.heap.size W w' := by
  by_cases ha : IsId a
  · obtain ⟨n, rfl⟩ := Int.eq_ofNat_of_zero_le (by unfold IsId at ha; omega : 0 ≤ a)
    have ta := text_yes n ha
    by_cases hb_ : IsId b
    · obtain ⟨m, rfl⟩ := Int.eq_ofNat_of_zero_le (by unfold IsId at hb_; omega : 0 ≤ b)
      have tb := text_yes m hb_
      obtain ⟨j, hj', hc⟩ := umod c 16 (by decide) (by decide)
      have hj : j < 16 := by omega
      have hsz := size_text n
      have hP := parse_f (text n)
      rw [parsed_text n ha] at hP
      have hcut := parse_f ((text n).extract 0 j ++ (text n).extract (j + 1) 16)
      have hlen : (bytesOf ((text n).extract 0 j ++ (text n).extract (j + 1) 16)).length = 15 := by
        rw [bytesOf_length, ByteArray.size_append, ByteArray.size_extract, ByteArray.size_extract, hsz]
        omega
      rw [show parsed (bytesOf ((text n).extract 0 j ++ (text n).extract (j + 1) 16)) = (0, 1) by unfold parsed; rw [if_neg (by omega)]] at hcut
      obtain ⟨d, hd16, hx_⟩ := letter n j hj
      obtain ⟨K1, hK1⟩ := rounds3 ta tb ids_wakes
      have hl : (((text n).size : Nat) : Int) = 16 := by rw [hsz]; rfl
      by_cases h10 : d < 10
      · have hv : ((hd d : Nat) : Int) = 48 + (d : Int) := by unfold hd; rw [if_pos h10]; omega
        obtain ⟨K2, hK2⟩ := rounds3 hP hcut ids_wakes
        have q1 := hK1 (max K1 K2) (by omega)
        have q2 := hK2 (max K1 K2) (by omega)
        exact WB.both_plain (n : Int) (m : Int) c (text n) (text m) j hj (max K1 K2) W hc q1.1 q1.2.1 hl q2.1 (same_text n m ha hb_) (less_text n m ha hb_) q2.2.1 ((hd d : Nat) : Int) hx_ (by omega) (by omega) (str_bytes _) q1.2.2
      · have hv : ((hd d : Nat) : Int) = 87 + (d : Int) := by unfold hd; rw [if_neg h10]; omega
        have hU := parse_f (strOfNums ((bytesOf (text n)).set j (((hd d : Nat) : Int) - 32)))
        have hbl : (bytesOf (text n)).length = 16 := by rw [bytesOf_length, hsz]
        have hby : ∀ x ∈ (bytesOf (text n)).set j (((hd d : Nat) : Int) - 32), 0 ≤ x ∧ x < 256 := by
          intro x hx2
          rcases List.mem_or_eq_of_mem_set hx2 with h | h
          · have := bytes_range (text n) x h
            omega
          · rw [h]; omega
        have hdg : dig (((hd d : Nat) : Int) - 32) < 0 := by
          unfold dig
          rw [if_neg (by omega), if_neg (by omega)]
          decide
        have hin : (((hd d : Nat) : Int) - 32) ∈ (bytesOf (text n)).set j (((hd d : Nat) : Int) - 32) := List.mem_set (by omega) _
        rw [bytes_str _ hby, show parsed ((bytesOf (text n)).set j (((hd d : Nat) : Int) - 32)) = (0, 1) by unfold parsed; rw [if_pos (by rw [List.length_set]; exact hbl), pv_none _ _ hin hdg]; rfl] at hU
        obtain ⟨K2, hK2⟩ := rounds3 hP hcut hU
        have q1 := hK1 (max K1 K2) (by omega)
        have q2 := hK2 (max K1 K2) (by omega)
        exact WB.both_large (n : Int) (m : Int) c (text n) (text m) j hj (max K1 K2) W hc q1.1 q1.2.1 hl q2.1 (same_text n m ha hb_) (less_text n m ha hb_) q2.2.1 ((hd d : Nat) : Int) hx_ (by omega) (by omega) _ rfl q2.2.2 q1.2.2
    · obtain ⟨K, hK⟩ := rounds3 ta (text_no b hb_) ids_wakes
      have q := hK K (Nat.le_refl _)
      exact WB.second_none (n : Int) b c (text n) K W q.1 q.2.1 q.2.2
  · by_cases hb_ : IsId b
    · obtain ⟨m, rfl⟩ := Int.eq_ofNat_of_zero_le (by unfold IsId at hb_; omega : 0 ≤ b)
      obtain ⟨K, hK⟩ := rounds3 (text_no a ha) (text_yes m hb_) ids_wakes
      have q := hK K (Nat.le_refl _)
      exact WB.first_none a (m : Int) c (text m) K W q.1 q.2.1 q.2.2
    · obtain ⟨K, hK⟩ := rounds3 (text_no a ha) (text_no b hb_) ids_wakes
      have q := hK K (Nat.le_refl _)
      exact WB.both_none a b c K W q.1 q.2.1 q.2.2
end Go.Proofs.Ytblojnajchpemaa.Back
