/- The plain law behind the statement IdsDigits: what the printed functions tell, put together. No program in sight. -/
import Derived.Test.YtblojnajchpemaaFRef
namespace Go.Proofs.Ytblojnajchpemaa.Pure
set_option linter.unusedVariables false
set_option linter.unusedSimpArgs false
open Go Go.RowKit Go.Proofs.Ytblojnajchpemaa.PA Go.Proofs.Ytblojnajchpemaa.F Go.Proofs.YtblojnajchpemaaW.PrintWords Go.Proofs.YtblojnajchpemaaW.PrintLast Go.Proofs.YtblojnajchpemaaW.PrintMore

theorem bytes_text (n : Nat) : bytesOf (text n) = hx (td 16 n) := by
  unfold text bytesOf
  rw [strOfNums_data, List.map_map]
  have h : ∀ x ∈ hx (td 16 n), ((UInt8.ofNat x.toNat).toNat : Int) = x := by
    intro x hx_
    obtain ⟨d, hd_, rfl⟩ := List.mem_map.1 hx_
    have h1 := hd_byte d (td_lt 16 n d hd_)
    rw [UInt8.toNat_ofNat']
    omega
  exact (List.map_congr_left h).trans (List.map_id _)
theorem text_at (n i : Nat) (hi : i < 16) : bt (text n) (i : Int) = ((hd (n / 16 ^ (15 - i) % 16) : Nat) : Int) := by
  have hlen : (bytesOf (text n)).length = 16 := by rw [bytes_text, hx_length, td_length]
  rw [bt_get (text n) i (by rw [hlen]; exact hi)]
  have key : ∀ (s : Nat) (j : Nat) (h : j < (hx (td s n)).length), (hx (td s n))[j] = ((hd (n / 16 ^ (s - 1 - j) % 16) : Nat) : Int) := by
    intro s
    induction s with
    | zero => intro j h; simp [td, hx] at h
    | succ s ih =>
      intro j h
      have e : hx (td (s + 1) n) = ((hd (n / 16 ^ s % 16) : Nat) : Int) :: hx (td s n) := by rw [td_cons, hx_cons]
      rcases j with _ | j
      · simp only [e, List.getElem_cons_zero]
        rw [show s + 1 - 1 - 0 = s by omega]
      · simp only [e, List.getElem_cons_succ]
        rw [ih j (by rw [e] at h; simpa using h), show s + 1 - 1 - (j + 1) = s - 1 - j by omega]
  have h2 := key 16 i (by rw [hx_length, td_length]; exact hi)
  rw [List.getElem_of_eq (bytes_text n), h2]
theorem last_chain (n : Nat) : Ev (fun k => woodcutlaw04_IdsDigits.l0 k (n : Int) (text n) (n : Int) 16) true := by
  have t1 := text_yes 4611686018427387903 (by decide)
  have p1 := parse_f (⟨#[48, 48, 48, 48, 48, 48, 48, 48, 48, 48, 48, 48, 48, 48, 48, 48]⟩ : ByteArray)
  have p2 := parse_f (⟨#[52, 48, 48, 48, 48, 48, 48, 48, 48, 48, 48, 48, 48, 48, 48, 48]⟩ : ByteArray)
  rw [show parsed (bytesOf (⟨#[48, 48, 48, 48, 48, 48, 48, 48, 48, 48, 48, 48, 48, 48, 48, 48]⟩ : ByteArray)) = (0, 1) by decide +kernel] at p1
  rw [show parsed (bytesOf (⟨#[52, 48, 48, 48, 48, 48, 48, 48, 48, 48, 48, 48, 48, 48, 48, 48]⟩ : ByteArray)) = (0, 1) by decide +kernel] at p2
  have e1 : (text 4611686018427387903).toList = ([51, 102, 102, 102, 102, 102, 102, 102, 102, 102, 102, 102, 102, 102, 102, 102] : List UInt8) := by kernel_rfl
  have e2 : ids_Check.f 4611686018427387904 = some 1 := by decide +kernel
  have e3 : ids_Check.f (-1) = some 1 := by decide +kernel
  refine Ev.step (f := fun k => _) (fun k => by simp only [woodcutlaw04_IdsDigits.l0]; rw [if_neg (by decide)]) ?_
  refine Ev.bind t1 (Ev.bind p1 (Ev.bind p2 ?_))
  simp only [if_true, e1, e2, e3, Option.bind_some]
  exact Ev.bind ids_wakes (Ev.now _)
theorem hd_cases (g : Nat) (hg : g < 16) : (97 ≤ ((hd g : Nat) : Int) ∧ wrap64 (wrap64 (wrap64 ((hd g : Nat) : Int) - 97) + 10) = (g : Int)) ∨ (¬ 97 ≤ ((hd g : Nat) : Int) ∧ wrap64 (wrap64 ((hd g : Nat) : Int) - 48) = (g : Int)) := by
  unfold hd
  by_cases h : g < 10
  · right
    rw [if_pos h]
    refine ⟨by omega, ?_⟩
    rw [wrap_in (n := ((48 + g : Nat) : Int)) (by omega) (by omega), wrap_in (by omega) (by omega)]
    omega
  · left
    rw [if_neg h]
    refine ⟨by omega, ?_⟩
    rw [wrap_in (n := ((87 + g : Nat) : Int)) (by omega) (by omega), wrap_in (n := ((87 + g : Nat) : Int) - 97) (by omega) (by omega), wrap_in (by omega) (by omega)]
    omega
theorem acc_next (q g : Nat) (hg : g < 16) (h : 16 * q + g ≤ 4611686018427387903) : wrap64 (wrap64 ((q : Int) * 16) + (g : Int)) = ((16 * q + g : Nat) : Int) := by
  rw [wrap_in (n := (q : Int) * 16) (by omega) (by omega), wrap_in (by omega) (by omega)]
  omega
theorem acc_same (Q : Nat) (h : Q ≤ 4611686018427387903) : wrap64 (wrap64 (((Q / 16 : Nat) : Int) * 16) + ((Q % 16 : Nat) : Int)) = (Q : Int) ∧ ¬ ((Q % 16 : Nat) : Int) < 0 ∧ ¬ ((Q % 16 : Nat) : Int) > 15 := by
  refine ⟨?_, by omega, by omega⟩
  rw [acc_next (Q / 16) (Q % 16) (by omega) (by omega)]
  omega
theorem digits_loop (n : Nat) (hn : n ≤ 4611686018427387903) : ∀ (d i : Nat), i + d = 16 →
    Ev (fun k => woodcutlaw04_IdsDigits.l0 k (n : Int) (text n) ((n / 16 ^ (16 - i) : Nat) : Int) (i : Int)) true := by
  have hsz : (text n).size = 16 := by
    unfold text
    rw [strOfNums_size, hx_length, td_length]
  intro d
  induction d with
  | zero =>
    intro i hi
    obtain rfl : i = 16 := by omega
    rw [Nat.sub_self, Nat.pow_zero, Nat.div_one]
    exact last_chain n
  | succ d ih =>
    intro i hi
    have hlt : i < 16 := by omega
    have e1 : i + 1 + d = 16 := by omega
    have c1 : (i : Int) < 16 := by omega
    have c2 : (0 : Int) ≤ (i : Int) := by omega
    have c3 : (i : Int) < ((text n).size : Int) := by rw [hsz]; exact c1
    have e2 : 16 - i = (15 - i) + 1 := by omega
    have e3 : 16 - (i + 1) = 15 - i := by omega
    have hq : n / 16 ^ (16 - i) = n / 16 ^ (15 - i) / 16 := by rw [e2, Nat.pow_succ, ← Nat.div_div_eq_div_mul]
    have hle : n / 16 ^ (15 - i) ≤ n := Nat.div_le_self _ _
    have ht := text_at n i hlt
    have h1 := ih (i + 1) e1
    rw [e3] at h1
    rw [hq]
    clear hq e2 e3
    generalize n / 16 ^ (15 - i) = Q at hle ht h1
    have hg : Q % 16 < 16 := Nat.mod_lt _ (by decide)
    obtain ⟨hacc, n0, n1⟩ := acc_same Q (Nat.le_trans hle hn)
    have hw := idx_up i 16 (by decide) hlt
    refine Ev.step (fun k => ?_) h1
    simp only [woodcutlaw04_IdsDigits.l0]
    rw [if_pos c1, if_pos c2, if_pos c3, ht]
    rcases hd_cases (Q % 16) hg with ⟨g1, g2⟩ | ⟨g1, g2⟩
    · rw [if_pos g1, g2, if_neg n0, if_neg n1, hacc, hw]
    · rw [if_neg g1, g2, if_neg n0, if_neg n1, hacc, hw]
theorem umod (a m : Int) (h0 : 0 < m) (h1 : m ≤ 4611686018427387904) : ∃ x : Nat, (x : Int) < m ∧ wrap64 (Int.tmod (IntKind.u64.wrap a) m) = (x : Int) := by
  rw [IntKind.wrap_u64]
  have h2 : 0 ≤ a % 18446744073709551616 := Int.emod_nonneg _ (by decide)
  rw [Int.tmod_eq_emod_of_nonneg h2]
  have h3 := Int.emod_nonneg (a % 18446744073709551616) (by omega : m ≠ 0)
  have h4 := Int.emod_lt_of_pos (a % 18446744073709551616) h0
  refine ⟨(a % 18446744073709551616 % m).toNat, by omega, ?_⟩
  rw [wrap_in (by omega) (by omega)]
  omega
theorem one_more (x : Nat) (h : (x : Int) < 4611686018427387903) : wrap64 (1 + (x : Int)) = ((x + 1 : Nat) : Int) := by
  rw [wrap_in (by omega) (by omega)]
  omega
theorem IdsDigits : woodcutlaw04_IdsDigits.Pure := by
  intro a ha
  obtain ⟨x, hx_, ex⟩ := umod a 4611686018427387903 (by decide) (by decide)
  have hn : x + 1 ≤ 4611686018427387903 := by omega
  have hid : IsId ((x + 1 : Nat) : Int) := by unfold IsId; omega
  have e1 := one_more x hx_
  have h0 := digits_loop (x + 1) hn 16 0 (by omega)
  have hz : (x + 1) / 16 ^ (16 - 0) = 0 := Nat.div_eq_of_lt (Nat.lt_of_le_of_lt hn (by decide))
  rw [hz] at h0
  have hs : (((text (x + 1)).size : Int) != 16) = false := by
    unfold text
    rw [strOfNums_size, hx_length, td_length]
    rfl
  refine Ev.rounds (g := fun k => woodcutlaw04_IdsDigits.f k a) ?_
  unfold woodcutlaw04_IdsDigits.f
  simp only [ex, e1]
  refine Ev.bind (text_yes (x + 1) hid) ?_
  simp only [if_true, hs]
  refine Ev.step (fun k => ?_) h0
  simp only [woodcutlaw04_IdsDigits.j0, Bool.false_eq_true, if_false]
  rfl

end Go.Proofs.Ytblojnajchpemaa.Pure
