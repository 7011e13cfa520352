/- What the printed ids functions and the reference's compute, in plain numbers and lists. -/
import Derived.Test.YtblojnajchpemaaPAx
import Derived.KernelRfl
import Derived.Laws.BitsAllLaws
namespace Go.Proofs.Ytblojnajchpemaa.F
set_option linter.unusedVariables false
set_option linter.unusedSimpArgs false
open Go Go.RowKit Go.Proofs.Ytblojnajchpemaa.PA Go.Proofs.YtblojnajchpemaaW.PrintWords Go.Proofs.YtblojnajchpemaaW.PrintLast Go.Proofs.YtblojnajchpemaaW.PrintMore

theorem wrap_in {n : Int} (h0 : -9223372036854775808 ≤ n) (h1 : n ≤ 9223372036854775807) : wrap64 n = n := by
  unfold wrap64
  omega
theorem i64_of_wf {x : Int} (h : (Lit.int .i64 x).wf = true) : -9223372036854775808 ≤ x ∧ x ≤ 9223372036854775807 := by
  simp only [Lit.wf, Bool.and_eq_true, decide_eq_true_eq] at h
  have h0 : IntKind.i64.min = -9223372036854775808 := by decide
  have h1 : IntKind.i64.max = 9223372036854775807 := by decide
  omega
theorem rd_get (l : List Int) (i : Nat) (h : i < l.length) : rd l (i : Int) = l[i] := by
  unfold rd
  rw [Int.toNat_natCast, List.getD_eq_getElem?_getD, List.getElem?_eq_getElem h]
  rfl
theorem idx_up (i n : Nat) (h : n ≤ 140737488355328) (hi : i < n) : wrap64 ((i : Int) + 1) = ((i + 1 : Nat) : Int) := by
  rw [wrap_in (by omega) (by omega)]
  omega

/-- A digit's letter. -/
def hd (d : Nat) : Nat := if d < 10 then 48 + d else 87 + d
/-- So many digits of a number, the last one behind. -/
def td : Nat → Nat → List Nat
  | 0, _ => []
  | s + 1, n => td s (n / 16) ++ [n % 16]
theorem td_length (s n : Nat) : (td s n).length = s := by
  induction s generalizing n with
  | zero => rfl
  | succ s ih => simp [td, ih]
theorem td_cons (s n : Nat) : td (s + 1) n = (n / 16 ^ s % 16) :: td s n := by
  induction s generalizing n with
  | zero => simp [td]
  | succ s ih =>
    rw [show td (s + 1 + 1) n = td (s + 1) (n / 16) ++ [n % 16] from rfl, ih, Nat.div_div_eq_div_mul, show 16 * 16 ^ s = 16 ^ (s + 1) by rw [Nat.pow_succ, Nat.mul_comm]]
    rfl
theorem td_lt (s n : Nat) : ∀ d ∈ td s n, d < 16 := by
  induction s generalizing n with
  | zero => intro d hd; cases hd
  | succ s ih =>
    intro d h
    rcases List.mem_append.1 h with h | h
    · exact ih _ d h
    · rw [List.mem_singleton.1 h]; omega
def hx (l : List Nat) : List Int := l.map fun d => ((hd d : Nat) : Int)
theorem hx_cons (d : Nat) (l : List Nat) : hx (d :: l) = ((hd d : Nat) : Int) :: hx l := rfl
theorem hx_length (l : List Nat) : (hx l).length = l.length := by simp [hx]
theorem hd_byte (d : Nat) (h : d < 16) : 0 ≤ ((hd d : Nat) : Int) ∧ ((hd d : Nat) : Int) < 256 := by
  unfold hd
  split <;> omega

theorem bt_digits (d : Nat) (h : d < 16) : bt (⟨#[48, 49, 50, 51, 52, 53, 54, 55, 56, 57, 97, 98, 99, 100, 101, 102]⟩ : ByteArray) (d : Int) = ((hd d : Nat) : Int) := by
  have : d = 0 ∨ d = 1 ∨ d = 2 ∨ d = 3 ∨ d = 4 ∨ d = 5 ∨ d = 6 ∨ d = 7 ∨ d = 8 ∨ d = 9 ∨ d = 10 ∨ d = 11 ∨ d = 12 ∨ d = 13 ∨ d = 14 ∨ d = 15 := by omega
  rcases this with rfl | rfl | rfl | rfl | rfl | rfl | rfl | rfl | rfl | rfl | rfl | rfl | rfl | rfl | rfl | rfl <;> decide +kernel
theorem and15 (a : Nat) (ha : a < 18446744073709551616) : bits .and .i64 (a : Int) 15 = ((a % 16 : Nat) : Int) := by
  show IntKind.i64.wrap ((BitVec.ofInt 64 (a : Int) &&& BitVec.ofInt 64 ((15 : Nat) : Int)).toNat : Int) = _
  rw [BitVec.toNat_and, ofInt_u64 a ha, ofInt_u64 15 (by omega), show (15 : Nat) = 2 ^ 4 - 1 from rfl, Nat.and_two_pow_sub_one_eq_mod, IntKind.wrap_i64]
  omega
theorem shr_i64 (n m : Nat) (h : m ≤ 60) : shr .i64 (n : Int) (m : Int) = ((n / 2 ^ m : Nat) : Int) := by
  unfold shr
  rw [Int.toNat_natCast, show IntKind.i64.bits = 64 from rfl, Nat.min_eq_left (by omega)]
  have : ((2 : Int) ^ m) = ((2 ^ m : Nat) : Int) := by rw [Int.natCast_pow]; rfl
  rw [this]
  rfl
theorem digit_at (n i : Nat) (hn : n < 18446744073709551616) (hi : i < 16) : Go.bits .and .i64 (shr .i64 (n : Int) (wrap64 (4 * (i : Int)))) 15 = ((n / 16 ^ i % 16 : Nat) : Int) := by
  have hw : wrap64 (4 * (i : Int)) = ((4 * i : Nat) : Int) := by rw [wrap_in (by omega) (by omega)]; omega
  rw [hw, shr_i64 _ _ (by omega), show (2 : Nat) ^ (4 * i) = 16 ^ i by rw [Nat.pow_mul]]
  exact and15 _ (Nat.lt_of_le_of_lt (Nat.div_le_self _ _) hn)
theorem set_back (m : Nat) (v : Int) (L : List Int) : (List.replicate (m + 1) (0 : Int) ++ L).set m v = List.replicate m 0 ++ v :: L := by
  rw [List.replicate_succ', List.append_assoc, List.set_append_right _ _ (by simp), List.length_replicate, Nat.sub_self]
  rfl
theorem text_loop (n : Nat) (hn : n < 18446744073709551616) : ∀ (d i : Nat), i + d = 16 →
    Ev (fun k => ids_Text.l0 k (n : Int) (List.replicate (16 - i) 0 ++ hx (td i n)) (i : Int)) (strOfNums (hx (td 16 n)), 0) := by
  intro d
  induction d with
  | zero =>
    intro i hi
    obtain rfl : i = 16 := by omega
    refine Ev.step (f := fun _ => some (strOfNums (hx (td 16 n)), 0)) (fun k => ?_) (Ev.now _)
    simp only [ids_Text.l0]
    rw [if_neg (by decide), Nat.sub_self, List.replicate_zero, List.nil_append]
  | succ d ih =>
    intro i hi
    have hlt : i < 16 := by omega
    have e1 : i + 1 + d = 16 := by omega
    have e2 : 16 - i = (15 - i) + 1 := by omega
    have e3 : 16 - (i + 1) = 15 - i := by omega
    have hlen : (List.replicate (16 - i) (0 : Int) ++ hx (td i n)).length = 16 := by rw [List.length_append, List.length_replicate, hx_length, td_length]; omega
    have c1 : (i : Int) < 16 := by omega
    have c2 : (0 : Int) ≤ ((n / 16 ^ i % 16 : Nat) : Int) := by omega
    have c3 : ((n / 16 ^ i % 16 : Nat) : Int) < 16 := by omega
    have c4 : (0 : Int) ≤ ((15 - i : Nat) : Int) := by omega
    have c5 : ((15 - i : Nat) : Int) < ((List.replicate (16 - i) (0 : Int) ++ hx (td i n)).length : Int) := by rw [hlen]; omega
    have q1 : 0 ≤ wrap64 (4 * (i : Int)) := by rw [wrap_in (by omega) (by omega)]; omega
    have q2 : wrap64 (15 - (i : Int)) = ((15 - i : Nat) : Int) := by rw [wrap_in (by omega) (by omega)]; omega
    have hd16 : n / 16 ^ i % 16 < 16 := Nat.mod_lt _ (by decide)
    have hw := idx_up i 16 (by decide) hlt
    have hdig := digit_at n i hn hlt
    have h1 := ih (i + 1) e1
    rw [td_cons, e3, hx_cons] at h1
    refine Ev.step (fun k => ?_) h1
    simp only [ids_Text.l0]
    rw [hdig, q2, if_pos c1, if_pos q1, if_pos c2, if_pos c3, if_pos c4, if_pos c5, bt_digits _ hd16, hw, Int.toNat_natCast, e2, set_back]
def IsId (n : Int) : Prop := 1 ≤ n ∧ n ≤ 4611686018427387903
instance (n : Int) : Decidable (IsId n) := by unfold IsId; infer_instance
theorem check_f (n : Int) : ids_Check.f n = some (if IsId n then 0 else 1) := by
  unfold ids_Check.f
  by_cases h1 : n < 1
  · rw [if_pos h1, if_neg (by unfold IsId; omega)]
  · by_cases h2 : n > 4611686018427387903
    · rw [if_neg h1, if_pos h2, if_neg (by unfold IsId; omega)]
    · rw [if_neg h1, if_neg h2, if_pos (by unfold IsId; omega)]
/-- An id's text. -/
def text (n : Nat) : ByteArray := strOfNums (hx (td 16 n))
theorem text_yes (n : Nat) (h : IsId (n : Int)) : Ev (fun k => ids_Text.f k (n : Int)) (text n, 0) := by
  have h1 := text_loop n (by unfold IsId at h; omega) 16 0 (by omega)
  refine Ev.congr (fun k => ?_) h1
  unfold ids_Text.f
  rw [check_f, if_pos h]
  simp [td, hx]
theorem text_no (n : Int) (h : ¬ IsId n) : Ev (fun k => ids_Text.f k n) ((⟨#[]⟩ : ByteArray), 1) := by
  refine Ev.congr (fun k => ?_) (Ev.now _)
  unfold ids_Text.f
  rw [check_f, if_neg h]
  simp

/-! the parser -/
def dig (c : Int) : Int := if 48 ≤ c ∧ c ≤ 57 then c - 48 else if 97 ≤ c ∧ c ≤ 102 then c - 87 else -1
theorem dig_range (c : Int) : -1 ≤ dig c ∧ dig c < 16 := by
  unfold dig
  split
  · omega
  · split <;> omega
theorem digit_f (c : Int) (h0 : 0 ≤ c) (h1 : c ≤ 255) : Ev (fun k => ids_digit.f k c) (dig c) := by
  have j : ∀ b : Bool, (b = true ↔ 48 ≤ c ∧ c ≤ 57) → Ev (fun k => ids_digit.j0 k c b) (dig c) := by
    intro b hb
    refine Ev.step (f := fun _ => some (dig c)) (fun k => ?_) (Ev.now _)
    simp only [ids_digit.j0]
    unfold dig
    by_cases h : 48 ≤ c ∧ c ≤ 57
    · rw [if_pos (hb.2 h), if_pos h]
      congr 1
      omega
    · rw [if_neg (fun h' => h (hb.1 h')), if_neg h]
      by_cases h97 : c ≥ 97
      · by_cases h102 : c ≤ 102
        · rw [if_pos h97, if_pos h102, if_pos ⟨h97, h102⟩]
          congr 1
          omega
        · rw [if_pos h97, if_neg h102, if_neg (by omega)]
      · rw [if_neg h97, if_neg (by omega)]
  by_cases h : c ≥ 48
  · refine Ev.congr (fun k => ?_) (j (decide (c ≤ 57)) (by rw [decide_eq_true_eq]; omega))
    unfold ids_digit.f
    rw [if_pos h]
  · refine Ev.congr (fun k => ?_) (j false (by simp; omega))
    unfold ids_digit.f
    rw [if_neg h]
/-- The number of a text's digits, from a number on; none: a letter is no digit. -/
def pv : Nat → List Int → Option Nat
  | n, [] => some n
  | n, c :: l => if dig c < 0 then none else pv (16 * n + (dig c).toNat) l
theorem pv_ge (l : List Int) (n v : Nat) (h : pv n l = some v) : n ≤ v := by
  induction l generalizing n with
  | nil => rw [pv] at h; injection h with h; omega
  | cons c l ih =>
    rw [pv] at h
    by_cases hc : dig c < 0
    · rw [if_pos hc] at h; cases h
    · rw [if_neg hc] at h
      have := ih _ h
      omega
/-- What Parse tells of a text's bytes. -/
def fin (r : Option Nat) : Int × Int := match r with
  | none => (0, 1)
  | some v => if v < 1 ∨ v > 4611686018427387903 then (0, 1) else ((v : Int), 0)
def parsed (l : List Int) : Int × Int := if l.length = 16 then fin (pv 0 l) else (0, 1)
theorem bytes_range (s : ByteArray) : ∀ c ∈ bytesOf s, 0 ≤ c ∧ c ≤ 255 := by
  intro c hc
  unfold bytesOf at hc
  obtain ⟨b, _, rfl⟩ := List.mem_map.1 hc
  have := b.toNat_lt
  omega
theorem bt_get (s : ByteArray) (i : Nat) (h : i < (bytesOf s).length) : bt s (i : Int) = (bytesOf s)[i] := by
  rw [← rd_bytesOf, rd_get _ _ h]
theorem or_digit (x d : Nat) (hx : x < 1152921504606846976) (hd : d < 16) : Go.bits .or .u64 (IntKind.u64.wrap ((x : Int) * 16)) (IntKind.u64.wrap (d : Int)) = ((16 * x + d : Nat) : Int) := by
  have h1 : IntKind.u64.wrap ((x : Int) * 16) = ((16 * x : Nat) : Int) := by rw [IntKind.wrap_u64]; omega
  have h2 : IntKind.u64.wrap (d : Int) = (d : Int) := by rw [IntKind.wrap_u64]; omega
  rw [h1, h2, u64_or_nat _ _ (by omega) (by omega)]
  have h := Nat.two_pow_add_eq_or_of_lt (i := 4) (b := d) (by omega) x
  rw [show (2 : Nat) ^ 4 = 16 from rfl] at h
  rw [h]
theorem parse_end (n : Nat) (hn : n < 18446744073709551616) : (if (n : Int) < 1 then (some ((0 : Int), (1 : Int))) else (if (n : Int) > 4611686018427387903 then (some (0, 1)) else (some (wrap64 (n : Int), 0)))) = some (fin (some n)) := by
  unfold fin
  by_cases h1 : n < 1
  · rw [if_pos (by omega)]; simp [h1]
  · by_cases h2 : n > 4611686018427387903
    · rw [if_neg (by omega), if_pos (by omega)]; simp [h2]
    · rw [if_neg (by omega), if_neg (by omega), wrap_in (by omega) (by omega)]
      simp only []
      rw [if_neg (by omega)]
theorem parse_loop (s : ByteArray) (hs : (bytesOf s).length = 16) : ∀ (d i : Nat), i + d = 16 → ∀ n : Nat, n < 16 ^ i →
    Ev (fun k => ids_Parse.l0 k s (n : Int) ((16 : Nat) : Int) (i : Int)) (fin (pv n ((bytesOf s).drop i))) := by
  intro d
  have hsz : s.size = 16 := by rw [← bytesOf_length]; exact hs
  induction d with
  | zero =>
    intro i hi n hn
    obtain rfl : i = 16 := by omega
    have hn2 : n < 18446744073709551616 := hn
    rw [List.drop_eq_nil_of_le (by omega), pv]
    refine Ev.step (f := fun _ => some (fin (some n))) (fun k => ?_) (Ev.now _)
    simp only [ids_Parse.l0]
    rw [if_neg (by omega), parse_end n hn2]
  | succ d ih =>
    intro i hi n hn
    have hlt : i < (bytesOf s).length := by omega
    have e1 : i + 1 + d = 16 := by omega
    have c1 : (i : Int) < ((16 : Nat) : Int) := by omega
    have c2 : (0 : Int) ≤ (i : Int) := by omega
    have c3 : (i : Int) < (s.size : Int) := by rw [hsz]; exact c1
    have hb := bytes_range s _ (List.getElem_mem hlt)
    have hdr := dig_range (bytesOf s)[i]
    have hdf := digit_f (bytesOf s)[i] hb.1 hb.2
    have hp15 : 16 ^ i ≤ 16 ^ 15 := Nat.pow_le_pow_right (by decide) (by omega)
    have hn60 : n < 1152921504606846976 := Nat.lt_of_lt_of_le hn hp15
    have hw := idx_up i 16 (by decide) (by omega)
    rw [List.drop_eq_getElem_cons hlt, pv]
    refine Ev.step (f := fun k => (ids_digit.f k (bytesOf s)[i]).bind fun t => if t < 0 then some (0, 1) else ids_Parse.l0 k s (Go.bits .or .u64 (IntKind.u64.wrap ((n : Int) * 16)) (IntKind.u64.wrap t)) ((16 : Nat) : Int) ((i + 1 : Nat) : Int)) (fun k => ?_) (Ev.bind hdf ?_)
    · simp only [ids_Parse.l0]
      rw [if_pos c1, if_pos c2, if_pos c3, bt_get s i hlt, hw]
    · by_cases hneg : dig (bytesOf s)[i] < 0
      · simp only [hneg, if_true]
        exact Ev.now _
      · simp only [hneg, if_false]
        obtain ⟨g, hg⟩ : ∃ g : Nat, dig (bytesOf s)[i] = (g : Int) := ⟨(dig (bytesOf s)[i]).toNat, by omega⟩
        have hg16 : g < 16 := by omega
        rw [hg, Int.toNat_natCast, or_digit n g hn60 hg16]
        exact ih (i + 1) e1 _ (by rw [Nat.pow_succ]; omega)
theorem parse_f (s : ByteArray) : Ev (fun k => ids_Parse.f k s) (parsed (bytesOf s)) := by
  unfold parsed
  by_cases h : (bytesOf s).length = 16
  · have hsz : s.size = 16 := by rw [← bytesOf_length]; exact h
    have h1 := parse_loop s h 16 0 (by omega) 0 (by decide)
    rw [if_pos h]
    refine Ev.congr (fun k => ?_) h1
    unfold ids_Parse.f
    rw [if_pos (by omega), hsz]
    rfl
  · have hsz : ¬ s.size = 16 := by rw [← bytesOf_length]; exact h
    rw [if_neg h]
    refine Ev.congr (fun k => ?_) (Ev.now _)
    unfold ids_Parse.f
    rw [if_neg (by omega)]
end Go.Proofs.Ytblojnajchpemaa.F
