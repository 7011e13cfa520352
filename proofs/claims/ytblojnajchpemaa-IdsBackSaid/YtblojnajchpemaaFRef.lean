/- What the reference's ids functions, ids.Has and wakes compute. -/
import Derived.Test.YtblojnajchpemaaFIds
namespace Go.Proofs.Ytblojnajchpemaa.F
set_option linter.unusedVariables false
set_option linter.unusedSimpArgs false
open Go Go.RowKit Go.Proofs.Ytblojnajchpemaa.PA Go.Proofs.YtblojnajchpemaaW.PrintWords Go.Proofs.YtblojnajchpemaaW.PrintLast Go.Proofs.YtblojnajchpemaaW.PrintMore

/-- What ParseId tells. -/
def rin (r : Option Nat) : Int × Bool := match r with
  | none => (0, false)
  | some v => if v > 4611686018427387903 then (0, false) else ((v : Int), decide ((v : Int) ≥ 1))
theorem rin_big (l : List Int) (n : Nat) (h : n > 4611686018427387903) : rin (pv n l) = (0, false) := by
  cases hv : pv n l with
  | none => rfl
  | some v =>
    have := pv_ge l n v hv
    unfold rin
    simp only []
    rw [if_pos (by omega)]
theorem ref_quo (g : Nat) (hg : g < 16) : wrap64 (Int.tdiv (wrap64 (4611686018427387903 - (g : Int))) 16) = (4611686018427387903 - (g : Int)) / 16 := by
  rw [wrap_in (n := 4611686018427387903 - (g : Int)) (by omega) (by omega), Int.tdiv_eq_ediv_of_nonneg (by omega), wrap_in (by omega) (by omega)]
theorem ref_next (n g : Nat) (hg : g < 16) (h : ¬ 16 * n + g > 4611686018427387903) : wrap64 (wrap64 (16 * (n : Int)) + (g : Int)) = ((16 * n + g : Nat) : Int) := by
  rw [wrap_in (n := 16 * (n : Int)) (by omega) (by omega), wrap_in (by omega) (by omega)]
  omega
theorem ref_gt (n g : Nat) : (n : Int) > (4611686018427387903 - (g : Int)) / 16 ↔ 16 * n + g > 4611686018427387903 := by omega
/-- One letter. -/
theorem ref_step (s : ByteArray) (i n : Nat) (c : Int) (hc : bt s (i : Int) = c) (hr : 0 ≤ c ∧ c ≤ 255) (hi : i < 16) (hsz : s.size = 16) (res : Int × Bool)
    (h1 : dig c < 0 → res = (0, false)) (h2 : ∀ g : Nat, dig c = (g : Int) → 16 * n + g > 4611686018427387903 → res = (0, false))
    (h3 : ∀ g : Nat, dig c = (g : Int) → ¬ 16 * n + g > 4611686018427387903 → Ev (fun k => woodcutref01_ParseId.l0 k s ((16 * n + g : Nat) : Int) ((i + 1 : Nat) : Int)) res) :
    Ev (fun k => woodcutref01_ParseId.l0 k s (n : Int) (i : Int)) res := by
  have c1 : (i : Int) < 16 := by omega
  have c2 : (0 : Int) ≤ (i : Int) := by omega
  have c3 : (i : Int) < (s.size : Int) := by rw [hsz]; exact c1
  have hw := idx_up i 16 (by decide) hi
  -- the last cut: no letter from a to f
  have j3f : ∀ x : Int, dig c = x → -1 ≤ x → x < 16 → Ev (fun k => woodcutref01_ParseId.j3 k s (n : Int) (i : Int) x false) res := by
    intro x hx hx0 hx1
    by_cases hneg : x < 0
    · rw [h1 (by omega)]
      refine Ev.step (f := fun _ => some (0, false)) (fun k => ?_) (Ev.now _)
      simp only [woodcutref01_ParseId.j3, Bool.false_eq_true, if_false]
      rw [if_pos hneg]
    · obtain ⟨g, rfl⟩ := Int.eq_ofNat_of_zero_le (by omega : 0 ≤ x)
      have hg : g < 16 := by omega
      have hq := ref_quo g hg
      have hgt := ref_gt n g
      by_cases hbig : 16 * n + g > 4611686018427387903
      · rw [h2 g hx hbig]
        refine Ev.step (f := fun _ => some (0, false)) (fun k => ?_) (Ev.now _)
        simp only [woodcutref01_ParseId.j3, Bool.false_eq_true, if_false]
        rw [if_neg hneg, hq, if_pos (hgt.2 hbig)]
      · refine Ev.step (fun k => ?_) (h3 g hx hbig)
        simp only [woodcutref01_ParseId.j3, Bool.false_eq_true, if_false]
        rw [if_neg hneg, hq, if_neg (fun h => hbig (hgt.1 h)), ref_next n g hg hbig, hw]
  have j2 : ∀ x : Int, (97 ≤ c ∧ c ≤ 102 ∨ dig c = x ∧ -1 ≤ x ∧ x < 16) → Ev (fun k => woodcutref01_ParseId.j2 k s (n : Int) (i : Int) x) res := by
    intro x hx
    by_cases h97 : c ≥ 97
    · by_cases h102 : c ≤ 102
      · have hd : dig c = c - 87 := by unfold dig; rw [if_neg (by omega), if_pos ⟨h97, h102⟩]
        obtain ⟨g, hg⟩ := Int.eq_ofNat_of_zero_le (by omega : 0 ≤ c - 87)
        have hg16 : g < 16 := by omega
        have he : (c - 97) % 256 + 10 = (g : Int) := by omega
        have hgt := ref_gt n g
        have hn0 : ¬ (g : Int) < 0 := by omega
        have key : Ev (fun k => woodcutref01_ParseId.j3 k s (n : Int) (i : Int) x true) res := by
          by_cases hbig : 16 * n + g > 4611686018427387903
          · rw [h2 g (by omega) hbig]
            refine Ev.step (f := fun _ => some (0, false)) (fun k => ?_) (Ev.now _)
            simp only [woodcutref01_ParseId.j3, if_true]
            rw [if_pos c2, if_pos c3, hc, he, if_neg hn0, if_pos (hgt.2 hbig)]
          · refine Ev.step (fun k => ?_) (h3 g (by omega) hbig)
            simp only [woodcutref01_ParseId.j3, if_true]
            rw [if_pos c2, if_pos c3, hc, he, if_neg hn0, if_neg (fun h => hbig (hgt.1 h)), ref_next n g hg16 hbig, hw]
        refine Ev.step (fun k => ?_) key
        simp only [woodcutref01_ParseId.j2]
        rw [if_pos c2, if_pos c3, hc, if_pos h97, decide_eq_true h102]
      · have hx' : dig c = x ∧ -1 ≤ x ∧ x < 16 := by
          rcases hx with h | h
          · exact absurd h.2 h102
          · exact h
        refine Ev.step (fun k => ?_) (j3f x hx'.1 hx'.2.1 hx'.2.2)
        simp only [woodcutref01_ParseId.j2]
        rw [if_pos c2, if_pos c3, hc, if_pos h97, decide_eq_false h102]
    · have hx' : dig c = x ∧ -1 ≤ x ∧ x < 16 := by
        rcases hx with h | h
        · exact absurd h.1 h97
        · exact h
      refine Ev.step (fun k => ?_) (j3f x hx'.1 hx'.2.1 hx'.2.2)
      simp only [woodcutref01_ParseId.j2]
      rw [if_pos c2, if_pos c3, hc, if_neg h97]
  have j1 : ∀ b : Bool, (b = true ↔ 48 ≤ c ∧ c ≤ 57) → Ev (fun k => woodcutref01_ParseId.j1 k s (n : Int) (i : Int) (-1) b) res := by
    intro b hb
    by_cases h : 48 ≤ c ∧ c ≤ 57
    · have hd : dig c = c - 48 := by unfold dig; rw [if_pos h]
      have he : (c - 48) % 256 = c - 48 := by omega
      refine Ev.step (fun k => ?_) (j2 (c - 48) (.inr ⟨hd, by omega, by omega⟩))
      simp only [woodcutref01_ParseId.j1]
      rw [if_pos (hb.2 h), if_pos c2, if_pos c3, hc, he]
    · refine Ev.step (fun k => ?_) (j2 (-1) ?_)
      · simp only [woodcutref01_ParseId.j1]
        rw [if_neg (fun h' => h (hb.1 h'))]
      · by_cases h9 : 97 ≤ c ∧ c ≤ 102
        · exact .inl h9
        · exact .inr ⟨by unfold dig; rw [if_neg h, if_neg h9], by omega, by omega⟩
  by_cases h48 : c ≥ 48
  · refine Ev.step (fun k => ?_) (j1 (decide (c ≤ 57)) (by rw [decide_eq_true_eq]; omega))
    simp only [woodcutref01_ParseId.l0]
    rw [if_pos c1, if_pos c2, if_pos c3, hc, if_pos h48]
  · refine Ev.step (fun k => ?_) (j1 false (by simp; omega))
    simp only [woodcutref01_ParseId.l0]
    rw [if_pos c1, if_pos c2, if_pos c3, hc, if_neg h48]
theorem ref_loop (s : ByteArray) (hs : (bytesOf s).length = 16) : ∀ (d i : Nat), i + d = 16 → ∀ n : Nat, n ≤ 4611686018427387903 →
    Ev (fun k => woodcutref01_ParseId.l0 k s (n : Int) (i : Int)) (rin (pv n ((bytesOf s).drop i))) := by
  intro d
  have hsz : s.size = 16 := by rw [← bytesOf_length]; exact hs
  induction d with
  | zero =>
    intro i hi n hn
    obtain rfl : i = 16 := by omega
    rw [List.drop_eq_nil_of_le (by omega), pv]
    refine Ev.step (f := fun _ => some (rin (some n))) (fun k => ?_) (Ev.now _)
    simp only [woodcutref01_ParseId.l0]
    rw [if_neg (by decide)]
    unfold rin
    simp only []
    rw [if_neg (by omega)]
  | succ d ih =>
    intro i hi n hn
    have hlt : i < (bytesOf s).length := by omega
    have e1 : i + 1 + d = 16 := by omega
    rw [List.drop_eq_getElem_cons hlt, pv]
    refine ref_step s i n (bytesOf s)[i] (bt_get s i hlt) (bytes_range s _ (List.getElem_mem hlt)) (by omega) hsz _ (fun h => by rw [if_pos h]; rfl) (fun g hg hbig => ?_) (fun g hg hfit => ?_)
    · rw [if_neg (by omega), hg, Int.toNat_natCast]
      exact rin_big _ _ hbig
    · rw [if_neg (by omega), hg, Int.toNat_natCast]
      exact ih (i + 1) e1 _ (by omega)
def refparsed (l : List Int) : Int × Bool := if l.length = 16 then rin (pv 0 l) else (0, false)
theorem refparse_f (s : ByteArray) : Ev (fun k => woodcutref01_ParseId.f k s) (refparsed (bytesOf s)) := by
  unfold refparsed
  by_cases h : (bytesOf s).length = 16
  · have hsz : s.size = 16 := by rw [← bytesOf_length]; exact h
    have h1 := ref_loop s h 16 0 (by omega) 0 (by decide)
    rw [if_pos h]
    refine Ev.congr (fun k => ?_) h1
    unfold woodcutref01_ParseId.f
    rw [if_pos (by omega)]
    rfl
  · have hsz : ¬ s.size = 16 := by rw [← bytesOf_length]; exact h
    rw [if_neg h]
    refine Ev.congr (fun k => ?_) (Ev.now _)
    unfold woodcutref01_ParseId.f
    rw [if_neg (by omega)]
/-- The two agree. -/
theorem parse_agree (l : List Int) : ((refparsed l).2 = true ∧ parsed l = ((refparsed l).1, 0)) ∨ ((refparsed l).2 = false ∧ parsed l = (0, 1)) := by
  unfold refparsed parsed
  by_cases h : l.length = 16
  · rw [if_pos h, if_pos h]
    cases pv 0 l with
    | none => exact .inr ⟨rfl, rfl⟩
    | some v =>
      unfold rin fin
      simp only []
      by_cases hb : v > 4611686018427387903
      · rw [if_pos hb, if_pos (.inr hb)]
        exact .inr ⟨rfl, rfl⟩
      · rw [if_neg hb]
        by_cases h1 : v < 1
        · rw [if_pos (.inl h1)]
          exact .inr ⟨by rw [decide_eq_false_iff_not]; omega, rfl⟩
        · rw [if_neg (by omega)]
          exact .inl ⟨by rw [decide_eq_true_eq]; omega, rfl⟩
  · rw [if_neg h, if_neg h]
    exact .inr ⟨rfl, rfl⟩

/-! the reference's text -/
def DG : ByteArray := ⟨#[48, 49, 50, 51, 52, 53, 54, 55, 56, 57, 97, 98, 99, 100, 101, 102]⟩
theorem dg_extract (d : Nat) (h : d < 16) : DG.extract d (d + 1) = strOfNums [((hd d : Nat) : Int)] := by
  have : d = 0 ∨ d = 1 ∨ d = 2 ∨ d = 3 ∨ d = 4 ∨ d = 5 ∨ d = 6 ∨ d = 7 ∨ d = 8 ∨ d = 9 ∨ d = 10 ∨ d = 11 ∨ d = 12 ∨ d = 13 ∨ d = 14 ∨ d = 15 := by omega
  rcases this with rfl | rfl | rfl | rfl | rfl | rfl | rfl | rfl | rfl | rfl | rfl | rfl | rfl | rfl | rfl | rfl <;> decide +kernel
theorem str_append (a b : List Int) : strOfNums a ++ strOfNums b = strOfNums (a ++ b) := by
  apply ByteArray.ext
  simp [strOfNums]
theorem idtext_loop (n : Nat) (hn : n < 18446744073709551616) : ∀ (d i : Nat), i + d = 16 →
    n / 16 ^ i ≤ 9223372036854775807 → Ev (fun k => woodcutref01_IdText.l0 k ((n / 16 ^ i : Nat) : Int) DG (strOfNums (hx (td i n))) (i : Int)) (strOfNums (hx (td 16 n))) := by
  intro d
  induction d with
  | zero =>
    intro i hi _
    obtain rfl : i = 16 := by omega
    refine Ev.step (f := fun _ => some (strOfNums (hx (td 16 n)))) (fun k => ?_) (Ev.now _)
    simp only [woodcutref01_IdText.l0]
    rw [if_neg (by decide)]
  | succ d ih =>
    intro i hi hle
    have hlt : i < 16 := by omega
    have e1 : i + 1 + d = 16 := by omega
    have c1 : (i : Int) < 16 := by omega
    have hq : n / 16 ^ (i + 1) = n / 16 ^ i / 16 := by rw [Nat.pow_succ, ← Nat.div_div_eq_div_mul]
    obtain ⟨q, hqe⟩ : ∃ q, q = n / 16 ^ i := ⟨_, rfl⟩
    rw [← hqe] at hle hq
    have hm : Int.tmod (q : Int) 16 = ((q % 16 : Nat) : Int) := by
      rw [Int.tmod_eq_emod_of_nonneg (by omega)]; omega
    have hd16 : q % 16 < 16 := Nat.mod_lt _ (by decide)
    have hw : wrap64 (((q % 16 : Nat) : Int) + 1) = ((q % 16 + 1 : Nat) : Int) := by rw [wrap_in (by omega) (by omega)]; omega
    have hdv : wrap64 (Int.tdiv (q : Int) 16) = ((q / 16 : Nat) : Int) := by
      rw [Int.tdiv_eq_ediv_of_nonneg (by omega), wrap_in (by omega) (by omega)]; omega
    have c2 : (0 : Int) ≤ ((q % 16 : Nat) : Int) := by omega
    have c3 : ((q % 16 : Nat) : Int) ≤ ((q % 16 + 1 : Nat) : Int) := by omega
    have c4 : ((q % 16 + 1 : Nat) : Int) ≤ (DG.size : Int) := by rw [show DG.size = 16 from rfl]; omega
    have hsz : (strOfNums [((hd (q % 16) : Nat) : Int)]).size + (strOfNums (hx (td i n))).size ≤ 9223372036854775807 := by
      rw [strOfNums_size, strOfNums_size, hx_length, td_length]
      simp
      omega
    have hwi := idx_up i 16 (by decide) hlt
    have h1 := ih (i + 1) e1 (by rw [hq]; omega)
    rw [hq, td_cons, ← hqe, hx_cons] at h1
    refine Ev.step (fun k => ?_) h1
    simp only [woodcutref01_IdText.l0]
    rw [← hqe, if_pos c1, hm, hw, if_pos c2, if_pos c3, if_pos c4, Int.toNat_natCast, Int.toNat_natCast, dg_extract _ hd16, if_pos hsz, hdv, hwi, str_append]
    rfl
theorem idtext_f (n : Nat) (hn : n ≤ 4611686018427387903) : Ev (fun k => woodcutref01_IdText.f k (n : Int)) (text n) := by
  have h1 := idtext_loop n (by omega) 16 0 (by omega) (by simpa using (by omega : n ≤ 9223372036854775807))
  refine Ev.congr (fun k => ?_) h1
  unfold woodcutref01_IdText.f
  rw [Nat.pow_zero, Nat.div_one]
  rfl
theorem index_loop (l : List Int) (x : Int) (hlen : l.length ≤ 140737488355328) : ∀ (d i : Nat), i + d = l.length →
    ∃ r : Int, Ev (fun k => slices_Index_int_int.l0 k l x (l.length : Int) (i : Int)) r ∧ (0 ≤ r ↔ x ∈ l.drop i) := by
  intro d
  induction d with
  | zero =>
    intro i hi
    refine ⟨-1, Ev.step (f := fun _ => some (-1)) (fun k => ?_) (Ev.now _), ?_⟩
    · simp only [slices_Index_int_int.l0]
      rw [if_neg (by omega)]
    · rw [List.drop_eq_nil_of_le (by omega)]
      simp
  | succ d ih =>
    intro i hi
    have hlt : i < l.length := by omega
    have c1 : (i : Int) < (l.length : Int) := by omega
    have c2 : (0 : Int) ≤ (i : Int) := by omega
    have e1 : i + 1 + d = l.length := by omega
    have hw := idx_up i l.length hlen hlt
    rw [List.drop_eq_getElem_cons hlt]
    by_cases hx : x = l[i]
    · refine ⟨(i : Int), Ev.step (f := fun _ => some (i : Int)) (fun k => ?_) (Ev.now _), ?_⟩
      · simp only [slices_Index_int_int.l0]
        rw [if_pos c1, if_pos c2, if_pos c1, rd_get l i hlt, if_pos hx]
      · exact ⟨fun _ => by rw [hx]; exact List.mem_cons_self, fun _ => c2⟩
    · obtain ⟨r, h1, h2⟩ := ih (i + 1) e1
      refine ⟨r, Ev.step (fun k => ?_) h1, ?_⟩
      · simp only [slices_Index_int_int.l0]
        rw [if_pos c1, if_pos c2, if_pos c1, rd_get l i hlt, if_neg hx, hw]
      · rw [h2, List.mem_cons]
        exact ⟨.inr, fun h => h.resolve_left hx⟩
theorem has_f (l : List Int) (x : Int) (hlen : l.length ≤ 140737488355328) : Ev (fun k => ids_Has.f k l x) (decide (x ∈ l)) := by
  obtain ⟨r, h1, h2⟩ := index_loop l x hlen l.length 0 (by omega)
  rw [List.drop_zero] at h2
  have h3 : Ev (fun k => slices_Contains_int_int.f k l x) (decide (x ∈ l)) := by
    refine Ev.bind h1 (f := fun _ t => some (decide (t ≥ 0))) ?_
    have e : decide (r ≥ 0) = decide (x ∈ l) := by rw [decide_eq_decide]; exact h2
    rw [← e]
    exact Ev.now _
  exact Ev.bind h3 (Ev.now _)
theorem id_f (n : Int) : woodcutref01_Id.f n = some (decide (IsId n)) := by
  unfold woodcutref01_Id.f woodcutref01_In.f
  by_cases h : n ≥ 1
  · rw [if_pos h]
    simp only [Option.bind_some]
    congr 1
    rw [decide_eq_decide]
    unfold IsId
    omega
  · rw [if_neg h]
    simp only [Option.bind_some]
    congr 1
    symm
    rw [decide_eq_false_iff_not]
    unfold IsId
    omega
theorem ids_wakes : Ev (fun k => woodcutlaw04_wakes.f k) true :=
  Ev.of woodcutlaw04_wakes.mono (k := 40) (by kernel_rfl)
end Go.Proofs.Ytblojnajchpemaa.F
