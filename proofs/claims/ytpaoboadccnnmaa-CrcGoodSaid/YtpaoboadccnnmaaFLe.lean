/- What the printed le functions that write compute, in plain numbers. -/
import Derived.Test.YtpaoboadccnnmaaFGet
import Derived.Test.YtpaoboadccnnmaaPAx8
import Derived.Test.YtpaoboadccnnmaaPAx9
import Derived.Test.YtpaoboadccnnmaaPAx10
namespace Go.Proofs.Ytpaoboadccnnmaa.F
open Go Go.RowKit Go.Proofs.Ytpaoboadccnnmaa.PA Go.Proofs.YtpaoboadccnnmaaW.PrintWords Go.Proofs.YtpaoboadccnnmaaW.PrintLast Go.Proofs.YtpaoboadccnnmaaW.PrintMore

/-- So many bytes of a number, the least one first. -/
def digs : Nat → Nat → List Int
  | 0, _ => []
  | s + 1, n => ((n % 256 : Nat) : Int) :: digs s (n / 256)
theorem digs_length (s n : Nat) : (digs s n).length = s := by
  induction s generalizing n with
  | zero => rfl
  | succ s ih => simp [digs, ih]
theorem digs_snoc (s n : Nat) : digs (s + 1) n = digs s n ++ [((n / 256 ^ s % 256 : Nat) : Int)] := by
  induction s generalizing n with
  | zero => simp [digs]
  | succ s ih =>
    have h := ih (n / 256)
    rw [show digs (s + 1 + 1) n = ((n % 256 : Nat) : Int) :: digs (s + 1) (n / 256) from rfl, h, Nat.div_div_eq_div_mul, show 256 * 256 ^ s = 256 ^ (s + 1) by rw [Nat.pow_succ, Nat.mul_comm]]
    rfl
theorem digs_byt (s n : Nat) : Byt (digs s n) := by
  induction s generalizing n with
  | zero => intro x hx; cases hx
  | succ s ih =>
    intro x hx
    rcases List.mem_cons.1 hx with rfl | hx
    · omega
    · exact ih _ x hx
theorem nats_cons (x : Int) (l : List Int) : nats (x :: l) = x.toNat :: nats l := rfl
theorem bv_cons (x : Nat) (l : List Nat) : bv (x :: l) = x + 256 * bv l := by
  have h := bv_drop (x :: l) 0 (by simp)
  simpa using h
theorem bv_digs (s n : Nat) (h : n < 256 ^ s) : bv (nats (digs s n)) = n := by
  induction s generalizing n with
  | zero =>
    have : n = 0 := by simpa using h
    subst this
    exact bv_nil
  | succ s ih =>
    rw [digs, nats_cons, bv_cons, ih (n / 256) (by rw [Nat.pow_succ] at h; omega)]
    omega
/-- What is put. -/
def putl (l : List Int) (a s n : Nat) : List Int := l.take a ++ digs s n ++ l.drop (a + s)
theorem putl_length (l : List Int) (a s n : Nat) (h : a + s ≤ l.length) : (putl l a s n).length = l.length := by
  simp [putl, digs_length]
  omega
theorem putl_set (l : List Int) (a s n : Nat) (h : a + s < l.length) : (putl l a s n).set (a + s) ((n / 256 ^ s % 256 : Nat) : Int) = putl l a (s + 1) n := by
  unfold putl
  have h1 : (l.take a ++ digs s n).length = a + s := by simp [digs_length]; omega
  rw [List.set_append_right _ _ (by omega), h1, Nat.sub_self, List.drop_eq_getElem_cons h, List.set_cons_zero, digs_snoc, show a + (s + 1) = a + s + 1 by omega]
  simp
theorem shr_i64 (n m : Nat) (h : m ≤ 56) : shr .i64 (n : Int) (m : Int) % 256 = ((n / 2 ^ m % 256 : Nat) : Int) := by
  unfold shr
  rw [Int.toNat_natCast, show IntKind.i64.bits = 64 from rfl, Nat.min_eq_left (by omega)]
  have : ((2 : Int) ^ m) = ((2 ^ m : Nat) : Int) := by rw [Int.natCast_pow]; rfl
  rw [this]
  rfl
theorem set_loop (l : List Int) (hlen : l.length ≤ 140737488355328) (a s n : Nat) (hs : s ≤ 8) (h : a + s ≤ l.length) : ∀ (d i : Nat), i + d = s →
    Ev (fun k => le_Set.l0 k (putl l a i n) (a : Int) (n : Int) (s : Int) (i : Int)) (putl l a s n) := by
  intro d
  induction d with
  | zero =>
    intro i hi
    obtain rfl : i = s := by omega
    refine Ev.step (f := fun _ => some (putl l a i n)) (fun k => ?_) (Ev.now _)
    simp only [le_Set.l0]
    rw [if_neg (by omega)]
  | succ d ih =>
    intro i hi
    have hlt : a + i < l.length := by omega
    have hw : wrap64 ((i : Int) + 1) = ((i + 1 : Nat) : Int) := idx_up i s (by omega) (by omega)
    have hw2 : wrap64 ((a : Int) + (i : Int)) = ((a + i : Nat) : Int) := by rw [wrap_in (by omega) (by omega)]; omega
    have hw3 : wrap64 (8 * (i : Int)) = ((8 * i : Nat) : Int) := by rw [wrap_in (by omega) (by omega)]; omega
    have g0 : (i : Int) < (s : Int) := by omega
    have g1 : 0 ≤ ((8 * i : Nat) : Int) := by omega
    have g2 : 0 ≤ ((a + i : Nat) : Int) := by omega
    have g3 : ((a + i : Nat) : Int) < ((putl l a i n).length : Int) := by rw [putl_length l a i n (by omega)]; omega
    have hs := shr_i64 n (8 * i) (by omega)
    rw [show (2 : Nat) ^ (8 * i) = 256 ^ i by rw [Nat.pow_mul]] at hs
    refine Ev.step (fun k => ?_) (ih (i + 1) (by omega))
    simp only [le_Set.l0]
    rw [hw, hw2, hw3, if_pos g0, if_pos g1, if_pos g2, if_pos g3, hs, Int.toNat_natCast, putl_set l a i n hlt]
theorem set_f (l : List Int) (hlen : l.length ≤ 140737488355328) (a s n : Nat) (hs : s ≤ 8) (h : a + s ≤ l.length) :
    Ev (fun k => le_Set.f k l (a : Int) (s : Int) (n : Int)) (putl l a s n) := by
  have h1 := set_loop l hlen a s n hs h s 0 (by omega)
  have e : putl l a 0 n = l := by simp [putl, digs]
  rw [e] at h1
  exact Ev.congr (fun k => rfl) h1
/-- Does a number fit? -/
def Fits (s n : Int) : Prop := 0 ≤ n ∧ n ≤ 4611686018427387903 ∧ (s = 8 ∨ s = 1 ∧ n < 256 ∨ s = 2 ∧ n < 65536 ∨ s = 4 ∧ n < 4294967296)
instance (s n : Int) : Decidable (Fits s n) := by unfold Fits; infer_instance
theorem fits_f (n s : Int) (hs : Right s) : le_fits.f n s = some (decide (Fits s n)) := by
  unfold le_fits.f
  by_cases h0 : n ≥ 0
  · by_cases h1 : n ≤ 4611686018427387903
    · rw [if_pos h0, if_pos h1]
      rcases hs with rfl | rfl | rfl | rfl
      · rw [if_neg (by decide), if_pos (by decide +kernel), show shl .i64 1 (wrap64 (8 * 1)) = 256 by decide +kernel]
        congr 1
        rw [decide_eq_decide]
        unfold Fits
        omega
      · rw [if_neg (by decide), if_pos (by decide +kernel), show shl .i64 1 (wrap64 (8 * 2)) = 65536 by decide +kernel]
        congr 1
        rw [decide_eq_decide]
        unfold Fits
        omega
      · rw [if_neg (by decide), if_pos (by decide +kernel), show shl .i64 1 (wrap64 (8 * 4)) = 4294967296 by decide +kernel]
        congr 1
        rw [decide_eq_decide]
        unfold Fits
        omega
      · rw [if_pos rfl]
        congr 1
        symm
        rw [decide_eq_true_eq]
        unfold Fits
        omega
    · rw [if_pos h0, if_neg h1]
      congr 1
      symm
      rw [decide_eq_false_iff_not]
      unfold Fits
      omega
  · rw [if_neg h0]
    congr 1
    symm
    rw [decide_eq_false_iff_not]
    unfold Fits
    omega
/-- What Put tells. -/
def put (l : List Int) (at_ s n : Int) : List Int × Int :=
  if Right s ∧ Fits s n then (if 0 ≤ at_ ∧ at_ + s ≤ l.length then (putl l at_.toNat s.toNat n.toNat, 0) else ([], 3)) else ([], 1)
theorem put_f (l : List Int) (hlen : l.length < 140737488355328) (at_ s n : Int) : Ev (fun k => le_Put.f k l at_ s n) (put l at_ s n) := by
  unfold put
  by_cases hr : Right s
  · by_cases hf : Fits s n
    · rw [if_pos ⟨hr, hf⟩]
      have hn : 0 ≤ n := hf.1
      by_cases hp : 0 ≤ at_ ∧ at_ + s ≤ l.length
      · rw [if_pos hp]
        obtain ⟨a, rfl⟩ := Int.eq_ofNat_of_zero_le hp.1
        obtain ⟨m, rfl⟩ := Int.eq_ofNat_of_zero_le hn
        obtain ⟨z, rfl⟩ : ∃ z : Nat, s = (z : Int) := ⟨s.toNat, by unfold Right at hr; omega⟩
        have hz : z ≤ 8 := by unfold Right at hr; omega
        have h1 := set_f l (by omega) a z m hz (by omega)
        have h2 : Ev (fun k => le_Put.j0 k l (a : Int) (z : Int) (m : Int) false) (putl l a z m, 0) := by
          refine Ev.step (f := fun k => (le_Set.f k l (a : Int) (z : Int) (m : Int)).bind fun t => some (t, 0)) (fun k => ?_) (Ev.bind h1 (Ev.now _))
          simp only [le_Put.j0, Bool.false_eq_true, if_false]
          rw [within_f l _ _ (by omega) hr, decide_eq_true hp]
          simp only [Option.bind_some, if_true, slices_Clone_byte_byte.f, hlen]
        refine Ev.congr (fun k => ?_) h2
        unfold le_Put.f
        rw [right_f, fits_f _ _ hr, decide_eq_true hr, decide_eq_true hf]
        rfl
      · rw [if_neg hp]
        have h2 : Ev (fun k => le_Put.j0 k l at_ s n false) (([] : List Int), (3 : Int)) := by
          refine Ev.step (f := fun _ => some (([] : List Int), (3 : Int))) (fun k => ?_) (Ev.now _)
          simp only [le_Put.j0, Bool.false_eq_true, if_false]
          rw [within_f l _ _ (by omega) hr, decide_eq_false hp]
          simp only [Option.bind_some, Bool.false_eq_true, if_false]
        refine Ev.congr (fun k => ?_) h2
        unfold le_Put.f
        rw [right_f, fits_f _ _ hr, decide_eq_true hr, decide_eq_true hf]
        rfl
    · rw [if_neg (fun h => hf h.2)]
      have h2 : Ev (fun k => le_Put.j0 k l at_ s n true) (([] : List Int), (1 : Int)) := by
        refine Ev.step (f := fun _ => some (([] : List Int), (1 : Int))) (fun k => ?_) (Ev.now _)
        simp only [le_Put.j0, if_true]
      refine Ev.congr (fun k => ?_) h2
      unfold le_Put.f
      rw [right_f, fits_f _ _ hr, decide_eq_true hr, decide_eq_false hf]
      rfl
  · rw [if_neg (fun h => hr h.1)]
    have h2 : Ev (fun k => le_Put.j0 k l at_ s n true) (([] : List Int), (1 : Int)) := by
      refine Ev.step (f := fun _ => some (([] : List Int), (1 : Int))) (fun k => ?_) (Ev.now _)
      simp only [le_Put.j0, if_true]
    refine Ev.congr (fun k => ?_) h2
    unfold le_Put.f
    rw [right_f, decide_eq_false hr]
    rfl
/-- All bytes of a part are 0. -/
def Zs (l : List Int) (f t : Int) : Prop := ∀ i : Nat, f ≤ i → (i : Int) < t → i < l.length → l.getD i 0 = 0
theorem mn_lt (i : Nat) (t : Int) (n : Nat) : (i : Int) < mn t (n : Int) ↔ (i : Int) < t ∧ i < n := by
  unfold mn
  split <;> omega
theorem zeros_loop (l : List Int) (hlen : l.length ≤ 140737488355328) (t : Int) : ∀ (d i : Nat), l.length ≤ i + d →
    (Zs l i t → Ev (fun k => le_Zeros.l0 k l t (i : Int)) true) ∧ (¬ Zs l i t → Ev (fun k => le_Zeros.l0 k l t (i : Int)) false) := by
  have stop : ∀ i : Nat, ¬ ((i : Int) < t ∧ i < l.length) → (Zs l i t → Ev (fun k => le_Zeros.l0 k l t (i : Int)) true) ∧ (¬ Zs l i t → Ev (fun k => le_Zeros.l0 k l t (i : Int)) false) := by
    intro i hi
    refine ⟨fun _ => Ev.step (f := fun _ => some true) (fun k => ?_) (Ev.now _), fun hz => absurd (fun j h1 h2 h3 => ?_) hz⟩
    · simp only [le_Zeros.l0]
      rw [if_neg (fun h => hi ((mn_lt i t l.length).1 h))]
    · exact absurd ⟨by omega, by omega⟩ hi
  intro d
  induction d with
  | zero => intro i hi; exact stop i (by omega)
  | succ d ih =>
    intro i hi
    by_cases hc : (i : Int) < t ∧ i < l.length
    · obtain ⟨h1, h2⟩ := ih (i + 1) (by omega)
      have hg : l.getD i 0 = rd l (i : Int) := by unfold rd; rw [Int.toNat_natCast]
      have hw := idx_up i l.length hlen hc.2
      have c1 := (mn_lt i t l.length).2 hc
      have c2 : 0 ≤ (i : Int) := by omega
      have c3 : (i : Int) < (l.length : Int) := by omega
      by_cases hx : rd l (i : Int) = 0
      · have hiff : Zs l i t ↔ Zs l ((i + 1 : Nat) : Int) t := by
          constructor
          · intro h j g1 g2 g3
            exact h j (by omega) g2 g3
          · intro h j g1 g2 g3
            by_cases e : j = i
            · subst e; rw [hg]; exact hx
            · exact h j (by omega) g2 g3
        have hstep : ∀ k, le_Zeros.l0 (k + 1) l t (i : Int) = le_Zeros.l0 k l t ((i + 1 : Nat) : Int) := fun k => by
          simp only [le_Zeros.l0]
          rw [if_pos c1, if_pos c2, if_pos c3, if_pos hx, hw]
        exact ⟨fun h => Ev.step hstep (h1 (hiff.1 h)), fun h => Ev.step hstep (h2 (fun h' => h (hiff.2 h')))⟩
      · refine ⟨fun h => absurd ((hg.symm.trans (h i (by omega) hc.1 hc.2))) hx, fun _ => Ev.step (f := fun _ => some false) (fun k => ?_) (Ev.now _)⟩
        simp only [le_Zeros.l0]
        rw [if_pos c1, if_pos c2, if_pos c3, if_neg hx]
    · exact stop i hc
theorem zs_max (l : List Int) (f t : Int) : Zs l f t ↔ Zs l (f.toNat : Int) t := by
  constructor
  · intro h i h1 h2 h3
    exact h i (by omega) h2 h3
  · intro h i h1 h2 h3
    exact h i (by omega) h2 h3
theorem mx_zero (f : Int) : mx f 0 = (f.toNat : Int) := by
  unfold mx
  split <;> omega
theorem zeros_yes (l : List Int) (hlen : l.length ≤ 140737488355328) (f t : Int) (h : Zs l f t) : Ev (fun k => le_Zeros.f k l f t) true := by
  have h1 := (zeros_loop l hlen t l.length f.toNat (by omega)).1 ((zs_max l f t).1 h)
  refine Ev.congr (fun k => ?_) h1
  unfold le_Zeros.f
  rw [mx_zero]
theorem zeros_no (l : List Int) (hlen : l.length ≤ 140737488355328) (f t : Int) (h : ¬ Zs l f t) : Ev (fun k => le_Zeros.f k l f t) false := by
  have h1 := (zeros_loop l hlen t l.length f.toNat (by omega)).2 (fun h' => h ((zs_max l f t).2 h'))
  refine Ev.congr (fun k => ?_) h1
  unfold le_Zeros.f
  rw [mx_zero]
theorem le_wakes : Ev (fun k => woodcutlaw01_wakes.f k) true :=
  Ev.of woodcutlaw01_wakes.mono (k := 40) (by kernel_rfl)
end Go.Proofs.Ytpaoboadccnnmaa.F
