/- What the printed le and reference functions that read compute, in plain numbers. -/
import Derived.Test.YtpaoboadccnnmaaFCrc
import Derived.Test.YtpaoboadccnnmaaPAx3
import Derived.Test.YtpaoboadccnnmaaPAx4
import Derived.KernelRfl
namespace Go.Proofs.Ytpaoboadccnnmaa.F
open Go Go.RowKit Go.Proofs.Ytpaoboadccnnmaa.PA Go.Proofs.YtpaoboadccnnmaaW.PrintWords Go.Proofs.YtpaoboadccnnmaaW.PrintLast Go.Proofs.YtpaoboadccnnmaaW.PrintMore
open Go.Proofs.Ytpaoboadccnnmaa.MC (more)

/-- The number of bytes, the least one first. -/
def bv : List Nat → Nat
  | [] => 0
  | x :: l => x + 256 * bv l
theorem bv_append (a b : List Nat) : bv (a ++ b) = bv a + 256 ^ a.length * bv b := by
  induction a with
  | nil => simp [bv]
  | cons x a ih =>
    simp only [List.cons_append, bv, ih, List.length_cons, Nat.pow_succ, Nat.mul_add, Nat.mul_comm (256 ^ a.length) 256, Nat.mul_assoc, Nat.add_assoc]
theorem bv_lt (l : List Nat) (h : ∀ x ∈ l, x < 256) : bv l < 256 ^ l.length := by
  induction l with
  | nil => simp [bv]
  | cons x l ih =>
    have hx := h x List.mem_cons_self
    have h1 := ih (fun y hy => h y (List.mem_cons_of_mem _ hy))
    simp only [bv, List.length_cons, Nat.pow_succ]
    omega
theorem bv_take_succ (l : List Nat) (i : Nat) (h : i < l.length) : bv (l.take (i + 1)) = bv (l.take i) + 256 ^ i * l[i] := by
  rw [List.take_succ_eq_append_getElem h, bv_append]
  simp [bv, List.length_take, Nat.min_eq_left (Nat.le_of_lt h)]
theorem bv_drop (l : List Nat) (i : Nat) (h : i < l.length) : bv (l.drop i) = l[i] + 256 * bv (l.drop (i + 1)) := by
  rw [List.drop_eq_getElem_cons h]
  rfl
theorem bv_drop_le (l : List Nat) (i : Nat) : bv (l.drop i) ≤ bv l := by
  have h : bv l = bv (l.take i) + 256 ^ (l.take i).length * bv (l.drop i) := by
    rw [← bv_append, List.take_append_drop]
  have := Nat.le_mul_of_pos_left (bv (l.drop i)) (Nat.pow_pos (n := (l.take i).length) (show 0 < 256 by decide))
  omega
theorem bv_le (l : List Nat) (h : ∀ x ∈ l, x < 256) : bv l = MC.le l := by
  induction l with
  | nil => rfl
  | cons x l ih =>
    have hx : x < 2 ^ 8 := h x List.mem_cons_self
    rw [bv, MC.le, ih (fun y hy => h y (List.mem_cons_of_mem _ hy))]
    have h1 := Nat.two_pow_add_eq_or_of_lt hx (MC.le l)
    have h2 : (x ^^^ 2 ^ 8 * MC.le l) = 2 ^ 8 * MC.le l + x := by
      apply Nat.eq_of_testBit_eq
      intro j
      rw [h1, Nat.testBit_xor, Nat.testBit_or]
      by_cases hj : j < 8
      · have h8 : decide (j ≥ 8) = false := by simp; omega
        rw [Nat.testBit_two_pow_mul, h8]
        simp
      · rw [Nat.testBit_lt_two_pow (x := x) (Nat.lt_of_lt_of_le hx (Nat.pow_le_pow_right (by decide) (by omega)))]
        simp
    rw [show (256 : Nat) = 2 ^ 8 from rfl, h2]
    omega
theorem bv_nil : bv [] = 0 := rfl
attribute [irreducible] bv

theorem or_u64 (m acc b : Nat) (hm : m ≤ 56) (ha : acc < 2 ^ m) (hb : b < 256) :
    bits .or .u64 (acc : Int) (shl .u64 (IntKind.u64.wrap (b : Int)) (m : Int)) = ((acc + 2 ^ m * b : Nat) : Int) := by
  have hp : 2 ^ m ≤ 2 ^ 56 := Nat.pow_le_pow_right (by decide) hm
  have h1 : IntKind.u64.wrap (b : Int) = (b : Int) := by
    rw [IntKind.wrap_u64]
    omega
  have hlt : 2 ^ m * b < 18446744073709551616 := by
    have h3 : 2 ^ m * b ≤ 2 ^ 56 * 255 := Nat.mul_le_mul hp (by omega)
    omega
  have hc : (b : Int) * 2 ^ m = ((2 ^ m * b : Nat) : Int) := by
    rw [Int.natCast_mul, Int.natCast_pow, Int.mul_comm]
    rfl
  have h2 : shl .u64 (IntKind.u64.wrap (b : Int)) (m : Int) = ((2 ^ m * b : Nat) : Int) := by
    unfold shl
    rw [h1, Int.toNat_natCast, show IntKind.u64.bits = 64 from rfl, Nat.min_eq_left (by omega : m ≤ 64), hc, IntKind.wrap_u64]
    omega
  rw [h2, u64_or_nat _ _ (by omega) hlt]
  have h4 := Nat.two_pow_add_eq_or_of_lt ha b
  rw [Nat.or_comm, ← h4, Nat.add_comm]

/-- Is a size one? -/
def Right (s : Int) : Prop := s = 1 ∨ s = 2 ∨ s = 4 ∨ s = 8
instance (s : Int) : Decidable (Right s) := by unfold Right; infer_instance
theorem right_f (s : Int) : le_right.f s = some (decide (Right s)) := by
  unfold le_right.f Right
  by_cases h1 : s = 1
  · simp [h1]
  · by_cases h2 : s = 2
    · simp [h2]
    · by_cases h4 : s = 4
      · simp [h4]
      · rw [if_neg h1, if_neg h2, if_neg h4]
        congr 1
        rw [Bool.eq_iff_iff]
        simp [h1, h2, h4]
theorem within_f (l : List Int) (at_ s : Int) (hl : l.length ≤ 140737488355328) (hs : Right s) : le_within.f l at_ s = some (decide (0 ≤ at_ ∧ at_ + s ≤ l.length)) := by
  unfold le_within.f
  have hw : wrap64 ((l.length : Int) - s) = (l.length : Int) - s := by
    rcases hs with rfl | rfl | rfl | rfl <;> exact wrap_in (by omega) (by omega)
  rw [hw]
  by_cases h : at_ ≥ 0
  · rw [if_pos h]
    congr 1
    rw [decide_eq_decide]
    omega
  · rw [if_neg h]
    congr 1
    simp
    omega
/-- The bytes of a place. -/
def seg (l : List Int) (at_ s : Int) : List Nat := ((nats l).drop at_.toNat).take s.toNat
/-- What Get tells. -/
def got (l : List Int) (at_ s : Int) : Int × Int :=
  if Right s then (if 0 ≤ at_ ∧ at_ + s ≤ l.length then (if bv (seg l at_ s) > 4611686018427387903 then (0, 1) else ((bv (seg l at_ s) : Int), 0)) else (0, 3)) else (0, 1)
theorem nats_length (l : List Int) : (nats l).length = l.length := by simp [nats]
theorem get_loop (l : List Int) (hl : Byt l) (hlen : l.length ≤ 140737488355328) (a s : Nat) (hs : s ≤ 8) (h : a + s ≤ l.length) : ∀ (d i : Nat), i + d = s →
    Ev (fun k => le_Get.l0 k l (a : Int) ((bv (((nats l).drop a).take i) : Nat) : Int) (s : Int) (i : Int)) (if bv (((nats l).drop a).take s) > 4611686018427387903 then (0, 1) else ((bv (((nats l).drop a).take s) : Int), 0)) := by
  intro d
  induction d with
  | zero =>
    intro i hi
    obtain rfl : i = s := by omega
    refine Ev.step (f := fun _ => some (if bv (((nats l).drop a).take i) > 4611686018427387903 then ((0 : Int), (1 : Int)) else ((bv (((nats l).drop a).take i) : Int), 0))) (fun k => ?_) (Ev.now _)
    simp only [le_Get.l0]
    rw [if_neg (by omega)]
    by_cases hm : bv (((nats l).drop a).take i) > 4611686018427387903
    · rw [if_pos hm, if_pos (by omega)]
    · rw [if_neg hm, if_neg (by omega), wrap_in (by omega) (by omega)]
  | succ d ih =>
    intro i hi
    have hlt : a + i < l.length := by omega
    have hw : wrap64 ((i : Int) + 1) = ((i + 1 : Nat) : Int) := by rw [wrap_in (by omega) (by omega)]; omega
    have hw2 : wrap64 ((a : Int) + (i : Int)) = ((a + i : Nat) : Int) := by rw [wrap_in (by omega) (by omega)]; omega
    have hw3 : wrap64 (8 * (i : Int)) = ((8 * i : Nat) : Int) := by rw [wrap_in (by omega) (by omega)]; omega
    have g1 : (i : Int) < (s : Int) := by omega
    have g2 : 0 ≤ ((a + i : Nat) : Int) := by omega
    have g3 : ((a + i : Nat) : Int) < (l.length : Int) := by omega
    have g4 : 0 ≤ ((8 * i : Nat) : Int) := by omega
    have g5 : 8 * i ≤ 56 := by omega
    have g6 := ih (i + 1) (by omega)
    have hb := hl l[a + i] (List.getElem_mem hlt)
    obtain ⟨c, hc⟩ : ∃ c : Nat, l[a + i] = (c : Int) := ⟨l[a + i].toNat, by omega⟩
    have hc2 : c < 256 := by omega
    have hd : i < ((nats l).drop a).length := by rw [List.length_drop, nats_length]; omega
    have hce : ((nats l).drop a)[i] = c := by simp [nats, hc]
    have hv := bv_take_succ ((nats l).drop a) i hd
    have hbl := bv_lt (((nats l).drop a).take i) (fun x hx => nats_lt hl x (List.mem_of_mem_drop (List.mem_of_mem_take hx)))
    have hle : 256 ^ (((nats l).drop a).take i).length = 2 ^ (8 * i) := by
      rw [List.length_take, Nat.min_eq_left (Nat.le_of_lt hd), Nat.pow_mul]
    have hpe : (256 : Nat) ^ i = 2 ^ (8 * i) := by rw [Nat.pow_mul]
    rw [hle] at hbl
    rw [hce, hpe] at hv
    refine Ev.step (fun k => ?_) g6
    simp only [le_Get.l0]
    rw [hw, hw2, hw3, if_pos g1, if_pos g2, if_pos g3, if_pos g4, rd_get l (a + i) hlt, hc, or_u64 (8 * i) _ c g5 hbl hc2, ← hv]
theorem get (l : List Int) (hl : Byt l) (hlen : l.length ≤ 140737488355328) (at_ s : Int) : Ev (fun k => le_Get.f k l at_ s) (got l at_ s) := by
  unfold got
  by_cases hr : Right s
  · rw [if_pos hr]
    by_cases hp : 0 ≤ at_ ∧ at_ + s ≤ l.length
    · rw [if_pos hp]
      obtain ⟨a, rfl⟩ := Int.eq_ofNat_of_zero_le hp.1
      obtain ⟨n, rfl⟩ : ∃ n : Nat, s = (n : Int) := ⟨s.toNat, by unfold Right at hr; omega⟩
      have hn : n ≤ 8 := by unfold Right at hr; omega
      have h := get_loop l hl hlen a n hn (by omega) n 0 (by omega)
      refine Ev.congr (fun k => ?_) h
      unfold le_Get.f
      rw [right_f, within_f l _ _ hlen hr]
      simp [hr, hp, bv_nil]
    · rw [if_neg hp]
      refine Ev.congr (fun k => ?_) (Ev.now _)
      unfold le_Get.f
      rw [right_f, within_f l _ _ hlen hr]
      simp only [decide_eq_true hr, decide_eq_false hp, Option.bind_some, if_true, Bool.false_eq_true, if_false]
  · rw [if_neg hr]
    refine Ev.congr (fun k => ?_) (Ev.now _)
    unfold le_Get.f
    rw [right_f]
    simp only [decide_eq_false hr, Option.bind_some, Bool.false_eq_true, if_false]

theorem num_sub (c : Nat) (hc : c < 256) : wrap64 (Int.tdiv (wrap64 (4611686018427387903 - (wrap64 (c : Int)))) 256) = (4611686018427387903 - (c : Int)) / 256 := by
  rw [wrap_in (n := (c : Int)) (by omega) (by omega), wrap_in (n := 4611686018427387903 - (c : Int)) (by omega) (by omega), Int.tdiv_eq_ediv_of_nonneg (by omega), wrap_in (by omega) (by omega)]
theorem num_add (V c : Nat) (hc : c < 256) (h : ¬ 256 * V + c > 4611686018427387903) : wrap64 (wrap64 (256 * (V : Int)) + wrap64 (c : Int)) = ((c + 256 * V : Nat) : Int) := by
  rw [wrap_in (n := (c : Int)) (by omega) (by omega), wrap_in (n := 256 * (V : Int)) (by omega) (by omega), wrap_in (by omega) (by omega)]
  omega
theorem num_big (V c : Nat) (h : 256 * V + c > 4611686018427387903) : (V : Int) > (4611686018427387903 - (c : Int)) / 256 := by omega
theorem num_fits (V c : Nat) (h : ¬ 256 * V + c > 4611686018427387903) : ¬ (V : Int) > (4611686018427387903 - (c : Int)) / 256 := by omega
theorem idx_up (i n : Nat) (h : n ≤ 140737488355328) (hi : i < n) : wrap64 ((i : Int) + 1) = ((i + 1 : Nat) : Int) := by
  rw [wrap_in (by omega) (by omega)]
  omega
theorem idx_down (i n : Nat) (h : n ≤ 140737488355328) (hi : i < n) : wrap64 ((i : Int) - 1) = (i : Int) - 1 := wrap_in (by omega) (by omega)
theorem number_loop (l : List Int) (hl : Byt l) (hlen : l.length ≤ 140737488355328) : ∀ (i : Nat), i ≤ l.length → bv ((nats l).drop i) ≤ 4611686018427387903 →
    Ev (fun k => woodcutref01_Number.l0 k l ((bv ((nats l).drop i) : Nat) : Int) ((i : Int) - 1)) (if bv (nats l) > 4611686018427387903 then (0, false) else ((bv (nats l) : Int), true)) := by
  intro i
  induction i with
  | zero =>
    intro _ hle
    rw [List.drop_zero] at hle ⊢
    refine Ev.step (f := fun _ => some (if bv (nats l) > 4611686018427387903 then ((0 : Int), false) else ((bv (nats l) : Int), true))) (fun k => ?_) (Ev.now _)
    simp only [woodcutref01_Number.l0]
    rw [if_neg (by omega), if_neg (by omega)]
  | succ i ih =>
    intro hi hle
    have hlt : i < l.length := by omega
    have g1 : (i : Int) ≥ 0 := by omega
    have g2 : (i : Int) < (l.length : Int) := by omega
    have hidx : ((i + 1 : Nat) : Int) - 1 = (i : Int) := by omega
    have hw4 := idx_down i l.length hlen hlt
    have hb := hl l[i] (List.getElem_mem hlt)
    obtain ⟨c, hc⟩ : ∃ c : Nat, l[i] = (c : Int) := ⟨l[i].toNat, by omega⟩
    have hc2 : c < 256 := by omega
    have hlt2 : i < (nats l).length := by rw [nats_length]; exact hlt
    have hce : (nats l)[i] = c := by simp [nats, hc]
    have hv := bv_drop (nats l) i hlt2
    rw [hce] at hv
    have hmono := bv_drop_le (nats l) i
    have hs := num_sub c hc2
    revert hle
    generalize bv ((nats l).drop (i + 1)) = V at hv
    intro hle
    by_cases hbig : 256 * V + c > 4611686018427387903
    · have hbig2 := num_big V c hbig
      have hall : bv (nats l) > 4611686018427387903 := by rw [hv] at hmono; clear hs hw4 hv ih hce hc; omega
      rw [if_pos hall]
      refine Ev.step (f := fun _ => some ((0 : Int), false)) (fun k => ?_) (Ev.now _)
      simp only [woodcutref01_Number.l0]
      rw [hidx, if_pos g1, if_pos g1, if_pos g2, rd_get l i hlt, hc, hs, if_pos hbig2]
    · have hfit := num_fits V c hbig
      have hadd := num_add V c hc2 hbig
      have h1 := ih (Nat.le_of_lt hlt) (by rw [hv]; clear hs hw4 hv ih hce hc hadd; omega)
      rw [hv] at h1
      refine Ev.step (fun k => ?_) h1
      simp only [woodcutref01_Number.l0]
      rw [hidx, if_pos g1, if_pos g1, if_pos g2, rd_get l i hlt, hc, hs, if_neg hfit, hadd, hw4]
theorem number (l : List Int) (hl : Byt l) (hlen : l.length ≤ 140737488355328) :
    Ev (fun k => woodcutref01_Number.f k l) (if bv (nats l) > 4611686018427387903 then (0, false) else ((bv (nats l) : Int), true)) := by
  have hd : (nats l).drop l.length = [] := List.drop_eq_nil_of_le (by rw [nats_length]; omega)
  have h := number_loop l hl hlen l.length (Nat.le_refl _) (by rw [hd, bv_nil]; decide)
  rw [hd] at h
  rw [bv_nil] at h
  refine Ev.congr (fun k => ?_) h
  unfold woodcutref01_Number.f
  rw [wrap_in (by omega) (by omega)]
  rfl
theorem nats_drop (l : List Int) (n : Nat) : nats (l.drop n) = (nats l).drop n := by simp [nats, List.map_drop]
theorem four_lt (l : List Nat) (h : ∀ x ∈ l, x < 256) (hn : l.length ≤ 4) : bv l < 4294967296 := by
  have h1 := bv_lt l h
  have h2 : 256 ^ l.length ≤ 256 ^ 4 := Nat.pow_le_pow_right (by decide) hn
  omega
theorem get4 (l : List Int) (hl : Byt l) (hlen : l.length ≤ 140737488355328) (a : Nat) (h : a + 4 ≤ l.length) :
    Ev (fun k => woodcutref01_Get4.f k l (a : Int)) ((bv (((nats l).drop a).take 4) : Nat) : Int) := by
  have hs : (l.take (a + 4)).drop a = (l.drop a).take 4 := by rw [List.drop_take]; congr 1; omega
  have hb : Byt ((l.drop a).take 4) := (hl.drop a).take 4
  have hn : nats ((l.drop a).take 4) = ((nats l).drop a).take 4 := by rw [nats_take, nats_drop]
  have h4 := four_lt _ (nats_lt hb) (by rw [nats_length, List.length_take]; omega)
  have h1 := number ((l.drop a).take 4) hb (by rw [List.length_take]; omega)
  rw [if_neg (by omega), hn] at h1
  have hw : wrap64 ((a : Int) + 4) = ((a + 4 : Nat) : Int) := by rw [wrap_in (by omega) (by omega)]; omega
  refine Ev.congr (fun k => ?_) (Ev.bind h1 (f := fun _ bt => some bt.1) (Ev.now _))
  unfold woodcutref01_Get4.f
  rw [hw, if_pos (by omega), if_pos (by omega), if_pos (by omega), Int.toNat_natCast, Int.toNat_natCast, hs]
/-- Are bytes good? -/
def good (l : List Int) : Bool := decide (4 ≤ l.length ∧ bv ((nats l).drop (l.length - 4)) = more 0 (nats (l.take (l.length - 4))))
theorem crc_good (l : List Int) (hl : Byt l) (hlen : l.length ≤ 140737488355328) : Ev (fun k => crc_Good.f k l) (good l) := by
  have hw : wrap64 ((l.length : Int) - 4) = (l.length : Int) - 4 := wrap_in (by omega) (by omega)
  unfold good
  by_cases h4 : 4 ≤ l.length
  · have ha : (l.length : Int) - 4 = ((l.length - 4 : Nat) : Int) := by omega
    have hg := get l hl hlen ((l.length - 4 : Nat) : Int) 4
    have hseg : seg l ((l.length - 4 : Nat) : Int) 4 = (nats l).drop (l.length - 4) := by
      unfold seg
      rw [Int.toNat_natCast]
      exact List.take_of_length_le (by rw [List.length_drop, nats_length]; simp; omega)
    have h32 := four_lt ((nats l).drop (l.length - 4)) (fun x hx => nats_lt hl x (List.mem_of_mem_drop hx)) (by rw [List.length_drop, nats_length]; omega)
    unfold got at hg
    rw [if_pos (by unfold Right; simp), if_pos (by omega), hseg, if_neg (by omega)] at hg
    have hs := crc_sum (l.take (l.length - 4)) (hl.take _) (by rw [List.length_take]; omega)
    refine Ev.congr (fun k => ?_) (Ev.bind hg (f := fun k bt => (crc_Sum.f k (l.take (l.length - 4))).bind fun t => some (bt.1 == t)) (Ev.bind hs (f := fun _ t => some (((bv ((nats l).drop (l.length - 4)) : Nat) : Int) == t)) ?_))
    · unfold crc_Good.f
      have c1 : (0 : Int) ≤ ((l.length - 4 : Nat) : Int) := by omega
      have c2 : ((l.length - 4 : Nat) : Int) ≤ (l.length : Int) := by omega
      rw [hw, if_neg (by omega), ha]
      simp only [c1, c2, if_true, Int.toNat_natCast]
    · refine Ev.congr (fun k => ?_) (Ev.now _)
      congr 1
      rw [Bool.eq_iff_iff]
      simp only [beq_iff_eq, decide_eq_true_eq]
      omega
  · refine Ev.congr (fun k => ?_) (Ev.now _)
    unfold crc_Good.f
    rw [hw, if_pos (by omega)]
    congr 1
    simp
    omega
theorem ref_good (l : List Int) (hl : Byt l) (hlen : l.length ≤ 140737488355328) : Ev (fun k => woodcutref01_Good.f k l) (good l) := by
  have hw : wrap64 ((l.length : Int) - 4) = (l.length : Int) - 4 := wrap_in (by omega) (by omega)
  unfold good
  by_cases h4 : 4 ≤ l.length
  · have ha : (l.length : Int) - 4 = ((l.length - 4 : Nat) : Int) := by omega
    have hg := get4 l hl hlen (l.length - 4) (by omega)
    have hseg : ((nats l).drop (l.length - 4)).take 4 = (nats l).drop (l.length - 4) :=
      List.take_of_length_le (by rw [List.length_drop, nats_length]; omega)
    rw [hseg] at hg
    have hs := ref_sum (l.take (l.length - 4)) (hl.take _) (by rw [List.length_take]; omega)
    refine Ev.congr (fun k => ?_) (Ev.bind hg (f := fun k b => (woodcutref01_Sum.f k (l.take (l.length - 4))).bind fun t => some (b == t)) (Ev.bind hs (f := fun _ t => some (((bv ((nats l).drop (l.length - 4)) : Nat) : Int) == t)) ?_))
    · unfold woodcutref01_Good.f
      have c1 : (0 : Int) ≤ ((l.length - 4 : Nat) : Int) := by omega
      have c2 : ((l.length - 4 : Nat) : Int) ≤ (l.length : Int) := by omega
      rw [hw, if_pos (by omega), ha]
      simp only [c1, c2, if_true, Int.toNat_natCast]
    · refine Ev.congr (fun k => ?_) (Ev.now _)
      congr 1
      rw [Bool.eq_iff_iff]
      simp only [beq_iff_eq, decide_eq_true_eq]
      omega
  · refine Ev.congr (fun k => ?_) (Ev.now _)
    unfold woodcutref01_Good.f
    rw [if_neg (by omega)]
    congr 1
    simp
    omega
theorem same_loop (a b : List Int) (hl : a.length ≤ 140737488355328) (he : a.length = b.length) : ∀ (d i : Nat), i + d = a.length →
    Ev (fun k => woodcutkeep_Bytes.l0 k a b (i : Int)) (decide (a.drop i = b.drop i)) := by
  intro d
  induction d with
  | zero =>
    intro i hi
    refine Ev.step (f := fun _ => some true) (fun k => ?_) ?_
    · simp only [woodcutkeep_Bytes.l0]
      rw [if_neg (by omega)]
    · rw [List.drop_eq_nil_of_le (by omega : a.length ≤ i), List.drop_eq_nil_of_le (by omega : b.length ≤ i)]
      exact Ev.now _
  | succ d ih =>
    intro i hi
    have h1 : i < a.length := by omega
    have h2 : i < b.length := by omega
    have hw : wrap64 ((i : Int) + 1) = ((i + 1 : Nat) : Int) := by rw [wrap_in (by omega) (by omega)]; omega
    rw [List.drop_eq_getElem_cons h1, List.drop_eq_getElem_cons h2]
    by_cases hc : a[i] = b[i]
    · refine Ev.step (f := fun k => woodcutkeep_Bytes.l0 k a b ((i + 1 : Nat) : Int)) (fun k => ?_) ?_
      · simp only [woodcutkeep_Bytes.l0]
        rw [if_pos (by omega), if_pos (by omega), if_pos (by omega), rd_get a i h1, rd_get b i h2, if_pos hc, hw]
      · have e : decide (a[i] :: a.drop (i + 1) = b[i] :: b.drop (i + 1)) = decide (a.drop (i + 1) = b.drop (i + 1)) := by
          rw [decide_eq_decide, List.cons.injEq]
          exact ⟨fun h => h.2, fun h => ⟨hc, h⟩⟩
        rw [e]
        exact ih (i + 1) (by omega)
    · refine Ev.step (f := fun _ => some false) (fun k => ?_) ?_
      · simp only [woodcutkeep_Bytes.l0]
        rw [if_pos (by omega), if_pos (by omega), if_pos (by omega), rd_get a i h1, rd_get b i h2, if_neg hc]
      · have e : decide (a[i] :: a.drop (i + 1) = b[i] :: b.drop (i + 1)) = false := decide_eq_false (fun h => hc (List.cons.inj h).1)
        rw [e]
        exact Ev.now _
theorem same (a b : List Int) (hl : a.length ≤ 140737488355328) : Ev (fun k => woodcutkeep_Bytes.f k a b) (decide (a = b)) := by
  by_cases he : a.length = b.length
  · have h := same_loop a b hl he a.length 0 (by omega)
    rw [List.drop_zero, List.drop_zero] at h
    refine Ev.congr (fun k => ?_) h
    unfold woodcutkeep_Bytes.f
    rw [if_pos (by omega)]
    rfl
  · have hne : ¬ a = b := fun h => he (by rw [h])
    refine Ev.congr (fun k => ?_) (by rw [decide_eq_false hne]; exact Ev.now _)
    unfold woodcutkeep_Bytes.f
    rw [if_neg (by omega)]
theorem twin (l : List Int) (hl : l.length < 140737488355328) : woodcutkeep_Twin.f l = some l := by
  unfold woodcutkeep_Twin.f
  rw [if_pos (by simpa using hl)]
  rfl
theorem crc_wakes : Ev (fun k => woodcutlaw02_wakes.f k) true :=
  Ev.of woodcutlaw02_wakes.mono (k := 120) (by kernel_rfl)
end Go.Proofs.Ytpaoboadccnnmaa.F
