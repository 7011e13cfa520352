/- The law LeExact at every input: its walk (WLe) with the plain facts put in. -/
import Derived.Test.YtpaoboadccnnmaaFUse
import Derived.Test.YtpaoboadccnnmaaWLe
namespace Go.Proofs.Ytpaoboadccnnmaa.Exact
set_option linter.unusedVariables false
set_option linter.unusedSimpArgs false
open Go Go.RowKit Go.Proofs.Ytpaoboadccnnmaa.PA Go.Proofs.Ytpaoboadccnnmaa.F Go.Proofs.YtpaoboadccnnmaaW.PrintWords Go.Proofs.YtpaoboadccnnmaaW.PrintLast Go.Proofs.YtpaoboadccnnmaaW.PrintMore

theorem seg_eq (l : List Int) (a s : Nat) : seg l (a : Int) (s : Int) = nats ((l.drop a).take s) := by
  unfold seg
  rw [Int.toNat_natCast, Int.toNat_natCast, nats_take, nats_drop]
theorem rsize_f (s : Int) : woodcutref01_Size.f s = some (decide (Right s)) := right_f s
theorem rfits_f (s n : Int) (hr : Right s) : woodcutref01_Fits.f s n = some (decide (Fits s n)) := by
  have h := fits_f n s hr
  unfold le_fits.f at h
  unfold woodcutref01_Fits.f woodcutref01_In.f
  by_cases h0 : n ≥ 0
  · by_cases h1 : n ≤ 4611686018427387903
    · rw [if_pos h0, if_pos h1] at h
      rw [if_pos h0, decide_eq_true h1]
      simp only [Option.bind_some, if_true]
      rcases hr with rfl | rfl | rfl | rfl
      · rw [if_pos rfl]; rw [if_neg (by decide)] at h; exact h
      · rw [if_neg (by decide), if_pos rfl]; rw [if_neg (by decide)] at h; exact h
      · rw [if_neg (by decide), if_neg (by decide), if_pos rfl]; rw [if_neg (by decide)] at h; exact h
      · rw [if_neg (by decide), if_neg (by decide), if_neg (by decide)]; rw [if_pos rfl] at h; exact h
    · rw [if_pos h0, if_neg h1] at h
      rw [if_pos h0, decide_eq_false h1]
      simp only [Option.bind_some, Bool.false_eq_true, if_false]
      exact h
  · rw [if_neg h0] at h
    rw [if_neg h0]
    simp only [Option.bind_some, Bool.false_eq_true, if_false]
    exact h
theorem rzeros_loop (l : List Int) (hlen : l.length ≤ 140737488355328) (t : Int) : ∀ (d i : Nat), l.length ≤ i + d →
    (Zs l i t → Ev (fun k => woodcutref01_Zeros.l0 k l t (i : Int)) true) ∧ (¬ Zs l i t → Ev (fun k => woodcutref01_Zeros.l0 k l t (i : Int)) false) := by
  have stop : ∀ i : Nat, ¬ ((i : Int) < t ∧ i < l.length) → (Zs l i t → Ev (fun k => woodcutref01_Zeros.l0 k l t (i : Int)) true) ∧ (¬ Zs l i t → Ev (fun k => woodcutref01_Zeros.l0 k l t (i : Int)) false) := by
    intro i hi
    refine ⟨fun _ => ?_, fun hz => absurd (fun j h1 h2 h3 => ?_) hz⟩
    · have hj : Ev (fun k => woodcutref01_Zeros.j1 k l t (i : Int) false) true := Ev.step (f := fun _ => some true) (fun k => by simp only [woodcutref01_Zeros.j1, Bool.false_eq_true, if_false]) (Ev.now _)
      refine Ev.step (fun k => ?_) hj
      simp only [woodcutref01_Zeros.l0]
      by_cases h : (i : Int) < t
      · have h2 : ¬ (i : Int) < (l.length : Int) := by omega
        rw [if_pos h, decide_eq_false h2]
      · rw [if_neg h]
    · exact absurd ⟨by omega, by omega⟩ hi
  intro d
  induction d with
  | zero => intro i hi; exact stop i (by omega)
  | succ d ih =>
    intro i hi
    by_cases hc : (i : Int) < t ∧ i < l.length
    · obtain ⟨h1, h2⟩ := ih (i + 1) (by omega)
      have hg : l.getD i 0 = rd l (i : Int) := by unfold rd; rw [Int.toNat_natCast]
      have hw := idx_up i l.length hlen hc.2
      have c2 : 0 ≤ (i : Int) := by omega
      have c3 : (i : Int) < (l.length : Int) := by omega
      have hl0 : ∀ k, woodcutref01_Zeros.l0 (k + 1) l t (i : Int) = woodcutref01_Zeros.j1 k l t (i : Int) true := fun k => by
        simp only [woodcutref01_Zeros.l0]
        rw [if_pos hc.1, decide_eq_true c3]
      by_cases hx : rd l (i : Int) = 0
      · have hiff : Zs l i t ↔ Zs l ((i + 1 : Nat) : Int) t := by
          constructor
          · intro h j g1 g2 g3
            exact h j (by omega) g2 g3
          · intro h j g1 g2 g3
            by_cases e : j = i
            · subst e; rw [hg]; exact hx
            · exact h j (by omega) g2 g3
        have hstep : ∀ k, woodcutref01_Zeros.j1 (k + 1) l t (i : Int) true = woodcutref01_Zeros.l0 k l t ((i + 1 : Nat) : Int) := fun k => by
          simp only [woodcutref01_Zeros.j1, if_true]
          rw [if_pos c2, if_pos c3, if_pos hx, hw]
        exact ⟨fun h => Ev.step hl0 (Ev.step hstep (h1 (hiff.1 h))), fun h => Ev.step hl0 (Ev.step hstep (h2 (fun h' => h (hiff.2 h'))))⟩
      · refine ⟨fun h => absurd ((hg.symm.trans (h i (by omega) hc.1 hc.2))) hx, fun _ => Ev.step hl0 (Ev.step (f := fun _ => some false) (fun k => ?_) (Ev.now _))⟩
        simp only [woodcutref01_Zeros.j1, if_true]
        rw [if_pos c2, if_pos c3, if_neg hx]
    · exact stop i hc
theorem zeros_both (l : List Int) (hlen : l.length ≤ 140737488355328) (f t : Int) : ∃ z : Bool, Ev (fun k => le_Zeros.f k l f t) z ∧ Ev (fun k => woodcutref01_Zeros.f k l f t) z := by
  have hr := rzeros_loop l hlen t l.length f.toNat (by omega)
  have e : ∀ k, woodcutref01_Zeros.f k l f t = woodcutref01_Zeros.l0 k l t (f.toNat : Int) := fun k => by unfold woodcutref01_Zeros.f; rw [mx_zero]
  by_cases h : Zs l f t
  · exact ⟨true, zeros_yes l hlen f t h, Ev.congr e (hr.1 ((zs_max l f t).1 h))⟩
  · exact ⟨false, zeros_no l hlen f t h, Ev.congr e (hr.2 (fun h' => h ((zs_max l f t).2 h')))⟩
theorem rbytes_loop (s n : Nat) (hs : s ≤ 8) (hn : n ≤ 4611686018427387903) : ∀ (d i : Nat), i + d = s → Ev (fun k => woodcutref01_Bytes.l0 k (s : Int) ((n / 256 ^ i : Nat) : Int) (digs i n) (i : Int)) (digs s n) := by
  intro d
  induction d with
  | zero =>
    intro i hi
    obtain rfl : i = s := by omega
    refine Ev.step (f := fun _ => some (digs i n)) (fun k => ?_) (Ev.now _)
    simp only [woodcutref01_Bytes.l0]
    rw [if_neg (by omega)]
  | succ d ih =>
    intro i hi
    have c1 : (i : Int) < (s : Int) := by omega
    have c2 : (digs i n).length < 140737488355328 := by rw [digs_length]; omega
    have hw := idx_up i s (by omega) (by omega)
    have hle : n / 256 ^ i ≤ n := Nat.div_le_self _ _
    have hq : n / 256 ^ (i + 1) = n / 256 ^ i / 256 := by rw [Nat.pow_succ, ← Nat.div_div_eq_div_mul]
    have h1 := ih (i + 1) (by omega)
    rw [hq, digs_snoc] at h1
    clear hq
    generalize n / 256 ^ i = q at hle h1 ⊢
    have e1 : wrap64 (Int.tdiv (q : Int) 256) = ((q / 256 : Nat) : Int) := by
      rw [Int.tdiv_eq_ediv_of_nonneg (by omega), wrap_in (by omega) (by omega)]
      omega
    have e2 : (Int.tmod (q : Int) 256) % 256 = ((q % 256 : Nat) : Int) := by
      rw [Int.tmod_eq_emod_of_nonneg (by omega)]
      omega
    refine Ev.step (fun k => ?_) h1
    simp only [woodcutref01_Bytes.l0]
    rw [if_pos c1, if_pos c2, e1, e2, hw]
theorem rbytes_f (s n : Nat) (hs : s ≤ 8) (hn : n ≤ 4611686018427387903) : Ev (fun k => woodcutref01_Bytes.f k (s : Int) (n : Int)) (digs s n) := by
  have h := rbytes_loop s n hs hn s 0 (by omega)
  rw [Nat.pow_zero, Nat.div_one] at h
  exact h
theorem many {α : Type} {f : Nat → Option α} {a : α} (h : Ev f a) : ∃ K, ∀ k, K ≤ k → f k = some a := h
theorem walk (A0 : Option Addr) (len0 cap0 : Nat) (z0 : List Int) (at_ s n up : Int) (W : World)
    (w0 : (A0 = none ∧ len0 = 0 ∧ cap0 = 0 ∧ z0 = []) ∨ ∃ x, A0 = some x ∧ len0 ≤ cap0 ∧ cap0 ≤ maxLen ∧ z0.length = cap0 ∧ (∀ i, i < z0.length → W.cell? (x.add i) = some (.int .u8 (z0.getD i 0))) ∧ ∀ n ∈ z0, (Lit.int .u8 n).wf = true)
    (y0 : len0 * 1 ≤ 140737488351232) (w1 : (Lit.int .i64 at_).wf = true) (w2 : (Lit.int .i64 s).wf = true) (w3 : (Lit.int .i64 n).wf = true) (w4 : (Lit.int .i64 up).wf = true) :
    Calls Try.prog 6 #[.slice A0 len0 cap0, .int .i64 at_, .int .i64 s, .int .i64 n, .int .i64 up] W fun e w' => e = .returned (.bool true) ∧ Below W.heap.size W w' := by
  obtain ⟨l, rfl, hr0, hm0, hw0, hc0⟩ := ReadsInt.ofRowC w0
  have hR : Kd.C (Kd.int .u8) W A0 l.length l := Kd.C_of_reads (d := (0 : Int)) (h1 := fun _ => rfl) hr0
  have hl := byt_of_wf hw0
  by_cases hbig : 500 < l.length
  · exact WE.long l A0 cap0 at_ s n up W (by rw [decide_eq_true_eq]; omega)
  · have hlen : l.length ≤ 140737488355328 := by omega
    have hlen2 : l.length < 140737488355328 := by omega
    have hb : decide (500 < (l.length : Int)) = false := decide_eq_false (by omega)
    have hT := twin l hlen2
    obtain ⟨K1, k1⟩ := put_f l hlen2 at_ s n
    obtain ⟨K2, k2⟩ := F.get l hl hlen at_ s
    obtain ⟨z, hz1, hz2⟩ := zeros_both l hlen at_ up
    obtain ⟨K3, k3⟩ := hz1
    obtain ⟨K4, k4⟩ := hz2
    obtain ⟨K5, k5⟩ := same l l hlen
    obtain ⟨K6, k6⟩ := le_wakes
    simp only [decide_true] at k5
    obtain ⟨M, hM1, hM2, hM3, hM4, hM5, hM6⟩ : ∃ M, K1 ≤ M ∧ K2 ≤ M ∧ K3 ≤ M ∧ K4 ≤ M ∧ K5 ≤ M ∧ K6 ≤ M := ⟨K1 + K2 + K3 + K4 + K5 + K6, by omega, by omega, by omega, by omega, by omega, by omega⟩
    have hsz := rsize_f s
    by_cases hr : Right s
    · have hft := rfits_f s n hr
      rw [decide_eq_true hr] at hsz
      by_cases hp : 0 ≤ at_ ∧ at_ + s ≤ l.length
      · obtain ⟨a, rfl⟩ := Int.eq_ofNat_of_zero_le hp.1
        obtain ⟨m, rfl⟩ : ∃ m : Nat, s = (m : Int) := ⟨s.toNat, by unfold Right at hr; omega⟩
        have hm1 : 1 ≤ m := by unfold Right at hr; omega
        have hm8 : m ≤ 8 := by unfold Right at hr; omega
        have ham : a + m ≤ l.length := by omega
        have l5 : l.length ≤ 500 := by omega
        have hsg : (l.take ((a : Int) + (m : Int)).toNat).drop (a : Int).toNat = (l.drop a).take m := by
          rw [Int.toNat_natCast, show ((a : Int) + (m : Int)).toNat = a + m by omega, List.drop_take]
          congr 1
          omega
        obtain ⟨K7, k7⟩ := number ((l.drop a).take m) ((hl.drop a).take m) (by rw [List.length_take]; omega)
        have hgot : got l (a : Int) (m : Int) = (if bv (nats ((l.drop a).take m)) > 4611686018427387903 then (0, 1) else ((bv (nats ((l.drop a).take m)) : Int), 0)) := by
          unfold got
          rw [if_pos hr, if_pos hp, seg_eq]
        rw [hgot] at k2
        by_cases hf : Fits (m : Int) n
        · rw [decide_eq_true hf] at hft
          obtain ⟨v, rfl⟩ := Int.eq_ofNat_of_zero_le hf.1
          obtain ⟨K8, k8⟩ := rbytes_f m v hm8 (by have := hf.2.1; omega)
          have hX : l.take a ++ digs m v ++ l.drop (a + (digs m v).length) = putl l a m v := by rw [digs_length]; rfl
          obtain ⟨K9, k9⟩ := same (putl l a m v) (putl l a m v) (by rw [putl_length l a m v ham]; exact hlen)
          simp only [decide_true] at k9
          have hput : put l (a : Int) (m : Int) (v : Int) = (putl l a m v, 0) := by
            unfold put
            rw [if_pos ⟨hr, hf⟩, if_pos hp, Int.toNat_natCast, Int.toNat_natCast, Int.toNat_natCast]
          rw [hput] at k1
          by_cases hov : bv (nats ((l.drop a).take m)) > 4611686018427387903
          · simp only [hov, if_true] at k2 k7
            exact WE.put_big l A0 cap0 (a : Int) (m : Int) (v : Int) up (putl l a m v) 0 0 1 z true true (M + K7 + K8 + K9) W hR hc0 hT (k1 _ (by omega)) (k2 _ (by omega)) (k3 _ (by omega)) (k4 _ (by omega)) (k5 _ (by omega)) hsz hft (k6 _ (by omega)) hb a m rfl rfl ham hm1 hm8 l5 _ hsg 0 false (k7 _ (by omega)) (digs m v) (digs_length m v) (k8 _ (by omega)) hX (k9 _ (by omega)) rfl rfl rfl rfl rfl rfl
          · simp only [hov, if_false] at k2 k7
            exact WE.put_ok l A0 cap0 (a : Int) (m : Int) (v : Int) up (putl l a m v) 0 _ 0 z true true (M + K7 + K8 + K9) W hR hc0 hT (k1 _ (by omega)) (k2 _ (by omega)) (k3 _ (by omega)) (k4 _ (by omega)) (k5 _ (by omega)) hsz hft (k6 _ (by omega)) hb a m rfl rfl ham hm1 hm8 l5 _ hsg _ true (k7 _ (by omega)) (digs m v) (digs_length m v) (k8 _ (by omega)) hX (k9 _ (by omega)) rfl rfl rfl rfl rfl rfl
        · rw [decide_eq_false hf] at hft
          have hput : put l (a : Int) (m : Int) n = ([], 1) := by
            unfold put
            rw [if_neg (fun h => hf h.2)]
          rw [hput] at k1
          by_cases hov : bv (nats ((l.drop a).take m)) > 4611686018427387903
          · simp only [hov, if_true] at k2 k7
            exact WE.no_fit_big l A0 cap0 (a : Int) (m : Int) n up [] 1 0 1 z true false (M + K7) W hR hc0 hT (k1 _ (by omega)) (k2 _ (by omega)) (k3 _ (by omega)) (k4 _ (by omega)) (k5 _ (by omega)) hsz hft (k6 _ (by omega)) hb (by omega) (by omega) (by omega) (by omega) l5 _ hsg 0 false (k7 _ (by omega)) rfl rfl rfl rfl rfl rfl rfl
          · simp only [hov, if_false] at k2 k7
            exact WE.no_fit_ok l A0 cap0 (a : Int) (m : Int) n up [] 1 _ 0 z true false (M + K7) W hR hc0 hT (k1 _ (by omega)) (k2 _ (by omega)) (k3 _ (by omega)) (k4 _ (by omega)) (k5 _ (by omega)) hsz hft (k6 _ (by omega)) hb (by omega) (by omega) (by omega) (by omega) l5 _ hsg _ true (k7 _ (by omega)) rfl rfl rfl rfl rfl rfl rfl
      · have hgot : got l at_ s = (0, 3) := by
          unfold got
          rw [if_pos hr, if_neg hp]
        rw [hgot] at k2
        by_cases hf : Fits s n
        · rw [decide_eq_true hf] at hft
          have hput : put l at_ s n = ([], 3) := by
            unfold put
            rw [if_pos ⟨hr, hf⟩, if_neg hp]
          rw [hput] at k1
          by_cases h1 : 0 ≤ at_
          · by_cases h2 : at_ ≤ (l.length : Int)
            · exact WE.no_place3 l A0 cap0 at_ s n up [] 3 0 3 z true true M W hR hc0 hT (k1 _ hM1) (k2 _ hM2) (k3 _ hM3) (k4 _ hM4) (k5 _ hM5) hsz hft (k6 _ hM6) hb rfl rfl rfl rfl rfl rfl h1 h2 (by omega) (by omega)
            · exact WE.no_place2 l A0 cap0 at_ s n up [] 3 0 3 z true true M W hR hc0 hT (k1 _ hM1) (k2 _ hM2) (k3 _ hM3) (k4 _ hM4) (k5 _ hM5) hsz hft (k6 _ hM6) hb rfl rfl rfl rfl rfl rfl h1 (by omega)
          · exact WE.no_place1 l A0 cap0 at_ s n up [] 3 0 3 z true true M W hR hc0 hT (k1 _ hM1) (k2 _ hM2) (k3 _ hM3) (k4 _ hM4) (k5 _ hM5) hsz hft (k6 _ hM6) hb rfl rfl rfl rfl rfl rfl (decide_eq_false h1)
        · rw [decide_eq_false hf] at hft
          have hput : put l at_ s n = ([], 1) := by
            unfold put
            rw [if_neg (fun h => hf h.2)]
          rw [hput] at k1
          by_cases h1 : 0 ≤ at_
          · by_cases h2 : at_ ≤ (l.length : Int)
            · exact WE.no_fit_no_place3 l A0 cap0 at_ s n up [] 1 0 3 z true false M W hR hc0 hT (k1 _ hM1) (k2 _ hM2) (k3 _ hM3) (k4 _ hM4) (k5 _ hM5) hsz hft (k6 _ hM6) hb rfl rfl rfl rfl rfl rfl h1 h2 (by omega) (by omega)
            · exact WE.no_fit_no_place2 l A0 cap0 at_ s n up [] 1 0 3 z true false M W hR hc0 hT (k1 _ hM1) (k2 _ hM2) (k3 _ hM3) (k4 _ hM4) (k5 _ hM5) hsz hft (k6 _ hM6) hb rfl rfl rfl rfl rfl rfl h1 (by omega)
          · exact WE.no_fit_no_place1 l A0 cap0 at_ s n up [] 1 0 3 z true false M W hR hc0 hT (k1 _ hM1) (k2 _ hM2) (k3 _ hM3) (k4 _ hM4) (k5 _ hM5) hsz hft (k6 _ hM6) hb rfl rfl rfl rfl rfl rfl (decide_eq_false h1)
    · have hput : put l at_ s n = ([], 1) := by
        unfold put
        rw [if_neg (fun h => hr h.1)]
      have hgot : got l at_ s = (0, 1) := by
        unfold got
        rw [if_neg hr]
      rw [hput] at k1
      rw [hgot] at k2
      rw [decide_eq_false hr] at hsz
      exact WE.no_size l A0 cap0 at_ s n up [] 1 0 1 z false M W hR hc0 hT (k1 _ hM1) (k2 _ hM2) (k3 _ hM3) (k4 _ hM4) (k5 _ hM5) hsz (k6 _ hM6) hb rfl rfl rfl rfl rfl
end Go.Proofs.Ytpaoboadccnnmaa.Exact
