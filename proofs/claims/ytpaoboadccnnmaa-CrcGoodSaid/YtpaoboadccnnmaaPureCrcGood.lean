/- The law CrcGood at every input: its walk (WGood) with the plain facts put in. -/
import Derived.Test.YtpaoboadccnnmaaFUse
import Derived.Test.YtpaoboadccnnmaaMGood
import Derived.Test.YtpaoboadccnnmaaWGood
namespace Go.Proofs.Ytpaoboadccnnmaa.Good
set_option linter.unusedVariables false
set_option linter.unusedSimpArgs false
open Go Go.RowKit Go.Proofs.Ytpaoboadccnnmaa.PA Go.Proofs.Ytpaoboadccnnmaa.F Go.Proofs.YtpaoboadccnnmaaW.PrintWords Go.Proofs.YtpaoboadccnnmaaW.PrintLast Go.Proofs.YtpaoboadccnnmaaW.PrintMore
open Go.Proofs.Ytpaoboadccnnmaa.MC (st stn run more)
open Go.Proofs.Ytpaoboadccnnmaa.WG (cx fl x4 cx_length)

theorem nats_set (L : List Int) (p : Nat) (v : Int) : nats (L.set p v) = (nats L).set p v.toNat := by simp [nats, List.map_set]
theorem nats_get (L : List Int) (p : Nat) (h : p < L.length) : (nats L)[p]'(by rw [nats_length]; exact h) = L[p].toNat := by simp [nats]
theorem byte_xor (a b : Int) (ha : 0 ≤ a ∧ a < 256) (hb : 0 ≤ b ∧ b < 256) : (Go.bits .xor .u8 a b).toNat = a.toNat ^^^ b.toNat ∧ 0 ≤ Go.bits .xor .u8 a b ∧ Go.bits .xor .u8 a b < 256 := by
  rw [u8_xor a b ha.1 ha.2 hb.1 hb.2]
  have h : a.toNat ^^^ b.toNat < 2 ^ 8 := Nat.xor_lt_two_pow (by omega) (by omega)
  refine ⟨by simp, by omega, by omega⟩
theorem cx_step (j : Nat) (x : Nat → Int) (Y : List Int) (i : Nat) (hx : 0 ≤ x i ∧ x i < 256) (hb : Byt (cx j x Y i)) (h : j + i < Y.length) (n : Nat) :
    Byt (cx j x Y (i + 1)) ∧ MC.S n (nats (cx j x Y (i + 1))) = MC.S n (nats (cx j x Y i)) ^^^ MC.c n (j + i) (x i).toNat := by
  have hl : j + i < (cx j x Y i).length := by rw [cx_length]; exact h
  have hg : (cx j x Y i).getD (j + i) 0 = (cx j x Y i)[j + i] := by simp [List.getD_eq_getElem?_getD, List.getElem?_eq_getElem hl]
  have ha := hb _ (List.getElem_mem hl)
  have hq := byte_xor _ (x i) ha hx
  have e : cx j x Y (i + 1) = (cx j x Y i).set (j + i) (Go.bits .xor .u8 (cx j x Y i)[j + i] (x i)) := by rw [← hg]; rfl
  refine ⟨?_, ?_⟩
  · rw [e]
    intro y hy
    rcases List.mem_or_eq_of_mem_set hy with hy | rfl
    · exact hb y hy
    · exact hq.2
  · rw [e, nats_set, hq.1, ← nats_get _ _ hl]
    exact MC.S_set n _ (j + i) _ (by rw [nats_length]; exact hl)
theorem good_iff (L : List Int) (hL : Byt L) (n : Nat) (hn : L.length = n + 4) : good L = decide (MC.S n (nats L) = MC.M ^^^ stn (8 * n) MC.M) := by
  unfold good
  have h1 : L.length - 4 = n := by omega
  rw [h1, bv_le _ (fun x hx => nats_lt hL x (List.mem_of_mem_drop hx)), nats_take]
  have h2 := MC.good_S n (nats L) (by rw [nats_length]; omega)
  apply decide_eq_decide.2
  constructor
  · intro h; exact h2.1 h.2
  · intro h; exact ⟨by omega, h2.2 h⟩
theorem i64_wrap (n : Int) : IntKind.i64.wrap n = wrap64 n := by
  rw [IntKind.wrap_i64]
  unfold wrap64
  omega
theorem fl_four (x : Nat → Int) : (!(fl x 4)) = decide (x 0 = 0 ∧ x 1 = 0 ∧ x 2 = 0 ∧ x 3 = 0) := by
  rw [Bool.eq_iff_iff]
  simp [fl]
  constructor
  · rintro ⟨⟨⟨a, b⟩, c⟩, d⟩; exact ⟨a, b, c, d⟩
  · rintro ⟨a, b, c, d⟩; exact ⟨⟨⟨a, b⟩, c⟩, d⟩
theorem good_changed (n j : Nat) (x : Nat → Int) (Y : List Int) (hY : Byt Y) (hn : Y.length = n + 4) (hj : j ≤ n) (hx : ∀ i, i < 4 → 0 ≤ x i ∧ x i < 256) (hg : good Y = true) :
    Byt (cx j x Y 4) ∧ good (cx j x Y 4) = !(fl x 4) := by
  have s1 := cx_step j x Y 0 (hx 0 (by decide)) hY (by omega) n
  have s2 := cx_step j x Y 1 (hx 1 (by decide)) s1.1 (by omega) n
  have s3 := cx_step j x Y 2 (hx 2 (by decide)) s2.1 (by omega) n
  have s4 := cx_step j x Y 3 (hx 3 (by decide)) s3.1 (by omega) n
  refine ⟨s4.1, ?_⟩
  have g0 := good_iff Y hY n hn
  rw [hg] at g0
  have g0' := of_decide_eq_true g0.symm
  rw [good_iff _ s4.1 n (by rw [cx_length]; exact hn), fl_four, s4.2, s3.2, s2.2, s1.2, show cx j x Y 0 = Y from rfl, g0']
  apply decide_eq_decide.2
  rw [Nat.xor_assoc, Nat.xor_assoc, Nat.xor_assoc, MC.xor_cancel]
  have b0 := hx 0 (by decide)
  have b1 := hx 1 (by decide)
  have b2 := hx 2 (by decide)
  have b3 := hx 3 (by decide)
  constructor
  · intro h
    rw [← Nat.xor_assoc, ← Nat.xor_assoc] at h
    have := MC.run_four n j (x 0).toNat (x 1).toNat (x 2).toNat (x 3).toNat hj (by omega) (by omega) (by omega) (by omega) h
    refine ⟨?_, ?_, ?_, ?_⟩ <;> omega
  · rintro ⟨h0, h1, h2, h3⟩
    have z : ∀ p, MC.c n p 0 = 0 := fun p => by
      unfold MC.c
      split
      · exact MC.stn_zero _
      · rfl
    rw [h0, h1, h2, h3]
    simp [z]
theorem sum_fits (n : Nat) (h : n < 4294967296) : Fits ((4 : Nat) : Int) (n : Int) := by
  unfold Fits
  exact ⟨by omega, by omega, .inr (.inr (.inr ⟨rfl, by omega⟩))⟩
theorem walk (A0 : Option Addr) (len0 cap0 : Nat) (z0 : List Int) (at_ : Int) (x0 x1 x2 x3 : Int) (W : World)
    (w0 : (A0 = none ∧ len0 = 0 ∧ cap0 = 0 ∧ z0 = []) ∨ ∃ x, A0 = some x ∧ len0 ≤ cap0 ∧ cap0 ≤ maxLen ∧ z0.length = cap0 ∧ (∀ i, i < z0.length → W.cell? (x.add i) = some (.int .u8 (z0.getD i 0))) ∧ ∀ n ∈ z0, (Lit.int .u8 n).wf = true)
    (y0 : len0 * 1 ≤ 140737488351232) (w1 : (Lit.int .i64 at_).wf = true) (v0 : (Lit.int .u8 x0).wf = true) (v1 : (Lit.int .u8 x1).wf = true) (v2 : (Lit.int .u8 x2).wf = true) (v3 : (Lit.int .u8 x3).wf = true) :
    Calls Try.prog 11 #[.slice A0 len0 cap0, .int .i64 at_, .agg #[.int .u8 x0, .int .u8 x1, .int .u8 x2, .int .u8 x3]] W fun e w' => e = .returned (.bool true) ∧ Below W.heap.size W w' := by
  obtain ⟨l, rfl, hr0, hm0, hw0, hc0⟩ := ReadsInt.ofRowC w0
  have hR : Kd.C (Kd.int .u8) W A0 l.length l := Kd.C_of_reads (d := (0 : Int)) (h1 := fun _ => rfl) hr0
  have hl := byt_of_wf hw0
  have hxs : Byt [x0, x1, x2, x3] := byt_of_wf (by simp [v0, v1, v2, v3])
  by_cases hbig : 600 < l.length
  · exact WG.long l A0 cap0 at_ x0 x1 x2 x3 W (by rw [decide_eq_true_eq]; omega)
  · have hlen : l.length ≤ 140737488355328 := by omega
    have hlen2 : l.length < 140737488355328 := by omega
    have hb : decide (600 < (l.length : Int)) = false := decide_eq_false (by omega)
    have hT := twin l hlen2
    have hs32 : more 0 (nats l) < 4294967296 := more_lt32 0 (by decide) l hl
    obtain ⟨K1, k1⟩ := crc_sum l hl hlen
    obtain ⟨K2, k2⟩ := put_at l [0, 0, 0, 0] 4 (more 0 (nats l)) (by simp; omega) (by unfold Right; simp) (sum_fits _ hs32) (by simp)
    obtain ⟨Y, hYd⟩ : ∃ Y, l ++ digs 4 (more 0 (nats l)) = Y := ⟨_, rfl⟩
    have hY : Y.length = l.length + 4 := by rw [← hYd, List.length_append, digs_length]
    have hYb : Byt Y := by rw [← hYd]; exact hl.append (digs_byt _ _)
    have hYq : l ++ digs 4 (more 0 (nats l)) ++ ([0, 0, 0, 0] : List Int).drop 4 = Y := by simpa using hYd
    rw [hYq] at k2
    have hgood : good Y = true := by
      unfold good
      rw [hY, ← hYd]
      have e1 : (nats (l ++ digs 4 (more 0 (nats l)))).drop (l.length + 4 - 4) = nats (digs 4 (more 0 (nats l))) := by
        rw [← nats_drop, show l.length + 4 - 4 = l.length by omega, List.drop_left]
      have e2 : (l ++ digs 4 (more 0 (nats l))).take (l.length + 4 - 4) = l := by
        rw [show l.length + 4 - 4 = l.length by omega, List.take_left]
      rw [e1, e2, bv_digs 4 _ (by omega)]
      exact decide_eq_true ⟨by omega, rfl⟩
    obtain ⟨K3, k3⟩ := crc_good Y hYb (by omega)
    rw [hgood] at k3
    obtain ⟨K5, k5⟩ := crc_wakes
    obtain ⟨x, hx⟩ : ∃ x, x = x4 x0 x1 x2 x3 := ⟨_, rfl⟩
    have hxb : ∀ i, i < 4 → 0 ≤ x i ∧ x i < 256 := by
      intro i hi
      subst hx
      have hlt : i < [x0, x1, x2, x3].length := hi
      have : x4 x0 x1 x2 x3 i = [x0, x1, x2, x3][i] := by unfold x4; simp [List.getD_eq_getElem?_getD, List.getElem?_eq_getElem hlt]
      rw [this]
      exact hxs _ (List.getElem_mem hlt)
    have hm : IntKind.u64.wrap (wrap64 ((Y.length : Int) - 3)) = ((l.length : Int) + 1) := by
      rw [IntKind.wrap_u64, wrap_in (by omega) (by omega)]
      omega
    obtain ⟨j, hj1, hj2⟩ := umod at_ ((l.length : Int) + 1) (by omega) (by omega)
    have hjn : j ≤ l.length := by omega
    obtain ⟨hZb, hZ⟩ := good_changed l.length j x Y hYb hY hjn hxb hgood
    obtain ⟨K4, k4⟩ := crc_good (cx j x Y 4) hZb (by rw [cx_length]; omega)
    rw [hZ] at k4
    exact WG.good_walk l A0 cap0 at_ x0 x1 x2 x3 _ _ Y (K1 + K2 + K3 + K4 + K5) W j x hx hR hc0 hb (by omega) hT (k1 _ (by omega)) rfl (k2 _ (by omega)) hY (decide_eq_false (by omega)) (by rw [hm]; omega) (k3 _ (by omega)) (by rw [hm, i64_wrap]; exact hj2) hjn (k4 _ (by omega)) (k5 _ (by omega))
end Go.Proofs.Ytpaoboadccnnmaa.Good
