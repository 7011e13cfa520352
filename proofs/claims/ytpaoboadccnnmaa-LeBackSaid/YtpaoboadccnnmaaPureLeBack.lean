/- The plain law behind the statement LeBack: what the printed functions tell, put together. No program in sight. -/
import Derived.Test.YtpaoboadccnnmaaPBack
import Derived.Test.YtpaoboadccnnmaaFUse
namespace Go.Proofs.Ytpaoboadccnnmaa.Pure
set_option linter.unusedVariables false
set_option linter.unusedSimpArgs false
open Go Go.RowKit Go.Proofs.Ytpaoboadccnnmaa.PA Go.Proofs.Ytpaoboadccnnmaa.F Go.Proofs.YtpaoboadccnnmaaW.PrintWords Go.Proofs.YtpaoboadccnnmaaW.PrintLast Go.Proofs.YtpaoboadccnnmaaW.PrintMore

theorem fits_pow (s n : Nat) (hr : Right (s : Int)) (hf : Fits (s : Int) (n : Int)) : n < 256 ^ s := by
  unfold Fits at hf
  rcases hr with h | h | h | h
  · obtain rfl : s = 1 := by omega
    omega
  · obtain rfl : s = 2 := by omega
    omega
  · obtain rfl : s = 4 := by omega
    omega
  · obtain rfl : s = 8 := by omega
    omega
theorem fits_of (s n : Nat) (hr : Right (s : Int)) (h1 : n < 256 ^ s) (h2 : n ≤ 4611686018427387903) : Fits (s : Int) (n : Int) := by
  unfold Fits
  rcases hr with h | h | h | h
  · obtain rfl : s = 1 := by omega
    omega
  · obtain rfl : s = 2 := by omega
    omega
  · obtain rfl : s = 4 := by omega
    omega
  · obtain rfl : s = 8 := by omega
    omega
theorem digs_bv (L : List Int) (h : Byt L) : digs L.length (bv (nats L)) = L := by
  induction L with
  | nil => rfl
  | cons x L ih =>
    have hx := h x List.mem_cons_self
    rw [List.length_cons, nats_cons, bv_cons, digs]
    have e1 : (x.toNat + 256 * bv (nats L)) % 256 = x.toNat := by omega
    have e2 : (x.toNat + 256 * bv (nats L)) / 256 = bv (nats L) := by omega
    rw [e1, e2, ih (fun y hy => h y (List.mem_cons_of_mem _ hy))]
    congr 1
    omega
theorem seg_bv (l : List Int) (hl : Byt l) (a s : Nat) (h : a + s ≤ l.length) : bv (nats ((l.drop a).take s)) < 256 ^ s ∧ putl l a s (bv (nats ((l.drop a).take s))) = l := by
  have hb : Byt ((l.drop a).take s) := (hl.drop a).take s
  have hlen : ((l.drop a).take s).length = s := by rw [List.length_take, List.length_drop]; omega
  have h1 := bv_lt _ (nats_lt hb)
  have h2 := digs_bv _ hb
  rw [nats_length, hlen] at h1
  rw [hlen] at h2
  refine ⟨h1, ?_⟩
  unfold putl
  rw [h2, ← List.drop_drop, List.append_assoc, List.take_append_drop, List.take_append_drop]
theorem seg_eq (l : List Int) (a s : Nat) : seg l (a : Int) (s : Int) = nats ((l.drop a).take s) := by
  unfold seg
  rw [Int.toNat_natCast, Int.toNat_natCast, nats_take, nats_drop]
theorem back_loop (l : List Int) (hlen : l.length ≤ 500) (a s n : Nat) (h : a + s ≤ l.length)
    (hfin : Ev (fun k => woodcutlaw01_LeBack.l0 k l (a : Int) (s : Int) (putl l a s n) (l.length : Int)) true) : ∀ (d i : Nat), i + d = l.length →
    Ev (fun k => woodcutlaw01_LeBack.l0 k l (a : Int) (s : Int) (putl l a s n) (i : Int)) true := by
  have hxl := putl_length l a s n h
  intro d
  induction d with
  | zero =>
    intro i hi
    obtain rfl : i = l.length := by omega
    exact hfin
  | succ d ih =>
    intro i hi
    have hlt : i < l.length := by omega
    have e1 : i + 1 + d = l.length := by omega
    have c1 : (i : Int) < (l.length : Int) := by omega
    have c2 : (0 : Int) ≤ (i : Int) := by omega
    have c3 : (i : Int) < ((putl l a s n).length : Int) := by rw [hxl]; exact c1
    have ca : (i : Int) < (a : Int) ↔ i < a := by omega
    have cs : (i : Int) ≥ ((a + s : Nat) : Int) ↔ a + s ≤ i := by omega
    have has : wrap64 ((a : Int) + (s : Int)) = ((a + s : Nat) : Int) := by rw [wrap_in (by omega) (by omega)]; omega
    have hw := idx_up i l.length (by omega) hlt
    have same_ : i < a ∨ a + s ≤ i → (putl l a s n)[i]'(by rw [hxl]; exact hlt) = l[i] := by
      intro hh
      have e2 : (putl l a s n)[i]? = l[i]? := by
        unfold putl
        rcases hh with hh | hh
        · rw [List.append_assoc, List.getElem?_append_left (by rw [List.length_take]; omega), List.getElem?_take_of_lt hh]
        · rw [List.getElem?_append_right (by rw [List.length_append, List.length_take, digs_length]; omega), List.getElem?_drop, List.length_append, List.length_take, digs_length]
          congr 1
          omega
      have q1 := List.getElem?_eq_getElem (l := putl l a s n) (by rw [hxl]; exact hlt : i < (putl l a s n).length)
      have q2 := List.getElem?_eq_getElem hlt
      rw [q1, q2] at e2
      exact Option.some.inj e2
    refine Ev.step (fun k => ?_) (ih (i + 1) e1)
    simp only [woodcutlaw01_LeBack.l0]
    rw [if_pos c1, has, hw]
    by_cases h1 : i < a
    · have hs := same_ (.inl h1)
      rw [if_pos (ca.2 h1), if_pos c2, if_pos c3, rd_get _ i (by rw [hxl]; exact hlt), rd_get l i hlt, if_pos hs]
    · rw [if_neg (fun h' => h1 (ca.1 h'))]
      by_cases h2 : a + s ≤ i
      · have hs := same_ (.inr h2)
        rw [if_pos (cs.2 h2), if_pos c2, if_pos c3, rd_get _ i (by rw [hxl]; exact hlt), rd_get l i hlt, if_pos hs]
      · rw [if_neg (fun h' => h2 (cs.1 h'))]
/-- What stands behind, for whatever place and size. -/
theorem again (l : List Int) (hl : Byt l) (hlen : l.length ≤ 500) (at_ s : Int) :
    Ev (fun k => (le_Get.f k l at_ s).bind fun bt152 => (if bt152.2 = 0 then ((le_Put.f k l at_ s bt152.1).bind fun bt154 => (if bt154.2 = 0 then ((woodcutkeep_Bytes.f k bt154.1 l).bind fun t158 => (if t158 = true then ((woodcutlaw01_wakes.f k).bind fun t159 => (some t159)) else (some false))) else (some false))) else (if bt152.1 = 0 then ((woodcutlaw01_wakes.f k).bind fun t160 => (some t160)) else (some false)))) true := by
  have hg := F.get l hl (by omega) at_ s
  have bad : ∀ e : Int, e ≠ 0 → got l at_ s = (0, e) → Ev (fun k => (le_Get.f k l at_ s).bind fun bt152 => (if bt152.2 = 0 then ((le_Put.f k l at_ s bt152.1).bind fun bt154 => (if bt154.2 = 0 then ((woodcutkeep_Bytes.f k bt154.1 l).bind fun t158 => (if t158 = true then ((woodcutlaw01_wakes.f k).bind fun t159 => (some t159)) else (some false))) else (some false))) else (if bt152.1 = 0 then ((woodcutlaw01_wakes.f k).bind fun t160 => (some t160)) else (some false)))) true := by
    intro e he hgot
    rw [hgot] at hg
    refine Ev.bind hg ?_
    simp only [he, if_true, if_false]
    exact Ev.bind le_wakes (Ev.now _)
  by_cases hr : Right s
  · by_cases hp : 0 ≤ at_ ∧ at_ + s ≤ l.length
    · obtain ⟨a, rfl⟩ := Int.eq_ofNat_of_zero_le hp.1
      obtain ⟨m, rfl⟩ : ∃ m : Nat, s = (m : Int) := ⟨s.toNat, by unfold Right at hr; omega⟩
      have ham : a + m ≤ l.length := by omega
      obtain ⟨h1, h2⟩ := seg_bv l hl a m ham
      by_cases hbig : bv (seg l (a : Int) (m : Int)) > 4611686018427387903
      · refine bad 1 (by decide) ?_
        unfold got
        rw [if_pos hr, if_pos hp, if_pos hbig]
      · have hgot : got l (a : Int) (m : Int) = ((bv (nats ((l.drop a).take m)) : Int), 0) := by
          unfold got
          rw [if_pos hr, if_pos hp, if_neg hbig, seg_eq]
        rw [seg_eq] at hbig
        rw [hgot] at hg
        have hp1 := put_f l (by omega) (a : Int) (m : Int) ((bv (nats ((l.drop a).take m)) : Nat) : Int)
        have hput : put l (a : Int) (m : Int) ((bv (nats ((l.drop a).take m)) : Nat) : Int) = (l, 0) := by
          unfold put
          rw [if_pos ⟨hr, fits_of m _ hr h1 (Nat.le_of_not_lt hbig)⟩, if_pos hp, Int.toNat_natCast, Int.toNat_natCast, Int.toNat_natCast, h2]
        rw [hput] at hp1
        refine Ev.bind hg ?_
        simp only [if_true]
        refine Ev.bind hp1 ?_
        simp only [if_true]
        refine Ev.bind (same l l (by omega)) ?_
        simp only [decide_true, if_true]
        exact Ev.bind le_wakes (Ev.now _)
    · refine bad 3 (by decide) ?_
      unfold got
      rw [if_pos hr, if_neg hp]
  · refine bad 1 (by decide) ?_
    unfold got
    rw [if_neg hr]
theorem LeBack : woodcutlaw01_LeBack.Pure := by
  intro l at_ s n hm hy hw h0 h1 h2
  have hl := byt_of_wf hw
  refine Ev.rounds (g := fun k => woodcutlaw01_LeBack.f k l at_ s n) ?_
  unfold woodcutlaw01_LeBack.f
  by_cases hbig : (l.length : Int) > 500
  · simp only [hbig, if_true]
    exact Ev.now _
  · have hlen : l.length ≤ 500 := by omega
    simp only [hbig, if_false]
    have hag := again l hl hlen at_ s
    have hp := put_f l (by omega) at_ s n
    by_cases hok : (Right s ∧ Fits s n) ∧ (0 ≤ at_ ∧ at_ + s ≤ l.length)
    · obtain ⟨⟨hr, hf⟩, hpl⟩ := hok
      obtain ⟨a, rfl⟩ := Int.eq_ofNat_of_zero_le hpl.1
      obtain ⟨m, rfl⟩ : ∃ m : Nat, s = (m : Int) := ⟨s.toNat, by unfold Right at hr; omega⟩
      obtain ⟨v, rfl⟩ := Int.eq_ofNat_of_zero_le hf.1
      have ham : a + m ≤ l.length := by omega
      have hput : put l (a : Int) (m : Int) (v : Int) = (putl l a m v, 0) := by
        unfold put
        rw [if_pos ⟨hr, hf⟩, if_pos hpl, Int.toNat_natCast, Int.toNat_natCast, Int.toNat_natCast]
      rw [hput] at hp
      have hvp := fits_pow m v hr hf
      have hvm : ¬ v > 4611686018427387903 := by have := hf.2.1; omega
      have hxl := putl_length l a m v ham
      have hg : Ev (fun k => le_Get.f k (putl l a m v) (a : Int) (m : Int)) ((v : Int), 0) := by
        have h := F.get_at (l.take a) (digs m v) (l.drop (a + m)) m (digs_length m v) hr (digs_byt m v) (hl.take a) (hl.drop _) (by rw [show l.take a ++ digs m v ++ l.drop (a + m) = putl l a m v from rfl, hxl]; omega)
        rw [bv_digs m v hvp, if_neg hvm, List.length_take, Nat.min_eq_left (by omega)] at h
        exact h
      have hw2 : wrap64 ((a : Int) + (m : Int)) = ((a + m : Nat) : Int) := by rw [wrap_in (by omega) (by omega)]; omega
      have c1 : ¬ ((a + m : Nat) : Int) > (l.length : Int) := by omega
      refine Ev.bind hp ?_
      simp only [if_true]
      refine Ev.bind hg ?_
      simp only [if_true, hxl, hw2, c1, if_false]
      refine back_loop l hlen a m v ham ?_ l.length 0 (by omega)
      refine Ev.step (fun k => ?_) hag
      simp only [woodcutlaw01_LeBack.l0]
      rw [if_neg (by omega)]
    · have hput : ∃ e : Int, e ≠ 0 ∧ put l at_ s n = ([], e) := by
        unfold put
        by_cases h : Right s ∧ Fits s n
        · rw [if_pos h, if_neg (fun h' => hok ⟨h, h'⟩)]
          exact ⟨3, by decide, rfl⟩
        · rw [if_neg h]
          exact ⟨1, by decide, rfl⟩
      obtain ⟨e, he, hput⟩ := hput
      rw [hput] at hp
      refine Ev.bind hp ?_
      simp only [he, if_false]
      exact hag

end Go.Proofs.Ytpaoboadccnnmaa.Pure
