/- The walk of the law CrcGood, out of what its callees tell. Written by this session's program wip/gen/wgood.py. -/
import Derived.Test.YtpaoboadccnnmaaPAx0
import Derived.Test.YtpaoboadccnnmaaPAx1
import Derived.Test.YtpaoboadccnnmaaPAx2
import Derived.Test.YtpaoboadccnnmaaPAx3
import Derived.Test.YtpaoboadccnnmaaPAx4
import Derived.Test.YtpaoboadccnnmaaPAx8
import Derived.WalkLawsBesides
import Derived.WalkSpells
import Derived.LoopTactic
import Derived.StillTailTactics
namespace Go.Proofs.Ytpaoboadccnnmaa.WG
set_option linter.unusedVariables false
set_option linter.unusedSimpArgs false
open Go Go.RowKit Go.Proofs.Ytpaoboadccnnmaa.PA Go.Proofs.YtpaoboadccnnmaaW.PrintWords Go.Proofs.YtpaoboadccnnmaaW.PrintLast Go.Proofs.YtpaoboadccnnmaaW.PrintMore

/-- The row behind i rounds. -/
def cx (j : Nat) (x : Nat → Int) (Y : List Int) : Nat → List Int
  | 0 => Y
  | i + 1 => (cx j x Y i).set (j + i) (Go.bits .xor .u8 ((cx j x Y i).getD (j + i) 0) (x i))
/-- Whether one of the first i is not 0. -/
def fl (x : Nat → Int) : Nat → Bool
  | 0 => false
  | i + 1 => fl x i || decide (x i ≠ 0)
def x4 (x0 x1 x2 x3 : Int) (i : Nat) : Int := [x0, x1, x2, x3].getD i 0
theorem cx_length (j : Nat) (x : Nat → Int) (Y : List Int) (i : Nat) : (cx j x Y i).length = Y.length := by
  induction i with
  | zero => rfl
  | succ i ih => simp [cx, ih]
theorem four_reads (w : World) (g : Nat) (hg : g = w.heap.size) : Kd.C (Kd.int .u8) (w.alloc (.cells #[.int .u8 0, .int .u8 0, .int .u8 0, .int .u8 0] 5)) (some ⟨g, 0, none⟩) 4 [0, 0, 0, 0] := by
  subst hg
  exact lit_reads w [0, 0, 0, 0] (0, 0) (by decide)
/-- A row of the call's own, not empty: its block. -/
theorem row_open {w : World} {base : Nat} {v : Value} {l : List Int} (h : Kd.R (Kd.int .u8) 5 w base (fun _ => True) v l) (hl : 0 < l.length) :
    ∃ (g cap : Nat) (cur : List Value), v = .slice (some ⟨g, 0, none⟩) l.length cap ∧ base ≤ g ∧ w.heap[g]? = some (.cells cur.toArray 5 (0, 0)) ∧ l.length ≤ cap ∧ cap ≤ maxLen ∧ cur.length = cap ∧ cur.take l.length = l.map (Value.int .u8) := by
  obtain ⟨_, inner, ⟨hlen, hown⟩, hrep⟩ := h
  rcases hown with ⟨_, h0⟩ | ⟨g, cap, cur, rfl, hb, hh, hc, hm, hs, ht⟩
  · omega
  · have hsz : (Kd.int .u8).sz = 1 := rfl
    rw [hsz, Nat.mul_one] at hlen ht hs
    refine ⟨g, cap, cur.toList, rfl, hb, by simpa using hh, hc, hm, by simpa using hs, ?_⟩
    rw [ht]
    apply List.ext_getElem?
    intro j
    rcases Nat.lt_or_ge j l.length with hj | hj
    · have hr := hrep.2 j l[j] (List.getElem?_eq_getElem hj)
      rw [hsz, Nat.mul_one] at hr
      have hr2 : (inner.drop j).take 1 = [Value.int .u8 l[j]] := hr
      have h3 : inner[j]? = some (Value.int .u8 l[j]) := by
        have h4 : ((inner.drop j).take 1)[0]? = inner[j]? := by
          rw [List.getElem?_take_of_lt (by decide), List.getElem?_drop, Nat.add_zero]
        rw [← h4, hr2]
        rfl
      rw [h3, List.getElem?_map, List.getElem?_eq_getElem hj]
      rfl
    · rw [List.getElem?_eq_none (by omega), List.getElem?_eq_none (by simpa using hj)]
theorem add_at (g i : Nat) : (⟨g, 0, none⟩ : Addr).add i = ⟨g, i, none⟩ := by
  rcases i with _ | i
  · rfl
  · simp [Addr.add]
/-- A block that is known reads. -/
theorem blk_reads {w : World} {g : Nat} {cs : List Value} {X : List Int} (h : w.heap[g]? = some (.cells cs.toArray 5 (0, 0))) (hX : X.length ≤ 9223372036854775807) (hc : ∀ i (hi : i < X.length), cs[i]? = some (.int .u8 X[i])) :
    Kd.C (Kd.int .u8) w (some ⟨g, 0, none⟩) X.length X := by
  refine Kd.C_of_reads (d := (0 : Int)) (h1 := fun _ => rfl) ⟨rfl, hX, fun _ => ⟨_, rfl, fun j hj => ?_⟩⟩
  rw [add_at]
  simp only [World.cell?, h]
  simp [hc j hj, List.getD_eq_getElem?_getD, List.getElem?_eq_getElem hj]
theorem take_at {cs : List Value} {L : List Int} {n : Nat} (h : cs.take n = L.map (Value.int .u8)) (hn : L.length = n) (t : Nat) (ht : t < n) : cs[t]? = some (.int .u8 (L.getD t 0)) := by
  have h1 : (cs.take n)[t]? = cs[t]? := by rw [List.getElem?_take_of_lt ht]
  rw [← h1, h, List.getElem?_map, List.getElem?_eq_getElem (by omega)]
  simp [List.getD_eq_getElem?_getD, List.getElem?_eq_getElem (show t < L.length by omega)]
theorem good_reads {w : World} {g : Nat} {cs : List Value} {L : List Int} (h : w.heap[g]? = some (.cells cs.toArray 5 (0, 0))) (hc : cs.take L.length = L.map (Value.int .u8)) (hm : L.length ≤ 9223372036854775807) : Kd.C (Kd.int .u8) w (some ⟨g, 0, none⟩) L.length L := by
  refine blk_reads h hm fun i hi => ?_
  rw [take_at hc rfl i hi]
  simp [List.getD_eq_getElem?_getD, List.getElem?_eq_getElem hi]
theorem blk_cell {w : World} {g : Nat} {cs : List Value} {L : List Int} {n : Nat} (h : w.heap[g]? = some (.cells cs.toArray 5 (0, 0))) (hc : cs.take n = L.map (Value.int .u8)) (hn : L.length = n) (t : Nat) (ht : t < n) : w.cell? ⟨g, t, none⟩ = some (.int .u8 (L.getD t 0)) := by
  have := take_at hc hn t ht
  simp only [World.cell?, h]
  simp [this]
theorem blk_frozen {w : World} {g t : Nat} {cs : List Value} (h : w.heap[g]? = some (.cells cs.toArray 5 (0, 0))) : w.frozen? ⟨g, t, none⟩ = false := by
  simp [World.frozen?, h]
theorem blk_set {w : World} {g : Nat} {cs : List Value} (h : w.heap[g]? = some (.cells cs.toArray 5 (0, 0))) (t : Nat) (v : Int) : (w.setCell ⟨g, t, none⟩ (.int .u8 v)).heap[g]? = some (.cells (cs.set t (.int .u8 v)).toArray 5 (0, 0)) := by
  simp only [World.setCell]
  rw [Array.getElem?_modify, if_pos rfl, h]
  simp
theorem cell_far (w : World) (p a : Addr) (v : Value) (h : p.block ≠ a.block) : (w.setCell p v).cell? a = w.cell? a := by
  simp only [World.cell?, World.setCell]
  rw [Array.getElem?_modify]
  rw [if_neg h]
theorem set_take {cs : List Value} {L : List Int} {n : Nat} (h : cs.take n = L.map (Value.int .u8)) (hn : L.length = n) (t : Nat) (v : Int) : (cs.set t (.int .u8 v)).take n = (L.set t v).map (Value.int .u8) := by
  rw [List.take_set, h, List.map_set]

theorem wrap_in_ {n : Int} (h : -9223372036854775808 ≤ n) (h2 : n ≤ 9223372036854775807) : wrap64 n = n := by
  unfold wrap64
  omega
theorem wrap_sum (j i : Nat) (hj : j ≤ 600) (hi : i < 4) : wrap64 ((j : Int) + (i : Int)) = ((j + i : Nat) : Int) := by
  rw [wrap_in_ (by omega) (by omega)]
  omega
theorem wrap_sum2 (j i : Nat) (hj : j ≤ 600) (hi : i < 4) : IntKind.i64.wrap ((j : Int) + (i : Int)) = ((j + i : Nat) : Int) := by
  rw [IntKind.wrap_i64]
  omega
theorem box_cell {w W0 wr : World} {x0 x1 x2 x3 : Int} {x : Nat → Int} (h0 : w.alloc (.cells #[.int .u8 x0, .int .u8 x1, .int .u8 x2, .int .u8 x3] 48) = W0) (hB : Below W0.heap.size W0 wr) (hx : x = x4 x0 x1 x2 x3) (i : Nat) (hi : i < 4) : wr.cell? ⟨w.heap.size, i, none⟩ = some (.int .u8 (x i)) := by
  subst hx h0
  have h1 : wr.heap[w.heap.size]? = some (.cells #[.int .u8 x0, .int .u8 x1, .int .u8 x2, .int .u8 x3] 48) := by
    rw [hB.block w.heap.size (by simp)]
    exact Array.getElem?_push_size
  simp only [World.cell?, h1]
  match i, hi with
  | 0, _ => rfl
  | 1, _ => rfl
  | 2, _ => rfl
  | 3, _ => rfl

set_option maxHeartbeats 8000000 in
set_option maxRecDepth 100000 in
theorem good_walk (l : List Int) (A0 : Option Addr) (c0 : Nat) (at_ : Int) (x0 x1 x2 x3 : Int) (s : Int) (X Y : List Int) (k : Nat) (w : World) (j : Nat) (x : Nat → Int) (hx : x = x4 x0 x1 x2 x3)
    (hr0 : Kd.C (Kd.int .u8) w A0 l.length l) (hc0 : l.length ≤ c0) (hlen : decide (600 < (l.length : Int)) = false) (hlen2 : l.length ≤ 600)
    (hT : woodcutkeep_Twin.f l = some l) (hsum : crc_Sum.f k l = some s) (hX : l ++ [0, 0, 0, 0] = X) (hput : le_Put.f k X (l.length : Int) 4 s = some (Y, 0)) (hY : Y.length = l.length + 4)
    (hy4 : decide ((Y.length : Int) < 4) = false) (hm0 : ¬ IntKind.u64.wrap (wrap64 ((Y.length : Int) - 3)) = 0)
    (hgood : crc_Good.f k Y = some true) (hj : IntKind.i64.wrap (Int.tmod (IntKind.u64.wrap at_) (IntKind.u64.wrap (wrap64 ((Y.length : Int) - 3)))) = (j : Int)) (hj2 : j ≤ l.length)
    (hgood2 : crc_Good.f k (cx j x Y 4) = some (!(fl x 4))) (hw : woodcutlaw02_wakes.f k = some true) :
    Calls Try.prog 11 #[.slice A0 l.length c0, .int .i64 at_, .agg #[.int .u8 x0, .int .u8 x1, .int .u8 x2, .int .u8 x3]] w fun e w' => e = .returned (.bool true) ∧ Below w.heap.size w w' := by
  have HR0 := Aside0.mk hr0
  have HC0 := Aside0.mk hc0
  have HT := Aside0.mk hT
  have HSUM := Aside0.mk hsum
  have HPUT := Aside0.mk hput
  have HGOOD := Aside0.mk hgood
  have HGOOD2 := Aside0.mk hgood2
  have HW := Aside0.mk hw
  have HY := Aside0.mk hY
  have HX := Aside0.mk hX
  have HXX := Aside0.mk hx
  clear hr0 hc0 hT hsum hput hgood hgood2 hw hY hX hx
  have tok1 : True := trivial
  go_enter Try.func11, Try.ntmps11
  go_wp2_with (first | (go_at_call 12; have _t := tok1; generalize hW0 : World.alloc w _ = W0; clear tok1; have HW0 := Aside0.mk hW0; have HB := Aside0.mk (Below.refl W0.heap.size W0); have n_ : Aside0 (Kd.C (Kd.int .u8) W0 A0 l.length l) := Aside0.mk (hW0 ▸ Kd.C_alloc HR0.out _); clear HR0; have HR0 := n_; clear n_ hW0; (with_reducible refine (woodcutkeep_Twin.calls _ _ l l _ ?s1 ?s2 HT.out).mono ?_); (case s1 => exact HR0.out); (case s2 => exact HC0.out); rintro e w1 ⟨v1_, rfl, ho0, hb⟩; have HO1 := Aside0.mk (Kd.R_lower ho0 (below_size (by repeat (first | (with_reducible first | exact HB.out | apply below_alloc | apply pw_below_drewN | apply below_drew1) | exact HB.out)))); have n_ := Aside0.mk (below_step (by repeat (first | (with_reducible first | exact HB.out | apply below_alloc | apply pw_below_drewN | apply below_drew1) | exact HB.out)) hb); clear HB; have HB := n_; clear n_; clear ho0 hb) | ((with_reducible refine gate_builtin (b := .append) (xs := #[.tmp 16, .tmp 17]) rfl ?_); at_builtin; refine Kd.R_append_rows (Kd.int .u8) (w0 := W0) W0.heap.size rfl (.tmp 16) (.tmp 17) 22 5 (.int .u8 0) 1 rfl Try.underlying22 info5 rfl (by decide) (by omega) v1_ l [0, 0, 0, 0] _ _ _ (fun _ => True) (fun _ => False) rfl rfl ?aO ?aR (fun _ _ h => h) (fun _ h => h.elim) ?aF ?aB ?aS ?aL ?_; (case aR => exact four_reads _ _ rfl); (case aB => exact (by repeat (first | (with_reducible first | exact HB.out | apply below_alloc | apply pw_below_drewN | apply below_drew1) | exact HB.out))); (case aF => exact (fun _ _ => trivial)); (case aO => exact (by (with_reducible repeat (first | apply Kd.R_alloc | apply Kd.R_drewN | apply Kd.R_drew)); exact HO1.out)); (case aS => exact (below_size (by repeat (first | (with_reducible first | exact HB.out | apply below_alloc | apply pw_below_drewN | apply below_drew1) | exact HB.out)))); (case aL => omega); intro v2_ w3 ho hb hg hat; rw [HX.out] at ho; have n_ := Aside0.mk hb; clear HB; have HB := n_; clear n_; have HO2 := Aside0.mk ho; clear HO1; clear ho hb hg hat; obtain ⟨A2, c2, e2_⟩ := Kd.R_slice HO2.out; subst e2_) | (go_at_call 13; (with_reducible refine (crc_Sum.calls k _ _ l s _ ?s1 ?s2 HSUM.out).mono ?_); (case s1 => (repeat (first | exact (Kd.C_below HR0.out (by repeat (first | (with_reducible first | exact HB.out | apply below_alloc | apply pw_below_drewN | apply below_drew1) | exact HB.out))) | (with_reducible refine Kd.C_alloc ?_ _) | (with_reducible refine Kd.C_drewN ?_ _) | (with_reducible refine Kd.C_drew ?_)))); (case s2 => exact HC0.out); rintro e w' ⟨rfl, ⟨nd, rfl⟩⟩) | (go_at_call 21; (with_reducible refine (le_Put.calls k _ _ X (l.length : Int) 4 s _ _ _ ?s1 ?s2 HPUT.out).mono ?_); (case s1 => (repeat (first | exact (Kd.R_reads' HO2.out).2.2 | (with_reducible refine Kd.C_alloc ?_ _) | (with_reducible refine Kd.C_drewN ?_ _) | (with_reducible refine Kd.C_drew ?_)))); (case s2 => exact (Kd.R_reads' HO2.out).2.1); rintro e w4 ⟨v4_, rfl, ho, hb⟩; have HO4 := Aside0.mk (Kd.R_lower ho (below_size (by repeat (first | (with_reducible first | exact HB.out | apply below_alloc | apply pw_below_drewN | apply below_drew1) | exact HB.out)))); have n_ := Aside0.mk (below_step (by repeat (first | (with_reducible first | exact HB.out | apply below_alloc | apply pw_below_drewN | apply below_drew1) | exact HB.out)) hb); clear HB; have HB := n_; clear n_; clear ho hb HO2; obtain ⟨g, cap, cur, rfl, hg0, hgb, hcap, hcapm, hcl, hcur⟩ := row_open HO4.out (by have := HY.out; omega); clear HO4; have HGB := Aside0.mk hgb; clear hgb; have HCUR := Aside0.mk hcur; clear hcur) | (go_at_call 17; (with_reducible refine (crc_Good.calls k _ _ Y true _ ?s1 ?s2 HGOOD.out).mono ?_); (case s1 => exact good_reads HGB.out HCUR.out (by have := HY.out; omega)); (case s2 => exact hcap); rintro e w' ⟨rfl, ⟨nd, rfl⟩⟩))
  go_loopw [9, 10] (fun v9 v10 wr => ∃ (i : Nat) (cs : List Value), i ≤ 4 ∧ v10 = .int .i64 (i : Int) ∧ v9 = .bool (fl x i) ∧ wr.heap[g]? = some (.cells cs.toArray 5 (0, 0)) ∧ cs.take Y.length = (cx j x Y i).map (Value.int .u8) ∧ Below W0.heap.size W0 wr) (fun _ v10 _ => match v10 with | .int _ i => (4 - i).toNat | _ => 0)
  case atStart => exact ⟨0, cur, by decide, rfl, rfl, HGB.out, HCUR.out, (by repeat (first | (with_reducible first | exact HB.out | apply below_alloc | apply pw_below_drewN | apply below_drew1) | exact HB.out))⟩
  case round =>
  clear HB HGB HCUR hj hm0 hy4 hlen
  obtain ⟨i, cs, hi, rfl, rfl, hgb, hcur, hB⟩ := hrel
  rcases Nat.lt_or_ge i 4 with hi4 | hi4
  · have e2 : decide ((i : Int) < 4) = true := decide_eq_true (by omega)
    have hin : j + i < Y.length := (by have := HY.out; omega)
    have hj6 : j ≤ 600 := Nat.le_trans hj2 hlen2
    have e1 : wrap64 ((j : Int) + (i : Int)) = ((j + i : Nat) : Int) := wrap_sum j i (Nat.le_trans hj2 hlen2) hi4
    obtain ⟨t, ht⟩ : ∃ t, j + i = t := ⟨_, rfl⟩
    rw [ht] at hin e1
    have HTT := Aside0.mk ht
    have i1 : (0 : Int) ≤ (t : Int) := by omega
    have i2 : (t : Int) < (Y.length : Int) := by omega
    have i3 : (0 : Int) ≤ (i : Int) := by omega
    have i4 : (i : Int) < 4 := by omega
    clear ht
    have c1 := blk_cell hgb hcur (cx_length j x Y i) t hin
    have c2 := blk_frozen (t := t) hgb
    have c3 : wr.cell? ⟨w.heap.size, i, none⟩ = some (.int .u8 (x i)) := box_cell HW0.out hB HXX.out i hi4
    have e6 : IntKind.i64.wrap ((j : Int) + (i : Int)) = (t : Int) := by rw [← HTT.out]; exact wrap_sum2 j i hj6 hi4
    go_wp2
    have d1 : ∀ (T : _) (D : _) (o : _) (u : _), World.cell? { heap := wr.heap, tape := T, drawn := D, os := o, output := u } ⟨g, t, none⟩ = some (.int .u8 ((cx j x Y i).getD t 0)) := fun _ _ _ _ => c1
    have d3 : ∀ (T : _) (D : _) (o : _) (u : _), World.cell? { heap := wr.heap, tape := T, drawn := D, os := o, output := u } ⟨w.heap.size, i, none⟩ = some (.int .u8 (x i)) := fun _ _ _ _ => c3
    go_still_tail 14, (by kernel_rfl)
    change wpList _ _ _ _ _ wr.drew
    clear d1 d3 c1 c2 c3 e6 e1
    replace hgb : wr.drew.heap[g]? = some (.cells cs.toArray 5 (0, 0)) := hgb
    replace hB : Below W0.heap.size W0 wr.drew := below_drew1 hB
    generalize wr.drew = w2 at hgb hB ⊢
    have c2 := blk_frozen (t := t) hgb
    have c1 := blk_cell hgb hcur (cx_length j x Y i) t hin
    have hne : w.heap.size < g := by have := HW0.out; subst this; simp at hg0; omega
    have c3 : ∀ v, (w2.setCell ⟨g, t, none⟩ v).cell? ⟨w.heap.size, i, none⟩ = some (.int .u8 (x i)) := fun v => by rw [cell_far w2 _ _ v (by simp; omega)]; exact box_cell HW0.out hB HXX.out i hi4
    have hxz : fl x (i + 1) = (fl x i || decide (x i ≠ 0)) := rfl
    have hs : ∀ v, (w2.setCell ⟨g, t, none⟩ (.int .u8 v)).heap[g]? = some (.cells (cs.set t (.int .u8 v)).toArray 5 (0, 0)) := fun v => blk_set hgb t v
    have hsB : ∀ v, Below W0.heap.size W0 (w2.setCell ⟨g, t, none⟩ v) := fun v => below_set hB hg0
    cases hfl : fl x i
    all_goals
      (go_wp2
       have ht := HTT.out
       subst ht
       refine ⟨⟨i + 1, _, by omega, by simp, by (first | (simp [fl, hfl]; done) | (simp [fl, hfl]; rfl) | (simp [fl, hfl, bne, ← Int.decide_eq]; done) | (by_cases hq : x i = 0 <;> simp [fl, hfl, hq])), hs _, ?_, hsB _⟩, by show ((4 : Int) - ((i : Int) + 1)).toNat < ((4 : Int) - (i : Int)).toNat; omega⟩
       exact set_take hcur (cx_length j x Y i) (j + i) _)
  · have e4 : i = 4 := by omega
    subst e4
    have e2 : decide (((4 : Nat) : Int) < 4) = false := by decide
    have HB := Aside0.mk hB
    have hZ := cx_length j x Y 4
    have HGZ := HGOOD2.out
    clear HGOOD2
    generalize cx j x Y 4 = Z at hZ HGZ hcur
    generalize fl x 4 = ff at HGZ ⊢
    have KEY := Aside0.mk (fun (W : World) (h : Kd.C (Kd.int .u8) W (some ⟨g, 0, none⟩) Z.length Z) => hZ ▸ crc_Good.calls k (some ⟨g, 0, none⟩) cap Z (!ff) W h (by omega) HGZ)
    have HRD := Aside0.mk (good_reads hgb (hZ.symm ▸ hcur) (by rw [hZ]; have := HY.out; omega))
    clear hZ hcur hgb hB HGZ
    cases ff
    all_goals
      (go_wp2_with (first | (go_at_call 17; (refine (KEY.out _ ?s1).mono ?_); (case s1 => (repeat (first | exact HRD.out | (with_reducible refine Kd.C_drewN ?_ _) | (with_reducible refine Kd.C_drew ?_)))); rintro e w' ⟨rfl, ⟨nd, rfl⟩⟩) | (go_at_call 20; (with_reducible refine (woodcutlaw02_wakes.calls k true _ HW.out).mono ?_); rintro e w6 ⟨rfl, hb⟩; have n_ := Aside0.mk (below_step (by repeat (first | (with_reducible first | exact HB.out | apply below_alloc | apply pw_below_drewN | apply below_drew1) | exact HB.out)) hb); clear HB; have HB := n_; clear n_; clear hb))
       go_ret
       exact ⟨rfl, below_weaken (HW0.out ▸ below_alloc (Below.refl _ _) _) (HW0.out ▸ below_size (below_alloc (Below.refl _ _) _)) HB.out⟩)
set_option maxHeartbeats 400000 in
set_option maxRecDepth 100000 in
/-- Too many bytes. -/
theorem long (l : List Int) (A0 : Option Addr) (c0 : Nat) (at_ x0 x1 x2 x3 : Int) (w : World) (hlen : decide (600 < (l.length : Int)) = true) :
    Calls Try.prog 11 #[.slice A0 l.length c0, .int .i64 at_, .agg #[.int .u8 x0, .int .u8 x1, .int .u8 x2, .int .u8 x3]] w fun e w' => e = .returned (.bool true) ∧ Below w.heap.size w w' := by
  go_enter Try.func11, Try.ntmps11
  go_wp2
  go_ret
  exact ⟨rfl, below_alloc (Below.refl _ _) _⟩
end Go.Proofs.Ytpaoboadccnnmaa.WG
