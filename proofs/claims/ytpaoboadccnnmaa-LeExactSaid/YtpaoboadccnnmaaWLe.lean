/- The walk of the law LeExact, way by way, out of what its callees tell. Written by this session's program wip/gen/wle.py. -/
import Derived.Test.YtpaoboadccnnmaaPAx0
import Derived.Test.YtpaoboadccnnmaaPAx1
import Derived.Test.YtpaoboadccnnmaaPAx2
import Derived.Test.YtpaoboadccnnmaaPAx3
import Derived.Test.YtpaoboadccnnmaaPAx4
import Derived.Test.YtpaoboadccnnmaaPAx8
import Derived.Test.YtpaoboadccnnmaaPAx9
import Derived.Test.YtpaoboadccnnmaaPAx10
import Derived.WalkLawsBesides
import Derived.WalkSpells
import Derived.Laws.CopyOwn
import Derived.Deep.RegionWith
namespace Go.Proofs.Ytpaoboadccnnmaa.WE
set_option linter.unusedVariables false
set_option linter.unusedSimpArgs false
open Go Go.RowKit Go.Proofs.Ytpaoboadccnnmaa.PA Go.Proofs.YtpaoboadccnnmaaW.PrintWords Go.Proofs.YtpaoboadccnnmaaW.PrintLast Go.Proofs.YtpaoboadccnnmaaW.PrintMore

/-- A row of the call's own, not empty: its block. -/
theorem row_open {w : World} {base : Nat} {v : Value} {l : List Int} (h : Kd.R (Kd.int .u8) 5 w base (fun _ => True) v l) (hl : 0 < l.length) :
    ∃ (g cap : Nat) (cur : List Value), v = .slice (some ⟨g, 0, none⟩) l.length cap ∧ base ≤ g ∧ w.heap[g]? = some (.cells cur.toArray 5 (0, 0)) ∧ l.length ≤ cap ∧ cap ≤ maxLen ∧ cur.length = cap ∧ cur.take l.length = l.map (Value.int .u8) := by
  obtain ⟨_, inner, ⟨hlen, hown⟩, hrep⟩ := h
  rcases hown with ⟨_, h0⟩ | ⟨g, cap, cur, rfl, hb, hh, hc, hm, hs, ht⟩
  · omega
  · have hsz : (Kd.int .u8).sz = 1 := rfl
    rw [hsz, Nat.mul_one] at hlen ht hs
    refine ⟨g, cap, cur.toList, rfl, hb, by simpa using hh, hc, hm, by simpa using hs, ?_⟩
    rw [ht]
    apply List.ext_getElem?
    intro j
    rcases Nat.lt_or_ge j l.length with hj | hj
    · have hr := hrep.2 j l[j] (List.getElem?_eq_getElem hj)
      rw [hsz, Nat.mul_one] at hr
      have hr2 : (inner.drop j).take 1 = [Value.int .u8 l[j]] := hr
      have h3 : inner[j]? = some (Value.int .u8 l[j]) := by
        have h4 : ((inner.drop j).take 1)[0]? = inner[j]? := by
          rw [List.getElem?_take_of_lt (by decide), List.getElem?_drop, Nat.add_zero]
        rw [← h4, hr2]
        rfl
      rw [h3, List.getElem?_map, List.getElem?_eq_getElem hj]
      rfl
    · rw [List.getElem?_eq_none (by omega), List.getElem?_eq_none (by simpa using hj)]
theorem add_at (g i : Nat) : (⟨g, 0, none⟩ : Addr).add i = ⟨g, i, none⟩ := by
  rcases i with _ | i
  · rfl
  · simp [Addr.add]
/-- A block that is known reads. -/
theorem blk_reads {w : World} {g : Nat} {cs : List Value} {X : List Int} (h : w.heap[g]? = some (.cells cs.toArray 5 (0, 0))) (hX : X.length ≤ 9223372036854775807) (hc : ∀ i (hi : i < X.length), cs[i]? = some (.int .u8 X[i])) :
    Kd.C (Kd.int .u8) w (some ⟨g, 0, none⟩) X.length X := by
  refine Kd.C_of_reads (d := (0 : Int)) (h1 := fun _ => rfl) ⟨rfl, hX, fun _ => ⟨_, rfl, fun j hj => ?_⟩⟩
  rw [add_at]
  simp only [World.cell?, h]
  simp [hc j hj, List.getD_eq_getElem?_getD, List.getElem?_eq_getElem hj]
/-- The row behind the copy reads as what is put. -/
theorem splice_reads {w : World} {g : Nat} {cur : List Value} {l D : List Int} {a : Nat} (h : w.heap[g]? = some (.cells (splice cur a (D.map (Value.int .u8))).toArray 5 (0, 0))) (hl : cur.take l.length = l.map (Value.int .u8)) (hfit : a + D.length ≤ l.length) (hm : l.length ≤ 9223372036854775807) (X : List Int) (hX : l.take a ++ D ++ l.drop (a + D.length) = X) :
    Kd.C (Kd.int .u8) w (some ⟨g, 0, none⟩) l.length X := by
  subst hX
  have hlen : (l.take a ++ D ++ l.drop (a + D.length)).length = l.length := by simp; omega
  have hcl : l.length ≤ cur.length := by
    have h2 := congrArg List.length hl
    simp at h2
    omega
  have key : ∀ i (hi : i < (l.take a ++ D ++ l.drop (a + D.length)).length), (splice cur a (D.map (Value.int .u8)))[i]? = some (.int .u8 (l.take a ++ D ++ l.drop (a + D.length))[i]) := by
    intro i hi
    have e : (splice cur a (D.map (Value.int .u8))).take l.length = (l.take a ++ D ++ l.drop (a + D.length)).map (Value.int .u8) := by
      have hc : ∀ j, j ≤ l.length → cur.take j = (l.take j).map (Value.int .u8) := fun j hj => by
        rw [List.map_take, ← hl, List.take_take, Nat.min_eq_left hj]
      have hd : (cur.drop (a + D.length)).take (l.length - (a + D.length)) = (l.drop (a + D.length)).map (Value.int .u8) := by
        rw [List.map_drop, ← hl, List.drop_take]
      have t1 : (cur.take a).take l.length = cur.take a := by rw [List.take_take, Nat.min_eq_right (by omega)]
      have t2 : (D.map (Value.int .u8)).take (l.length - a) = D.map (Value.int .u8) := List.take_of_length_le (by rw [List.length_map]; omega)
      unfold splice
      rw [List.length_map, List.map_append, List.map_append, ← hc a (by omega), ← hd, List.append_assoc, List.take_append, t1, List.length_take, Nat.min_eq_left (by omega : a ≤ cur.length), List.take_append, t2, List.length_map, Nat.sub_sub]
    have h3 : ((splice cur a (D.map (Value.int .u8))).take l.length)[i]? = (splice cur a (D.map (Value.int .u8)))[i]? := List.getElem?_take_of_lt (by omega)
    rw [← h3, e, List.getElem?_map, List.getElem?_eq_getElem hi]
    rfl
  have h5 := blk_reads h (by rw [hlen]; exact hm) key
  rw [hlen] at h5
  exact h5
/-- 'w[a:]', where something is left. -/
theorem cut_from (g n cap a : Nat) (ha : a < cap) (hn : a ≤ n) (W : World) : (Instr.slice 22 (.slice (some ⟨g, 0, none⟩) n cap) (some (.int .i64 (a : Int))) none none).run Try.prog W = .ok (.slice (some ⟨g, a, none⟩) (n - a) (cap - a)) W := by
  obtain ⟨i0_, hi0_, _, hsz0_, _⟩ := info_parts info5
  have hel : Try.prog.elem 22 = 5 := by simp [Program.elem, Try.underlying22]
  have hu : Try.prog.underlying 22 = some (.slice (Try.prog.elem 22)) := by rw [hel]; exact Try.underlying22
  have hne : ¬ cap = a := by omega
  rw [run_slice_l W 22 (some ⟨g, 0, none⟩) n cap hu .i64 (a : Int) (Int.natCast_nonneg _) (by omega), hel]
  simp [sizeOf, typeInfo, hi0_, hsz0_, sliced, Result.andThen, hne, add_at]

theorem keep_blk {w w2 : World} {g : Nat} {o : Obj} (h : w.heap[g]? = some o) (hb : Below w.drew.heap.size w.drew w2) : w2.heap[g]? = some o := by
  have hlt : g < w.heap.size := by
    rcases Nat.lt_or_ge g w.heap.size with h' | h'
    · exact h'
    · rw [Array.getElem?_eq_none h'] at h
      cases h
  exact (hb.block g hlt).trans h
theorem src_cells {w : World} {A : Option Addr} {D : List Int} (h : Kd.C (Kd.int .u8) w A D.length D) (h0 : 0 < D.length) : ∃ ad, A = some ad ∧ ∀ j v, (D.map (Value.int .u8))[j]? = some v → w.cell? (ad.add j) = some v := by
  have hr := Kd.reads_of_C (enc := Value.int .u8) (d := (0 : Int)) (h1 := fun _ => rfl) h
  obtain ⟨ad, e, hc⟩ := hr.2.2 h0
  refine ⟨ad, e, fun j v hj => ?_⟩
  have hlt : j < D.length := by
    rcases Nat.lt_or_ge j D.length with h' | h'
    · exact h'
    · rw [List.getElem?_eq_none (by simpa using h')] at hj
      cases hj
  rw [List.getElem?_map, List.getElem?_eq_getElem hlt] at hj
  rw [hc j hlt, ← Option.some.inj hj, List.getD_eq_getElem?_getD, List.getElem?_eq_getElem hlt]
  rfl
theorem ksz : (Try.prog.info? 5).map (·.size) = some 1 := by kernel_rfl
theorem copy_len (a m n : Nat) (D : List Int) (hD : D.length = m) (h : a + m ≤ n) : (D.map (Value.int .u8)).length = Nat.min D.length (n - a) := by
  rw [List.length_map, hD]
  show m = min m (n - a)
  omega
theorem copy_fit {a m n : Nat} {D : List Int} {cur : List Value} {cw : Nat} (hD : D.length = m) (h : a + m ≤ n) (hc : cur.length = cw) (hn : n ≤ cw) : a + (D.map (Value.int .u8)).length ≤ cur.length := by
  rw [List.length_map, hD, hc]
  omega
theorem one_cells (D : List Int) : ∀ v ∈ D.map (Value.int .u8), v.oneCell' = true := fun v hv => by
  obtain ⟨x, _, rfl⟩ := List.mem_map.1 hv
  rfl
theorem copy_pos {D : List Int} {w : World} {ad : Addr} {g a : Nat} (h : ∀ j v, (D.map (Value.int .u8))[j]? = some v → w.cell? (ad.add j) = some v) :
    0 < (D.map (Value.int .u8)).length → some (⟨g, a, none⟩ : Addr) = some ⟨g, a, none⟩ ∧ ∃ ad', some ad = some ad' ∧ ∀ j v, (D.map (Value.int .u8))[j]? = some v → w.cell? (ad'.add j) = some v := fun _ => ⟨rfl, ad, rfl, h⟩
set_option maxHeartbeats 8000000 in
set_option maxRecDepth 100000 in
/-- The size is none. -/
theorem no_size (l : List Int) (A0 : Option Addr) (c0 : Nat) (at_ s n up : Int) (x : List Int) (e0 y f0 : Int) (z bs : Bool) (k : Nat) (w : World)
    (hr0 : Kd.C (Kd.int .u8) w A0 l.length l) (hc0 : l.length ≤ c0)
    (hT : woodcutkeep_Twin.f l = some l) (hput : le_Put.f k l at_ s n = some (x, e0)) (hget : le_Get.f k l at_ s = some (y, f0))
    (hz : le_Zeros.f k l at_ up = some z) (hrz : woodcutref01_Zeros.f k l at_ up = some z) (hsame : woodcutkeep_Bytes.f k l l = some true)
    (hsize : woodcutref01_Size.f s = some bs) (hw : woodcutlaw01_wakes.f k = some true) (hlen : decide (500 < (l.length : Int)) = false)
    (h1 : bs = false) (h2 : x = []) (h3 : e0 = 1) (h4 : f0 = 1) (h5 : y = 0) :
    Calls Try.prog 6 #[.slice A0 l.length c0, .int .i64 at_, .int .i64 s, .int .i64 n, .int .i64 up] w fun e w' => e = .returned (.bool true) ∧ Below w.heap.size w w' := by
  subst h1 h2 h3 h4 h5
  have HR0 := Aside0.mk hr0
  have HC0 := Aside0.mk hc0
  have HT := Aside0.mk hT
  have HPUT := Aside0.mk hput
  have HGET := Aside0.mk hget
  have HZ := Aside0.mk hz
  have HRZ := Aside0.mk hrz
  have HSAME := Aside0.mk hsame
  have HSIZE := Aside0.mk hsize
  have HW := Aside0.mk hw
  clear hr0 hc0 hT hput hget hz hrz hsame hsize hw
  have HB := Aside0.mk (Below.refl w.heap.size w)
  have tok1 : True := trivial
  go_enter Try.func6, Try.ntmps6
  go_wp2_with (first | (go_at_call 12; have _t := tok1; (with_reducible refine (woodcutkeep_Twin.calls _ _ l l _ ?s1 ?s2 HT.out).mono ?_); (case s1 => (repeat (first | exact HR0.out | (with_reducible refine Kd.C_drewN ?_ _) | (with_reducible refine Kd.C_drew ?_)))); (case s2 => exact HC0.out); rintro e w' ⟨v_, rfl, ho, hb⟩; clear tok1; have n_ := Aside0.mk (Kd.C_below (by (repeat (first | exact HR0.out | (with_reducible refine Kd.C_drewN ?_ _) | (with_reducible refine Kd.C_drew ?_)))) hb); clear HR0; have HR0 := n_; clear n_; have n_ := Aside0.mk (below_step (by (repeat (first | exact HB.out | apply pw_below_drewN | apply below_drew1))) hb); clear HB; have HB := n_; clear n_; obtain ⟨Ac, cc, ev_⟩ := Kd.R_slice ho; subst ev_; have HOc := Aside0.mk ho; have HRc := Aside0.mk (Kd.R_reads' ho).2.2; have HCc := Aside0.mk (Kd.R_reads' ho).2.1; clear ho hb) | (go_at_call 21; (with_reducible refine (le_Put.calls k _ _ l at_ s n _ _ _ ?s1 ?s2 HPUT.out).mono ?_); (case s1 => (repeat (first | exact HRc.out | (with_reducible refine Kd.C_drewN ?_ _) | (with_reducible refine Kd.C_drew ?_)))); (case s2 => exact HCc.out); rintro e w' ⟨v_, rfl, ho, hb⟩; have n_ := Aside0.mk (Kd.C_below (by (repeat (first | exact HR0.out | (with_reducible refine Kd.C_drewN ?_ _) | (with_reducible refine Kd.C_drew ?_)))) hb); clear HR0; have HR0 := n_; clear n_; have n_ := Aside0.mk (Kd.C_below (by (repeat (first | exact HRc.out | (with_reducible refine Kd.C_drewN ?_ _) | (with_reducible refine Kd.C_drew ?_)))) hb); clear HRc; have HRc := n_; clear n_; have n_ := Aside0.mk (below_step (by (repeat (first | exact HB.out | apply pw_below_drewN | apply below_drew1))) hb); clear HB; have HB := n_; clear n_; obtain ⟨Ax, cx, ev_⟩ := Kd.R_slice ho; subst ev_; have HRx := Aside0.mk (Kd.R_reads' ho).2.2; have HCx := Aside0.mk (Kd.R_reads' ho).2.1; clear ho hb) | (go_at_call 22; (with_reducible refine (le_Get.calls k _ _ l at_ s _ _ _ ?s1 ?s2 HGET.out).mono ?_); (case s1 => (repeat (first | exact HRc.out | (with_reducible refine Kd.C_drewN ?_ _) | (with_reducible refine Kd.C_drew ?_)))); (case s2 => exact HCc.out); rintro e w' ⟨rfl, ⟨nd, rfl⟩⟩) | (go_at_call 23; (with_reducible refine (le_Zeros.calls k _ _ l at_ up _ _ ?s1 ?s2 HZ.out).mono ?_); (case s1 => (repeat (first | exact HRc.out | (with_reducible refine Kd.C_drewN ?_ _) | (with_reducible refine Kd.C_drew ?_)))); (case s2 => exact HCc.out); rintro e w' ⟨rfl, hb⟩; have n_ := Aside0.mk (Kd.C_below (by (repeat (first | exact HR0.out | (with_reducible refine Kd.C_drewN ?_ _) | (with_reducible refine Kd.C_drew ?_)))) hb); clear HR0; have HR0 := n_; clear n_; have n_ := Aside0.mk (Kd.C_below (by (repeat (first | exact HRc.out | (with_reducible refine Kd.C_drewN ?_ _) | (with_reducible refine Kd.C_drew ?_)))) hb); clear HRc; have HRc := n_; clear n_; have n_ := Aside0.mk (Kd.C_below (by (repeat (first | exact HRx.out | (with_reducible refine Kd.C_drewN ?_ _) | (with_reducible refine Kd.C_drew ?_)))) hb); clear HRx; have HRx := n_; clear n_; have n_ := Aside0.mk (below_step (by (repeat (first | exact HB.out | apply pw_below_drewN | apply below_drew1))) hb); clear HB; have HB := n_; clear n_; clear hb) | (go_at_call 24; (with_reducible refine (woodcutref01_Zeros.calls k _ _ l at_ up _ _ ?s1 ?s2 HRZ.out).mono ?_); (case s1 => (repeat (first | exact HR0.out | (with_reducible refine Kd.C_drewN ?_ _) | (with_reducible refine Kd.C_drew ?_)))); (case s2 => exact HC0.out); rintro e w' ⟨rfl, hb⟩; have n_ := Aside0.mk (Kd.C_below (by (repeat (first | exact HR0.out | (with_reducible refine Kd.C_drewN ?_ _) | (with_reducible refine Kd.C_drew ?_)))) hb); clear HR0; have HR0 := n_; clear n_; have n_ := Aside0.mk (Kd.C_below (by (repeat (first | exact HRc.out | (with_reducible refine Kd.C_drewN ?_ _) | (with_reducible refine Kd.C_drew ?_)))) hb); clear HRc; have HRc := n_; clear n_; have n_ := Aside0.mk (Kd.C_below (by (repeat (first | exact HRx.out | (with_reducible refine Kd.C_drewN ?_ _) | (with_reducible refine Kd.C_drew ?_)))) hb); clear HRx; have HRx := n_; clear n_; have n_ := Aside0.mk (below_step (by (repeat (first | exact HB.out | apply pw_below_drewN | apply below_drew1))) hb); clear HB; have HB := n_; clear n_; clear hb) | (go_at_call 19; (with_reducible refine (woodcutkeep_Bytes.calls k _ _ l _ _ l true _ ?s1 ?s2 ?s3 ?s4 HSAME.out).mono ?_); (case s1 => (repeat (first | exact HRc.out | (with_reducible refine Kd.C_drewN ?_ _) | (with_reducible refine Kd.C_drew ?_)))); (case s2 => exact HCc.out); (case s3 => (repeat (first | exact HR0.out | (with_reducible refine Kd.C_drewN ?_ _) | (with_reducible refine Kd.C_drew ?_)))); (case s4 => exact HC0.out); rintro e w' ⟨rfl, ⟨nd, rfl⟩⟩) | (go_at_call 25; (with_reducible refine (woodcutref01_Size.calls s _ _ HSIZE.out).mono ?_); rintro e w' ⟨rfl, ⟨nd, rfl⟩⟩) | (go_at_call 26; (with_reducible refine (woodcutlaw01_wakes.calls k true _ HW.out).mono ?_); rintro e w' ⟨rfl, hb⟩; have n_ := Aside0.mk (below_step (by (repeat (first | exact HB.out | apply pw_below_drewN | apply below_drew1))) hb); clear HB; have HB := n_; clear n_; clear hb))
  all_goals (go_ret; exact ⟨rfl, by repeat (first | exact HB.out | apply pw_below_drewN | apply below_drew1)⟩)
set_option maxHeartbeats 400000 in
set_option maxRecDepth 100000 in
/-- Too many bytes. -/
theorem long (l : List Int) (A0 : Option Addr) (c0 : Nat) (at_ s n up : Int) (w : World) (hlen : decide (500 < (l.length : Int)) = true) :
    Calls Try.prog 6 #[.slice A0 l.length c0, .int .i64 at_, .int .i64 s, .int .i64 n, .int .i64 up] w fun e w' => e = .returned (.bool true) ∧ Below w.heap.size w w' := by
  go_enter Try.func6, Try.ntmps6
  go_wp2
  go_ret
  exact ⟨rfl, Below.refl _ _⟩
set_option maxHeartbeats 8000000 in
set_option maxRecDepth 100000 in
/-- The number does not fit, and the place is none. -/
theorem no_fit_no_place1 (l : List Int) (A0 : Option Addr) (c0 : Nat) (at_ s n up : Int) (x : List Int) (e0 y f0 : Int) (z bs bf : Bool) (k : Nat) (w : World)
    (hr0 : Kd.C (Kd.int .u8) w A0 l.length l) (hc0 : l.length ≤ c0)
    (hT : woodcutkeep_Twin.f l = some l) (hput : le_Put.f k l at_ s n = some (x, e0)) (hget : le_Get.f k l at_ s = some (y, f0))
    (hz : le_Zeros.f k l at_ up = some z) (hrz : woodcutref01_Zeros.f k l at_ up = some z) (hsame : woodcutkeep_Bytes.f k l l = some true)
    (hsize : woodcutref01_Size.f s = some bs) (hfits : woodcutref01_Fits.f s n = some bf) (hw : woodcutlaw01_wakes.f k = some true) (hlen : decide (500 < (l.length : Int)) = false)
    (h1 : bs = true) (h6 : bf = false) (h2 : x = []) (h3 : e0 = 1) (h4 : f0 = 3) (h5 : y = 0)
    (p1 : decide (0 ≤ at_) = false) :
    Calls Try.prog 6 #[.slice A0 l.length c0, .int .i64 at_, .int .i64 s, .int .i64 n, .int .i64 up] w fun e w' => e = .returned (.bool true) ∧ Below w.heap.size w w' := by
  subst h1 h2 h3 h4 h5 h6
  have HR0 := Aside0.mk hr0
  have HC0 := Aside0.mk hc0
  have HT := Aside0.mk hT
  have HPUT := Aside0.mk hput
  have HGET := Aside0.mk hget
  have HZ := Aside0.mk hz
  have HRZ := Aside0.mk hrz
  have HSAME := Aside0.mk hsame
  have HSIZE := Aside0.mk hsize
  have HFITS := Aside0.mk hfits
  have HW := Aside0.mk hw
  clear hr0 hc0 hT hput hget hz hrz hsame hsize hfits hw
  have HB := Aside0.mk (Below.refl w.heap.size w)
  have tok1 : True := trivial
  go_enter Try.func6, Try.ntmps6
  go_wp2_with (first | (go_at_call 12; have _t := tok1; (with_reducible refine (woodcutkeep_Twin.calls _ _ l l _ ?s1 ?s2 HT.out).mono ?_); (case s1 => (repeat (first | exact HR0.out | (with_reducible refine Kd.C_drewN ?_ _) | (with_reducible refine Kd.C_drew ?_)))); (case s2 => exact HC0.out); rintro e w' ⟨v_, rfl, ho, hb⟩; clear tok1; have n_ := Aside0.mk (Kd.C_below (by (repeat (first | exact HR0.out | (with_reducible refine Kd.C_drewN ?_ _) | (with_reducible refine Kd.C_drew ?_)))) hb); clear HR0; have HR0 := n_; clear n_; have n_ := Aside0.mk (below_step (by (repeat (first | exact HB.out | apply pw_below_drewN | apply below_drew1))) hb); clear HB; have HB := n_; clear n_; obtain ⟨Ac, cc, ev_⟩ := Kd.R_slice ho; subst ev_; have HOc := Aside0.mk ho; have HRc := Aside0.mk (Kd.R_reads' ho).2.2; have HCc := Aside0.mk (Kd.R_reads' ho).2.1; clear ho hb) | (go_at_call 21; (with_reducible refine (le_Put.calls k _ _ l at_ s n _ _ _ ?s1 ?s2 HPUT.out).mono ?_); (case s1 => (repeat (first | exact HRc.out | (with_reducible refine Kd.C_drewN ?_ _) | (with_reducible refine Kd.C_drew ?_)))); (case s2 => exact HCc.out); rintro e w' ⟨v_, rfl, ho, hb⟩; have n_ := Aside0.mk (Kd.C_below (by (repeat (first | exact HR0.out | (with_reducible refine Kd.C_drewN ?_ _) | (with_reducible refine Kd.C_drew ?_)))) hb); clear HR0; have HR0 := n_; clear n_; have n_ := Aside0.mk (Kd.C_below (by (repeat (first | exact HRc.out | (with_reducible refine Kd.C_drewN ?_ _) | (with_reducible refine Kd.C_drew ?_)))) hb); clear HRc; have HRc := n_; clear n_; have n_ := Aside0.mk (below_step (by (repeat (first | exact HB.out | apply pw_below_drewN | apply below_drew1))) hb); clear HB; have HB := n_; clear n_; obtain ⟨Ax, cx, ev_⟩ := Kd.R_slice ho; subst ev_; have HRx := Aside0.mk (Kd.R_reads' ho).2.2; have HCx := Aside0.mk (Kd.R_reads' ho).2.1; clear ho hb) | (go_at_call 22; (with_reducible refine (le_Get.calls k _ _ l at_ s _ _ _ ?s1 ?s2 HGET.out).mono ?_); (case s1 => (repeat (first | exact HRc.out | (with_reducible refine Kd.C_drewN ?_ _) | (with_reducible refine Kd.C_drew ?_)))); (case s2 => exact HCc.out); rintro e w' ⟨rfl, ⟨nd, rfl⟩⟩) | (go_at_call 23; (with_reducible refine (le_Zeros.calls k _ _ l at_ up _ _ ?s1 ?s2 HZ.out).mono ?_); (case s1 => (repeat (first | exact HRc.out | (with_reducible refine Kd.C_drewN ?_ _) | (with_reducible refine Kd.C_drew ?_)))); (case s2 => exact HCc.out); rintro e w' ⟨rfl, hb⟩; have n_ := Aside0.mk (Kd.C_below (by (repeat (first | exact HR0.out | (with_reducible refine Kd.C_drewN ?_ _) | (with_reducible refine Kd.C_drew ?_)))) hb); clear HR0; have HR0 := n_; clear n_; have n_ := Aside0.mk (Kd.C_below (by (repeat (first | exact HRc.out | (with_reducible refine Kd.C_drewN ?_ _) | (with_reducible refine Kd.C_drew ?_)))) hb); clear HRc; have HRc := n_; clear n_; have n_ := Aside0.mk (Kd.C_below (by (repeat (first | exact HRx.out | (with_reducible refine Kd.C_drewN ?_ _) | (with_reducible refine Kd.C_drew ?_)))) hb); clear HRx; have HRx := n_; clear n_; have n_ := Aside0.mk (below_step (by (repeat (first | exact HB.out | apply pw_below_drewN | apply below_drew1))) hb); clear HB; have HB := n_; clear n_; clear hb) | (go_at_call 24; (with_reducible refine (woodcutref01_Zeros.calls k _ _ l at_ up _ _ ?s1 ?s2 HRZ.out).mono ?_); (case s1 => (repeat (first | exact HR0.out | (with_reducible refine Kd.C_drewN ?_ _) | (with_reducible refine Kd.C_drew ?_)))); (case s2 => exact HC0.out); rintro e w' ⟨rfl, hb⟩; have n_ := Aside0.mk (Kd.C_below (by (repeat (first | exact HR0.out | (with_reducible refine Kd.C_drewN ?_ _) | (with_reducible refine Kd.C_drew ?_)))) hb); clear HR0; have HR0 := n_; clear n_; have n_ := Aside0.mk (Kd.C_below (by (repeat (first | exact HRc.out | (with_reducible refine Kd.C_drewN ?_ _) | (with_reducible refine Kd.C_drew ?_)))) hb); clear HRc; have HRc := n_; clear n_; have n_ := Aside0.mk (Kd.C_below (by (repeat (first | exact HRx.out | (with_reducible refine Kd.C_drewN ?_ _) | (with_reducible refine Kd.C_drew ?_)))) hb); clear HRx; have HRx := n_; clear n_; have n_ := Aside0.mk (below_step (by (repeat (first | exact HB.out | apply pw_below_drewN | apply below_drew1))) hb); clear HB; have HB := n_; clear n_; clear hb) | (go_at_call 19; (with_reducible refine (woodcutkeep_Bytes.calls k _ _ l _ _ l true _ ?s1 ?s2 ?s3 ?s4 HSAME.out).mono ?_); (case s1 => (repeat (first | exact HRc.out | (with_reducible refine Kd.C_drewN ?_ _) | (with_reducible refine Kd.C_drew ?_)))); (case s2 => exact HCc.out); (case s3 => (repeat (first | exact HR0.out | (with_reducible refine Kd.C_drewN ?_ _) | (with_reducible refine Kd.C_drew ?_)))); (case s4 => exact HC0.out); rintro e w' ⟨rfl, ⟨nd, rfl⟩⟩) | (go_at_call 25; (with_reducible refine (woodcutref01_Size.calls s _ _ HSIZE.out).mono ?_); rintro e w' ⟨rfl, ⟨nd, rfl⟩⟩) | (go_at_call 27; (with_reducible refine (woodcutref01_Fits.calls s n _ _ HFITS.out).mono ?_); rintro e w' ⟨rfl, ⟨nd, rfl⟩⟩) | (go_at_call 26; (with_reducible refine (woodcutlaw01_wakes.calls k true _ HW.out).mono ?_); rintro e w' ⟨rfl, hb⟩; have n_ := Aside0.mk (below_step (by (repeat (first | exact HB.out | apply pw_below_drewN | apply below_drew1))) hb); clear HB; have HB := n_; clear n_; clear hb))
  all_goals (go_ret; exact ⟨rfl, by repeat (first | exact HB.out | apply pw_below_drewN | apply below_drew1)⟩)
set_option maxHeartbeats 8000000 in
set_option maxRecDepth 100000 in
/-- The number fits, and the place is none. -/
theorem no_place1 (l : List Int) (A0 : Option Addr) (c0 : Nat) (at_ s n up : Int) (x : List Int) (e0 y f0 : Int) (z bs bf : Bool) (k : Nat) (w : World)
    (hr0 : Kd.C (Kd.int .u8) w A0 l.length l) (hc0 : l.length ≤ c0)
    (hT : woodcutkeep_Twin.f l = some l) (hput : le_Put.f k l at_ s n = some (x, e0)) (hget : le_Get.f k l at_ s = some (y, f0))
    (hz : le_Zeros.f k l at_ up = some z) (hrz : woodcutref01_Zeros.f k l at_ up = some z) (hsame : woodcutkeep_Bytes.f k l l = some true)
    (hsize : woodcutref01_Size.f s = some bs) (hfits : woodcutref01_Fits.f s n = some bf) (hw : woodcutlaw01_wakes.f k = some true) (hlen : decide (500 < (l.length : Int)) = false)
    (h1 : bs = true) (h6 : bf = true) (h2 : x = []) (h3 : e0 = 3) (h4 : f0 = 3) (h5 : y = 0)
    (p1 : decide (0 ≤ at_) = false) :
    Calls Try.prog 6 #[.slice A0 l.length c0, .int .i64 at_, .int .i64 s, .int .i64 n, .int .i64 up] w fun e w' => e = .returned (.bool true) ∧ Below w.heap.size w w' := by
  subst h1 h2 h3 h4 h5 h6
  have HR0 := Aside0.mk hr0
  have HC0 := Aside0.mk hc0
  have HT := Aside0.mk hT
  have HPUT := Aside0.mk hput
  have HGET := Aside0.mk hget
  have HZ := Aside0.mk hz
  have HRZ := Aside0.mk hrz
  have HSAME := Aside0.mk hsame
  have HSIZE := Aside0.mk hsize
  have HFITS := Aside0.mk hfits
  have HW := Aside0.mk hw
  clear hr0 hc0 hT hput hget hz hrz hsame hsize hfits hw
  have HB := Aside0.mk (Below.refl w.heap.size w)
  have tok1 : True := trivial
  go_enter Try.func6, Try.ntmps6
  go_wp2_with (first | (go_at_call 12; have _t := tok1; (with_reducible refine (woodcutkeep_Twin.calls _ _ l l _ ?s1 ?s2 HT.out).mono ?_); (case s1 => (repeat (first | exact HR0.out | (with_reducible refine Kd.C_drewN ?_ _) | (with_reducible refine Kd.C_drew ?_)))); (case s2 => exact HC0.out); rintro e w' ⟨v_, rfl, ho, hb⟩; clear tok1; have n_ := Aside0.mk (Kd.C_below (by (repeat (first | exact HR0.out | (with_reducible refine Kd.C_drewN ?_ _) | (with_reducible refine Kd.C_drew ?_)))) hb); clear HR0; have HR0 := n_; clear n_; have n_ := Aside0.mk (below_step (by (repeat (first | exact HB.out | apply pw_below_drewN | apply below_drew1))) hb); clear HB; have HB := n_; clear n_; obtain ⟨Ac, cc, ev_⟩ := Kd.R_slice ho; subst ev_; have HOc := Aside0.mk ho; have HRc := Aside0.mk (Kd.R_reads' ho).2.2; have HCc := Aside0.mk (Kd.R_reads' ho).2.1; clear ho hb) | (go_at_call 21; (with_reducible refine (le_Put.calls k _ _ l at_ s n _ _ _ ?s1 ?s2 HPUT.out).mono ?_); (case s1 => (repeat (first | exact HRc.out | (with_reducible refine Kd.C_drewN ?_ _) | (with_reducible refine Kd.C_drew ?_)))); (case s2 => exact HCc.out); rintro e w' ⟨v_, rfl, ho, hb⟩; have n_ := Aside0.mk (Kd.C_below (by (repeat (first | exact HR0.out | (with_reducible refine Kd.C_drewN ?_ _) | (with_reducible refine Kd.C_drew ?_)))) hb); clear HR0; have HR0 := n_; clear n_; have n_ := Aside0.mk (Kd.C_below (by (repeat (first | exact HRc.out | (with_reducible refine Kd.C_drewN ?_ _) | (with_reducible refine Kd.C_drew ?_)))) hb); clear HRc; have HRc := n_; clear n_; have n_ := Aside0.mk (below_step (by (repeat (first | exact HB.out | apply pw_below_drewN | apply below_drew1))) hb); clear HB; have HB := n_; clear n_; obtain ⟨Ax, cx, ev_⟩ := Kd.R_slice ho; subst ev_; have HRx := Aside0.mk (Kd.R_reads' ho).2.2; have HCx := Aside0.mk (Kd.R_reads' ho).2.1; clear ho hb) | (go_at_call 22; (with_reducible refine (le_Get.calls k _ _ l at_ s _ _ _ ?s1 ?s2 HGET.out).mono ?_); (case s1 => (repeat (first | exact HRc.out | (with_reducible refine Kd.C_drewN ?_ _) | (with_reducible refine Kd.C_drew ?_)))); (case s2 => exact HCc.out); rintro e w' ⟨rfl, ⟨nd, rfl⟩⟩) | (go_at_call 23; (with_reducible refine (le_Zeros.calls k _ _ l at_ up _ _ ?s1 ?s2 HZ.out).mono ?_); (case s1 => (repeat (first | exact HRc.out | (with_reducible refine Kd.C_drewN ?_ _) | (with_reducible refine Kd.C_drew ?_)))); (case s2 => exact HCc.out); rintro e w' ⟨rfl, hb⟩; have n_ := Aside0.mk (Kd.C_below (by (repeat (first | exact HR0.out | (with_reducible refine Kd.C_drewN ?_ _) | (with_reducible refine Kd.C_drew ?_)))) hb); clear HR0; have HR0 := n_; clear n_; have n_ := Aside0.mk (Kd.C_below (by (repeat (first | exact HRc.out | (with_reducible refine Kd.C_drewN ?_ _) | (with_reducible refine Kd.C_drew ?_)))) hb); clear HRc; have HRc := n_; clear n_; have n_ := Aside0.mk (Kd.C_below (by (repeat (first | exact HRx.out | (with_reducible refine Kd.C_drewN ?_ _) | (with_reducible refine Kd.C_drew ?_)))) hb); clear HRx; have HRx := n_; clear n_; have n_ := Aside0.mk (below_step (by (repeat (first | exact HB.out | apply pw_below_drewN | apply below_drew1))) hb); clear HB; have HB := n_; clear n_; clear hb) | (go_at_call 24; (with_reducible refine (woodcutref01_Zeros.calls k _ _ l at_ up _ _ ?s1 ?s2 HRZ.out).mono ?_); (case s1 => (repeat (first | exact HR0.out | (with_reducible refine Kd.C_drewN ?_ _) | (with_reducible refine Kd.C_drew ?_)))); (case s2 => exact HC0.out); rintro e w' ⟨rfl, hb⟩; have n_ := Aside0.mk (Kd.C_below (by (repeat (first | exact HR0.out | (with_reducible refine Kd.C_drewN ?_ _) | (with_reducible refine Kd.C_drew ?_)))) hb); clear HR0; have HR0 := n_; clear n_; have n_ := Aside0.mk (Kd.C_below (by (repeat (first | exact HRc.out | (with_reducible refine Kd.C_drewN ?_ _) | (with_reducible refine Kd.C_drew ?_)))) hb); clear HRc; have HRc := n_; clear n_; have n_ := Aside0.mk (Kd.C_below (by (repeat (first | exact HRx.out | (with_reducible refine Kd.C_drewN ?_ _) | (with_reducible refine Kd.C_drew ?_)))) hb); clear HRx; have HRx := n_; clear n_; have n_ := Aside0.mk (below_step (by (repeat (first | exact HB.out | apply pw_below_drewN | apply below_drew1))) hb); clear HB; have HB := n_; clear n_; clear hb) | (go_at_call 19; (with_reducible refine (woodcutkeep_Bytes.calls k _ _ l _ _ l true _ ?s1 ?s2 ?s3 ?s4 HSAME.out).mono ?_); (case s1 => (repeat (first | exact HRc.out | (with_reducible refine Kd.C_drewN ?_ _) | (with_reducible refine Kd.C_drew ?_)))); (case s2 => exact HCc.out); (case s3 => (repeat (first | exact HR0.out | (with_reducible refine Kd.C_drewN ?_ _) | (with_reducible refine Kd.C_drew ?_)))); (case s4 => exact HC0.out); rintro e w' ⟨rfl, ⟨nd, rfl⟩⟩) | (go_at_call 25; (with_reducible refine (woodcutref01_Size.calls s _ _ HSIZE.out).mono ?_); rintro e w' ⟨rfl, ⟨nd, rfl⟩⟩) | (go_at_call 27; (with_reducible refine (woodcutref01_Fits.calls s n _ _ HFITS.out).mono ?_); rintro e w' ⟨rfl, ⟨nd, rfl⟩⟩) | (go_at_call 26; (with_reducible refine (woodcutlaw01_wakes.calls k true _ HW.out).mono ?_); rintro e w' ⟨rfl, hb⟩; have n_ := Aside0.mk (below_step (by (repeat (first | exact HB.out | apply pw_below_drewN | apply below_drew1))) hb); clear HB; have HB := n_; clear n_; clear hb))
  all_goals (go_ret; exact ⟨rfl, by repeat (first | exact HB.out | apply pw_below_drewN | apply below_drew1)⟩)
set_option maxHeartbeats 8000000 in
set_option maxRecDepth 100000 in
/-- The number does not fit, and the place is none. -/
theorem no_fit_no_place2 (l : List Int) (A0 : Option Addr) (c0 : Nat) (at_ s n up : Int) (x : List Int) (e0 y f0 : Int) (z bs bf : Bool) (k : Nat) (w : World)
    (hr0 : Kd.C (Kd.int .u8) w A0 l.length l) (hc0 : l.length ≤ c0)
    (hT : woodcutkeep_Twin.f l = some l) (hput : le_Put.f k l at_ s n = some (x, e0)) (hget : le_Get.f k l at_ s = some (y, f0))
    (hz : le_Zeros.f k l at_ up = some z) (hrz : woodcutref01_Zeros.f k l at_ up = some z) (hsame : woodcutkeep_Bytes.f k l l = some true)
    (hsize : woodcutref01_Size.f s = some bs) (hfits : woodcutref01_Fits.f s n = some bf) (hw : woodcutlaw01_wakes.f k = some true) (hlen : decide (500 < (l.length : Int)) = false)
    (h1 : bs = true) (h6 : bf = false) (h2 : x = []) (h3 : e0 = 1) (h4 : f0 = 3) (h5 : y = 0)
    (p1 : 0 ≤ at_) (p2 : (l.length : Int) < at_) :
    Calls Try.prog 6 #[.slice A0 l.length c0, .int .i64 at_, .int .i64 s, .int .i64 n, .int .i64 up] w fun e w' => e = .returned (.bool true) ∧ Below w.heap.size w w' := by
  subst h1 h2 h3 h4 h5 h6
  have q2 : decide (at_ ≤ (l.length : Int)) = false := decide_eq_false (by omega)
  have HR0 := Aside0.mk hr0
  have HC0 := Aside0.mk hc0
  have HT := Aside0.mk hT
  have HPUT := Aside0.mk hput
  have HGET := Aside0.mk hget
  have HZ := Aside0.mk hz
  have HRZ := Aside0.mk hrz
  have HSAME := Aside0.mk hsame
  have HSIZE := Aside0.mk hsize
  have HFITS := Aside0.mk hfits
  have HW := Aside0.mk hw
  clear hr0 hc0 hT hput hget hz hrz hsame hsize hfits hw
  have HB := Aside0.mk (Below.refl w.heap.size w)
  have tok1 : True := trivial
  go_enter Try.func6, Try.ntmps6
  go_wp2_with (first | (go_at_call 12; have _t := tok1; (with_reducible refine (woodcutkeep_Twin.calls _ _ l l _ ?s1 ?s2 HT.out).mono ?_); (case s1 => (repeat (first | exact HR0.out | (with_reducible refine Kd.C_drewN ?_ _) | (with_reducible refine Kd.C_drew ?_)))); (case s2 => exact HC0.out); rintro e w' ⟨v_, rfl, ho, hb⟩; clear tok1; have n_ := Aside0.mk (Kd.C_below (by (repeat (first | exact HR0.out | (with_reducible refine Kd.C_drewN ?_ _) | (with_reducible refine Kd.C_drew ?_)))) hb); clear HR0; have HR0 := n_; clear n_; have n_ := Aside0.mk (below_step (by (repeat (first | exact HB.out | apply pw_below_drewN | apply below_drew1))) hb); clear HB; have HB := n_; clear n_; obtain ⟨Ac, cc, ev_⟩ := Kd.R_slice ho; subst ev_; have HOc := Aside0.mk ho; have HRc := Aside0.mk (Kd.R_reads' ho).2.2; have HCc := Aside0.mk (Kd.R_reads' ho).2.1; clear ho hb) | (go_at_call 21; (with_reducible refine (le_Put.calls k _ _ l at_ s n _ _ _ ?s1 ?s2 HPUT.out).mono ?_); (case s1 => (repeat (first | exact HRc.out | (with_reducible refine Kd.C_drewN ?_ _) | (with_reducible refine Kd.C_drew ?_)))); (case s2 => exact HCc.out); rintro e w' ⟨v_, rfl, ho, hb⟩; have n_ := Aside0.mk (Kd.C_below (by (repeat (first | exact HR0.out | (with_reducible refine Kd.C_drewN ?_ _) | (with_reducible refine Kd.C_drew ?_)))) hb); clear HR0; have HR0 := n_; clear n_; have n_ := Aside0.mk (Kd.C_below (by (repeat (first | exact HRc.out | (with_reducible refine Kd.C_drewN ?_ _) | (with_reducible refine Kd.C_drew ?_)))) hb); clear HRc; have HRc := n_; clear n_; have n_ := Aside0.mk (below_step (by (repeat (first | exact HB.out | apply pw_below_drewN | apply below_drew1))) hb); clear HB; have HB := n_; clear n_; obtain ⟨Ax, cx, ev_⟩ := Kd.R_slice ho; subst ev_; have HRx := Aside0.mk (Kd.R_reads' ho).2.2; have HCx := Aside0.mk (Kd.R_reads' ho).2.1; clear ho hb) | (go_at_call 22; (with_reducible refine (le_Get.calls k _ _ l at_ s _ _ _ ?s1 ?s2 HGET.out).mono ?_); (case s1 => (repeat (first | exact HRc.out | (with_reducible refine Kd.C_drewN ?_ _) | (with_reducible refine Kd.C_drew ?_)))); (case s2 => exact HCc.out); rintro e w' ⟨rfl, ⟨nd, rfl⟩⟩) | (go_at_call 23; (with_reducible refine (le_Zeros.calls k _ _ l at_ up _ _ ?s1 ?s2 HZ.out).mono ?_); (case s1 => (repeat (first | exact HRc.out | (with_reducible refine Kd.C_drewN ?_ _) | (with_reducible refine Kd.C_drew ?_)))); (case s2 => exact HCc.out); rintro e w' ⟨rfl, hb⟩; have n_ := Aside0.mk (Kd.C_below (by (repeat (first | exact HR0.out | (with_reducible refine Kd.C_drewN ?_ _) | (with_reducible refine Kd.C_drew ?_)))) hb); clear HR0; have HR0 := n_; clear n_; have n_ := Aside0.mk (Kd.C_below (by (repeat (first | exact HRc.out | (with_reducible refine Kd.C_drewN ?_ _) | (with_reducible refine Kd.C_drew ?_)))) hb); clear HRc; have HRc := n_; clear n_; have n_ := Aside0.mk (Kd.C_below (by (repeat (first | exact HRx.out | (with_reducible refine Kd.C_drewN ?_ _) | (with_reducible refine Kd.C_drew ?_)))) hb); clear HRx; have HRx := n_; clear n_; have n_ := Aside0.mk (below_step (by (repeat (first | exact HB.out | apply pw_below_drewN | apply below_drew1))) hb); clear HB; have HB := n_; clear n_; clear hb) | (go_at_call 24; (with_reducible refine (woodcutref01_Zeros.calls k _ _ l at_ up _ _ ?s1 ?s2 HRZ.out).mono ?_); (case s1 => (repeat (first | exact HR0.out | (with_reducible refine Kd.C_drewN ?_ _) | (with_reducible refine Kd.C_drew ?_)))); (case s2 => exact HC0.out); rintro e w' ⟨rfl, hb⟩; have n_ := Aside0.mk (Kd.C_below (by (repeat (first | exact HR0.out | (with_reducible refine Kd.C_drewN ?_ _) | (with_reducible refine Kd.C_drew ?_)))) hb); clear HR0; have HR0 := n_; clear n_; have n_ := Aside0.mk (Kd.C_below (by (repeat (first | exact HRc.out | (with_reducible refine Kd.C_drewN ?_ _) | (with_reducible refine Kd.C_drew ?_)))) hb); clear HRc; have HRc := n_; clear n_; have n_ := Aside0.mk (Kd.C_below (by (repeat (first | exact HRx.out | (with_reducible refine Kd.C_drewN ?_ _) | (with_reducible refine Kd.C_drew ?_)))) hb); clear HRx; have HRx := n_; clear n_; have n_ := Aside0.mk (below_step (by (repeat (first | exact HB.out | apply pw_below_drewN | apply below_drew1))) hb); clear HB; have HB := n_; clear n_; clear hb) | (go_at_call 19; (with_reducible refine (woodcutkeep_Bytes.calls k _ _ l _ _ l true _ ?s1 ?s2 ?s3 ?s4 HSAME.out).mono ?_); (case s1 => (repeat (first | exact HRc.out | (with_reducible refine Kd.C_drewN ?_ _) | (with_reducible refine Kd.C_drew ?_)))); (case s2 => exact HCc.out); (case s3 => (repeat (first | exact HR0.out | (with_reducible refine Kd.C_drewN ?_ _) | (with_reducible refine Kd.C_drew ?_)))); (case s4 => exact HC0.out); rintro e w' ⟨rfl, ⟨nd, rfl⟩⟩) | (go_at_call 25; (with_reducible refine (woodcutref01_Size.calls s _ _ HSIZE.out).mono ?_); rintro e w' ⟨rfl, ⟨nd, rfl⟩⟩) | (go_at_call 27; (with_reducible refine (woodcutref01_Fits.calls s n _ _ HFITS.out).mono ?_); rintro e w' ⟨rfl, ⟨nd, rfl⟩⟩) | (go_at_call 26; (with_reducible refine (woodcutlaw01_wakes.calls k true _ HW.out).mono ?_); rintro e w' ⟨rfl, hb⟩; have n_ := Aside0.mk (below_step (by (repeat (first | exact HB.out | apply pw_below_drewN | apply below_drew1))) hb); clear HB; have HB := n_; clear n_; clear hb))
  all_goals (go_ret; exact ⟨rfl, by repeat (first | exact HB.out | apply pw_below_drewN | apply below_drew1)⟩)
set_option maxHeartbeats 8000000 in
set_option maxRecDepth 100000 in
/-- The number fits, and the place is none. -/
theorem no_place2 (l : List Int) (A0 : Option Addr) (c0 : Nat) (at_ s n up : Int) (x : List Int) (e0 y f0 : Int) (z bs bf : Bool) (k : Nat) (w : World)
    (hr0 : Kd.C (Kd.int .u8) w A0 l.length l) (hc0 : l.length ≤ c0)
    (hT : woodcutkeep_Twin.f l = some l) (hput : le_Put.f k l at_ s n = some (x, e0)) (hget : le_Get.f k l at_ s = some (y, f0))
    (hz : le_Zeros.f k l at_ up = some z) (hrz : woodcutref01_Zeros.f k l at_ up = some z) (hsame : woodcutkeep_Bytes.f k l l = some true)
    (hsize : woodcutref01_Size.f s = some bs) (hfits : woodcutref01_Fits.f s n = some bf) (hw : woodcutlaw01_wakes.f k = some true) (hlen : decide (500 < (l.length : Int)) = false)
    (h1 : bs = true) (h6 : bf = true) (h2 : x = []) (h3 : e0 = 3) (h4 : f0 = 3) (h5 : y = 0)
    (p1 : 0 ≤ at_) (p2 : (l.length : Int) < at_) :
    Calls Try.prog 6 #[.slice A0 l.length c0, .int .i64 at_, .int .i64 s, .int .i64 n, .int .i64 up] w fun e w' => e = .returned (.bool true) ∧ Below w.heap.size w w' := by
  subst h1 h2 h3 h4 h5 h6
  have q2 : decide (at_ ≤ (l.length : Int)) = false := decide_eq_false (by omega)
  have HR0 := Aside0.mk hr0
  have HC0 := Aside0.mk hc0
  have HT := Aside0.mk hT
  have HPUT := Aside0.mk hput
  have HGET := Aside0.mk hget
  have HZ := Aside0.mk hz
  have HRZ := Aside0.mk hrz
  have HSAME := Aside0.mk hsame
  have HSIZE := Aside0.mk hsize
  have HFITS := Aside0.mk hfits
  have HW := Aside0.mk hw
  clear hr0 hc0 hT hput hget hz hrz hsame hsize hfits hw
  have HB := Aside0.mk (Below.refl w.heap.size w)
  have tok1 : True := trivial
  go_enter Try.func6, Try.ntmps6
  go_wp2_with (first | (go_at_call 12; have _t := tok1; (with_reducible refine (woodcutkeep_Twin.calls _ _ l l _ ?s1 ?s2 HT.out).mono ?_); (case s1 => (repeat (first | exact HR0.out | (with_reducible refine Kd.C_drewN ?_ _) | (with_reducible refine Kd.C_drew ?_)))); (case s2 => exact HC0.out); rintro e w' ⟨v_, rfl, ho, hb⟩; clear tok1; have n_ := Aside0.mk (Kd.C_below (by (repeat (first | exact HR0.out | (with_reducible refine Kd.C_drewN ?_ _) | (with_reducible refine Kd.C_drew ?_)))) hb); clear HR0; have HR0 := n_; clear n_; have n_ := Aside0.mk (below_step (by (repeat (first | exact HB.out | apply pw_below_drewN | apply below_drew1))) hb); clear HB; have HB := n_; clear n_; obtain ⟨Ac, cc, ev_⟩ := Kd.R_slice ho; subst ev_; have HOc := Aside0.mk ho; have HRc := Aside0.mk (Kd.R_reads' ho).2.2; have HCc := Aside0.mk (Kd.R_reads' ho).2.1; clear ho hb) | (go_at_call 21; (with_reducible refine (le_Put.calls k _ _ l at_ s n _ _ _ ?s1 ?s2 HPUT.out).mono ?_); (case s1 => (repeat (first | exact HRc.out | (with_reducible refine Kd.C_drewN ?_ _) | (with_reducible refine Kd.C_drew ?_)))); (case s2 => exact HCc.out); rintro e w' ⟨v_, rfl, ho, hb⟩; have n_ := Aside0.mk (Kd.C_below (by (repeat (first | exact HR0.out | (with_reducible refine Kd.C_drewN ?_ _) | (with_reducible refine Kd.C_drew ?_)))) hb); clear HR0; have HR0 := n_; clear n_; have n_ := Aside0.mk (Kd.C_below (by (repeat (first | exact HRc.out | (with_reducible refine Kd.C_drewN ?_ _) | (with_reducible refine Kd.C_drew ?_)))) hb); clear HRc; have HRc := n_; clear n_; have n_ := Aside0.mk (below_step (by (repeat (first | exact HB.out | apply pw_below_drewN | apply below_drew1))) hb); clear HB; have HB := n_; clear n_; obtain ⟨Ax, cx, ev_⟩ := Kd.R_slice ho; subst ev_; have HRx := Aside0.mk (Kd.R_reads' ho).2.2; have HCx := Aside0.mk (Kd.R_reads' ho).2.1; clear ho hb) | (go_at_call 22; (with_reducible refine (le_Get.calls k _ _ l at_ s _ _ _ ?s1 ?s2 HGET.out).mono ?_); (case s1 => (repeat (first | exact HRc.out | (with_reducible refine Kd.C_drewN ?_ _) | (with_reducible refine Kd.C_drew ?_)))); (case s2 => exact HCc.out); rintro e w' ⟨rfl, ⟨nd, rfl⟩⟩) | (go_at_call 23; (with_reducible refine (le_Zeros.calls k _ _ l at_ up _ _ ?s1 ?s2 HZ.out).mono ?_); (case s1 => (repeat (first | exact HRc.out | (with_reducible refine Kd.C_drewN ?_ _) | (with_reducible refine Kd.C_drew ?_)))); (case s2 => exact HCc.out); rintro e w' ⟨rfl, hb⟩; have n_ := Aside0.mk (Kd.C_below (by (repeat (first | exact HR0.out | (with_reducible refine Kd.C_drewN ?_ _) | (with_reducible refine Kd.C_drew ?_)))) hb); clear HR0; have HR0 := n_; clear n_; have n_ := Aside0.mk (Kd.C_below (by (repeat (first | exact HRc.out | (with_reducible refine Kd.C_drewN ?_ _) | (with_reducible refine Kd.C_drew ?_)))) hb); clear HRc; have HRc := n_; clear n_; have n_ := Aside0.mk (Kd.C_below (by (repeat (first | exact HRx.out | (with_reducible refine Kd.C_drewN ?_ _) | (with_reducible refine Kd.C_drew ?_)))) hb); clear HRx; have HRx := n_; clear n_; have n_ := Aside0.mk (below_step (by (repeat (first | exact HB.out | apply pw_below_drewN | apply below_drew1))) hb); clear HB; have HB := n_; clear n_; clear hb) | (go_at_call 24; (with_reducible refine (woodcutref01_Zeros.calls k _ _ l at_ up _ _ ?s1 ?s2 HRZ.out).mono ?_); (case s1 => (repeat (first | exact HR0.out | (with_reducible refine Kd.C_drewN ?_ _) | (with_reducible refine Kd.C_drew ?_)))); (case s2 => exact HC0.out); rintro e w' ⟨rfl, hb⟩; have n_ := Aside0.mk (Kd.C_below (by (repeat (first | exact HR0.out | (with_reducible refine Kd.C_drewN ?_ _) | (with_reducible refine Kd.C_drew ?_)))) hb); clear HR0; have HR0 := n_; clear n_; have n_ := Aside0.mk (Kd.C_below (by (repeat (first | exact HRc.out | (with_reducible refine Kd.C_drewN ?_ _) | (with_reducible refine Kd.C_drew ?_)))) hb); clear HRc; have HRc := n_; clear n_; have n_ := Aside0.mk (Kd.C_below (by (repeat (first | exact HRx.out | (with_reducible refine Kd.C_drewN ?_ _) | (with_reducible refine Kd.C_drew ?_)))) hb); clear HRx; have HRx := n_; clear n_; have n_ := Aside0.mk (below_step (by (repeat (first | exact HB.out | apply pw_below_drewN | apply below_drew1))) hb); clear HB; have HB := n_; clear n_; clear hb) | (go_at_call 19; (with_reducible refine (woodcutkeep_Bytes.calls k _ _ l _ _ l true _ ?s1 ?s2 ?s3 ?s4 HSAME.out).mono ?_); (case s1 => (repeat (first | exact HRc.out | (with_reducible refine Kd.C_drewN ?_ _) | (with_reducible refine Kd.C_drew ?_)))); (case s2 => exact HCc.out); (case s3 => (repeat (first | exact HR0.out | (with_reducible refine Kd.C_drewN ?_ _) | (with_reducible refine Kd.C_drew ?_)))); (case s4 => exact HC0.out); rintro e w' ⟨rfl, ⟨nd, rfl⟩⟩) | (go_at_call 25; (with_reducible refine (woodcutref01_Size.calls s _ _ HSIZE.out).mono ?_); rintro e w' ⟨rfl, ⟨nd, rfl⟩⟩) | (go_at_call 27; (with_reducible refine (woodcutref01_Fits.calls s n _ _ HFITS.out).mono ?_); rintro e w' ⟨rfl, ⟨nd, rfl⟩⟩) | (go_at_call 26; (with_reducible refine (woodcutlaw01_wakes.calls k true _ HW.out).mono ?_); rintro e w' ⟨rfl, hb⟩; have n_ := Aside0.mk (below_step (by (repeat (first | exact HB.out | apply pw_below_drewN | apply below_drew1))) hb); clear HB; have HB := n_; clear n_; clear hb))
  all_goals (go_ret; exact ⟨rfl, by repeat (first | exact HB.out | apply pw_below_drewN | apply below_drew1)⟩)
set_option maxHeartbeats 8000000 in
set_option maxRecDepth 100000 in
/-- The number does not fit, and the place is none. -/
theorem no_fit_no_place3 (l : List Int) (A0 : Option Addr) (c0 : Nat) (at_ s n up : Int) (x : List Int) (e0 y f0 : Int) (z bs bf : Bool) (k : Nat) (w : World)
    (hr0 : Kd.C (Kd.int .u8) w A0 l.length l) (hc0 : l.length ≤ c0)
    (hT : woodcutkeep_Twin.f l = some l) (hput : le_Put.f k l at_ s n = some (x, e0)) (hget : le_Get.f k l at_ s = some (y, f0))
    (hz : le_Zeros.f k l at_ up = some z) (hrz : woodcutref01_Zeros.f k l at_ up = some z) (hsame : woodcutkeep_Bytes.f k l l = some true)
    (hsize : woodcutref01_Size.f s = some bs) (hfits : woodcutref01_Fits.f s n = some bf) (hw : woodcutlaw01_wakes.f k = some true) (hlen : decide (500 < (l.length : Int)) = false)
    (h1 : bs = true) (h6 : bf = false) (h2 : x = []) (h3 : e0 = 1) (h4 : f0 = 3) (h5 : y = 0)
    (p1 : 0 ≤ at_) (p2 : at_ ≤ (l.length : Int)) (p4 : l.length ≤ 500) (p3 : (l.length : Int) - at_ < s) :
    Calls Try.prog 6 #[.slice A0 l.length c0, .int .i64 at_, .int .i64 s, .int .i64 n, .int .i64 up] w fun e w' => e = .returned (.bool true) ∧ Below w.heap.size w w' := by
  subst h1 h2 h3 h4 h5 h6
  have q3 : decide (s ≤ (l.length : Int) - at_) = false := decide_eq_false (by omega)
  have HR0 := Aside0.mk hr0
  have HC0 := Aside0.mk hc0
  have HT := Aside0.mk hT
  have HPUT := Aside0.mk hput
  have HGET := Aside0.mk hget
  have HZ := Aside0.mk hz
  have HRZ := Aside0.mk hrz
  have HSAME := Aside0.mk hsame
  have HSIZE := Aside0.mk hsize
  have HFITS := Aside0.mk hfits
  have HW := Aside0.mk hw
  clear hr0 hc0 hT hput hget hz hrz hsame hsize hfits hw
  have HB := Aside0.mk (Below.refl w.heap.size w)
  have tok1 : True := trivial
  go_enter Try.func6, Try.ntmps6
  go_wp2_with (first | (go_at_call 12; have _t := tok1; (with_reducible refine (woodcutkeep_Twin.calls _ _ l l _ ?s1 ?s2 HT.out).mono ?_); (case s1 => (repeat (first | exact HR0.out | (with_reducible refine Kd.C_drewN ?_ _) | (with_reducible refine Kd.C_drew ?_)))); (case s2 => exact HC0.out); rintro e w' ⟨v_, rfl, ho, hb⟩; clear tok1; have n_ := Aside0.mk (Kd.C_below (by (repeat (first | exact HR0.out | (with_reducible refine Kd.C_drewN ?_ _) | (with_reducible refine Kd.C_drew ?_)))) hb); clear HR0; have HR0 := n_; clear n_; have n_ := Aside0.mk (below_step (by (repeat (first | exact HB.out | apply pw_below_drewN | apply below_drew1))) hb); clear HB; have HB := n_; clear n_; obtain ⟨Ac, cc, ev_⟩ := Kd.R_slice ho; subst ev_; have HOc := Aside0.mk ho; have HRc := Aside0.mk (Kd.R_reads' ho).2.2; have HCc := Aside0.mk (Kd.R_reads' ho).2.1; clear ho hb) | (go_at_call 21; (with_reducible refine (le_Put.calls k _ _ l at_ s n _ _ _ ?s1 ?s2 HPUT.out).mono ?_); (case s1 => (repeat (first | exact HRc.out | (with_reducible refine Kd.C_drewN ?_ _) | (with_reducible refine Kd.C_drew ?_)))); (case s2 => exact HCc.out); rintro e w' ⟨v_, rfl, ho, hb⟩; have n_ := Aside0.mk (Kd.C_below (by (repeat (first | exact HR0.out | (with_reducible refine Kd.C_drewN ?_ _) | (with_reducible refine Kd.C_drew ?_)))) hb); clear HR0; have HR0 := n_; clear n_; have n_ := Aside0.mk (Kd.C_below (by (repeat (first | exact HRc.out | (with_reducible refine Kd.C_drewN ?_ _) | (with_reducible refine Kd.C_drew ?_)))) hb); clear HRc; have HRc := n_; clear n_; have n_ := Aside0.mk (below_step (by (repeat (first | exact HB.out | apply pw_below_drewN | apply below_drew1))) hb); clear HB; have HB := n_; clear n_; obtain ⟨Ax, cx, ev_⟩ := Kd.R_slice ho; subst ev_; have HRx := Aside0.mk (Kd.R_reads' ho).2.2; have HCx := Aside0.mk (Kd.R_reads' ho).2.1; clear ho hb) | (go_at_call 22; (with_reducible refine (le_Get.calls k _ _ l at_ s _ _ _ ?s1 ?s2 HGET.out).mono ?_); (case s1 => (repeat (first | exact HRc.out | (with_reducible refine Kd.C_drewN ?_ _) | (with_reducible refine Kd.C_drew ?_)))); (case s2 => exact HCc.out); rintro e w' ⟨rfl, ⟨nd, rfl⟩⟩) | (go_at_call 23; (with_reducible refine (le_Zeros.calls k _ _ l at_ up _ _ ?s1 ?s2 HZ.out).mono ?_); (case s1 => (repeat (first | exact HRc.out | (with_reducible refine Kd.C_drewN ?_ _) | (with_reducible refine Kd.C_drew ?_)))); (case s2 => exact HCc.out); rintro e w' ⟨rfl, hb⟩; have n_ := Aside0.mk (Kd.C_below (by (repeat (first | exact HR0.out | (with_reducible refine Kd.C_drewN ?_ _) | (with_reducible refine Kd.C_drew ?_)))) hb); clear HR0; have HR0 := n_; clear n_; have n_ := Aside0.mk (Kd.C_below (by (repeat (first | exact HRc.out | (with_reducible refine Kd.C_drewN ?_ _) | (with_reducible refine Kd.C_drew ?_)))) hb); clear HRc; have HRc := n_; clear n_; have n_ := Aside0.mk (Kd.C_below (by (repeat (first | exact HRx.out | (with_reducible refine Kd.C_drewN ?_ _) | (with_reducible refine Kd.C_drew ?_)))) hb); clear HRx; have HRx := n_; clear n_; have n_ := Aside0.mk (below_step (by (repeat (first | exact HB.out | apply pw_below_drewN | apply below_drew1))) hb); clear HB; have HB := n_; clear n_; clear hb) | (go_at_call 24; (with_reducible refine (woodcutref01_Zeros.calls k _ _ l at_ up _ _ ?s1 ?s2 HRZ.out).mono ?_); (case s1 => (repeat (first | exact HR0.out | (with_reducible refine Kd.C_drewN ?_ _) | (with_reducible refine Kd.C_drew ?_)))); (case s2 => exact HC0.out); rintro e w' ⟨rfl, hb⟩; have n_ := Aside0.mk (Kd.C_below (by (repeat (first | exact HR0.out | (with_reducible refine Kd.C_drewN ?_ _) | (with_reducible refine Kd.C_drew ?_)))) hb); clear HR0; have HR0 := n_; clear n_; have n_ := Aside0.mk (Kd.C_below (by (repeat (first | exact HRc.out | (with_reducible refine Kd.C_drewN ?_ _) | (with_reducible refine Kd.C_drew ?_)))) hb); clear HRc; have HRc := n_; clear n_; have n_ := Aside0.mk (Kd.C_below (by (repeat (first | exact HRx.out | (with_reducible refine Kd.C_drewN ?_ _) | (with_reducible refine Kd.C_drew ?_)))) hb); clear HRx; have HRx := n_; clear n_; have n_ := Aside0.mk (below_step (by (repeat (first | exact HB.out | apply pw_below_drewN | apply below_drew1))) hb); clear HB; have HB := n_; clear n_; clear hb) | (go_at_call 19; (with_reducible refine (woodcutkeep_Bytes.calls k _ _ l _ _ l true _ ?s1 ?s2 ?s3 ?s4 HSAME.out).mono ?_); (case s1 => (repeat (first | exact HRc.out | (with_reducible refine Kd.C_drewN ?_ _) | (with_reducible refine Kd.C_drew ?_)))); (case s2 => exact HCc.out); (case s3 => (repeat (first | exact HR0.out | (with_reducible refine Kd.C_drewN ?_ _) | (with_reducible refine Kd.C_drew ?_)))); (case s4 => exact HC0.out); rintro e w' ⟨rfl, ⟨nd, rfl⟩⟩) | (go_at_call 25; (with_reducible refine (woodcutref01_Size.calls s _ _ HSIZE.out).mono ?_); rintro e w' ⟨rfl, ⟨nd, rfl⟩⟩) | (go_at_call 27; (with_reducible refine (woodcutref01_Fits.calls s n _ _ HFITS.out).mono ?_); rintro e w' ⟨rfl, ⟨nd, rfl⟩⟩) | (go_at_call 26; (with_reducible refine (woodcutlaw01_wakes.calls k true _ HW.out).mono ?_); rintro e w' ⟨rfl, hb⟩; have n_ := Aside0.mk (below_step (by (repeat (first | exact HB.out | apply pw_below_drewN | apply below_drew1))) hb); clear HB; have HB := n_; clear n_; clear hb))
  all_goals (go_ret; exact ⟨rfl, by repeat (first | exact HB.out | apply pw_below_drewN | apply below_drew1)⟩)
set_option maxHeartbeats 8000000 in
set_option maxRecDepth 100000 in
/-- The number fits, and the place is none. -/
theorem no_place3 (l : List Int) (A0 : Option Addr) (c0 : Nat) (at_ s n up : Int) (x : List Int) (e0 y f0 : Int) (z bs bf : Bool) (k : Nat) (w : World)
    (hr0 : Kd.C (Kd.int .u8) w A0 l.length l) (hc0 : l.length ≤ c0)
    (hT : woodcutkeep_Twin.f l = some l) (hput : le_Put.f k l at_ s n = some (x, e0)) (hget : le_Get.f k l at_ s = some (y, f0))
    (hz : le_Zeros.f k l at_ up = some z) (hrz : woodcutref01_Zeros.f k l at_ up = some z) (hsame : woodcutkeep_Bytes.f k l l = some true)
    (hsize : woodcutref01_Size.f s = some bs) (hfits : woodcutref01_Fits.f s n = some bf) (hw : woodcutlaw01_wakes.f k = some true) (hlen : decide (500 < (l.length : Int)) = false)
    (h1 : bs = true) (h6 : bf = true) (h2 : x = []) (h3 : e0 = 3) (h4 : f0 = 3) (h5 : y = 0)
    (p1 : 0 ≤ at_) (p2 : at_ ≤ (l.length : Int)) (p4 : l.length ≤ 500) (p3 : (l.length : Int) - at_ < s) :
    Calls Try.prog 6 #[.slice A0 l.length c0, .int .i64 at_, .int .i64 s, .int .i64 n, .int .i64 up] w fun e w' => e = .returned (.bool true) ∧ Below w.heap.size w w' := by
  subst h1 h2 h3 h4 h5 h6
  have q3 : decide (s ≤ (l.length : Int) - at_) = false := decide_eq_false (by omega)
  have HR0 := Aside0.mk hr0
  have HC0 := Aside0.mk hc0
  have HT := Aside0.mk hT
  have HPUT := Aside0.mk hput
  have HGET := Aside0.mk hget
  have HZ := Aside0.mk hz
  have HRZ := Aside0.mk hrz
  have HSAME := Aside0.mk hsame
  have HSIZE := Aside0.mk hsize
  have HFITS := Aside0.mk hfits
  have HW := Aside0.mk hw
  clear hr0 hc0 hT hput hget hz hrz hsame hsize hfits hw
  have HB := Aside0.mk (Below.refl w.heap.size w)
  have tok1 : True := trivial
  go_enter Try.func6, Try.ntmps6
  go_wp2_with (first | (go_at_call 12; have _t := tok1; (with_reducible refine (woodcutkeep_Twin.calls _ _ l l _ ?s1 ?s2 HT.out).mono ?_); (case s1 => (repeat (first | exact HR0.out | (with_reducible refine Kd.C_drewN ?_ _) | (with_reducible refine Kd.C_drew ?_)))); (case s2 => exact HC0.out); rintro e w' ⟨v_, rfl, ho, hb⟩; clear tok1; have n_ := Aside0.mk (Kd.C_below (by (repeat (first | exact HR0.out | (with_reducible refine Kd.C_drewN ?_ _) | (with_reducible refine Kd.C_drew ?_)))) hb); clear HR0; have HR0 := n_; clear n_; have n_ := Aside0.mk (below_step (by (repeat (first | exact HB.out | apply pw_below_drewN | apply below_drew1))) hb); clear HB; have HB := n_; clear n_; obtain ⟨Ac, cc, ev_⟩ := Kd.R_slice ho; subst ev_; have HOc := Aside0.mk ho; have HRc := Aside0.mk (Kd.R_reads' ho).2.2; have HCc := Aside0.mk (Kd.R_reads' ho).2.1; clear ho hb) | (go_at_call 21; (with_reducible refine (le_Put.calls k _ _ l at_ s n _ _ _ ?s1 ?s2 HPUT.out).mono ?_); (case s1 => (repeat (first | exact HRc.out | (with_reducible refine Kd.C_drewN ?_ _) | (with_reducible refine Kd.C_drew ?_)))); (case s2 => exact HCc.out); rintro e w' ⟨v_, rfl, ho, hb⟩; have n_ := Aside0.mk (Kd.C_below (by (repeat (first | exact HR0.out | (with_reducible refine Kd.C_drewN ?_ _) | (with_reducible refine Kd.C_drew ?_)))) hb); clear HR0; have HR0 := n_; clear n_; have n_ := Aside0.mk (Kd.C_below (by (repeat (first | exact HRc.out | (with_reducible refine Kd.C_drewN ?_ _) | (with_reducible refine Kd.C_drew ?_)))) hb); clear HRc; have HRc := n_; clear n_; have n_ := Aside0.mk (below_step (by (repeat (first | exact HB.out | apply pw_below_drewN | apply below_drew1))) hb); clear HB; have HB := n_; clear n_; obtain ⟨Ax, cx, ev_⟩ := Kd.R_slice ho; subst ev_; have HRx := Aside0.mk (Kd.R_reads' ho).2.2; have HCx := Aside0.mk (Kd.R_reads' ho).2.1; clear ho hb) | (go_at_call 22; (with_reducible refine (le_Get.calls k _ _ l at_ s _ _ _ ?s1 ?s2 HGET.out).mono ?_); (case s1 => (repeat (first | exact HRc.out | (with_reducible refine Kd.C_drewN ?_ _) | (with_reducible refine Kd.C_drew ?_)))); (case s2 => exact HCc.out); rintro e w' ⟨rfl, ⟨nd, rfl⟩⟩) | (go_at_call 23; (with_reducible refine (le_Zeros.calls k _ _ l at_ up _ _ ?s1 ?s2 HZ.out).mono ?_); (case s1 => (repeat (first | exact HRc.out | (with_reducible refine Kd.C_drewN ?_ _) | (with_reducible refine Kd.C_drew ?_)))); (case s2 => exact HCc.out); rintro e w' ⟨rfl, hb⟩; have n_ := Aside0.mk (Kd.C_below (by (repeat (first | exact HR0.out | (with_reducible refine Kd.C_drewN ?_ _) | (with_reducible refine Kd.C_drew ?_)))) hb); clear HR0; have HR0 := n_; clear n_; have n_ := Aside0.mk (Kd.C_below (by (repeat (first | exact HRc.out | (with_reducible refine Kd.C_drewN ?_ _) | (with_reducible refine Kd.C_drew ?_)))) hb); clear HRc; have HRc := n_; clear n_; have n_ := Aside0.mk (Kd.C_below (by (repeat (first | exact HRx.out | (with_reducible refine Kd.C_drewN ?_ _) | (with_reducible refine Kd.C_drew ?_)))) hb); clear HRx; have HRx := n_; clear n_; have n_ := Aside0.mk (below_step (by (repeat (first | exact HB.out | apply pw_below_drewN | apply below_drew1))) hb); clear HB; have HB := n_; clear n_; clear hb) | (go_at_call 24; (with_reducible refine (woodcutref01_Zeros.calls k _ _ l at_ up _ _ ?s1 ?s2 HRZ.out).mono ?_); (case s1 => (repeat (first | exact HR0.out | (with_reducible refine Kd.C_drewN ?_ _) | (with_reducible refine Kd.C_drew ?_)))); (case s2 => exact HC0.out); rintro e w' ⟨rfl, hb⟩; have n_ := Aside0.mk (Kd.C_below (by (repeat (first | exact HR0.out | (with_reducible refine Kd.C_drewN ?_ _) | (with_reducible refine Kd.C_drew ?_)))) hb); clear HR0; have HR0 := n_; clear n_; have n_ := Aside0.mk (Kd.C_below (by (repeat (first | exact HRc.out | (with_reducible refine Kd.C_drewN ?_ _) | (with_reducible refine Kd.C_drew ?_)))) hb); clear HRc; have HRc := n_; clear n_; have n_ := Aside0.mk (Kd.C_below (by (repeat (first | exact HRx.out | (with_reducible refine Kd.C_drewN ?_ _) | (with_reducible refine Kd.C_drew ?_)))) hb); clear HRx; have HRx := n_; clear n_; have n_ := Aside0.mk (below_step (by (repeat (first | exact HB.out | apply pw_below_drewN | apply below_drew1))) hb); clear HB; have HB := n_; clear n_; clear hb) | (go_at_call 19; (with_reducible refine (woodcutkeep_Bytes.calls k _ _ l _ _ l true _ ?s1 ?s2 ?s3 ?s4 HSAME.out).mono ?_); (case s1 => (repeat (first | exact HRc.out | (with_reducible refine Kd.C_drewN ?_ _) | (with_reducible refine Kd.C_drew ?_)))); (case s2 => exact HCc.out); (case s3 => (repeat (first | exact HR0.out | (with_reducible refine Kd.C_drewN ?_ _) | (with_reducible refine Kd.C_drew ?_)))); (case s4 => exact HC0.out); rintro e w' ⟨rfl, ⟨nd, rfl⟩⟩) | (go_at_call 25; (with_reducible refine (woodcutref01_Size.calls s _ _ HSIZE.out).mono ?_); rintro e w' ⟨rfl, ⟨nd, rfl⟩⟩) | (go_at_call 27; (with_reducible refine (woodcutref01_Fits.calls s n _ _ HFITS.out).mono ?_); rintro e w' ⟨rfl, ⟨nd, rfl⟩⟩) | (go_at_call 26; (with_reducible refine (woodcutlaw01_wakes.calls k true _ HW.out).mono ?_); rintro e w' ⟨rfl, hb⟩; have n_ := Aside0.mk (below_step (by (repeat (first | exact HB.out | apply pw_below_drewN | apply below_drew1))) hb); clear HB; have HB := n_; clear n_; clear hb))
  all_goals (go_ret; exact ⟨rfl, by repeat (first | exact HB.out | apply pw_below_drewN | apply below_drew1)⟩)
set_option maxHeartbeats 8000000 in
set_option maxRecDepth 100000 in
/-- The number does not fit; what stands there is told. -/
theorem no_fit_ok (l : List Int) (A0 : Option Addr) (c0 : Nat) (at_ s n up : Int) (x : List Int) (e0 y f0 : Int) (z bs bf : Bool) (k : Nat) (w : World)
    (hr0 : Kd.C (Kd.int .u8) w A0 l.length l) (hc0 : l.length ≤ c0)
    (hT : woodcutkeep_Twin.f l = some l) (hput : le_Put.f k l at_ s n = some (x, e0)) (hget : le_Get.f k l at_ s = some (y, f0))
    (hz : le_Zeros.f k l at_ up = some z) (hrz : woodcutref01_Zeros.f k l at_ up = some z) (hsame : woodcutkeep_Bytes.f k l l = some true)
    (hsize : woodcutref01_Size.f s = some bs) (hfits : woodcutref01_Fits.f s n = some bf) (hw : woodcutlaw01_wakes.f k = some true) (hlen : decide (500 < (l.length : Int)) = false)
    (p1 : 0 ≤ at_) (p2 : at_ + s ≤ (l.length : Int)) (p3 : 1 ≤ s) (p5 : s ≤ 8) (p4 : l.length ≤ 500) (sg : List Int) (hsg : (l.take (at_ + s).toNat).drop at_.toNat = sg) (mm : Int) (bo : Bool) (hnum : woodcutref01_Number.f k sg = some (mm, bo)) (h7 : bo = true)
    (h1 : bs = true) (h6 : bf = false) (h2 : x = []) (h3 : e0 = 1) (h4 : f0 = 0) (h5 : y = mm) :
    Calls Try.prog 6 #[.slice A0 l.length c0, .int .i64 at_, .int .i64 s, .int .i64 n, .int .i64 up] w fun e w' => e = .returned (.bool true) ∧ Below w.heap.size w w' := by
  subst h1 h2 h3 h4 h5 h6 h7
  obtain ⟨i0_, hi0_, _, hsz0_, _⟩ := info_parts info5
  obtain ⟨A1, hcut, hA1, hC1⟩ := print_mid_int (P := Try.prog) (k := .u8) 22 5 Try.underlying22 hi0_ hsz0_ A0 c0 l at_ (at_ + s) p1 (by omega) (by omega) hc0
  simp only [hsg] at hcut hA1 hC1
  have HA1 := Aside0.mk hA1
  have HC1 := Aside0.mk hC1
  have HNUM := Aside0.mk hnum
  clear hA1 hC1 hnum hsg hi0_ hsz0_
  have q1 : at_ ≤ (l.length : Int) := by omega
  have q2 : s ≤ (l.length : Int) - at_ := by omega
  have HR0 := Aside0.mk hr0
  have HC0 := Aside0.mk hc0
  have HT := Aside0.mk hT
  have HPUT := Aside0.mk hput
  have HGET := Aside0.mk hget
  have HZ := Aside0.mk hz
  have HRZ := Aside0.mk hrz
  have HSAME := Aside0.mk hsame
  have HSIZE := Aside0.mk hsize
  have HFITS := Aside0.mk hfits
  have HW := Aside0.mk hw
  clear hr0 hc0 hT hput hget hz hrz hsame hsize hfits hw
  have HB := Aside0.mk (Below.refl w.heap.size w)
  have tok1 : True := trivial
  go_enter Try.func6, Try.ntmps6
  go_wp2_with (first | (go_at_call 12; have _t := tok1; (with_reducible refine (woodcutkeep_Twin.calls _ _ l l _ ?s1 ?s2 HT.out).mono ?_); (case s1 => (repeat (first | exact HR0.out | (with_reducible refine Kd.C_drewN ?_ _) | (with_reducible refine Kd.C_drew ?_)))); (case s2 => exact HC0.out); rintro e w' ⟨v_, rfl, ho, hb⟩; clear tok1; have n_ := Aside0.mk (Kd.C_below (by (repeat (first | exact HR0.out | (with_reducible refine Kd.C_drewN ?_ _) | (with_reducible refine Kd.C_drew ?_)))) hb); clear HR0; have HR0 := n_; clear n_; have n_ := Aside0.mk (below_step (by (repeat (first | exact HB.out | apply pw_below_drewN | apply below_drew1))) hb); clear HB; have HB := n_; clear n_; obtain ⟨Ac, cc, ev_⟩ := Kd.R_slice ho; subst ev_; have HOc := Aside0.mk ho; have HRc := Aside0.mk (Kd.R_reads' ho).2.2; have HCc := Aside0.mk (Kd.R_reads' ho).2.1; clear ho hb) | (go_at_call 21; (with_reducible refine (le_Put.calls k _ _ l at_ s n _ _ _ ?s1 ?s2 HPUT.out).mono ?_); (case s1 => (repeat (first | exact HRc.out | (with_reducible refine Kd.C_drewN ?_ _) | (with_reducible refine Kd.C_drew ?_)))); (case s2 => exact HCc.out); rintro e w' ⟨v_, rfl, ho, hb⟩; have n_ := Aside0.mk (Kd.C_below (by (repeat (first | exact HR0.out | (with_reducible refine Kd.C_drewN ?_ _) | (with_reducible refine Kd.C_drew ?_)))) hb); clear HR0; have HR0 := n_; clear n_; have n_ := Aside0.mk (Kd.C_below (by (repeat (first | exact HRc.out | (with_reducible refine Kd.C_drewN ?_ _) | (with_reducible refine Kd.C_drew ?_)))) hb); clear HRc; have HRc := n_; clear n_; have n_ := Aside0.mk (below_step (by (repeat (first | exact HB.out | apply pw_below_drewN | apply below_drew1))) hb); clear HB; have HB := n_; clear n_; obtain ⟨Ax, cx, ev_⟩ := Kd.R_slice ho; subst ev_; have HRx := Aside0.mk (Kd.R_reads' ho).2.2; have HCx := Aside0.mk (Kd.R_reads' ho).2.1; clear ho hb) | (go_at_call 22; (with_reducible refine (le_Get.calls k _ _ l at_ s _ _ _ ?s1 ?s2 HGET.out).mono ?_); (case s1 => (repeat (first | exact HRc.out | (with_reducible refine Kd.C_drewN ?_ _) | (with_reducible refine Kd.C_drew ?_)))); (case s2 => exact HCc.out); rintro e w' ⟨rfl, ⟨nd, rfl⟩⟩) | (go_at_call 23; (with_reducible refine (le_Zeros.calls k _ _ l at_ up _ _ ?s1 ?s2 HZ.out).mono ?_); (case s1 => (repeat (first | exact HRc.out | (with_reducible refine Kd.C_drewN ?_ _) | (with_reducible refine Kd.C_drew ?_)))); (case s2 => exact HCc.out); rintro e w' ⟨rfl, hb⟩; have n_ := Aside0.mk (Kd.C_below (by (repeat (first | exact HR0.out | (with_reducible refine Kd.C_drewN ?_ _) | (with_reducible refine Kd.C_drew ?_)))) hb); clear HR0; have HR0 := n_; clear n_; have n_ := Aside0.mk (Kd.C_below (by (repeat (first | exact HRc.out | (with_reducible refine Kd.C_drewN ?_ _) | (with_reducible refine Kd.C_drew ?_)))) hb); clear HRc; have HRc := n_; clear n_; have n_ := Aside0.mk (Kd.C_below (by (repeat (first | exact HRx.out | (with_reducible refine Kd.C_drewN ?_ _) | (with_reducible refine Kd.C_drew ?_)))) hb); clear HRx; have HRx := n_; clear n_; have n_ := Aside0.mk (below_step (by (repeat (first | exact HB.out | apply pw_below_drewN | apply below_drew1))) hb); clear HB; have HB := n_; clear n_; clear hb) | (go_at_call 24; (with_reducible refine (woodcutref01_Zeros.calls k _ _ l at_ up _ _ ?s1 ?s2 HRZ.out).mono ?_); (case s1 => (repeat (first | exact HR0.out | (with_reducible refine Kd.C_drewN ?_ _) | (with_reducible refine Kd.C_drew ?_)))); (case s2 => exact HC0.out); rintro e w' ⟨rfl, hb⟩; have n_ := Aside0.mk (Kd.C_below (by (repeat (first | exact HR0.out | (with_reducible refine Kd.C_drewN ?_ _) | (with_reducible refine Kd.C_drew ?_)))) hb); clear HR0; have HR0 := n_; clear n_; have n_ := Aside0.mk (Kd.C_below (by (repeat (first | exact HRc.out | (with_reducible refine Kd.C_drewN ?_ _) | (with_reducible refine Kd.C_drew ?_)))) hb); clear HRc; have HRc := n_; clear n_; have n_ := Aside0.mk (Kd.C_below (by (repeat (first | exact HRx.out | (with_reducible refine Kd.C_drewN ?_ _) | (with_reducible refine Kd.C_drew ?_)))) hb); clear HRx; have HRx := n_; clear n_; have n_ := Aside0.mk (below_step (by (repeat (first | exact HB.out | apply pw_below_drewN | apply below_drew1))) hb); clear HB; have HB := n_; clear n_; clear hb) | (go_at_call 19; (with_reducible refine (woodcutkeep_Bytes.calls k _ _ l _ _ l true _ ?s1 ?s2 ?s3 ?s4 HSAME.out).mono ?_); (case s1 => (repeat (first | exact HRc.out | (with_reducible refine Kd.C_drewN ?_ _) | (with_reducible refine Kd.C_drew ?_)))); (case s2 => exact HCc.out); (case s3 => (repeat (first | exact HR0.out | (with_reducible refine Kd.C_drewN ?_ _) | (with_reducible refine Kd.C_drew ?_)))); (case s4 => exact HC0.out); rintro e w' ⟨rfl, ⟨nd, rfl⟩⟩) | (go_at_call 25; (with_reducible refine (woodcutref01_Size.calls s _ _ HSIZE.out).mono ?_); rintro e w' ⟨rfl, ⟨nd, rfl⟩⟩) | (go_at_call 27; (with_reducible refine (woodcutref01_Fits.calls s n _ _ HFITS.out).mono ?_); rintro e w' ⟨rfl, ⟨nd, rfl⟩⟩) | (go_at_call 26; (with_reducible refine (woodcutlaw01_wakes.calls k true _ HW.out).mono ?_); rintro e w' ⟨rfl, hb⟩; have n_ := Aside0.mk (below_step (by (repeat (first | exact HB.out | apply pw_below_drewN | apply below_drew1))) hb); clear HB; have HB := n_; clear n_; clear hb) | (go_at_call 29; (with_reducible refine (woodcutref01_Number.calls k _ _ sg _ _ _ ?s1 ?s2 HNUM.out).mono ?_); (case s1 => exact Kd.C_of_reads (h1 := fun _ => rfl) (HA1.out _ (Kd.reads_of_C (by (repeat (first | exact HR0.out | (with_reducible refine Kd.C_drewN ?_ _) | (with_reducible refine Kd.C_drew ?_))))))); (case s2 => exact HC1.out); rintro e w' ⟨rfl, ⟨nd, rfl⟩⟩))
  all_goals (go_ret; exact ⟨rfl, by repeat (first | exact HB.out | apply pw_below_drewN | apply below_drew1)⟩)
set_option maxHeartbeats 8000000 in
set_option maxRecDepth 100000 in
/-- The number does not fit; what stands there is too great. -/
theorem no_fit_big (l : List Int) (A0 : Option Addr) (c0 : Nat) (at_ s n up : Int) (x : List Int) (e0 y f0 : Int) (z bs bf : Bool) (k : Nat) (w : World)
    (hr0 : Kd.C (Kd.int .u8) w A0 l.length l) (hc0 : l.length ≤ c0)
    (hT : woodcutkeep_Twin.f l = some l) (hput : le_Put.f k l at_ s n = some (x, e0)) (hget : le_Get.f k l at_ s = some (y, f0))
    (hz : le_Zeros.f k l at_ up = some z) (hrz : woodcutref01_Zeros.f k l at_ up = some z) (hsame : woodcutkeep_Bytes.f k l l = some true)
    (hsize : woodcutref01_Size.f s = some bs) (hfits : woodcutref01_Fits.f s n = some bf) (hw : woodcutlaw01_wakes.f k = some true) (hlen : decide (500 < (l.length : Int)) = false)
    (p1 : 0 ≤ at_) (p2 : at_ + s ≤ (l.length : Int)) (p3 : 1 ≤ s) (p5 : s ≤ 8) (p4 : l.length ≤ 500) (sg : List Int) (hsg : (l.take (at_ + s).toNat).drop at_.toNat = sg) (mm : Int) (bo : Bool) (hnum : woodcutref01_Number.f k sg = some (mm, bo)) (h7 : bo = false)
    (h1 : bs = true) (h6 : bf = false) (h2 : x = []) (h3 : e0 = 1) (h4 : f0 = 1) (h5 : y = 0) :
    Calls Try.prog 6 #[.slice A0 l.length c0, .int .i64 at_, .int .i64 s, .int .i64 n, .int .i64 up] w fun e w' => e = .returned (.bool true) ∧ Below w.heap.size w w' := by
  subst h1 h2 h3 h4 h5 h6 h7
  obtain ⟨i0_, hi0_, _, hsz0_, _⟩ := info_parts info5
  obtain ⟨A1, hcut, hA1, hC1⟩ := print_mid_int (P := Try.prog) (k := .u8) 22 5 Try.underlying22 hi0_ hsz0_ A0 c0 l at_ (at_ + s) p1 (by omega) (by omega) hc0
  simp only [hsg] at hcut hA1 hC1
  have HA1 := Aside0.mk hA1
  have HC1 := Aside0.mk hC1
  have HNUM := Aside0.mk hnum
  clear hA1 hC1 hnum hsg hi0_ hsz0_
  have q1 : at_ ≤ (l.length : Int) := by omega
  have q2 : s ≤ (l.length : Int) - at_ := by omega
  have HR0 := Aside0.mk hr0
  have HC0 := Aside0.mk hc0
  have HT := Aside0.mk hT
  have HPUT := Aside0.mk hput
  have HGET := Aside0.mk hget
  have HZ := Aside0.mk hz
  have HRZ := Aside0.mk hrz
  have HSAME := Aside0.mk hsame
  have HSIZE := Aside0.mk hsize
  have HFITS := Aside0.mk hfits
  have HW := Aside0.mk hw
  clear hr0 hc0 hT hput hget hz hrz hsame hsize hfits hw
  have HB := Aside0.mk (Below.refl w.heap.size w)
  have tok1 : True := trivial
  go_enter Try.func6, Try.ntmps6
  go_wp2_with (first | (go_at_call 12; have _t := tok1; (with_reducible refine (woodcutkeep_Twin.calls _ _ l l _ ?s1 ?s2 HT.out).mono ?_); (case s1 => (repeat (first | exact HR0.out | (with_reducible refine Kd.C_drewN ?_ _) | (with_reducible refine Kd.C_drew ?_)))); (case s2 => exact HC0.out); rintro e w' ⟨v_, rfl, ho, hb⟩; clear tok1; have n_ := Aside0.mk (Kd.C_below (by (repeat (first | exact HR0.out | (with_reducible refine Kd.C_drewN ?_ _) | (with_reducible refine Kd.C_drew ?_)))) hb); clear HR0; have HR0 := n_; clear n_; have n_ := Aside0.mk (below_step (by (repeat (first | exact HB.out | apply pw_below_drewN | apply below_drew1))) hb); clear HB; have HB := n_; clear n_; obtain ⟨Ac, cc, ev_⟩ := Kd.R_slice ho; subst ev_; have HOc := Aside0.mk ho; have HRc := Aside0.mk (Kd.R_reads' ho).2.2; have HCc := Aside0.mk (Kd.R_reads' ho).2.1; clear ho hb) | (go_at_call 21; (with_reducible refine (le_Put.calls k _ _ l at_ s n _ _ _ ?s1 ?s2 HPUT.out).mono ?_); (case s1 => (repeat (first | exact HRc.out | (with_reducible refine Kd.C_drewN ?_ _) | (with_reducible refine Kd.C_drew ?_)))); (case s2 => exact HCc.out); rintro e w' ⟨v_, rfl, ho, hb⟩; have n_ := Aside0.mk (Kd.C_below (by (repeat (first | exact HR0.out | (with_reducible refine Kd.C_drewN ?_ _) | (with_reducible refine Kd.C_drew ?_)))) hb); clear HR0; have HR0 := n_; clear n_; have n_ := Aside0.mk (Kd.C_below (by (repeat (first | exact HRc.out | (with_reducible refine Kd.C_drewN ?_ _) | (with_reducible refine Kd.C_drew ?_)))) hb); clear HRc; have HRc := n_; clear n_; have n_ := Aside0.mk (below_step (by (repeat (first | exact HB.out | apply pw_below_drewN | apply below_drew1))) hb); clear HB; have HB := n_; clear n_; obtain ⟨Ax, cx, ev_⟩ := Kd.R_slice ho; subst ev_; have HRx := Aside0.mk (Kd.R_reads' ho).2.2; have HCx := Aside0.mk (Kd.R_reads' ho).2.1; clear ho hb) | (go_at_call 22; (with_reducible refine (le_Get.calls k _ _ l at_ s _ _ _ ?s1 ?s2 HGET.out).mono ?_); (case s1 => (repeat (first | exact HRc.out | (with_reducible refine Kd.C_drewN ?_ _) | (with_reducible refine Kd.C_drew ?_)))); (case s2 => exact HCc.out); rintro e w' ⟨rfl, ⟨nd, rfl⟩⟩) | (go_at_call 23; (with_reducible refine (le_Zeros.calls k _ _ l at_ up _ _ ?s1 ?s2 HZ.out).mono ?_); (case s1 => (repeat (first | exact HRc.out | (with_reducible refine Kd.C_drewN ?_ _) | (with_reducible refine Kd.C_drew ?_)))); (case s2 => exact HCc.out); rintro e w' ⟨rfl, hb⟩; have n_ := Aside0.mk (Kd.C_below (by (repeat (first | exact HR0.out | (with_reducible refine Kd.C_drewN ?_ _) | (with_reducible refine Kd.C_drew ?_)))) hb); clear HR0; have HR0 := n_; clear n_; have n_ := Aside0.mk (Kd.C_below (by (repeat (first | exact HRc.out | (with_reducible refine Kd.C_drewN ?_ _) | (with_reducible refine Kd.C_drew ?_)))) hb); clear HRc; have HRc := n_; clear n_; have n_ := Aside0.mk (Kd.C_below (by (repeat (first | exact HRx.out | (with_reducible refine Kd.C_drewN ?_ _) | (with_reducible refine Kd.C_drew ?_)))) hb); clear HRx; have HRx := n_; clear n_; have n_ := Aside0.mk (below_step (by (repeat (first | exact HB.out | apply pw_below_drewN | apply below_drew1))) hb); clear HB; have HB := n_; clear n_; clear hb) | (go_at_call 24; (with_reducible refine (woodcutref01_Zeros.calls k _ _ l at_ up _ _ ?s1 ?s2 HRZ.out).mono ?_); (case s1 => (repeat (first | exact HR0.out | (with_reducible refine Kd.C_drewN ?_ _) | (with_reducible refine Kd.C_drew ?_)))); (case s2 => exact HC0.out); rintro e w' ⟨rfl, hb⟩; have n_ := Aside0.mk (Kd.C_below (by (repeat (first | exact HR0.out | (with_reducible refine Kd.C_drewN ?_ _) | (with_reducible refine Kd.C_drew ?_)))) hb); clear HR0; have HR0 := n_; clear n_; have n_ := Aside0.mk (Kd.C_below (by (repeat (first | exact HRc.out | (with_reducible refine Kd.C_drewN ?_ _) | (with_reducible refine Kd.C_drew ?_)))) hb); clear HRc; have HRc := n_; clear n_; have n_ := Aside0.mk (Kd.C_below (by (repeat (first | exact HRx.out | (with_reducible refine Kd.C_drewN ?_ _) | (with_reducible refine Kd.C_drew ?_)))) hb); clear HRx; have HRx := n_; clear n_; have n_ := Aside0.mk (below_step (by (repeat (first | exact HB.out | apply pw_below_drewN | apply below_drew1))) hb); clear HB; have HB := n_; clear n_; clear hb) | (go_at_call 19; (with_reducible refine (woodcutkeep_Bytes.calls k _ _ l _ _ l true _ ?s1 ?s2 ?s3 ?s4 HSAME.out).mono ?_); (case s1 => (repeat (first | exact HRc.out | (with_reducible refine Kd.C_drewN ?_ _) | (with_reducible refine Kd.C_drew ?_)))); (case s2 => exact HCc.out); (case s3 => (repeat (first | exact HR0.out | (with_reducible refine Kd.C_drewN ?_ _) | (with_reducible refine Kd.C_drew ?_)))); (case s4 => exact HC0.out); rintro e w' ⟨rfl, ⟨nd, rfl⟩⟩) | (go_at_call 25; (with_reducible refine (woodcutref01_Size.calls s _ _ HSIZE.out).mono ?_); rintro e w' ⟨rfl, ⟨nd, rfl⟩⟩) | (go_at_call 27; (with_reducible refine (woodcutref01_Fits.calls s n _ _ HFITS.out).mono ?_); rintro e w' ⟨rfl, ⟨nd, rfl⟩⟩) | (go_at_call 26; (with_reducible refine (woodcutlaw01_wakes.calls k true _ HW.out).mono ?_); rintro e w' ⟨rfl, hb⟩; have n_ := Aside0.mk (below_step (by (repeat (first | exact HB.out | apply pw_below_drewN | apply below_drew1))) hb); clear HB; have HB := n_; clear n_; clear hb) | (go_at_call 29; (with_reducible refine (woodcutref01_Number.calls k _ _ sg _ _ _ ?s1 ?s2 HNUM.out).mono ?_); (case s1 => exact Kd.C_of_reads (h1 := fun _ => rfl) (HA1.out _ (Kd.reads_of_C (by (repeat (first | exact HR0.out | (with_reducible refine Kd.C_drewN ?_ _) | (with_reducible refine Kd.C_drew ?_))))))); (case s2 => exact HC1.out); rintro e w' ⟨rfl, ⟨nd, rfl⟩⟩))
  all_goals (go_ret; exact ⟨rfl, by repeat (first | exact HB.out | apply pw_below_drewN | apply below_drew1)⟩)
set_option maxHeartbeats 8000000 in
set_option maxRecDepth 100000 in
/-- The number is put; what stood there is told. -/
theorem put_ok (l : List Int) (A0 : Option Addr) (c0 : Nat) (at_ s n up : Int) (x : List Int) (e0 y f0 : Int) (z bs bf : Bool) (k : Nat) (w : World)
    (hr0 : Kd.C (Kd.int .u8) w A0 l.length l) (hc0 : l.length ≤ c0)
    (hT : woodcutkeep_Twin.f l = some l) (hput : le_Put.f k l at_ s n = some (x, e0)) (hget : le_Get.f k l at_ s = some (y, f0))
    (hz : le_Zeros.f k l at_ up = some z) (hrz : woodcutref01_Zeros.f k l at_ up = some z) (hsame : woodcutkeep_Bytes.f k l l = some true)
    (hsize : woodcutref01_Size.f s = some bs) (hfits : woodcutref01_Fits.f s n = some bf) (hw : woodcutlaw01_wakes.f k = some true) (hlen : decide (500 < (l.length : Int)) = false)
    (a m : Nat) (ha : at_ = (a : Int)) (hs : s = (m : Int)) (p2 : a + m ≤ l.length) (p3 : 1 ≤ m) (p5 : m ≤ 8) (p4 : l.length ≤ 500) (sg : List Int) (hsg : (l.take ((a : Int) + (m : Int)).toNat).drop (a : Int).toNat = sg) (mm : Int) (bo : Bool) (hnum : woodcutref01_Number.f k sg = some (mm, bo)) (D : List Int) (hD : D.length = m) (hby : woodcutref01_Bytes.f k (m : Int) n = some D) (hX : l.take a ++ D ++ l.drop (a + D.length) = x) (hs2 : woodcutkeep_Bytes.f k x x = some true) (h7 : bo = true)
    (h1 : bs = true) (h6 : bf = true) (h3 : e0 = 0) (h4 : f0 = 0) (h5 : y = mm) :
    Calls Try.prog 6 #[.slice A0 l.length c0, .int .i64 at_, .int .i64 s, .int .i64 n, .int .i64 up] w fun e w' => e = .returned (.bool true) ∧ Below w.heap.size w w' := by
  subst ha hs h1 h3 h4 h5 h6 h7
  obtain ⟨i0_, hi0_, _, hsz0_, _⟩ := info_parts info5
  obtain ⟨A1, hcut, hA1, hC1⟩ := print_mid_int (P := Try.prog) (k := .u8) 22 5 Try.underlying22 hi0_ hsz0_ A0 c0 l (a : Int) ((a : Int) + (m : Int)) (by omega) (by omega) (by omega) hc0
  simp only [hsg] at hcut hA1 hC1
  have HA1 := Aside0.mk hA1
  have HC1 := Aside0.mk hC1
  have HNUM := Aside0.mk hnum
  have HBY := Aside0.mk hby
  have HX := Aside0.mk hX
  have HD := Aside0.mk hD
  have hxl : x.length = l.length := by rw [← hX]; simp; omega
  have S2 : ∀ (Ax : Option Addr) (cx : Nat) (Aw : Option Addr) (cw : Nat) (W : World), Kd.C (Kd.int .u8) W Ax x.length x → x.length ≤ cx → Kd.C (Kd.int .u8) W Aw l.length x → l.length ≤ cw →
      Calls Try.prog 19 #[.slice Ax x.length cx, .slice Aw l.length cw] W (fun e w' => e = .returned (.bool true) ∧ Drawn0 W w') := by
    intro Ax cx Aw cw W h1 h2 h3 h4
    rw [← hxl] at h3 h4 ⊢
    exact woodcutkeep_Bytes.calls k Ax cx x Aw cw x true W h1 h2 h3 h4 hs2
  have HS2 := Aside0.mk S2
  have P2 := Aside0.mk p2
  have P3 := Aside0.mk p3
  clear S2 hs2 hxl
  clear hA1 hC1 hnum hsg hi0_ hsz0_ hby hX hD p3
  have q0 : (0 : Int) ≤ (a : Int) := by omega
  have q1 : (a : Int) ≤ (l.length : Int) := by omega
  have q2 : (m : Int) ≤ (l.length : Int) - (a : Int) := by omega
  have q3 : (m : Int) ≤ 8 := by omega
  have q4 : (0 : Int) ≤ (m : Int) := by omega
  have q5 : (l.length : Int) ≤ 500 := by omega
  have tok2 : True := trivial
  have HR0 := Aside0.mk hr0
  have HC0 := Aside0.mk hc0
  have HT := Aside0.mk hT
  have HPUT := Aside0.mk hput
  have HGET := Aside0.mk hget
  have HZ := Aside0.mk hz
  have HRZ := Aside0.mk hrz
  have HSAME := Aside0.mk hsame
  have HSIZE := Aside0.mk hsize
  have HFITS := Aside0.mk hfits
  have HW := Aside0.mk hw
  clear hr0 hc0 hT hput hget hz hrz hsame hsize hfits hw
  have HB := Aside0.mk (Below.refl w.heap.size w)
  have tok1 : True := trivial
  go_enter Try.func6, Try.ntmps6
  go_wp2_with (first | (go_at_call 12; have _t := tok1; (with_reducible refine (woodcutkeep_Twin.calls _ _ l l _ ?s1 ?s2 HT.out).mono ?_); (case s1 => (repeat (first | exact HR0.out | (with_reducible refine Kd.C_drewN ?_ _) | (with_reducible refine Kd.C_drew ?_)))); (case s2 => exact HC0.out); rintro e w' ⟨v_, rfl, ho, hb⟩; clear tok1; have n_ := Aside0.mk (Kd.C_below (by (repeat (first | exact HR0.out | (with_reducible refine Kd.C_drewN ?_ _) | (with_reducible refine Kd.C_drew ?_)))) hb); clear HR0; have HR0 := n_; clear n_; have n_ := Aside0.mk (below_step (by (repeat (first | exact HB.out | apply pw_below_drewN | apply below_drew1))) hb); clear HB; have HB := n_; clear n_; obtain ⟨Ac, cc, ev_⟩ := Kd.R_slice ho; subst ev_; have HOc := Aside0.mk ho; have HRc := Aside0.mk (Kd.R_reads' ho).2.2; have HCc := Aside0.mk (Kd.R_reads' ho).2.1; clear ho hb) | (go_at_call 21; (with_reducible refine (le_Put.calls k _ _ l (a : Int) (m : Int) n _ _ _ ?s1 ?s2 HPUT.out).mono ?_); (case s1 => (repeat (first | exact HRc.out | (with_reducible refine Kd.C_drewN ?_ _) | (with_reducible refine Kd.C_drew ?_)))); (case s2 => exact HCc.out); rintro e w' ⟨v_, rfl, ho, hb⟩; have n_ := Aside0.mk (Kd.C_below (by (repeat (first | exact HR0.out | (with_reducible refine Kd.C_drewN ?_ _) | (with_reducible refine Kd.C_drew ?_)))) hb); clear HR0; have HR0 := n_; clear n_; have n_ := Aside0.mk (Kd.C_below (by (repeat (first | exact HRc.out | (with_reducible refine Kd.C_drewN ?_ _) | (with_reducible refine Kd.C_drew ?_)))) hb); clear HRc; have HRc := n_; clear n_; have n_ := Aside0.mk (below_step (by (repeat (first | exact HB.out | apply pw_below_drewN | apply below_drew1))) hb); clear HB; have HB := n_; clear n_; obtain ⟨Ax, cx, ev_⟩ := Kd.R_slice ho; subst ev_; have HRx := Aside0.mk (Kd.R_reads' ho).2.2; have HCx := Aside0.mk (Kd.R_reads' ho).2.1; clear ho hb) | (go_at_call 22; (with_reducible refine (le_Get.calls k _ _ l (a : Int) (m : Int) _ _ _ ?s1 ?s2 HGET.out).mono ?_); (case s1 => (repeat (first | exact HRc.out | (with_reducible refine Kd.C_drewN ?_ _) | (with_reducible refine Kd.C_drew ?_)))); (case s2 => exact HCc.out); rintro e w' ⟨rfl, ⟨nd, rfl⟩⟩) | (go_at_call 23; (with_reducible refine (le_Zeros.calls k _ _ l (a : Int) up _ _ ?s1 ?s2 HZ.out).mono ?_); (case s1 => (repeat (first | exact HRc.out | (with_reducible refine Kd.C_drewN ?_ _) | (with_reducible refine Kd.C_drew ?_)))); (case s2 => exact HCc.out); rintro e w' ⟨rfl, hb⟩; have n_ := Aside0.mk (Kd.C_below (by (repeat (first | exact HR0.out | (with_reducible refine Kd.C_drewN ?_ _) | (with_reducible refine Kd.C_drew ?_)))) hb); clear HR0; have HR0 := n_; clear n_; have n_ := Aside0.mk (Kd.C_below (by (repeat (first | exact HRc.out | (with_reducible refine Kd.C_drewN ?_ _) | (with_reducible refine Kd.C_drew ?_)))) hb); clear HRc; have HRc := n_; clear n_; have n_ := Aside0.mk (Kd.C_below (by (repeat (first | exact HRx.out | (with_reducible refine Kd.C_drewN ?_ _) | (with_reducible refine Kd.C_drew ?_)))) hb); clear HRx; have HRx := n_; clear n_; have n_ := Aside0.mk (below_step (by (repeat (first | exact HB.out | apply pw_below_drewN | apply below_drew1))) hb); clear HB; have HB := n_; clear n_; clear hb) | (go_at_call 24; (with_reducible refine (woodcutref01_Zeros.calls k _ _ l (a : Int) up _ _ ?s1 ?s2 HRZ.out).mono ?_); (case s1 => (repeat (first | exact HR0.out | (with_reducible refine Kd.C_drewN ?_ _) | (with_reducible refine Kd.C_drew ?_)))); (case s2 => exact HC0.out); rintro e w' ⟨rfl, hb⟩; have n_ := Aside0.mk (Kd.C_below (by (repeat (first | exact HR0.out | (with_reducible refine Kd.C_drewN ?_ _) | (with_reducible refine Kd.C_drew ?_)))) hb); clear HR0; have HR0 := n_; clear n_; have n_ := Aside0.mk (Kd.C_below (by (repeat (first | exact HRc.out | (with_reducible refine Kd.C_drewN ?_ _) | (with_reducible refine Kd.C_drew ?_)))) hb); clear HRc; have HRc := n_; clear n_; have n_ := Aside0.mk (Kd.C_below (by (repeat (first | exact HRx.out | (with_reducible refine Kd.C_drewN ?_ _) | (with_reducible refine Kd.C_drew ?_)))) hb); clear HRx; have HRx := n_; clear n_; have n_ := Aside0.mk (below_step (by (repeat (first | exact HB.out | apply pw_below_drewN | apply below_drew1))) hb); clear HB; have HB := n_; clear n_; clear hb) | (go_at_call 19; (with_reducible refine (woodcutkeep_Bytes.calls k _ _ l _ _ l true _ ?s1 ?s2 ?s3 ?s4 HSAME.out).mono ?_); (case s1 => (repeat (first | exact HRc.out | (with_reducible refine Kd.C_drewN ?_ _) | (with_reducible refine Kd.C_drew ?_)))); (case s2 => exact HCc.out); (case s3 => (repeat (first | exact HR0.out | (with_reducible refine Kd.C_drewN ?_ _) | (with_reducible refine Kd.C_drew ?_)))); (case s4 => exact HC0.out); rintro e w' ⟨rfl, ⟨nd, rfl⟩⟩) | (go_at_call 25; (with_reducible refine (woodcutref01_Size.calls (m : Int) _ _ HSIZE.out).mono ?_); rintro e w' ⟨rfl, ⟨nd, rfl⟩⟩) | (go_at_call 27; (with_reducible refine (woodcutref01_Fits.calls (m : Int) n _ _ HFITS.out).mono ?_); rintro e w' ⟨rfl, ⟨nd, rfl⟩⟩) | (go_at_call 26; (with_reducible refine (woodcutlaw01_wakes.calls k true _ HW.out).mono ?_); rintro e w' ⟨rfl, hb⟩; have n_ := Aside0.mk (below_step (by (repeat (first | exact HB.out | apply pw_below_drewN | apply below_drew1))) hb); clear HB; have HB := n_; clear n_; clear hb) | (go_at_call 12; have _t2 := tok2; (with_reducible refine (woodcutkeep_Twin.calls _ _ l l _ ?s1 ?s2 HT.out).mono ?_); (case s1 => (repeat (first | exact HR0.out | (with_reducible refine Kd.C_drewN ?_ _) | (with_reducible refine Kd.C_drew ?_)))); (case s2 => exact HC0.out); rintro e w' ⟨v_, rfl, ho, hb⟩; clear tok2; obtain ⟨g, cw, cur, ev_, hg1, hg2, hg3, hg4, hg5, hg6⟩ := row_open ho (by have := P2.out; have := P3.out; omega); subst ev_; have HBt := Aside0.mk hb; have HG1 := Aside0.mk hg1; have HG2 := Aside0.mk hg2; have HG3 := Aside0.mk hg3; have HG6 := Aside0.mk hg6; have HGL := Aside0.mk hg5; have hcw := cut_from g l.length cw a (by have := P2.out; have := P3.out; omega) (by have := P2.out; omega); clear ho hb hg1 hg2 hg3 hg4 hg5 hg6))
  go_region_law (first | (refine goes_ (f := 28) Try.func28 (by kernel_rfl) rfl #[.int .i64 (m : Int), .int .i64 n] (by simp [Region.wanted]) rfl rfl (by simp [Act.eval, Act.put]) ?_; refine (woodcutref01_Bytes.calls k (m : Int) n D _ HBY.out).mono ?_; rintro e w' ⟨v_, rfl, ho, hb⟩; have n_ := Aside0.mk (below_step (below_drew1 HBt.out) hb); clear HBt; have HBt := n_; clear n_; have HGW := Aside0.mk (keep_blk HG2.out hb); obtain ⟨Ad, cd, ev_⟩ := Kd.R_slice ho; subst ev_; obtain ⟨ad, ea_, hsrc⟩ := src_cells (Kd.R_reads' ho).2.2 (by rw [HD.out]; exact P3.out); subst ea_; have HSRC := Aside0.mk hsrc; clear ho hb hsrc; refine ⟨_, rfl, ?_⟩) | (refine step_copy_splice rfl (.tmp 75) (.tmp 78) 22 22 rfl 5 Try.underlying22 ksz (some ⟨g, a, none⟩) (some ad) (l.length - a) (cw - a) D.length cd (by simp [Act.eval, Act.put]) (by simp [Act.eval, Act.put]) g a cur 5 HGW.out (D.map (Value.int .u8)) (copy_len a m l.length D HD.out P2.out) (copy_pos HSRC.out) (copy_fit HD.out P2.out HGL.out HG3.out) (one_cells D) _ _ HBt.out HG1.out ?_; intro w3 hg3 hb; have HRw := Aside0.mk (splice_reads hg3.out HG6.out (by rw [HD.out]; exact P2.out) (by omega) x HX.out); have n_ := Aside0.mk (Kd.C_below (by (repeat (first | exact HR0.out | (with_reducible refine Kd.C_drewN ?_ _) | (with_reducible refine Kd.C_drew ?_)))) hb); clear HR0; have HR0 := n_; clear n_; have n_ := Aside0.mk (Kd.C_below (by (repeat (first | exact HRx.out | (with_reducible refine Kd.C_drewN ?_ _) | (with_reducible refine Kd.C_drew ?_)))) hb); clear HRx; have HRx := n_; clear n_; have n_ := Aside0.mk (below_step (by (repeat (first | exact HB.out | apply pw_below_drewN | apply below_drew1))) hb); clear HB; have HB := n_; clear n_; clear hg3 hb))
  go_wp2_with (first | (go_at_call 19; (with_reducible refine (HS2.out _ _ _ _ _ ?s1 ?s2 ?s3 ?s4).mono ?_); (case s1 => (repeat (first | exact HRx.out | (with_reducible refine Kd.C_drewN ?_ _) | (with_reducible refine Kd.C_drew ?_)))); (case s2 => exact HCx.out); (case s3 => (repeat (first | exact HRw.out | (with_reducible refine Kd.C_drewN ?_ _) | (with_reducible refine Kd.C_drew ?_)))); (case s4 => exact HG3.out); rintro e w' ⟨rfl, ⟨nd, rfl⟩⟩) | (go_at_call 29; (with_reducible refine (woodcutref01_Number.calls k _ _ sg _ _ _ ?s1 ?s2 HNUM.out).mono ?_); (case s1 => exact Kd.C_of_reads (h1 := fun _ => rfl) (HA1.out _ (Kd.reads_of_C (by (repeat (first | exact HR0.out | (with_reducible refine Kd.C_drewN ?_ _) | (with_reducible refine Kd.C_drew ?_))))))); (case s2 => exact HC1.out); rintro e w' ⟨rfl, ⟨nd, rfl⟩⟩) | (go_at_call 26; (with_reducible refine (woodcutlaw01_wakes.calls k true _ HW.out).mono ?_); rintro e w' ⟨rfl, hb⟩; have n_ := Aside0.mk (below_step (by (repeat (first | exact HB.out | apply pw_below_drewN | apply below_drew1))) hb); clear HB; have HB := n_; clear n_; clear hb))
  all_goals (go_ret; exact ⟨rfl, by repeat (first | exact HB.out | apply pw_below_drewN | apply below_drew1)⟩)
set_option maxHeartbeats 8000000 in
set_option maxRecDepth 100000 in
/-- The number is put; what stood there is too great. -/
theorem put_big (l : List Int) (A0 : Option Addr) (c0 : Nat) (at_ s n up : Int) (x : List Int) (e0 y f0 : Int) (z bs bf : Bool) (k : Nat) (w : World)
    (hr0 : Kd.C (Kd.int .u8) w A0 l.length l) (hc0 : l.length ≤ c0)
    (hT : woodcutkeep_Twin.f l = some l) (hput : le_Put.f k l at_ s n = some (x, e0)) (hget : le_Get.f k l at_ s = some (y, f0))
    (hz : le_Zeros.f k l at_ up = some z) (hrz : woodcutref01_Zeros.f k l at_ up = some z) (hsame : woodcutkeep_Bytes.f k l l = some true)
    (hsize : woodcutref01_Size.f s = some bs) (hfits : woodcutref01_Fits.f s n = some bf) (hw : woodcutlaw01_wakes.f k = some true) (hlen : decide (500 < (l.length : Int)) = false)
    (a m : Nat) (ha : at_ = (a : Int)) (hs : s = (m : Int)) (p2 : a + m ≤ l.length) (p3 : 1 ≤ m) (p5 : m ≤ 8) (p4 : l.length ≤ 500) (sg : List Int) (hsg : (l.take ((a : Int) + (m : Int)).toNat).drop (a : Int).toNat = sg) (mm : Int) (bo : Bool) (hnum : woodcutref01_Number.f k sg = some (mm, bo)) (D : List Int) (hD : D.length = m) (hby : woodcutref01_Bytes.f k (m : Int) n = some D) (hX : l.take a ++ D ++ l.drop (a + D.length) = x) (hs2 : woodcutkeep_Bytes.f k x x = some true) (h7 : bo = false)
    (h1 : bs = true) (h6 : bf = true) (h3 : e0 = 0) (h4 : f0 = 1) (h5 : y = 0) :
    Calls Try.prog 6 #[.slice A0 l.length c0, .int .i64 at_, .int .i64 s, .int .i64 n, .int .i64 up] w fun e w' => e = .returned (.bool true) ∧ Below w.heap.size w w' := by
  subst ha hs h1 h3 h4 h5 h6 h7
  obtain ⟨i0_, hi0_, _, hsz0_, _⟩ := info_parts info5
  obtain ⟨A1, hcut, hA1, hC1⟩ := print_mid_int (P := Try.prog) (k := .u8) 22 5 Try.underlying22 hi0_ hsz0_ A0 c0 l (a : Int) ((a : Int) + (m : Int)) (by omega) (by omega) (by omega) hc0
  simp only [hsg] at hcut hA1 hC1
  have HA1 := Aside0.mk hA1
  have HC1 := Aside0.mk hC1
  have HNUM := Aside0.mk hnum
  have HBY := Aside0.mk hby
  have HX := Aside0.mk hX
  have HD := Aside0.mk hD
  have hxl : x.length = l.length := by rw [← hX]; simp; omega
  have S2 : ∀ (Ax : Option Addr) (cx : Nat) (Aw : Option Addr) (cw : Nat) (W : World), Kd.C (Kd.int .u8) W Ax x.length x → x.length ≤ cx → Kd.C (Kd.int .u8) W Aw l.length x → l.length ≤ cw →
      Calls Try.prog 19 #[.slice Ax x.length cx, .slice Aw l.length cw] W (fun e w' => e = .returned (.bool true) ∧ Drawn0 W w') := by
    intro Ax cx Aw cw W h1 h2 h3 h4
    rw [← hxl] at h3 h4 ⊢
    exact woodcutkeep_Bytes.calls k Ax cx x Aw cw x true W h1 h2 h3 h4 hs2
  have HS2 := Aside0.mk S2
  have P2 := Aside0.mk p2
  have P3 := Aside0.mk p3
  clear S2 hs2 hxl
  clear hA1 hC1 hnum hsg hi0_ hsz0_ hby hX hD p3
  have q0 : (0 : Int) ≤ (a : Int) := by omega
  have q1 : (a : Int) ≤ (l.length : Int) := by omega
  have q2 : (m : Int) ≤ (l.length : Int) - (a : Int) := by omega
  have q3 : (m : Int) ≤ 8 := by omega
  have q4 : (0 : Int) ≤ (m : Int) := by omega
  have q5 : (l.length : Int) ≤ 500 := by omega
  have tok2 : True := trivial
  have HR0 := Aside0.mk hr0
  have HC0 := Aside0.mk hc0
  have HT := Aside0.mk hT
  have HPUT := Aside0.mk hput
  have HGET := Aside0.mk hget
  have HZ := Aside0.mk hz
  have HRZ := Aside0.mk hrz
  have HSAME := Aside0.mk hsame
  have HSIZE := Aside0.mk hsize
  have HFITS := Aside0.mk hfits
  have HW := Aside0.mk hw
  clear hr0 hc0 hT hput hget hz hrz hsame hsize hfits hw
  have HB := Aside0.mk (Below.refl w.heap.size w)
  have tok1 : True := trivial
  go_enter Try.func6, Try.ntmps6
  go_wp2_with (first | (go_at_call 12; have _t := tok1; (with_reducible refine (woodcutkeep_Twin.calls _ _ l l _ ?s1 ?s2 HT.out).mono ?_); (case s1 => (repeat (first | exact HR0.out | (with_reducible refine Kd.C_drewN ?_ _) | (with_reducible refine Kd.C_drew ?_)))); (case s2 => exact HC0.out); rintro e w' ⟨v_, rfl, ho, hb⟩; clear tok1; have n_ := Aside0.mk (Kd.C_below (by (repeat (first | exact HR0.out | (with_reducible refine Kd.C_drewN ?_ _) | (with_reducible refine Kd.C_drew ?_)))) hb); clear HR0; have HR0 := n_; clear n_; have n_ := Aside0.mk (below_step (by (repeat (first | exact HB.out | apply pw_below_drewN | apply below_drew1))) hb); clear HB; have HB := n_; clear n_; obtain ⟨Ac, cc, ev_⟩ := Kd.R_slice ho; subst ev_; have HOc := Aside0.mk ho; have HRc := Aside0.mk (Kd.R_reads' ho).2.2; have HCc := Aside0.mk (Kd.R_reads' ho).2.1; clear ho hb) | (go_at_call 21; (with_reducible refine (le_Put.calls k _ _ l (a : Int) (m : Int) n _ _ _ ?s1 ?s2 HPUT.out).mono ?_); (case s1 => (repeat (first | exact HRc.out | (with_reducible refine Kd.C_drewN ?_ _) | (with_reducible refine Kd.C_drew ?_)))); (case s2 => exact HCc.out); rintro e w' ⟨v_, rfl, ho, hb⟩; have n_ := Aside0.mk (Kd.C_below (by (repeat (first | exact HR0.out | (with_reducible refine Kd.C_drewN ?_ _) | (with_reducible refine Kd.C_drew ?_)))) hb); clear HR0; have HR0 := n_; clear n_; have n_ := Aside0.mk (Kd.C_below (by (repeat (first | exact HRc.out | (with_reducible refine Kd.C_drewN ?_ _) | (with_reducible refine Kd.C_drew ?_)))) hb); clear HRc; have HRc := n_; clear n_; have n_ := Aside0.mk (below_step (by (repeat (first | exact HB.out | apply pw_below_drewN | apply below_drew1))) hb); clear HB; have HB := n_; clear n_; obtain ⟨Ax, cx, ev_⟩ := Kd.R_slice ho; subst ev_; have HRx := Aside0.mk (Kd.R_reads' ho).2.2; have HCx := Aside0.mk (Kd.R_reads' ho).2.1; clear ho hb) | (go_at_call 22; (with_reducible refine (le_Get.calls k _ _ l (a : Int) (m : Int) _ _ _ ?s1 ?s2 HGET.out).mono ?_); (case s1 => (repeat (first | exact HRc.out | (with_reducible refine Kd.C_drewN ?_ _) | (with_reducible refine Kd.C_drew ?_)))); (case s2 => exact HCc.out); rintro e w' ⟨rfl, ⟨nd, rfl⟩⟩) | (go_at_call 23; (with_reducible refine (le_Zeros.calls k _ _ l (a : Int) up _ _ ?s1 ?s2 HZ.out).mono ?_); (case s1 => (repeat (first | exact HRc.out | (with_reducible refine Kd.C_drewN ?_ _) | (with_reducible refine Kd.C_drew ?_)))); (case s2 => exact HCc.out); rintro e w' ⟨rfl, hb⟩; have n_ := Aside0.mk (Kd.C_below (by (repeat (first | exact HR0.out | (with_reducible refine Kd.C_drewN ?_ _) | (with_reducible refine Kd.C_drew ?_)))) hb); clear HR0; have HR0 := n_; clear n_; have n_ := Aside0.mk (Kd.C_below (by (repeat (first | exact HRc.out | (with_reducible refine Kd.C_drewN ?_ _) | (with_reducible refine Kd.C_drew ?_)))) hb); clear HRc; have HRc := n_; clear n_; have n_ := Aside0.mk (Kd.C_below (by (repeat (first | exact HRx.out | (with_reducible refine Kd.C_drewN ?_ _) | (with_reducible refine Kd.C_drew ?_)))) hb); clear HRx; have HRx := n_; clear n_; have n_ := Aside0.mk (below_step (by (repeat (first | exact HB.out | apply pw_below_drewN | apply below_drew1))) hb); clear HB; have HB := n_; clear n_; clear hb) | (go_at_call 24; (with_reducible refine (woodcutref01_Zeros.calls k _ _ l (a : Int) up _ _ ?s1 ?s2 HRZ.out).mono ?_); (case s1 => (repeat (first | exact HR0.out | (with_reducible refine Kd.C_drewN ?_ _) | (with_reducible refine Kd.C_drew ?_)))); (case s2 => exact HC0.out); rintro e w' ⟨rfl, hb⟩; have n_ := Aside0.mk (Kd.C_below (by (repeat (first | exact HR0.out | (with_reducible refine Kd.C_drewN ?_ _) | (with_reducible refine Kd.C_drew ?_)))) hb); clear HR0; have HR0 := n_; clear n_; have n_ := Aside0.mk (Kd.C_below (by (repeat (first | exact HRc.out | (with_reducible refine Kd.C_drewN ?_ _) | (with_reducible refine Kd.C_drew ?_)))) hb); clear HRc; have HRc := n_; clear n_; have n_ := Aside0.mk (Kd.C_below (by (repeat (first | exact HRx.out | (with_reducible refine Kd.C_drewN ?_ _) | (with_reducible refine Kd.C_drew ?_)))) hb); clear HRx; have HRx := n_; clear n_; have n_ := Aside0.mk (below_step (by (repeat (first | exact HB.out | apply pw_below_drewN | apply below_drew1))) hb); clear HB; have HB := n_; clear n_; clear hb) | (go_at_call 19; (with_reducible refine (woodcutkeep_Bytes.calls k _ _ l _ _ l true _ ?s1 ?s2 ?s3 ?s4 HSAME.out).mono ?_); (case s1 => (repeat (first | exact HRc.out | (with_reducible refine Kd.C_drewN ?_ _) | (with_reducible refine Kd.C_drew ?_)))); (case s2 => exact HCc.out); (case s3 => (repeat (first | exact HR0.out | (with_reducible refine Kd.C_drewN ?_ _) | (with_reducible refine Kd.C_drew ?_)))); (case s4 => exact HC0.out); rintro e w' ⟨rfl, ⟨nd, rfl⟩⟩) | (go_at_call 25; (with_reducible refine (woodcutref01_Size.calls (m : Int) _ _ HSIZE.out).mono ?_); rintro e w' ⟨rfl, ⟨nd, rfl⟩⟩) | (go_at_call 27; (with_reducible refine (woodcutref01_Fits.calls (m : Int) n _ _ HFITS.out).mono ?_); rintro e w' ⟨rfl, ⟨nd, rfl⟩⟩) | (go_at_call 26; (with_reducible refine (woodcutlaw01_wakes.calls k true _ HW.out).mono ?_); rintro e w' ⟨rfl, hb⟩; have n_ := Aside0.mk (below_step (by (repeat (first | exact HB.out | apply pw_below_drewN | apply below_drew1))) hb); clear HB; have HB := n_; clear n_; clear hb) | (go_at_call 12; have _t2 := tok2; (with_reducible refine (woodcutkeep_Twin.calls _ _ l l _ ?s1 ?s2 HT.out).mono ?_); (case s1 => (repeat (first | exact HR0.out | (with_reducible refine Kd.C_drewN ?_ _) | (with_reducible refine Kd.C_drew ?_)))); (case s2 => exact HC0.out); rintro e w' ⟨v_, rfl, ho, hb⟩; clear tok2; obtain ⟨g, cw, cur, ev_, hg1, hg2, hg3, hg4, hg5, hg6⟩ := row_open ho (by have := P2.out; have := P3.out; omega); subst ev_; have HBt := Aside0.mk hb; have HG1 := Aside0.mk hg1; have HG2 := Aside0.mk hg2; have HG3 := Aside0.mk hg3; have HG6 := Aside0.mk hg6; have HGL := Aside0.mk hg5; have hcw := cut_from g l.length cw a (by have := P2.out; have := P3.out; omega) (by have := P2.out; omega); clear ho hb hg1 hg2 hg3 hg4 hg5 hg6))
  go_region_law (first | (refine goes_ (f := 28) Try.func28 (by kernel_rfl) rfl #[.int .i64 (m : Int), .int .i64 n] (by simp [Region.wanted]) rfl rfl (by simp [Act.eval, Act.put]) ?_; refine (woodcutref01_Bytes.calls k (m : Int) n D _ HBY.out).mono ?_; rintro e w' ⟨v_, rfl, ho, hb⟩; have n_ := Aside0.mk (below_step (below_drew1 HBt.out) hb); clear HBt; have HBt := n_; clear n_; have HGW := Aside0.mk (keep_blk HG2.out hb); obtain ⟨Ad, cd, ev_⟩ := Kd.R_slice ho; subst ev_; obtain ⟨ad, ea_, hsrc⟩ := src_cells (Kd.R_reads' ho).2.2 (by rw [HD.out]; exact P3.out); subst ea_; have HSRC := Aside0.mk hsrc; clear ho hb hsrc; refine ⟨_, rfl, ?_⟩) | (refine step_copy_splice rfl (.tmp 75) (.tmp 78) 22 22 rfl 5 Try.underlying22 ksz (some ⟨g, a, none⟩) (some ad) (l.length - a) (cw - a) D.length cd (by simp [Act.eval, Act.put]) (by simp [Act.eval, Act.put]) g a cur 5 HGW.out (D.map (Value.int .u8)) (copy_len a m l.length D HD.out P2.out) (copy_pos HSRC.out) (copy_fit HD.out P2.out HGL.out HG3.out) (one_cells D) _ _ HBt.out HG1.out ?_; intro w3 hg3 hb; have HRw := Aside0.mk (splice_reads hg3.out HG6.out (by rw [HD.out]; exact P2.out) (by omega) x HX.out); have n_ := Aside0.mk (Kd.C_below (by (repeat (first | exact HR0.out | (with_reducible refine Kd.C_drewN ?_ _) | (with_reducible refine Kd.C_drew ?_)))) hb); clear HR0; have HR0 := n_; clear n_; have n_ := Aside0.mk (Kd.C_below (by (repeat (first | exact HRx.out | (with_reducible refine Kd.C_drewN ?_ _) | (with_reducible refine Kd.C_drew ?_)))) hb); clear HRx; have HRx := n_; clear n_; have n_ := Aside0.mk (below_step (by (repeat (first | exact HB.out | apply pw_below_drewN | apply below_drew1))) hb); clear HB; have HB := n_; clear n_; clear hg3 hb))
  go_wp2_with (first | (go_at_call 19; (with_reducible refine (HS2.out _ _ _ _ _ ?s1 ?s2 ?s3 ?s4).mono ?_); (case s1 => (repeat (first | exact HRx.out | (with_reducible refine Kd.C_drewN ?_ _) | (with_reducible refine Kd.C_drew ?_)))); (case s2 => exact HCx.out); (case s3 => (repeat (first | exact HRw.out | (with_reducible refine Kd.C_drewN ?_ _) | (with_reducible refine Kd.C_drew ?_)))); (case s4 => exact HG3.out); rintro e w' ⟨rfl, ⟨nd, rfl⟩⟩) | (go_at_call 29; (with_reducible refine (woodcutref01_Number.calls k _ _ sg _ _ _ ?s1 ?s2 HNUM.out).mono ?_); (case s1 => exact Kd.C_of_reads (h1 := fun _ => rfl) (HA1.out _ (Kd.reads_of_C (by (repeat (first | exact HR0.out | (with_reducible refine Kd.C_drewN ?_ _) | (with_reducible refine Kd.C_drew ?_))))))); (case s2 => exact HC1.out); rintro e w' ⟨rfl, ⟨nd, rfl⟩⟩) | (go_at_call 26; (with_reducible refine (woodcutlaw01_wakes.calls k true _ HW.out).mono ?_); rintro e w' ⟨rfl, hb⟩; have n_ := Aside0.mk (below_step (by (repeat (first | exact HB.out | apply pw_below_drewN | apply below_drew1))) hb); clear HB; have HB := n_; clear n_; clear hb))
  all_goals (go_ret; exact ⟨rfl, by repeat (first | exact HB.out | apply pw_below_drewN | apply below_drew1)⟩)
end Go.Proofs.Ytpaoboadccnnmaa.WE
