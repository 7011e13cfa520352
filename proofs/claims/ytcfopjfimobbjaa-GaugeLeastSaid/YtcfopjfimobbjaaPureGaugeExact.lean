/- The law GaugeExact at every input: its walk with the plain facts put in. -/
import Derived.Test.YtcfopjfimobbjaaMExact
import Derived.Test.YtcfopjfimobbjaaFFloats
import Derived.Deep.QuietTactic
import Derived.BigQuiet
import Derived.OwnWalk
import Derived.Laws.AppendOwnNone
namespace Go.Proofs.Ytcfopjfimobbjaa.GX
set_option linter.unusedVariables false
set_option linter.unusedSimpArgs false
open Go Go.RowKit
open Go.Proofs.Ytcfopjfimobbjaa.FL Go.Proofs.Ytcfopjfimobbjaa.WG Go.Proofs.Ytcfopjfimobbjaa.GS Go.Proofs.Ytcfopjfimobbjaa.GW
theorem info22 : (Try.prog.info? 22).map (fun i => (i.zero, i.size, i.bytes)) = some (some (.float .f64 0), 1, 8) := by kernel_rfl
/-- A row of the call's own reads as floats. -/
theorem own_fr {w1 : World} {B0 : Nat} {v : Value} {l : List Nat} (h : w1.ownsRow B0 22 1 v l.length (l.map (Value.float .f64))) (hm : l.length ≤ 9223372036854775807) :
    ∃ A c, v = .slice A l.length c ∧ l.length ≤ c ∧ (A = none → l.length = 0) ∧ Fr w1 A l ∧ (∀ x, A = some x → B0 ≤ x.block) := by
  have hcells := h
  rcases h.2 with ⟨rfl, h0⟩ | ⟨g, cap, cur, rfl, hb, hg, hn, hcap, hs, ht⟩
  · exact ⟨none, 0, by rw [h0], by omega, fun _ => h0, ⟨hm, .inl h0⟩, fun _ h => by cases h⟩
  · refine ⟨_, cap, rfl, hn, fun h => (by cases h), ⟨hm, .inr ⟨_, rfl, fun i hi => ?_⟩⟩, fun x hx => by cases hx; exact hb⟩
    refine hcells.cells rfl i _ ?_
    rw [List.getElem?_map, List.getElem?_eq_getElem hi, List.getD_eq_getElem?_getD, List.getElem?_eq_getElem hi]
    rfl
theorem share_lt (a b : Nat) (ha : a < 2 ^ 64) (hb : b < 2 ^ 64) : share a b < 2 ^ 64 := by
  cases hc : ((FloatKind.f64.format.order a a != some .eq) || (FloatKind.f64.format.order b b != some .eq) || (FloatKind.f64.format.order a 0 == some .lt) || !(FloatKind.f64.format.order b 0 == some .gt))
  case true => rw [share_none a b hc]; decide
  case false =>
    rw [Bool.or_eq_false_iff, Bool.or_eq_false_iff, Bool.or_eq_false_iff] at hc
    obtain ⟨⟨⟨h1, h2⟩, h3⟩, h4⟩ := hc
    have h4 : (FloatKind.f64.format.order b 0 == some .gt) = true := by rw [← Bool.not_eq_false']; exact h4
    have n1 : isnan a = false := (isnan_iff a).symm.trans h1
    have n2 : isnan b = false := (isnan_iff b).symm.trans h2
    have e3 : (FloatKind.f64.format.order a 0 == some .lt) = decide (ky a < 0) := by
      refine (lt_ky a 0 n1 nan_zero).trans ?_; rw [ky_zero]
    have e4 : (FloatKind.f64.format.order b 0 == some .gt) = decide (0 < ky b) := by
      refine (gt_ky b 0 n2 nan_zero).trans ?_; rw [ky_zero]
    have k1 := of_decide_eq_false (e3.symm.trans h3)
    have k2 := of_decide_eq_true (e4.symm.trans h4)
    have h := (share_val a b ha hb n1 n2 (by omega) k2).1
    have hO : ONE = 4607182418800017408 := rfl
    omega
theorem fr_heap {W w1 : World} {A : Option Addr} {l : List Nat} (h : Fr w1 A l) (he : W.heap = w1.heap) : Fr W A l := by
  obtain ⟨h1, h2⟩ := h
  refine ⟨h1, h2.imp id ?_⟩
  rintro ⟨x, hx, hc⟩
  refine ⟨x, hx, fun i hi => ?_⟩
  have := hc i hi
  unfold World.cell? at this ⊢
  rw [he]
  exact this
theorem below_drewN {B : Nat} {a w : World} (n : Nat) (h : Below B a w) : Below B a (w.drewN n) := ⟨h.os, h.tape, h.output, h.size, h.block⟩
set_option maxHeartbeats 8000000 in
set_option maxRecDepth 100000 in
theorem gx (a b : Nat) (x : Addr) (c : Nat) (l : List Nat) (w : World) (ha : a < 2 ^ 64) (hb : b < 2 ^ 64) (hm : l.length ≤ 100) (hc : l.length ≤ c)
    (hcell : ∀ i, i < l.length → w.cell? (x.add i) = some (.float .f64 (l.getD i 0))) (hl : ∀ y ∈ l, y < 2 ^ 64) :
    Calls Try.prog 3 #[.float .f64 a, .float .f64 b, .slice (some x) l.length c] w fun e w' => e = .returned (.bool true) ∧ Below w.heap.size w w' := by
  obtain ⟨i0, hi, hz0, hz1, hz2⟩ := info_parts info22
  have e1 : decide ((100 : Int) < (l.length : Int)) = false := decide_eq_false (by omega)
  go_enter Try.func3, Try.ntmps3
  go_wp2_with (at_builtin; refine wpList_append_own _ rfl _ _ 23 rfl w.heap.size 22 i0 (.float .f64 0) 1 8 Try.underlying23 hi hz0 hz1 hz2 rfl (by decide) _ _ _ rfl (World.ownsRow_nil _ _ _ _) x l.length c (l.map (.float .f64)) rfl (by simp) ?c1 ?c2 ?c3 ?c4 ?c5 ?_)
  case c1 =>
    intro j u hu
    rw [List.getElem?_map] at hu
    rcases Nat.lt_or_ge j l.length with hj | hj
    · rw [List.getElem?_eq_getElem hj] at hu
      rw [hcell j hj, ← hu, List.getD_eq_getElem?_getD, List.getElem?_eq_getElem hj]
      rfl
    · rw [List.getElem?_eq_none hj] at hu
      cases hu
  case c2 =>
    intro u hu
    obtain ⟨y, _, rfl⟩ := List.mem_map.1 hu
    rfl
  case c3 => unfold maxLen; omega
  case c4 => omega
  case c5 => omega
  intro v' w1 hown hg _
  obtain ⟨B, c', rfl, hcc, hBn, hF, hge⟩ := own_fr hown (by omega)
  have hFl : Fr w1 (some x) l := ⟨by omega, .inr ⟨x, rfl, fun i h => hg.cell (hcell i h) (by simp [Value.ownBlock])⟩⟩
  have bel : Below w.heap.size w w1 := ⟨hg.os, hg.tape, hg.output, hg.size, fun k hk => hg.block k hk (by simp [Value.ownBlock])⟩
  have cS := fun W => share_calls' a b hb W
  have cR := fun W => refshare_ok a b ha hb W
  obtain ⟨p, cP, cQ⟩ := percent_both a ha
  have hsl : share a b < 2 ^ 64 := share_lt a b ha hb
  have LC := fun (W : World) (h : W.heap = w1.heap) => least_calls B c' l W (fr_heap hF h) hcc
  have LR := fun (W : World) (h : W.heap = w1.heap) => refleast_calls (some x) c l W (fr_heap hFl h) hc (fun i hi => eq_zero _ (hl _ (by rw [List.getD_eq_getElem?_getD, List.getElem?_eq_getElem hi]; exact List.getElem_mem hi)))
  have cV := fun W => same_calls a b W
  have c8 := fun W => same8 a b (same a b) ha hb rfl W
  have hll := least_lt l hl
  clear hown hg hcell
  go_wp2_with (first
    | (go_at_call 9; (with_reducible refine (cS _).mono ?_); rintro e w' ⟨rfl, rfl⟩)
    | (go_at_call 10; (with_reducible refine (cR _).mono ?_); rintro e w' ⟨r, n, rfl, hr, hs, rfl⟩)
    | (go_at_call 8; (first | (with_reducible refine (same8 _ _ true hsl hr hs _).mono ?_) | (with_reducible refine (same8 _ _ true hll (refleast_lt b0 hb0l l hl) (least_same b0 hb0 l hl) _).mono ?_) | (with_reducible refine (c8 _).mono ?_)); rintro e w' ⟨rfl, rfl⟩)
    | (go_at_call 11; (with_reducible refine (cP _).mono ?_); rintro e w' ⟨rfl, rfl⟩)
    | (go_at_call 12; (with_reducible refine (cQ _).mono ?_); rintro e w' ⟨rfl, rfl⟩)
    | (go_at_call 13; (with_reducible refine (LC _ (by simp)).mono ?_); rintro e w' ⟨rfl, rfl⟩)
    | (go_at_call 14; (with_reducible refine (LR _ (by simp)).mono ?_); rintro e w' ⟨b0, rfl, hb0, hb0l, rfl⟩)
    | (go_at_call 15; (with_reducible refine (cV _).mono ?_); rintro e w' ⟨rfl, rfl⟩))
  generalize hW0 : w1.drewN (n + 1) = W0
  have hh0 : W0.heap = w1.heap := by rw [← hW0]; rfl
  have hb0' : Below w.heap.size w W0 := by rw [← hW0]; exact below_drewN _ bel
  clear hW0 bel cS cR cP cQ LC LR cV c8 hs hr hsl hll hb0 hb0l
  go_loopw [8] (fun v8 wr => ∃ i : Nat, i ≤ l.length ∧ v8 = .int .i64 (i : Int) ∧ wr.heap = w1.heap ∧ Below w.heap.size w wr) (fun v8 _ => match v8 with | .int _ i => ((l.length : Int) - i).toNat | _ => 0)
  case atStart => exact ⟨0, Nat.zero_le _, rfl, hh0, hb0'⟩
  case round =>
  clear hh0 hb0'
  obtain ⟨i, hi, rfl, hh, hbel⟩ := hrel
  rcases Nat.lt_or_ge i l.length with hlt | hge
  · obtain ⟨y, rfl, hy⟩ : ∃ y : Addr, B = some y ∧ ∀ i, i < l.length → w1.cell? (y.add i) = some (.float .f64 (l.getD i 0)) := by
      rcases hF.2 with h | h
      · omega
      · exact h
    have hc1 : wr.cell? (y.add i) = some (.float .f64 (l.getD i 0)) := by have := hy i hlt; unfold World.cell? at this ⊢; rw [hh]; exact this
    have hc2 : wr.cell? (x.add i) = some (.float .f64 (l.getD i 0)) := by
      rcases hFl.2 with h | ⟨x', hx', h⟩
      · omega
      · cases hx'
        have := h i hlt; unfold World.cell? at this ⊢; rw [hh]; exact this
    have hv : l.getD i 0 < 2 ^ 64 := hl _ (by rw [List.getD_eq_getElem?_getD, List.getElem?_eq_getElem hlt]; exact List.getElem_mem hlt)
    have i1 : (0 : Int) ≤ (i : Int) := by omega
    have i2 : (i : Int) < (l.length : Int) := by omega
    have dec : ((l.length : Int) - ((i + 1 : Nat) : Int)).toNat < ((l.length : Int) - (i : Int)).toNat := by omega
    have c8 := fun W => same8 (l.getD i 0) (l.getD i 0) true hv hv (same_refl _) W
    have fin : ∀ n, (wr.drewN n).heap = w1.heap ∧ Below w.heap.size w (wr.drewN n) := fun n => ⟨hh, below_drewN n hbel⟩
    clear hh hbel hy hF hFl hl
    generalize l.getD i 0 = Y at hc1 hc2 c8
    go_wp2
    go_quiet ((go_at_call 8; exact Calls.quiet_of_same ((c8 _).mono fun _ _ h => ⟨h.1, h.2.symm⟩)))
    go_wp2
    rw [show (i : Int) + 1 = ((i + 1 : Nat) : Int) by omega]
    exact ⟨⟨i + 1, hlt, rfl, fin _⟩, dec⟩
  · have hil : i = l.length := by omega
    have e1 : decide ((i : Int) < (l.length : Int)) = false := decide_eq_false (by omega)
    go_wp2_with (go_at_call 16; (with_reducible refine (wakes_calls _).mono ?_); rintro e w' ⟨rfl, hbb⟩)
    go_ret
    exact ⟨rfl, hbel.trans (hbb.mono hbel.size)⟩
set_option maxHeartbeats 8000000 in
set_option maxRecDepth 100000 in
theorem gx_nil (a b : Nat) (w : World) (ha : a < 2 ^ 64) (hb : b < 2 ^ 64) :
    Calls Try.prog 3 #[.float .f64 a, .float .f64 b, .slice none 0 0] w fun e w' => e = .returned (.bool true) ∧ Below w.heap.size w w' := by
  obtain ⟨i0, hi, hz0, hz1, hz2⟩ := info_parts info22
  have hF : ∀ W : World, Fr W none [] := fun W => ⟨by decide, .inl rfl⟩
  have cS := fun W => share_calls' a b hb W
  have cR := fun W => refshare_ok a b ha hb W
  obtain ⟨p, cP, cQ⟩ := percent_both a ha
  have hsl : share a b < 2 ^ 64 := share_lt a b ha hb
  have hl : ∀ y ∈ ([] : List Nat), y < 2 ^ 64 := fun y h => by cases h
  have LC : ∀ W : World, Calls Try.prog 13 #[.slice none 0 0] W fun e w' => e = .returned (.float .f64 (least [])) ∧ W = w' := fun W => least_calls none 0 [] W (hF W) (Nat.le_refl _)
  have LR : ∀ W : World, Calls Try.prog 14 #[.slice none 0 0] W fun e w' => ∃ b, e = .returned (.float .f64 (refleast b []).1) ∧ isnan b = true ∧ b < 2 ^ 64 ∧ w' = W.drew := fun W => refleast_calls none 0 [] W (hF W) (Nat.le_refl _) (fun i hi => absurd hi (by simp))
  have cV := fun W => same_calls a b W
  have c8 := fun W => same8 a b (same a b) ha hb rfl W
  have hll := least_lt [] hl
  clear hF
  go_enter Try.func3, Try.ntmps3
  go_wp2_with (at_builtin; refine wpList_append_own_none rfl _ _ 23 rfl w.heap.size 22 i0 1 Try.underlying23 hi _ _ _ rfl (World.ownsRow_nil _ _ _ _) rfl ?_)
  go_wp2_with (first
    | (go_at_call 9; (with_reducible refine (cS _).mono ?_); rintro e w' ⟨rfl, rfl⟩)
    | (go_at_call 10; (with_reducible refine (cR _).mono ?_); rintro e w' ⟨r, n, rfl, hr, hs, rfl⟩)
    | (go_at_call 8; (first | (with_reducible refine (same8 _ _ true hsl hr hs _).mono ?_) | (with_reducible refine (same8 _ _ true hll (refleast_lt b0 hb0l [] hl) (least_same b0 hb0 [] hl) _).mono ?_) | (with_reducible refine (c8 _).mono ?_)); rintro e w' ⟨rfl, rfl⟩)
    | (go_at_call 11; (with_reducible refine (cP _).mono ?_); rintro e w' ⟨rfl, rfl⟩)
    | (go_at_call 12; (with_reducible refine (cQ _).mono ?_); rintro e w' ⟨rfl, rfl⟩)
    | (go_at_call 13; (with_reducible refine (LC _).mono ?_); rintro e w' ⟨rfl, rfl⟩)
    | (go_at_call 14; (with_reducible refine (LR _).mono ?_); rintro e w' ⟨b0, rfl, hb0, hb0l, rfl⟩)
    | (go_at_call 15; (with_reducible refine (cV _).mono ?_); rintro e w' ⟨rfl, rfl⟩))
  generalize hW0 : w.drewN (n + 1) = W0
  have hb0' : Below w.heap.size w W0 := by rw [← hW0]; exact below_drewN _ (Below.refl _ _)
  clear hW0 cS cR cP cQ LC LR cV c8 hs hr hsl hll hb0 hb0l
  go_loopw [8] (fun v8 wr => v8 = .int .i64 0 ∧ wr = W0) (fun v8 _ => 0)
  case atStart => exact ⟨rfl, rfl⟩
  case round =>
  obtain ⟨rfl, rfl⟩ := hrel
  go_wp2_with (go_at_call 16; (with_reducible refine (wakes_calls _).mono ?_); rintro e w' ⟨rfl, hbb⟩)
  go_ret
  exact ⟨rfl, hb0'.trans (hbb.mono hb0'.size)⟩
set_option maxHeartbeats 8000000 in
set_option maxRecDepth 100000 in
theorem gx_long (a b : Nat) (A : Option Addr) (n c : Nat) (w : World) (hn : 100 < n) :
    Calls Try.prog 3 #[.float .f64 a, .float .f64 b, .slice A n c] w fun e w' => e = .returned (.bool true) ∧ Below w.heap.size w w' := by
  have e1 : decide ((100 : Int) < (n : Int)) = true := decide_eq_true (by omega)
  go_enter Try.func3, Try.ntmps3
  go_wp2
  go_ret
  exact ⟨rfl, Below.refl _ _⟩
theorem walk (a b : Nat) (A : Option Addr) (len cap : Nat) (zs : List Nat) (W : World) (wa : (Lit.float .f64 a).wf = true) (wb : (Lit.float .f64 b).wf = true) (hr : Fl.FRow W A len cap zs) (hy : len * 8 ≤ 140737488351232) :
    Calls Try.prog 3 #[.float .f64 a, .float .f64 b, .slice A len cap] W fun e w' => e = .returned (.bool true) ∧ Below W.heap.size W w' := by
  have ha := b64 wa
  have hb := b64 wb
  rcases hr with ⟨rfl, rfl, rfl, rfl⟩ | ⟨x, rfl, h1, h2, h3, h4, h5⟩
  · exact gx_nil a b W ha hb
  · rcases Nat.lt_or_ge 100 len with h | h
    · exact gx_long a b _ len cap W h
    · have hlen : (zs.take len).length = len := by rw [List.length_take]; omega
      have := gx a b x cap (zs.take len) W ha hb (by omega) (by omega) (fun i hi => by rw [h4 i (by omega), Fl.getD_take zs len i (by omega)]) (fun y hy => b64 (h5 y (List.mem_of_mem_take hy)))
      rw [hlen] at this
      exact this
end Go.Proofs.Ytcfopjfimobbjaa.GX
