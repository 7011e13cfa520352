/- The law GaugeLeast at every input: its walk with the plain facts put in. -/
import Derived.Test.YtcfopjfimobbjaaMLeast
import Derived.Test.YtcfopjfimobbjaaPureGaugeExact
import Derived.Deep.RegionLaw
namespace Go.Proofs.Ytcfopjfimobbjaa.GL
set_option linter.unusedVariables false
set_option linter.unusedSimpArgs false
open Go Go.RowKit
open Go.Proofs.Ytcfopjfimobbjaa.FL Go.Proofs.Ytcfopjfimobbjaa.WG Go.Proofs.Ytcfopjfimobbjaa.GS Go.Proofs.Ytcfopjfimobbjaa.GW Go.Proofs.Ytcfopjfimobbjaa.GX
theorem step_append_own {P : Program} {ops : Array Oper} {o : Oper} {a : Act} {w : World} {K : Act → World → Prop} {Q : Exit → Act → World → Prop} {E : Prop} (hg : o.guard = none) (s x : Operand) (t : TypeId)
    (ho : o.op = .call { callee := .builtin .append, args := #[s, x], argTypes := #[t, t] })
    (base : Nat) (e : TypeId) (i : TypeInfo) (z : Value) (size bytes : Nat) (ht : P.underlying t = some (.slice e)) (hi : P.info? e = some i) (hz : i.zero = some z)
    (hsize : i.size = size) (hby : i.bytes = bytes) (hzs : z.cells.size = size) (hsz : 0 < size)
    (v : Value) (n : Nat) (xs : List Value) (hs : a.eval s = v) (hown : w.ownsRow base e size v n xs)
    (ad : Addr) (m c : Nat) (news : List Value) (hx : a.eval x = .slice (some ad) m c) (hl : news.length = m * size) (hnews : ∀ j u, news[j]? = some u → w.cell? (ad.add j) = some u) (h1 : ∀ u ∈ news, u.oneCell' = true)
    (h63 : n + m ≤ maxLen) (hbytes : (n + m) * bytes ≤ 140737488355328) (hbase : base ≤ w.heap.size)
    (h : ∀ v' w', w'.ownsRow base e size v' (n + m) (xs ++ news) → w.grownBy w' v.ownBlock → K (a.put o.dst v') w') :
    if Region.wanted o (yielded ops a.tmps) = true then Oper.wp P o a w K Q else E := by
  have hw : Region.wanted o (yielded ops a.tmps) = true := by simp [Region.wanted, hg]
  rw [if_pos hw]
  exact wp_append_own w s x t ho base e i z size bytes ht hi hz hsize hby hzs hsz v n xs hs hown ad m c news hx hl hnews h1 h63 hbytes hbase fun v' w' h2 h3 _ => h v' w' h2 h3
theorem bel_two {B : Nat} {w wr w1 w2 : World} {o : Obj} {v1 : Value} {e n : Nat} {size : Nat} {xs : List Value} (hbel : Below B w wr) (hB : B ≤ wr.heap.size) (hg1 : ((wr.alloc o).drew).grownBy w1 (some wr.heap.size)) (hown1 : w1.ownsRow B e size v1 n xs) (hg2 : w1.grownBy w2 v1.ownBlock) : Below B w w2 := by
  have hs : B ≤ ((wr.alloc o).drew).heap.size := Nat.le_trans hB (by simp)
  refine Below.grown (Below.grown ((hbel.alloc hB o).drew) hg1 hs ?_) hg2 (Nat.le_trans hs hg1.size) (fun k hk => (hown1.lt k hk).1)
  intro k hk
  have := Option.some.inj hk
  omega
set_option maxHeartbeats 8000000 in
set_option maxRecDepth 100000 in
theorem gl (by_ : Int) (x : Addr) (c k : Nat) (l : List Nat) (w : World) (hm : l.length ≤ 100) (h0 : 0 < l.length) (hc : l.length ≤ c)
    (hcell : ∀ i, i < l.length → w.cell? (x.add i) = some (.float .f64 (l.getD i 0))) (hl : ∀ y ∈ l, y < 2 ^ 64)
    (hk : k < l.length) (ek : wrap64 (Int.tmod (IntKind.u64.wrap by_) (l.length : Int)) = (k : Int)) :
    Calls Try.prog 5 #[.slice (some x) l.length c, .int .i64 by_] w fun e w' => e = .returned (.bool true) ∧ Below w.heap.size w w' := by
  obtain ⟨i0, hinf, hz0, hz1, hz2⟩ := info_parts info22
  have e1 : decide ((100 : Int) < (l.length : Int)) = false := decide_eq_false (by omega)
  have e2 : decide ((l.length : Int) = 0) = false := decide_eq_false (by omega)
  have hFl : Fr w (some x) l := ⟨by omega, .inr ⟨x, rfl, hcell⟩⟩
  have LC := fun (W : World) (h : W.heap = w.heap) => least_calls (some x) c l W (fr_heap hFl h) hc
  go_enter Try.func5, Try.ntmps5
  go_wp2_with (first
    | (go_at_call 13; (with_reducible refine (LC _ (by simp)).mono ?_); rintro e w' ⟨rfl, rfl⟩))
  have hless := fun v hv => no_less l hl v hv
  have hmet := is_met l hl h0
  have hany := is_any l hl
  have hperm := least_perm l (l.drop k ++ l.take k) hl (rot_mem l k)
  have hrot : ∀ y ∈ l.drop k ++ l.take k, y < 2 ^ 64 := fun y hy => hl y ((rot_mem l k y).1 hy)
  clear LC
  generalize hX : least l = X at *
  go_loopw [6, 7, 8] (fun v6 v7 v8 wr => ∃ i : Nat, i ≤ l.length ∧ v8 = .int .i64 (i : Int) ∧ v6 = .bool ((l.take i).any fun v => same v X) ∧ v7 = .bool ((l.take i).any fun v => FloatKind.f64.format.order v v == some .eq) ∧ wr.heap = w.heap ∧ Below w.heap.size w wr) (fun _ _ v8 _ => match v8 with | .int _ i => ((l.length : Int) - i).toNat | _ => 0)
  case atStart => exact ⟨0, Nat.zero_le _, rfl, by simp, by simp, rfl, Below.refl _ _⟩
  case round =>
  obtain ⟨i, hi, rfl, rfl, rfl, hh, hbel⟩ := hrel
  rcases Nat.lt_or_ge i l.length with hlt | hge
  · have hc2 : wr.cell? (x.add i) = some (.float .f64 (l.getD i 0)) := by
      have := hcell i hlt; unfold World.cell? at this ⊢; rw [hh]; exact this
    have hmem : l.getD i 0 ∈ l := by rw [List.getD_eq_getElem?_getD, List.getElem?_eq_getElem hlt]; exact List.getElem_mem hlt
    have hnl := hless _ hmem
    have s6 := any_succ (fun v => same v X) l i hlt
    have s7 := any_succ (fun v => FloatKind.f64.format.order v v == some .eq) l i hlt
    have i1 : (0 : Int) ≤ (i : Int) := by omega
    have i2 : (i : Int) < (l.length : Int) := by omega
    have dec : ((l.length : Int) - ((i + 1 : Nat) : Int)).toNat < ((l.length : Int) - (i : Int)).toNat := by omega
    have fin : ∀ n, (wr.drewN n).heap = w.heap ∧ Below w.heap.size w (wr.drewN n) := fun n => ⟨hh, GX.below_drewN n hbel⟩
    have c15 := fun Y W => same_calls Y X W
    clear hh hbel hFl hl hless hmet hany hperm hrot hcell hmem
    generalize l.getD i 0 = Y at hc2 hnl s6 s7
    generalize (l.take i).any (fun v => same v X) = met at s6 ⊢
    generalize (l.take i).any (fun v => FloatKind.f64.format.order v v == some .eq) = anyv at s7 ⊢
    cases met <;> cases anyv
    all_goals
      (go_wp2_with (go_at_call 15; (with_reducible refine (c15 _ _).mono ?_); rintro e w' ⟨rfl, rfl⟩)
       go_quiet (fail)
       go_wp2
       rw [show (i : Int) + 1 = ((i + 1 : Nat) : Int) by omega]
       exact ⟨⟨i + 1, hlt, rfl, by rw [s6]; rfl, by rw [s7]; rfl, fin _⟩, dec⟩)
  · have hil : i = l.length := by omega
    have e1 : decide ((i : Int) < (l.length : Int)) = false := decide_eq_false (by omega)
    have hc3 : ∀ j, j < l.length → wr.cell? (x.add j) = some (.float .f64 (l.getD j 0)) := fun j hj => by
      have := hcell j hj; unfold World.cell? at this ⊢; rw [hh]; exact this
    rw [show l.take i = l by rw [hil, List.take_length], hmet, hany]
    clear hless hFl hcell hh
    have k1 : (0 : Int) ≤ (k : Int) := by omega
    have k2 : (k : Int) ≤ (l.length : Int) := by omega
    have k3 : (k : Int) < (c : Int) := by omega
    have k3' : ¬ c = k := by omega
    have k4 : (l.length : Int) ≤ (c : Int) := by omega
    have k5 : k ≤ c := by omega
    obtain ⟨m, hmd⟩ : ∃ m, m = l.drop k ++ l.take k := ⟨_, rfl⟩
    rw [← hmd] at hperm hrot
    have en : 0 + (l.length - k) + k = m.length := by rw [hmd, List.length_append, List.length_drop, List.length_take]; omega
    have exs : ([] ++ (l.drop k).map (Value.float .f64)) ++ (l.take k).map (Value.float .f64) = m.map (Value.float .f64) := by rw [hmd, List.map_append, List.nil_append]
    clear hmd
    have own1 : ((wr.alloc (.cells #[] 22)).drew).ownsRow w.heap.size 22 1 (.slice (some ⟨wr.heap.size, 0, none⟩) 0 0) 0 [] := World.ownsRow_made wr #[] 0 hbel.size (by unfold maxLen; omega) rfl
    have hblk : ∀ j, j < l.length → (x.add j).block < wr.heap.size := fun j hj => World.block_lt_of_cell? wr _ (hc3 j hj)
    have hxb : x.block < wr.heap.size := by have := hblk k hk; rwa [Go.ChangeShapes.block_add] at this
    have cells1 : ∀ j u, ((l.drop k).map (Value.float .f64))[j]? = some u → ((wr.alloc (.cells #[] 22)).drew).cell? ((x.add k).add j) = some u := by
      intro j u hu
      rw [List.getElem?_map, List.getElem?_drop] at hu
      rcases Nat.lt_or_ge (k + j) l.length with hj | hj
      · rw [List.getElem?_eq_getElem hj] at hu
        rw [show (x.add k).add j = x.add (k + j) from Addr.add_add x k j]
        refine Eq.trans ((World.grownBy_alloc wr (.cells #[] 22) none).cell (hc3 (k + j) hj) (by simp)) ?_
        rw [← hu, List.getD_eq_getElem?_getD, List.getElem?_eq_getElem hj]
        rfl
      · rw [List.getElem?_eq_none hj] at hu
        cases hu
    have cells2 : ∀ w1 : World, ((wr.alloc (.cells #[] 22)).drew).grownBy w1 (some wr.heap.size) → ∀ j u, ((l.take k).map (Value.float .f64))[j]? = some u → w1.cell? (x.add j) = some u := by
      intro w1 hg1 j u hu
      rw [List.getElem?_map, List.getElem?_take] at hu
      split at hu
      next hj =>
        rw [List.getElem?_eq_getElem (by omega : j < l.length)] at hu
        have h1 : ((wr.alloc (.cells #[] 22)).drew).cell? (x.add j) = some (.float .f64 (l.getD j 0)) := (World.grownBy_alloc wr (.cells #[] 22) none).cell (hc3 j (by omega)) (by simp)
        refine Eq.trans (hg1.cell h1 ?_) ?_
        · rw [Go.ChangeShapes.block_add]; intro h; have := Option.some.inj h; omega
        · rw [← hu, List.getD_eq_getElem?_getD, List.getElem?_eq_getElem (by omega : j < l.length)]
          rfl
      next => cases hu
    have one1 : ∀ u ∈ (l.drop k).map (Value.float .f64), u.oneCell' = true := by intro u hu; obtain ⟨y, _, rfl⟩ := List.mem_map.1 hu; rfl
    have one2 : ∀ u ∈ (l.take k).map (Value.float .f64), u.oneCell' = true := by intro u hu; obtain ⟨y, _, rfl⟩ := List.mem_map.1 hu; rfl
    have b1 : 0 + (l.length - k) ≤ maxLen := by unfold maxLen; omega
    have b2 : (0 + (l.length - k)) * 8 ≤ 140737488355328 := by omega
    have b3 : 0 + (l.length - k) + k ≤ maxLen := by unfold maxLen; omega
    have b4 : (0 + (l.length - k) + k) * 8 ≤ 140737488355328 := by omega
    have hm100 : m.length ≤ 9223372036854775807 := by rw [← en]; omega
    have l1 : ((l.drop k).map (Value.float .f64)).length = (l.length - k) * 1 := by simp
    have l2 : ((l.take k).map (Value.float .f64)).length = k * 1 := by simp; omega
    have hs1 : w.heap.size ≤ ((wr.alloc (.cells #[] 22)).drew).heap.size := Nat.le_trans hbel.size (by simp)
    go_wp2
    rw [ek]
    go_region_law (first
      | (refine step_append_own rfl (.tmp 60) (.tmp 63) 23 rfl w.heap.size 22 i0 (.float .f64 0) 1 8 Try.underlying23 hinf hz0 hz1 hz2 rfl (by decide) (.slice (some ⟨wr.heap.size, 0, none⟩) 0 0) 0 [] (by simp [Act.eval, Act.put]) own1 (x.add k) (l.length - k) (c - k) ((l.drop k).map (.float .f64)) (by simp [Act.eval, Act.put]) l1 cells1 one1 b1 b2 hs1 ?_
         intro v1 w1 hown1 hg1)
      | (refine step_append_own rfl (.tmp 64) (.tmp 67) 23 rfl w.heap.size 22 i0 (.float .f64 0) 1 8 Try.underlying23 hinf hz0 hz1 hz2 rfl (by decide) v1 _ _ (by simp [Act.eval, Act.put]) hown1 x k c ((l.take k).map (.float .f64)) (by simp [Act.eval, Act.put]) l2 (cells2 w1 hg1) one2 b3 b4 (Nat.le_trans hs1 hg1.size) ?_
         intro v2 w2 hown2 hg2
         have bel2 := bel_two hbel hbel.size hg1 hown1 hg2
         rw [en, exs] at hown2
         obtain ⟨B, c', rfl, hcc, hBn, hF, hge⟩ := own_fr hown2 hm100)
      | (go_simp; go_at_call 13; (with_reducible refine (least_calls B c' m w2 hF hcc).mono ?_); rintro e w' ⟨rfl, rfl⟩))
    have c15 := fun W => same_calls X (least m) W
    rw [hperm] at c15
    clear hown2 hg2 own1 hc3 cells1 cells2 one1 one2 l1 l2 hl hrot hblk
    cases hv : (FloatKind.f64.format.order X X == some .eq)
    all_goals
      (go_wp2_with (first | (go_at_call 15; (with_reducible refine (c15 _).mono ?_); rintro e w' ⟨rfl, rfl⟩) | (go_at_call 16; (with_reducible refine (wakes_calls _).mono ?_); rintro e w' ⟨rfl, hbb⟩))
       go_ret
       exact ⟨rfl, bel2.trans (hbb.mono bel2.size)⟩)
set_option maxHeartbeats 8000000 in
set_option maxRecDepth 100000 in
theorem gl_out (by_ : Int) (A : Option Addr) (n c : Nat) (w : World) (hn : 100 < n ∨ n = 0) :
    Calls Try.prog 5 #[.slice A n c, .int .i64 by_] w fun e w' => e = .returned (.bool true) ∧ Below w.heap.size w w' := by
  rcases hn with h | rfl
  · have e1 : decide ((100 : Int) < (n : Int)) = true := decide_eq_true (by omega)
    go_enter Try.func5, Try.ntmps5
    go_wp2
    go_ret
    exact ⟨rfl, Below.refl _ _⟩
  · go_enter Try.func5, Try.ntmps5
    go_wp2
    go_ret
    exact ⟨rfl, Below.refl _ _⟩
theorem walk (A : Option Addr) (len cap : Nat) (zs : List Nat) (by_ : Int) (W : World) (hr : Fl.FRow W A len cap zs) (hy : len * 8 ≤ 140737488351232) (wb : (Lit.int .i64 by_).wf = true) :
    Calls Try.prog 5 #[.slice A len cap, .int .i64 by_] W fun e w' => e = .returned (.bool true) ∧ Below W.heap.size W w' := by
  by_cases h : 100 < len ∨ len = 0
  · exact gl_out by_ A len cap W h
  · rcases hr with ⟨rfl, rfl, rfl, rfl⟩ | ⟨x, rfl, h1, h2, h3, h4, h5⟩
    · omega
    · have hlen : (zs.take len).length = len := by rw [List.length_take]; omega
      obtain ⟨k, k1, k2⟩ := umod by_ (len : Int) (by omega) (by omega)
      have := gl by_ x cap k (zs.take len) W (by omega) (by omega) (by omega) (fun i hi => by rw [h4 i (by omega), Fl.getD_take zs len i (by omega)]) (fun y hy => b64 (h5 y (List.mem_of_mem_take hy))) (by omega) (by rw [hlen]; exact k2)
      rw [hlen] at this
      exact this
end Go.Proofs.Ytcfopjfimobbjaa.GL
