/- What the printed crc functions compute, in plain numbers (MCrc). -/
import Derived.Test.YtpaoboadccnnmaaPAx1
import Derived.Test.YtpaoboadccnnmaaPAx2
import Derived.Test.YtpaoboadccnnmaaMCrc
import Derived.Laws.BitsAllLaws
namespace Go.Proofs.Ytpaoboadccnnmaa.F
open Go Go.RowKit Go.Proofs.Ytpaoboadccnnmaa.PA Go.Proofs.YtpaoboadccnnmaaW.PrintWords Go.Proofs.YtpaoboadccnnmaaW.PrintLast Go.Proofs.YtpaoboadccnnmaaW.PrintMore
open Go.Proofs.Ytpaoboadccnnmaa.MC (st stn run more)

theorem wrap_in {n : Int} (h0 : -9223372036854775808 ≤ n) (h1 : n ≤ 9223372036854775807) : wrap64 n = n := by
  unfold wrap64
  omega
def Byt (l : List Int) : Prop := ∀ x ∈ l, 0 ≤ x ∧ x < 256
theorem byt_of_wf {l : List Int} (h : ∀ x ∈ l, (Lit.int .u8 x).wf = true) : Byt l := fun x hx => by
  have := h x hx
  simp only [Lit.wf, Bool.and_eq_true, decide_eq_true_eq] at this
  have h0 : IntKind.u8.min = 0 := by decide
  have h1 : IntKind.u8.max = 255 := by decide
  omega
theorem i64_of_wf {x : Int} (h : (Lit.int .i64 x).wf = true) : -9223372036854775808 ≤ x ∧ x ≤ 9223372036854775807 := by
  simp only [Lit.wf, Bool.and_eq_true, decide_eq_true_eq] at h
  have h0 : IntKind.i64.min = -9223372036854775808 := by decide
  have h1 : IntKind.i64.max = 9223372036854775807 := by decide
  omega
def nats (l : List Int) : List Nat := l.map Int.toNat
theorem nats_lt {l : List Int} (h : Byt l) : ∀ x ∈ nats l, x < 256 := fun x hx => by
  obtain ⟨y, hy, rfl⟩ := List.mem_map.1 hx
  have := h y hy
  omega
theorem nats_take (l : List Int) (n : Nat) : nats (l.take n) = (nats l).take n := by simp [nats, List.map_take]
theorem Byt.take {l : List Int} (h : Byt l) (n : Nat) : Byt (l.take n) := fun x hx => h x (List.mem_of_mem_take hx)
theorem Byt.drop {l : List Int} (h : Byt l) (n : Nat) : Byt (l.drop n) := fun x hx => h x (List.mem_of_mem_drop hx)
theorem Byt.append {a b : List Int} (ha : Byt a) (hb : Byt b) : Byt (a ++ b) := fun x hx => (List.mem_append.1 hx).elim (ha x) (hb x)
theorem rd_get (l : List Int) (i : Nat) (h : i < l.length) : rd l (i : Int) = l[i] := by
  unfold rd
  rw [Int.toNat_natCast, List.getD_eq_getElem?_getD, List.getElem?_eq_getElem h]
  rfl

theorem xor_u32 (a b : Nat) (ha : a < 4294967296) (hb : b < 4294967296) : bits .xor .u32 (a : Int) (b : Int) = ((a ^^^ b : Nat) : Int) := u32_xor_nat a b ha hb
theorem and_one (a : Nat) (ha : a < 4294967296) : bits .and .u32 (a : Int) 1 = ((a % 2 : Nat) : Int) := by
  have h := u32_and_nat a 1 ha (by decide)
  rw [Nat.and_one_is_mod] at h
  exact h
theorem max_u32 : IntKind.u32.max = ((4294967295 : Nat) : Int) := by decide

theorem more_inner (L : List Int) (len i : Int) (res : Int) : ∀ (d n : Nat), n + d = 8 → ∀ r : Nat, r < 4294967296 →
    Ev (fun k => crc_More.l0 k ((stn d r : Nat) : Int) L len (wrap64 (i + 1))) res → Ev (fun k => crc_More.l1 k (r : Int) L len i (n : Int)) res := by
  intro d
  induction d with
  | zero =>
    intro n hn r hr h
    refine Ev.step (fun k => ?_) h
    simp only [crc_More.l1]
    rw [if_neg (by omega)]
    rfl
  | succ d ih =>
    intro n hn r hr h
    have hw : wrap64 ((n : Int) + 1) = ((n + 1 : Nat) : Int) := by rw [wrap_in (by omega) (by omega)]; omega
    have hs : MC.st r < 4294967296 := MC.st_lt r hr
    have h' := ih (n + 1) (by omega) (MC.st r) hs h
    refine Ev.step (fun k => ?_) h'
    simp only [crc_More.l1]
    rw [if_pos (by omega), and_one r hr, hw]
    by_cases ho : r % 2 = 1
    · have e : ((r : Int) / 2) = ((r / 2 : Nat) : Int) := by omega
      rw [if_pos (by omega), e, show (2197175160 : Int) = ((MC.P : Nat) : Int) from rfl, xor_u32 _ _ (by omega) (by decide)]
      have e2 : MC.st r = (r / 2) ^^^ MC.P := by unfold MC.st; rw [if_pos ho]
      rw [e2]
    · have e : ((r : Int) / 2) = ((r / 2 : Nat) : Int) := by omega
      have e2 : MC.st r = r / 2 := by unfold MC.st; rw [if_neg ho]
      rw [if_neg (by omega), e, e2]
theorem more_outer (L : List Int) (hL : Byt L) (hlen : L.length ≤ 140737488355328) : ∀ (d n : Nat), n + d = L.length → ∀ r : Nat, r < 4294967296 →
    Ev (fun k => crc_More.l0 k (r : Int) L (L.length : Int) (n : Int)) ((4294967295 ^^^ run r (nats (L.drop n)) : Nat) : Int) := by
  intro d
  induction d with
  | zero =>
    intro n hn r hr
    have hd : L.drop n = [] := List.drop_eq_nil_of_le (by omega)
    refine Ev.step (f := fun _ => some ((4294967295 ^^^ r : Nat) : Int)) (fun k => ?_) (by rw [hd]; exact Ev.now _)
    have hlt : 4294967295 ^^^ r < 2 ^ 32 := Nat.xor_lt_two_pow (by decide) hr
    simp only [crc_More.l0]
    rw [if_neg (by omega), max_u32, xor_u32 _ _ (by decide) hr, wrap_in (by omega) (by omega)]
  | succ d ih =>
    intro n hn r hr
    have hlt : n < L.length := by omega
    have hb := hL L[n] (List.getElem_mem hlt)
    obtain ⟨c, hc⟩ : ∃ c : Nat, L[n] = (c : Int) := ⟨L[n].toNat, by omega⟩
    have hc2 : c < 256 := by omega
    have hx : r ^^^ c < 4294967296 := Nat.xor_lt_two_pow (n := 32) hr (by omega)
    have hw : wrap64 ((n : Int) + 1) = ((n + 1 : Nat) : Int) := by rw [wrap_in (by omega) (by omega)]; omega
    have hd : nats (L.drop n) = c :: nats (L.drop (n + 1)) := by
      rw [List.drop_eq_getElem_cons hlt, nats, List.map_cons, hc, Int.toNat_natCast]
      rfl
    have h1 := ih (n + 1) (by omega) (stn 8 (r ^^^ c)) (MC.stn_lt 8 _ hx)
    have h2 := more_inner L (L.length : Int) (n : Int) _ 8 0 rfl (r ^^^ c) hx (by rw [hw]; exact h1)
    rw [hd]
    refine Ev.step (fun k => ?_) h2
    simp only [crc_More.l0]
    rw [if_pos (by omega), if_pos (by omega), if_pos (by omega), rd_get L n hlt, hc, show ((c : Int) % 4294967296) = (c : Int) by omega, xor_u32 _ _ hr (by omega)]
    rfl
/-- crc.More, of whatever sum (its lowest 32 bits) and bytes. -/
theorem crc_more (a : Int) (L : List Int) (hL : Byt L) (hlen : L.length ≤ 140737488355328) :
    Ev (fun k => crc_More.f k a L) ((more (a % 4294967296).toNat (nats L) : Nat) : Int) := by
  have h0 : IntKind.u64.wrap a % 4294967296 = ((a % 4294967296).toNat : Int) := by
    simp only [IntKind.wrap, IntKind.bits, IntKind.signed]
    simp
    omega
  have hr : (a % 4294967296).toNat < 4294967296 := by omega
  have h := more_outer L hL hlen L.length 0 (by omega) (4294967295 ^^^ (a % 4294967296).toNat) (Nat.xor_lt_two_pow (n := 32) (by decide) hr)
  refine Ev.congr (fun k => ?_) h
  unfold crc_More.f
  rw [h0, max_u32, xor_u32 _ _ (by decide) hr]
  rfl
theorem crc_more_nat (a : Nat) (ha : a < 4294967296) (L : List Int) (hL : Byt L) (hlen : L.length ≤ 140737488355328) :
    Ev (fun k => crc_More.f k (a : Int) L) ((more a (nats L) : Nat) : Int) := by
  have h := crc_more (a : Int) L hL hlen
  rw [show ((a : Int) % 4294967296).toNat = a by omega] at h
  exact h
theorem crc_sum (L : List Int) (hL : Byt L) (hlen : L.length ≤ 140737488355328) : Ev (fun k => crc_Sum.f k L) ((more 0 (nats L) : Nat) : Int) := by
  have h := crc_more_nat 0 (by decide) L hL hlen
  exact Ev.bind h (Ev.now _)
theorem more_lt32 (a : Nat) (ha : a < 4294967296) (L : List Int) (hL : Byt L) : more a (nats L) < 4294967296 := MC.more_lt a _ ha (nats_lt hL)

/-! the reference's -/
theorem ref_inner (L : List Int) (i : Int) (res : Int) : ∀ (d n : Nat), n + d = 8 → ∀ r : Nat, r < 4294967296 →
    Ev (fun k => woodcutref01_More.l0 k L ((stn d r : Nat) : Int) (wrap64 (i + 1))) res → Ev (fun k => woodcutref01_More.l1 k L (r : Int) i (n : Int)) res := by
  intro d
  induction d with
  | zero =>
    intro n hn r hr h
    refine Ev.step (fun k => ?_) h
    simp only [woodcutref01_More.l1]
    rw [if_neg (by omega)]
    rfl
  | succ d ih =>
    intro n hn r hr h
    have hw : wrap64 ((n : Int) + 1) = ((n + 1 : Nat) : Int) := by rw [wrap_in (by omega) (by omega)]; omega
    have hs : MC.st r < 4294967296 := MC.st_lt r hr
    have h' := ih (n + 1) (by omega) (MC.st r) hs h
    refine Ev.step (fun k => ?_) h'
    simp only [woodcutref01_More.l1]
    have e : (Int.tdiv (r : Int) 2) % 4294967296 = ((r / 2 : Nat) : Int) := by
      rw [Int.tdiv_eq_ediv_of_nonneg (by omega)]; omega
    have e3 : Int.tmod (r : Int) 2 = ((r % 2 : Nat) : Int) := by
      rw [Int.tmod_eq_emod_of_nonneg (by omega)]; omega
    rw [if_pos (by omega), e, e3, hw]
    by_cases ho : r % 2 = 1
    · rw [if_pos (by omega), show (2197175160 : Int) = ((MC.P : Nat) : Int) from rfl, xor_u32 _ _ (by omega) (by decide)]
      have e2 : MC.st r = (r / 2) ^^^ MC.P := by unfold MC.st; rw [if_pos ho]
      rw [e2]
    · have e2 : MC.st r = r / 2 := by unfold MC.st; rw [if_neg ho]
      rw [if_neg (by omega), e2]
theorem ref_outer (L : List Int) (hL : Byt L) (hlen : L.length ≤ 140737488355328) : ∀ (d n : Nat), n + d = L.length → ∀ r : Nat, r < 4294967296 →
    Ev (fun k => woodcutref01_More.l0 k L (r : Int) (n : Int)) ((4294967295 ^^^ run r (nats (L.drop n)) : Nat) : Int) := by
  intro d
  induction d with
  | zero =>
    intro n hn r hr
    have hd : L.drop n = [] := List.drop_eq_nil_of_le (by omega)
    refine Ev.step (f := fun _ => some ((4294967295 ^^^ r : Nat) : Int)) (fun k => ?_) (by rw [hd]; exact Ev.now _)
    have hlt : 4294967295 ^^^ r < 2 ^ 32 := Nat.xor_lt_two_pow (by decide) hr
    simp only [woodcutref01_More.l0]
    rw [if_neg (by omega), max_u32, xor_u32 _ _ (by decide) hr]
    first | rfl | rw [wrap_in (by omega) (by omega)]
  | succ d ih =>
    intro n hn r hr
    have hlt : n < L.length := by omega
    have hb := hL L[n] (List.getElem_mem hlt)
    obtain ⟨c, hc⟩ : ∃ c : Nat, L[n] = (c : Int) := ⟨L[n].toNat, by omega⟩
    have hc2 : c < 256 := by omega
    have hx : r ^^^ c < 4294967296 := Nat.xor_lt_two_pow (n := 32) hr (by omega)
    have hw : wrap64 ((n : Int) + 1) = ((n + 1 : Nat) : Int) := by rw [wrap_in (by omega) (by omega)]; omega
    have hd : nats (L.drop n) = c :: nats (L.drop (n + 1)) := by
      rw [List.drop_eq_getElem_cons hlt, nats, List.map_cons, hc, Int.toNat_natCast]
      rfl
    have h1 := ih (n + 1) (by omega) (stn 8 (r ^^^ c)) (MC.stn_lt 8 _ hx)
    have h2 := ref_inner L (n : Int) _ 8 0 rfl (r ^^^ c) hx (by rw [hw]; exact h1)
    rw [hd]
    refine Ev.step (fun k => ?_) h2
    simp only [woodcutref01_More.l0]
    rw [if_pos (by omega), if_pos (by omega), rd_get L n hlt, hc, show ((c : Int) % 4294967296) = (c : Int) by omega, xor_u32 _ _ hr (by omega)]
    rfl
theorem ref_more (a : Int) (L : List Int) (hL : Byt L) (hlen : L.length ≤ 140737488355328) :
    Ev (fun k => woodcutref01_More.f k a L) ((more (a % 4294967296).toNat (nats L) : Nat) : Int) := by
  have hr : (a % 4294967296).toNat < 4294967296 := by omega
  have h0 : a % 4294967296 = ((a % 4294967296).toNat : Int) := by omega
  have h := ref_outer L hL hlen L.length 0 (by omega) (4294967295 ^^^ (a % 4294967296).toNat) (Nat.xor_lt_two_pow (n := 32) (by decide) hr)
  refine Ev.congr (fun k => ?_) h
  unfold woodcutref01_More.f
  rw [h0, max_u32, xor_u32 _ _ (by decide) (by omega)]
  simp only [Int.toNat_natCast]
  rfl
theorem ref_sum (L : List Int) (hL : Byt L) (hlen : L.length ≤ 140737488355328) : Ev (fun k => woodcutref01_Sum.f k L) ((more 0 (nats L) : Nat) : Int) := by
  have h := ref_more 0 L hL hlen
  exact Ev.bind h (Ev.now _)
end Go.Proofs.Ytpaoboadccnnmaa.F
