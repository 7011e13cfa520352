/- A slice of floats among the arguments, opened as one list, and its size. -/
import Derived.SizedLaws
import Derived.ChangeSlices
import Derived.ChangeArms
namespace Go.Proofs.Ytcfopjfimobbjaa.Fl
open Go Go.ChangeShapes Go.WideShapes
set_option linter.unusedVariables false
set_option linter.unusedSimpArgs false
def flits {H : Type} (k : FloatKind) (zs : List Nat) : List (DataW H) := zs.map fun n => .lit (.float k n)
variable {H : Type} {enc : TypeId × Value → H} {P : Program} {w : World} {base : Nat} {spare : Nat → Bool} {held : Bool}
def fltOf (y : DataW H × List MemPlace) : Nat := match y.1 with | .lit (.float _ n) => n | _ => 0
theorem trod_flt {fuel : Nat} {t : TypeId} {cs : List Value} {x : DataW H × List MemPlace} {k : FloatKind} (ht : P.underlying t = some (.float k)) (h : DataW.trod enc P w base spare held fuel t cs = some x) : ∃ n, cs = [.float k n] ∧ x = (.lit (.float k n), []) ∧ (Lit.float k n).wf = true := by
  cases fuel with
  | zero => simp [DataW.trod] at h
  | succ n =>
    unfold DataW.trod at h
    rw [ht] at h
    split at h <;> simp_all
theorem open_floats {t e : TypeId} {k : FloatKind} {fuel : Nat} {cs : List Value} {x : DataW H × List MemPlace} (ht : P.underlying t = some (.slice e)) (he : P.underlying e = some (.float k)) (hc : P.cellsOf e = 1)
    (h : DataW.trod enc P w base spare held fuel t cs = some x) :
    (cs = [.slice none 0 0] ∧ x = (.nil, [])) ∨
    ∃ (a : Addr) (len cap : Nat) (zs : List Nat), cs = [.slice (some a) len cap] ∧ base ≤ a.block ∧ len ≤ cap ∧ cap ≤ maxLen ∧ zs.length = (if spare a.block then cap else len) ∧
      x = (.slice (flits k (zs.take len)) (flits k (zs.drop len)), MemPlace.row a zs.length) ∧
      (∀ i, i < zs.length → w.cell? (a.add i) = some (.float k (zs.getD i 0))) ∧ (∀ n ∈ zs, (Lit.float k n).wf = true) := by
  rcases DataW.trod_slice ht h with h0 | ⟨a, len, cap, elems, rest, n, _, rfl, rfl, hb, hl, hm, hlen, hel, hsp, hns⟩
  · exact Or.inl h0
  right
  have each : ∀ i y, (elems ++ rest)[i]? = some y → y = (.lit (.float k (fltOf y)), []) ∧ (Lit.float k (fltOf y)).wf = true ∧ w.cell? (a.add i) = some (.float k (fltOf y)) := by
    intro i y hy
    have hb' : (w.cells? base (a.add (i * P.cellsOf e)) (P.cellsOf e)).bind (DataW.trod enc P w base spare held n e) = some y := by
      by_cases hi : i < len
      · rw [hel i hi, ← hy, List.getElem?_append_left (by omega)]
      · have hi' : i - len < rest.length := by
          have := (List.getElem?_eq_some_iff.1 hy).1
          simp at this
          omega
        cases hs : spare a.block with
        | false => rw [hns hs] at hi'; simp at hi'
        | true =>
          obtain ⟨hrl, hr⟩ := hsp hs
          have := hr (i - len) (by omega)
          rw [show len + (i - len) = i by omega] at this
          rw [this, ← hy, List.getElem?_append_right (by omega), hlen]
    rw [hc, Nat.mul_one, Option.bind_eq_some_iff] at hb'
    obtain ⟨cs', hcs, hy'⟩ := hb'
    obtain ⟨m, rfl, rfl, hw⟩ := trod_flt he hy'
    exact ⟨rfl, hw, cell_of_cells?_one hcs⟩
  have mem : ∀ y ∈ elems ++ rest, y = (.lit (.float k (fltOf y)), []) ∧ (Lit.float k (fltOf y)).wf = true := by
    intro y hy
    obtain ⟨i, hi⟩ := List.getElem?_of_mem hy
    exact ⟨(each i y hi).1, (each i y hi).2.1⟩
  refine ⟨a, len, cap, (elems ++ rest).map fltOf, rfl, hb, hl, hm, ?_, ?_, ?_, ?_⟩
  · simp only [List.length_map, List.length_append, hlen]
    cases hs : spare a.block with
    | false => simp [hns hs]
    | true => simp [(hsp hs).1]; omega
  · have e1 : ((elems ++ rest).map fltOf).take len = elems.map fltOf := by rw [← List.map_take, ← hlen, List.take_left]
    have e2 : ((elems ++ rest).map fltOf).drop len = rest.map fltOf := by rw [← List.map_drop, ← hlen, List.drop_left]
    have f1 : ∀ l : List (DataW H × List MemPlace), (∀ y ∈ l, y ∈ elems ++ rest) → l.map (·.1) = flits k (l.map fltOf) := by
      intro l hl'
      simp only [flits, List.map_map]
      exact List.map_congr_left (fun y hy => by
        have := (mem y (hl' y hy)).1
        exact congrArg Prod.fst this)
    have f2 : (elems ++ rest).flatMap (·.2) = [] := by
      rw [List.flatMap_eq_nil_iff]
      intro y hy
      exact congrArg Prod.snd (mem y hy).1
    rw [e1, e2, f1 elems (fun y hy => by simp [hy]), f1 rest (fun y hy => by simp [hy]), f2, hc]
    simp
  · intro i hi
    simp only [List.length_map] at hi
    have hy : (elems ++ rest)[i]? = some ((elems ++ rest)[i]'hi) := List.getElem?_eq_getElem hi
    have := (each i _ hy).2.2
    have e : ((elems ++ rest).map fltOf).getD i 0 = fltOf ((elems ++ rest)[i]'hi) := by rw [List.getD, List.getElem?_map, hy]; rfl
    rw [this, e]
  · intro m hm'
    obtain ⟨y, hy, rfl⟩ := List.mem_map.1 hm'
    exact (mem y hy).2
/-- A row's slice of floats is no longer than its weight allows. -/
theorem sized_floats {H : Type} {enc : TypeId × Value → H} {P : Program} {W : World} {base : Nat} {spare : Nat → Bool} {held : Bool} {t e : TypeId} {k : FloatKind} {a : Option Addr} {len cap : Nat} {d : DataW H} {ps : List MemPlace} {ts : List TypeId} {ds : List (DataW H)} {j : Nat}
    (hsz : (DataW.weightsEach P ts ds).all (· ≤ reachBytes) = true) (ht : ts[j]? = some t) (hd : ds[j]? = some d) (hu : P.underlying t = some (.slice e)) (he : P.underlying e = some (.float k)) (hc : P.cellsOf e = 1) {B : Nat} (hB : P.bytesOf e = B)
    (h : DataW.Trod enc P W base spare held t (.slice a len cap) d ps) : len * B ≤ 140737488351232 := by
  obtain ⟨fuel, hf⟩ := h
  rcases open_floats hu he hc hf with ⟨hcs, _⟩ | ⟨x, l, c, zs, hcs, _, hl, _, hz, hx, _, _⟩
  · simp [Value.cells] at hcs
    obtain ⟨rfl, rfl, rfl⟩ := hcs
    simp
  · simp [Value.cells] at hcs
    obtain ⟨rfl, rfl, rfl⟩ := hcs
    obtain ⟨hx, _⟩ := Prod.mk.inj hx
    subst hx
    have z := sized_slice hsz ht hd hu
    rw [hB] at z
    have hl2 : len ≤ zs.length := by
      rw [hz]
      split
      · exact hl
      · exact Nat.le_refl _
    have h1 : (flits (H := H) k (zs.take len)).length + (flits (H := H) k (zs.drop len)).length = zs.length := by
      simp [flits]
      omega
    rw [h1] at z
    exact Nat.le_trans (Nat.mul_le_mul_right _ hl2) z
/-- An argument's slice of floats, as the row opens it. -/
def FRow (w : World) (a : Option Addr) (len cap : Nat) (zs : List Nat) : Prop :=
  (a = none ∧ len = 0 ∧ cap = 0 ∧ zs = []) ∨
  ∃ x, a = some x ∧ len ≤ cap ∧ cap ≤ maxLen ∧ zs.length = cap ∧ (∀ i, i < zs.length → w.cell? (x.add i) = some (.float .f64 (zs.getD i 0))) ∧ ∀ n ∈ zs, (Lit.float .f64 n).wf = true
theorem getD_take (zs : List Nat) (n i : Nat) (h : i < n) : (zs.take n).getD i 0 = zs.getD i 0 := by
  rw [List.getD_eq_getElem?_getD, List.getD_eq_getElem?_getD, List.getElem?_take, if_pos h]
end Go.Proofs.Ytcfopjfimobbjaa.Fl
