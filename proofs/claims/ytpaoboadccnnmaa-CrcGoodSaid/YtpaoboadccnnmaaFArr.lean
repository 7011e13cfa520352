/- The opening and shutting of an argument of four bytes. -/
import Derived.ChangeShapes
import Derived.WalkKit
import Derived.ProofKit
namespace Go.Proofs.Ytpaoboadccnnmaa.Arr
open Go Go.ChangeShapes Go.WideShapes
set_option linter.unusedVariables false
set_option linter.unusedSimpArgs false
variable {H : Type} {enc : TypeId × Value → H} {P : Program} {w : World} {base : Nat} {spare : Nat → Bool} {held : Bool}
theorem byte_cell {n : Nat} {e : TypeId} (he : P.underlying e = some (.int .u8)) {v : Value} {x : DataW H × List MemPlace} (h : DataW.trod enc P w base spare held n e [v] = some x) : ∃ a, v = .int .u8 a ∧ x = (.lit (.int .u8 a), []) ∧ (Lit.int .u8 a).wf = true := by
  obtain ⟨a, h1, h2, h3⟩ := DataW.trod_int he h
  simp at h1
  exact ⟨a, h1, h2, h3⟩
theorem open_four {t e : TypeId} {r : Reach} {b0 : Nat} {v : Value} {d : DataW H} {ps : List MemPlace} (ht : P.underlying t = some (.array 4 e)) (he : P.underlying e = some (.int .u8)) (hc : P.cellsOf t = 4) (hce : P.cellsOf e = 1)
    (hval : Value.okWide P w r b0 t v) (hd : DataW.Trod enc P w base spare held t v d ps) :
    ∃ x0 x1 x2 x3, v = .agg #[.int .u8 x0, .int .u8 x1, .int .u8 x2, .int .u8 x3] ∧ d = .agg [.lit (.int .u8 x0), .lit (.int .u8 x1), .lit (.int .u8 x2), .lit (.int .u8 x3)] ∧ ps = [] ∧
      (Lit.int .u8 x0).wf = true ∧ (Lit.int .u8 x1).wf = true ∧ (Lit.int .u8 x2).wf = true ∧ (Lit.int .u8 x3).wf = true := by
  simp only [Value.okWide, ht] at hval
  obtain ⟨cs, rfl, hs, _⟩ := hval
  obtain ⟨fuel, hf⟩ := hd
  rw [hc] at hs
  obtain ⟨v0, v1, v2, v3, rfl⟩ : ∃ v0 v1 v2 v3, cs = #[v0, v1, v2, v3] := by
    obtain ⟨l⟩ := cs
    match l, hs with
    | [v0, v1, v2, v3], _ => exact ⟨v0, v1, v2, v3, rfl⟩
  cases fuel with
  | zero => simp [DataW.trod] at hf
  | succ n =>
    simp only [DataW.trod, Value.cells, ht, hc, hce] at hf
    simp [List.range, List.range.loop, List.mapM_cons] at hf
    rcases h0 : DataW.trod enc P w base spare held n e [v0] with _ | y0
    · simp [h0] at hf
    rcases h1 : DataW.trod enc P w base spare held n e [v1] with _ | y1
    · simp [h0, h1] at hf
    rcases h2 : DataW.trod enc P w base spare held n e [v2] with _ | y2
    · simp [h0, h1, h2] at hf
    rcases h3 : DataW.trod enc P w base spare held n e [v3] with _ | y3
    · simp [h0, h1, h2, h3] at hf
    simp [h0, h1, h2, h3] at hf
    obtain ⟨rfl, rfl⟩ := hf
    obtain ⟨x0, rfl, rfl, k0⟩ := byte_cell he h0
    obtain ⟨x1, rfl, rfl, k1⟩ := byte_cell he h1
    obtain ⟨x2, rfl, rfl, k2⟩ := byte_cell he h2
    obtain ⟨x3, rfl, rfl, k3⟩ := byte_cell he h3
    exact ⟨x0, x1, x2, x3, rfl, rfl, rfl, k0, k1, k2, k3⟩
theorem shut_four {t e : TypeId} {x0 x1 x2 x3 : Int} (ht : P.underlying t = some (.array 4 e)) (he : P.underlying e = some (.int .u8)) (hc : P.cellsOf t = 4) (hce : P.cellsOf e = 1)
    (w0 : (Lit.int .u8 x0).wf = true) (w1 : (Lit.int .u8 x1).wf = true) (w2 : (Lit.int .u8 x2).wf = true) (w3 : (Lit.int .u8 x3).wf = true) :
    DataW.Trod enc P w base spare held t (.agg #[.int .u8 x0, .int .u8 x1, .int .u8 x2, .int .u8 x3]) (.agg [.lit (.int .u8 x0), .lit (.int .u8 x1), .lit (.int .u8 x2), .lit (.int .u8 x3)]) [] := by
  refine ⟨2, ?_⟩
  simp [DataW.trod, Value.cells, ht, he, hc, hce, List.range, List.range.loop, w0, w1, w2, w3]
end Go.Proofs.Ytpaoboadccnnmaa.Arr
