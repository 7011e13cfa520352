/-
  No cell of these rows narrows 'for every input' (looked for: loops, veiled, ifaces, maps, wideKeys, modest, calm, conditions, laid).
  DERIVED. THE GIVEN ROWS OF THIS SEAT. 5 by the template 'for every input the law returns true; each argument reads behind the call as it read before'; 0 by the template 'total and deterministic' (their statements: YtcfopjfimobbjaaTotals.lean).
  GIVEN WITH THE SEED: the statements are not yours to turn. If you find one false, say at which input.
  Laid BY PROGRAM, IN A SANDBOX (cutbox-rows.mjs): the forced cells as the released guide's own fill.sh prints them over the translation d6a386f9c9ebc12e… (all of the seat's roots in one cut). By AI agents, Wed Nov 11 2026. No macro, syntax, notation, axiom, sorry.
-/
import Derived.Test.YtcfopjfimobbjaaChecked
import GoSem.Claim
import GoSem.ClaimJoined
import GoSem.ClaimMapViews
import Derived.JoinedTies
import Derived.KernelRfl
namespace Go.Proofs.Ytcfopjfimobbjaa
/- THE CELL 'sum', in the pinned program and in every row, IS THE sha256 OF THE DUMP (.gsa) THAT YtcfopjfimobbjaaProg.lean LOADS. Nothing in Lean hashes anything: it is a label: what it is worth is what the hold of that sum in a sandbox is worth. -/
noncomputable def Try.pinned : Pinned := { name := "ytcfopjfimobbjaa", sum := "d6a386f9c9ebc12ee637c88b2fe5c696773f687571b9eb26deb1d64a655400dc", checked := Try.checked }
namespace Rows
def none {H : Type} : Left H := { results := [], args := [] }

/-- 'woodcutlaw03.GaugeExact': WHATEVER THE INPUT: true; the input reads as it did. -/
def gaugeExactSpec : ChangeSpec := { name := "gaugeExact", fn := fun _ => fun
  | [d1, d2, d3] => { results := [.lit (.bool true)], args := [d1, d2, d3] }
  | _ => none }
def gaugeExactRow : OpenClaim := { program := "ytcfopjfimobbjaa", sum := "d6a386f9c9ebc12ee637c88b2fe5c696773f687571b9eb26deb1d64a655400dc", func := "woodcut/woodcutlaw03.GaugeExact", spec := "gaugeExact", inPlace := ["math.Float64frombits", "math.Float64bits"], apart := false }
def GaugeExactSaid : Prop := gaugeExactRow.holds Try.pinned (OpenSpec.ofChange gaugeExactSpec)

/-- ITS FALSE NEIGHBOUR: 'it returns false'. Refute it at one input. -/
def gaugeExactWrong : ChangeSpec := { name := "gaugeExact", fn := fun _ => fun
  | [d1, d2, d3] => { results := [.lit (.bool false)], args := [d1, d2, d3] }
  | _ => none }
def GaugeExactWrongFalsely : Prop := gaugeExactRow.holds Try.pinned (OpenSpec.ofChange gaugeExactWrong)

/-- 'woodcutlaw03.GaugeShare': WHATEVER THE INPUT: true; the input reads as it did. -/
def gaugeShareSpec : ChangeSpec := { name := "gaugeShare", fn := fun _ => fun
  | [d1, d2, d3] => { results := [.lit (.bool true)], args := [d1, d2, d3] }
  | _ => none }
def gaugeShareRow : OpenClaim := { program := "ytcfopjfimobbjaa", sum := "d6a386f9c9ebc12ee637c88b2fe5c696773f687571b9eb26deb1d64a655400dc", func := "woodcut/woodcutlaw03.GaugeShare", spec := "gaugeShare", inPlace := ["math.Float64frombits", "math.Float64bits"], apart := false }
def GaugeShareSaid : Prop := gaugeShareRow.holds Try.pinned (OpenSpec.ofChange gaugeShareSpec)

/-- ITS FALSE NEIGHBOUR: 'it returns false'. Refute it at one input. -/
def gaugeShareWrong : ChangeSpec := { name := "gaugeShare", fn := fun _ => fun
  | [d1, d2, d3] => { results := [.lit (.bool false)], args := [d1, d2, d3] }
  | _ => none }
def GaugeShareWrongFalsely : Prop := gaugeShareRow.holds Try.pinned (OpenSpec.ofChange gaugeShareWrong)

/-- 'woodcutlaw03.GaugeLeast': WHATEVER THE INPUT: true; the input reads as it did. -/
def gaugeLeastSpec : ChangeSpec := { name := "gaugeLeast", fn := fun _ => fun
  | [d1, d2] => { results := [.lit (.bool true)], args := [d1, d2] }
  | _ => none }
def gaugeLeastRow : OpenClaim := { program := "ytcfopjfimobbjaa", sum := "d6a386f9c9ebc12ee637c88b2fe5c696773f687571b9eb26deb1d64a655400dc", func := "woodcut/woodcutlaw03.GaugeLeast", spec := "gaugeLeast", inPlace := ["math.Float64frombits", "math.Float64bits"], apart := false }
def GaugeLeastSaid : Prop := gaugeLeastRow.holds Try.pinned (OpenSpec.ofChange gaugeLeastSpec)

/-- ITS FALSE NEIGHBOUR: 'it returns false'. Refute it at one input. -/
def gaugeLeastWrong : ChangeSpec := { name := "gaugeLeast", fn := fun _ => fun
  | [d1, d2] => { results := [.lit (.bool false)], args := [d1, d2] }
  | _ => none }
def GaugeLeastWrongFalsely : Prop := gaugeLeastRow.holds Try.pinned (OpenSpec.ofChange gaugeLeastWrong)

/-- 'woodcutlaw03.GaugeEdges': WHATEVER THE INPUT: true; the input reads as it did. -/
def gaugeEdgesSpec : ChangeSpec := { name := "gaugeEdges", fn := fun _ => fun
  | [d1, d2] => { results := [.lit (.bool true)], args := [d1, d2] }
  | _ => none }
def gaugeEdgesRow : OpenClaim := { program := "ytcfopjfimobbjaa", sum := "d6a386f9c9ebc12ee637c88b2fe5c696773f687571b9eb26deb1d64a655400dc", func := "woodcut/woodcutlaw03.GaugeEdges", spec := "gaugeEdges", inPlace := ["math.Float64frombits", "math.Float64bits"], apart := false }
def GaugeEdgesSaid : Prop := gaugeEdgesRow.holds Try.pinned (OpenSpec.ofChange gaugeEdgesSpec)

/-- ITS FALSE NEIGHBOUR: 'it returns false'. Refute it at one input. -/
def gaugeEdgesWrong : ChangeSpec := { name := "gaugeEdges", fn := fun _ => fun
  | [d1, d2] => { results := [.lit (.bool false)], args := [d1, d2] }
  | _ => none }
def GaugeEdgesWrongFalsely : Prop := gaugeEdgesRow.holds Try.pinned (OpenSpec.ofChange gaugeEdgesWrong)

/-- 'woodcutlaw03.GaugeWhole': WHATEVER THE INPUT: true; the input reads as it did. -/
def gaugeWholeSpec : ChangeSpec := { name := "gaugeWhole", fn := fun _ => fun
  | [d1, d2] => { results := [.lit (.bool true)], args := [d1, d2] }
  | _ => none }
def gaugeWholeRow : OpenClaim := { program := "ytcfopjfimobbjaa", sum := "d6a386f9c9ebc12ee637c88b2fe5c696773f687571b9eb26deb1d64a655400dc", func := "woodcut/woodcutlaw03.GaugeWhole", spec := "gaugeWhole", inPlace := ["math.Float64frombits", "math.Float64bits"], apart := false }
def GaugeWholeSaid : Prop := gaugeWholeRow.holds Try.pinned (OpenSpec.ofChange gaugeWholeSpec)

/-- ITS FALSE NEIGHBOUR: 'it returns false'. Refute it at one input. -/
def gaugeWholeWrong : ChangeSpec := { name := "gaugeWhole", fn := fun _ => fun
  | [d1, d2] => { results := [.lit (.bool false)], args := [d1, d2] }
  | _ => none }
def GaugeWholeWrongFalsely : Prop := gaugeWholeRow.holds Try.pinned (OpenSpec.ofChange gaugeWholeWrong)

/- THE SECOND FORM. 'bulk': how many values and letters a reading holds, each counted each time it is reached (what is shared counts as often as it is met; a slice's spare places count too). A statement '..UptoSaid' is the law's where the arguments, and the package variables that the reading takes, are together of bulk at most 1048576: NARROWER than '..Said'. Prove '..Said' where nothing that the law and all that it calls make is longer than what came in: it says more and counts as full. Else prove '..UptoSaid'. A law counts once. -/
mutual
def uptoBulk {H : Type} : DataW H → Nat
  | .lit (.string bytes) => bytes.length + 1
  | .lit _ => 1
  | .nil => 1
  | .ptr d => uptoBulk d + 1
  | .slice elems spare => uptoBulkAll elems + uptoBulkAll spare + 1
  | .agg parts => uptoBulkAll parts + 1
  | .iface _ d => uptoBulk d + 1
  | .map entries => uptoBulkEntries entries + 1
  | .held _ => 1
def uptoBulkAll {H : Type} : List (DataW H) → Nat
  | [] => 0
  | d :: r => uptoBulk d + uptoBulkAll r
def uptoBulkEntries {H : Type} : List (Lit × DataW H) → Nat
  | [] => 0
  | x :: r => uptoBulkEntry x + uptoBulkEntries r
def uptoBulkEntry {H : Type} : Lit × DataW H → Nat
  | (.string bytes, d) => bytes.length + uptoBulk d + 1
  | (_, d) => uptoBulk d + 1
 end
def uptoSmall : (H : Type) → List (DataW H) → Bool := fun _ ds => decide (uptoBulkAll ds ≤ 1048576)
def OpenSpec.upto (s : _root_.Go.ChangeSpec) : _root_.Go.OpenSpec := { _root_.Go.OpenSpec.ofChange s with cond := some uptoSmall }

/-- 'woodcutlaw03.GaugeExact', WHERE WHAT IT READS IS OF BULK AT MOST 1048576: true; the input reads as it did. -/
def gaugeExactUptoRow : OpenClaim := { program := "ytcfopjfimobbjaa", sum := "d6a386f9c9ebc12ee637c88b2fe5c696773f687571b9eb26deb1d64a655400dc", func := "woodcut/woodcutlaw03.GaugeExact", spec := "gaugeExact", inPlace := ["math.Float64frombits", "math.Float64bits"], apart := false, narrowed := true }
def GaugeExactUptoSaid : Prop := gaugeExactUptoRow.holds Try.pinned (OpenSpec.upto gaugeExactSpec)

/-- 'woodcutlaw03.GaugeShare', WHERE WHAT IT READS IS OF BULK AT MOST 1048576: true; the input reads as it did. -/
def gaugeShareUptoRow : OpenClaim := { program := "ytcfopjfimobbjaa", sum := "d6a386f9c9ebc12ee637c88b2fe5c696773f687571b9eb26deb1d64a655400dc", func := "woodcut/woodcutlaw03.GaugeShare", spec := "gaugeShare", inPlace := ["math.Float64frombits", "math.Float64bits"], apart := false, narrowed := true }
def GaugeShareUptoSaid : Prop := gaugeShareUptoRow.holds Try.pinned (OpenSpec.upto gaugeShareSpec)

/-- 'woodcutlaw03.GaugeLeast', WHERE WHAT IT READS IS OF BULK AT MOST 1048576: true; the input reads as it did. -/
def gaugeLeastUptoRow : OpenClaim := { program := "ytcfopjfimobbjaa", sum := "d6a386f9c9ebc12ee637c88b2fe5c696773f687571b9eb26deb1d64a655400dc", func := "woodcut/woodcutlaw03.GaugeLeast", spec := "gaugeLeast", inPlace := ["math.Float64frombits", "math.Float64bits"], apart := false, narrowed := true }
def GaugeLeastUptoSaid : Prop := gaugeLeastUptoRow.holds Try.pinned (OpenSpec.upto gaugeLeastSpec)

/-- 'woodcutlaw03.GaugeEdges', WHERE WHAT IT READS IS OF BULK AT MOST 1048576: true; the input reads as it did. -/
def gaugeEdgesUptoRow : OpenClaim := { program := "ytcfopjfimobbjaa", sum := "d6a386f9c9ebc12ee637c88b2fe5c696773f687571b9eb26deb1d64a655400dc", func := "woodcut/woodcutlaw03.GaugeEdges", spec := "gaugeEdges", inPlace := ["math.Float64frombits", "math.Float64bits"], apart := false, narrowed := true }
def GaugeEdgesUptoSaid : Prop := gaugeEdgesUptoRow.holds Try.pinned (OpenSpec.upto gaugeEdgesSpec)

/-- 'woodcutlaw03.GaugeWhole', WHERE WHAT IT READS IS OF BULK AT MOST 1048576: true; the input reads as it did. -/
def gaugeWholeUptoRow : OpenClaim := { program := "ytcfopjfimobbjaa", sum := "d6a386f9c9ebc12ee637c88b2fe5c696773f687571b9eb26deb1d64a655400dc", func := "woodcut/woodcutlaw03.GaugeWhole", spec := "gaugeWhole", inPlace := ["math.Float64frombits", "math.Float64bits"], apart := false, narrowed := true }
def GaugeWholeUptoSaid : Prop := gaugeWholeUptoRow.holds Try.pinned (OpenSpec.upto gaugeWholeSpec)

end Rows
end Go.Proofs.Ytcfopjfimobbjaa
