/-
  No cell of these rows narrows 'for every input' (looked for: loops, veiled, ifaces, maps, wideKeys, modest, calm, conditions, laid).
  DERIVED. THE GIVEN ROWS OF THIS SEAT. 3 by the template 'for every input the law returns true; each argument reads behind the call as it read before'; 0 by the template 'total and deterministic' (their statements: YtblojnajchpemaaTotals.lean).
  GIVEN WITH THE SEED: the statements are not yours to turn. If you find one false, say at which input.
  Laid BY PROGRAM, IN A SANDBOX (cutbox-rows.mjs): the forced cells as the released guide's own fill.sh prints them over the translation 0cd2472c439ef85f… (all of the seat's roots in one cut). By AI agents, Wed Nov 11 2026. No macro, syntax, notation, axiom, sorry.
-/
import Derived.Test.YtblojnajchpemaaChecked
import GoSem.Claim
import GoSem.ClaimJoined
import GoSem.ClaimMapViews
import Derived.JoinedTies
import Derived.KernelRfl
namespace Go.Proofs.Ytblojnajchpemaa
/- THE CELL 'sum', in the pinned program and in every row, IS THE sha256 OF THE DUMP (.gsa) THAT YtblojnajchpemaaProg.lean LOADS. Nothing in Lean hashes anything: it is a label: what it is worth is what the hold of that sum in a sandbox is worth. -/
noncomputable def Try.pinned : Pinned := { name := "ytblojnajchpemaa", sum := "0cd2472c439ef85f36cf653e6c1f277b7c3ea3bb948073c8d08d2664b261137e", checked := Try.checked }
namespace Rows
def none {H : Type} : Left H := { results := [], args := [] }

/-- 'woodcutlaw04.IdsExact': WHATEVER THE INPUT: true; the input reads as it did. -/
def idsExactSpec : ChangeSpec := { name := "idsExact", fn := fun _ => fun
  | [d1, d2, d3] => { results := [.lit (.bool true)], args := [d1, d2, d3] }
  | _ => none }
def idsExactRow : OpenClaim := { program := "ytblojnajchpemaa", sum := "0cd2472c439ef85f36cf653e6c1f277b7c3ea3bb948073c8d08d2664b261137e", func := "woodcut/woodcutlaw04.IdsExact", spec := "idsExact", apart := false }
def IdsExactSaid : Prop := idsExactRow.holds Try.pinned (OpenSpec.ofChange idsExactSpec)

/-- ITS FALSE NEIGHBOUR: 'it returns false'. Refute it at one input. -/
def idsExactWrong : ChangeSpec := { name := "idsExact", fn := fun _ => fun
  | [d1, d2, d3] => { results := [.lit (.bool false)], args := [d1, d2, d3] }
  | _ => none }
def IdsExactWrongFalsely : Prop := idsExactRow.holds Try.pinned (OpenSpec.ofChange idsExactWrong)

/-- 'woodcutlaw04.IdsBack': WHATEVER THE INPUT: true; the input reads as it did. -/
def idsBackSpec : ChangeSpec := { name := "idsBack", fn := fun _ => fun
  | [d1, d2, d3] => { results := [.lit (.bool true)], args := [d1, d2, d3] }
  | _ => none }
def idsBackRow : OpenClaim := { program := "ytblojnajchpemaa", sum := "0cd2472c439ef85f36cf653e6c1f277b7c3ea3bb948073c8d08d2664b261137e", func := "woodcut/woodcutlaw04.IdsBack", spec := "idsBack", apart := false }
def IdsBackSaid : Prop := idsBackRow.holds Try.pinned (OpenSpec.ofChange idsBackSpec)

/-- ITS FALSE NEIGHBOUR: 'it returns false'. Refute it at one input. -/
def idsBackWrong : ChangeSpec := { name := "idsBack", fn := fun _ => fun
  | [d1, d2, d3] => { results := [.lit (.bool false)], args := [d1, d2, d3] }
  | _ => none }
def IdsBackWrongFalsely : Prop := idsBackRow.holds Try.pinned (OpenSpec.ofChange idsBackWrong)

/-- 'woodcutlaw04.IdsDigits': WHATEVER THE INPUT: true; the input reads as it did. -/
def idsDigitsSpec : ChangeSpec := { name := "idsDigits", fn := fun _ => fun
  | [d] => { results := [.lit (.bool true)], args := [d] }
  | _ => none }
def idsDigitsRow : OpenClaim := { program := "ytblojnajchpemaa", sum := "0cd2472c439ef85f36cf653e6c1f277b7c3ea3bb948073c8d08d2664b261137e", func := "woodcut/woodcutlaw04.IdsDigits", spec := "idsDigits", apart := false }
def IdsDigitsSaid : Prop := idsDigitsRow.holds Try.pinned (OpenSpec.ofChange idsDigitsSpec)

/-- ITS FALSE NEIGHBOUR: 'it returns false'. Refute it at one input. -/
def idsDigitsWrong : ChangeSpec := { name := "idsDigits", fn := fun _ => fun
  | [d] => { results := [.lit (.bool false)], args := [d] }
  | _ => none }
def IdsDigitsWrongFalsely : Prop := idsDigitsRow.holds Try.pinned (OpenSpec.ofChange idsDigitsWrong)

/- THE SECOND FORM. 'bulk': how many values and letters a reading holds, each counted each time it is reached (what is shared counts as often as it is met; a slice's spare places count too). A statement '..UptoSaid' is the law's where the arguments, and the package variables that the reading takes, are together of bulk at most 1048576: NARROWER than '..Said'. Prove '..Said' where nothing that the law and all that it calls make is longer than what came in: it says more and counts as full. Else prove '..UptoSaid'. A law counts once. -/
mutual
def uptoBulk {H : Type} : DataW H → Nat
  | .lit (.string bytes) => bytes.length + 1
  | .lit _ => 1
  | .nil => 1
  | .ptr d => uptoBulk d + 1
  | .slice elems spare => uptoBulkAll elems + uptoBulkAll spare + 1
  | .agg parts => uptoBulkAll parts + 1
  | .iface _ d => uptoBulk d + 1
  | .map entries => uptoBulkEntries entries + 1
  | .held _ => 1
def uptoBulkAll {H : Type} : List (DataW H) → Nat
  | [] => 0
  | d :: r => uptoBulk d + uptoBulkAll r
def uptoBulkEntries {H : Type} : List (Lit × DataW H) → Nat
  | [] => 0
  | x :: r => uptoBulkEntry x + uptoBulkEntries r
def uptoBulkEntry {H : Type} : Lit × DataW H → Nat
  | (.string bytes, d) => bytes.length + uptoBulk d + 1
  | (_, d) => uptoBulk d + 1
 end
def uptoSmall : (H : Type) → List (DataW H) → Bool := fun _ ds => decide (uptoBulkAll ds ≤ 1048576)
def OpenSpec.upto (s : _root_.Go.ChangeSpec) : _root_.Go.OpenSpec := { _root_.Go.OpenSpec.ofChange s with cond := some uptoSmall }

/-- 'woodcutlaw04.IdsExact', WHERE WHAT IT READS IS OF BULK AT MOST 1048576: true; the input reads as it did. -/
def idsExactUptoRow : OpenClaim := { program := "ytblojnajchpemaa", sum := "0cd2472c439ef85f36cf653e6c1f277b7c3ea3bb948073c8d08d2664b261137e", func := "woodcut/woodcutlaw04.IdsExact", spec := "idsExact", apart := false, narrowed := true }
def IdsExactUptoSaid : Prop := idsExactUptoRow.holds Try.pinned (OpenSpec.upto idsExactSpec)

/-- 'woodcutlaw04.IdsBack', WHERE WHAT IT READS IS OF BULK AT MOST 1048576: true; the input reads as it did. -/
def idsBackUptoRow : OpenClaim := { program := "ytblojnajchpemaa", sum := "0cd2472c439ef85f36cf653e6c1f277b7c3ea3bb948073c8d08d2664b261137e", func := "woodcut/woodcutlaw04.IdsBack", spec := "idsBack", apart := false, narrowed := true }
def IdsBackUptoSaid : Prop := idsBackUptoRow.holds Try.pinned (OpenSpec.upto idsBackSpec)

/-- 'woodcutlaw04.IdsDigits', WHERE WHAT IT READS IS OF BULK AT MOST 1048576: true; the input reads as it did. -/
def idsDigitsUptoRow : OpenClaim := { program := "ytblojnajchpemaa", sum := "0cd2472c439ef85f36cf653e6c1f277b7c3ea3bb948073c8d08d2664b261137e", func := "woodcut/woodcutlaw04.IdsDigits", spec := "idsDigits", apart := false, narrowed := true }
def IdsDigitsUptoSaid : Prop := idsDigitsUptoRow.holds Try.pinned (OpenSpec.upto idsDigitsSpec)

end Rows
end Go.Proofs.Ytblojnajchpemaa
