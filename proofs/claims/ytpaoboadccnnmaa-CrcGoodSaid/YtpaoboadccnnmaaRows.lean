/-
  No cell of these rows narrows 'for every input' (looked for: loops, veiled, ifaces, maps, wideKeys, modest, calm, conditions, laid).
  DERIVED. THE GIVEN ROWS OF THIS SEAT. 9 by the template 'for every input the law returns true; each argument reads behind the call as it read before'; 0 by the template 'total and deterministic' (their statements: YtpaoboadccnnmaaTotals.lean).
  GIVEN WITH THE SEED: the statements are not yours to turn. If you find one false, say at which input.
  Laid BY PROGRAM, IN A SANDBOX (cutbox-rows.mjs): the forced cells as the released guide's own fill.sh prints them over the translation 3efed045ce8c51d3… (all of the seat's roots in one cut). By AI agents, Wed Nov 11 2026. No macro, syntax, notation, axiom, sorry.
-/
import Derived.Test.YtpaoboadccnnmaaChecked
import GoSem.Claim
import GoSem.ClaimJoined
import GoSem.ClaimMapViews
import Derived.JoinedTies
import Derived.KernelRfl
namespace Go.Proofs.Ytpaoboadccnnmaa
/- THE CELL 'sum', in the pinned program and in every row, IS THE sha256 OF THE DUMP (.gsa) THAT YtpaoboadccnnmaaProg.lean LOADS. Nothing in Lean hashes anything: it is a label: what it is worth is what the hold of that sum in a sandbox is worth. -/
noncomputable def Try.pinned : Pinned := { name := "ytpaoboadccnnmaa", sum := "3efed045ce8c51d38bc8b7c27c19361ba060cb997cf5cd70b45ce2028218f183", checked := Try.checked }
namespace Rows
def none {H : Type} : Left H := { results := [], args := [] }

/-- 'woodcutlaw02.CrcExact': WHATEVER THE INPUT: true; the input reads as it did. -/
def crcExactSpec : ChangeSpec := { name := "crcExact", fn := fun _ => fun
  | [d1, d2] => { results := [.lit (.bool true)], args := [d1, d2] }
  | _ => none }
def crcExactRow : OpenClaim := { program := "ytpaoboadccnnmaa", sum := "3efed045ce8c51d38bc8b7c27c19361ba060cb997cf5cd70b45ce2028218f183", func := "woodcut/woodcutlaw02.CrcExact", spec := "crcExact", apart := false }
def CrcExactSaid : Prop := crcExactRow.holds Try.pinned (OpenSpec.ofChange crcExactSpec)

/-- ITS FALSE NEIGHBOUR: 'it returns false'. Refute it at one input. -/
def crcExactWrong : ChangeSpec := { name := "crcExact", fn := fun _ => fun
  | [d1, d2] => { results := [.lit (.bool false)], args := [d1, d2] }
  | _ => none }
def CrcExactWrongFalsely : Prop := crcExactRow.holds Try.pinned (OpenSpec.ofChange crcExactWrong)

/-- 'woodcutlaw02.CrcMore': WHATEVER THE INPUT: true; the input reads as it did. -/
def crcMoreSpec : ChangeSpec := { name := "crcMore", fn := fun _ => fun
  | [d1, d2, d3] => { results := [.lit (.bool true)], args := [d1, d2, d3] }
  | _ => none }
def crcMoreRow : OpenClaim := { program := "ytpaoboadccnnmaa", sum := "3efed045ce8c51d38bc8b7c27c19361ba060cb997cf5cd70b45ce2028218f183", func := "woodcut/woodcutlaw02.CrcMore", spec := "crcMore", apart := false }
def CrcMoreSaid : Prop := crcMoreRow.holds Try.pinned (OpenSpec.ofChange crcMoreSpec)

/-- ITS FALSE NEIGHBOUR: 'it returns false'. Refute it at one input. -/
def crcMoreWrong : ChangeSpec := { name := "crcMore", fn := fun _ => fun
  | [d1, d2, d3] => { results := [.lit (.bool false)], args := [d1, d2, d3] }
  | _ => none }
def CrcMoreWrongFalsely : Prop := crcMoreRow.holds Try.pinned (OpenSpec.ofChange crcMoreWrong)

/-- 'woodcutlaw02.CrcLinear': WHATEVER THE INPUT: true; the input reads as it did. -/
def crcLinearSpec : ChangeSpec := { name := "crcLinear", fn := fun _ => fun
  | [d1, d2, d3] => { results := [.lit (.bool true)], args := [d1, d2, d3] }
  | _ => none }
def crcLinearRow : OpenClaim := { program := "ytpaoboadccnnmaa", sum := "3efed045ce8c51d38bc8b7c27c19361ba060cb997cf5cd70b45ce2028218f183", func := "woodcut/woodcutlaw02.CrcLinear", spec := "crcLinear", apart := false }
def CrcLinearSaid : Prop := crcLinearRow.holds Try.pinned (OpenSpec.ofChange crcLinearSpec)

/-- ITS FALSE NEIGHBOUR: 'it returns false'. Refute it at one input. -/
def crcLinearWrong : ChangeSpec := { name := "crcLinear", fn := fun _ => fun
  | [d1, d2, d3] => { results := [.lit (.bool false)], args := [d1, d2, d3] }
  | _ => none }
def CrcLinearWrongFalsely : Prop := crcLinearRow.holds Try.pinned (OpenSpec.ofChange crcLinearWrong)

/-- 'woodcutlaw01.LeExact': WHATEVER THE INPUT: true; the input reads as it did. -/
def leExactSpec : ChangeSpec := { name := "leExact", fn := fun _ => fun
  | [d1, d2, d3, d4, d5] => { results := [.lit (.bool true)], args := [d1, d2, d3, d4, d5] }
  | _ => none }
def leExactRow : OpenClaim := { program := "ytpaoboadccnnmaa", sum := "3efed045ce8c51d38bc8b7c27c19361ba060cb997cf5cd70b45ce2028218f183", func := "woodcut/woodcutlaw01.LeExact", spec := "leExact", apart := false }
def LeExactSaid : Prop := leExactRow.holds Try.pinned (OpenSpec.ofChange leExactSpec)

/-- ITS FALSE NEIGHBOUR: 'it returns false'. Refute it at one input. -/
def leExactWrong : ChangeSpec := { name := "leExact", fn := fun _ => fun
  | [d1, d2, d3, d4, d5] => { results := [.lit (.bool false)], args := [d1, d2, d3, d4, d5] }
  | _ => none }
def LeExactWrongFalsely : Prop := leExactRow.holds Try.pinned (OpenSpec.ofChange leExactWrong)

/-- 'woodcutlaw01.LeBack': WHATEVER THE INPUT: true; the input reads as it did. -/
def leBackSpec : ChangeSpec := { name := "leBack", fn := fun _ => fun
  | [d1, d2, d3, d4] => { results := [.lit (.bool true)], args := [d1, d2, d3, d4] }
  | _ => none }
def leBackRow : OpenClaim := { program := "ytpaoboadccnnmaa", sum := "3efed045ce8c51d38bc8b7c27c19361ba060cb997cf5cd70b45ce2028218f183", func := "woodcut/woodcutlaw01.LeBack", spec := "leBack", apart := false }
def LeBackSaid : Prop := leBackRow.holds Try.pinned (OpenSpec.ofChange leBackSpec)

/-- ITS FALSE NEIGHBOUR: 'it returns false'. Refute it at one input. -/
def leBackWrong : ChangeSpec := { name := "leBack", fn := fun _ => fun
  | [d1, d2, d3, d4] => { results := [.lit (.bool false)], args := [d1, d2, d3, d4] }
  | _ => none }
def LeBackWrongFalsely : Prop := leBackRow.holds Try.pinned (OpenSpec.ofChange leBackWrong)

/-- 'woodcutlaw01.LeOrder': WHATEVER THE INPUT: true; the input reads as it did. -/
def leOrderSpec : ChangeSpec := { name := "leOrder", fn := fun _ => fun
  | [d1, d2] => { results := [.lit (.bool true)], args := [d1, d2] }
  | _ => none }
def leOrderRow : OpenClaim := { program := "ytpaoboadccnnmaa", sum := "3efed045ce8c51d38bc8b7c27c19361ba060cb997cf5cd70b45ce2028218f183", func := "woodcut/woodcutlaw01.LeOrder", spec := "leOrder", apart := false }
def LeOrderSaid : Prop := leOrderRow.holds Try.pinned (OpenSpec.ofChange leOrderSpec)

/-- ITS FALSE NEIGHBOUR: 'it returns false'. Refute it at one input. -/
def leOrderWrong : ChangeSpec := { name := "leOrder", fn := fun _ => fun
  | [d1, d2] => { results := [.lit (.bool false)], args := [d1, d2] }
  | _ => none }
def LeOrderWrongFalsely : Prop := leOrderRow.holds Try.pinned (OpenSpec.ofChange leOrderWrong)

/-- 'woodcutlaw01.LeParts': WHATEVER THE INPUT: true; the input reads as it did. -/
def lePartsSpec : ChangeSpec := { name := "leParts", fn := fun _ => fun
  | [d1, d2, d3] => { results := [.lit (.bool true)], args := [d1, d2, d3] }
  | _ => none }
def lePartsRow : OpenClaim := { program := "ytpaoboadccnnmaa", sum := "3efed045ce8c51d38bc8b7c27c19361ba060cb997cf5cd70b45ce2028218f183", func := "woodcut/woodcutlaw01.LeParts", spec := "leParts", apart := false }
def LePartsSaid : Prop := lePartsRow.holds Try.pinned (OpenSpec.ofChange lePartsSpec)

/-- ITS FALSE NEIGHBOUR: 'it returns false'. Refute it at one input. -/
def lePartsWrong : ChangeSpec := { name := "leParts", fn := fun _ => fun
  | [d1, d2, d3] => { results := [.lit (.bool false)], args := [d1, d2, d3] }
  | _ => none }
def LePartsWrongFalsely : Prop := lePartsRow.holds Try.pinned (OpenSpec.ofChange lePartsWrong)

/-- 'woodcutlaw01.LeBounds': WHATEVER THE INPUT: true; the input reads as it did. -/
def leBoundsSpec : ChangeSpec := { name := "leBounds", fn := fun _ => fun
  | [d1, d2] => { results := [.lit (.bool true)], args := [d1, d2] }
  | _ => none }
def leBoundsRow : OpenClaim := { program := "ytpaoboadccnnmaa", sum := "3efed045ce8c51d38bc8b7c27c19361ba060cb997cf5cd70b45ce2028218f183", func := "woodcut/woodcutlaw01.LeBounds", spec := "leBounds", apart := false }
def LeBoundsSaid : Prop := leBoundsRow.holds Try.pinned (OpenSpec.ofChange leBoundsSpec)

/-- ITS FALSE NEIGHBOUR: 'it returns false'. Refute it at one input. -/
def leBoundsWrong : ChangeSpec := { name := "leBounds", fn := fun _ => fun
  | [d1, d2] => { results := [.lit (.bool false)], args := [d1, d2] }
  | _ => none }
def LeBoundsWrongFalsely : Prop := leBoundsRow.holds Try.pinned (OpenSpec.ofChange leBoundsWrong)

/-- 'woodcutlaw02.CrcGood': WHATEVER THE INPUT: true; the input reads as it did. -/
def crcGoodSpec : ChangeSpec := { name := "crcGood", fn := fun _ => fun
  | [d1, d2, d3] => { results := [.lit (.bool true)], args := [d1, d2, d3] }
  | _ => none }
def crcGoodRow : OpenClaim := { program := "ytpaoboadccnnmaa", sum := "3efed045ce8c51d38bc8b7c27c19361ba060cb997cf5cd70b45ce2028218f183", func := "woodcut/woodcutlaw02.CrcGood", spec := "crcGood", apart := false }
def CrcGoodSaid : Prop := crcGoodRow.holds Try.pinned (OpenSpec.ofChange crcGoodSpec)

/-- ITS FALSE NEIGHBOUR: 'it returns false'. Refute it at one input. -/
def crcGoodWrong : ChangeSpec := { name := "crcGood", fn := fun _ => fun
  | [d1, d2, d3] => { results := [.lit (.bool false)], args := [d1, d2, d3] }
  | _ => none }
def CrcGoodWrongFalsely : Prop := crcGoodRow.holds Try.pinned (OpenSpec.ofChange crcGoodWrong)

/- THE SECOND FORM. 'bulk': how many values and letters a reading holds, each counted each time it is reached (what is shared counts as often as it is met; a slice's spare places count too). A statement '..UptoSaid' is the law's where the arguments, and the package variables that the reading takes, are together of bulk at most 1048576: NARROWER than '..Said'. Prove '..Said' where nothing that the law and all that it calls make is longer than what came in: it says more and counts as full. Else prove '..UptoSaid'. A law counts once. -/
mutual
def uptoBulk {H : Type} : DataW H → Nat
  | .lit (.string bytes) => bytes.length + 1
  | .lit _ => 1
  | .nil => 1
  | .ptr d => uptoBulk d + 1
  | .slice elems spare => uptoBulkAll elems + uptoBulkAll spare + 1
  | .agg parts => uptoBulkAll parts + 1
  | .iface _ d => uptoBulk d + 1
  | .map entries => uptoBulkEntries entries + 1
  | .held _ => 1
def uptoBulkAll {H : Type} : List (DataW H) → Nat
  | [] => 0
  | d :: r => uptoBulk d + uptoBulkAll r
def uptoBulkEntries {H : Type} : List (Lit × DataW H) → Nat
  | [] => 0
  | x :: r => uptoBulkEntry x + uptoBulkEntries r
def uptoBulkEntry {H : Type} : Lit × DataW H → Nat
  | (.string bytes, d) => bytes.length + uptoBulk d + 1
  | (_, d) => uptoBulk d + 1
 end
def uptoSmall : (H : Type) → List (DataW H) → Bool := fun _ ds => decide (uptoBulkAll ds ≤ 1048576)
def OpenSpec.upto (s : _root_.Go.ChangeSpec) : _root_.Go.OpenSpec := { _root_.Go.OpenSpec.ofChange s with cond := some uptoSmall }

/-- 'woodcutlaw02.CrcExact', WHERE WHAT IT READS IS OF BULK AT MOST 1048576: true; the input reads as it did. -/
def crcExactUptoRow : OpenClaim := { program := "ytpaoboadccnnmaa", sum := "3efed045ce8c51d38bc8b7c27c19361ba060cb997cf5cd70b45ce2028218f183", func := "woodcut/woodcutlaw02.CrcExact", spec := "crcExact", apart := false, narrowed := true }
def CrcExactUptoSaid : Prop := crcExactUptoRow.holds Try.pinned (OpenSpec.upto crcExactSpec)

/-- 'woodcutlaw02.CrcMore', WHERE WHAT IT READS IS OF BULK AT MOST 1048576: true; the input reads as it did. -/
def crcMoreUptoRow : OpenClaim := { program := "ytpaoboadccnnmaa", sum := "3efed045ce8c51d38bc8b7c27c19361ba060cb997cf5cd70b45ce2028218f183", func := "woodcut/woodcutlaw02.CrcMore", spec := "crcMore", apart := false, narrowed := true }
def CrcMoreUptoSaid : Prop := crcMoreUptoRow.holds Try.pinned (OpenSpec.upto crcMoreSpec)

/-- 'woodcutlaw02.CrcLinear', WHERE WHAT IT READS IS OF BULK AT MOST 1048576: true; the input reads as it did. -/
def crcLinearUptoRow : OpenClaim := { program := "ytpaoboadccnnmaa", sum := "3efed045ce8c51d38bc8b7c27c19361ba060cb997cf5cd70b45ce2028218f183", func := "woodcut/woodcutlaw02.CrcLinear", spec := "crcLinear", apart := false, narrowed := true }
def CrcLinearUptoSaid : Prop := crcLinearUptoRow.holds Try.pinned (OpenSpec.upto crcLinearSpec)

/-- 'woodcutlaw01.LeExact', WHERE WHAT IT READS IS OF BULK AT MOST 1048576: true; the input reads as it did. -/
def leExactUptoRow : OpenClaim := { program := "ytpaoboadccnnmaa", sum := "3efed045ce8c51d38bc8b7c27c19361ba060cb997cf5cd70b45ce2028218f183", func := "woodcut/woodcutlaw01.LeExact", spec := "leExact", apart := false, narrowed := true }
def LeExactUptoSaid : Prop := leExactUptoRow.holds Try.pinned (OpenSpec.upto leExactSpec)

/-- 'woodcutlaw01.LeBack', WHERE WHAT IT READS IS OF BULK AT MOST 1048576: true; the input reads as it did. -/
def leBackUptoRow : OpenClaim := { program := "ytpaoboadccnnmaa", sum := "3efed045ce8c51d38bc8b7c27c19361ba060cb997cf5cd70b45ce2028218f183", func := "woodcut/woodcutlaw01.LeBack", spec := "leBack", apart := false, narrowed := true }
def LeBackUptoSaid : Prop := leBackUptoRow.holds Try.pinned (OpenSpec.upto leBackSpec)

/-- 'woodcutlaw01.LeOrder', WHERE WHAT IT READS IS OF BULK AT MOST 1048576: true; the input reads as it did. -/
def leOrderUptoRow : OpenClaim := { program := "ytpaoboadccnnmaa", sum := "3efed045ce8c51d38bc8b7c27c19361ba060cb997cf5cd70b45ce2028218f183", func := "woodcut/woodcutlaw01.LeOrder", spec := "leOrder", apart := false, narrowed := true }
def LeOrderUptoSaid : Prop := leOrderUptoRow.holds Try.pinned (OpenSpec.upto leOrderSpec)

/-- 'woodcutlaw01.LeParts', WHERE WHAT IT READS IS OF BULK AT MOST 1048576: true; the input reads as it did. -/
def lePartsUptoRow : OpenClaim := { program := "ytpaoboadccnnmaa", sum := "3efed045ce8c51d38bc8b7c27c19361ba060cb997cf5cd70b45ce2028218f183", func := "woodcut/woodcutlaw01.LeParts", spec := "leParts", apart := false, narrowed := true }
def LePartsUptoSaid : Prop := lePartsUptoRow.holds Try.pinned (OpenSpec.upto lePartsSpec)

/-- 'woodcutlaw01.LeBounds', WHERE WHAT IT READS IS OF BULK AT MOST 1048576: true; the input reads as it did. -/
def leBoundsUptoRow : OpenClaim := { program := "ytpaoboadccnnmaa", sum := "3efed045ce8c51d38bc8b7c27c19361ba060cb997cf5cd70b45ce2028218f183", func := "woodcut/woodcutlaw01.LeBounds", spec := "leBounds", apart := false, narrowed := true }
def LeBoundsUptoSaid : Prop := leBoundsUptoRow.holds Try.pinned (OpenSpec.upto leBoundsSpec)

/-- 'woodcutlaw02.CrcGood', WHERE WHAT IT READS IS OF BULK AT MOST 1048576: true; the input reads as it did. -/
def crcGoodUptoRow : OpenClaim := { program := "ytpaoboadccnnmaa", sum := "3efed045ce8c51d38bc8b7c27c19361ba060cb997cf5cd70b45ce2028218f183", func := "woodcut/woodcutlaw02.CrcGood", spec := "crcGood", apart := false, narrowed := true }
def CrcGoodUptoSaid : Prop := crcGoodUptoRow.holds Try.pinned (OpenSpec.upto crcGoodSpec)

end Rows
end Go.Proofs.Ytpaoboadccnnmaa
