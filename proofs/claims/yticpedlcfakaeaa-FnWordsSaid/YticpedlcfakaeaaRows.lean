/-
  No cell of these rows narrows 'for every input' (looked for: loops, veiled, ifaces, maps, wideKeys, modest, calm, conditions, laid).
  DERIVED. THE GIVEN ROWS OF THIS SEAT. 11 by the template 'for every input the law returns true; each argument reads behind the call as it read before'; 0 by the template 'total and deterministic' (their statements: YticpedlcfakaeaaTotals.lean).
  GIVEN WITH THE SEED: the statements are not yours to turn. If you find one false, say at which input.
  Laid BY PROGRAM, IN A SANDBOX (cutbox-rows.mjs): the forced cells as the released guide's own fill.sh prints them over the translation eb90970eab7b6b7b… (all of the seat's roots in one cut). By AI agents, Wed Nov 11 2026. No macro, syntax, notation, axiom, sorry.
-/
import Derived.Test.YticpedlcfakaeaaChecked
import GoSem.Claim
import GoSem.ClaimJoined
import GoSem.ClaimMapViews
import Derived.JoinedTies
import Derived.KernelRfl
namespace Go.Proofs.Yticpedlcfakaeaa
/- THE CELL 'sum', in the pinned program and in every row, IS THE sha256 OF THE DUMP (.gsa) THAT YticpedlcfakaeaaProg.lean LOADS. Nothing in Lean hashes anything: it is a label: what it is worth is what the hold of that sum in a sandbox is worth. -/
noncomputable def Try.pinned : Pinned := { name := "yticpedlcfakaeaa", sum := "eb90970eab7b6b7b2f806c4dc7dbdcd85d3d317a5af309cb118ea0fb2c2a6493", checked := Try.checked }
namespace Rows
def none {H : Type} : Left H := { results := [], args := [] }

/-- 'laws.FnExactTextOf': WHATEVER THE INPUT: true; the input reads as it did. -/
def fnExactTextOfSpec : ChangeSpec := { name := "fnExactTextOf", fn := fun _ => fun
  | [d] => { results := [.lit (.bool true)], args := [d] }
  | _ => none }
def fnExactTextOfRow : OpenClaim := { program := "yticpedlcfakaeaa", sum := "eb90970eab7b6b7b2f806c4dc7dbdcd85d3d317a5af309cb118ea0fb2c2a6493", func := "loop.example/g00074/laws.FnExactTextOf", spec := "fnExactTextOf", inPlace := ["internal/abi.NoEscape"], apart := false }
def FnExactTextOfSaid : Prop := fnExactTextOfRow.holds Try.pinned (OpenSpec.ofChange fnExactTextOfSpec)

/-- ITS FALSE NEIGHBOUR: 'it returns false'. Refute it at one input. -/
def fnExactTextOfWrong : ChangeSpec := { name := "fnExactTextOf", fn := fun _ => fun
  | [d] => { results := [.lit (.bool false)], args := [d] }
  | _ => none }
def FnExactTextOfWrongFalsely : Prop := fnExactTextOfRow.holds Try.pinned (OpenSpec.ofChange fnExactTextOfWrong)

/-- 'laws.FnExactReceiptText': WHATEVER THE INPUT: true; the input reads as it did. -/
def fnExactReceiptTextSpec : ChangeSpec := { name := "fnExactReceiptText", fn := fun _ => fun
  | [d] => { results := [.lit (.bool true)], args := [d] }
  | _ => none }
def fnExactReceiptTextRow : OpenClaim := { program := "yticpedlcfakaeaa", sum := "eb90970eab7b6b7b2f806c4dc7dbdcd85d3d317a5af309cb118ea0fb2c2a6493", func := "loop.example/g00074/laws.FnExactReceiptText", spec := "fnExactReceiptText", apart := false }
def FnExactReceiptTextSaid : Prop := fnExactReceiptTextRow.holds Try.pinned (OpenSpec.ofChange fnExactReceiptTextSpec)

/-- ITS FALSE NEIGHBOUR: 'it returns false'. Refute it at one input. -/
def fnExactReceiptTextWrong : ChangeSpec := { name := "fnExactReceiptText", fn := fun _ => fun
  | [d] => { results := [.lit (.bool false)], args := [d] }
  | _ => none }
def FnExactReceiptTextWrongFalsely : Prop := fnExactReceiptTextRow.holds Try.pinned (OpenSpec.ofChange fnExactReceiptTextWrong)

/-- 'laws.FnExactStepsIn': WHATEVER THE INPUT: true; the input reads as it did. -/
def fnExactStepsInSpec : ChangeSpec := { name := "fnExactStepsIn", fn := fun _ => fun
  | [d1, d2] => { results := [.lit (.bool true)], args := [d1, d2] }
  | _ => none }
def fnExactStepsInRow : OpenClaim := { program := "yticpedlcfakaeaa", sum := "eb90970eab7b6b7b2f806c4dc7dbdcd85d3d317a5af309cb118ea0fb2c2a6493", func := "loop.example/g00074/laws.FnExactStepsIn", spec := "fnExactStepsIn", apart := false }
def FnExactStepsInSaid : Prop := fnExactStepsInRow.holds Try.pinned (OpenSpec.ofChange fnExactStepsInSpec)

/-- ITS FALSE NEIGHBOUR: 'it returns false'. Refute it at one input. -/
def fnExactStepsInWrong : ChangeSpec := { name := "fnExactStepsIn", fn := fun _ => fun
  | [d1, d2] => { results := [.lit (.bool false)], args := [d1, d2] }
  | _ => none }
def FnExactStepsInWrongFalsely : Prop := fnExactStepsInRow.holds Try.pinned (OpenSpec.ofChange fnExactStepsInWrong)

/-- 'laws.FnExactLeafText': WHATEVER THE INPUT: true; the input reads as it did. -/
def fnExactLeafTextSpec : ChangeSpec := { name := "fnExactLeafText", fn := fun _ => fun
  | [d] => { results := [.lit (.bool true)], args := [d] }
  | _ => none }
def fnExactLeafTextRow : OpenClaim := { program := "yticpedlcfakaeaa", sum := "eb90970eab7b6b7b2f806c4dc7dbdcd85d3d317a5af309cb118ea0fb2c2a6493", func := "loop.example/g00074/laws.FnExactLeafText", spec := "fnExactLeafText", apart := false }
def FnExactLeafTextSaid : Prop := fnExactLeafTextRow.holds Try.pinned (OpenSpec.ofChange fnExactLeafTextSpec)

/-- ITS FALSE NEIGHBOUR: 'it returns false'. Refute it at one input. -/
def fnExactLeafTextWrong : ChangeSpec := { name := "fnExactLeafText", fn := fun _ => fun
  | [d] => { results := [.lit (.bool false)], args := [d] }
  | _ => none }
def FnExactLeafTextWrongFalsely : Prop := fnExactLeafTextRow.holds Try.pinned (OpenSpec.ofChange fnExactLeafTextWrong)

/-- 'laws.FnExactStepsBetween': WHATEVER THE INPUT: true; the input reads as it did. -/
def fnExactStepsBetweenSpec : ChangeSpec := { name := "fnExactStepsBetween", fn := fun _ => fun
  | [d1, d2] => { results := [.lit (.bool true)], args := [d1, d2] }
  | _ => none }
def fnExactStepsBetweenRow : OpenClaim := { program := "yticpedlcfakaeaa", sum := "eb90970eab7b6b7b2f806c4dc7dbdcd85d3d317a5af309cb118ea0fb2c2a6493", func := "loop.example/g00074/laws.FnExactStepsBetween", spec := "fnExactStepsBetween", apart := false }
def FnExactStepsBetweenSaid : Prop := fnExactStepsBetweenRow.holds Try.pinned (OpenSpec.ofChange fnExactStepsBetweenSpec)

/-- ITS FALSE NEIGHBOUR: 'it returns false'. Refute it at one input. -/
def fnExactStepsBetweenWrong : ChangeSpec := { name := "fnExactStepsBetween", fn := fun _ => fun
  | [d1, d2] => { results := [.lit (.bool false)], args := [d1, d2] }
  | _ => none }
def FnExactStepsBetweenWrongFalsely : Prop := fnExactStepsBetweenRow.holds Try.pinned (OpenSpec.ofChange fnExactStepsBetweenWrong)

/-- 'laws.FnExactMixIn': WHATEVER THE INPUT: true; the input reads as it did. -/
def fnExactMixInSpec : ChangeSpec := { name := "fnExactMixIn", fn := fun _ => fun
  | [d1, d2] => { results := [.lit (.bool true)], args := [d1, d2] }
  | _ => none }
def fnExactMixInRow : OpenClaim := { program := "yticpedlcfakaeaa", sum := "eb90970eab7b6b7b2f806c4dc7dbdcd85d3d317a5af309cb118ea0fb2c2a6493", func := "loop.example/g00074/laws.FnExactMixIn", spec := "fnExactMixIn", apart := false }
def FnExactMixInSaid : Prop := fnExactMixInRow.holds Try.pinned (OpenSpec.ofChange fnExactMixInSpec)

/-- ITS FALSE NEIGHBOUR: 'it returns false'. Refute it at one input. -/
def fnExactMixInWrong : ChangeSpec := { name := "fnExactMixIn", fn := fun _ => fun
  | [d1, d2] => { results := [.lit (.bool false)], args := [d1, d2] }
  | _ => none }
def FnExactMixInWrongFalsely : Prop := fnExactMixInRow.holds Try.pinned (OpenSpec.ofChange fnExactMixInWrong)

/-- 'laws.FnWords': WHATEVER THE INPUT: true; the input reads as it did. -/
def fnWordsSpec : ChangeSpec := { name := "fnWords", fn := fun _ => fun
  | [d] => { results := [.lit (.bool true)], args := [d] }
  | _ => none }
def fnWordsRow : OpenClaim := { program := "yticpedlcfakaeaa", sum := "eb90970eab7b6b7b2f806c4dc7dbdcd85d3d317a5af309cb118ea0fb2c2a6493", func := "loop.example/g00074/laws.FnWords", spec := "fnWords", inPlace := ["internal/bytealg.IndexByteString"], apart := false }
def FnWordsSaid : Prop := fnWordsRow.holds Try.pinned (OpenSpec.ofChange fnWordsSpec)

/-- ITS FALSE NEIGHBOUR: 'it returns false'. Refute it at one input. -/
def fnWordsWrong : ChangeSpec := { name := "fnWords", fn := fun _ => fun
  | [d] => { results := [.lit (.bool false)], args := [d] }
  | _ => none }
def FnWordsWrongFalsely : Prop := fnWordsRow.holds Try.pinned (OpenSpec.ofChange fnWordsWrong)

/-- 'laws.FnExactFeedNew': WHATEVER THE INPUT: true; the input reads as it did. -/
def fnExactFeedNewSpec : ChangeSpec := { name := "fnExactFeedNew", fn := fun _ => fun
  | [d1, d2] => { results := [.lit (.bool true)], args := [d1, d2] }
  | _ => none }
def fnExactFeedNewRow : OpenClaim := { program := "yticpedlcfakaeaa", sum := "eb90970eab7b6b7b2f806c4dc7dbdcd85d3d317a5af309cb118ea0fb2c2a6493", func := "loop.example/g00074/laws.FnExactFeedNew", spec := "fnExactFeedNew", apart := false }
def FnExactFeedNewSaid : Prop := fnExactFeedNewRow.holds Try.pinned (OpenSpec.ofChange fnExactFeedNewSpec)

/-- ITS FALSE NEIGHBOUR: 'it returns false'. Refute it at one input. -/
def fnExactFeedNewWrong : ChangeSpec := { name := "fnExactFeedNew", fn := fun _ => fun
  | [d1, d2] => { results := [.lit (.bool false)], args := [d1, d2] }
  | _ => none }
def FnExactFeedNewWrongFalsely : Prop := fnExactFeedNewRow.holds Try.pinned (OpenSpec.ofChange fnExactFeedNewWrong)

/-- 'laws.FnExactRangeOk': WHATEVER THE INPUT: true; the input reads as it did. -/
def fnExactRangeOkSpec : ChangeSpec := { name := "fnExactRangeOk", fn := fun _ => fun
  | [d1, d2] => { results := [.lit (.bool true)], args := [d1, d2] }
  | _ => none }
def fnExactRangeOkRow : OpenClaim := { program := "yticpedlcfakaeaa", sum := "eb90970eab7b6b7b2f806c4dc7dbdcd85d3d317a5af309cb118ea0fb2c2a6493", func := "loop.example/g00074/laws.FnExactRangeOk", spec := "fnExactRangeOk", apart := false }
def FnExactRangeOkSaid : Prop := fnExactRangeOkRow.holds Try.pinned (OpenSpec.ofChange fnExactRangeOkSpec)

/-- ITS FALSE NEIGHBOUR: 'it returns false'. Refute it at one input. -/
def fnExactRangeOkWrong : ChangeSpec := { name := "fnExactRangeOk", fn := fun _ => fun
  | [d1, d2] => { results := [.lit (.bool false)], args := [d1, d2] }
  | _ => none }
def FnExactRangeOkWrongFalsely : Prop := fnExactRangeOkRow.holds Try.pinned (OpenSpec.ofChange fnExactRangeOkWrong)

/-- 'laws.FnExactPadOf': WHATEVER THE INPUT: true; the input reads as it did. -/
def fnExactPadOfSpec : ChangeSpec := { name := "fnExactPadOf", fn := fun _ => fun
  | [d] => { results := [.lit (.bool true)], args := [d] }
  | _ => none }
def fnExactPadOfRow : OpenClaim := { program := "yticpedlcfakaeaa", sum := "eb90970eab7b6b7b2f806c4dc7dbdcd85d3d317a5af309cb118ea0fb2c2a6493", func := "loop.example/g00074/laws.FnExactPadOf", spec := "fnExactPadOf", inPlace := ["internal/abi.NoEscape", "internal/bytealg.MakeNoZero"], apart := false }
def FnExactPadOfSaid : Prop := fnExactPadOfRow.holds Try.pinned (OpenSpec.ofChange fnExactPadOfSpec)

/-- ITS FALSE NEIGHBOUR: 'it returns false'. Refute it at one input. -/
def fnExactPadOfWrong : ChangeSpec := { name := "fnExactPadOf", fn := fun _ => fun
  | [d] => { results := [.lit (.bool false)], args := [d] }
  | _ => none }
def FnExactPadOfWrongFalsely : Prop := fnExactPadOfRow.holds Try.pinned (OpenSpec.ofChange fnExactPadOfWrong)

/-- 'laws.FnExactBlocksOf': WHATEVER THE INPUT: true; the input reads as it did. -/
def fnExactBlocksOfSpec : ChangeSpec := { name := "fnExactBlocksOf", fn := fun _ => fun
  | [d] => { results := [.lit (.bool true)], args := [d] }
  | _ => none }
def fnExactBlocksOfRow : OpenClaim := { program := "yticpedlcfakaeaa", sum := "eb90970eab7b6b7b2f806c4dc7dbdcd85d3d317a5af309cb118ea0fb2c2a6493", func := "loop.example/g00074/laws.FnExactBlocksOf", spec := "fnExactBlocksOf", inPlace := ["internal/abi.NoEscape", "internal/bytealg.MakeNoZero"], apart := false }
def FnExactBlocksOfSaid : Prop := fnExactBlocksOfRow.holds Try.pinned (OpenSpec.ofChange fnExactBlocksOfSpec)

/-- ITS FALSE NEIGHBOUR: 'it returns false'. Refute it at one input. -/
def fnExactBlocksOfWrong : ChangeSpec := { name := "fnExactBlocksOf", fn := fun _ => fun
  | [d] => { results := [.lit (.bool false)], args := [d] }
  | _ => none }
def FnExactBlocksOfWrongFalsely : Prop := fnExactBlocksOfRow.holds Try.pinned (OpenSpec.ofChange fnExactBlocksOfWrong)

/- THE SECOND FORM. 'bulk': how many values and letters a reading holds, each counted each time it is reached (what is shared counts as often as it is met; a slice's spare places count too). A statement '..UptoSaid' is the law's where the arguments, and the package variables that the reading takes, are together of bulk at most 1048576: NARROWER than '..Said'. Prove '..Said' where nothing that the law and all that it calls make is longer than what came in: it says more and counts as full. Else prove '..UptoSaid'. A law counts once. -/
mutual
def uptoBulk {H : Type} : DataW H → Nat
  | .lit (.string bytes) => bytes.length + 1
  | .lit _ => 1
  | .nil => 1
  | .ptr d => uptoBulk d + 1
  | .slice elems spare => uptoBulkAll elems + uptoBulkAll spare + 1
  | .agg parts => uptoBulkAll parts + 1
  | .iface _ d => uptoBulk d + 1
  | .map entries => uptoBulkEntries entries + 1
  | .held _ => 1
def uptoBulkAll {H : Type} : List (DataW H) → Nat
  | [] => 0
  | d :: r => uptoBulk d + uptoBulkAll r
def uptoBulkEntries {H : Type} : List (Lit × DataW H) → Nat
  | [] => 0
  | x :: r => uptoBulkEntry x + uptoBulkEntries r
def uptoBulkEntry {H : Type} : Lit × DataW H → Nat
  | (.string bytes, d) => bytes.length + uptoBulk d + 1
  | (_, d) => uptoBulk d + 1
 end
def uptoSmall : (H : Type) → List (DataW H) → Bool := fun _ ds => decide (uptoBulkAll ds ≤ 1048576)
def OpenSpec.upto (s : _root_.Go.ChangeSpec) : _root_.Go.OpenSpec := { _root_.Go.OpenSpec.ofChange s with cond := some uptoSmall }

/-- 'laws.FnExactTextOf', WHERE WHAT IT READS IS OF BULK AT MOST 1048576: true; the input reads as it did. -/
def fnExactTextOfUptoRow : OpenClaim := { program := "yticpedlcfakaeaa", sum := "eb90970eab7b6b7b2f806c4dc7dbdcd85d3d317a5af309cb118ea0fb2c2a6493", func := "loop.example/g00074/laws.FnExactTextOf", spec := "fnExactTextOf", inPlace := ["internal/abi.NoEscape"], apart := false, narrowed := true }
def FnExactTextOfUptoSaid : Prop := fnExactTextOfUptoRow.holds Try.pinned (OpenSpec.upto fnExactTextOfSpec)

/-- 'laws.FnExactReceiptText', WHERE WHAT IT READS IS OF BULK AT MOST 1048576: true; the input reads as it did. -/
def fnExactReceiptTextUptoRow : OpenClaim := { program := "yticpedlcfakaeaa", sum := "eb90970eab7b6b7b2f806c4dc7dbdcd85d3d317a5af309cb118ea0fb2c2a6493", func := "loop.example/g00074/laws.FnExactReceiptText", spec := "fnExactReceiptText", apart := false, narrowed := true }
def FnExactReceiptTextUptoSaid : Prop := fnExactReceiptTextUptoRow.holds Try.pinned (OpenSpec.upto fnExactReceiptTextSpec)

/-- 'laws.FnExactStepsIn', WHERE WHAT IT READS IS OF BULK AT MOST 1048576: true; the input reads as it did. -/
def fnExactStepsInUptoRow : OpenClaim := { program := "yticpedlcfakaeaa", sum := "eb90970eab7b6b7b2f806c4dc7dbdcd85d3d317a5af309cb118ea0fb2c2a6493", func := "loop.example/g00074/laws.FnExactStepsIn", spec := "fnExactStepsIn", apart := false, narrowed := true }
def FnExactStepsInUptoSaid : Prop := fnExactStepsInUptoRow.holds Try.pinned (OpenSpec.upto fnExactStepsInSpec)

/-- 'laws.FnExactLeafText', WHERE WHAT IT READS IS OF BULK AT MOST 1048576: true; the input reads as it did. -/
def fnExactLeafTextUptoRow : OpenClaim := { program := "yticpedlcfakaeaa", sum := "eb90970eab7b6b7b2f806c4dc7dbdcd85d3d317a5af309cb118ea0fb2c2a6493", func := "loop.example/g00074/laws.FnExactLeafText", spec := "fnExactLeafText", apart := false, narrowed := true }
def FnExactLeafTextUptoSaid : Prop := fnExactLeafTextUptoRow.holds Try.pinned (OpenSpec.upto fnExactLeafTextSpec)

/-- 'laws.FnExactStepsBetween', WHERE WHAT IT READS IS OF BULK AT MOST 1048576: true; the input reads as it did. -/
def fnExactStepsBetweenUptoRow : OpenClaim := { program := "yticpedlcfakaeaa", sum := "eb90970eab7b6b7b2f806c4dc7dbdcd85d3d317a5af309cb118ea0fb2c2a6493", func := "loop.example/g00074/laws.FnExactStepsBetween", spec := "fnExactStepsBetween", apart := false, narrowed := true }
def FnExactStepsBetweenUptoSaid : Prop := fnExactStepsBetweenUptoRow.holds Try.pinned (OpenSpec.upto fnExactStepsBetweenSpec)

/-- 'laws.FnExactMixIn', WHERE WHAT IT READS IS OF BULK AT MOST 1048576: true; the input reads as it did. -/
def fnExactMixInUptoRow : OpenClaim := { program := "yticpedlcfakaeaa", sum := "eb90970eab7b6b7b2f806c4dc7dbdcd85d3d317a5af309cb118ea0fb2c2a6493", func := "loop.example/g00074/laws.FnExactMixIn", spec := "fnExactMixIn", apart := false, narrowed := true }
def FnExactMixInUptoSaid : Prop := fnExactMixInUptoRow.holds Try.pinned (OpenSpec.upto fnExactMixInSpec)

/-- 'laws.FnWords', WHERE WHAT IT READS IS OF BULK AT MOST 1048576: true; the input reads as it did. -/
def fnWordsUptoRow : OpenClaim := { program := "yticpedlcfakaeaa", sum := "eb90970eab7b6b7b2f806c4dc7dbdcd85d3d317a5af309cb118ea0fb2c2a6493", func := "loop.example/g00074/laws.FnWords", spec := "fnWords", inPlace := ["internal/bytealg.IndexByteString"], apart := false, narrowed := true }
def FnWordsUptoSaid : Prop := fnWordsUptoRow.holds Try.pinned (OpenSpec.upto fnWordsSpec)

/-- 'laws.FnExactFeedNew', WHERE WHAT IT READS IS OF BULK AT MOST 1048576: true; the input reads as it did. -/
def fnExactFeedNewUptoRow : OpenClaim := { program := "yticpedlcfakaeaa", sum := "eb90970eab7b6b7b2f806c4dc7dbdcd85d3d317a5af309cb118ea0fb2c2a6493", func := "loop.example/g00074/laws.FnExactFeedNew", spec := "fnExactFeedNew", apart := false, narrowed := true }
def FnExactFeedNewUptoSaid : Prop := fnExactFeedNewUptoRow.holds Try.pinned (OpenSpec.upto fnExactFeedNewSpec)

/-- 'laws.FnExactRangeOk', WHERE WHAT IT READS IS OF BULK AT MOST 1048576: true; the input reads as it did. -/
def fnExactRangeOkUptoRow : OpenClaim := { program := "yticpedlcfakaeaa", sum := "eb90970eab7b6b7b2f806c4dc7dbdcd85d3d317a5af309cb118ea0fb2c2a6493", func := "loop.example/g00074/laws.FnExactRangeOk", spec := "fnExactRangeOk", apart := false, narrowed := true }
def FnExactRangeOkUptoSaid : Prop := fnExactRangeOkUptoRow.holds Try.pinned (OpenSpec.upto fnExactRangeOkSpec)

/-- 'laws.FnExactPadOf', WHERE WHAT IT READS IS OF BULK AT MOST 1048576: true; the input reads as it did. -/
def fnExactPadOfUptoRow : OpenClaim := { program := "yticpedlcfakaeaa", sum := "eb90970eab7b6b7b2f806c4dc7dbdcd85d3d317a5af309cb118ea0fb2c2a6493", func := "loop.example/g00074/laws.FnExactPadOf", spec := "fnExactPadOf", inPlace := ["internal/abi.NoEscape", "internal/bytealg.MakeNoZero"], apart := false, narrowed := true }
def FnExactPadOfUptoSaid : Prop := fnExactPadOfUptoRow.holds Try.pinned (OpenSpec.upto fnExactPadOfSpec)

/-- 'laws.FnExactBlocksOf', WHERE WHAT IT READS IS OF BULK AT MOST 1048576: true; the input reads as it did. -/
def fnExactBlocksOfUptoRow : OpenClaim := { program := "yticpedlcfakaeaa", sum := "eb90970eab7b6b7b2f806c4dc7dbdcd85d3d317a5af309cb118ea0fb2c2a6493", func := "loop.example/g00074/laws.FnExactBlocksOf", spec := "fnExactBlocksOf", inPlace := ["internal/abi.NoEscape", "internal/bytealg.MakeNoZero"], apart := false, narrowed := true }
def FnExactBlocksOfUptoSaid : Prop := fnExactBlocksOfUptoRow.holds Try.pinned (OpenSpec.upto fnExactBlocksOfSpec)

end Rows
end Go.Proofs.Yticpedlcfakaeaa
