/-
  No cell of these rows narrows 'for every input' (looked for: loops, veiled, ifaces, maps, wideKeys, modest, calm, conditions, laid).
  DERIVED. THE GIVEN ROWS OF THIS SEAT. 6 by the template 'for every input the law returns true; each argument reads behind the call as it read before'; 0 by the template 'total and deterministic' (their statements: YtmcaglkbohoclaaTotals.lean).
  GIVEN WITH THE SEED: the statements are not yours to turn. If you find one false, say at which input.
  Laid BY PROGRAM, IN A SANDBOX (cutbox-rows.mjs): the forced cells as the released guide's own fill.sh prints them over the translation e6591a35543be892… (all of the seat's roots in one cut). By AI agents, Wed Nov 11 2026. No macro, syntax, notation, axiom, sorry.
-/
import Derived.Test.YtmcaglkbohoclaaChecked
import GoSem.Claim
import GoSem.ClaimJoined
import GoSem.ClaimMapViews
import Derived.JoinedTies
import Derived.KernelRfl
namespace Go.Proofs.Ytmcaglkbohoclaa
/- THE CELL 'sum', in the pinned program and in every row, IS THE sha256 OF THE DUMP (.gsa) THAT YtmcaglkbohoclaaProg.lean LOADS. Nothing in Lean hashes anything: it is a label: what it is worth is what the hold of that sum in a sandbox is worth. -/
noncomputable def Try.pinned : Pinned := { name := "ytmcaglkbohoclaa", sum := "e6591a35543be892d2153b5f8500969358e5f7ffab558953690fe504832e569a", checked := Try.checked }
namespace Rows
def none {H : Type} : Left H := { results := [], args := [] }

/-- 'laws.FnExactRootBy': WHATEVER THE INPUT: true; the input reads as it did. -/
def fnExactRootBySpec : ChangeSpec := { name := "fnExactRootBy", fn := fun _ => fun
  | [d1, d2, d3, d4, d5] => { results := [.lit (.bool true)], args := [d1, d2, d3, d4, d5] }
  | _ => none }
def fnExactRootByRow : OpenClaim := { program := "ytmcaglkbohoclaa", sum := "e6591a35543be892d2153b5f8500969358e5f7ffab558953690fe504832e569a", func := "loop.example/g00074/laws.FnExactRootBy", spec := "fnExactRootBy", inPlace := ["internal/abi.NoEscape", "internal/bytealg.MakeNoZero"], recurses := true, apart := false }
def FnExactRootBySaid : Prop := fnExactRootByRow.holds Try.pinned (OpenSpec.ofChange fnExactRootBySpec)

/-- ITS FALSE NEIGHBOUR: 'it returns false'. Refute it at one input. -/
def fnExactRootByWrong : ChangeSpec := { name := "fnExactRootBy", fn := fun _ => fun
  | [d1, d2, d3, d4, d5] => { results := [.lit (.bool false)], args := [d1, d2, d3, d4, d5] }
  | _ => none }
def FnExactRootByWrongFalsely : Prop := fnExactRootByRow.holds Try.pinned (OpenSpec.ofChange fnExactRootByWrong)

/-- 'laws.FnExactCheckIn': WHATEVER THE INPUT: true; the input reads as it did. -/
def fnExactCheckInSpec : ChangeSpec := { name := "fnExactCheckIn", fn := fun _ => fun
  | [d1, d2, d3, d4, d5, d6] => { results := [.lit (.bool true)], args := [d1, d2, d3, d4, d5, d6] }
  | _ => none }
def fnExactCheckInRow : OpenClaim := { program := "ytmcaglkbohoclaa", sum := "e6591a35543be892d2153b5f8500969358e5f7ffab558953690fe504832e569a", func := "loop.example/g00074/laws.FnExactCheckIn", spec := "fnExactCheckIn", inPlace := ["internal/abi.NoEscape", "internal/bytealg.MakeNoZero"], recurses := true, apart := false }
def FnExactCheckInSaid : Prop := fnExactCheckInRow.holds Try.pinned (OpenSpec.ofChange fnExactCheckInSpec)

/-- ITS FALSE NEIGHBOUR: 'it returns false'. Refute it at one input. -/
def fnExactCheckInWrong : ChangeSpec := { name := "fnExactCheckIn", fn := fun _ => fun
  | [d1, d2, d3, d4, d5, d6] => { results := [.lit (.bool false)], args := [d1, d2, d3, d4, d5, d6] }
  | _ => none }
def FnExactCheckInWrongFalsely : Prop := fnExactCheckInRow.holds Try.pinned (OpenSpec.ofChange fnExactCheckInWrong)

/-- 'laws.FnExactInclusion': WHATEVER THE INPUT: true; the input reads as it did. -/
def fnExactInclusionSpec : ChangeSpec := { name := "fnExactInclusion", fn := fun _ => fun
  | [d1, d2, d3] => { results := [.lit (.bool true)], args := [d1, d2, d3] }
  | _ => none }
def fnExactInclusionRow : OpenClaim := { program := "ytmcaglkbohoclaa", sum := "e6591a35543be892d2153b5f8500969358e5f7ffab558953690fe504832e569a", func := "loop.example/g00074/laws.FnExactInclusion", spec := "fnExactInclusion", inPlace := ["internal/abi.NoEscape", "internal/bytealg.MakeNoZero"], recurses := true, apart := false }
def FnExactInclusionSaid : Prop := fnExactInclusionRow.holds Try.pinned (OpenSpec.ofChange fnExactInclusionSpec)

/-- ITS FALSE NEIGHBOUR: 'it returns false'. Refute it at one input. -/
def fnExactInclusionWrong : ChangeSpec := { name := "fnExactInclusion", fn := fun _ => fun
  | [d1, d2, d3] => { results := [.lit (.bool false)], args := [d1, d2, d3] }
  | _ => none }
def FnExactInclusionWrongFalsely : Prop := fnExactInclusionRow.holds Try.pinned (OpenSpec.ofChange fnExactInclusionWrong)

/-- 'laws.FnExactPartRoot': WHATEVER THE INPUT: true; the input reads as it did. -/
def fnExactPartRootSpec : ChangeSpec := { name := "fnExactPartRoot", fn := fun _ => fun
  | [d1, d2, d3, d4] => { results := [.lit (.bool true)], args := [d1, d2, d3, d4] }
  | _ => none }
def fnExactPartRootRow : OpenClaim := { program := "ytmcaglkbohoclaa", sum := "e6591a35543be892d2153b5f8500969358e5f7ffab558953690fe504832e569a", func := "loop.example/g00074/laws.FnExactPartRoot", spec := "fnExactPartRoot", inPlace := ["internal/abi.NoEscape", "internal/bytealg.MakeNoZero"], recurses := true, apart := false }
def FnExactPartRootSaid : Prop := fnExactPartRootRow.holds Try.pinned (OpenSpec.ofChange fnExactPartRootSpec)

/-- ITS FALSE NEIGHBOUR: 'it returns false'. Refute it at one input. -/
def fnExactPartRootWrong : ChangeSpec := { name := "fnExactPartRoot", fn := fun _ => fun
  | [d1, d2, d3, d4] => { results := [.lit (.bool false)], args := [d1, d2, d3, d4] }
  | _ => none }
def FnExactPartRootWrongFalsely : Prop := fnExactPartRootRow.holds Try.pinned (OpenSpec.ofChange fnExactPartRootWrong)

/-- 'laws.FnExactRootOf': WHATEVER THE INPUT: true; the input reads as it did. -/
def fnExactRootOfSpec : ChangeSpec := { name := "fnExactRootOf", fn := fun _ => fun
  | [d1, d2] => { results := [.lit (.bool true)], args := [d1, d2] }
  | _ => none }
def fnExactRootOfRow : OpenClaim := { program := "ytmcaglkbohoclaa", sum := "e6591a35543be892d2153b5f8500969358e5f7ffab558953690fe504832e569a", func := "loop.example/g00074/laws.FnExactRootOf", spec := "fnExactRootOf", inPlace := ["internal/abi.NoEscape", "internal/bytealg.MakeNoZero"], recurses := true, apart := false }
def FnExactRootOfSaid : Prop := fnExactRootOfRow.holds Try.pinned (OpenSpec.ofChange fnExactRootOfSpec)

/-- ITS FALSE NEIGHBOUR: 'it returns false'. Refute it at one input. -/
def fnExactRootOfWrong : ChangeSpec := { name := "fnExactRootOf", fn := fun _ => fun
  | [d1, d2] => { results := [.lit (.bool false)], args := [d1, d2] }
  | _ => none }
def FnExactRootOfWrongFalsely : Prop := fnExactRootOfRow.holds Try.pinned (OpenSpec.ofChange fnExactRootOfWrong)

/-- 'laws.FnExactRangeRoot': WHATEVER THE INPUT: true; the input reads as it did. -/
def fnExactRangeRootSpec : ChangeSpec := { name := "fnExactRangeRoot", fn := fun _ => fun
  | [d1, d2] => { results := [.lit (.bool true)], args := [d1, d2] }
  | _ => none }
def fnExactRangeRootRow : OpenClaim := { program := "ytmcaglkbohoclaa", sum := "e6591a35543be892d2153b5f8500969358e5f7ffab558953690fe504832e569a", func := "loop.example/g00074/laws.FnExactRangeRoot", spec := "fnExactRangeRoot", inPlace := ["internal/abi.NoEscape", "internal/bytealg.MakeNoZero"], apart := false }
def FnExactRangeRootSaid : Prop := fnExactRangeRootRow.holds Try.pinned (OpenSpec.ofChange fnExactRangeRootSpec)

/-- ITS FALSE NEIGHBOUR: 'it returns false'. Refute it at one input. -/
def fnExactRangeRootWrong : ChangeSpec := { name := "fnExactRangeRoot", fn := fun _ => fun
  | [d1, d2] => { results := [.lit (.bool false)], args := [d1, d2] }
  | _ => none }
def FnExactRangeRootWrongFalsely : Prop := fnExactRangeRootRow.holds Try.pinned (OpenSpec.ofChange fnExactRangeRootWrong)

/- THE SECOND FORM. 'bulk': how many values and letters a reading holds, each counted each time it is reached (what is shared counts as often as it is met; a slice's spare places count too). A statement '..UptoSaid' is the law's where the arguments, and the package variables that the reading takes, are together of bulk at most 1048576: NARROWER than '..Said'. Prove '..Said' where nothing that the law and all that it calls make is longer than what came in: it says more and counts as full. Else prove '..UptoSaid'. A law counts once. -/
mutual
def uptoBulk {H : Type} : DataW H → Nat
  | .lit (.string bytes) => bytes.length + 1
  | .lit _ => 1
  | .nil => 1
  | .ptr d => uptoBulk d + 1
  | .slice elems spare => uptoBulkAll elems + uptoBulkAll spare + 1
  | .agg parts => uptoBulkAll parts + 1
  | .iface _ d => uptoBulk d + 1
  | .map entries => uptoBulkEntries entries + 1
  | .held _ => 1
def uptoBulkAll {H : Type} : List (DataW H) → Nat
  | [] => 0
  | d :: r => uptoBulk d + uptoBulkAll r
def uptoBulkEntries {H : Type} : List (Lit × DataW H) → Nat
  | [] => 0
  | x :: r => uptoBulkEntry x + uptoBulkEntries r
def uptoBulkEntry {H : Type} : Lit × DataW H → Nat
  | (.string bytes, d) => bytes.length + uptoBulk d + 1
  | (_, d) => uptoBulk d + 1
 end
def uptoSmall : (H : Type) → List (DataW H) → Bool := fun _ ds => decide (uptoBulkAll ds ≤ 1048576)
def OpenSpec.upto (s : _root_.Go.ChangeSpec) : _root_.Go.OpenSpec := { _root_.Go.OpenSpec.ofChange s with cond := some uptoSmall }

/-- 'laws.FnExactRootBy', WHERE WHAT IT READS IS OF BULK AT MOST 1048576: true; the input reads as it did. -/
def fnExactRootByUptoRow : OpenClaim := { program := "ytmcaglkbohoclaa", sum := "e6591a35543be892d2153b5f8500969358e5f7ffab558953690fe504832e569a", func := "loop.example/g00074/laws.FnExactRootBy", spec := "fnExactRootBy", inPlace := ["internal/abi.NoEscape", "internal/bytealg.MakeNoZero"], recurses := true, apart := false, narrowed := true }
def FnExactRootByUptoSaid : Prop := fnExactRootByUptoRow.holds Try.pinned (OpenSpec.upto fnExactRootBySpec)

/-- 'laws.FnExactCheckIn', WHERE WHAT IT READS IS OF BULK AT MOST 1048576: true; the input reads as it did. -/
def fnExactCheckInUptoRow : OpenClaim := { program := "ytmcaglkbohoclaa", sum := "e6591a35543be892d2153b5f8500969358e5f7ffab558953690fe504832e569a", func := "loop.example/g00074/laws.FnExactCheckIn", spec := "fnExactCheckIn", inPlace := ["internal/abi.NoEscape", "internal/bytealg.MakeNoZero"], recurses := true, apart := false, narrowed := true }
def FnExactCheckInUptoSaid : Prop := fnExactCheckInUptoRow.holds Try.pinned (OpenSpec.upto fnExactCheckInSpec)

/-- 'laws.FnExactInclusion', WHERE WHAT IT READS IS OF BULK AT MOST 1048576: true; the input reads as it did. -/
def fnExactInclusionUptoRow : OpenClaim := { program := "ytmcaglkbohoclaa", sum := "e6591a35543be892d2153b5f8500969358e5f7ffab558953690fe504832e569a", func := "loop.example/g00074/laws.FnExactInclusion", spec := "fnExactInclusion", inPlace := ["internal/abi.NoEscape", "internal/bytealg.MakeNoZero"], recurses := true, apart := false, narrowed := true }
def FnExactInclusionUptoSaid : Prop := fnExactInclusionUptoRow.holds Try.pinned (OpenSpec.upto fnExactInclusionSpec)

/-- 'laws.FnExactPartRoot', WHERE WHAT IT READS IS OF BULK AT MOST 1048576: true; the input reads as it did. -/
def fnExactPartRootUptoRow : OpenClaim := { program := "ytmcaglkbohoclaa", sum := "e6591a35543be892d2153b5f8500969358e5f7ffab558953690fe504832e569a", func := "loop.example/g00074/laws.FnExactPartRoot", spec := "fnExactPartRoot", inPlace := ["internal/abi.NoEscape", "internal/bytealg.MakeNoZero"], recurses := true, apart := false, narrowed := true }
def FnExactPartRootUptoSaid : Prop := fnExactPartRootUptoRow.holds Try.pinned (OpenSpec.upto fnExactPartRootSpec)

/-- 'laws.FnExactRootOf', WHERE WHAT IT READS IS OF BULK AT MOST 1048576: true; the input reads as it did. -/
def fnExactRootOfUptoRow : OpenClaim := { program := "ytmcaglkbohoclaa", sum := "e6591a35543be892d2153b5f8500969358e5f7ffab558953690fe504832e569a", func := "loop.example/g00074/laws.FnExactRootOf", spec := "fnExactRootOf", inPlace := ["internal/abi.NoEscape", "internal/bytealg.MakeNoZero"], recurses := true, apart := false, narrowed := true }
def FnExactRootOfUptoSaid : Prop := fnExactRootOfUptoRow.holds Try.pinned (OpenSpec.upto fnExactRootOfSpec)

/-- 'laws.FnExactRangeRoot', WHERE WHAT IT READS IS OF BULK AT MOST 1048576: true; the input reads as it did. -/
def fnExactRangeRootUptoRow : OpenClaim := { program := "ytmcaglkbohoclaa", sum := "e6591a35543be892d2153b5f8500969358e5f7ffab558953690fe504832e569a", func := "loop.example/g00074/laws.FnExactRangeRoot", spec := "fnExactRangeRoot", inPlace := ["internal/abi.NoEscape", "internal/bytealg.MakeNoZero"], apart := false, narrowed := true }
def FnExactRangeRootUptoSaid : Prop := fnExactRangeRootUptoRow.holds Try.pinned (OpenSpec.upto fnExactRangeRootSpec)

end Rows
end Go.Proofs.Ytmcaglkbohoclaa
