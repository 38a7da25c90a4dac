/-
  No cell of these rows narrows 'for every input' (looked for: loops, veiled, ifaces, maps, wideKeys, modest, calm, conditions, laid).
  DERIVED. THE GIVEN ROWS OF THIS SEAT. 7 by the template 'for every input the law returns true; each argument reads behind the call as it read before'; 0 by the template 'total and deterministic' (their statements: YtcnhmidiakojhaaTotals.lean).
  GIVEN WITH THE SEED: the statements are not yours to turn. If you find one false, say at which input.
  Laid BY PROGRAM, IN A SANDBOX (cutbox-rows.mjs): the forced cells as the released guide's own fill.sh prints them over the translation 31564d50fcf50547… (all of the seat's roots in one cut). By AI agents, Wed Nov 11 2026. No macro, syntax, notation, axiom, sorry.
-/
import Derived.Test.YtcnhmidiakojhaaChecked
import GoSem.Claim
import GoSem.ClaimJoined
import GoSem.ClaimMapViews
import Derived.JoinedTies
import Derived.KernelRfl
namespace Go.Proofs.Ytcnhmidiakojhaa
/- THE CELL 'sum', in the pinned program and in every row, IS THE sha256 OF THE DUMP (.gsa) THAT YtcnhmidiakojhaaProg.lean LOADS. Nothing in Lean hashes anything: it is a label: what it is worth is what the hold of that sum in a sandbox is worth. -/
noncomputable def Try.pinned : Pinned := { name := "ytcnhmidiakojhaa", sum := "31564d50fcf5054780ac1e53e7cf822418a6d8d7479ad3d8f6a215e1486f1c2d", checked := Try.checked }
namespace Rows
def none {H : Type} : Left H := { results := [], args := [] }

/-- 'laws.FnExactFeedMore': WHATEVER THE INPUT: true; the input reads as it did. -/
def fnExactFeedMoreSpec : ChangeSpec := { name := "fnExactFeedMore", fn := fun _ => fun
  | [d1, d2] => { results := [.lit (.bool true)], args := [d1, d2] }
  | _ => none }
def fnExactFeedMoreRow : OpenClaim := { program := "ytcnhmidiakojhaa", sum := "31564d50fcf5054780ac1e53e7cf822418a6d8d7479ad3d8f6a215e1486f1c2d", func := "loop.example/g00074/laws.FnExactFeedMore", spec := "fnExactFeedMore", apart := false }
def FnExactFeedMoreSaid : Prop := fnExactFeedMoreRow.holds Try.pinned (OpenSpec.ofChange fnExactFeedMoreSpec)

/-- ITS FALSE NEIGHBOUR: 'it returns false'. Refute it at one input. -/
def fnExactFeedMoreWrong : ChangeSpec := { name := "fnExactFeedMore", fn := fun _ => fun
  | [d1, d2] => { results := [.lit (.bool false)], args := [d1, d2] }
  | _ => none }
def FnExactFeedMoreWrongFalsely : Prop := fnExactFeedMoreRow.holds Try.pinned (OpenSpec.ofChange fnExactFeedMoreWrong)

/-- 'laws.FnExactDigest': WHATEVER THE INPUT: true; the input reads as it did. -/
def fnExactDigestSpec : ChangeSpec := { name := "fnExactDigest", fn := fun _ => fun
  | [d1, d2, d3] => { results := [.lit (.bool true)], args := [d1, d2, d3] }
  | _ => none }
def fnExactDigestRow : OpenClaim := { program := "ytcnhmidiakojhaa", sum := "31564d50fcf5054780ac1e53e7cf822418a6d8d7479ad3d8f6a215e1486f1c2d", func := "loop.example/g00074/laws.FnExactDigest", spec := "fnExactDigest", inPlace := ["internal/abi.NoEscape", "internal/bytealg.MakeNoZero"], apart := false }
def FnExactDigestSaid : Prop := fnExactDigestRow.holds Try.pinned (OpenSpec.ofChange fnExactDigestSpec)

/-- ITS FALSE NEIGHBOUR: 'it returns false'. Refute it at one input. -/
def fnExactDigestWrong : ChangeSpec := { name := "fnExactDigest", fn := fun _ => fun
  | [d1, d2, d3] => { results := [.lit (.bool false)], args := [d1, d2, d3] }
  | _ => none }
def FnExactDigestWrongFalsely : Prop := fnExactDigestRow.holds Try.pinned (OpenSpec.ofChange fnExactDigestWrong)

/-- 'laws.FnExactEmptyRoot': WHATEVER THE INPUT: true; the input reads as it did. -/
def fnExactEmptyRootSpec : ChangeSpec := { name := "fnExactEmptyRoot", fn := fun _ => fun
  | [d] => { results := [.lit (.bool true)], args := [d] }
  | _ => none }
def fnExactEmptyRootRow : OpenClaim := { program := "ytcnhmidiakojhaa", sum := "31564d50fcf5054780ac1e53e7cf822418a6d8d7479ad3d8f6a215e1486f1c2d", func := "loop.example/g00074/laws.FnExactEmptyRoot", spec := "fnExactEmptyRoot", inPlace := ["internal/abi.NoEscape", "internal/bytealg.MakeNoZero"], apart := false }
def FnExactEmptyRootSaid : Prop := fnExactEmptyRootRow.holds Try.pinned (OpenSpec.ofChange fnExactEmptyRootSpec)

/-- ITS FALSE NEIGHBOUR: 'it returns false'. Refute it at one input. -/
def fnExactEmptyRootWrong : ChangeSpec := { name := "fnExactEmptyRoot", fn := fun _ => fun
  | [d] => { results := [.lit (.bool false)], args := [d] }
  | _ => none }
def FnExactEmptyRootWrongFalsely : Prop := fnExactEmptyRootRow.holds Try.pinned (OpenSpec.ofChange fnExactEmptyRootWrong)

/-- 'laws.FnExactNodeHash': WHATEVER THE INPUT: true; the input reads as it did. -/
def fnExactNodeHashSpec : ChangeSpec := { name := "fnExactNodeHash", fn := fun _ => fun
  | [d1, d2, d3] => { results := [.lit (.bool true)], args := [d1, d2, d3] }
  | _ => none }
def fnExactNodeHashRow : OpenClaim := { program := "ytcnhmidiakojhaa", sum := "31564d50fcf5054780ac1e53e7cf822418a6d8d7479ad3d8f6a215e1486f1c2d", func := "loop.example/g00074/laws.FnExactNodeHash", spec := "fnExactNodeHash", inPlace := ["internal/abi.NoEscape", "internal/bytealg.MakeNoZero"], apart := false }
def FnExactNodeHashSaid : Prop := fnExactNodeHashRow.holds Try.pinned (OpenSpec.ofChange fnExactNodeHashSpec)

/-- ITS FALSE NEIGHBOUR: 'it returns false'. Refute it at one input. -/
def fnExactNodeHashWrong : ChangeSpec := { name := "fnExactNodeHash", fn := fun _ => fun
  | [d1, d2, d3] => { results := [.lit (.bool false)], args := [d1, d2, d3] }
  | _ => none }
def FnExactNodeHashWrongFalsely : Prop := fnExactNodeHashRow.holds Try.pinned (OpenSpec.ofChange fnExactNodeHashWrong)

/-- 'laws.FnExactFeedEnd': WHATEVER THE INPUT: true; the input reads as it did. -/
def fnExactFeedEndSpec : ChangeSpec := { name := "fnExactFeedEnd", fn := fun _ => fun
  | [d] => { results := [.lit (.bool true)], args := [d] }
  | _ => none }
def fnExactFeedEndRow : OpenClaim := { program := "ytcnhmidiakojhaa", sum := "31564d50fcf5054780ac1e53e7cf822418a6d8d7479ad3d8f6a215e1486f1c2d", func := "loop.example/g00074/laws.FnExactFeedEnd", spec := "fnExactFeedEnd", inPlace := ["internal/abi.NoEscape", "internal/bytealg.MakeNoZero"], apart := false }
def FnExactFeedEndSaid : Prop := fnExactFeedEndRow.holds Try.pinned (OpenSpec.ofChange fnExactFeedEndSpec)

/-- ITS FALSE NEIGHBOUR: 'it returns false'. Refute it at one input. -/
def fnExactFeedEndWrong : ChangeSpec := { name := "fnExactFeedEnd", fn := fun _ => fun
  | [d] => { results := [.lit (.bool false)], args := [d] }
  | _ => none }
def FnExactFeedEndWrongFalsely : Prop := fnExactFeedEndRow.holds Try.pinned (OpenSpec.ofChange fnExactFeedEndWrong)

/-- 'laws.FnExactReceiptHash': WHATEVER THE INPUT: true; the input reads as it did. -/
def fnExactReceiptHashSpec : ChangeSpec := { name := "fnExactReceiptHash", fn := fun _ => fun
  | [d1, d2] => { results := [.lit (.bool true)], args := [d1, d2] }
  | _ => none }
def fnExactReceiptHashRow : OpenClaim := { program := "ytcnhmidiakojhaa", sum := "31564d50fcf5054780ac1e53e7cf822418a6d8d7479ad3d8f6a215e1486f1c2d", func := "loop.example/g00074/laws.FnExactReceiptHash", spec := "fnExactReceiptHash", inPlace := ["internal/abi.NoEscape", "internal/bytealg.MakeNoZero"], apart := false }
def FnExactReceiptHashSaid : Prop := fnExactReceiptHashRow.holds Try.pinned (OpenSpec.ofChange fnExactReceiptHashSpec)

/-- ITS FALSE NEIGHBOUR: 'it returns false'. Refute it at one input. -/
def fnExactReceiptHashWrong : ChangeSpec := { name := "fnExactReceiptHash", fn := fun _ => fun
  | [d1, d2] => { results := [.lit (.bool false)], args := [d1, d2] }
  | _ => none }
def FnExactReceiptHashWrongFalsely : Prop := fnExactReceiptHashRow.holds Try.pinned (OpenSpec.ofChange fnExactReceiptHashWrong)

/-- 'laws.FnExactLeafHash': WHATEVER THE INPUT: true; the input reads as it did. -/
def fnExactLeafHashSpec : ChangeSpec := { name := "fnExactLeafHash", fn := fun _ => fun
  | [d1, d2] => { results := [.lit (.bool true)], args := [d1, d2] }
  | _ => none }
def fnExactLeafHashRow : OpenClaim := { program := "ytcnhmidiakojhaa", sum := "31564d50fcf5054780ac1e53e7cf822418a6d8d7479ad3d8f6a215e1486f1c2d", func := "loop.example/g00074/laws.FnExactLeafHash", spec := "fnExactLeafHash", inPlace := ["internal/abi.NoEscape", "internal/bytealg.MakeNoZero"], apart := false }
def FnExactLeafHashSaid : Prop := fnExactLeafHashRow.holds Try.pinned (OpenSpec.ofChange fnExactLeafHashSpec)

/-- ITS FALSE NEIGHBOUR: 'it returns false'. Refute it at one input. -/
def fnExactLeafHashWrong : ChangeSpec := { name := "fnExactLeafHash", fn := fun _ => fun
  | [d1, d2] => { results := [.lit (.bool false)], args := [d1, d2] }
  | _ => none }
def FnExactLeafHashWrongFalsely : Prop := fnExactLeafHashRow.holds Try.pinned (OpenSpec.ofChange fnExactLeafHashWrong)

/- THE SECOND FORM. 'bulk': how many values and letters a reading holds, each counted each time it is reached (what is shared counts as often as it is met; a slice's spare places count too). A statement '..UptoSaid' is the law's where the arguments, and the package variables that the reading takes, are together of bulk at most 1048576: NARROWER than '..Said'. Prove '..Said' where nothing that the law and all that it calls make is longer than what came in: it says more and counts as full. Else prove '..UptoSaid'. A law counts once. -/
mutual
def uptoBulk {H : Type} : DataW H → Nat
  | .lit (.string bytes) => bytes.length + 1
  | .lit _ => 1
  | .nil => 1
  | .ptr d => uptoBulk d + 1
  | .slice elems spare => uptoBulkAll elems + uptoBulkAll spare + 1
  | .agg parts => uptoBulkAll parts + 1
  | .iface _ d => uptoBulk d + 1
  | .map entries => uptoBulkEntries entries + 1
  | .held _ => 1
def uptoBulkAll {H : Type} : List (DataW H) → Nat
  | [] => 0
  | d :: r => uptoBulk d + uptoBulkAll r
def uptoBulkEntries {H : Type} : List (Lit × DataW H) → Nat
  | [] => 0
  | x :: r => uptoBulkEntry x + uptoBulkEntries r
def uptoBulkEntry {H : Type} : Lit × DataW H → Nat
  | (.string bytes, d) => bytes.length + uptoBulk d + 1
  | (_, d) => uptoBulk d + 1
 end
def uptoSmall : (H : Type) → List (DataW H) → Bool := fun _ ds => decide (uptoBulkAll ds ≤ 1048576)
def OpenSpec.upto (s : _root_.Go.ChangeSpec) : _root_.Go.OpenSpec := { _root_.Go.OpenSpec.ofChange s with cond := some uptoSmall }

/-- 'laws.FnExactFeedMore', WHERE WHAT IT READS IS OF BULK AT MOST 1048576: true; the input reads as it did. -/
def fnExactFeedMoreUptoRow : OpenClaim := { program := "ytcnhmidiakojhaa", sum := "31564d50fcf5054780ac1e53e7cf822418a6d8d7479ad3d8f6a215e1486f1c2d", func := "loop.example/g00074/laws.FnExactFeedMore", spec := "fnExactFeedMore", apart := false, narrowed := true }
def FnExactFeedMoreUptoSaid : Prop := fnExactFeedMoreUptoRow.holds Try.pinned (OpenSpec.upto fnExactFeedMoreSpec)

/-- 'laws.FnExactDigest', WHERE WHAT IT READS IS OF BULK AT MOST 1048576: true; the input reads as it did. -/
def fnExactDigestUptoRow : OpenClaim := { program := "ytcnhmidiakojhaa", sum := "31564d50fcf5054780ac1e53e7cf822418a6d8d7479ad3d8f6a215e1486f1c2d", func := "loop.example/g00074/laws.FnExactDigest", spec := "fnExactDigest", inPlace := ["internal/abi.NoEscape", "internal/bytealg.MakeNoZero"], apart := false, narrowed := true }
def FnExactDigestUptoSaid : Prop := fnExactDigestUptoRow.holds Try.pinned (OpenSpec.upto fnExactDigestSpec)

/-- 'laws.FnExactEmptyRoot', WHERE WHAT IT READS IS OF BULK AT MOST 1048576: true; the input reads as it did. -/
def fnExactEmptyRootUptoRow : OpenClaim := { program := "ytcnhmidiakojhaa", sum := "31564d50fcf5054780ac1e53e7cf822418a6d8d7479ad3d8f6a215e1486f1c2d", func := "loop.example/g00074/laws.FnExactEmptyRoot", spec := "fnExactEmptyRoot", inPlace := ["internal/abi.NoEscape", "internal/bytealg.MakeNoZero"], apart := false, narrowed := true }
def FnExactEmptyRootUptoSaid : Prop := fnExactEmptyRootUptoRow.holds Try.pinned (OpenSpec.upto fnExactEmptyRootSpec)

/-- 'laws.FnExactNodeHash', WHERE WHAT IT READS IS OF BULK AT MOST 1048576: true; the input reads as it did. -/
def fnExactNodeHashUptoRow : OpenClaim := { program := "ytcnhmidiakojhaa", sum := "31564d50fcf5054780ac1e53e7cf822418a6d8d7479ad3d8f6a215e1486f1c2d", func := "loop.example/g00074/laws.FnExactNodeHash", spec := "fnExactNodeHash", inPlace := ["internal/abi.NoEscape", "internal/bytealg.MakeNoZero"], apart := false, narrowed := true }
def FnExactNodeHashUptoSaid : Prop := fnExactNodeHashUptoRow.holds Try.pinned (OpenSpec.upto fnExactNodeHashSpec)

/-- 'laws.FnExactFeedEnd', WHERE WHAT IT READS IS OF BULK AT MOST 1048576: true; the input reads as it did. -/
def fnExactFeedEndUptoRow : OpenClaim := { program := "ytcnhmidiakojhaa", sum := "31564d50fcf5054780ac1e53e7cf822418a6d8d7479ad3d8f6a215e1486f1c2d", func := "loop.example/g00074/laws.FnExactFeedEnd", spec := "fnExactFeedEnd", inPlace := ["internal/abi.NoEscape", "internal/bytealg.MakeNoZero"], apart := false, narrowed := true }
def FnExactFeedEndUptoSaid : Prop := fnExactFeedEndUptoRow.holds Try.pinned (OpenSpec.upto fnExactFeedEndSpec)

/-- 'laws.FnExactReceiptHash', WHERE WHAT IT READS IS OF BULK AT MOST 1048576: true; the input reads as it did. -/
def fnExactReceiptHashUptoRow : OpenClaim := { program := "ytcnhmidiakojhaa", sum := "31564d50fcf5054780ac1e53e7cf822418a6d8d7479ad3d8f6a215e1486f1c2d", func := "loop.example/g00074/laws.FnExactReceiptHash", spec := "fnExactReceiptHash", inPlace := ["internal/abi.NoEscape", "internal/bytealg.MakeNoZero"], apart := false, narrowed := true }
def FnExactReceiptHashUptoSaid : Prop := fnExactReceiptHashUptoRow.holds Try.pinned (OpenSpec.upto fnExactReceiptHashSpec)

/-- 'laws.FnExactLeafHash', WHERE WHAT IT READS IS OF BULK AT MOST 1048576: true; the input reads as it did. -/
def fnExactLeafHashUptoRow : OpenClaim := { program := "ytcnhmidiakojhaa", sum := "31564d50fcf5054780ac1e53e7cf822418a6d8d7479ad3d8f6a215e1486f1c2d", func := "loop.example/g00074/laws.FnExactLeafHash", spec := "fnExactLeafHash", inPlace := ["internal/abi.NoEscape", "internal/bytealg.MakeNoZero"], apart := false, narrowed := true }
def FnExactLeafHashUptoSaid : Prop := fnExactLeafHashUptoRow.holds Try.pinned (OpenSpec.upto fnExactLeafHashSpec)

end Rows
end Go.Proofs.Ytcnhmidiakojhaa
