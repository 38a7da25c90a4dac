/-
  No cell of these rows narrows 'for every input' (looked for: loops, veiled, ifaces, maps, wideKeys, modest, calm, conditions, laid).
  DERIVED. THE GIVEN ROWS OF THIS SEAT. 6 by the template 'for every input the law returns true; each argument reads behind the call as it read before'; 0 by the template 'total and deterministic' (their statements: YtgkeljmffoebeaaTotals.lean).
  GIVEN WITH THE SEED: the statements are not yours to turn. If you find one false, say at which input.
  Laid BY PROGRAM, IN A SANDBOX (cutbox-rows.mjs): the forced cells as the released guide's own fill.sh prints them over the translation d702ecdd8fc43991… (all of the seat's roots in one cut). By AI agents, Wed Nov 11 2026. No macro, syntax, notation, axiom, sorry.
-/
import Derived.Test.YtgkeljmffoebeaaChecked
import GoSem.Claim
import GoSem.ClaimJoined
import GoSem.ClaimMapViews
import Derived.JoinedTies
import Derived.KernelRfl
namespace Go.Proofs.Ytgkeljmffoebeaa
/- THE CELL 'sum', in the pinned program and in every row, IS THE sha256 OF THE DUMP (.gsa) THAT YtgkeljmffoebeaaProg.lean LOADS. Nothing in Lean hashes anything: it is a label: what it is worth is what the hold of that sum in a sandbox is worth. -/
noncomputable def Try.pinned : Pinned := { name := "ytgkeljmffoebeaa", sum := "d702ecdd8fc43991df60e71447ebbd159bb19a43c73d211601a4d80b0e054836", checked := Try.checked }
namespace Rows
def none {H : Type} : Left H := { results := [], args := [] }

/-- 'laws.FnExactConstants': WHATEVER THE INPUT: true; the input reads as it did. -/
def fnExactConstantsSpec : ChangeSpec := { name := "fnExactConstants", fn := fun _ => fun
  | [] => { results := [.lit (.bool true)], args := [] }
  | _ => none }
def fnExactConstantsRow : OpenClaim := { program := "ytgkeljmffoebeaa", sum := "d702ecdd8fc43991df60e71447ebbd159bb19a43c73d211601a4d80b0e054836", func := "loop.example/g00074/laws.FnExactConstants", spec := "fnExactConstants", apart := false }
def FnExactConstantsSaid : Prop := fnExactConstantsRow.holds Try.pinned (OpenSpec.ofChange fnExactConstantsSpec)

/-- ITS FALSE NEIGHBOUR: 'it returns false'. Refute it at one input. -/
def fnExactConstantsWrong : ChangeSpec := { name := "fnExactConstants", fn := fun _ => fun
  | [] => { results := [.lit (.bool false)], args := [] }
  | _ => none }
def FnExactConstantsWrongFalsely : Prop := fnExactConstantsRow.holds Try.pinned (OpenSpec.ofChange fnExactConstantsWrong)

/-- 'laws.FnExactConstant': WHATEVER THE INPUT: true; the input reads as it did. -/
def fnExactConstantSpec : ChangeSpec := { name := "fnExactConstant", fn := fun _ => fun
  | [d] => { results := [.lit (.bool true)], args := [d] }
  | _ => none }
def fnExactConstantRow : OpenClaim := { program := "ytgkeljmffoebeaa", sum := "d702ecdd8fc43991df60e71447ebbd159bb19a43c73d211601a4d80b0e054836", func := "loop.example/g00074/laws.FnExactConstant", spec := "fnExactConstant", apart := false }
def FnExactConstantSaid : Prop := fnExactConstantRow.holds Try.pinned (OpenSpec.ofChange fnExactConstantSpec)

/-- ITS FALSE NEIGHBOUR: 'it returns false'. Refute it at one input. -/
def fnExactConstantWrong : ChangeSpec := { name := "fnExactConstant", fn := fun _ => fun
  | [d] => { results := [.lit (.bool false)], args := [d] }
  | _ => none }
def FnExactConstantWrongFalsely : Prop := fnExactConstantRow.holds Try.pinned (OpenSpec.ofChange fnExactConstantWrong)

/-- 'laws.FnExactWordText': WHATEVER THE INPUT: true; the input reads as it did. -/
def fnExactWordTextSpec : ChangeSpec := { name := "fnExactWordText", fn := fun _ => fun
  | [d] => { results := [.lit (.bool true)], args := [d] }
  | _ => none }
def fnExactWordTextRow : OpenClaim := { program := "ytgkeljmffoebeaa", sum := "d702ecdd8fc43991df60e71447ebbd159bb19a43c73d211601a4d80b0e054836", func := "loop.example/g00074/laws.FnExactWordText", spec := "fnExactWordText", apart := false }
def FnExactWordTextSaid : Prop := fnExactWordTextRow.holds Try.pinned (OpenSpec.ofChange fnExactWordTextSpec)

/-- ITS FALSE NEIGHBOUR: 'it returns false'. Refute it at one input. -/
def fnExactWordTextWrong : ChangeSpec := { name := "fnExactWordText", fn := fun _ => fun
  | [d] => { results := [.lit (.bool false)], args := [d] }
  | _ => none }
def FnExactWordTextWrongFalsely : Prop := fnExactWordTextRow.holds Try.pinned (OpenSpec.ofChange fnExactWordTextWrong)

/-- 'laws.FnExactWordAt': WHATEVER THE INPUT: true; the input reads as it did. -/
def fnExactWordAtSpec : ChangeSpec := { name := "fnExactWordAt", fn := fun _ => fun
  | [d1, d2] => { results := [.lit (.bool true)], args := [d1, d2] }
  | _ => none }
def fnExactWordAtRow : OpenClaim := { program := "ytgkeljmffoebeaa", sum := "d702ecdd8fc43991df60e71447ebbd159bb19a43c73d211601a4d80b0e054836", func := "loop.example/g00074/laws.FnExactWordAt", spec := "fnExactWordAt", apart := false }
def FnExactWordAtSaid : Prop := fnExactWordAtRow.holds Try.pinned (OpenSpec.ofChange fnExactWordAtSpec)

/-- ITS FALSE NEIGHBOUR: 'it returns false'. Refute it at one input. -/
def fnExactWordAtWrong : ChangeSpec := { name := "fnExactWordAt", fn := fun _ => fun
  | [d1, d2] => { results := [.lit (.bool false)], args := [d1, d2] }
  | _ => none }
def FnExactWordAtWrongFalsely : Prop := fnExactWordAtRow.holds Try.pinned (OpenSpec.ofChange fnExactWordAtWrong)

/-- 'laws.FnExactTurn': WHATEVER THE INPUT: true; the input reads as it did. -/
def fnExactTurnSpec : ChangeSpec := { name := "fnExactTurn", fn := fun _ => fun
  | [d1, d2] => { results := [.lit (.bool true)], args := [d1, d2] }
  | _ => none }
def fnExactTurnRow : OpenClaim := { program := "ytgkeljmffoebeaa", sum := "d702ecdd8fc43991df60e71447ebbd159bb19a43c73d211601a4d80b0e054836", func := "loop.example/g00074/laws.FnExactTurn", spec := "fnExactTurn", apart := false }
def FnExactTurnSaid : Prop := fnExactTurnRow.holds Try.pinned (OpenSpec.ofChange fnExactTurnSpec)

/-- ITS FALSE NEIGHBOUR: 'it returns false'. Refute it at one input. -/
def fnExactTurnWrong : ChangeSpec := { name := "fnExactTurn", fn := fun _ => fun
  | [d1, d2] => { results := [.lit (.bool false)], args := [d1, d2] }
  | _ => none }
def FnExactTurnWrongFalsely : Prop := fnExactTurnRow.holds Try.pinned (OpenSpec.ofChange fnExactTurnWrong)

/-- 'laws.FnExactNodesMade': WHATEVER THE INPUT: true; the input reads as it did. -/
def fnExactNodesMadeSpec : ChangeSpec := { name := "fnExactNodesMade", fn := fun _ => fun
  | [d] => { results := [.lit (.bool true)], args := [d] }
  | _ => none }
def fnExactNodesMadeRow : OpenClaim := { program := "ytgkeljmffoebeaa", sum := "d702ecdd8fc43991df60e71447ebbd159bb19a43c73d211601a4d80b0e054836", func := "loop.example/g00074/laws.FnExactNodesMade", spec := "fnExactNodesMade", apart := false }
def FnExactNodesMadeSaid : Prop := fnExactNodesMadeRow.holds Try.pinned (OpenSpec.ofChange fnExactNodesMadeSpec)

/-- ITS FALSE NEIGHBOUR: 'it returns false'. Refute it at one input. -/
def fnExactNodesMadeWrong : ChangeSpec := { name := "fnExactNodesMade", fn := fun _ => fun
  | [d] => { results := [.lit (.bool false)], args := [d] }
  | _ => none }
def FnExactNodesMadeWrongFalsely : Prop := fnExactNodesMadeRow.holds Try.pinned (OpenSpec.ofChange fnExactNodesMadeWrong)

/- THE SECOND FORM. 'bulk': how many values and letters a reading holds, each counted each time it is reached (what is shared counts as often as it is met; a slice's spare places count too). A statement '..UptoSaid' is the law's where the arguments, and the package variables that the reading takes, are together of bulk at most 1048576: NARROWER than '..Said'. Prove '..Said' where nothing that the law and all that it calls make is longer than what came in: it says more and counts as full. Else prove '..UptoSaid'. A law counts once. -/
mutual
def uptoBulk {H : Type} : DataW H → Nat
  | .lit (.string bytes) => bytes.length + 1
  | .lit _ => 1
  | .nil => 1
  | .ptr d => uptoBulk d + 1
  | .slice elems spare => uptoBulkAll elems + uptoBulkAll spare + 1
  | .agg parts => uptoBulkAll parts + 1
  | .iface _ d => uptoBulk d + 1
  | .map entries => uptoBulkEntries entries + 1
  | .held _ => 1
def uptoBulkAll {H : Type} : List (DataW H) → Nat
  | [] => 0
  | d :: r => uptoBulk d + uptoBulkAll r
def uptoBulkEntries {H : Type} : List (Lit × DataW H) → Nat
  | [] => 0
  | x :: r => uptoBulkEntry x + uptoBulkEntries r
def uptoBulkEntry {H : Type} : Lit × DataW H → Nat
  | (.string bytes, d) => bytes.length + uptoBulk d + 1
  | (_, d) => uptoBulk d + 1
 end
def uptoSmall : (H : Type) → List (DataW H) → Bool := fun _ ds => decide (uptoBulkAll ds ≤ 1048576)
def OpenSpec.upto (s : _root_.Go.ChangeSpec) : _root_.Go.OpenSpec := { _root_.Go.OpenSpec.ofChange s with cond := some uptoSmall }

/-- 'laws.FnExactConstants', WHERE WHAT IT READS IS OF BULK AT MOST 1048576: true; the input reads as it did. -/
def fnExactConstantsUptoRow : OpenClaim := { program := "ytgkeljmffoebeaa", sum := "d702ecdd8fc43991df60e71447ebbd159bb19a43c73d211601a4d80b0e054836", func := "loop.example/g00074/laws.FnExactConstants", spec := "fnExactConstants", apart := false, narrowed := true }
def FnExactConstantsUptoSaid : Prop := fnExactConstantsUptoRow.holds Try.pinned (OpenSpec.upto fnExactConstantsSpec)

/-- 'laws.FnExactConstant', WHERE WHAT IT READS IS OF BULK AT MOST 1048576: true; the input reads as it did. -/
def fnExactConstantUptoRow : OpenClaim := { program := "ytgkeljmffoebeaa", sum := "d702ecdd8fc43991df60e71447ebbd159bb19a43c73d211601a4d80b0e054836", func := "loop.example/g00074/laws.FnExactConstant", spec := "fnExactConstant", apart := false, narrowed := true }
def FnExactConstantUptoSaid : Prop := fnExactConstantUptoRow.holds Try.pinned (OpenSpec.upto fnExactConstantSpec)

/-- 'laws.FnExactWordText', WHERE WHAT IT READS IS OF BULK AT MOST 1048576: true; the input reads as it did. -/
def fnExactWordTextUptoRow : OpenClaim := { program := "ytgkeljmffoebeaa", sum := "d702ecdd8fc43991df60e71447ebbd159bb19a43c73d211601a4d80b0e054836", func := "loop.example/g00074/laws.FnExactWordText", spec := "fnExactWordText", apart := false, narrowed := true }
def FnExactWordTextUptoSaid : Prop := fnExactWordTextUptoRow.holds Try.pinned (OpenSpec.upto fnExactWordTextSpec)

/-- 'laws.FnExactWordAt', WHERE WHAT IT READS IS OF BULK AT MOST 1048576: true; the input reads as it did. -/
def fnExactWordAtUptoRow : OpenClaim := { program := "ytgkeljmffoebeaa", sum := "d702ecdd8fc43991df60e71447ebbd159bb19a43c73d211601a4d80b0e054836", func := "loop.example/g00074/laws.FnExactWordAt", spec := "fnExactWordAt", apart := false, narrowed := true }
def FnExactWordAtUptoSaid : Prop := fnExactWordAtUptoRow.holds Try.pinned (OpenSpec.upto fnExactWordAtSpec)

/-- 'laws.FnExactTurn', WHERE WHAT IT READS IS OF BULK AT MOST 1048576: true; the input reads as it did. -/
def fnExactTurnUptoRow : OpenClaim := { program := "ytgkeljmffoebeaa", sum := "d702ecdd8fc43991df60e71447ebbd159bb19a43c73d211601a4d80b0e054836", func := "loop.example/g00074/laws.FnExactTurn", spec := "fnExactTurn", apart := false, narrowed := true }
def FnExactTurnUptoSaid : Prop := fnExactTurnUptoRow.holds Try.pinned (OpenSpec.upto fnExactTurnSpec)

/-- 'laws.FnExactNodesMade', WHERE WHAT IT READS IS OF BULK AT MOST 1048576: true; the input reads as it did. -/
def fnExactNodesMadeUptoRow : OpenClaim := { program := "ytgkeljmffoebeaa", sum := "d702ecdd8fc43991df60e71447ebbd159bb19a43c73d211601a4d80b0e054836", func := "loop.example/g00074/laws.FnExactNodesMade", spec := "fnExactNodesMade", apart := false, narrowed := true }
def FnExactNodesMadeUptoSaid : Prop := fnExactNodesMadeUptoRow.holds Try.pinned (OpenSpec.upto fnExactNodesMadeSpec)

end Rows
end Go.Proofs.Ytgkeljmffoebeaa
