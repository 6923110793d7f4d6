/-
  No cell of these rows narrows 'for every input' (looked for: loops, veiled, ifaces, maps, wideKeys, modest, calm, conditions, laid).
  DERIVED. THE GIVEN ROWS OF THIS SEAT. 6 by the template 'for every input the law returns true; each argument reads behind the call as it read before'; 0 by the template 'total and deterministic' (their statements: YtfnmepnbbeijhaaTotals.lean).
  GIVEN WITH THE SEED: the statements are not yours to turn. If you find one false, say at which input.
  Laid BY PROGRAM, IN A SANDBOX (cutbox-rows.mjs): the forced cells as the released guide's own fill.sh prints them over the translation 41c394dae72c3286… (all of the seat's roots in one cut). By AI agents, Wed Nov 11 2026. No macro, syntax, notation, axiom, sorry.
-/
import Derived.Test.YtfnmepnbbeijhaaChecked
import GoSem.Claim
import GoSem.ClaimJoined
import GoSem.ClaimMapViews
import Derived.JoinedTies
import Derived.KernelRfl
namespace Go.Proofs.Ytfnmepnbbeijhaa
/- THE CELL 'sum', in the pinned program and in every row, IS THE sha256 OF THE DUMP (.gsa) THAT YtfnmepnbbeijhaaProg.lean LOADS. Nothing in Lean hashes anything: it is a label: what it is worth is what the hold of that sum in a sandbox is worth. -/
noncomputable def Try.pinned : Pinned := { name := "ytfnmepnbbeijhaa", sum := "41c394dae72c3286397e8ce63c47d0ba2be534f5201325f8a47ed83787d446ca", checked := Try.checked }
namespace Rows
def none {H : Type} : Left H := { results := [], args := [] }

/-- 'tillagelaw.Names': WHATEVER THE INPUT: true; the input reads as it did. -/
def namesSpec : ChangeSpec := { name := "names", fn := fun _ => fun
  | [] => { results := [.lit (.bool true)], args := [] }
  | _ => none }
def namesRow : OpenClaim := { program := "ytfnmepnbbeijhaa", sum := "41c394dae72c3286397e8ce63c47d0ba2be534f5201325f8a47ed83787d446ca", func := "tillage/tillagelaw.Names", spec := "names", apart := false }
def NamesSaid : Prop := namesRow.holds Try.pinned (OpenSpec.ofChange namesSpec)

/-- ITS FALSE NEIGHBOUR: 'it returns false'. Refute it at one input. -/
def namesWrong : ChangeSpec := { name := "names", fn := fun _ => fun
  | [] => { results := [.lit (.bool false)], args := [] }
  | _ => none }
def NamesWrongFalsely : Prop := namesRow.holds Try.pinned (OpenSpec.ofChange namesWrong)

/-- 'tillagelaw.ValueNumbers': WHATEVER THE INPUT: true; the input reads as it did. -/
def valueNumbersSpec : ChangeSpec := { name := "valueNumbers", fn := fun _ => fun
  | [d] => { results := [.lit (.bool true)], args := [d] }
  | _ => none }
def valueNumbersRow : OpenClaim := { program := "ytfnmepnbbeijhaa", sum := "41c394dae72c3286397e8ce63c47d0ba2be534f5201325f8a47ed83787d446ca", func := "tillage/tillagelaw.ValueNumbers", spec := "valueNumbers", apart := false }
def ValueNumbersSaid : Prop := valueNumbersRow.holds Try.pinned (OpenSpec.ofChange valueNumbersSpec)

/-- ITS FALSE NEIGHBOUR: 'it returns false'. Refute it at one input. -/
def valueNumbersWrong : ChangeSpec := { name := "valueNumbers", fn := fun _ => fun
  | [d] => { results := [.lit (.bool false)], args := [d] }
  | _ => none }
def ValueNumbersWrongFalsely : Prop := valueNumbersRow.holds Try.pinned (OpenSpec.ofChange valueNumbersWrong)

/-- 'tillagelaw.ValueTexts': WHATEVER THE INPUT: true; the input reads as it did. -/
def valueTextsSpec : ChangeSpec := { name := "valueTexts", fn := fun _ => fun
  | [d] => { results := [.lit (.bool true)], args := [d] }
  | _ => none }
def valueTextsRow : OpenClaim := { program := "ytfnmepnbbeijhaa", sum := "41c394dae72c3286397e8ce63c47d0ba2be534f5201325f8a47ed83787d446ca", func := "tillage/tillagelaw.ValueTexts", spec := "valueTexts", apart := false }
def ValueTextsSaid : Prop := valueTextsRow.holds Try.pinned (OpenSpec.ofChange valueTextsSpec)

/-- ITS FALSE NEIGHBOUR: 'it returns false'. Refute it at one input. -/
def valueTextsWrong : ChangeSpec := { name := "valueTexts", fn := fun _ => fun
  | [d] => { results := [.lit (.bool false)], args := [d] }
  | _ => none }
def ValueTextsWrongFalsely : Prop := valueTextsRow.holds Try.pinned (OpenSpec.ofChange valueTextsWrong)

/-- 'tillagelaw.ValueTrues': WHATEVER THE INPUT: true; the input reads as it did. -/
def valueTruesSpec : ChangeSpec := { name := "valueTrues", fn := fun _ => fun
  | [d] => { results := [.lit (.bool true)], args := [d] }
  | _ => none }
def valueTruesRow : OpenClaim := { program := "ytfnmepnbbeijhaa", sum := "41c394dae72c3286397e8ce63c47d0ba2be534f5201325f8a47ed83787d446ca", func := "tillage/tillagelaw.ValueTrues", spec := "valueTrues", apart := false }
def ValueTruesSaid : Prop := valueTruesRow.holds Try.pinned (OpenSpec.ofChange valueTruesSpec)

/-- ITS FALSE NEIGHBOUR: 'it returns false'. Refute it at one input. -/
def valueTruesWrong : ChangeSpec := { name := "valueTrues", fn := fun _ => fun
  | [d] => { results := [.lit (.bool false)], args := [d] }
  | _ => none }
def ValueTruesWrongFalsely : Prop := valueTruesRow.holds Try.pinned (OpenSpec.ofChange valueTruesWrong)

/-- 'tillagelaw.ValueChecks': WHATEVER THE INPUT: true; the input reads as it did. -/
def valueChecksSpec : ChangeSpec := { name := "valueChecks", fn := fun _ => fun
  | [d] => { results := [.lit (.bool true)], args := [d] }
  | _ => none }
def valueChecksRow : OpenClaim := { program := "ytfnmepnbbeijhaa", sum := "41c394dae72c3286397e8ce63c47d0ba2be534f5201325f8a47ed83787d446ca", func := "tillage/tillagelaw.ValueChecks", spec := "valueChecks", apart := false }
def ValueChecksSaid : Prop := valueChecksRow.holds Try.pinned (OpenSpec.ofChange valueChecksSpec)

/-- ITS FALSE NEIGHBOUR: 'it returns false'. Refute it at one input. -/
def valueChecksWrong : ChangeSpec := { name := "valueChecks", fn := fun _ => fun
  | [d] => { results := [.lit (.bool false)], args := [d] }
  | _ => none }
def ValueChecksWrongFalsely : Prop := valueChecksRow.holds Try.pinned (OpenSpec.ofChange valueChecksWrong)

/-- 'tillagelaw.EvalWorlds': WHATEVER THE INPUT: true; the input reads as it did. -/
def evalWorldsSpec : ChangeSpec := { name := "evalWorlds", fn := fun _ => fun
  | [d1, d2] => { results := [.lit (.bool true)], args := [d1, d2] }
  | _ => none }
def evalWorldsRow : OpenClaim := { program := "ytfnmepnbbeijhaa", sum := "41c394dae72c3286397e8ce63c47d0ba2be534f5201325f8a47ed83787d446ca", func := "tillage/tillagelaw.EvalWorlds", spec := "evalWorlds", inPlace := ["internal/bytealg.IndexByteString"], unfollowed := true, recurses := true, apart := false }
def EvalWorldsSaid : Prop := evalWorldsRow.holds Try.pinned (OpenSpec.ofChange evalWorldsSpec)

/-- ITS FALSE NEIGHBOUR: 'it returns false'. Refute it at one input. -/
def evalWorldsWrong : ChangeSpec := { name := "evalWorlds", fn := fun _ => fun
  | [d1, d2] => { results := [.lit (.bool false)], args := [d1, d2] }
  | _ => none }
def EvalWorldsWrongFalsely : Prop := evalWorldsRow.holds Try.pinned (OpenSpec.ofChange evalWorldsWrong)

/- THE SECOND FORM. 'bulk': how many values and letters a reading holds, each counted each time it is reached (what is shared counts as often as it is met; a slice's spare places count too). A statement '..UptoSaid' is the law's where the arguments, and the package variables that the reading takes, are together of bulk at most 1048576: NARROWER than '..Said'. Prove '..Said' where nothing that the law and all that it calls make is longer than what came in: it says more and counts as full. Else prove '..UptoSaid'. A law counts once. -/
mutual
def uptoBulk {H : Type} : DataW H → Nat
  | .lit (.string bytes) => bytes.length + 1
  | .lit _ => 1
  | .nil => 1
  | .ptr d => uptoBulk d + 1
  | .slice elems spare => uptoBulkAll elems + uptoBulkAll spare + 1
  | .agg parts => uptoBulkAll parts + 1
  | .iface _ d => uptoBulk d + 1
  | .map entries => uptoBulkEntries entries + 1
  | .held _ => 1
def uptoBulkAll {H : Type} : List (DataW H) → Nat
  | [] => 0
  | d :: r => uptoBulk d + uptoBulkAll r
def uptoBulkEntries {H : Type} : List (Lit × DataW H) → Nat
  | [] => 0
  | x :: r => uptoBulkEntry x + uptoBulkEntries r
def uptoBulkEntry {H : Type} : Lit × DataW H → Nat
  | (.string bytes, d) => bytes.length + uptoBulk d + 1
  | (_, d) => uptoBulk d + 1
 end
def uptoSmall : (H : Type) → List (DataW H) → Bool := fun _ ds => decide (uptoBulkAll ds ≤ 1048576)
def OpenSpec.upto (s : _root_.Go.ChangeSpec) : _root_.Go.OpenSpec := { _root_.Go.OpenSpec.ofChange s with cond := some uptoSmall }

/-- 'tillagelaw.Names', WHERE WHAT IT READS IS OF BULK AT MOST 1048576: true; the input reads as it did. -/
def namesUptoRow : OpenClaim := { program := "ytfnmepnbbeijhaa", sum := "41c394dae72c3286397e8ce63c47d0ba2be534f5201325f8a47ed83787d446ca", func := "tillage/tillagelaw.Names", spec := "names", apart := false, narrowed := true }
def NamesUptoSaid : Prop := namesUptoRow.holds Try.pinned (OpenSpec.upto namesSpec)

/-- 'tillagelaw.ValueNumbers', WHERE WHAT IT READS IS OF BULK AT MOST 1048576: true; the input reads as it did. -/
def valueNumbersUptoRow : OpenClaim := { program := "ytfnmepnbbeijhaa", sum := "41c394dae72c3286397e8ce63c47d0ba2be534f5201325f8a47ed83787d446ca", func := "tillage/tillagelaw.ValueNumbers", spec := "valueNumbers", apart := false, narrowed := true }
def ValueNumbersUptoSaid : Prop := valueNumbersUptoRow.holds Try.pinned (OpenSpec.upto valueNumbersSpec)

/-- 'tillagelaw.ValueTexts', WHERE WHAT IT READS IS OF BULK AT MOST 1048576: true; the input reads as it did. -/
def valueTextsUptoRow : OpenClaim := { program := "ytfnmepnbbeijhaa", sum := "41c394dae72c3286397e8ce63c47d0ba2be534f5201325f8a47ed83787d446ca", func := "tillage/tillagelaw.ValueTexts", spec := "valueTexts", apart := false, narrowed := true }
def ValueTextsUptoSaid : Prop := valueTextsUptoRow.holds Try.pinned (OpenSpec.upto valueTextsSpec)

/-- 'tillagelaw.ValueTrues', WHERE WHAT IT READS IS OF BULK AT MOST 1048576: true; the input reads as it did. -/
def valueTruesUptoRow : OpenClaim := { program := "ytfnmepnbbeijhaa", sum := "41c394dae72c3286397e8ce63c47d0ba2be534f5201325f8a47ed83787d446ca", func := "tillage/tillagelaw.ValueTrues", spec := "valueTrues", apart := false, narrowed := true }
def ValueTruesUptoSaid : Prop := valueTruesUptoRow.holds Try.pinned (OpenSpec.upto valueTruesSpec)

/-- 'tillagelaw.ValueChecks', WHERE WHAT IT READS IS OF BULK AT MOST 1048576: true; the input reads as it did. -/
def valueChecksUptoRow : OpenClaim := { program := "ytfnmepnbbeijhaa", sum := "41c394dae72c3286397e8ce63c47d0ba2be534f5201325f8a47ed83787d446ca", func := "tillage/tillagelaw.ValueChecks", spec := "valueChecks", apart := false, narrowed := true }
def ValueChecksUptoSaid : Prop := valueChecksUptoRow.holds Try.pinned (OpenSpec.upto valueChecksSpec)

/-- 'tillagelaw.EvalWorlds', WHERE WHAT IT READS IS OF BULK AT MOST 1048576: true; the input reads as it did. -/
def evalWorldsUptoRow : OpenClaim := { program := "ytfnmepnbbeijhaa", sum := "41c394dae72c3286397e8ce63c47d0ba2be534f5201325f8a47ed83787d446ca", func := "tillage/tillagelaw.EvalWorlds", spec := "evalWorlds", inPlace := ["internal/bytealg.IndexByteString"], unfollowed := true, recurses := true, apart := false, narrowed := true }
def EvalWorldsUptoSaid : Prop := evalWorldsUptoRow.holds Try.pinned (OpenSpec.upto evalWorldsSpec)

end Rows
end Go.Proofs.Ytfnmepnbbeijhaa
