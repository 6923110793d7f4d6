/-
  DERIVED. GIVEN WITH THE SEED: THE CARDS: each row of YtfnmepnbbeijhaaDoorRows.lean that lists a variable, with what it lists TIED to the program's text (the seventh form; the later family's looks); each row that meets fmt, with fmt's text TOLD by the authors' own Lean function (tested against real Go, not proved from fmt's source: count such statements apart). THE CARD IS WHAT COUNTS. Prove the row's statement (the work); the ties are given (YtfnmepnbbeijhaaDoorTie.lean); close each card by the builder's one call (the guide's Derived/Test/ToyasCard.lean, 'card_holds'). Laid BY PROGRAM, IN A SANDBOX (cutbox-door.mjs). By AI agents, Wed Nov 11 2026. No macro, syntax, notation, axiom, sorry.
-/
import Derived.Test.YtfnmepnbbeijhaaDoorRows
import GoSem.ClaimSeven
namespace Go.Proofs.YtfnmepnbbeijhaaDoor
namespace Rows

/-- THE TIED CARD OF 'tillagelaw.SyntaxNames'. -/
def syntaxNamesCard : Claim7 := { stood := { row := syntaxNamesRow, standIns := [], harness := (true, "c647cdcdfd6695929bd46e162bd539d5d4d46e1dd183a17dcbbad88a801da498"), looks := false }, kinds := [], alts := [], laidByText := true, laidKinds := [.widerDeep], laidTests := true, laidLooks := .later }
def SyntaxNamesCardSaid : Prop := Claim7.holds Tryd.pinned (.plain (OpenSpec.ofChange syntaxNamesSpec)) syntaxNamesCard

/-- THE TIED CARD OF 'tillagelaw.ValueStrs'. -/
def valueStrsCard : Claim7 := { stood := { row := valueStrsRow, standIns := [], harness := (true, "c647cdcdfd6695929bd46e162bd539d5d4d46e1dd183a17dcbbad88a801da498"), looks := false }, kinds := [], alts := [], laidByText := true, laidKinds := [.data, .data, .data], laidTests := true, laidLooks := .later }
def ValueStrsCardSaid : Prop := Claim7.holds Tryd.pinned (.plain (OpenSpec.ofChange valueStrsSpec)) valueStrsCard

/-- THE TIED CARD OF 'tillagelaw.ValueNums'. -/
def valueNumsCard : Claim7 := { stood := { row := valueNumsRow, standIns := [], harness := (true, "c647cdcdfd6695929bd46e162bd539d5d4d46e1dd183a17dcbbad88a801da498"), looks := false }, kinds := [], alts := [], laidByText := true, laidKinds := [.data, .pinned], laidTests := true, laidLooks := .later }
def ValueNumsCardSaid : Prop := Claim7.holds Tryd.pinned (.plain (OpenSpec.ofChange valueNumsSpec)) valueNumsCard

/-- THE TIED CARD OF 'tillagekeep.TextsAsNumbers'. -/
def textsAsNumbersCard : Claim7 := { stood := { row := textsAsNumbersRow, standIns := [], harness := (true, "c647cdcdfd6695929bd46e162bd539d5d4d46e1dd183a17dcbbad88a801da498"), looks := false }, kinds := [], alts := [], laidByText := true, laidKinds := [.data, .data, .data, .data, .pinned], laidTests := true, laidLooks := .later }
def TextsAsNumbersCardSaid : Prop := Claim7.holds Tryd.pinned (.plain (OpenSpec.ofChange textsAsNumbersSpec)) textsAsNumbersCard

/-- THE TIED CARD OF 'tillagelaw.ValueOps'. -/
def valueOpsCard : Claim7 := { stood := { row := valueOpsRow, standIns := [], harness := (true, "c647cdcdfd6695929bd46e162bd539d5d4d46e1dd183a17dcbbad88a801da498"), looks := false }, kinds := [], alts := [], laidByText := true, laidKinds := [.data, .data, .data, .data, .pinned], laidTests := true, laidLooks := .later }
def ValueOpsCardSaid : Prop := Claim7.holds Tryd.pinned (.plain (OpenSpec.ofChange valueOpsSpec)) valueOpsCard

/-- THE TIED CARD OF 'tillagekeep.SumsBack'. -/
def sumsBackCard : Claim7 := { stood := { row := sumsBackRow, standIns := [], harness := (true, "c647cdcdfd6695929bd46e162bd539d5d4d46e1dd183a17dcbbad88a801da498"), looks := false }, kinds := [], alts := [], laidByText := true, laidKinds := [.data, .data, .data, .data, .pinned], laidTests := true, laidLooks := .later }
def SumsBackCardSaid : Prop := Claim7.holds Tryd.pinned (.plain (OpenSpec.ofChange sumsBackSpec)) sumsBackCard

/-- THE TIED CARD OF 'tillagekeep.Compared'. -/
def comparedCard : Claim7 := { stood := { row := comparedRow, standIns := [], harness := (true, "c647cdcdfd6695929bd46e162bd539d5d4d46e1dd183a17dcbbad88a801da498"), looks := false }, kinds := [], alts := [], laidByText := true, laidKinds := [.data, .data, .data, .data, .pinned], laidTests := true, laidLooks := .later }
def ComparedCardSaid : Prop := Claim7.holds Tryd.pinned (.plain (OpenSpec.ofChange comparedSpec)) comparedCard

/-- THE TIED CARD OF 'tillagelaw.ValueCalls'. -/
def valueCallsCard : Claim7 := { stood := { row := valueCallsRow, standIns := [], harness := (true, "c647cdcdfd6695929bd46e162bd539d5d4d46e1dd183a17dcbbad88a801da498"), looks := false }, kinds := [], alts := [], laidByText := true, laidKinds := [.data, .data, .data, .data, .pinned], laidTests := true, laidLooks := .later }
def ValueCallsCardSaid : Prop := Claim7.holds Tryd.pinned (.plain (OpenSpec.ofChange valueCallsSpec)) valueCallsCard

/-- THE TIED CARD OF 'tillagekeep.Joined'. -/
def joinedCard : Claim7 := { stood := { row := joinedRow, standIns := [], harness := (true, "c647cdcdfd6695929bd46e162bd539d5d4d46e1dd183a17dcbbad88a801da498"), looks := false }, kinds := [], alts := [], laidByText := true, laidKinds := [.data, .data, .data, .data, .pinned], laidTests := true, laidLooks := .later }
def JoinedCardSaid : Prop := Claim7.holds Tryd.pinned (.plain (OpenSpec.ofChange joinedSpec)) joinedCard

/-- THE SECOND FORM's CARD OF 'tillagelaw.SyntaxNames'. -/
def syntaxNamesUptoCard : Claim7 := { stood := { row := syntaxNamesUptoRow, standIns := [], harness := (true, "c647cdcdfd6695929bd46e162bd539d5d4d46e1dd183a17dcbbad88a801da498"), looks := false }, kinds := [], alts := [], laidByText := true, laidKinds := [.widerDeep], laidTests := true, laidLooks := .later }
def SyntaxNamesUptoCardSaid : Prop := Claim7.holds Tryd.pinned (.plain (OpenSpec.upto syntaxNamesSpec)) syntaxNamesUptoCard

/-- THE SECOND FORM's CARD OF 'tillagelaw.ValueStrs'. -/
def valueStrsUptoCard : Claim7 := { stood := { row := valueStrsUptoRow, standIns := [], harness := (true, "c647cdcdfd6695929bd46e162bd539d5d4d46e1dd183a17dcbbad88a801da498"), looks := false }, kinds := [], alts := [], laidByText := true, laidKinds := [.data, .data, .data], laidTests := true, laidLooks := .later }
def ValueStrsUptoCardSaid : Prop := Claim7.holds Tryd.pinned (.plain (OpenSpec.upto valueStrsSpec)) valueStrsUptoCard

/-- THE SECOND FORM's CARD OF 'tillagelaw.ValueNums'. -/
def valueNumsUptoCard : Claim7 := { stood := { row := valueNumsUptoRow, standIns := [], harness := (true, "c647cdcdfd6695929bd46e162bd539d5d4d46e1dd183a17dcbbad88a801da498"), looks := false }, kinds := [], alts := [], laidByText := true, laidKinds := [.data, .pinned], laidTests := true, laidLooks := .later }
def ValueNumsUptoCardSaid : Prop := Claim7.holds Tryd.pinned (.plain (OpenSpec.upto valueNumsSpec)) valueNumsUptoCard

/-- THE SECOND FORM's CARD OF 'tillagekeep.TextsAsNumbers'. -/
def textsAsNumbersUptoCard : Claim7 := { stood := { row := textsAsNumbersUptoRow, standIns := [], harness := (true, "c647cdcdfd6695929bd46e162bd539d5d4d46e1dd183a17dcbbad88a801da498"), looks := false }, kinds := [], alts := [], laidByText := true, laidKinds := [.data, .data, .data, .data, .pinned], laidTests := true, laidLooks := .later }
def TextsAsNumbersUptoCardSaid : Prop := Claim7.holds Tryd.pinned (.plain (OpenSpec.upto textsAsNumbersSpec)) textsAsNumbersUptoCard

/-- THE SECOND FORM's CARD OF 'tillagelaw.ValueOps'. -/
def valueOpsUptoCard : Claim7 := { stood := { row := valueOpsUptoRow, standIns := [], harness := (true, "c647cdcdfd6695929bd46e162bd539d5d4d46e1dd183a17dcbbad88a801da498"), looks := false }, kinds := [], alts := [], laidByText := true, laidKinds := [.data, .data, .data, .data, .pinned], laidTests := true, laidLooks := .later }
def ValueOpsUptoCardSaid : Prop := Claim7.holds Tryd.pinned (.plain (OpenSpec.upto valueOpsSpec)) valueOpsUptoCard

/-- THE SECOND FORM's CARD OF 'tillagekeep.SumsBack'. -/
def sumsBackUptoCard : Claim7 := { stood := { row := sumsBackUptoRow, standIns := [], harness := (true, "c647cdcdfd6695929bd46e162bd539d5d4d46e1dd183a17dcbbad88a801da498"), looks := false }, kinds := [], alts := [], laidByText := true, laidKinds := [.data, .data, .data, .data, .pinned], laidTests := true, laidLooks := .later }
def SumsBackUptoCardSaid : Prop := Claim7.holds Tryd.pinned (.plain (OpenSpec.upto sumsBackSpec)) sumsBackUptoCard

/-- THE SECOND FORM's CARD OF 'tillagekeep.Compared'. -/
def comparedUptoCard : Claim7 := { stood := { row := comparedUptoRow, standIns := [], harness := (true, "c647cdcdfd6695929bd46e162bd539d5d4d46e1dd183a17dcbbad88a801da498"), looks := false }, kinds := [], alts := [], laidByText := true, laidKinds := [.data, .data, .data, .data, .pinned], laidTests := true, laidLooks := .later }
def ComparedUptoCardSaid : Prop := Claim7.holds Tryd.pinned (.plain (OpenSpec.upto comparedSpec)) comparedUptoCard

/-- THE SECOND FORM's CARD OF 'tillagelaw.ValueCalls'. -/
def valueCallsUptoCard : Claim7 := { stood := { row := valueCallsUptoRow, standIns := [], harness := (true, "c647cdcdfd6695929bd46e162bd539d5d4d46e1dd183a17dcbbad88a801da498"), looks := false }, kinds := [], alts := [], laidByText := true, laidKinds := [.data, .data, .data, .data, .pinned], laidTests := true, laidLooks := .later }
def ValueCallsUptoCardSaid : Prop := Claim7.holds Tryd.pinned (.plain (OpenSpec.upto valueCallsSpec)) valueCallsUptoCard

/-- THE SECOND FORM's CARD OF 'tillagekeep.Joined'. -/
def joinedUptoCard : Claim7 := { stood := { row := joinedUptoRow, standIns := [], harness := (true, "c647cdcdfd6695929bd46e162bd539d5d4d46e1dd183a17dcbbad88a801da498"), looks := false }, kinds := [], alts := [], laidByText := true, laidKinds := [.data, .data, .data, .data, .pinned], laidTests := true, laidLooks := .later }
def JoinedUptoCardSaid : Prop := Claim7.holds Tryd.pinned (.plain (OpenSpec.upto joinedSpec)) joinedUptoCard
end Rows
end Go.Proofs.YtfnmepnbbeijhaaDoor
