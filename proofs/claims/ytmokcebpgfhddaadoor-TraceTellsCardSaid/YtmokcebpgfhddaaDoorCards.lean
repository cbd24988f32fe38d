/-
  DERIVED. GIVEN WITH THE SEED: THE CARDS: each row of YtmokcebpgfhddaaDoorRows.lean that lists a variable, with what it lists TIED to the program's text (the seventh form; the later family's looks); each row that meets fmt, with fmt's text TOLD by the authors' own Lean function (tested against real Go, not proved from fmt's source: count such statements apart). THE CARD IS WHAT COUNTS. Prove the row's statement (the work); the ties are given (YtmokcebpgfhddaaDoorTie.lean); close each card by the builder's one call (the guide's Derived/Test/ToyasCard.lean, 'card_holds'). Laid BY PROGRAM, IN A SANDBOX (cutbox-door.mjs). By AI agents, Wed Nov 11 2026. No macro, syntax, notation, axiom, sorry.
-/
import Derived.Test.YtmokcebpgfhddaaDoorRows
import GoSem.ClaimSeven
namespace Go.Proofs.YtmokcebpgfhddaaDoor
namespace Rows

/-- THE TIED CARD OF 'squelchlaw23.TraceWords'. -/
def traceWordsCard : Claim7 := { stood := { row := traceWordsRow, standIns := [], harness := (true, "01b642d498ef0eedc16d473f0f78213b856fd5d942a36c567e6fb7a1221c0099"), looks := true }, kinds := [], alts := [], laidByText := true, laidKinds := [.data, .data, .data], laidTests := true, laidLooks := .later }
def TraceWordsCardSaid : Prop := Claim7.holds Tryd.pinned (.plain (OpenSpec.ofChange traceWordsSpec)) traceWordsCard

/-- THE TIED CARD OF 'squelchlaw23.TraceBegins'. -/
def traceBeginsCard : Claim7 := { stood := { row := traceBeginsRow, standIns := [], harness := (true, "01b642d498ef0eedc16d473f0f78213b856fd5d942a36c567e6fb7a1221c0099"), looks := true }, kinds := [], alts := [], laidByText := true, laidKinds := [.data, .data, .data], laidTests := true, laidLooks := .later }
def TraceBeginsCardSaid : Prop := Claim7.holds Tryd.pinned (.plain (OpenSpec.ofChange traceBeginsSpec)) traceBeginsCard

/-- THE TIED CARD OF 'squelchlaw23.TraceJoins'. -/
def traceJoinsCard : Claim7 := { stood := { row := traceJoinsRow, standIns := [], harness := (true, "01b642d498ef0eedc16d473f0f78213b856fd5d942a36c567e6fb7a1221c0099"), looks := true }, kinds := [], alts := [], laidByText := true, laidKinds := [.data, .data, .data], laidTests := true, laidLooks := .later }
def TraceJoinsCardSaid : Prop := Claim7.holds Tryd.pinned (.plain (OpenSpec.ofChange traceJoinsSpec)) traceJoinsCard

/-- THE TIED CARD OF 'squelchlaw23.TraceTells'. -/
def traceTellsCard : Claim7 := { stood := { row := traceTellsRow, standIns := [], harness := (true, "01b642d498ef0eedc16d473f0f78213b856fd5d942a36c567e6fb7a1221c0099"), looks := true }, kinds := [], alts := [], laidByText := true, laidKinds := [.data, .data, .data], laidTests := true, laidLooks := .later }
def TraceTellsCardSaid : Prop := Claim7.holds Tryd.pinned (.plain (OpenSpec.ofChange traceTellsSpec)) traceTellsCard

/-- THE TIED CARD OF 'squelchlaw17.RetryTries'. -/
def retryTriesCard : Claim7 := { stood := { row := retryTriesRow, standIns := [], harness := (true, "01b642d498ef0eedc16d473f0f78213b856fd5d942a36c567e6fb7a1221c0099"), looks := true }, kinds := [], alts := [], laidByText := true, laidKinds := [.data, .pinned], laidTests := true, laidLooks := .later }
def RetryTriesCardSaid : Prop := Claim7.holds Tryd.pinned (.plain (OpenSpec.ofChange retryTriesSpec)) retryTriesCard

/-- THE TIED CARD OF 'squelchlaw17.RetryOnce'. -/
def retryOnceCard : Claim7 := { stood := { row := retryOnceRow, standIns := [], harness := (true, "01b642d498ef0eedc16d473f0f78213b856fd5d942a36c567e6fb7a1221c0099"), looks := true }, kinds := [], alts := [], laidByText := true, laidKinds := [.data, .pinned], laidTests := true, laidLooks := .later }
def RetryOnceCardSaid : Prop := Claim7.holds Tryd.pinned (.plain (OpenSpec.ofChange retryOnceSpec)) retryOnceCard

/-- THE TIED CARD OF 'squelchlaw17.RetryDoes'. -/
def retryDoesCard : Claim7 := { stood := { row := retryDoesRow, standIns := [], harness := (true, "01b642d498ef0eedc16d473f0f78213b856fd5d942a36c567e6fb7a1221c0099"), looks := true }, kinds := [], alts := [], laidByText := true, laidKinds := [.data, .pinned], laidTests := true, laidLooks := .later }
def RetryDoesCardSaid : Prop := Claim7.holds Tryd.pinned (.plain (OpenSpec.ofChange retryDoesSpec)) retryDoesCard

/-- THE TIED CARD OF 'squelchlaw23.TraceFloor'. -/
def traceFloorCard : Claim7 := { stood := { row := traceFloorRow, standIns := [], harness := (true, "01b642d498ef0eedc16d473f0f78213b856fd5d942a36c567e6fb7a1221c0099"), looks := true }, kinds := [], alts := [], laidByText := true, laidKinds := [.data, .data, .data], laidTests := true, laidLooks := .later }
def TraceFloorCardSaid : Prop := Claim7.holds Tryd.pinned (.plain (OpenSpec.ofChange traceFloorSpec)) traceFloorCard

/-- THE SECOND FORM's CARD OF 'squelchlaw23.TraceWords'. -/
def traceWordsUptoCard : Claim7 := { stood := { row := traceWordsUptoRow, standIns := [], harness := (true, "01b642d498ef0eedc16d473f0f78213b856fd5d942a36c567e6fb7a1221c0099"), looks := true }, kinds := [], alts := [], laidByText := true, laidKinds := [.data, .data, .data], laidTests := true, laidLooks := .later }
def TraceWordsUptoCardSaid : Prop := Claim7.holds Tryd.pinned (.plain (OpenSpec.upto traceWordsSpec)) traceWordsUptoCard

/-- THE SECOND FORM's CARD OF 'squelchlaw23.TraceBegins'. -/
def traceBeginsUptoCard : Claim7 := { stood := { row := traceBeginsUptoRow, standIns := [], harness := (true, "01b642d498ef0eedc16d473f0f78213b856fd5d942a36c567e6fb7a1221c0099"), looks := true }, kinds := [], alts := [], laidByText := true, laidKinds := [.data, .data, .data], laidTests := true, laidLooks := .later }
def TraceBeginsUptoCardSaid : Prop := Claim7.holds Tryd.pinned (.plain (OpenSpec.upto traceBeginsSpec)) traceBeginsUptoCard

/-- THE SECOND FORM's CARD OF 'squelchlaw23.TraceJoins'. -/
def traceJoinsUptoCard : Claim7 := { stood := { row := traceJoinsUptoRow, standIns := [], harness := (true, "01b642d498ef0eedc16d473f0f78213b856fd5d942a36c567e6fb7a1221c0099"), looks := true }, kinds := [], alts := [], laidByText := true, laidKinds := [.data, .data, .data], laidTests := true, laidLooks := .later }
def TraceJoinsUptoCardSaid : Prop := Claim7.holds Tryd.pinned (.plain (OpenSpec.upto traceJoinsSpec)) traceJoinsUptoCard

/-- THE SECOND FORM's CARD OF 'squelchlaw23.TraceTells'. -/
def traceTellsUptoCard : Claim7 := { stood := { row := traceTellsUptoRow, standIns := [], harness := (true, "01b642d498ef0eedc16d473f0f78213b856fd5d942a36c567e6fb7a1221c0099"), looks := true }, kinds := [], alts := [], laidByText := true, laidKinds := [.data, .data, .data], laidTests := true, laidLooks := .later }
def TraceTellsUptoCardSaid : Prop := Claim7.holds Tryd.pinned (.plain (OpenSpec.upto traceTellsSpec)) traceTellsUptoCard

/-- THE SECOND FORM's CARD OF 'squelchlaw17.RetryTries'. -/
def retryTriesUptoCard : Claim7 := { stood := { row := retryTriesUptoRow, standIns := [], harness := (true, "01b642d498ef0eedc16d473f0f78213b856fd5d942a36c567e6fb7a1221c0099"), looks := true }, kinds := [], alts := [], laidByText := true, laidKinds := [.data, .pinned], laidTests := true, laidLooks := .later }
def RetryTriesUptoCardSaid : Prop := Claim7.holds Tryd.pinned (.plain (OpenSpec.upto retryTriesSpec)) retryTriesUptoCard

/-- THE SECOND FORM's CARD OF 'squelchlaw17.RetryOnce'. -/
def retryOnceUptoCard : Claim7 := { stood := { row := retryOnceUptoRow, standIns := [], harness := (true, "01b642d498ef0eedc16d473f0f78213b856fd5d942a36c567e6fb7a1221c0099"), looks := true }, kinds := [], alts := [], laidByText := true, laidKinds := [.data, .pinned], laidTests := true, laidLooks := .later }
def RetryOnceUptoCardSaid : Prop := Claim7.holds Tryd.pinned (.plain (OpenSpec.upto retryOnceSpec)) retryOnceUptoCard

/-- THE SECOND FORM's CARD OF 'squelchlaw17.RetryDoes'. -/
def retryDoesUptoCard : Claim7 := { stood := { row := retryDoesUptoRow, standIns := [], harness := (true, "01b642d498ef0eedc16d473f0f78213b856fd5d942a36c567e6fb7a1221c0099"), looks := true }, kinds := [], alts := [], laidByText := true, laidKinds := [.data, .pinned], laidTests := true, laidLooks := .later }
def RetryDoesUptoCardSaid : Prop := Claim7.holds Tryd.pinned (.plain (OpenSpec.upto retryDoesSpec)) retryDoesUptoCard

/-- THE SECOND FORM's CARD OF 'squelchlaw23.TraceFloor'. -/
def traceFloorUptoCard : Claim7 := { stood := { row := traceFloorUptoRow, standIns := [], harness := (true, "01b642d498ef0eedc16d473f0f78213b856fd5d942a36c567e6fb7a1221c0099"), looks := true }, kinds := [], alts := [], laidByText := true, laidKinds := [.data, .data, .data], laidTests := true, laidLooks := .later }
def TraceFloorUptoCardSaid : Prop := Claim7.holds Tryd.pinned (.plain (OpenSpec.upto traceFloorSpec)) traceFloorUptoCard
end Rows
end Go.Proofs.YtmokcebpgfhddaaDoor
