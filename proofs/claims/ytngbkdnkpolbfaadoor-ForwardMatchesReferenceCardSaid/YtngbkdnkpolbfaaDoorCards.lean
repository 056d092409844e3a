/-
  DERIVED. GIVEN WITH THE SEED: THE CARDS: each row of YtngbkdnkpolbfaaDoorRows.lean that lists a variable, with what it lists TIED to the program's text (the seventh form; the later family's looks); each row that meets fmt, with fmt's text TOLD by the authors' own Lean function (tested against real Go, not proved from fmt's source: count such statements apart). THE CARD IS WHAT COUNTS. Prove the row's statement (the work); the ties are given (YtngbkdnkpolbfaaDoorTie.lean); close each card by the builder's one call (the guide's Derived/Test/ToyasCard.lean, 'card_holds'). Laid BY PROGRAM, IN A SANDBOX (cutbox-door.mjs). By AI agents, Wed Nov 11 2026. No macro, syntax, notation, axiom, sorry.
-/
import Derived.Test.YtngbkdnkpolbfaaDoorRows
import GoSem.ClaimSeven
namespace Go.Proofs.YtngbkdnkpolbfaaDoor
namespace Rows

/-- THE TIED CARD OF 'gazetteerlaw45.ForwardMatchesReference'. -/
def forwardMatchesReferenceCard : Claim7 := { stood := { row := forwardMatchesReferenceRow, standIns := [], harness := (true, "4457605adb2f663ac9b8cc6c7675d269d231d8ed4c8dc2e90caa60bb93b2a682"), looks := true }, kinds := [], alts := [], laidByText := true, laidKinds := [.data, .data, .data, .data, .sentinel, .sentinel, .data, .pinned], laidTests := true, laidLooks := .later }
def ForwardMatchesReferenceCardSaid : Prop := Claim7.holds Tryd.pinned (.plain (OpenSpec.ofChange forwardMatchesReferenceSpec)) forwardMatchesReferenceCard

/-- THE TIED CARD OF 'gazetteerlaw45.ForwardFollows'. -/
def forwardFollowsCard : Claim7 := { stood := { row := forwardFollowsRow, standIns := [], harness := (true, "4457605adb2f663ac9b8cc6c7675d269d231d8ed4c8dc2e90caa60bb93b2a682"), looks := true }, kinds := [], alts := [], laidByText := true, laidKinds := [.data, .data, .data, .data, .sentinel, .sentinel, .data, .pinned], laidTests := true, laidLooks := .later }
def ForwardFollowsCardSaid : Prop := Claim7.holds Tryd.pinned (.plain (OpenSpec.ofChange forwardFollowsSpec)) forwardFollowsCard

/-- THE TIED CARD OF 'gazetteerlaw45.ForwardCircles'. -/
def forwardCirclesCard : Claim7 := { stood := { row := forwardCirclesRow, standIns := [], harness := (true, "4457605adb2f663ac9b8cc6c7675d269d231d8ed4c8dc2e90caa60bb93b2a682"), looks := true }, kinds := [], alts := [], laidByText := true, laidKinds := [.data, .data, .data, .data, .sentinel, .sentinel, .data, .pinned], laidTests := true, laidLooks := .later }
def ForwardCirclesCardSaid : Prop := Claim7.holds Tryd.pinned (.plain (OpenSpec.ofChange forwardCirclesSpec)) forwardCirclesCard

/-- THE TIED CARD OF 'gazetteerlaw45.ForwardOthers'. -/
def forwardOthersCard : Claim7 := { stood := { row := forwardOthersRow, standIns := [], harness := (true, "4457605adb2f663ac9b8cc6c7675d269d231d8ed4c8dc2e90caa60bb93b2a682"), looks := true }, kinds := [], alts := [], laidByText := true, laidKinds := [.data, .data, .data, .data, .sentinel, .sentinel, .data, .pinned], laidTests := true, laidLooks := .later }
def ForwardOthersCardSaid : Prop := Claim7.holds Tryd.pinned (.plain (OpenSpec.ofChange forwardOthersSpec)) forwardOthersCard

/-- THE TIED CARD OF 'gazetteerlaw45.ForwardNew'. -/
def forwardNewCard : Claim7 := { stood := { row := forwardNewRow, standIns := [], harness := (true, "4457605adb2f663ac9b8cc6c7675d269d231d8ed4c8dc2e90caa60bb93b2a682"), looks := true }, kinds := [], alts := [], laidByText := true, laidKinds := [.data, .data, .data, .data, .sentinel, .sentinel, .data, .pinned], laidTests := true, laidLooks := .later }
def ForwardNewCardSaid : Prop := Claim7.holds Tryd.pinned (.plain (OpenSpec.ofChange forwardNewSpec)) forwardNewCard

/-- THE TIED CARD OF 'gazetteerlaw45.ForwardTexts'. -/
def forwardTextsCard : Claim7 := { stood := { row := forwardTextsRow, standIns := [], harness := (true, "4457605adb2f663ac9b8cc6c7675d269d231d8ed4c8dc2e90caa60bb93b2a682"), looks := true }, kinds := [], alts := [], laidByText := true, laidKinds := [.data, .data, .data, .data, .sentinel, .sentinel, .data, .pinned], laidTests := true, laidLooks := .later }
def ForwardTextsCardSaid : Prop := Claim7.holds Tryd.pinned (.plain (OpenSpec.ofChange forwardTextsSpec)) forwardTextsCard

/-- THE SECOND FORM's CARD OF 'gazetteerlaw45.ForwardMatchesReference'. -/
def forwardMatchesReferenceUptoCard : Claim7 := { stood := { row := forwardMatchesReferenceUptoRow, standIns := [], harness := (true, "4457605adb2f663ac9b8cc6c7675d269d231d8ed4c8dc2e90caa60bb93b2a682"), looks := true }, kinds := [], alts := [], laidByText := true, laidKinds := [.data, .data, .data, .data, .sentinel, .sentinel, .data, .pinned], laidTests := true, laidLooks := .later }
def ForwardMatchesReferenceUptoCardSaid : Prop := Claim7.holds Tryd.pinned (.plain (OpenSpec.upto forwardMatchesReferenceSpec)) forwardMatchesReferenceUptoCard

/-- THE SECOND FORM's CARD OF 'gazetteerlaw45.ForwardFollows'. -/
def forwardFollowsUptoCard : Claim7 := { stood := { row := forwardFollowsUptoRow, standIns := [], harness := (true, "4457605adb2f663ac9b8cc6c7675d269d231d8ed4c8dc2e90caa60bb93b2a682"), looks := true }, kinds := [], alts := [], laidByText := true, laidKinds := [.data, .data, .data, .data, .sentinel, .sentinel, .data, .pinned], laidTests := true, laidLooks := .later }
def ForwardFollowsUptoCardSaid : Prop := Claim7.holds Tryd.pinned (.plain (OpenSpec.upto forwardFollowsSpec)) forwardFollowsUptoCard

/-- THE SECOND FORM's CARD OF 'gazetteerlaw45.ForwardCircles'. -/
def forwardCirclesUptoCard : Claim7 := { stood := { row := forwardCirclesUptoRow, standIns := [], harness := (true, "4457605adb2f663ac9b8cc6c7675d269d231d8ed4c8dc2e90caa60bb93b2a682"), looks := true }, kinds := [], alts := [], laidByText := true, laidKinds := [.data, .data, .data, .data, .sentinel, .sentinel, .data, .pinned], laidTests := true, laidLooks := .later }
def ForwardCirclesUptoCardSaid : Prop := Claim7.holds Tryd.pinned (.plain (OpenSpec.upto forwardCirclesSpec)) forwardCirclesUptoCard

/-- THE SECOND FORM's CARD OF 'gazetteerlaw45.ForwardOthers'. -/
def forwardOthersUptoCard : Claim7 := { stood := { row := forwardOthersUptoRow, standIns := [], harness := (true, "4457605adb2f663ac9b8cc6c7675d269d231d8ed4c8dc2e90caa60bb93b2a682"), looks := true }, kinds := [], alts := [], laidByText := true, laidKinds := [.data, .data, .data, .data, .sentinel, .sentinel, .data, .pinned], laidTests := true, laidLooks := .later }
def ForwardOthersUptoCardSaid : Prop := Claim7.holds Tryd.pinned (.plain (OpenSpec.upto forwardOthersSpec)) forwardOthersUptoCard

/-- THE SECOND FORM's CARD OF 'gazetteerlaw45.ForwardNew'. -/
def forwardNewUptoCard : Claim7 := { stood := { row := forwardNewUptoRow, standIns := [], harness := (true, "4457605adb2f663ac9b8cc6c7675d269d231d8ed4c8dc2e90caa60bb93b2a682"), looks := true }, kinds := [], alts := [], laidByText := true, laidKinds := [.data, .data, .data, .data, .sentinel, .sentinel, .data, .pinned], laidTests := true, laidLooks := .later }
def ForwardNewUptoCardSaid : Prop := Claim7.holds Tryd.pinned (.plain (OpenSpec.upto forwardNewSpec)) forwardNewUptoCard

/-- THE SECOND FORM's CARD OF 'gazetteerlaw45.ForwardTexts'. -/
def forwardTextsUptoCard : Claim7 := { stood := { row := forwardTextsUptoRow, standIns := [], harness := (true, "4457605adb2f663ac9b8cc6c7675d269d231d8ed4c8dc2e90caa60bb93b2a682"), looks := true }, kinds := [], alts := [], laidByText := true, laidKinds := [.data, .data, .data, .data, .sentinel, .sentinel, .data, .pinned], laidTests := true, laidLooks := .later }
def ForwardTextsUptoCardSaid : Prop := Claim7.holds Tryd.pinned (.plain (OpenSpec.upto forwardTextsSpec)) forwardTextsUptoCard
end Rows
end Go.Proofs.YtngbkdnkpolbfaaDoor
