/-
  DERIVED. GIVEN WITH THE SEED: THE CARDS: each row of YtjebbmnjegndkaaGreatDoorRows.lean that lists a variable, with what it lists TIED to the program's text (the seventh form; the later family's looks); each row that meets fmt, with fmt's text TOLD by the authors' own Lean function (tested against real Go, not proved from fmt's source: count such statements apart). THE CARD IS WHAT COUNTS. Prove the row's statement (the work); the ties are given (YtjebbmnjegndkaaGreatDoorTie.lean); close each card by the builder's one call (the guide's Derived/Test/ToyasCard.lean, 'card_holds'). Laid BY PROGRAM, IN A SANDBOX (cutbox-door.mjs). By AI agents, Wed Nov 11 2026. No macro, syntax, notation, axiom, sorry.
-/
import Derived.Test.YtjebbmnjegndkaaGreatDoorRows
import GoSem.ClaimSeven
namespace Go.Proofs.YtjebbmnjegndkaaGreatDoor
namespace Rows

/-- THE TIED CARD OF 'gazetteerlaw06.DateMatchesReference'. -/
def dateMatchesReferenceCard : Claim7 := { stood := { row := dateMatchesReferenceRow, standIns := [], harness := (true, "551a8db2ac2b9e0c91c7e168e681a64510c9895001649e2ba455d7ef91bc99df"), looks := true }, kinds := [], alts := [], laidByText := true, laidKinds := [.data, .data, .data, .data, .sentinel, .sentinel, .data, .pinned], laidTests := true, laidLooks := .later }
def DateMatchesReferenceCardSaid : Prop := Claim7.holds Tryz.pinned (.plain (OpenSpec.ofChange dateMatchesReferenceSpec)) dateMatchesReferenceCard

/-- THE SECOND FORM's CARD OF 'gazetteerlaw06.DateMatchesReference'. -/
def dateMatchesReferenceUptoCard : Claim7 := { stood := { row := dateMatchesReferenceUptoRow, standIns := [], harness := (true, "551a8db2ac2b9e0c91c7e168e681a64510c9895001649e2ba455d7ef91bc99df"), looks := true }, kinds := [], alts := [], laidByText := true, laidKinds := [.data, .data, .data, .data, .sentinel, .sentinel, .data, .pinned], laidTests := true, laidLooks := .later }
def DateMatchesReferenceUptoCardSaid : Prop := Claim7.holds Tryz.pinned (.plain (OpenSpec.upto dateMatchesReferenceSpec)) dateMatchesReferenceUptoCard
end Rows
end Go.Proofs.YtjebbmnjegndkaaGreatDoor
