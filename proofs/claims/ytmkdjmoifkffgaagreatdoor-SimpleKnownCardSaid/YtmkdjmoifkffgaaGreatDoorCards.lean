/-
  DERIVED. GIVEN WITH THE SEED: THE CARDS: each row of YtmkdjmoifkffgaaGreatDoorRows.lean that lists a variable, with what it lists TIED to the program's text (the seventh form; the later family's looks); each row that meets fmt, with fmt's text TOLD by the authors' own Lean function (tested against real Go, not proved from fmt's source: count such statements apart). THE CARD IS WHAT COUNTS. Prove the row's statement (the work); the ties are given (YtmkdjmoifkffgaaGreatDoorTie.lean); close each card by the builder's one call (the guide's Derived/Test/ToyasCard.lean, 'card_holds'). Laid BY PROGRAM, IN A SANDBOX (cutbox-door.mjs). By AI agents, Wed Nov 11 2026. No macro, syntax, notation, axiom, sorry.
-/
import Derived.Test.YtmkdjmoifkffgaaGreatDoorRows
import GoSem.ClaimSeven
namespace Go.Proofs.YtmkdjmoifkffgaaGreatDoor
namespace Rows

/-- THE TIED CARD OF 'chisellaw13.SimpleKnown'. -/
def simpleKnownCard : Claim7 := { stood := { row := simpleKnownRow, standIns := [], harness := (true, "ae105eb49df5a789e2703de159a81b6725f4df5c6d2c30414ab2acee08df128c"), looks := true }, kinds := [], alts := [], laidByText := true, laidKinds := [.data, .data, .widerDeep, .widerDeep, .data, .data, .data, .data, .data, .data, .sentinel, .sentinel, .data, .pinned, .pinned, .pinned, .pinned], laidTests := true, laidLooks := .later }
def SimpleKnownCardSaid : Prop := Claim7.holds Tryz.pinned (.plain (OpenSpec.ofChange simpleKnownSpec)) simpleKnownCard

/-- THE SECOND FORM's CARD OF 'chisellaw13.SimpleKnown'. -/
def simpleKnownUptoCard : Claim7 := { stood := { row := simpleKnownUptoRow, standIns := [], harness := (true, "ae105eb49df5a789e2703de159a81b6725f4df5c6d2c30414ab2acee08df128c"), looks := true }, kinds := [], alts := [], laidByText := true, laidKinds := [.data, .data, .widerDeep, .widerDeep, .data, .data, .data, .data, .data, .data, .sentinel, .sentinel, .data, .pinned, .pinned, .pinned, .pinned], laidTests := true, laidLooks := .later }
def SimpleKnownUptoCardSaid : Prop := Claim7.holds Tryz.pinned (.plain (OpenSpec.upto simpleKnownSpec)) simpleKnownUptoCard
end Rows
end Go.Proofs.YtmkdjmoifkffgaaGreatDoor
