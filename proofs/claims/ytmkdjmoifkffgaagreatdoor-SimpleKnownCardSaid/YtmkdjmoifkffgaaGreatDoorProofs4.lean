/- chisellaw13.SimpleKnown answers true: proved of the given program, in every world in which the listed package-level variables lie as the text of the program lays them. Conditions: none but the cells of the row (the listed variables, tied to the text of the program by the card). -/
import Derived.Test.YtmkdjmoifkffgaaGreatDoorProofs3
import Derived.Test.YtmkdjmoifkffgaaGreatDoorFacts3
import Derived.Test.YtmkdjmoifkffgaaGreatDoorFacts4
import Derived.Test.YtmkdjmoifkffgaaGreatDoorFacts5
import Derived.Test.YtmkdjmoifkffgaaGreatDoorTie
import Derived.Test.YtmkdjmoifkffgaaGreatDoorCards
namespace Go.Proofs.YtmkdjmoifkffgaaGreatDoor
open Go Go.Ex Go.ChangeShapes Go.WideShapes Go.ChangeAt Go.RowKit
theorem simpleKnown_holds : Rows.SimpleKnownCardSaid :=
  Claim7.holds_tied_plain_at .later [] [.data, .data, .widerDeep, .widerDeep, .data, .data, .data, .data, .data, .data, .sentinel, .sentinel, .data, .pinned, .pinned, .pinned, .pinned] true (true, "ae105eb49df5a789e2703de159a81b6725f4df5c6d2c30414ab2acee08df128c") true
    row_holds (fun _ h => by cases h) cf1 (fun _ h => by cases h) simpleKnown_row_tie rfl ⟨rfl, rfl⟩ cf2 rfl
    (fun f fn hf hfn => by
      obtain rfl : f = 3 := Option.some.inj (rf1.symm.trans hf) |>.symm
      obtain rfl : fn = Tryz.f3 := (Option.some.inj (Tryz.func3.symm.trans hfn)).symm
      exact ⟨cf3, fun j t ht => by
        rw [Tryz.params3] at ht
        simp at ht⟩)
    cf4
#print axioms simpleKnown_holds
end Go.Proofs.YtmkdjmoifkffgaaGreatDoor
