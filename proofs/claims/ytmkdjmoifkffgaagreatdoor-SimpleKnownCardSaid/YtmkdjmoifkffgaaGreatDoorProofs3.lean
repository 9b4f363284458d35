/- The row. -/
import Derived.Test.YtmkdjmoifkffgaaGreatDoorProofs2
import Derived.Test.YtmkdjmoifkffgaaGreatDoorFacts2
import Derived.Test.YtmkdjmoifkffgaaGreatDoorFacts6
namespace Go.Proofs.YtmkdjmoifkffgaaGreatDoor
open Go Go.Ex Go.ChangeShapes Go.WideShapes Go.ChangeAt Go.RowKit
theorem row_holds : Rows.SimpleKnownSaid :=
  OpenClaim.holds_of_wide 3 Tryz.f3 rfl rfl rfl rfl rfl rfl rfl ⟨rfl, rfl, rfl, rfl, rfl⟩ rfl rfl rfl rfl rfl rf1 Tryz.func3 joined
    rf2 rf3
    (fun os started H enc _ => lifted os started H enc)
end Go.Proofs.YtmkdjmoifkffgaaGreatDoor
