/- Further closed facts of the row and the card. -/
import Derived.Test.YtmkdjmoifkffgaaGreatDoorRows
import Derived.ProofKit
import Derived.LaidMore
import Derived.OpenShut
import Derived.Lay
import Derived.Stop.Joined
import Derived.SevenTiedAt
namespace Go.Proofs.YtmkdjmoifkffgaaGreatDoor
open Go Go.ChangeShapes Go.WideShapes Go.ChangeAt Go.RowKit
theorem cf1 : Rows.simpleKnownRow.wfByText (OpenSpec.ofChange Rows.simpleKnownSpec) = true := by kernel_rfl
theorem cf2 : Tryz.pinned.checked.prog.mainIs = some (true, "ae105eb49df5a789e2703de159a81b6725f4df5c6d2c30414ab2acee08df128c".toList) := by kernel_rfl
end Go.Proofs.YtmkdjmoifkffgaaGreatDoor
