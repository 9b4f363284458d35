/- Further closed facts of the row and the card. -/
import Derived.Test.YtmkdjmoifkffgaaGreatDoorRows
import Derived.ProofKit
import Derived.LaidMore
import Derived.OpenShut
import Derived.Lay
import Derived.Stop.Joined
import Derived.SevenTiedAt
namespace Go.Proofs.YtmkdjmoifkffgaaGreatDoor
open Go Go.ChangeShapes Go.WideShapes Go.ChangeAt Go.RowKit
theorem cf3 : true = Tryz.prog.looks [] := by kernel_rfl
end Go.Proofs.YtmkdjmoifkffgaaGreatDoor
