/- The witness: a world that lays the listed variables. -/
import Derived.Test.YtmkdjmoifkffgaaGreatDoorRows
import Derived.ProofKit
import Derived.LaidMore
import Derived.OpenShut
import Derived.Lay
import Derived.Stop.Joined
import Derived.SevenTiedAt
namespace Go.Proofs.YtmkdjmoifkffgaaGreatDoor
open Go Go.ChangeShapes Go.WideShapes Go.ChangeAt Go.RowKit
theorem own : ownKnob Tryz.prog.godebug = none := by kernel_rfl
set_option maxRecDepth 100000 in
theorem met (os : Os) : laidMet Tryz.prog Rows.simpleKnownRow.laid ((World.laidAll Tryz.prog os Rows.simpleKnownRow.laid).forCall (fun _ _ => 0) ⟨#[], #[], []⟩).memory := laidMet_laidAll _ (by kernel_rfl) (by kernel_rfl)
end Go.Proofs.YtmkdjmoifkffgaaGreatDoor
