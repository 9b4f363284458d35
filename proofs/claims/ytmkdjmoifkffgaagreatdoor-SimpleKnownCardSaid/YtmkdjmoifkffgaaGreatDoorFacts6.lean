/- Further closed facts of the row and the card. -/
import Derived.Test.YtmkdjmoifkffgaaGreatDoorRows
import Derived.ProofKit
import Derived.LaidMore
import Derived.OpenShut
import Derived.Lay
import Derived.Stop.Joined
import Derived.SevenTiedAt
namespace Go.Proofs.YtmkdjmoifkffgaaGreatDoor
open Go Go.ChangeShapes Go.WideShapes Go.ChangeAt Go.RowKit
theorem rf1 : Tryz.prog.funcNamed "chisel/chisellaw13.SimpleKnown" = some 3 := by kernel_rfl
theorem rf2 : Tryz.f3.isInstance Tryz.prog Rows.simpleKnownRow.origin Rows.simpleKnownRow.targs := of_decide_eq_true (by kernel_rfl)
theorem rf3 : Tryz.f3.isWrapper Tryz.prog Rows.simpleKnownRow.wrapper Rows.simpleKnownRow.mainSum := by unfold Func.isWrapper; first | (rw [if_pos (by decide +kernel)]; kernel_rfl) | (rw [if_neg (by decide +kernel)]; exact ⟨rfl, rfl⟩)
end Go.Proofs.YtmkdjmoifkffgaaGreatDoor
