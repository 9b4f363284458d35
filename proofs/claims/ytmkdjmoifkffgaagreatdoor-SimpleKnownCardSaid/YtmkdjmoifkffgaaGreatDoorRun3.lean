/- A closed run, by the kernel. -/
import Derived.Test.YtmkdjmoifkffgaaGreatDoorRun0
namespace Go.Proofs.YtmkdjmoifkffgaaGreatDoor
open Go Go.Ex
theorem known13 : retIs (.bool true) (runF TT K1 100000000 (.call 3 [] ⟨layH tabs, 1000⟩ none)) = true := by decide +kernel
end Go.Proofs.YtmkdjmoifkffgaaGreatDoor
