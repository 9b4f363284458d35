/- The closed runs, by the kernel. -/
import Derived.Test.YtmkdjmoifkffgaaGreatDoorRun0
namespace Go.Proofs.YtmkdjmoifkffgaaGreatDoor
open Go Go.Ex
theorem kr0 : retIs kv0 (runF TT K0 100000000 (.call 46 ka0 ⟨layH tabs, 1000⟩ none)) = true := by decide +kernel
theorem kr1 : retIs kv1 (runF TT K0 100000000 (.call 46 ka1 ⟨layH tabs, 1000⟩ none)) = true := by decide +kernel
theorem kr2 : retIs kv2 (runF TT K0 100000000 (.call 46 ka2 ⟨layH tabs, 1000⟩ none)) = true := by decide +kernel
theorem kr3 : retIs kv3 (runF TT K0 100000000 (.call 46 ka3 ⟨layH tabs, 1000⟩ none)) = true := by decide +kernel
theorem kr4 : retIs kv4 (runF TT K0 100000000 (.call 46 ka4 ⟨layH tabs, 1000⟩ none)) = true := by decide +kernel
theorem kr5 : retIs kv5 (runF TT K0 100000000 (.call 35 ka5 ⟨layH tabs, 1000⟩ none)) = true := by decide +kernel
theorem kr6 : retIs kv6 (runF TT K0 100000000 (.call 35 ka6 ⟨layH tabs, 1000⟩ none)) = true := by decide +kernel
theorem kr7 : retIs kv7 (runF TT K0 100000000 (.call 35 ka7 ⟨layH tabs, 1000⟩ none)) = true := by decide +kernel
theorem kr8 : retIs kv8 (runF TT K0 100000000 (.call 35 ka8 ⟨layH tabs, 1000⟩ none)) = true := by decide +kernel
theorem kr9 : retIs kv9 (runF TT K0 100000000 (.call 35 ka9 ⟨layH tabs, 1000⟩ none)) = true := by decide +kernel
theorem kr10 : retIs kv10 (runF TT K0 100000000 (.call 35 ka10 ⟨layH tabs, 1000⟩ none)) = true := by decide +kernel
theorem kr11 : retIs kv11 (runF TT K0 100000000 (.call 35 ka11 ⟨layH tabs, 1000⟩ none)) = true := by decide +kernel
theorem kr12 : retIs kv12 (runF TT K0 100000000 (.call 35 ka12 ⟨layH tabs, 1000⟩ none)) = true := by decide +kernel
theorem kr13 : retIs kv13 (runF TT K0 100000000 (.call 35 ka13 ⟨layH tabs, 1000⟩ none)) = true := by decide +kernel
end Go.Proofs.YtmkdjmoifkffgaaGreatDoor
