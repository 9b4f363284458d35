/- The row's closed facts, joined. -/
import Derived.Test.YtmkdjmoifkffgaaGreatDoorFacts
namespace Go.Proofs.YtmkdjmoifkffgaaGreatDoor
open Go
set_option maxRecDepth 1000000 in
theorem joined : joinedFacts Tryz.prog 3 Tryz.f3 Rows.simpleKnownSpec Rows.simpleKnownRow = true := (and_tt (and_tt (and_tt (and_tt (and_tt (and_tt (and_tt (and_tt (and_tt (and_tt (and_tt (and_tt (and_tt (and_tt (and_tt (and_tt (and_tt (and_tt (and_tt (and_tt (and_tt (and_tt (and_tt (and_tt (and_tt (and_tt (and_tt (and_tt (and_tt (and_tt (and_tt jf0 jf1) jf2) jf3) jf4) jf5) jf6) jf7) jf8) jf9) jf10) jf11) jf12) jf13) jf14) jf15) jf16) jf17) jf18) jf19) jf20) jf21) jf22) jf23) jf24) jf25) jf26) jf27) jf28) jf29) jf30) jf31)
end Go.Proofs.YtmkdjmoifkffgaaGreatDoor
