import Derived.Test.YthhfobdhkndpgaaGreatDoorEvB
import Derived.Test.YthhfobdhkndpgaaGreatDoorTab
set_option linter.all false
/- The law's runs at 12. -/
set_option maxRecDepth 100000
namespace Go.Proofs
open Go Go.Ev
theorem run12 : isT (callS tblS 5000 200 3 [.int .i64 (.ofNat 12)] utf8H) = true := by kernel_rfl
end Go.Proofs
