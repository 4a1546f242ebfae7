import Derived.Test.YthhfobdhkndpgaaGreatDoorEvB
import Derived.Test.YthhfobdhkndpgaaGreatDoorTab
set_option linter.all false
/- The law's runs at 10, 11. -/
set_option maxRecDepth 100000
namespace Go.Proofs
open Go Go.Ev
theorem run10 : isT (callS tblS 5000 200 3 [.int .i64 (.ofNat 10)] utf8H) = true := by kernel_rfl
theorem run11 : isT (callS tblS 5000 200 3 [.int .i64 (.ofNat 11)] utf8H) = true := by kernel_rfl
end Go.Proofs
