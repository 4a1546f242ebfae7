import Derived.Test.YthhfobdhkndpgaaGreatDoorEvB
import Derived.Test.YthhfobdhkndpgaaGreatDoorTab
set_option linter.all false
/- The law's runs at 14. -/
set_option maxRecDepth 100000
namespace Go.Proofs
open Go Go.Ev
theorem run14 : isT (callS tblS 5000 200 3 [.int .i64 (.ofNat 14)] utf8H) = true := by kernel_rfl
end Go.Proofs
