import Derived.Test.YthhfobdhkndpgaaGreatDoorEvB
import Derived.Test.YthhfobdhkndpgaaGreatDoorTab
set_option linter.all false
/- The law's runs at 8, 9. -/
set_option maxRecDepth 100000
namespace Go.Proofs
open Go Go.Ev
theorem run8 : isT (callS tblS 5000 200 3 [.int .i64 (.ofNat 8)] utf8H) = true := by kernel_rfl
theorem run9 : isT (callS tblS 5000 200 3 [.int .i64 (.ofNat 9)] utf8H) = true := by kernel_rfl
end Go.Proofs
