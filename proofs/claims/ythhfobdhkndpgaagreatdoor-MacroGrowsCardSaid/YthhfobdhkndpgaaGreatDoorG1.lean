import Derived.Test.YthhfobdhkndpgaaGreatDoorEvB
import Derived.Test.YthhfobdhkndpgaaGreatDoorTab
set_option linter.all false
/- The law's runs at 5, 6, 7. -/
set_option maxRecDepth 100000
namespace Go.Proofs
open Go Go.Ev
theorem run5 : isT (callS tblS 5000 200 3 [.int .i64 (.ofNat 5)] utf8H) = true := by kernel_rfl
theorem run6 : isT (callS tblS 5000 200 3 [.int .i64 (.ofNat 6)] utf8H) = true := by kernel_rfl
theorem run7 : isT (callS tblS 5000 200 3 [.int .i64 (.ofNat 7)] utf8H) = true := by kernel_rfl
end Go.Proofs
