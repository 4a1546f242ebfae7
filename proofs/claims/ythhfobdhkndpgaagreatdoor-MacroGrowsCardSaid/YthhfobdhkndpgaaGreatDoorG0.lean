import Derived.Test.YthhfobdhkndpgaaGreatDoorEvB
import Derived.Test.YthhfobdhkndpgaaGreatDoorTab
set_option linter.all false
/- The law's runs at 0, 1, 2, 3, 4. -/
set_option maxRecDepth 100000
namespace Go.Proofs
open Go Go.Ev
theorem run0 : isT (callS tblS 5000 200 3 [.int .i64 (.ofNat 0)] utf8H) = true := by kernel_rfl
theorem run1 : isT (callS tblS 5000 200 3 [.int .i64 (.ofNat 1)] utf8H) = true := by kernel_rfl
theorem run2 : isT (callS tblS 5000 200 3 [.int .i64 (.ofNat 2)] utf8H) = true := by kernel_rfl
theorem run3 : isT (callS tblS 5000 200 3 [.int .i64 (.ofNat 3)] utf8H) = true := by kernel_rfl
theorem run4 : isT (callS tblS 5000 200 3 [.int .i64 (.ofNat 4)] utf8H) = true := by kernel_rfl
end Go.Proofs
