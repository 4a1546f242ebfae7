import Derived.Test.YthhfobdhkndpgaaGreatDoorEvB
import Derived.Test.YthhfobdhkndpgaaGreatDoorTab
set_option linter.all false
/- The law's runs out of range. -/
set_option maxRecDepth 100000
namespace Go.Proofs
open Go Go.Ev
theorem runNeg (m : Nat) : callS tblS 5000 200 3 [.int .i64 (.negSucc m)] utf8H = some (.bool true, utf8H) := by kernel_rfl
theorem runFar (k : Nat) : callS tblS 5000 200 3 [.int .i64 (.ofNat (k + 15))] utf8H = some (.bool true, utf8H) := by kernel_rfl
end Go.Proofs
