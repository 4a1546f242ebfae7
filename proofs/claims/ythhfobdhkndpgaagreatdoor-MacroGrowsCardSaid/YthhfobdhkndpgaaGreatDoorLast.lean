import Derived.Test.YthhfobdhkndpgaaGreatDoorG0
import Derived.Test.YthhfobdhkndpgaaGreatDoorG1
import Derived.Test.YthhfobdhkndpgaaGreatDoorG2
import Derived.Test.YthhfobdhkndpgaaGreatDoorG3
import Derived.Test.YthhfobdhkndpgaaGreatDoorG4
import Derived.Test.YthhfobdhkndpgaaGreatDoorG5
import Derived.Test.YthhfobdhkndpgaaGreatDoorG6
import Derived.Test.YthhfobdhkndpgaaGreatDoorRow3
import Derived.Test.YthhfobdhkndpgaaGreatDoorRuns
set_option linter.all false
/- MacroGrows: the card. -/
namespace Go.Proofs.YthhfobdhkndpgaaGreatDoor
open Go.Ev
theorem runs (n : Int) : ∃ h', callS tblS 5000 200 3 [.int .i64 n] utf8H = some (.bool true, h') := by
  cases n with
  | negSucc m => exact ⟨_, runNeg m⟩
  | ofNat k =>
    by_cases h : 15 ≤ k
    · obtain ⟨j, rfl⟩ : ∃ j, k = j + 15 := ⟨k - 15, by omega⟩
      exact ⟨_, runFar j⟩
    · match k, h with
      | 0, _ => exact isT_some run0
      | 1, _ => exact isT_some run1
      | 2, _ => exact isT_some run2
      | 3, _ => exact isT_some run3
      | 4, _ => exact isT_some run4
      | 5, _ => exact isT_some run5
      | 6, _ => exact isT_some run6
      | 7, _ => exact isT_some run7
      | 8, _ => exact isT_some run8
      | 9, _ => exact isT_some run9
      | 10, _ => exact isT_some run10
      | 11, _ => exact isT_some run11
      | 12, _ => exact isT_some run12
      | 13, _ => exact isT_some run13
      | 14, _ => exact isT_some run14
      | k + 15, h => exact absurd (Nat.le_add_left 15 k) h
theorem macroGrows_card : Rows.MacroGrowsCardSaid := macroGrowsCard_of runs
end Go.Proofs.YthhfobdhkndpgaaGreatDoor
