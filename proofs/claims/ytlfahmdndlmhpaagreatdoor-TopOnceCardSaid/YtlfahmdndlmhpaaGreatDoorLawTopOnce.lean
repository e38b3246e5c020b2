/- TopOnce: of every list of items that there may be in memory the law returns true: each content of what is pressed stands at one place, and the contents are as long as the unlike ones together. -/
import Derived.Test.YtlfahmdndlmhpaaGreatDoorCardTopOnce
import Derived.Test.YtlfahmdndlmhpaaGreatDoorTopOnce
namespace Go.Proofs.YtlfahmdndlmhpaaGreatDoor.topOnce
open Go.RowKit
theorem walk : Walk := by
  intro w A0 n0 c0 L0 hr0 hn0 hp0 hz0 hm0 hc0
  exact once_any w A0 n0 c0 L0 hr0 hn0 hp0 hz0 hm0
theorem proved : Rows.TopOnceCardSaid := card walk
end Go.Proofs.YtlfahmdndlmhpaaGreatDoor.topOnce
