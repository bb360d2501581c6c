import Derived.Test.YtmifmmpbmcfmpaaGreatDoorTa
set_option linter.unusedVariables false
set_option linter.unusedSimpArgs false
namespace Go.Proofs.YtmifmmpbmcfmpaaGreatDoor.S2T
open Go Go.S2
set_option maxRecDepth 100000
theorem okM7 : Memo.okA C2 1000 8 M7 = true := by decide +kernel
theorem okM8 : Memo.okA C2 1000 9 M8 = true := by decide +kernel
theorem okM9 : Memo.okA C2 1000 9 M9 = true := by decide +kernel
end Go.Proofs.YtmifmmpbmcfmpaaGreatDoor.S2T
