import Derived.Test.YtmifmmpbmcfmpaaGreatDoorTa
set_option linter.unusedVariables false
set_option linter.unusedSimpArgs false
namespace Go.Proofs.YtmifmmpbmcfmpaaGreatDoor.S2T
open Go Go.S2
set_option maxRecDepth 100000
theorem okM4 : Memo.okA C1 1000 28 M4 = true := by decide +kernel
theorem okM5 : Memo.okA C1 1000 28 M5 = true := by decide +kernel
theorem okM6 : Memo.okA C1 1000 28 M6 = true := by decide +kernel
end Go.Proofs.YtmifmmpbmcfmpaaGreatDoor.S2T
