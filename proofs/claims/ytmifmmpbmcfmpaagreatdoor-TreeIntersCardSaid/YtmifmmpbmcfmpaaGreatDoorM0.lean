import Derived.Test.YtmifmmpbmcfmpaaGreatDoorTa
set_option linter.unusedVariables false
set_option linter.unusedSimpArgs false
namespace Go.Proofs.YtmifmmpbmcfmpaaGreatDoor.S2T
open Go Go.S2
set_option maxRecDepth 100000
theorem okM0 : Memo.okA C0 1000 107 M0 = true := by decide +kernel
theorem okM1 : Memo.okA C0 1000 166 M1 = true := by decide +kernel
theorem okM2 : Memo.okA C0 1000 109 M2 = true := by decide +kernel
theorem okM3 : Memo.okA C0 1000 135 M3 = true := by decide +kernel
end Go.Proofs.YtmifmmpbmcfmpaaGreatDoor.S2T
