import Derived.Test.YtmifmmpbmcfmpaaGreatDoorTa
set_option linter.unusedVariables false
set_option linter.unusedSimpArgs false
namespace Go.Proofs.YtmifmmpbmcfmpaaGreatDoor.S2T
open Go Go.S2
set_option maxRecDepth 100000
theorem okM10 : Memo.okA C3 1000 4 M10 = true := by decide +kernel
end Go.Proofs.YtmifmmpbmcfmpaaGreatDoor.S2T
