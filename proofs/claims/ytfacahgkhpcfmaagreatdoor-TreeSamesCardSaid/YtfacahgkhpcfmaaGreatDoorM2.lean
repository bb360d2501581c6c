import Derived.Test.YtfacahgkhpcfmaaGreatDoorTa
set_option linter.unusedVariables false
set_option linter.unusedSimpArgs false
namespace Go.Proofs.YtfacahgkhpcfmaaGreatDoor.S2T
open Go Go.S2
set_option maxRecDepth 100000
theorem okM7 : Memo.okA C2 1000 15 M7 = true := by decide +kernel
theorem okM8 : Memo.okA C2 1000 16 M8 = true := by decide +kernel
theorem okM9 : Memo.okA C2 1000 16 M9 = true := by decide +kernel
end Go.Proofs.YtfacahgkhpcfmaaGreatDoor.S2T
