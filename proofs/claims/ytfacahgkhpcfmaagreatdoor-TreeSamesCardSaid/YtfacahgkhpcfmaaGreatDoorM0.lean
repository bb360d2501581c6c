import Derived.Test.YtfacahgkhpcfmaaGreatDoorTa
set_option linter.unusedVariables false
set_option linter.unusedSimpArgs false
namespace Go.Proofs.YtfacahgkhpcfmaaGreatDoor.S2T
open Go Go.S2
set_option maxRecDepth 100000
theorem okM0 : Memo.okA C0 1000 18 M0 = true := by decide +kernel
theorem okM1 : Memo.okA C0 1000 111 M1 = true := by decide +kernel
theorem okM2 : Memo.okA C0 1000 21 M2 = true := by decide +kernel
theorem okM3 : Memo.okA C0 1000 96 M3 = true := by decide +kernel
end Go.Proofs.YtfacahgkhpcfmaaGreatDoor.S2T
