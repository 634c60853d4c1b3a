/- JPnb: closed facts of the row and of its card. No condition. -/
import Derived.Test.YtdeoodckpcnojaaGreatDoorRows
import Derived.Test.YtdeoodckpcnojaaGreatDoorFrame
namespace Go.Proofs.YtdeoodckpcnojaaGreatDoor.plainNobodyDone
set_option linter.unusedSimpArgs false
set_option linter.unusedVariables false
open Go.RowKit
set_option maxRecDepth 100000
theorem own : ownKnob Tryz.prog.godebug = none := by kernel_rfl
theorem laidOut : laidOutB Tryz.prog = true := by kernel_rfl
theorem jNamedF : Tryz.prog.funcNamed Rows.plainNobodyRow.func = some 3 := by kernel_rfl
theorem jInPlace : Tryz.prog.inPlace 3 = Rows.plainNobodyRow.inPlace := by kernel_rfl
theorem jUnf : Tryz.prog.unfollowed 3 = Rows.plainNobodyRow.unfollowed := by kernel_rfl
theorem jRec : Tryz.prog.recurses 3 = Rows.plainNobodyRow.recurses := by kernel_rfl
theorem jVars : Tryz.prog.varsNamed 3 = Rows.plainNobodyRow.named := by kernel_rfl
theorem jf : joinedFacts Tryz.prog 3 Tryz.f3 Rows.plainNobodySpec Rows.plainNobodyRow = true := by
  unfold joinedFacts
  rw [jInPlace, jUnf, jRec, jVars]
  kernel_rfl
theorem jWrap : Tryz.f3.isWrapper Tryz.prog Rows.plainNobodyRow.wrapper Rows.plainNobodyRow.mainSum := by
  unfold Func.isWrapper; first | (rw [if_pos (by decide +kernel)]; kernel_rfl) | (rw [if_neg (by decide +kernel)]; exact ⟨rfl, rfl⟩)
theorem jInst : decide (Tryz.f3.isInstance Tryz.prog Rows.plainNobodyRow.origin Rows.plainNobodyRow.targs) = true := by kernel_rfl
theorem kWf : Rows.plainNobodyRow.wfByText (OpenSpec.ofChange Rows.plainNobodySpec) = true := by kernel_rfl
theorem kMain : Tryz.prog.mainIs = some (true, "412ab2785a3727fe0037bbddfc44d5ba9e00ecbf3155345ba4d7cb86c0263f6b".toList) := by kernel_rfl
theorem kLooks : false = Tryz.prog.looks [] := by kernel_rfl
theorem kStand : ([25].all fun u => !Tryz.prog.wantsStandIn u) = true := by kernel_rfl
theorem kGoes : false = Rows.plainNobodyRow.goesBy Tryz.prog := by kernel_rfl
end Go.Proofs.YtdeoodckpcnojaaGreatDoor.plainNobodyDone
