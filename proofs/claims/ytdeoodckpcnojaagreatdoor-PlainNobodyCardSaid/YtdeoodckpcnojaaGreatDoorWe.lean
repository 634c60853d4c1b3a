/- We: a block's step as a contract. No condition. -/
import Derived.Test.YtdeoodckpcnojaaGreatDoorW1
import Derived.Test.YtdeoodckpcnojaaGreatDoorWa
import Derived.Test.YtdeoodckpcnojaaGreatDoorWb
import Derived.Test.YtdeoodckpcnojaaGreatDoorWc
import Derived.Test.YtdeoodckpcnojaaGreatDoorWd
namespace Go.Proofs.YtdeoodckpcnojaaGreatDoor
set_option linter.unusedSimpArgs false
set_option linter.unusedVariables false
open Go.RowKit
set_option maxRecDepth 100000
noncomputable section
theorem mixed : Fit Tryz.prog := ⟨by kernel_rfl, by kernel_rfl⟩
theorem shG_ok : GamL Tryz.prog (shG Tryz.prog) := by
  have ev : ∀ f, SoundF Tryz.prog f (evF Tryz.prog (gam []) (lam []) 100 f) := fun f => evF_ok mixed (gam_ok (l := []) trivial) (lam_ok (l := []) trivial) 100 f
  exact ⟨memo_ok (memo_ok (memo_ok (memo_ok (memo_ok (memo_ok (memo_ok (memo_ok (ev _) (ev _) sP7) (ev _) sP6) (ev _) sP5) (ev _) sP4) (ev _) sP3) (ev _) sP2) (ev _) sP1) (ev _) sP0,
    memo_ok (memo_ok (memo_ok (memo_ok (memo_ok (memo_ok (memo_ok (memo_ok (ev _) (ev _) sR7) (ev _) sR6) (ev _) sR5) (ev _) sR4) (ev _) sR3) (ev _) sR2) (ev _) sR1) (ev _) sR0, trivial⟩
end
end Go.Proofs.YtdeoodckpcnojaaGreatDoor
