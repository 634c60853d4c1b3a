/- Wd: a block's step, at the blocks that the page's example takes. No condition. -/
import Derived.Test.YtdeoodckpcnojaaGreatDoorW0
namespace Go.Proofs.YtdeoodckpcnojaaGreatDoor
set_option linter.unusedSimpArgs false
set_option linter.unusedVariables false
open Go.RowKit
set_option maxRecDepth 100000
noncomputable section
theorem sR4 : okV (treeR (evF Tryz.prog (gam []) (lam []) 100 288) shK4) = some shR4 := by rw [← fvF_eq Tryz.prog (gam []) (lam []) true 100 288]; kernel_rfl
theorem sR5 : okV (treeR (evF Tryz.prog (gam []) (lam []) 100 288) shK5) = some shR5 := by rw [← fvF_eq Tryz.prog (gam []) (lam []) true 100 288]; kernel_rfl
theorem sR6 : okV (treeR (evF Tryz.prog (gam []) (lam []) 100 288) shK6) = some shR6 := by rw [← fvF_eq Tryz.prog (gam []) (lam []) true 100 288]; kernel_rfl
theorem sR7 : okV (treeR (evF Tryz.prog (gam []) (lam []) 100 288) shK7) = some shR7 := by rw [← fvF_eq Tryz.prog (gam []) (lam []) true 100 288]; kernel_rfl
end
end Go.Proofs.YtdeoodckpcnojaaGreatDoor
