/- Wb: a block's step, at the blocks that the page's example takes. No condition. -/
import Derived.Test.YtdlomggjhclmlaaGreatDoorW0
namespace Go.Proofs.YtdlomggjhclmlaaGreatDoor
set_option linter.unusedSimpArgs false
set_option linter.unusedVariables false
open Go.RowKit
set_option maxRecDepth 100000
noncomputable section
theorem sP4 : okV (treeR (evF Tryz.prog (gam []) (lam []) 100 391) shK4) = some shR4 := by rw [← fvF_eq Tryz.prog (gam []) (lam []) true 100 391]; kernel_rfl
theorem sP5 : okV (treeR (evF Tryz.prog (gam []) (lam []) 100 391) shK5) = some shR5 := by rw [← fvF_eq Tryz.prog (gam []) (lam []) true 100 391]; kernel_rfl
theorem sP6 : okV (treeR (evF Tryz.prog (gam []) (lam []) 100 391) shK6) = some shR6 := by rw [← fvF_eq Tryz.prog (gam []) (lam []) true 100 391]; kernel_rfl
theorem sP7 : okV (treeR (evF Tryz.prog (gam []) (lam []) 100 391) shK7) = some shR7 := by rw [← fvF_eq Tryz.prog (gam []) (lam []) true 100 391]; kernel_rfl
end
end Go.Proofs.YtdlomggjhclmlaaGreatDoor
