/- Wi: a block's step, at two more blocks. No condition. -/
import Derived.Test.YtdlomggjhclmlaaGreatDoorWj
namespace Go.Proofs.YtdlomggjhclmlaaGreatDoor
set_option linter.unusedSimpArgs false
set_option linter.unusedVariables false
open Go.RowKit
set_option maxRecDepth 100000
noncomputable section
theorem sP8 : okV (treeR (evF Tryz.prog (gam []) (lam []) 100 391) shK8) = some shR8 := by rw [← fvF_eq Tryz.prog (gam []) (lam []) true 100 391]; kernel_rfl
theorem sP9 : okV (treeR (evF Tryz.prog (gam []) (lam []) 100 391) shK9) = some shR9 := by rw [← fvF_eq Tryz.prog (gam []) (lam []) true 100 391]; kernel_rfl
end
end Go.Proofs.YtdlomggjhclmlaaGreatDoor
