/- Mqa: texts of this claim, one behind the other: Wa. No condition. -/
import Derived.Test.YtomblhnchdokmaaGreatDoorMpW
namespace Go.Proofs.YtomblhnchdokmaaGreatDoor
set_option linter.unusedSimpArgs false
set_option linter.unusedVariables false
open Go.RowKit
set_option maxRecDepth 100000
noncomputable section
theorem sP0 : okV (treeR (evF Tryz.prog (gam []) (lam []) 100 343) shK0) = some shR0 := by rw [← fvF_eq Tryz.prog (gam []) (lam []) true 100 343]; kernel_rfl
theorem sP1 : okV (treeR (evF Tryz.prog (gam []) (lam []) 100 343) shK1) = some shR1 := by rw [← fvF_eq Tryz.prog (gam []) (lam []) true 100 343]; kernel_rfl
theorem sP2 : okV (treeR (evF Tryz.prog (gam []) (lam []) 100 343) shK2) = some shR2 := by rw [← fvF_eq Tryz.prog (gam []) (lam []) true 100 343]; kernel_rfl
theorem sP3 : okV (treeR (evF Tryz.prog (gam []) (lam []) 100 343) shK3) = some shR3 := by rw [← fvF_eq Tryz.prog (gam []) (lam []) true 100 343]; kernel_rfl
end
end Go.Proofs.YtomblhnchdokmaaGreatDoor
