/- Mqb: texts of this claim, one behind the other: Wb. No condition. -/
import Derived.Test.YtomblhnchdokmaaGreatDoorMpW
namespace Go.Proofs.YtomblhnchdokmaaGreatDoor
set_option linter.unusedSimpArgs false
set_option linter.unusedVariables false
open Go.RowKit
set_option maxRecDepth 100000
noncomputable section
theorem sP4 : okV (treeR (evF Tryz.prog (gam []) (lam []) 100 343) shK4) = some shR4 := by rw [← fvF_eq Tryz.prog (gam []) (lam []) true 100 343]; kernel_rfl
theorem sP5 : okV (treeR (evF Tryz.prog (gam []) (lam []) 100 343) shK5) = some shR5 := by rw [← fvF_eq Tryz.prog (gam []) (lam []) true 100 343]; kernel_rfl
theorem sP6 : okV (treeR (evF Tryz.prog (gam []) (lam []) 100 343) shK6) = some shR6 := by rw [← fvF_eq Tryz.prog (gam []) (lam []) true 100 343]; kernel_rfl
theorem sP7 : okV (treeR (evF Tryz.prog (gam []) (lam []) 100 343) shK7) = some shR7 := by rw [← fvF_eq Tryz.prog (gam []) (lam []) true 100 343]; kernel_rfl
end
end Go.Proofs.YtomblhnchdokmaaGreatDoor
