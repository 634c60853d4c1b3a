/- Mqc: texts of this claim, one behind the other: Wc. No condition. -/
import Derived.Test.YtomblhnchdokmaaGreatDoorMpW
namespace Go.Proofs.YtomblhnchdokmaaGreatDoor
set_option linter.unusedSimpArgs false
set_option linter.unusedVariables false
open Go.RowKit
set_option maxRecDepth 100000
noncomputable section
theorem sR0 : okV (treeR (evF Tryz.prog (gam []) (lam []) 100 271) shK0) = some shR0 := by rw [← fvF_eq Tryz.prog (gam []) (lam []) true 100 271]; kernel_rfl
theorem sR1 : okV (treeR (evF Tryz.prog (gam []) (lam []) 100 271) shK1) = some shR1 := by rw [← fvF_eq Tryz.prog (gam []) (lam []) true 100 271]; kernel_rfl
theorem sR2 : okV (treeR (evF Tryz.prog (gam []) (lam []) 100 271) shK2) = some shR2 := by rw [← fvF_eq Tryz.prog (gam []) (lam []) true 100 271]; kernel_rfl
theorem sR3 : okV (treeR (evF Tryz.prog (gam []) (lam []) 100 271) shK3) = some shR3 := by rw [← fvF_eq Tryz.prog (gam []) (lam []) true 100 271]; kernel_rfl
end
end Go.Proofs.YtomblhnchdokmaaGreatDoor
