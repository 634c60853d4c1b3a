/- V4: parts of the page's example of layer 25. No condition. -/
import Derived.Test.YtdlomggjhclmlaaGreatDoorV3
namespace Go.Proofs.YtdlomggjhclmlaaGreatDoor
set_option linter.unusedSimpArgs false
set_option linter.unusedVariables false
open Go.RowKit
set_option maxRecDepth 100000
noncomputable section
-- FAST
-- FUEL 1000
-- DEFS
def pbG (P : Program) : List (FuncId × Spec) :=
  me P (paG P) 253 ln1K ln1R ::
  (115, mergeS (evF P (gam (paG P)) (lam []) 100 115)) :: paG P
-- END
def ckcK : List AV := [cfR]
def ckcR : AV :=
    (AV.sc true (Value.int IntKind.i64 0))
theorem ckc : okV (treeR (evF Tryz.prog (gam (pbG Tryz.prog)) (lam ([])) 1000 168) ckcK) = some ckcR := by rw [← fvF_eq Tryz.prog (gam (pbG Tryz.prog)) (lam ([])) true 1000 168]; kernel_rfl
end
end Go.Proofs.YtdlomggjhclmlaaGreatDoor
