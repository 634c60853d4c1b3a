/- V6: the page's example of layer 25 is true. No condition. -/
import Derived.Test.YtdlomggjhclmlaaGreatDoorV5
import Derived.Test.YtdlomggjhclmlaaGreatDoorVs1
import Derived.Test.YtdlomggjhclmlaaGreatDoorVs2
import Derived.Test.YtdlomggjhclmlaaGreatDoorVs3
import Derived.Test.YtdlomggjhclmlaaGreatDoorVs4
import Derived.Test.YtdlomggjhclmlaaGreatDoorVs5
import Derived.Test.YtdlomggjhclmlaaGreatDoorVs6
namespace Go.Proofs.YtdlomggjhclmlaaGreatDoor
set_option linter.unusedSimpArgs false
set_option linter.unusedVariables false
open Go.RowKit
set_option maxRecDepth 100000
noncomputable section
-- FAST
-- DEFS
def awG (P : Program) : List (FuncId × Spec) := (60, memoH sA1 sH1 sT1 badS) :: (5, memoH sA2 sH2 sT2 (memoH sA3 sH3 sT3 (memoH sA4 sH4 sT4 (memoH sA5 sH5 sT5 (memoH sA6 sH6 sT6 badS))))) :: rdG P
-- END
def awkK : List AV := []
def awkR : AV :=
    (AV.sc true (Value.bool true))
theorem awk : okV (treeR (evF Tryz.prog (gam (awG Tryz.prog)) (lam ([])) 100 16) awkK) = some awkR := by rw [← fvF_eq Tryz.prog (gam (awG Tryz.prog)) (lam ([])) true 100 16]; kernel_rfl
end
end Go.Proofs.YtdlomggjhclmlaaGreatDoor
