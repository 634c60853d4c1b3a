/- V8: the law's tree. No condition. -/
import Derived.Test.YtdlomggjhclmlaaGreatDoorV6
namespace Go.Proofs.YtdlomggjhclmlaaGreatDoor
set_option linter.unusedSimpArgs false
set_option linter.unusedVariables false
open Go.RowKit
set_option maxRecDepth 100000
noncomputable section
-- FAST
-- DEFS
def cnG (P : Program) : List (FuncId × Spec) := [me P (awG P) 16 awkK awkR]
-- END
theorem law (kd n : Int) (d : D) : treeF (evF Tryz.prog (gam (cnG Tryz.prog)) (lam ([])) 100 3) [.agg [.sc false (.int .i64 kd), .sl false [.int .u8] d none, .sc false (.int .i64 n)]] =
    RT.br
      (decide
        ((0 : Int) ≤ 0 ∧
          0 ≤ imin (↑(D.len d) : Int) 1600 ∧
            imin (↑(D.len d) : Int) 1600 ≤ (↑(D.len d) : Int) ∧ (↑(D.len d) : Int) ≤ (↑(D.len d) : Int)))
      (RT.br
        (decide
          ((0 : Int) ≤ 0 ∧
            0 ≤ imin (↑(D.len d) : Int) 1600 ∧
              imin (↑(D.len d) : Int) 1600 ≤ (↑(D.len d) : Int) ∧ (↑(D.len d) : Int) ≤ (↑(D.len d) : Int)))
        (RT.ok (AV.sc true (Value.bool true))) (RT.bad 37))
      (RT.bad 37) := by rw [← fvF_eq Tryz.prog (gam (cnG Tryz.prog)) (lam ([])) false 100 3]; kernel_rfl
end
end Go.Proofs.YtdlomggjhclmlaaGreatDoor
