/- W2: the document's cookie of the page. No condition. -/
import Derived.Test.YtdeoodckpcnojaaGreatDoorW1
namespace Go.Proofs.YtdeoodckpcnojaaGreatDoor
set_option linter.unusedSimpArgs false
set_option linter.unusedVariables false
open Go.RowKit
set_option maxRecDepth 100000
noncomputable section
-- FAST
-- FUEL 1000
-- DEFS
def rsS (P : Program) : Spec := memoS P 242 su0K su0R (memoS P 242 su1K su1R (memoS P 242 su2K su2R (memoS P 242 su3K su3R (evF P (gam (shG P)) (lam []) 100 242))))
def rsG (P : Program) : List (FuncId × Spec) := (242, rsS P) :: shG P
-- END
def ckRK : List AV := [.agg [by1 [107, 101, 121], .sc true (.int .i64 10)], .agg mac6, by1 [117], .sc true (.int .i64 0)]
def ckRR : AV :=
    (AV.sl true [Sh.int IntKind.u8]
        (D.l
          [D.t [D.ki 117], D.t [D.ki 136], D.t [D.ki 213], D.t [D.ki 150], D.t [D.ki 238], D.t [D.ki 211], D.t [D.ki 104],
            D.t [D.ki 67], D.t [D.ki 116], D.t [D.ki 52], D.t [D.ki 220], D.t [D.ki 86], D.t [D.ki 164], D.t [D.ki 117],
            D.t [D.ki 184], D.t [D.ki 166], D.t [D.ki 70], D.t [D.ki 77], D.t [D.ki 115], D.t [D.ki 178], D.t [D.ki 191],
            D.t [D.ki 187], D.t [D.ki 142], D.t [D.ki 147], D.t [D.ki 38], D.t [D.ki 118], D.t [D.ki 156], D.t [D.ki 202],
            D.t [D.ki 249], D.t [D.ki 144], D.t [D.ki 222], D.t [D.ki 165]])
        none)
theorem ckR : okV (treeR (evF Tryz.prog (gam (rsG Tryz.prog)) (lam ([])) 1000 114) ckRK) = some ckRR := by rw [← fvF_eq Tryz.prog (gam (rsG Tryz.prog)) (lam ([])) true 1000 114]; kernel_rfl
end
end Go.Proofs.YtdeoodckpcnojaaGreatDoor
