/- W5: the page's example of layer 23 is true. No condition. -/
import Derived.Test.YtdeoodckpcnojaaGreatDoorW4
namespace Go.Proofs.YtdeoodckpcnojaaGreatDoor
set_option linter.unusedSimpArgs false
set_option linter.unusedVariables false
open Go.RowKit
set_option maxRecDepth 100000
noncomputable section
-- FAST
-- FUEL 1000
-- DEFS
def peG (P : Program) : List (FuncId × Spec) :=
  kn P (pbG P) 48 :: kn P (pbG P) 119 :: kn P (pbG P) 50 :: kn P (pbG P) 79 :: kn P (pbG P) 127 :: kn P (pbG P) 129 ::
  kn P (pbG P) 134 ::  kn P (pbG P) 126 :: kn P (pbG P) 128 :: kn P [] 49 :: pbG P
def pcG (P : Program) : List (FuncId × Spec) :=
  me P (pbG P) 206 lsK lsR :: me P (pbG P) 38 dcK dcR :: me P (pbG P) 40 akK akR :: me P (pbG P) 41 ckcK ckcR :: me P (pbG P) 37 cfK cfR :: peG P
-- END
def awkK : List AV := []
def awkR : AV :=
    (AV.sc true (Value.bool true))
theorem awk : okV (treeR (evF Tryz.prog (gam (pcG Tryz.prog)) (lam ([])) 1000 17) awkK) = some awkR := by rw [← fvF_eq Tryz.prog (gam (pcG Tryz.prog)) (lam ([])) true 1000 17]; kernel_rfl
end
end Go.Proofs.YtdeoodckpcnojaaGreatDoor
