/- V5: the tables of the page's example of layer 25. No condition. -/
import Derived.Test.YtdlomggjhclmlaaGreatDoorV4
import Derived.Test.YtdlomggjhclmlaaGreatDoorEvGc
namespace Go.Proofs.YtdlomggjhclmlaaGreatDoor
set_option linter.unusedSimpArgs false
set_option linter.unusedVariables false
open Go.RowKit
set_option maxRecDepth 100000
noncomputable section
def peG (P : Program) : List (FuncId × Spec) :=
  kn P (pbG P) 219 :: kn P (pbG P) 250 :: kn P (pbG P) 221 :: kn P (pbG P) 181 :: kn P (pbG P) 202 ::
  kn P (pbG P) 201 :: kn P [] 220 :: pbG P
def pcG (P : Program) : List (FuncId × Spec) :=
  me P (plG P) 124 gatK gatR :: me P (pbG P) 168 ckcK ckcR :: me P (paG P) 37 dcK dcR :: me P (paG P) 36 cfK cfR :: peG P
def rdG (P : Program) : List (FuncId × Spec) := (7, rangeV P (pcG P) true 100 7) :: pcG P
end
end Go.Proofs.YtdlomggjhclmlaaGreatDoor
