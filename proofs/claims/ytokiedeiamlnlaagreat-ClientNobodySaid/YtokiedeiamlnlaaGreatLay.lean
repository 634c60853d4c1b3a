/- Lay: what the listed package variables hold. -/
import GoSem.Core.World
namespace Go.Proofs.YtokiedeiamlnlaaGreat
set_option linter.unusedSimpArgs false
set_option linter.unusedVariables false
def layT : List (Nat × List Value) := []
end Go.Proofs.YtokiedeiamlnlaaGreat
