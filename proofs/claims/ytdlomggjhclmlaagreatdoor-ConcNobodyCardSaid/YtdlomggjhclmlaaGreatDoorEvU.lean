/- EvU: a law is true where its tree says so; listed variables. No condition. -/
import Derived.Test.YtdlomggjhclmlaaGreatDoorEvH
namespace Go.Proofs.YtdlomggjhclmlaaGreatDoor
set_option linter.unusedSimpArgs false
set_option linter.unusedVariables false
open Go.RowKit
/-- a law's tree ends in true (hidden from the elaborator) -/
structure Tru (t : RT AV) : Prop where
  h : t.holds fun r => Le r (.sc false (.bool true))
theorem law_callsL {P : Program} {f : FuncId} {sp : Spec} (hs : SoundF P f sp) {w : World} (hl : Laid (env0 w)) {args : List AV} {vals : List Value} (hr : RelL (env0 w) args vals) (H : Tru (treeF sp args)) :
    Calls P f vals.toArray w fun e w' => e = .returned (.bool true) ∧ Below w.heap.size w w' := law_calls hs hr H.h hl
end Go.Proofs.YtdlomggjhclmlaaGreatDoor
