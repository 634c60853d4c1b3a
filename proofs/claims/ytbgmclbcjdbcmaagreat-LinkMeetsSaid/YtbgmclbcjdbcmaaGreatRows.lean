/-
  No cell of these rows narrows 'for every input' (looked for: loops, veiled, ifaces, maps, wideKeys, modest, calm, conditions, laid).
  DERIVED. THE GIVEN ROWS OF THIS SEAT. 4 by the template 'for every input the law returns true; each argument reads behind the call as it read before'; 0 by the template 'total and deterministic' (their statements: YtbgmclbcjdbcmaaGreatTotals.lean).
  GIVEN WITH THE SEED: the statements are not yours to turn. If you find one false, say at which input.
  Laid BY PROGRAM, IN A SANDBOX (cutbox-rows.mjs): the forced cells as the released guide's own fill.sh prints them over the translation 50d89ece1631f56a… (all of the seat's roots in one cut). By AI agents, Wed Nov 11 2026. No macro, syntax, notation, axiom, sorry.
-/
import Derived.Test.YtbgmclbcjdbcmaaGreatChecked
import GoSem.Claim
import GoSem.ClaimJoined
import GoSem.ClaimMapViews
import Derived.JoinedTies
import Derived.KernelRfl
namespace Go.Proofs.YtbgmclbcjdbcmaaGreat
/- THE CELL 'sum', in the pinned program and in every row, IS THE sha256 OF THE DUMP (.gsa) THAT YtbgmclbcjdbcmaaGreatProg.lean LOADS. Nothing in Lean hashes anything: it is a label: what it is worth is what the hold of that sum in a sandbox is worth. -/
noncomputable def Tryz.pinned : Pinned := { name := "ytbgmclbcjdbcmaagreat", sum := "50d89ece1631f56ace8c6c65516d6c939f77b8060658ffa03bf6382d8b890823", checked := Tryz.checked }
namespace Rows
def none {H : Type} : Left H := { results := [], args := [] }

/-- 'conciergelaw19.LinkMeets': WHATEVER THE INPUT: true; the input reads as it did. -/
def linkMeetsSpec : ChangeSpec := { name := "linkMeets", fn := fun _ => fun
  | [d1, d2, d3] => { results := [.lit (.bool true)], args := [d1, d2, d3] }
  | _ => none }
def linkMeetsRow : OpenClaim := { program := "ytbgmclbcjdbcmaagreat", sum := "50d89ece1631f56ace8c6c65516d6c939f77b8060658ffa03bf6382d8b890823", func := "concierge/conciergelaw19.LinkMeets", spec := "linkMeets", unfollowed := true, recurses := true, apart := false }
def LinkMeetsSaid : Prop := linkMeetsRow.holds Tryz.pinned (OpenSpec.ofChange linkMeetsSpec)

/-- ITS FALSE NEIGHBOUR: 'it returns false'. Refute it at one input. -/
def linkMeetsWrong : ChangeSpec := { name := "linkMeets", fn := fun _ => fun
  | [d1, d2, d3] => { results := [.lit (.bool false)], args := [d1, d2, d3] }
  | _ => none }
def LinkMeetsWrongFalsely : Prop := linkMeetsRow.holds Tryz.pinned (OpenSpec.ofChange linkMeetsWrong)

/-- 'conciergelaw19.LinkSteps': WHATEVER THE INPUT: true; the input reads as it did. -/
def linkStepsSpec : ChangeSpec := { name := "linkSteps", fn := fun _ => fun
  | [d1, d2, d3, d4] => { results := [.lit (.bool true)], args := [d1, d2, d3, d4] }
  | _ => none }
def linkStepsRow : OpenClaim := { program := "ytbgmclbcjdbcmaagreat", sum := "50d89ece1631f56ace8c6c65516d6c939f77b8060658ffa03bf6382d8b890823", func := "concierge/conciergelaw19.LinkSteps", spec := "linkSteps", unfollowed := true, recurses := true, apart := false }
def LinkStepsSaid : Prop := linkStepsRow.holds Tryz.pinned (OpenSpec.ofChange linkStepsSpec)

/-- ITS FALSE NEIGHBOUR: 'it returns false'. Refute it at one input. -/
def linkStepsWrong : ChangeSpec := { name := "linkSteps", fn := fun _ => fun
  | [d1, d2, d3, d4] => { results := [.lit (.bool false)], args := [d1, d2, d3, d4] }
  | _ => none }
def LinkStepsWrongFalsely : Prop := linkStepsRow.holds Tryz.pinned (OpenSpec.ofChange linkStepsWrong)

/-- 'conciergelaw19.LinkRuns': WHATEVER THE INPUT: true; the input reads as it did. -/
def linkRunsSpec : ChangeSpec := { name := "linkRuns", fn := fun _ => fun
  | [d1, d2, d3] => { results := [.lit (.bool true)], args := [d1, d2, d3] }
  | _ => none }
def linkRunsRow : OpenClaim := { program := "ytbgmclbcjdbcmaagreat", sum := "50d89ece1631f56ace8c6c65516d6c939f77b8060658ffa03bf6382d8b890823", func := "concierge/conciergelaw19.LinkRuns", spec := "linkRuns", unfollowed := true, recurses := true, apart := false }
def LinkRunsSaid : Prop := linkRunsRow.holds Tryz.pinned (OpenSpec.ofChange linkRunsSpec)

/-- ITS FALSE NEIGHBOUR: 'it returns false'. Refute it at one input. -/
def linkRunsWrong : ChangeSpec := { name := "linkRuns", fn := fun _ => fun
  | [d1, d2, d3] => { results := [.lit (.bool false)], args := [d1, d2, d3] }
  | _ => none }
def LinkRunsWrongFalsely : Prop := linkRunsRow.holds Tryz.pinned (OpenSpec.ofChange linkRunsWrong)

/-- 'conciergelaw19.LinkOver': WHATEVER THE INPUT: true; the input reads as it did. -/
def linkOverSpec : ChangeSpec := { name := "linkOver", fn := fun _ => fun
  | [d1, d2] => { results := [.lit (.bool true)], args := [d1, d2] }
  | _ => none }
def linkOverRow : OpenClaim := { program := "ytbgmclbcjdbcmaagreat", sum := "50d89ece1631f56ace8c6c65516d6c939f77b8060658ffa03bf6382d8b890823", func := "concierge/conciergelaw19.LinkOver", spec := "linkOver", unfollowed := true, recurses := true, apart := false }
def LinkOverSaid : Prop := linkOverRow.holds Tryz.pinned (OpenSpec.ofChange linkOverSpec)

/-- ITS FALSE NEIGHBOUR: 'it returns false'. Refute it at one input. -/
def linkOverWrong : ChangeSpec := { name := "linkOver", fn := fun _ => fun
  | [d1, d2] => { results := [.lit (.bool false)], args := [d1, d2] }
  | _ => none }
def LinkOverWrongFalsely : Prop := linkOverRow.holds Tryz.pinned (OpenSpec.ofChange linkOverWrong)

/- THE SECOND FORM. 'bulk': how many values and letters a reading holds, each counted each time it is reached (what is shared counts as often as it is met; a slice's spare places count too). A statement '..UptoSaid' is the law's where the arguments, and the package variables that the reading takes, are together of bulk at most 1048576: NARROWER than '..Said'. Prove '..Said' where nothing that the law and all that it calls make is longer than what came in: it says more and counts as full. Else prove '..UptoSaid'. A law counts once. -/
mutual
def uptoBulk {H : Type} : DataW H → Nat
  | .lit (.string bytes) => bytes.length + 1
  | .lit _ => 1
  | .nil => 1
  | .ptr d => uptoBulk d + 1
  | .slice elems spare => uptoBulkAll elems + uptoBulkAll spare + 1
  | .agg parts => uptoBulkAll parts + 1
  | .iface _ d => uptoBulk d + 1
  | .map entries => uptoBulkEntries entries + 1
  | .held _ => 1
def uptoBulkAll {H : Type} : List (DataW H) → Nat
  | [] => 0
  | d :: r => uptoBulk d + uptoBulkAll r
def uptoBulkEntries {H : Type} : List (Lit × DataW H) → Nat
  | [] => 0
  | x :: r => uptoBulkEntry x + uptoBulkEntries r
def uptoBulkEntry {H : Type} : Lit × DataW H → Nat
  | (.string bytes, d) => bytes.length + uptoBulk d + 1
  | (_, d) => uptoBulk d + 1
 end
def uptoSmall : (H : Type) → List (DataW H) → Bool := fun _ ds => decide (uptoBulkAll ds ≤ 1048576)
def OpenSpec.upto (s : _root_.Go.ChangeSpec) : _root_.Go.OpenSpec := { _root_.Go.OpenSpec.ofChange s with cond := some uptoSmall }

/-- 'conciergelaw19.LinkMeets', WHERE WHAT IT READS IS OF BULK AT MOST 1048576: true; the input reads as it did. -/
def linkMeetsUptoRow : OpenClaim := { program := "ytbgmclbcjdbcmaagreat", sum := "50d89ece1631f56ace8c6c65516d6c939f77b8060658ffa03bf6382d8b890823", func := "concierge/conciergelaw19.LinkMeets", spec := "linkMeets", unfollowed := true, recurses := true, apart := false, narrowed := true }
def LinkMeetsUptoSaid : Prop := linkMeetsUptoRow.holds Tryz.pinned (OpenSpec.upto linkMeetsSpec)

/-- 'conciergelaw19.LinkSteps', WHERE WHAT IT READS IS OF BULK AT MOST 1048576: true; the input reads as it did. -/
def linkStepsUptoRow : OpenClaim := { program := "ytbgmclbcjdbcmaagreat", sum := "50d89ece1631f56ace8c6c65516d6c939f77b8060658ffa03bf6382d8b890823", func := "concierge/conciergelaw19.LinkSteps", spec := "linkSteps", unfollowed := true, recurses := true, apart := false, narrowed := true }
def LinkStepsUptoSaid : Prop := linkStepsUptoRow.holds Tryz.pinned (OpenSpec.upto linkStepsSpec)

/-- 'conciergelaw19.LinkRuns', WHERE WHAT IT READS IS OF BULK AT MOST 1048576: true; the input reads as it did. -/
def linkRunsUptoRow : OpenClaim := { program := "ytbgmclbcjdbcmaagreat", sum := "50d89ece1631f56ace8c6c65516d6c939f77b8060658ffa03bf6382d8b890823", func := "concierge/conciergelaw19.LinkRuns", spec := "linkRuns", unfollowed := true, recurses := true, apart := false, narrowed := true }
def LinkRunsUptoSaid : Prop := linkRunsUptoRow.holds Tryz.pinned (OpenSpec.upto linkRunsSpec)

/-- 'conciergelaw19.LinkOver', WHERE WHAT IT READS IS OF BULK AT MOST 1048576: true; the input reads as it did. -/
def linkOverUptoRow : OpenClaim := { program := "ytbgmclbcjdbcmaagreat", sum := "50d89ece1631f56ace8c6c65516d6c939f77b8060658ffa03bf6382d8b890823", func := "concierge/conciergelaw19.LinkOver", spec := "linkOver", unfollowed := true, recurses := true, apart := false, narrowed := true }
def LinkOverUptoSaid : Prop := linkOverUptoRow.holds Tryz.pinned (OpenSpec.upto linkOverSpec)

end Rows
end Go.Proofs.YtbgmclbcjdbcmaaGreat
