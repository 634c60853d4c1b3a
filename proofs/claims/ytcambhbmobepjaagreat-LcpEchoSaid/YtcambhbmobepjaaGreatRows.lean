/-
  No cell of these rows narrows 'for every input' (looked for: loops, veiled, ifaces, maps, wideKeys, modest, calm, conditions, laid).
  DERIVED. THE GIVEN ROWS OF THIS SEAT. 5 by the template 'for every input the law returns true; each argument reads behind the call as it read before'; 0 by the template 'total and deterministic' (their statements: YtcambhbmobepjaaGreatTotals.lean).
  GIVEN WITH THE SEED: the statements are not yours to turn. If you find one false, say at which input.
  Laid BY PROGRAM, IN A SANDBOX (cutbox-rows.mjs): the forced cells as the released guide's own fill.sh prints them over the translation ab18e406b092adc8… (all of the seat's roots in one cut). By AI agents, Wed Nov 11 2026. No macro, syntax, notation, axiom, sorry.
-/
import Derived.Test.YtcambhbmobepjaaGreatChecked
import GoSem.Claim
import GoSem.ClaimJoined
import GoSem.ClaimMapViews
import Derived.JoinedTies
import Derived.KernelRfl
namespace Go.Proofs.YtcambhbmobepjaaGreat
/- THE CELL 'sum', in the pinned program and in every row, IS THE sha256 OF THE DUMP (.gsa) THAT YtcambhbmobepjaaGreatProg.lean LOADS. Nothing in Lean hashes anything: it is a label: what it is worth is what the hold of that sum in a sandbox is worth. -/
noncomputable def Tryz.pinned : Pinned := { name := "ytcambhbmobepjaagreat", sum := "ab18e406b092adc82228904708c53d7a374d85cc9a32373cc6332237f477a8d0", checked := Tryz.checked }
namespace Rows
def none {H : Type} : Left H := { results := [], args := [] }

/-- 'conciergelaw17.LcpForms': WHATEVER THE INPUT: true; the input reads as it did. -/
def lcpFormsSpec : ChangeSpec := { name := "lcpForms", fn := fun _ => fun
  | [d1, d2, d3, d4] => { results := [.lit (.bool true)], args := [d1, d2, d3, d4] }
  | _ => none }
def lcpFormsRow : OpenClaim := { program := "ytcambhbmobepjaagreat", sum := "ab18e406b092adc82228904708c53d7a374d85cc9a32373cc6332237f477a8d0", func := "concierge/conciergelaw17.LcpForms", spec := "lcpForms", unfollowed := true, recurses := true, apart := false }
def LcpFormsSaid : Prop := lcpFormsRow.holds Tryz.pinned (OpenSpec.ofChange lcpFormsSpec)

/-- ITS FALSE NEIGHBOUR: 'it returns false'. Refute it at one input. -/
def lcpFormsWrong : ChangeSpec := { name := "lcpForms", fn := fun _ => fun
  | [d1, d2, d3, d4] => { results := [.lit (.bool false)], args := [d1, d2, d3, d4] }
  | _ => none }
def LcpFormsWrongFalsely : Prop := lcpFormsRow.holds Tryz.pinned (OpenSpec.ofChange lcpFormsWrong)

/-- 'conciergelaw17.LcpMeet': WHATEVER THE INPUT: true; the input reads as it did. -/
def lcpMeetSpec : ChangeSpec := { name := "lcpMeet", fn := fun _ => fun
  | [d1, d2, d3, d4, d5] => { results := [.lit (.bool true)], args := [d1, d2, d3, d4, d5] }
  | _ => none }
def lcpMeetRow : OpenClaim := { program := "ytcambhbmobepjaagreat", sum := "ab18e406b092adc82228904708c53d7a374d85cc9a32373cc6332237f477a8d0", func := "concierge/conciergelaw17.LcpMeet", spec := "lcpMeet", unfollowed := true, recurses := true, apart := false }
def LcpMeetSaid : Prop := lcpMeetRow.holds Tryz.pinned (OpenSpec.ofChange lcpMeetSpec)

/-- ITS FALSE NEIGHBOUR: 'it returns false'. Refute it at one input. -/
def lcpMeetWrong : ChangeSpec := { name := "lcpMeet", fn := fun _ => fun
  | [d1, d2, d3, d4, d5] => { results := [.lit (.bool false)], args := [d1, d2, d3, d4, d5] }
  | _ => none }
def LcpMeetWrongFalsely : Prop := lcpMeetRow.holds Tryz.pinned (OpenSpec.ofChange lcpMeetWrong)

/-- 'conciergelaw17.LcpEcho': WHATEVER THE INPUT: true; the input reads as it did. -/
def lcpEchoSpec : ChangeSpec := { name := "lcpEcho", fn := fun _ => fun
  | [d1, d2] => { results := [.lit (.bool true)], args := [d1, d2] }
  | _ => none }
def lcpEchoRow : OpenClaim := { program := "ytcambhbmobepjaagreat", sum := "ab18e406b092adc82228904708c53d7a374d85cc9a32373cc6332237f477a8d0", func := "concierge/conciergelaw17.LcpEcho", spec := "lcpEcho", unfollowed := true, recurses := true, apart := false }
def LcpEchoSaid : Prop := lcpEchoRow.holds Tryz.pinned (OpenSpec.ofChange lcpEchoSpec)

/-- ITS FALSE NEIGHBOUR: 'it returns false'. Refute it at one input. -/
def lcpEchoWrong : ChangeSpec := { name := "lcpEcho", fn := fun _ => fun
  | [d1, d2] => { results := [.lit (.bool false)], args := [d1, d2] }
  | _ => none }
def LcpEchoWrongFalsely : Prop := lcpEchoRow.holds Tryz.pinned (OpenSpec.ofChange lcpEchoWrong)

/-- 'conciergelaw17.LcpNone': WHATEVER THE INPUT: true; the input reads as it did. -/
def lcpNoneSpec : ChangeSpec := { name := "lcpNone", fn := fun _ => fun
  | [d1, d2, d3] => { results := [.lit (.bool true)], args := [d1, d2, d3] }
  | _ => none }
def lcpNoneRow : OpenClaim := { program := "ytcambhbmobepjaagreat", sum := "ab18e406b092adc82228904708c53d7a374d85cc9a32373cc6332237f477a8d0", func := "concierge/conciergelaw17.LcpNone", spec := "lcpNone", unfollowed := true, recurses := true, apart := false }
def LcpNoneSaid : Prop := lcpNoneRow.holds Tryz.pinned (OpenSpec.ofChange lcpNoneSpec)

/-- ITS FALSE NEIGHBOUR: 'it returns false'. Refute it at one input. -/
def lcpNoneWrong : ChangeSpec := { name := "lcpNone", fn := fun _ => fun
  | [d1, d2, d3] => { results := [.lit (.bool false)], args := [d1, d2, d3] }
  | _ => none }
def LcpNoneWrongFalsely : Prop := lcpNoneRow.holds Tryz.pinned (OpenSpec.ofChange lcpNoneWrong)

/-- 'conciergelaw17.LcpRuns': WHATEVER THE INPUT: true; the input reads as it did. -/
def lcpRunsSpec : ChangeSpec := { name := "lcpRuns", fn := fun _ => fun
  | [d1, d2, d3] => { results := [.lit (.bool true)], args := [d1, d2, d3] }
  | _ => none }
def lcpRunsRow : OpenClaim := { program := "ytcambhbmobepjaagreat", sum := "ab18e406b092adc82228904708c53d7a374d85cc9a32373cc6332237f477a8d0", func := "concierge/conciergelaw17.LcpRuns", spec := "lcpRuns", unfollowed := true, recurses := true, apart := false }
def LcpRunsSaid : Prop := lcpRunsRow.holds Tryz.pinned (OpenSpec.ofChange lcpRunsSpec)

/-- ITS FALSE NEIGHBOUR: 'it returns false'. Refute it at one input. -/
def lcpRunsWrong : ChangeSpec := { name := "lcpRuns", fn := fun _ => fun
  | [d1, d2, d3] => { results := [.lit (.bool false)], args := [d1, d2, d3] }
  | _ => none }
def LcpRunsWrongFalsely : Prop := lcpRunsRow.holds Tryz.pinned (OpenSpec.ofChange lcpRunsWrong)

/- THE SECOND FORM. 'bulk': how many values and letters a reading holds, each counted each time it is reached (what is shared counts as often as it is met; a slice's spare places count too). A statement '..UptoSaid' is the law's where the arguments, and the package variables that the reading takes, are together of bulk at most 1048576: NARROWER than '..Said'. Prove '..Said' where nothing that the law and all that it calls make is longer than what came in: it says more and counts as full. Else prove '..UptoSaid'. A law counts once. -/
mutual
def uptoBulk {H : Type} : DataW H → Nat
  | .lit (.string bytes) => bytes.length + 1
  | .lit _ => 1
  | .nil => 1
  | .ptr d => uptoBulk d + 1
  | .slice elems spare => uptoBulkAll elems + uptoBulkAll spare + 1
  | .agg parts => uptoBulkAll parts + 1
  | .iface _ d => uptoBulk d + 1
  | .map entries => uptoBulkEntries entries + 1
  | .held _ => 1
def uptoBulkAll {H : Type} : List (DataW H) → Nat
  | [] => 0
  | d :: r => uptoBulk d + uptoBulkAll r
def uptoBulkEntries {H : Type} : List (Lit × DataW H) → Nat
  | [] => 0
  | x :: r => uptoBulkEntry x + uptoBulkEntries r
def uptoBulkEntry {H : Type} : Lit × DataW H → Nat
  | (.string bytes, d) => bytes.length + uptoBulk d + 1
  | (_, d) => uptoBulk d + 1
 end
def uptoSmall : (H : Type) → List (DataW H) → Bool := fun _ ds => decide (uptoBulkAll ds ≤ 1048576)
def OpenSpec.upto (s : _root_.Go.ChangeSpec) : _root_.Go.OpenSpec := { _root_.Go.OpenSpec.ofChange s with cond := some uptoSmall }

/-- 'conciergelaw17.LcpForms', WHERE WHAT IT READS IS OF BULK AT MOST 1048576: true; the input reads as it did. -/
def lcpFormsUptoRow : OpenClaim := { program := "ytcambhbmobepjaagreat", sum := "ab18e406b092adc82228904708c53d7a374d85cc9a32373cc6332237f477a8d0", func := "concierge/conciergelaw17.LcpForms", spec := "lcpForms", unfollowed := true, recurses := true, apart := false, narrowed := true }
def LcpFormsUptoSaid : Prop := lcpFormsUptoRow.holds Tryz.pinned (OpenSpec.upto lcpFormsSpec)

/-- 'conciergelaw17.LcpMeet', WHERE WHAT IT READS IS OF BULK AT MOST 1048576: true; the input reads as it did. -/
def lcpMeetUptoRow : OpenClaim := { program := "ytcambhbmobepjaagreat", sum := "ab18e406b092adc82228904708c53d7a374d85cc9a32373cc6332237f477a8d0", func := "concierge/conciergelaw17.LcpMeet", spec := "lcpMeet", unfollowed := true, recurses := true, apart := false, narrowed := true }
def LcpMeetUptoSaid : Prop := lcpMeetUptoRow.holds Tryz.pinned (OpenSpec.upto lcpMeetSpec)

/-- 'conciergelaw17.LcpEcho', WHERE WHAT IT READS IS OF BULK AT MOST 1048576: true; the input reads as it did. -/
def lcpEchoUptoRow : OpenClaim := { program := "ytcambhbmobepjaagreat", sum := "ab18e406b092adc82228904708c53d7a374d85cc9a32373cc6332237f477a8d0", func := "concierge/conciergelaw17.LcpEcho", spec := "lcpEcho", unfollowed := true, recurses := true, apart := false, narrowed := true }
def LcpEchoUptoSaid : Prop := lcpEchoUptoRow.holds Tryz.pinned (OpenSpec.upto lcpEchoSpec)

/-- 'conciergelaw17.LcpNone', WHERE WHAT IT READS IS OF BULK AT MOST 1048576: true; the input reads as it did. -/
def lcpNoneUptoRow : OpenClaim := { program := "ytcambhbmobepjaagreat", sum := "ab18e406b092adc82228904708c53d7a374d85cc9a32373cc6332237f477a8d0", func := "concierge/conciergelaw17.LcpNone", spec := "lcpNone", unfollowed := true, recurses := true, apart := false, narrowed := true }
def LcpNoneUptoSaid : Prop := lcpNoneUptoRow.holds Tryz.pinned (OpenSpec.upto lcpNoneSpec)

/-- 'conciergelaw17.LcpRuns', WHERE WHAT IT READS IS OF BULK AT MOST 1048576: true; the input reads as it did. -/
def lcpRunsUptoRow : OpenClaim := { program := "ytcambhbmobepjaagreat", sum := "ab18e406b092adc82228904708c53d7a374d85cc9a32373cc6332237f477a8d0", func := "concierge/conciergelaw17.LcpRuns", spec := "lcpRuns", unfollowed := true, recurses := true, apart := false, narrowed := true }
def LcpRunsUptoSaid : Prop := lcpRunsUptoRow.holds Tryz.pinned (OpenSpec.upto lcpRunsSpec)

end Rows
end Go.Proofs.YtcambhbmobepjaaGreat
