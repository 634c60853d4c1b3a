/-
  No cell of these rows narrows 'for every input' (looked for: loops, veiled, ifaces, maps, wideKeys, modest, calm, conditions, laid).
  DERIVED. THE GIVEN ROWS OF THIS SEAT. 6 by the template 'for every input the law returns true; each argument reads behind the call as it read before'; 0 by the template 'total and deterministic' (their statements: YtkifagflnpkkaaaTotals.lean).
  GIVEN WITH THE SEED: the statements are not yours to turn. If you find one false, say at which input.
  Laid BY PROGRAM, IN A SANDBOX (cutbox-rows.mjs): the forced cells as the released guide's own fill.sh prints them over the translation 216b05a88738925d… (all of the seat's roots in one cut). By AI agents, Wed Nov 11 2026. No macro, syntax, notation, axiom, sorry.
-/
import Derived.Test.YtkifagflnpkkaaaChecked
import GoSem.Claim
import GoSem.ClaimJoined
import GoSem.ClaimMapViews
import Derived.JoinedTies
import Derived.KernelRfl
namespace Go.Proofs.Ytkifagflnpkkaaa
/- THE CELL 'sum', in the pinned program and in every row, IS THE sha256 OF THE DUMP (.gsa) THAT YtkifagflnpkkaaaProg.lean LOADS. Nothing in Lean hashes anything: it is a label: what it is worth is what the hold of that sum in a sandbox is worth. -/
noncomputable def Try.pinned : Pinned := { name := "ytkifagflnpkkaaa", sum := "216b05a88738925db0c352ffef3fae8c11cbe0fe80f846f3af854b8b885bb0c3", checked := Try.checked }
namespace Rows
def none {H : Type} : Left H := { results := [], args := [] }

/-- 'conciergelaw20.TableBoth': WHATEVER THE INPUT: true; the input reads as it did. -/
def tableBothSpec : ChangeSpec := { name := "tableBoth", fn := fun _ => fun
  | [d1, d2] => { results := [.lit (.bool true)], args := [d1, d2] }
  | _ => none }
def tableBothRow : OpenClaim := { program := "ytkifagflnpkkaaa", sum := "216b05a88738925db0c352ffef3fae8c11cbe0fe80f846f3af854b8b885bb0c3", func := "concierge/conciergelaw20.TableBoth", spec := "tableBoth", inPlace := ["slices.overlaps[int]", "slices.overlaps[concierge/api.Entry]"], plainKeys := false, apart := false }
def TableBothSaid : Prop := tableBothRow.holds Try.pinned (OpenSpec.ofChange tableBothSpec)

/-- ITS FALSE NEIGHBOUR: 'it returns false'. Refute it at one input. -/
def tableBothWrong : ChangeSpec := { name := "tableBoth", fn := fun _ => fun
  | [d1, d2] => { results := [.lit (.bool false)], args := [d1, d2] }
  | _ => none }
def TableBothWrongFalsely : Prop := tableBothRow.holds Try.pinned (OpenSpec.ofChange tableBothWrong)

/-- 'conciergelaw20.TableShards': WHATEVER THE INPUT: true; the input reads as it did. -/
def tableShardsSpec : ChangeSpec := { name := "tableShards", fn := fun _ => fun
  | [d1, d2, d3, d4] => { results := [.lit (.bool true)], args := [d1, d2, d3, d4] }
  | _ => none }
def tableShardsRow : OpenClaim := { program := "ytkifagflnpkkaaa", sum := "216b05a88738925db0c352ffef3fae8c11cbe0fe80f846f3af854b8b885bb0c3", func := "concierge/conciergelaw20.TableShards", spec := "tableShards", inPlace := ["slices.overlaps[int]", "slices.overlaps[concierge/api.Entry]"], plainKeys := false, apart := false }
def TableShardsSaid : Prop := tableShardsRow.holds Try.pinned (OpenSpec.ofChange tableShardsSpec)

/-- ITS FALSE NEIGHBOUR: 'it returns false'. Refute it at one input. -/
def tableShardsWrong : ChangeSpec := { name := "tableShards", fn := fun _ => fun
  | [d1, d2, d3, d4] => { results := [.lit (.bool false)], args := [d1, d2, d3, d4] }
  | _ => none }
def TableShardsWrongFalsely : Prop := tableShardsRow.holds Try.pinned (OpenSpec.ofChange tableShardsWrong)

/-- 'conciergelaw20.TableOwn': WHATEVER THE INPUT: true; the input reads as it did. -/
def tableOwnSpec : ChangeSpec := { name := "tableOwn", fn := fun _ => fun
  | [d1, d2] => { results := [.lit (.bool true)], args := [d1, d2] }
  | _ => none }
def tableOwnRow : OpenClaim := { program := "ytkifagflnpkkaaa", sum := "216b05a88738925db0c352ffef3fae8c11cbe0fe80f846f3af854b8b885bb0c3", func := "concierge/conciergelaw20.TableOwn", spec := "tableOwn", inPlace := ["slices.overlaps[int]", "slices.overlaps[concierge/api.Entry]"], plainKeys := false, apart := false }
def TableOwnSaid : Prop := tableOwnRow.holds Try.pinned (OpenSpec.ofChange tableOwnSpec)

/-- ITS FALSE NEIGHBOUR: 'it returns false'. Refute it at one input. -/
def tableOwnWrong : ChangeSpec := { name := "tableOwn", fn := fun _ => fun
  | [d1, d2] => { results := [.lit (.bool false)], args := [d1, d2] }
  | _ => none }
def TableOwnWrongFalsely : Prop := tableOwnRow.holds Try.pinned (OpenSpec.ofChange tableOwnWrong)

/-- 'conciergelaw20.TableGone': WHATEVER THE INPUT: true; the input reads as it did. -/
def tableGoneSpec : ChangeSpec := { name := "tableGone", fn := fun _ => fun
  | [d1, d2] => { results := [.lit (.bool true)], args := [d1, d2] }
  | _ => none }
def tableGoneRow : OpenClaim := { program := "ytkifagflnpkkaaa", sum := "216b05a88738925db0c352ffef3fae8c11cbe0fe80f846f3af854b8b885bb0c3", func := "concierge/conciergelaw20.TableGone", spec := "tableGone", inPlace := ["slices.overlaps[int]", "slices.overlaps[concierge/api.Entry]"], plainKeys := false, apart := false }
def TableGoneSaid : Prop := tableGoneRow.holds Try.pinned (OpenSpec.ofChange tableGoneSpec)

/-- ITS FALSE NEIGHBOUR: 'it returns false'. Refute it at one input. -/
def tableGoneWrong : ChangeSpec := { name := "tableGone", fn := fun _ => fun
  | [d1, d2] => { results := [.lit (.bool false)], args := [d1, d2] }
  | _ => none }
def TableGoneWrongFalsely : Prop := tableGoneRow.holds Try.pinned (OpenSpec.ofChange tableGoneWrong)

/-- 'conciergelaw20.TableRuns': WHATEVER THE INPUT: true; the input reads as it did. -/
def tableRunsSpec : ChangeSpec := { name := "tableRuns", fn := fun _ => fun
  | [d1, d2] => { results := [.lit (.bool true)], args := [d1, d2] }
  | _ => none }
def tableRunsRow : OpenClaim := { program := "ytkifagflnpkkaaa", sum := "216b05a88738925db0c352ffef3fae8c11cbe0fe80f846f3af854b8b885bb0c3", func := "concierge/conciergelaw20.TableRuns", spec := "tableRuns", inPlace := ["slices.overlaps[int]", "slices.overlaps[concierge/api.Entry]"], plainKeys := false, apart := false }
def TableRunsSaid : Prop := tableRunsRow.holds Try.pinned (OpenSpec.ofChange tableRunsSpec)

/-- ITS FALSE NEIGHBOUR: 'it returns false'. Refute it at one input. -/
def tableRunsWrong : ChangeSpec := { name := "tableRuns", fn := fun _ => fun
  | [d1, d2] => { results := [.lit (.bool false)], args := [d1, d2] }
  | _ => none }
def TableRunsWrongFalsely : Prop := tableRunsRow.holds Try.pinned (OpenSpec.ofChange tableRunsWrong)

/-- 'conciergelaw20.TableNobody': WHATEVER THE INPUT: true; the input reads as it did. -/
def tableNobodySpec : ChangeSpec := { name := "tableNobody", fn := fun _ => fun
  | [d1, d2] => { results := [.lit (.bool true)], args := [d1, d2] }
  | _ => none }
def tableNobodyRow : OpenClaim := { program := "ytkifagflnpkkaaa", sum := "216b05a88738925db0c352ffef3fae8c11cbe0fe80f846f3af854b8b885bb0c3", func := "concierge/conciergelaw20.TableNobody", spec := "tableNobody", inPlace := ["slices.overlaps[int]", "slices.overlaps[concierge/api.Entry]"], plainKeys := false, apart := false }
def TableNobodySaid : Prop := tableNobodyRow.holds Try.pinned (OpenSpec.ofChange tableNobodySpec)

/-- ITS FALSE NEIGHBOUR: 'it returns false'. Refute it at one input. -/
def tableNobodyWrong : ChangeSpec := { name := "tableNobody", fn := fun _ => fun
  | [d1, d2] => { results := [.lit (.bool false)], args := [d1, d2] }
  | _ => none }
def TableNobodyWrongFalsely : Prop := tableNobodyRow.holds Try.pinned (OpenSpec.ofChange tableNobodyWrong)

/- THE SECOND FORM. 'bulk': how many values and letters a reading holds, each counted each time it is reached (what is shared counts as often as it is met; a slice's spare places count too). A statement '..UptoSaid' is the law's where the arguments, and the package variables that the reading takes, are together of bulk at most 1048576: NARROWER than '..Said'. Prove '..Said' where nothing that the law and all that it calls make is longer than what came in: it says more and counts as full. Else prove '..UptoSaid'. A law counts once. -/
mutual
def uptoBulk {H : Type} : DataW H → Nat
  | .lit (.string bytes) => bytes.length + 1
  | .lit _ => 1
  | .nil => 1
  | .ptr d => uptoBulk d + 1
  | .slice elems spare => uptoBulkAll elems + uptoBulkAll spare + 1
  | .agg parts => uptoBulkAll parts + 1
  | .iface _ d => uptoBulk d + 1
  | .map entries => uptoBulkEntries entries + 1
  | .held _ => 1
def uptoBulkAll {H : Type} : List (DataW H) → Nat
  | [] => 0
  | d :: r => uptoBulk d + uptoBulkAll r
def uptoBulkEntries {H : Type} : List (Lit × DataW H) → Nat
  | [] => 0
  | x :: r => uptoBulkEntry x + uptoBulkEntries r
def uptoBulkEntry {H : Type} : Lit × DataW H → Nat
  | (.string bytes, d) => bytes.length + uptoBulk d + 1
  | (_, d) => uptoBulk d + 1
 end
def uptoSmall : (H : Type) → List (DataW H) → Bool := fun _ ds => decide (uptoBulkAll ds ≤ 1048576)
def OpenSpec.upto (s : _root_.Go.ChangeSpec) : _root_.Go.OpenSpec := { _root_.Go.OpenSpec.ofChange s with cond := some uptoSmall }

/-- 'conciergelaw20.TableBoth', WHERE WHAT IT READS IS OF BULK AT MOST 1048576: true; the input reads as it did. -/
def tableBothUptoRow : OpenClaim := { program := "ytkifagflnpkkaaa", sum := "216b05a88738925db0c352ffef3fae8c11cbe0fe80f846f3af854b8b885bb0c3", func := "concierge/conciergelaw20.TableBoth", spec := "tableBoth", inPlace := ["slices.overlaps[int]", "slices.overlaps[concierge/api.Entry]"], plainKeys := false, apart := false, narrowed := true }
def TableBothUptoSaid : Prop := tableBothUptoRow.holds Try.pinned (OpenSpec.upto tableBothSpec)

/-- 'conciergelaw20.TableShards', WHERE WHAT IT READS IS OF BULK AT MOST 1048576: true; the input reads as it did. -/
def tableShardsUptoRow : OpenClaim := { program := "ytkifagflnpkkaaa", sum := "216b05a88738925db0c352ffef3fae8c11cbe0fe80f846f3af854b8b885bb0c3", func := "concierge/conciergelaw20.TableShards", spec := "tableShards", inPlace := ["slices.overlaps[int]", "slices.overlaps[concierge/api.Entry]"], plainKeys := false, apart := false, narrowed := true }
def TableShardsUptoSaid : Prop := tableShardsUptoRow.holds Try.pinned (OpenSpec.upto tableShardsSpec)

/-- 'conciergelaw20.TableOwn', WHERE WHAT IT READS IS OF BULK AT MOST 1048576: true; the input reads as it did. -/
def tableOwnUptoRow : OpenClaim := { program := "ytkifagflnpkkaaa", sum := "216b05a88738925db0c352ffef3fae8c11cbe0fe80f846f3af854b8b885bb0c3", func := "concierge/conciergelaw20.TableOwn", spec := "tableOwn", inPlace := ["slices.overlaps[int]", "slices.overlaps[concierge/api.Entry]"], plainKeys := false, apart := false, narrowed := true }
def TableOwnUptoSaid : Prop := tableOwnUptoRow.holds Try.pinned (OpenSpec.upto tableOwnSpec)

/-- 'conciergelaw20.TableGone', WHERE WHAT IT READS IS OF BULK AT MOST 1048576: true; the input reads as it did. -/
def tableGoneUptoRow : OpenClaim := { program := "ytkifagflnpkkaaa", sum := "216b05a88738925db0c352ffef3fae8c11cbe0fe80f846f3af854b8b885bb0c3", func := "concierge/conciergelaw20.TableGone", spec := "tableGone", inPlace := ["slices.overlaps[int]", "slices.overlaps[concierge/api.Entry]"], plainKeys := false, apart := false, narrowed := true }
def TableGoneUptoSaid : Prop := tableGoneUptoRow.holds Try.pinned (OpenSpec.upto tableGoneSpec)

/-- 'conciergelaw20.TableRuns', WHERE WHAT IT READS IS OF BULK AT MOST 1048576: true; the input reads as it did. -/
def tableRunsUptoRow : OpenClaim := { program := "ytkifagflnpkkaaa", sum := "216b05a88738925db0c352ffef3fae8c11cbe0fe80f846f3af854b8b885bb0c3", func := "concierge/conciergelaw20.TableRuns", spec := "tableRuns", inPlace := ["slices.overlaps[int]", "slices.overlaps[concierge/api.Entry]"], plainKeys := false, apart := false, narrowed := true }
def TableRunsUptoSaid : Prop := tableRunsUptoRow.holds Try.pinned (OpenSpec.upto tableRunsSpec)

/-- 'conciergelaw20.TableNobody', WHERE WHAT IT READS IS OF BULK AT MOST 1048576: true; the input reads as it did. -/
def tableNobodyUptoRow : OpenClaim := { program := "ytkifagflnpkkaaa", sum := "216b05a88738925db0c352ffef3fae8c11cbe0fe80f846f3af854b8b885bb0c3", func := "concierge/conciergelaw20.TableNobody", spec := "tableNobody", inPlace := ["slices.overlaps[int]", "slices.overlaps[concierge/api.Entry]"], plainKeys := false, apart := false, narrowed := true }
def TableNobodyUptoSaid : Prop := tableNobodyUptoRow.holds Try.pinned (OpenSpec.upto tableNobodySpec)

end Rows
end Go.Proofs.Ytkifagflnpkkaaa
