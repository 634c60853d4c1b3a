/- JCnb: closed facts of the row and of its card. No condition. -/
import Derived.Test.YtdlomggjhclmlaaGreatDoorRows
import Derived.Test.YtdlomggjhclmlaaGreatDoorFrame
namespace Go.Proofs.YtdlomggjhclmlaaGreatDoor.concNobodyDone
set_option linter.unusedSimpArgs false
set_option linter.unusedVariables false
open Go.RowKit
set_option maxRecDepth 100000
theorem own : ownKnob Tryz.prog.godebug = none := by kernel_rfl
theorem laidOut : laidOutB Tryz.prog = true := by kernel_rfl
theorem jNamedF : Tryz.prog.funcNamed Rows.concNobodyRow.func = some 3 := by kernel_rfl
theorem jInPlace : Tryz.prog.inPlace 3 = Rows.concNobodyRow.inPlace := by kernel_rfl
theorem jUnf : Tryz.prog.unfollowed 3 = Rows.concNobodyRow.unfollowed := by kernel_rfl
theorem jRec : Tryz.prog.recurses 3 = Rows.concNobodyRow.recurses := by kernel_rfl
theorem jVars : Tryz.prog.varsNamed 3 = Rows.concNobodyRow.named := by kernel_rfl
theorem jf : joinedFacts Tryz.prog 3 Tryz.f3 Rows.concNobodySpec Rows.concNobodyRow = true := by
  unfold joinedFacts
  rw [jInPlace, jUnf, jRec, jVars]
  kernel_rfl
theorem jWrap : Tryz.f3.isWrapper Tryz.prog Rows.concNobodyRow.wrapper Rows.concNobodyRow.mainSum := by
  unfold Func.isWrapper; first | (rw [if_pos (by decide +kernel)]; kernel_rfl) | (rw [if_neg (by decide +kernel)]; exact ⟨rfl, rfl⟩)
theorem jInst : decide (Tryz.f3.isInstance Tryz.prog Rows.concNobodyRow.origin Rows.concNobodyRow.targs) = true := by kernel_rfl
theorem kWf : Rows.concNobodyRow.wfByText (OpenSpec.ofChange Rows.concNobodySpec) = true := by kernel_rfl
theorem kMain : Tryz.prog.mainIs = some (true, "942e7235446a8aa0857c650f6b772534730c3c9b92835165b072ee08a58045a2".toList) := by kernel_rfl
theorem kLooks : false = Tryz.prog.looks [] := by kernel_rfl
theorem kStand : ([25].all fun u => !Tryz.prog.wantsStandIn u) = true := by kernel_rfl
theorem kNoGo : Tryz.prog.funcs.any Func.goes = false := by kernel_rfl
theorem goes_none {P : Program} (h : P.funcs.any Func.goes = false) (f : FuncId) : P.goes f = false := by
  unfold Program.goes
  rw [h, Bool.and_false, Bool.or_false, List.any_eq_false]
  intro g _
  cases hg : P.funcs[g]? with
  | none => simp
  | some fn =>
    obtain ⟨hlt, he⟩ := Array.getElem?_eq_some_iff.1 hg
    have := Array.any_eq_false.1 h g hlt
    rw [he] at this
    simpa using this
theorem goesAt_none {P : Program} (h : P.funcs.any Func.goes = false) (s : Start) (n : String) : P.goesAt s n = false := by
  unfold Program.goesAt Program.goesFrom
  have h1 : (P.funcNamed n).any P.goes = false := by
    cases hn : P.funcNamed n with
    | none => rfl
    | some f => exact goes_none h f
  have h2 : P.inits.toList.any P.goes = false := by
    rw [List.any_eq_false]
    intro f _
    rw [goes_none h f]; simp
  rw [h1, Bool.false_or]
  cases s <;> first | rfl | exact h2
theorem kGoes : false = Rows.concNobodyRow.goesBy Tryz.prog := (goesAt_none kNoGo _ _).symm
end Go.Proofs.YtdlomggjhclmlaaGreatDoor.concNobodyDone
