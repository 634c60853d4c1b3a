/- MpJ: texts of this claim, one behind the other: JPfm. No condition. -/
import Derived.Test.YtomblhnchdokmaaGreatDoorRows
import Derived.Test.YtomblhnchdokmaaGreatDoorMpE
namespace Go.Proofs.YtomblhnchdokmaaGreatDoor.plainFormsDone
set_option linter.unusedSimpArgs false
set_option linter.unusedVariables false
open Go.RowKit
set_option maxRecDepth 100000
theorem own : ownKnob Tryz.prog.godebug = none := by kernel_rfl
theorem laidOut : laidOutB Tryz.prog = true := by kernel_rfl
theorem jNamedF : Tryz.prog.funcNamed Rows.plainFormsRow.func = some 3 := by kernel_rfl
theorem jInPlace : Tryz.prog.inPlace 3 = Rows.plainFormsRow.inPlace := by kernel_rfl
theorem jUnf : Tryz.prog.unfollowed 3 = Rows.plainFormsRow.unfollowed := by kernel_rfl
theorem jRec : Tryz.prog.recurses 3 = Rows.plainFormsRow.recurses := by kernel_rfl
theorem jVars : Tryz.prog.varsNamed 3 = Rows.plainFormsRow.named := by kernel_rfl
theorem jf : joinedFacts Tryz.prog 3 Tryz.f3 Rows.plainFormsSpec Rows.plainFormsRow = true := by
  unfold joinedFacts
  rw [jInPlace, jUnf, jRec, jVars]
  kernel_rfl
theorem jWrap : Tryz.f3.isWrapper Tryz.prog Rows.plainFormsRow.wrapper Rows.plainFormsRow.mainSum := by
  unfold Func.isWrapper; first | (rw [if_pos (by decide +kernel)]; kernel_rfl) | (rw [if_neg (by decide +kernel)]; exact ⟨rfl, rfl⟩)
theorem jInst : decide (Tryz.f3.isInstance Tryz.prog Rows.plainFormsRow.origin Rows.plainFormsRow.targs) = true := by kernel_rfl
theorem kWf : Rows.plainFormsRow.wfByText (OpenSpec.ofChange Rows.plainFormsSpec) = true := by kernel_rfl
theorem kMain : Tryz.prog.mainIs = some (true, "eda44c1cf4ec55ba8eda1604e7c275f3e15009dc22307d6cbebfe920008e162c".toList) := by kernel_rfl
theorem kLooks : false = Tryz.prog.looks [] := by kernel_rfl
theorem kStand : ([38].all fun u => !Tryz.prog.wantsStandIn u) = true := by kernel_rfl
theorem kNoGo : Tryz.prog.funcs.any Func.goes = false := by kernel_rfl
theorem goes_none {P : Program} (h : P.funcs.any Func.goes = false) (f : FuncId) : P.goes f = false := by
  unfold Program.goes
  rw [h, Bool.and_false, Bool.or_false, List.any_eq_false]
  intro g _
  cases hg : P.funcs[g]? with
  | none => simp
  | some fn =>
    obtain ⟨hlt, he⟩ := Array.getElem?_eq_some_iff.1 hg
    have := Array.any_eq_false.1 h g hlt
    rw [he] at this
    simpa using this
theorem goesAt_none {P : Program} (h : P.funcs.any Func.goes = false) (s : Start) (n : String) : P.goesAt s n = false := by
  unfold Program.goesAt Program.goesFrom
  have h1 : (P.funcNamed n).any P.goes = false := by
    cases hn : P.funcNamed n with
    | none => rfl
    | some f => exact goes_none h f
  have h2 : P.inits.toList.any P.goes = false := by
    rw [List.any_eq_false]
    intro f _
    rw [goes_none h f]; simp
  rw [h1, Bool.false_or]
  cases s <;> first | rfl | exact h2
theorem kGoes : false = Rows.plainFormsRow.goesBy Tryz.prog := (goesAt_none kNoGo _ _).symm
end Go.Proofs.YtomblhnchdokmaaGreatDoor.plainFormsDone
