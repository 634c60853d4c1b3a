/- V9: the law is true. No condition. -/
import Derived.Test.YtdlomggjhclmlaaGreatDoorV7
import Derived.Test.YtdlomggjhclmlaaGreatDoorV8
import Derived.Test.YtdlomggjhclmlaaGreatDoorEvU
namespace Go.Proofs.YtdlomggjhclmlaaGreatDoor
set_option linter.unusedSimpArgs false
set_option linter.unusedVariables false
open Go.RowKit
set_option maxRecDepth 100000
noncomputable section
theorem law_soundF : SoundF Tryz.prog 3 (evF Tryz.prog (gam (cnG Tryz.prog)) (lam []) 100 3) := evk (G := cnG Tryz.prog) ⟨awk_ok, trivial⟩ 100 _
theorem law_true (kd n : Int) (d : D) : Tru (treeF (evF Tryz.prog (gam (cnG Tryz.prog)) (lam []) 100 3) [.agg [.sc false (.int .i64 kd), .sl false [.int .u8] d none, .sc false (.int .i64 n)]]) := by
  rw [law]
  constructor
  have hL : Le (.sc true (.bool true)) (.sc false (.bool true)) := le_bool rfl
  have hc : ∀ n : Nat, (0 : Int) ≤ 0 ∧ 0 ≤ imin (n : Int) 1600 ∧ imin (n : Int) 1600 ≤ (n : Int) ∧ (n : Int) ≤ (n : Int) := fun n => by
    unfold imin
    split <;> omega
  have hd := decide_eq_true (hc (D.len d))
  refine ⟨fun _ => ⟨fun _ => hL, fun h => ?_⟩, fun h => ?_⟩
  · exact absurd (hd.symm.trans h) (by decide)
  · exact absurd (hd.symm.trans h) (by decide)
theorem law_any {A : List AV} {kd n : Int} {d : D} (hA : A = [.agg [.sc false (.int .i64 kd), .sl false [.int .u8] d none, .sc false (.int .i64 n)]]) :
    Tru (treeF (evF Tryz.prog (gam (cnG Tryz.prog)) (lam []) 100 3) A) := by
  subst hA
  exact law_true kd n d
theorem law_join (x0 x1 x2 : D) (_ : wfL [.int .i64, .sl [.int .u8], .int .i64] [x0, x1, x2]) :
    Tru (treeF (evF Tryz.prog (gam (cnG Tryz.prog)) (lam []) 100 3) [.agg (avL [.int .i64, .sl [.int .u8], .int .i64] [x0, x1, x2])]) :=
  law_any (kd := x0.toI) (n := x2.toI) (d := x1) rfl
end
end Go.Proofs.YtdlomggjhclmlaaGreatDoor
