/- Ka4: contracts: auto.copied whole. No condition. -/
import Derived.Test.YtcambhbmobepjaaGreatKa3
namespace Go.Proofs.YtcambhbmobepjaaGreat
set_option linter.unusedSimpArgs false
set_option linter.unusedVariables false
open Go.RowKit
set_option maxRecDepth 100000
noncomputable section

theorem cop_tree (d : D) : treeF (evF Tryz.prog (gam (cloneG Tryz.prog)) (lam (copLs Tryz.prog)) 100 79) [asl opS d] =
    RT.br (decide ((↑(D.len d) : Int) = (↑(D.len d) : Int) ∧ 0 ≤ D.len d ∧ D.len d * 32 ≤ 140737488355328))
      (RT.ok (AV.sl false [Sh.int IntKind.i64, Sh.sl [Sh.int IntKind.u8]] (tabD (copE d) (D.len d)) none)) (RT.bad 210) := by kernel_rfl
theorem copE_eq (d : D) (i : Nat) : eqEl opS (copE d i) (d.get i) 0 := ⟨rfl, rfl, trivial⟩
theorem le_cop (d : D) : Le (.sl false opS (tabD (copE d) d.len) none) (asl opS d) :=
  le_sl (tabD_len d.len_le) fun i hi => by
    rw [tabD_len d.len_le] at hi
    rw [tabD_get d.len_le hi]; exact copE_eq d i
def FCopied : List AV → RT AV
  | [.sl false [.int .i64, .sl [.int .u8]] d none] => .ok (asl opS d)
  | _ => .bad 204
theorem copied_soundF : SoundF Tryz.prog 79 (pureS Tryz.prog 79 FCopied) := by
  refine pure_in (gs := cloneG Tryz.prog) (ls := copLs Tryz.prog) mixed cloneG_ok copLs_ok 79 100 fun args K ho H => ?_
  unfold FCopied at H
  split at H
  · rename_i d
    rw [cop_tree]
    have h0 := ho.1.1
    refine ⟨fun h1 => ⟨_, le_cop d, H⟩, fun h1 => ?_⟩
    exact absurd ⟨rfl, Nat.zero_le _, h0⟩ (of_decide_eq_false h1)
  · exact H.elim
end
end Go.Proofs.YtcambhbmobepjaaGreat
