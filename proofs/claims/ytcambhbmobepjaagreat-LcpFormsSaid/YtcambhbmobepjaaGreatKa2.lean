/- Ka2: contracts: slices.Clone, auto.copied. No condition. -/
import Derived.Test.YtcambhbmobepjaaGreatKa1
namespace Go.Proofs.YtcambhbmobepjaaGreat
set_option linter.unusedSimpArgs false
set_option linter.unusedVariables false
open Go.RowKit
set_option maxRecDepth 100000
noncomputable section

-- DEFS
abbrev opS : List Sh := [.int .i64, .sl [.int .u8]]
abbrev nilA : AV := .sc true (.slice none 0 0)
-- END
theorem app_nil_len (d : D) : ((D.l []).app d).len = d.len := by
  have h0 : (D.l []).len = 0 := by simp [D.len, D.toL, D.raw]
  rw [app_len (by rw [h0, Nat.zero_add]; exact d.len_le), h0, Nat.zero_add]
theorem app_nil_get (d : D) (i : Nat) : ((D.l []).app d).get i = d.get i := by
  have h0 : (D.l []).len = 0 := by simp [D.len, D.toL, D.raw]
  rw [app_get (by rw [h0, Nat.zero_add]; exact d.len_le), if_neg (by omega), h0, Nat.sub_zero]
theorem le_app_nil {kn kn' : Bool} {es : List Sh} {d : D} {tip : Option (Nat × Nat)} : Le (.sl kn es ((D.l []).app d) tip) (.sl kn' es d none) :=
  le_sl (app_nil_len d) fun i _ => by rw [app_nil_get]; exact eqEl_refl _ _ _
theorem cloneb_tree (d : D) : treeF (evF Tryz.prog (gam ([])) (lam ([])) 100 98) [asl byS d] =
    RT.br (decide (D.len d = 0))
      (RT.all (RT.ok (AV.sc true (Value.slice none 0 0))) (RT.ok (AV.sl false [Sh.int IntKind.u8] (D.app (D.l []) d) none)))
      (RT.ok (AV.sl false [Sh.int IntKind.u8] (D.app (D.l []) d) none)) := by kernel_rfl
theorem cloneo_tree (d : D) : treeF (evF Tryz.prog (gam ([])) (lam ([])) 100 97) [asl opS d] =
    RT.br (decide (D.len d = 0))
      (RT.all (RT.ok (AV.sc true (Value.slice none 0 0)))
        (RT.ok (AV.sl false [Sh.int IntKind.i64, Sh.sl [Sh.int IntKind.u8]] (D.app (D.l []) d) none)))
      (RT.ok (AV.sl false [Sh.int IntKind.i64, Sh.sl [Sh.int IntKind.u8]] (D.app (D.l []) d) none)) := by kernel_rfl
def FCloneB : List AV → RT AV
  | [.sl false [.int .u8] d none] => .ok (asl byS d)
  | _ => .bad 203
theorem cloneb_soundF : SoundF Tryz.prog 98 (pureS Tryz.prog 98 FCloneB) := by
  refine pure_in (gs := []) (ls := []) mixed trivial trivial 98 100 fun args K _ H => ?_
  unfold FCloneB at H
  split at H
  · rw [cloneb_tree]
    exact ⟨fun h0 => ⟨⟨_, le_nil (of_decide_eq_true h0), H⟩, ⟨_, le_app_nil, H⟩⟩, fun _ => ⟨_, le_app_nil, H⟩⟩
  · exact H.elim
def FCloneO : List AV → RT AV
  | [.sl false [.int .i64, .sl [.int .u8]] d none] => .ok (asl opS d)
  | _ => .bad 203
theorem cloneo_soundF : SoundF Tryz.prog 97 (pureS Tryz.prog 97 FCloneO) := by
  refine pure_in (gs := []) (ls := []) mixed trivial trivial 97 100 fun args K _ H => ?_
  unfold FCloneO at H
  split at H
  · rw [cloneo_tree]
    exact ⟨fun h0 => ⟨⟨_, le_nil (of_decide_eq_true h0), H⟩, ⟨_, le_app_nil, H⟩⟩, fun _ => ⟨_, le_app_nil, H⟩⟩
  · exact H.elim
end
end Go.Proofs.YtcambhbmobepjaaGreat
