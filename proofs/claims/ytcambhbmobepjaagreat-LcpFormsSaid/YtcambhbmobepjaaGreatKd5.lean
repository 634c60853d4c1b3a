/- Kd5: lcp.own whole. No condition. -/
import Derived.Test.YtcambhbmobepjaaGreatKd4
namespace Go.Proofs.YtcambhbmobepjaaGreat
set_option linter.unusedSimpArgs false
set_option linter.unusedVariables false
open Go.RowKit
set_option maxRecDepth 100000
noncomputable section

theorem own_tree (st id rq : Int) (d : D) (ct tm nk mg pr mu pe ne : Int) : treeR (evF Tryz.prog (gam (ownG Tryz.prog)) (lam (ownLs Tryz.prog)) 100 61) [lcpA st id rq d ct tm nk mg pr mu pe ne] =
    RT.br (decide (D.len d = 0))
      (RT.ok
        (AV.agg
          [AV.sc false (Value.int IntKind.i64 st), AV.sc false (Value.int IntKind.i64 id),
            AV.sc false (Value.int IntKind.i64 rq),
            AV.sl true [Sh.int IntKind.i64, Sh.sl [Sh.int IntKind.u8]] (D.l []) none,
            AV.sc false (Value.int IntKind.i64 ct), AV.sc false (Value.int IntKind.i64 tm),
            AV.sc false (Value.int IntKind.i64 nk), AV.sc false (Value.int IntKind.i64 mg),
            AV.sc false (Value.int IntKind.i64 pr), AV.sc false (Value.int IntKind.i64 mu),
            AV.sc false (Value.int IntKind.i64 pe), AV.sc false (Value.int IntKind.i64 ne)]))
      (RT.br (decide ((↑(D.len d) : Int) = (↑(D.len d) : Int) ∧ D.len d = D.len d ∧ 0 ≤ D.len d))
        (RT.br (decide (D.len d = D.len (rebF (D.len d - 0) d 0)))
          (RT.ok
            (AV.agg
              [AV.sc false (Value.int IntKind.i64 st), AV.sc false (Value.int IntKind.i64 id),
                AV.sc false (Value.int IntKind.i64 rq),
                AV.sl false [Sh.int IntKind.i64, Sh.sl [Sh.int IntKind.u8]] (rebF (D.len d - 0) d 0) none,
                AV.sc false (Value.int IntKind.i64 ct), AV.sc false (Value.int IntKind.i64 tm),
                AV.sc false (Value.int IntKind.i64 nk), AV.sc false (Value.int IntKind.i64 mg),
                AV.sc false (Value.int IntKind.i64 pr), AV.sc false (Value.int IntKind.i64 mu),
                AV.sc false (Value.int IntKind.i64 pe), AV.sc false (Value.int IntKind.i64 ne)]))
          (RT.bad 213))
        (RT.bad 216)) := by kernel_rfl
-- DEFS
def FOwn : List AV → RT AV
  | [.agg [.sc false (.int .i64 st), .sc false (.int .i64 id), .sc false (.int .i64 rq), .sl false [.int .i64, .sl [.int .u8]] d none, .sc false (.int .i64 ct), .sc false (.int .i64 tm), .sc false (.int .i64 nk), .sc false (.int .i64 mg), .sc false (.int .i64 pr), .sc false (.int .i64 mu), .sc false (.int .i64 pe), .sc false (.int .i64 ne)]] => .ok (lcpA st id rq d ct tm nk mg pr mu pe ne)
  | _ => .bad 217
-- END
theorem own_soundF : SoundF Tryz.prog 61 (pureS Tryz.prog 61 FOwn) := by
  refine pure_row (gs := ownG Tryz.prog) (ls := ownLs Tryz.prog) mixed ownG_ok ownLs_ok 61 100 fun args K ho H => ?_
  unfold FOwn at H
  split at H
  · rename_i st id rq d ct tm nk mg pr mu pe ne
    rw [own_tree]
    obtain ⟨hl, hg⟩ := rebF_ok d.len d 0 (by omega)
    refine ⟨fun h1 => ⟨_, le_agg (leL_cons (Le.refl _) (leL_cons (Le.refl _) (leL_cons (Le.refl _) (leL_cons (le_sl ?_ ?_) fun _ _ h => h)))), H⟩, fun h1 => ⟨fun h2 => ⟨fun h3 => ⟨_, le_agg (leL_cons (Le.refl _) (leL_cons (Le.refl _) (leL_cons (Le.refl _) (leL_cons (le_sl hl fun i _ => hg i) fun _ _ h => h)))), H⟩, fun h3 => ?_⟩, fun h2 => ?_⟩⟩
    · rw [of_decide_eq_true h1]; simp [D.len, D.toL, D.raw]
    · intro i hi
      simp [D.len, D.toL, D.raw] at hi
    · exact absurd hl.symm (of_decide_eq_false h3)
    · exact absurd ⟨rfl, rfl, Nat.zero_le _⟩ (of_decide_eq_false h2)
  · exact H.elim
end
end Go.Proofs.YtcambhbmobepjaaGreat
