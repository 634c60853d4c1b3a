/- Kd2: Light whole. No condition. -/
import Derived.Test.YtcambhbmobepjaaGreatKd1
namespace Go.Proofs.YtcambhbmobepjaaGreat
set_option linter.unusedSimpArgs false
set_option linter.unusedVariables false
open Go.RowKit
set_option maxRecDepth 100000
noncomputable section

theorem lgt_tree (st id rq : Int) (d : D) (ct tm nk mg pr mu pe ne : Int) : treeF (evF Tryz.prog (gam ([])) (lam (lgtLs Tryz.prog)) 100 8) [lcpA st id rq d ct tm nk mg pr mu pe ne] =
    RT.br true
      (RT.ok
        (AV.agg
          [AV.sc false (Value.int IntKind.i64 st), AV.sc false (Value.int IntKind.i64 id),
            AV.sc false (Value.int IntKind.i64 rq),
            AV.sl false [Sh.int IntKind.i64, Sh.sl [Sh.int IntKind.u8]]
              (tabD
                (lgtE
                  (LcpV.d
                    { st := st, id := id, rq := rq, d := d, ct := ct, tm := tm, nk := nk, mg := mg, pr := pr, mu := mu,
                      pe := pe, ne := ne }))
                (lgtN d))
              none,
            AV.sc false (Value.int IntKind.i64 ct), AV.sc false (Value.int IntKind.i64 tm),
            AV.sc false (Value.int IntKind.i64 nk), AV.sc false (Value.int IntKind.i64 mg),
            AV.sc false (Value.int IntKind.i64 pr), AV.sc false (Value.int IntKind.i64 mu),
            AV.sc false (Value.int IntKind.i64 pe), AV.sc false (Value.int IntKind.i64 ne)]))
      (RT.bad 211) := by kernel_rfl
def FLight : List AV → RT AV
  | [.agg [.sc false (.int .i64 st), .sc false (.int .i64 id), .sc false (.int .i64 rq), .sl false [.int .i64, .sl [.int .u8]] d none, .sc false (.int .i64 ct), .sc false (.int .i64 tm), .sc false (.int .i64 nk), .sc false (.int .i64 mg), .sc false (.int .i64 pr), .sc false (.int .i64 mu), .sc false (.int .i64 pe), .sc false (.int .i64 ne)]] => .ok (lcpA st id rq (tabD (lgtE d) (lgtN d)) ct tm nk mg pr mu pe ne)
  | _ => .bad 212
theorem light_soundF : SoundF Tryz.prog 8 (pureS Tryz.prog 8 FLight) := by
  refine pure_in (gs := []) (ls := lgtLs Tryz.prog) mixed trivial lgtLs_ok 8 100 fun args K ho H => ?_
  unfold FLight at H
  split at H
  · rename_i st id rq d ct tm nk mg pr mu pe ne
    rw [lgt_tree]
    refine ⟨fun h1 => ⟨_, Le.refl _, H⟩, fun h1 => by cases h1⟩
  · exact H.elim
end
end Go.Proofs.YtcambhbmobepjaaGreat
