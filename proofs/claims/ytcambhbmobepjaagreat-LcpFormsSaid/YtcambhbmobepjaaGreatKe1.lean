/- Ke1: the page's example. No condition. -/
import Derived.Test.YtcambhbmobepjaaGreatKd5
import Derived.Test.YtcambhbmobepjaaGreatEvI
namespace Go.Proofs.YtcambhbmobepjaaGreat
set_option linter.unusedSimpArgs false
set_option linter.unusedVariables false
open Go.RowKit
set_option maxRecDepth 100000
noncomputable section

-- DEFS
def awkG (P : Program) : List (FuncId × Spec) := [(38, pureS P 38 FPut), (42, pureS P 42 FPut), (61, pureS P 61 FOwn)]
abbrev kk (n : Int) : AV := .sc true (.int .i64 n)
abbrev cfK : AV := .agg [kk 1492, kk 10, kk 2, kk 5, kk 3, kk 10, kk 3]
abbrev askK : AV := .sl true opS (.kl [.t [.ki 1, .kl [.ki 5, .ki 212]], .t [.ki 5, .kl [.ki 0, .ki 0, .ki 0, .ki 7]]]) none
abbrev lc0K : AV := .agg [kk 0, kk 0, kk 0, askK, kk 0, kk 0, kk 0, kk 7, kk 0, kk 1492, kk 0, kk 0]
abbrev lc2K : AV := .agg [kk 2, kk 0, kk 0, askK, kk 0, kk 0, kk 0, kk 7, kk 0, kk 1492, kk 0, kk 0]
-- END
theorem awkG_ok : GamL Tryz.prog (awkG Tryz.prog) := ⟨put_soundF, rput_soundF, own_soundF, trivial⟩
def mNewK : List AV := [cfK, kk 7]
def mNewR : AV :=
    (AV.tup
        [AV.agg
            [AV.sc true (Value.int IntKind.i64 0), AV.sc true (Value.int IntKind.i64 0),
              AV.sc true (Value.int IntKind.i64 0),
              AV.sl true [Sh.int IntKind.i64, Sh.sl [Sh.int IntKind.u8]]
                (D.l [D.t [D.ki 1, D.kl [D.ki 5, D.ki 212]], D.t [D.ki 5, D.kl [D.ki 0, D.ki 0, D.ki 0, D.ki 7]]]) none,
              AV.sc true (Value.int IntKind.i64 0), AV.sc true (Value.int IntKind.i64 0),
              AV.sc true (Value.int IntKind.i64 0), AV.sc true (Value.int IntKind.i64 7),
              AV.sc true (Value.int IntKind.i64 0), AV.sc true (Value.int IntKind.i64 1492),
              AV.sc true (Value.int IntKind.i64 0), AV.sc true (Value.int IntKind.i64 0)],
          AV.sc true (Value.int IntKind.i64 0)])
theorem mNew : okV (treeR (evF Tryz.prog (gam (awkG Tryz.prog)) (lam ([])) 100 9) mNewK) = some mNewR := by kernel_rfl
def mChkK : List AV := [cfK, lc0K]
def mChkR : AV :=
    (AV.sc true (Value.int IntKind.i64 0))
theorem mChk : okV (treeR (evF Tryz.prog (gam (awkG Tryz.prog)) (lam ([])) 100 11) mChkK) = some mChkR := by kernel_rfl
def mChk2K : List AV := [cfK, lc2K]
def mChk2R : AV :=
    (AV.sc true (Value.int IntKind.i64 0))
theorem mChk2 : okV (treeR (evF Tryz.prog (gam (awkG Tryz.prog)) (lam ([])) 100 11) mChk2K) = some mChk2R := by kernel_rfl
def mDo1K : List AV := [cfK, lc0K, kk 1, kk 1]
def mDo1R : AV :=
    (AV.tup
        [AV.agg
            [AV.sc true (Value.int IntKind.i64 2), AV.sc true (Value.int IntKind.i64 0),
              AV.sc true (Value.int IntKind.i64 0),
              AV.sl true [Sh.int IntKind.i64, Sh.sl [Sh.int IntKind.u8]]
                (D.l [D.t [D.ki 1, D.kl [D.ki 5, D.ki 212]], D.t [D.ki 5, D.kl [D.ki 0, D.ki 0, D.ki 0, D.ki 7]]]) none,
              AV.sc true (Value.int IntKind.i64 0), AV.sc true (Value.int IntKind.i64 0),
              AV.sc true (Value.int IntKind.i64 0), AV.sc true (Value.int IntKind.i64 7),
              AV.sc true (Value.int IntKind.i64 0), AV.sc true (Value.int IntKind.i64 1492),
              AV.sc true (Value.int IntKind.i64 0), AV.sc true (Value.int IntKind.i64 0)],
          AV.sl true [Sh.int IntKind.i64, Sh.int IntKind.i64, Sh.sl [Sh.int IntKind.u8]] (D.l []) none,
          AV.sl true [Sh.int IntKind.i64] (D.l []) none])
theorem mDo1 : okV (treeR (evF Tryz.prog (gam (awkG Tryz.prog)) (lam ([])) 100 50) mDo1K) = some mDo1R := by kernel_rfl
def mDo2K : List AV := [cfK, lc2K, kk 3, kk 1]
def mDo2R : AV :=
    (AV.tup
        [AV.agg
            [AV.sc true (Value.int IntKind.i64 6), AV.sc true (Value.int IntKind.i64 1),
              AV.sc true (Value.int IntKind.i64 1),
              AV.sl true [Sh.int IntKind.i64, Sh.sl [Sh.int IntKind.u8]]
                (D.l [D.t [D.ki 1, D.kl [D.ki 5, D.ki 212]], D.t [D.ki 5, D.kl [D.ki 0, D.ki 0, D.ki 0, D.ki 7]]]) none,
              AV.sc true (Value.int IntKind.i64 9), AV.sc true (Value.int IntKind.i64 4),
              AV.sc true (Value.int IntKind.i64 0), AV.sc true (Value.int IntKind.i64 7),
              AV.sc true (Value.int IntKind.i64 0), AV.sc true (Value.int IntKind.i64 1492),
              AV.sc true (Value.int IntKind.i64 0), AV.sc true (Value.int IntKind.i64 0)],
          AV.sl true [Sh.int IntKind.i64, Sh.int IntKind.i64, Sh.sl [Sh.int IntKind.u8]]
            (D.l
              [D.t
                  [D.ki 1, D.ki 1,
                    D.kl
                      [D.t [D.ki 1], D.t [D.ki 4], D.ki 5, D.ki 212, D.t [D.ki 5], D.t [D.ki 6], D.ki 0, D.ki 0, D.ki 0,
                        D.ki 7]]])
            none,
          AV.sl true [Sh.int IntKind.i64] (D.l [D.t [D.ki 5], D.t [D.ki 7]]) none])
theorem mDo2 : okV (treeR (evF Tryz.prog (gam (awkG Tryz.prog)) (lam ([])) 100 50) mDo2K) = some mDo2R := by kernel_rfl
end
end Go.Proofs.YtcambhbmobepjaaGreat
