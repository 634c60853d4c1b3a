/- MpY: texts of this claim, one behind the other: W4 W5. No condition. -/
import Derived.Test.YtomblhnchdokmaaGreatDoorMpX
namespace Go.Proofs.YtomblhnchdokmaaGreatDoor
set_option linter.unusedSimpArgs false
set_option linter.unusedVariables false
open Go.RowKit
set_option maxRecDepth 100000
noncomputable section
-- FAST
-- FUEL 1000
-- DEFS
def pbG (P : Program) : List (FuncId × Spec) :=
  (23, memoS P 23 ln1K ln1R (memoS P 23 ln6K ln6R (evF P (gam (paG P)) (lam []) 100 23))) ::
  (20, mergeS (evF P (gam (paG P)) (lam []) 100 20)) :: paG P
-- END
def lsK : List AV := [lcK, nz (tg ln6R 0), kw1 0]
def lsR : AV :=
    (AV.tup
        [AV.agg
            [AV.sc true (Value.int IntKind.i64 1), AV.sc true (Value.int IntKind.i64 6),
              AV.sc true (Value.int IntKind.i64 1), AV.sc true (Value.int IntKind.i64 1),
              AV.sl true [Sh.int IntKind.i64, Sh.sl [Sh.int IntKind.u8]]
                (D.l
                  [D.t [D.ki 1, D.kl [D.t [D.ki 5], D.t [D.ki 212]]],
                    D.t [D.ki 5, D.kl [D.t [D.ki 0], D.t [D.ki 0], D.t [D.ki 0], D.t [D.ki 6]]]])
                none,
              AV.sc true (Value.int IntKind.i64 9), AV.sc true (Value.int IntKind.i64 3),
              AV.sc true (Value.int IntKind.i64 0), AV.sc true (Value.int IntKind.i64 6),
              AV.sc true (Value.int IntKind.i64 0), AV.sc true (Value.int IntKind.i64 1492),
              AV.sc true (Value.int IntKind.i64 0), AV.sc true (Value.int IntKind.i64 0),
              AV.sc true (Value.int IntKind.i64 0), AV.sc true (Value.int IntKind.i64 0),
              AV.sc true (Value.int IntKind.i64 0),
              AV.sl true [Sh.int IntKind.i64, Sh.sl [Sh.int IntKind.u8]] (D.l []) none,
              AV.sc true (Value.int IntKind.i64 0), AV.sc true (Value.int IntKind.i64 0),
              AV.sc true (Value.int IntKind.i64 0), AV.sc true (Value.int IntKind.i64 0),
              AV.sc true (Value.int IntKind.i64 0), AV.sc true (Value.int IntKind.i64 0)],
          AV.sl true [Sh.int IntKind.i64, Sh.sl [Sh.int IntKind.u8]]
            (D.l
              [D.t
                  [D.ki 49185,
                    D.kl
                      [D.t [D.ki 1], D.t [D.ki 1], D.t [D.ki 0], D.t [D.ki 14], D.t [D.ki 1], D.t [D.ki 4], D.t [D.ki 5],
                        D.t [D.ki 212], D.t [D.ki 5], D.t [D.ki 6], D.t [D.ki 0], D.t [D.ki 0], D.t [D.ki 0],
                        D.t [D.ki 6]]]])
            none])
theorem ls : okV (treeR (evF Tryz.prog (gam (paG Tryz.prog)) (lam ([])) 1000 242) lsK) = some lsR := by rw [← fvF_eq Tryz.prog (gam (paG Tryz.prog)) (lam ([])) true 1000 242]; kernel_rfl
def akK : List AV := [cfR, .agg mac6, by1 [117], kw1 0]
def akR : AV :=
    (AV.sl true [Sh.int IntKind.u8]
        (D.l
          [D.t [D.ki 2], D.t [D.ki 0], D.t [D.ki 0], D.t [D.ki 0], D.t [D.ki 0], D.t [D.ki 254], D.t [D.ki 2], D.t [D.ki 0],
            D.t [D.ki 0], D.t [D.ki 0], D.t [D.ki 0], D.t [D.ki 1], D.t [D.ki 136], D.t [D.ki 99], D.t [D.ki 17],
            D.t [D.ki 25], D.t [D.ki 0], D.t [D.ki 0], D.t [D.ki 0], D.t [D.ki 45], D.t [D.ki 1], D.t [D.ki 1],
            D.t [D.ki 0], D.t [D.ki 0], D.t [D.ki 1], D.t [D.ki 3], D.t [D.ki 0], D.t [D.ki 1], D.t [D.ki 117],
            D.t [D.ki 1], D.t [D.ki 4], D.t [D.ki 0], D.t [D.ki 32], D.t [D.ki 117], D.t [D.ki 136], D.t [D.ki 213],
            D.t [D.ki 150], D.t [D.ki 238], D.t [D.ki 211], D.t [D.ki 104], D.t [D.ki 67], D.t [D.ki 116], D.t [D.ki 52],
            D.t [D.ki 220], D.t [D.ki 86], D.t [D.ki 164], D.t [D.ki 117], D.t [D.ki 184], D.t [D.ki 166], D.t [D.ki 70],
            D.t [D.ki 77], D.t [D.ki 115], D.t [D.ki 178], D.t [D.ki 191], D.t [D.ki 187], D.t [D.ki 142], D.t [D.ki 147],
            D.t [D.ki 38], D.t [D.ki 118], D.t [D.ki 156], D.t [D.ki 202], D.t [D.ki 249], D.t [D.ki 144], D.t [D.ki 222],
            D.t [D.ki 165]])
        none)
theorem ak : okV (treeR (evF Tryz.prog (gam (paG Tryz.prog)) (lam ([])) 1000 48) akK) = some akR := by rw [← fvF_eq Tryz.prog (gam (paG Tryz.prog)) (lam ([])) true 1000 48]; kernel_rfl
def ckcK : List AV := [cfR]
def ckcR : AV :=
    (AV.sc true (Value.int IntKind.i64 0))
theorem ckc : okV (treeR (evF Tryz.prog (gam (pbG Tryz.prog)) (lam ([])) 1000 8) ckcK) = some ckcR := by rw [← fvF_eq Tryz.prog (gam (pbG Tryz.prog)) (lam ([])) true 1000 8]; kernel_rfl
end
end Go.Proofs.YtomblhnchdokmaaGreatDoor

namespace Go.Proofs.YtomblhnchdokmaaGreatDoor
set_option linter.unusedSimpArgs false
set_option linter.unusedVariables false
open Go.RowKit
set_option maxRecDepth 100000
noncomputable section
-- FAST
-- FUEL 1000
-- DEFS
def peG (P : Program) : List (FuncId × Spec) :=
  kn P (pbG P) 113 :: kn P (pbG P) 178 :: kn P (pbG P) 114 :: kn P (pbG P) 147 :: kn P (pbG P) 185 :: kn P (pbG P) 187 ::
  kn P (pbG P) 192 ::  kn P (pbG P) 184 :: kn P (pbG P) 186 :: kn P [] 26 :: pbG P
def pcG (P : Program) : List (FuncId × Spec) :=
  me P (pbG P) 242 lsK lsR :: me P (pbG P) 46 dcK dcR :: me P (pbG P) 48 akK akR :: me P (pbG P) 8 ckcK ckcR :: me P (pbG P) 44 cfK cfR :: peG P
-- END
def awkK : List AV := []
def awkR : AV :=
    (AV.sc true (Value.bool true))
theorem awk : okV (treeR (evF Tryz.prog (gam (pcG Tryz.prog)) (lam ([])) 1000 14) awkK) = some awkR := by rw [← fvF_eq Tryz.prog (gam (pcG Tryz.prog)) (lam ([])) true 1000 14]; kernel_rfl
end
end Go.Proofs.YtomblhnchdokmaaGreatDoor
