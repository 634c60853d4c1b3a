/- W3: parts of the page's example of layer 23. No condition. -/
import Derived.Test.YtdeoodckpcnojaaGreatDoorEvN
import Derived.Test.YtdeoodckpcnojaaGreatDoorGrw
import Derived.Test.YtdeoodckpcnojaaGreatDoorClr
import Derived.Test.YtdeoodckpcnojaaGreatDoorW2
namespace Go.Proofs.YtdeoodckpcnojaaGreatDoor
set_option linter.unusedSimpArgs false
set_option linter.unusedVariables false
open Go.RowKit
set_option maxRecDepth 100000
noncomputable section
-- FAST
-- FUEL 1000
-- DEFS
abbrev kk (n : Int) : AV := .sc true (.int .i64 n)
def tg (x : AV) (i : Nat) : AV := match x with | .tup vs => vs.getD i .any | _ => .any
def nzC (x : AV) : AV := match x with | .sc _ (.slice none _ _) => .sl true opS (.l []) none | x => x
def nz (x : AV) : AV := match x with | .agg l => .agg (l.map nzC) | x => x
abbrev lcK : AV := .agg [kk 1492, kk 10, kk 2, kk 5, kk 3, kk 10, kk 3, kk 167772161]
abbrev tgS : List Sh := [.int .i64, .sl [.int .u8]]
def kn (P : Program) (G : List (FuncId × Spec)) (f : FuncId) : FuncId × Spec := (f, knownS P f (evF P (gam G) (lam []) 100 f))
def me (P : Program) (G : List (FuncId × Spec)) (f : FuncId) (k : List AV) (r : AV) : FuncId × Spec := (f, memoS P f k r (evF P (gam G) (lam []) 100 f))
def grG (P : Program) : List (FuncId × Spec) := [(244, growS)]
def clG : List (FuncId × Spec) := [(275, cloneRowS)]
def paG (P : Program) : List (FuncId × Spec) :=
  kn P [] 176 :: kn P (grG P) 118 :: kn P [] 218 :: kn P clG 219 ::
  me P (shG P) 198 ckPK ckPR :: me P (shG P) 114 ckRK ckRR :: grG P
-- END
def cfK : List AV := []
def cfR : AV :=
    (AV.agg
        [AV.sc true (Value.string (bs [97, 99])), AV.sl true [Sh.str] (D.l [D.t [D.ks (bs [105, 115, 112])]]) none,
          AV.sc true (Value.int IntKind.u8 2), AV.sc true (Value.int IntKind.u8 0), AV.sc true (Value.int IntKind.u8 0),
          AV.sc true (Value.int IntKind.u8 0), AV.sc true (Value.int IntKind.u8 0), AV.sc true (Value.int IntKind.u8 254),
          AV.sl true [Sh.int IntKind.u8] (D.l [D.t [D.ki 107], D.t [D.ki 101], D.t [D.ki 121]]) none,
          AV.sc true (Value.int IntKind.i64 10), AV.sc true (Value.int IntKind.i64 1), AV.sc true (Value.int IntKind.i64 4),
          AV.sc true (Value.int IntKind.i64 1), AV.sc true (Value.int IntKind.i64 2), AV.sc true (Value.int IntKind.i64 7),
          AV.sc true (Value.int IntKind.i64 9), AV.sc true (Value.int IntKind.i64 5),
          AV.sc true (Value.int IntKind.i64 1000), AV.sc true (Value.int IntKind.i64 3),
          AV.sl true [Sh.int IntKind.i64] (D.l [D.t [D.ki 0]]) none, AV.sc true (Value.int IntKind.i64 1492),
          AV.sc true (Value.int IntKind.i64 10), AV.sc true (Value.int IntKind.i64 2), AV.sc true (Value.int IntKind.i64 5),
          AV.sc true (Value.int IntKind.i64 3), AV.sc true (Value.int IntKind.i64 10), AV.sc true (Value.int IntKind.i64 3),
          AV.sc true (Value.int IntKind.i64 167772161), AV.sc true (Value.int IntKind.i64 20),
          AV.sc true (Value.int IntKind.i64 4), AV.sc true (Value.int IntKind.i64 2), AV.sc true (Value.int IntKind.i64 4)])
theorem cf : okV (treeR (evF Tryz.prog (gam (paG Tryz.prog)) (lam ([])) 1000 37) cfK) = some cfR := by rw [← fvF_eq Tryz.prog (gam (paG Tryz.prog)) (lam ([])) true 1000 37]; kernel_rfl
def ln1K : List AV := [lcK, kk 1]
def ln1R : AV :=
    (AV.tup
        [AV.agg
            [AV.sc true (Value.int IntKind.i64 1), AV.sc true (Value.int IntKind.i64 0),
              AV.sc true (Value.int IntKind.i64 0), AV.sc true (Value.int IntKind.i64 0),
              AV.sl true [Sh.int IntKind.i64, Sh.sl [Sh.int IntKind.u8]]
                (D.l
                  [D.t [D.ki 1, D.kl [D.t [D.ki 5], D.t [D.ki 212]]],
                    D.t [D.ki 5, D.kl [D.t [D.ki 0], D.t [D.ki 0], D.t [D.ki 0], D.t [D.ki 1]]]])
                none,
              AV.sc true (Value.int IntKind.i64 0), AV.sc true (Value.int IntKind.i64 0),
              AV.sc true (Value.int IntKind.i64 0), AV.sc true (Value.int IntKind.i64 1),
              AV.sc true (Value.int IntKind.i64 0), AV.sc true (Value.int IntKind.i64 1492),
              AV.sc true (Value.int IntKind.i64 0), AV.sc true (Value.int IntKind.i64 0),
              AV.sc true (Value.int IntKind.i64 0), AV.sc true (Value.int IntKind.i64 0),
              AV.sc true (Value.int IntKind.i64 0), AV.sc true (Value.slice none 0 0), AV.sc true (Value.int IntKind.i64 0),
              AV.sc true (Value.int IntKind.i64 0), AV.sc true (Value.int IntKind.i64 0),
              AV.sc true (Value.int IntKind.i64 0), AV.sc true (Value.int IntKind.i64 0),
              AV.sc true (Value.int IntKind.i64 0)],
          AV.sc true (Value.int IntKind.i64 0)])
theorem ln1 : okV (treeR (evF Tryz.prog (gam (paG Tryz.prog)) (lam ([])) 1000 103) ln1K) = some ln1R := by rw [← fvF_eq Tryz.prog (gam (paG Tryz.prog)) (lam ([])) true 1000 103]; kernel_rfl
def ln6K : List AV := [lcK, kk 6]
def ln6R : AV :=
    (AV.tup
        [AV.agg
            [AV.sc true (Value.int IntKind.i64 1), AV.sc true (Value.int IntKind.i64 0),
              AV.sc true (Value.int IntKind.i64 0), AV.sc true (Value.int IntKind.i64 0),
              AV.sl true [Sh.int IntKind.i64, Sh.sl [Sh.int IntKind.u8]]
                (D.l
                  [D.t [D.ki 1, D.kl [D.t [D.ki 5], D.t [D.ki 212]]],
                    D.t [D.ki 5, D.kl [D.t [D.ki 0], D.t [D.ki 0], D.t [D.ki 0], D.t [D.ki 6]]]])
                none,
              AV.sc true (Value.int IntKind.i64 0), AV.sc true (Value.int IntKind.i64 0),
              AV.sc true (Value.int IntKind.i64 0), AV.sc true (Value.int IntKind.i64 6),
              AV.sc true (Value.int IntKind.i64 0), AV.sc true (Value.int IntKind.i64 1492),
              AV.sc true (Value.int IntKind.i64 0), AV.sc true (Value.int IntKind.i64 0),
              AV.sc true (Value.int IntKind.i64 0), AV.sc true (Value.int IntKind.i64 0),
              AV.sc true (Value.int IntKind.i64 0), AV.sc true (Value.slice none 0 0), AV.sc true (Value.int IntKind.i64 0),
              AV.sc true (Value.int IntKind.i64 0), AV.sc true (Value.int IntKind.i64 0),
              AV.sc true (Value.int IntKind.i64 0), AV.sc true (Value.int IntKind.i64 0),
              AV.sc true (Value.int IntKind.i64 0)],
          AV.sc true (Value.int IntKind.i64 0)])
theorem ln6 : okV (treeR (evF Tryz.prog (gam (paG Tryz.prog)) (lam ([])) 1000 103) ln6K) = some ln6R := by rw [← fvF_eq Tryz.prog (gam (paG Tryz.prog)) (lam ([])) true 1000 103]; kernel_rfl
def dcK : List AV := [.agg mac6, .agg ([255, 255, 255, 255, 255, 255].map fun n => .sc true (.int .u8 n)), kk 9, kk 0, .sl true tgS (.kl [.t [.ki 257, .kl []], .t [.ki 259, .kl [.ki 117]]]) none]
def dcR : AV :=
    (AV.sl true [Sh.int IntKind.u8]
        (D.l
          [D.t [D.ki 255], D.t [D.ki 255], D.t [D.ki 255], D.t [D.ki 255], D.t [D.ki 255], D.t [D.ki 255], D.t [D.ki 2],
            D.t [D.ki 0], D.t [D.ki 0], D.t [D.ki 0], D.t [D.ki 0], D.t [D.ki 1], D.t [D.ki 136], D.t [D.ki 99],
            D.t [D.ki 17], D.t [D.ki 9], D.t [D.ki 0], D.t [D.ki 0], D.t [D.ki 0], D.t [D.ki 9], D.t [D.ki 1], D.t [D.ki 1],
            D.t [D.ki 0], D.t [D.ki 0], D.t [D.ki 1], D.t [D.ki 3], D.t [D.ki 0], D.t [D.ki 1], D.ki 117])
        none)
theorem dc : okV (treeR (evF Tryz.prog (gam (paG Tryz.prog)) (lam ([])) 1000 38) dcK) = some dcR := by rw [← fvF_eq Tryz.prog (gam (paG Tryz.prog)) (lam ([])) true 1000 38]; kernel_rfl
end
end Go.Proofs.YtdeoodckpcnojaaGreatDoor
