/- V3: parts of the page's example of layer 25. No condition. -/
import Derived.Test.YtdlomggjhclmlaaGreatDoorEvN
import Derived.Test.YtdlomggjhclmlaaGreatDoorMg8
import Derived.Test.YtdlomggjhclmlaaGreatDoorMg9
import Derived.Test.YtdlomggjhclmlaaGreatDoorV1
namespace Go.Proofs.YtdlomggjhclmlaaGreatDoor
set_option linter.unusedSimpArgs false
set_option linter.unusedVariables false
open Go.RowKit
set_option maxRecDepth 100000
noncomputable section
-- FAST
-- FUEL 1000
-- DEFS
abbrev kk (n : Int) : AV := .sc true (.int .i64 n)
def tg (x : AV) (i : Nat) : AV := match x with | .tup vs => vs.getD i .any | _ => .any
abbrev lcK : AV := .agg [kk 1492, kk 10, kk 2, kk 5, kk 3, kk 10, kk 3, kk 167772161]
abbrev tgS : List Sh := [.int .i64, .sl [.int .u8]]
def kn (P : Program) (G : List (FuncId × Spec)) (f : FuncId) : FuncId × Spec := (f, knownS P f (evF P (gam G) (lam []) 100 f))
def me (P : Program) (G : List (FuncId × Spec)) (f : FuncId) (k : List AV) (r : AV) : FuncId × Spec := (f, memoS P f k r (evF P (gam G) (lam []) 100 f))
def grG (P : Program) : List (FuncId × Spec) := [(348, growS)]
def clG : List (FuncId × Spec) := [(403, cloneRowS)]
def plG (P : Program) : List (FuncId × Spec) := [(148, rangeV P [] true 100 148)]
def paG (P : Program) : List (FuncId × Spec) :=
  kn P [] 170 :: kn P (grG P) 249 :: kn P [] 373 :: kn P clG 356 ::
  me P (shG P) 232 ckPK ckPR :: grG P
-- END
def gatK : List AV := []
def gatR : AV :=
    (AV.sl true [Sh.int IntKind.i64, Sh.int IntKind.i64, Sh.bool]
        (D.l [D.t [D.ki 2, D.ki 0, D.kb true], D.t [D.ki 3, D.ki 0, D.kb false], D.t [D.ki 4, D.ki 0, D.kb true]]) none)
theorem gat : okV (treeR (evF Tryz.prog (gam (plG Tryz.prog)) (lam ([])) 1000 124) gatK) = some gatR := by rw [← fvF_eq Tryz.prog (gam (plG Tryz.prog)) (lam ([])) true 1000 124]; kernel_rfl
def cfK : List AV := []
def cfR : AV :=
    (AV.agg
        [AV.sc true (Value.string (bs [97, 99])), AV.sl true [Sh.str] (D.l [D.t [D.ks (bs [105, 115, 112])]]) none,
          AV.sc true (Value.int IntKind.u8 2), AV.sc true (Value.int IntKind.u8 0), AV.sc true (Value.int IntKind.u8 0),
          AV.sc true (Value.int IntKind.u8 0), AV.sc true (Value.int IntKind.u8 0), AV.sc true (Value.int IntKind.u8 254),
          AV.sl true [Sh.int IntKind.u8] (D.l [D.t [D.ki 107], D.t [D.ki 101], D.t [D.ki 121]]) none,
          AV.sc true (Value.int IntKind.i64 10), AV.sc true (Value.int IntKind.i64 1), AV.sc true (Value.int IntKind.i64 4),
          AV.sc true (Value.int IntKind.i64 1), AV.sc true (Value.int IntKind.i64 2), AV.sc true (Value.int IntKind.i64 7),
          AV.sc true (Value.int IntKind.i64 9), AV.sc true (Value.int IntKind.i64 5),
          AV.sc true (Value.int IntKind.i64 1000), AV.sc true (Value.int IntKind.i64 3),
          AV.sl true [Sh.int IntKind.i64] (D.l [D.t [D.ki 0]]) none, AV.sc true (Value.int IntKind.i64 1492),
          AV.sc true (Value.int IntKind.i64 10), AV.sc true (Value.int IntKind.i64 2), AV.sc true (Value.int IntKind.i64 5),
          AV.sc true (Value.int IntKind.i64 3), AV.sc true (Value.int IntKind.i64 10), AV.sc true (Value.int IntKind.i64 3),
          AV.sc true (Value.int IntKind.i64 167772161), AV.sc true (Value.int IntKind.i64 20),
          AV.sc true (Value.int IntKind.i64 4), AV.sc true (Value.int IntKind.i64 2), AV.sc true (Value.int IntKind.i64 4)])
theorem cf : okV (treeR (evF Tryz.prog (gam (paG Tryz.prog)) (lam ([])) 1000 36) cfK) = some cfR := by rw [← fvF_eq Tryz.prog (gam (paG Tryz.prog)) (lam ([])) true 1000 36]; kernel_rfl
def ln1K : List AV := [lcK, kk 1]
def ln1R : AV :=
    (AV.tup
        [AV.agg
            [AV.sc true (Value.int IntKind.i64 1), AV.sc true (Value.int IntKind.i64 0),
              AV.sc true (Value.int IntKind.i64 0), AV.sc true (Value.int IntKind.i64 0),
              AV.sl true [Sh.int IntKind.i64, Sh.sl [Sh.int IntKind.u8]]
                (D.l
                  [D.t [D.ki 1, D.kl [D.t [D.ki 5], D.t [D.ki 212]]],
                    D.t [D.ki 5, D.kl [D.t [D.ki 0], D.t [D.ki 0], D.t [D.ki 0], D.t [D.ki 1]]]])
                none,
              AV.sc true (Value.int IntKind.i64 0), AV.sc true (Value.int IntKind.i64 0),
              AV.sc true (Value.int IntKind.i64 0), AV.sc true (Value.int IntKind.i64 1),
              AV.sc true (Value.int IntKind.i64 0), AV.sc true (Value.int IntKind.i64 1492),
              AV.sc true (Value.int IntKind.i64 0), AV.sc true (Value.int IntKind.i64 0),
              AV.sc true (Value.int IntKind.i64 0), AV.sc true (Value.int IntKind.i64 0),
              AV.sc true (Value.int IntKind.i64 0), AV.sc true (Value.slice none 0 0), AV.sc true (Value.int IntKind.i64 0),
              AV.sc true (Value.int IntKind.i64 0), AV.sc true (Value.int IntKind.i64 0),
              AV.sc true (Value.int IntKind.i64 0), AV.sc true (Value.int IntKind.i64 0),
              AV.sc true (Value.int IntKind.i64 0)],
          AV.sc true (Value.int IntKind.i64 0)])
theorem ln1 : okV (treeR (evF Tryz.prog (gam (paG Tryz.prog)) (lam ([])) 1000 253) ln1K) = some ln1R := by rw [← fvF_eq Tryz.prog (gam (paG Tryz.prog)) (lam ([])) true 1000 253]; kernel_rfl
def dcK : List AV := []
def dcR : AV :=
    (AV.sl true [Sh.int IntKind.u8]
        (D.l
          [D.t [D.ki 255], D.t [D.ki 255], D.t [D.ki 255], D.t [D.ki 255], D.t [D.ki 255], D.t [D.ki 255], D.t [D.ki 2],
            D.t [D.ki 0], D.t [D.ki 0], D.t [D.ki 0], D.t [D.ki 0], D.t [D.ki 1], D.t [D.ki 136], D.t [D.ki 99],
            D.t [D.ki 17], D.t [D.ki 9], D.t [D.ki 0], D.t [D.ki 0], D.t [D.ki 0], D.t [D.ki 4], D.t [D.ki 1], D.t [D.ki 1],
            D.t [D.ki 0], D.t [D.ki 0]])
        none)
theorem dc : okV (treeR (evF Tryz.prog (gam (paG Tryz.prog)) (lam ([])) 1000 37) dcK) = some dcR := by rw [← fvF_eq Tryz.prog (gam (paG Tryz.prog)) (lam ([])) true 1000 37]; kernel_rfl
end
end Go.Proofs.YtdlomggjhclmlaaGreatDoor
