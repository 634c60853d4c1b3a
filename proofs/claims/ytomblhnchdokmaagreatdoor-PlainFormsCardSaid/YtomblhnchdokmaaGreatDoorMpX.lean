/- MpX: texts of this claim, one behind the other: W1 W2 W3. No condition. -/
import Derived.Test.YtomblhnchdokmaaGreatDoorMp6
import Derived.Test.YtomblhnchdokmaaGreatDoorMpW
import Derived.Test.YtomblhnchdokmaaGreatDoorMp8
namespace Go.Proofs.YtomblhnchdokmaaGreatDoor
set_option linter.unusedSimpArgs false
set_option linter.unusedVariables false
open Go.RowKit
set_option maxRecDepth 100000
noncomputable section
-- FAST
-- FUEL 1000
-- DEFS
def stM (P : Program) (f : FuncId) : Spec := memoS P f shK0 shR0 (memoS P f shK1 shR1 (memoS P f shK2 shR2 (memoS P f shK3 shR3 (memoS P f shK4 shR4 (memoS P f shK5 shR5 (memoS P f shK6 shR6 (memoS P f shK7 shR7 (evF P (gam []) (lam []) 100 f))))))))
def shG (P : Program) : List (FuncId × Spec) := (343, stM P 343) :: (271, stM P 271) :: []
abbrev by1 (l : List Int) : AV := .sl true [.int .u8] (.kl (l.map fun n => .ki n)) none
abbrev mac6 : List AV := [2, 0, 0, 0, 0, 1].map fun n => .sc true (.int .u8 n)
-- END
def ckPK : List AV := [.agg ([by1 [107, 101, 121]] ++ mac6 ++ [by1 [117]]), .sc true (.int .i64 0)]
def ckPR : AV :=
    (AV.sl true [Sh.int IntKind.u8]
        (D.l
          [D.t [D.ki 117], D.t [D.ki 136], D.t [D.ki 213], D.t [D.ki 150], D.t [D.ki 238], D.t [D.ki 211], D.t [D.ki 104],
            D.t [D.ki 67], D.t [D.ki 116], D.t [D.ki 52], D.t [D.ki 220], D.t [D.ki 86], D.t [D.ki 164], D.t [D.ki 117],
            D.t [D.ki 184], D.t [D.ki 166], D.t [D.ki 70], D.t [D.ki 77], D.t [D.ki 115], D.t [D.ki 178], D.t [D.ki 191],
            D.t [D.ki 187], D.t [D.ki 142], D.t [D.ki 147], D.t [D.ki 38], D.t [D.ki 118], D.t [D.ki 156], D.t [D.ki 202],
            D.t [D.ki 249], D.t [D.ki 144], D.t [D.ki 222], D.t [D.ki 165]])
        none)
theorem ckP : okV (treeR (evF Tryz.prog (gam (shG Tryz.prog)) (lam ([])) 1000 234) ckPK) = some ckPR := by rw [← fvF_eq Tryz.prog (gam (shG Tryz.prog)) (lam ([])) true 1000 234]; kernel_rfl
def su0K : List AV := [by1 [93, 83, 79, 54, 54, 54, 54, 54, 54, 54, 54, 54, 54, 54, 54, 54, 54, 54, 54, 54, 54, 54, 54, 54, 54, 54, 54, 54, 54, 54, 54, 54, 54, 54, 54, 54, 54, 54, 54, 54, 54, 54, 54, 54, 54, 54, 54, 54, 54, 54, 54, 54, 54, 54, 54, 54, 54, 54, 54, 54, 54, 54, 54, 54, 101, 112, 111, 99, 104, 0, 0, 0, 0, 0, 0, 0, 0, 0]]
def su0R : AV :=
    (AV.agg
        [AV.sc true (Value.int IntKind.u8 163), AV.sc true (Value.int IntKind.u8 138),
          AV.sc true (Value.int IntKind.u8 154), AV.sc true (Value.int IntKind.u8 101),
          AV.sc true (Value.int IntKind.u8 212), AV.sc true (Value.int IntKind.u8 16),
          AV.sc true (Value.int IntKind.u8 167), AV.sc true (Value.int IntKind.u8 131),
          AV.sc true (Value.int IntKind.u8 228), AV.sc true (Value.int IntKind.u8 82),
          AV.sc true (Value.int IntKind.u8 153), AV.sc true (Value.int IntKind.u8 37), AV.sc true (Value.int IntKind.u8 65),
          AV.sc true (Value.int IntKind.u8 251), AV.sc true (Value.int IntKind.u8 221),
          AV.sc true (Value.int IntKind.u8 164), AV.sc true (Value.int IntKind.u8 173),
          AV.sc true (Value.int IntKind.u8 129), AV.sc true (Value.int IntKind.u8 83),
          AV.sc true (Value.int IntKind.u8 119), AV.sc true (Value.int IntKind.u8 101),
          AV.sc true (Value.int IntKind.u8 137), AV.sc true (Value.int IntKind.u8 91),
          AV.sc true (Value.int IntKind.u8 160), AV.sc true (Value.int IntKind.u8 90), AV.sc true (Value.int IntKind.u8 52),
          AV.sc true (Value.int IntKind.u8 215), AV.sc true (Value.int IntKind.u8 236),
          AV.sc true (Value.int IntKind.u8 66), AV.sc true (Value.int IntKind.u8 234),
          AV.sc true (Value.int IntKind.u8 109), AV.sc true (Value.int IntKind.u8 49)])
theorem su0 : okV (treeR (evF Tryz.prog (gam (shG Tryz.prog)) (lam ([])) 1000 221) su0K) = some su0R := by rw [← fvF_eq Tryz.prog (gam (shG Tryz.prog)) (lam ([])) true 1000 221]; kernel_rfl
def su1K : List AV := [by1 [55, 57, 37, 92, 92, 92, 92, 92, 92, 92, 92, 92, 92, 92, 92, 92, 92, 92, 92, 92, 92, 92, 92, 92, 92, 92, 92, 92, 92, 92, 92, 92, 92, 92, 92, 92, 92, 92, 92, 92, 92, 92, 92, 92, 92, 92, 92, 92, 92, 92, 92, 92, 92, 92, 92, 92, 92, 92, 92, 92, 92, 92, 92, 92, 163, 138, 154, 101, 212, 16, 167, 131, 228, 82, 153, 37, 65, 251, 221, 164, 173, 129, 83, 119, 101, 137, 91, 160, 90, 52, 215, 236, 66, 234, 109, 49]]
def su1R : AV :=
    (AV.agg
        [AV.sc true (Value.int IntKind.u8 128), AV.sc true (Value.int IntKind.u8 240),
          AV.sc true (Value.int IntKind.u8 235), AV.sc true (Value.int IntKind.u8 163),
          AV.sc true (Value.int IntKind.u8 240), AV.sc true (Value.int IntKind.u8 122),
          AV.sc true (Value.int IntKind.u8 230), AV.sc true (Value.int IntKind.u8 14), AV.sc true (Value.int IntKind.u8 67),
          AV.sc true (Value.int IntKind.u8 243), AV.sc true (Value.int IntKind.u8 119),
          AV.sc true (Value.int IntKind.u8 247), AV.sc true (Value.int IntKind.u8 34), AV.sc true (Value.int IntKind.u8 44),
          AV.sc true (Value.int IntKind.u8 213), AV.sc true (Value.int IntKind.u8 163),
          AV.sc true (Value.int IntKind.u8 149), AV.sc true (Value.int IntKind.u8 244),
          AV.sc true (Value.int IntKind.u8 70), AV.sc true (Value.int IntKind.u8 161), AV.sc true (Value.int IntKind.u8 86),
          AV.sc true (Value.int IntKind.u8 151), AV.sc true (Value.int IntKind.u8 215),
          AV.sc true (Value.int IntKind.u8 158), AV.sc true (Value.int IntKind.u8 186),
          AV.sc true (Value.int IntKind.u8 114), AV.sc true (Value.int IntKind.u8 72), AV.sc true (Value.int IntKind.u8 46),
          AV.sc true (Value.int IntKind.u8 47), AV.sc true (Value.int IntKind.u8 15), AV.sc true (Value.int IntKind.u8 50),
          AV.sc true (Value.int IntKind.u8 194)])
theorem su1 : okV (treeR (evF Tryz.prog (gam (shG Tryz.prog)) (lam ([])) 1000 221) su1K) = some su1R := by rw [← fvF_eq Tryz.prog (gam (shG Tryz.prog)) (lam ([])) true 1000 221]; kernel_rfl
def su2K : List AV := [by1 [182, 198, 221, 149, 198, 76, 208, 56, 117, 197, 65, 193, 20, 26, 227, 149, 163, 194, 112, 151, 96, 161, 225, 168, 140, 68, 126, 24, 25, 57, 4, 244, 54, 54, 54, 54, 54, 54, 54, 54, 54, 54, 54, 54, 54, 54, 54, 54, 54, 54, 54, 54, 54, 54, 54, 54, 54, 54, 54, 54, 54, 54, 54, 54, 2, 0, 0, 0, 0, 1, 0, 1, 117, 0, 0, 0, 0, 0, 0, 0, 0]]
def su2R : AV :=
    (AV.agg
        [AV.sc true (Value.int IntKind.u8 65), AV.sc true (Value.int IntKind.u8 82), AV.sc true (Value.int IntKind.u8 85),
          AV.sc true (Value.int IntKind.u8 195), AV.sc true (Value.int IntKind.u8 104),
          AV.sc true (Value.int IntKind.u8 28), AV.sc true (Value.int IntKind.u8 66), AV.sc true (Value.int IntKind.u8 157),
          AV.sc true (Value.int IntKind.u8 71), AV.sc true (Value.int IntKind.u8 41), AV.sc true (Value.int IntKind.u8 202),
          AV.sc true (Value.int IntKind.u8 89), AV.sc true (Value.int IntKind.u8 42), AV.sc true (Value.int IntKind.u8 69),
          AV.sc true (Value.int IntKind.u8 37), AV.sc true (Value.int IntKind.u8 96), AV.sc true (Value.int IntKind.u8 195),
          AV.sc true (Value.int IntKind.u8 156), AV.sc true (Value.int IntKind.u8 20),
          AV.sc true (Value.int IntKind.u8 127), AV.sc true (Value.int IntKind.u8 197),
          AV.sc true (Value.int IntKind.u8 215), AV.sc true (Value.int IntKind.u8 202),
          AV.sc true (Value.int IntKind.u8 242), AV.sc true (Value.int IntKind.u8 202),
          AV.sc true (Value.int IntKind.u8 191), AV.sc true (Value.int IntKind.u8 21), AV.sc true (Value.int IntKind.u8 38),
          AV.sc true (Value.int IntKind.u8 217), AV.sc true (Value.int IntKind.u8 233),
          AV.sc true (Value.int IntKind.u8 155), AV.sc true (Value.int IntKind.u8 60)])
theorem su2 : okV (treeR (evF Tryz.prog (gam (shG Tryz.prog)) (lam ([])) 1000 221) su2K) = some su2R := by rw [← fvF_eq Tryz.prog (gam (shG Tryz.prog)) (lam ([])) true 1000 221]; kernel_rfl
def su3K : List AV := [by1 [220, 172, 183, 255, 172, 38, 186, 82, 31, 175, 43, 171, 126, 112, 137, 255, 201, 168, 26, 253, 10, 203, 139, 194, 230, 46, 20, 114, 115, 83, 110, 158, 92, 92, 92, 92, 92, 92, 92, 92, 92, 92, 92, 92, 92, 92, 92, 92, 92, 92, 92, 92, 92, 92, 92, 92, 92, 92, 92, 92, 92, 92, 92, 92, 65, 82, 85, 195, 104, 28, 66, 157, 71, 41, 202, 89, 42, 69, 37, 96, 195, 156, 20, 127, 197, 215, 202, 242, 202, 191, 21, 38, 217, 233, 155, 60]]
def su3R : AV :=
    (AV.agg
        [AV.sc true (Value.int IntKind.u8 117), AV.sc true (Value.int IntKind.u8 136),
          AV.sc true (Value.int IntKind.u8 213), AV.sc true (Value.int IntKind.u8 150),
          AV.sc true (Value.int IntKind.u8 238), AV.sc true (Value.int IntKind.u8 211),
          AV.sc true (Value.int IntKind.u8 104), AV.sc true (Value.int IntKind.u8 67),
          AV.sc true (Value.int IntKind.u8 116), AV.sc true (Value.int IntKind.u8 52),
          AV.sc true (Value.int IntKind.u8 220), AV.sc true (Value.int IntKind.u8 86),
          AV.sc true (Value.int IntKind.u8 164), AV.sc true (Value.int IntKind.u8 117),
          AV.sc true (Value.int IntKind.u8 184), AV.sc true (Value.int IntKind.u8 166),
          AV.sc true (Value.int IntKind.u8 70), AV.sc true (Value.int IntKind.u8 77), AV.sc true (Value.int IntKind.u8 115),
          AV.sc true (Value.int IntKind.u8 178), AV.sc true (Value.int IntKind.u8 191),
          AV.sc true (Value.int IntKind.u8 187), AV.sc true (Value.int IntKind.u8 142),
          AV.sc true (Value.int IntKind.u8 147), AV.sc true (Value.int IntKind.u8 38),
          AV.sc true (Value.int IntKind.u8 118), AV.sc true (Value.int IntKind.u8 156),
          AV.sc true (Value.int IntKind.u8 202), AV.sc true (Value.int IntKind.u8 249),
          AV.sc true (Value.int IntKind.u8 144), AV.sc true (Value.int IntKind.u8 222),
          AV.sc true (Value.int IntKind.u8 165)])
theorem su3 : okV (treeR (evF Tryz.prog (gam (shG Tryz.prog)) (lam ([])) 1000 221) su3K) = some su3R := by rw [← fvF_eq Tryz.prog (gam (shG Tryz.prog)) (lam ([])) true 1000 221]; kernel_rfl
end
end Go.Proofs.YtomblhnchdokmaaGreatDoor

namespace Go.Proofs.YtomblhnchdokmaaGreatDoor
set_option linter.unusedSimpArgs false
set_option linter.unusedVariables false
open Go.RowKit
set_option maxRecDepth 100000
noncomputable section
-- FAST
-- FUEL 1000
-- DEFS
def rsS (P : Program) : Spec := memoS P 221 su0K su0R (memoS P 221 su1K su1R (memoS P 221 su2K su2R (memoS P 221 su3K su3R (evF P (gam (shG P)) (lam []) 100 221))))
def rsG (P : Program) : List (FuncId × Spec) := (221, rsS P) :: shG P
-- END
def ckRK : List AV := [.agg [by1 [107, 101, 121], .sc true (.int .i64 10)], .agg mac6, by1 [117], .sc true (.int .i64 0)]
def ckRR : AV :=
    (AV.sl true [Sh.int IntKind.u8]
        (D.l
          [D.t [D.ki 117], D.t [D.ki 136], D.t [D.ki 213], D.t [D.ki 150], D.t [D.ki 238], D.t [D.ki 211], D.t [D.ki 104],
            D.t [D.ki 67], D.t [D.ki 116], D.t [D.ki 52], D.t [D.ki 220], D.t [D.ki 86], D.t [D.ki 164], D.t [D.ki 117],
            D.t [D.ki 184], D.t [D.ki 166], D.t [D.ki 70], D.t [D.ki 77], D.t [D.ki 115], D.t [D.ki 178], D.t [D.ki 191],
            D.t [D.ki 187], D.t [D.ki 142], D.t [D.ki 147], D.t [D.ki 38], D.t [D.ki 118], D.t [D.ki 156], D.t [D.ki 202],
            D.t [D.ki 249], D.t [D.ki 144], D.t [D.ki 222], D.t [D.ki 165]])
        none)
theorem ckR : okV (treeR (evF Tryz.prog (gam (rsG Tryz.prog)) (lam ([])) 1000 124) ckRK) = some ckRR := by rw [← fvF_eq Tryz.prog (gam (rsG Tryz.prog)) (lam ([])) true 1000 124]; kernel_rfl
end
end Go.Proofs.YtomblhnchdokmaaGreatDoor

namespace Go.Proofs.YtomblhnchdokmaaGreatDoor
set_option linter.unusedSimpArgs false
set_option linter.unusedVariables false
open Go.RowKit
set_option maxRecDepth 100000
noncomputable section
-- FAST
-- FUEL 1000
-- DEFS
abbrev kw1 (n : Int) : AV := .sc true (.int .i64 n)
def tg (x : AV) (i : Nat) : AV := match x with | .tup vs => vs.getD i .any | _ => .any
def nzC (x : AV) : AV := match x with | .sc _ (.slice none _ _) => .sl true opS (.l []) none | x => x
def nz (x : AV) : AV := match x with | .agg l => .agg (l.map nzC) | x => x
abbrev lcK : AV := .agg [kw1 1492, kw1 10, kw1 2, kw1 5, kw1 3, kw1 10, kw1 3, kw1 167772161]
abbrev tgS : List Sh := [.int .i64, .sl [.int .u8]]
def kn (P : Program) (G : List (FuncId × Spec)) (f : FuncId) : FuncId × Spec := (f, knownS P f (evF P (gam G) (lam []) 100 f))
def me (P : Program) (G : List (FuncId × Spec)) (f : FuncId) (k : List AV) (r : AV) : FuncId × Spec := (f, memoS P f k r (evF P (gam G) (lam []) 100 f))
def grG (P : Program) : List (FuncId × Spec) := [(272, growS)]
def clG : List (FuncId × Spec) := [(304, cloneRowS)]
def paG (P : Program) : List (FuncId × Spec) :=
  kn P [] 60 :: kn P (grG P) 177 :: kn P [] 254 :: kn P clG 255 ::
  me P (shG P) 234 ckPK ckPR :: me P (shG P) 124 ckRK ckRR :: grG P
-- END
def cfK : List AV := []
def cfR : AV :=
    (AV.agg
        [AV.sc true (Value.string (bs [97, 99])), AV.sl true [Sh.str] (D.l [D.t [D.ks (bs [105, 115, 112])]]) none,
          AV.sc true (Value.int IntKind.u8 2), AV.sc true (Value.int IntKind.u8 0), AV.sc true (Value.int IntKind.u8 0),
          AV.sc true (Value.int IntKind.u8 0), AV.sc true (Value.int IntKind.u8 0), AV.sc true (Value.int IntKind.u8 254),
          AV.sl true [Sh.int IntKind.u8] (D.l [D.t [D.ki 107], D.t [D.ki 101], D.t [D.ki 121]]) none,
          AV.sc true (Value.int IntKind.i64 10), AV.sc true (Value.int IntKind.i64 1), AV.sc true (Value.int IntKind.i64 4),
          AV.sc true (Value.int IntKind.i64 1), AV.sc true (Value.int IntKind.i64 2), AV.sc true (Value.int IntKind.i64 7),
          AV.sc true (Value.int IntKind.i64 9), AV.sc true (Value.int IntKind.i64 5),
          AV.sc true (Value.int IntKind.i64 1000), AV.sc true (Value.int IntKind.i64 3),
          AV.sl true [Sh.int IntKind.i64] (D.l [D.t [D.ki 0]]) none, AV.sc true (Value.int IntKind.i64 1492),
          AV.sc true (Value.int IntKind.i64 10), AV.sc true (Value.int IntKind.i64 2), AV.sc true (Value.int IntKind.i64 5),
          AV.sc true (Value.int IntKind.i64 3), AV.sc true (Value.int IntKind.i64 10), AV.sc true (Value.int IntKind.i64 3),
          AV.sc true (Value.int IntKind.i64 167772161), AV.sc true (Value.int IntKind.i64 20),
          AV.sc true (Value.int IntKind.i64 4), AV.sc true (Value.int IntKind.i64 2), AV.sc true (Value.int IntKind.i64 4)])
theorem cf : okV (treeR (evF Tryz.prog (gam (paG Tryz.prog)) (lam ([])) 1000 44) cfK) = some cfR := by rw [← fvF_eq Tryz.prog (gam (paG Tryz.prog)) (lam ([])) true 1000 44]; kernel_rfl
def ln1K : List AV := [lcK, kw1 1]
def ln1R : AV :=
    (AV.tup
        [AV.agg
            [AV.sc true (Value.int IntKind.i64 1), AV.sc true (Value.int IntKind.i64 0),
              AV.sc true (Value.int IntKind.i64 0), AV.sc true (Value.int IntKind.i64 0),
              AV.sl true [Sh.int IntKind.i64, Sh.sl [Sh.int IntKind.u8]]
                (D.l
                  [D.t [D.ki 1, D.kl [D.t [D.ki 5], D.t [D.ki 212]]],
                    D.t [D.ki 5, D.kl [D.t [D.ki 0], D.t [D.ki 0], D.t [D.ki 0], D.t [D.ki 1]]]])
                none,
              AV.sc true (Value.int IntKind.i64 0), AV.sc true (Value.int IntKind.i64 0),
              AV.sc true (Value.int IntKind.i64 0), AV.sc true (Value.int IntKind.i64 1),
              AV.sc true (Value.int IntKind.i64 0), AV.sc true (Value.int IntKind.i64 1492),
              AV.sc true (Value.int IntKind.i64 0), AV.sc true (Value.int IntKind.i64 0),
              AV.sc true (Value.int IntKind.i64 0), AV.sc true (Value.int IntKind.i64 0),
              AV.sc true (Value.int IntKind.i64 0), AV.sc true (Value.slice none 0 0), AV.sc true (Value.int IntKind.i64 0),
              AV.sc true (Value.int IntKind.i64 0), AV.sc true (Value.int IntKind.i64 0),
              AV.sc true (Value.int IntKind.i64 0), AV.sc true (Value.int IntKind.i64 0),
              AV.sc true (Value.int IntKind.i64 0)],
          AV.sc true (Value.int IntKind.i64 0)])
theorem ln1 : okV (treeR (evF Tryz.prog (gam (paG Tryz.prog)) (lam ([])) 1000 23) ln1K) = some ln1R := by rw [← fvF_eq Tryz.prog (gam (paG Tryz.prog)) (lam ([])) true 1000 23]; kernel_rfl
def ln6K : List AV := [lcK, kw1 6]
def ln6R : AV :=
    (AV.tup
        [AV.agg
            [AV.sc true (Value.int IntKind.i64 1), AV.sc true (Value.int IntKind.i64 0),
              AV.sc true (Value.int IntKind.i64 0), AV.sc true (Value.int IntKind.i64 0),
              AV.sl true [Sh.int IntKind.i64, Sh.sl [Sh.int IntKind.u8]]
                (D.l
                  [D.t [D.ki 1, D.kl [D.t [D.ki 5], D.t [D.ki 212]]],
                    D.t [D.ki 5, D.kl [D.t [D.ki 0], D.t [D.ki 0], D.t [D.ki 0], D.t [D.ki 6]]]])
                none,
              AV.sc true (Value.int IntKind.i64 0), AV.sc true (Value.int IntKind.i64 0),
              AV.sc true (Value.int IntKind.i64 0), AV.sc true (Value.int IntKind.i64 6),
              AV.sc true (Value.int IntKind.i64 0), AV.sc true (Value.int IntKind.i64 1492),
              AV.sc true (Value.int IntKind.i64 0), AV.sc true (Value.int IntKind.i64 0),
              AV.sc true (Value.int IntKind.i64 0), AV.sc true (Value.int IntKind.i64 0),
              AV.sc true (Value.int IntKind.i64 0), AV.sc true (Value.slice none 0 0), AV.sc true (Value.int IntKind.i64 0),
              AV.sc true (Value.int IntKind.i64 0), AV.sc true (Value.int IntKind.i64 0),
              AV.sc true (Value.int IntKind.i64 0), AV.sc true (Value.int IntKind.i64 0),
              AV.sc true (Value.int IntKind.i64 0)],
          AV.sc true (Value.int IntKind.i64 0)])
theorem ln6 : okV (treeR (evF Tryz.prog (gam (paG Tryz.prog)) (lam ([])) 1000 23) ln6K) = some ln6R := by rw [← fvF_eq Tryz.prog (gam (paG Tryz.prog)) (lam ([])) true 1000 23]; kernel_rfl
def dcK : List AV := [.agg mac6, .agg ([255, 255, 255, 255, 255, 255].map fun n => .sc true (.int .u8 n)), kw1 9, kw1 0, .sl true tgS (.kl [.t [.ki 257, .kl []], .t [.ki 259, .kl [.ki 117]]]) none]
def dcR : AV :=
    (AV.sl true [Sh.int IntKind.u8]
        (D.l
          [D.t [D.ki 255], D.t [D.ki 255], D.t [D.ki 255], D.t [D.ki 255], D.t [D.ki 255], D.t [D.ki 255], D.t [D.ki 2],
            D.t [D.ki 0], D.t [D.ki 0], D.t [D.ki 0], D.t [D.ki 0], D.t [D.ki 1], D.t [D.ki 136], D.t [D.ki 99],
            D.t [D.ki 17], D.t [D.ki 9], D.t [D.ki 0], D.t [D.ki 0], D.t [D.ki 0], D.t [D.ki 9], D.t [D.ki 1], D.t [D.ki 1],
            D.t [D.ki 0], D.t [D.ki 0], D.t [D.ki 1], D.t [D.ki 3], D.t [D.ki 0], D.t [D.ki 1], D.ki 117])
        none)
theorem dc : okV (treeR (evF Tryz.prog (gam (paG Tryz.prog)) (lam ([])) 1000 46) dcK) = some dcR := by rw [← fvF_eq Tryz.prog (gam (paG Tryz.prog)) (lam ([])) true 1000 46]; kernel_rfl
end
end Go.Proofs.YtomblhnchdokmaaGreatDoor
