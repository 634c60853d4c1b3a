/- W1: the page's cookie, the program's and the document's. No condition. -/
import Derived.Test.YtdeoodckpcnojaaGreatDoorEvJ
import Derived.Test.YtdeoodckpcnojaaGreatDoorEvS
import Derived.Test.YtdeoodckpcnojaaGreatDoorW0
namespace Go.Proofs.YtdeoodckpcnojaaGreatDoor
set_option linter.unusedSimpArgs false
set_option linter.unusedVariables false
open Go.RowKit
set_option maxRecDepth 100000
noncomputable section
-- FAST
-- FUEL 1000
-- DEFS
def stS (P : Program) (f : FuncId) : Spec := memoS P f shK0 shR0 (memoS P f shK1 shR1 (memoS P f shK2 shR2 (memoS P f shK3 shR3 (memoS P f shK4 shR4 (memoS P f shK5 shR5 (memoS P f shK6 shR6 (memoS P f shK7 shR7 (evF P (gam []) (lam []) 100 f))))))))
def shG (P : Program) : List (FuncId × Spec) := (321, stS P 321) :: (288, stS P 288) :: []
abbrev by1 (l : List Int) : AV := .sl true [.int .u8] (.kl (l.map fun n => .ki n)) none
abbrev mac6 : List AV := [2, 0, 0, 0, 0, 1].map fun n => .sc true (.int .u8 n)
-- END
def ckPK : List AV := [.agg ([by1 [107, 101, 121]] ++ mac6 ++ [by1 [117]]), .sc true (.int .i64 0)]
def ckPR : AV :=
    (AV.sl true [Sh.int IntKind.u8]
        (D.l
          [D.t [D.ki 117], D.t [D.ki 136], D.t [D.ki 213], D.t [D.ki 150], D.t [D.ki 238], D.t [D.ki 211], D.t [D.ki 104],
            D.t [D.ki 67], D.t [D.ki 116], D.t [D.ki 52], D.t [D.ki 220], D.t [D.ki 86], D.t [D.ki 164], D.t [D.ki 117],
            D.t [D.ki 184], D.t [D.ki 166], D.t [D.ki 70], D.t [D.ki 77], D.t [D.ki 115], D.t [D.ki 178], D.t [D.ki 191],
            D.t [D.ki 187], D.t [D.ki 142], D.t [D.ki 147], D.t [D.ki 38], D.t [D.ki 118], D.t [D.ki 156], D.t [D.ki 202],
            D.t [D.ki 249], D.t [D.ki 144], D.t [D.ki 222], D.t [D.ki 165]])
        none)
theorem ckP : okV (treeR (evF Tryz.prog (gam (shG Tryz.prog)) (lam ([])) 1000 198) ckPK) = some ckPR := by rw [← fvF_eq Tryz.prog (gam (shG Tryz.prog)) (lam ([])) true 1000 198]; kernel_rfl
def su0K : List AV := [by1 [93, 83, 79, 54, 54, 54, 54, 54, 54, 54, 54, 54, 54, 54, 54, 54, 54, 54, 54, 54, 54, 54, 54, 54, 54, 54, 54, 54, 54, 54, 54, 54, 54, 54, 54, 54, 54, 54, 54, 54, 54, 54, 54, 54, 54, 54, 54, 54, 54, 54, 54, 54, 54, 54, 54, 54, 54, 54, 54, 54, 54, 54, 54, 54, 101, 112, 111, 99, 104, 0, 0, 0, 0, 0, 0, 0, 0, 0]]
def su0R : AV :=
    (AV.agg
        [AV.sc true (Value.int IntKind.u8 163), AV.sc true (Value.int IntKind.u8 138),
          AV.sc true (Value.int IntKind.u8 154), AV.sc true (Value.int IntKind.u8 101),
          AV.sc true (Value.int IntKind.u8 212), AV.sc true (Value.int IntKind.u8 16),
          AV.sc true (Value.int IntKind.u8 167), AV.sc true (Value.int IntKind.u8 131),
          AV.sc true (Value.int IntKind.u8 228), AV.sc true (Value.int IntKind.u8 82),
          AV.sc true (Value.int IntKind.u8 153), AV.sc true (Value.int IntKind.u8 37), AV.sc true (Value.int IntKind.u8 65),
          AV.sc true (Value.int IntKind.u8 251), AV.sc true (Value.int IntKind.u8 221),
          AV.sc true (Value.int IntKind.u8 164), AV.sc true (Value.int IntKind.u8 173),
          AV.sc true (Value.int IntKind.u8 129), AV.sc true (Value.int IntKind.u8 83),
          AV.sc true (Value.int IntKind.u8 119), AV.sc true (Value.int IntKind.u8 101),
          AV.sc true (Value.int IntKind.u8 137), AV.sc true (Value.int IntKind.u8 91),
          AV.sc true (Value.int IntKind.u8 160), AV.sc true (Value.int IntKind.u8 90), AV.sc true (Value.int IntKind.u8 52),
          AV.sc true (Value.int IntKind.u8 215), AV.sc true (Value.int IntKind.u8 236),
          AV.sc true (Value.int IntKind.u8 66), AV.sc true (Value.int IntKind.u8 234),
          AV.sc true (Value.int IntKind.u8 109), AV.sc true (Value.int IntKind.u8 49)])
theorem su0 : okV (treeR (evF Tryz.prog (gam (shG Tryz.prog)) (lam ([])) 1000 242) su0K) = some su0R := by rw [← fvF_eq Tryz.prog (gam (shG Tryz.prog)) (lam ([])) true 1000 242]; kernel_rfl
def su1K : List AV := [by1 [55, 57, 37, 92, 92, 92, 92, 92, 92, 92, 92, 92, 92, 92, 92, 92, 92, 92, 92, 92, 92, 92, 92, 92, 92, 92, 92, 92, 92, 92, 92, 92, 92, 92, 92, 92, 92, 92, 92, 92, 92, 92, 92, 92, 92, 92, 92, 92, 92, 92, 92, 92, 92, 92, 92, 92, 92, 92, 92, 92, 92, 92, 92, 92, 163, 138, 154, 101, 212, 16, 167, 131, 228, 82, 153, 37, 65, 251, 221, 164, 173, 129, 83, 119, 101, 137, 91, 160, 90, 52, 215, 236, 66, 234, 109, 49]]
def su1R : AV :=
    (AV.agg
        [AV.sc true (Value.int IntKind.u8 128), AV.sc true (Value.int IntKind.u8 240),
          AV.sc true (Value.int IntKind.u8 235), AV.sc true (Value.int IntKind.u8 163),
          AV.sc true (Value.int IntKind.u8 240), AV.sc true (Value.int IntKind.u8 122),
          AV.sc true (Value.int IntKind.u8 230), AV.sc true (Value.int IntKind.u8 14), AV.sc true (Value.int IntKind.u8 67),
          AV.sc true (Value.int IntKind.u8 243), AV.sc true (Value.int IntKind.u8 119),
          AV.sc true (Value.int IntKind.u8 247), AV.sc true (Value.int IntKind.u8 34), AV.sc true (Value.int IntKind.u8 44),
          AV.sc true (Value.int IntKind.u8 213), AV.sc true (Value.int IntKind.u8 163),
          AV.sc true (Value.int IntKind.u8 149), AV.sc true (Value.int IntKind.u8 244),
          AV.sc true (Value.int IntKind.u8 70), AV.sc true (Value.int IntKind.u8 161), AV.sc true (Value.int IntKind.u8 86),
          AV.sc true (Value.int IntKind.u8 151), AV.sc true (Value.int IntKind.u8 215),
          AV.sc true (Value.int IntKind.u8 158), AV.sc true (Value.int IntKind.u8 186),
          AV.sc true (Value.int IntKind.u8 114), AV.sc true (Value.int IntKind.u8 72), AV.sc true (Value.int IntKind.u8 46),
          AV.sc true (Value.int IntKind.u8 47), AV.sc true (Value.int IntKind.u8 15), AV.sc true (Value.int IntKind.u8 50),
          AV.sc true (Value.int IntKind.u8 194)])
theorem su1 : okV (treeR (evF Tryz.prog (gam (shG Tryz.prog)) (lam ([])) 1000 242) su1K) = some su1R := by rw [← fvF_eq Tryz.prog (gam (shG Tryz.prog)) (lam ([])) true 1000 242]; kernel_rfl
def su2K : List AV := [by1 [182, 198, 221, 149, 198, 76, 208, 56, 117, 197, 65, 193, 20, 26, 227, 149, 163, 194, 112, 151, 96, 161, 225, 168, 140, 68, 126, 24, 25, 57, 4, 244, 54, 54, 54, 54, 54, 54, 54, 54, 54, 54, 54, 54, 54, 54, 54, 54, 54, 54, 54, 54, 54, 54, 54, 54, 54, 54, 54, 54, 54, 54, 54, 54, 2, 0, 0, 0, 0, 1, 0, 1, 117, 0, 0, 0, 0, 0, 0, 0, 0]]
def su2R : AV :=
    (AV.agg
        [AV.sc true (Value.int IntKind.u8 65), AV.sc true (Value.int IntKind.u8 82), AV.sc true (Value.int IntKind.u8 85),
          AV.sc true (Value.int IntKind.u8 195), AV.sc true (Value.int IntKind.u8 104),
          AV.sc true (Value.int IntKind.u8 28), AV.sc true (Value.int IntKind.u8 66), AV.sc true (Value.int IntKind.u8 157),
          AV.sc true (Value.int IntKind.u8 71), AV.sc true (Value.int IntKind.u8 41), AV.sc true (Value.int IntKind.u8 202),
          AV.sc true (Value.int IntKind.u8 89), AV.sc true (Value.int IntKind.u8 42), AV.sc true (Value.int IntKind.u8 69),
          AV.sc true (Value.int IntKind.u8 37), AV.sc true (Value.int IntKind.u8 96), AV.sc true (Value.int IntKind.u8 195),
          AV.sc true (Value.int IntKind.u8 156), AV.sc true (Value.int IntKind.u8 20),
          AV.sc true (Value.int IntKind.u8 127), AV.sc true (Value.int IntKind.u8 197),
          AV.sc true (Value.int IntKind.u8 215), AV.sc true (Value.int IntKind.u8 202),
          AV.sc true (Value.int IntKind.u8 242), AV.sc true (Value.int IntKind.u8 202),
          AV.sc true (Value.int IntKind.u8 191), AV.sc true (Value.int IntKind.u8 21), AV.sc true (Value.int IntKind.u8 38),
          AV.sc true (Value.int IntKind.u8 217), AV.sc true (Value.int IntKind.u8 233),
          AV.sc true (Value.int IntKind.u8 155), AV.sc true (Value.int IntKind.u8 60)])
theorem su2 : okV (treeR (evF Tryz.prog (gam (shG Tryz.prog)) (lam ([])) 1000 242) su2K) = some su2R := by rw [← fvF_eq Tryz.prog (gam (shG Tryz.prog)) (lam ([])) true 1000 242]; kernel_rfl
def su3K : List AV := [by1 [220, 172, 183, 255, 172, 38, 186, 82, 31, 175, 43, 171, 126, 112, 137, 255, 201, 168, 26, 253, 10, 203, 139, 194, 230, 46, 20, 114, 115, 83, 110, 158, 92, 92, 92, 92, 92, 92, 92, 92, 92, 92, 92, 92, 92, 92, 92, 92, 92, 92, 92, 92, 92, 92, 92, 92, 92, 92, 92, 92, 92, 92, 92, 92, 65, 82, 85, 195, 104, 28, 66, 157, 71, 41, 202, 89, 42, 69, 37, 96, 195, 156, 20, 127, 197, 215, 202, 242, 202, 191, 21, 38, 217, 233, 155, 60]]
def su3R : AV :=
    (AV.agg
        [AV.sc true (Value.int IntKind.u8 117), AV.sc true (Value.int IntKind.u8 136),
          AV.sc true (Value.int IntKind.u8 213), AV.sc true (Value.int IntKind.u8 150),
          AV.sc true (Value.int IntKind.u8 238), AV.sc true (Value.int IntKind.u8 211),
          AV.sc true (Value.int IntKind.u8 104), AV.sc true (Value.int IntKind.u8 67),
          AV.sc true (Value.int IntKind.u8 116), AV.sc true (Value.int IntKind.u8 52),
          AV.sc true (Value.int IntKind.u8 220), AV.sc true (Value.int IntKind.u8 86),
          AV.sc true (Value.int IntKind.u8 164), AV.sc true (Value.int IntKind.u8 117),
          AV.sc true (Value.int IntKind.u8 184), AV.sc true (Value.int IntKind.u8 166),
          AV.sc true (Value.int IntKind.u8 70), AV.sc true (Value.int IntKind.u8 77), AV.sc true (Value.int IntKind.u8 115),
          AV.sc true (Value.int IntKind.u8 178), AV.sc true (Value.int IntKind.u8 191),
          AV.sc true (Value.int IntKind.u8 187), AV.sc true (Value.int IntKind.u8 142),
          AV.sc true (Value.int IntKind.u8 147), AV.sc true (Value.int IntKind.u8 38),
          AV.sc true (Value.int IntKind.u8 118), AV.sc true (Value.int IntKind.u8 156),
          AV.sc true (Value.int IntKind.u8 202), AV.sc true (Value.int IntKind.u8 249),
          AV.sc true (Value.int IntKind.u8 144), AV.sc true (Value.int IntKind.u8 222),
          AV.sc true (Value.int IntKind.u8 165)])
theorem su3 : okV (treeR (evF Tryz.prog (gam (shG Tryz.prog)) (lam ([])) 1000 242) su3K) = some su3R := by rw [← fvF_eq Tryz.prog (gam (shG Tryz.prog)) (lam ([])) true 1000 242]; kernel_rfl
end
end Go.Proofs.YtdeoodckpcnojaaGreatDoor
