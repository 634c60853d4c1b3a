/- V1: the cookie of layer 25's page. No condition. -/
import Derived.Test.YtdlomggjhclmlaaGreatDoorEvJ
import Derived.Test.YtdlomggjhclmlaaGreatDoorEvS
import Derived.Test.YtdlomggjhclmlaaGreatDoorW0
import Derived.Test.YtdlomggjhclmlaaGreatDoorWj
namespace Go.Proofs.YtdlomggjhclmlaaGreatDoor
set_option linter.unusedSimpArgs false
set_option linter.unusedVariables false
open Go.RowKit
set_option maxRecDepth 100000
noncomputable section
-- FAST
-- FUEL 1000
-- DEFS
def stS (P : Program) (f : FuncId) : Spec := memoS P f shK0 shR0 (memoS P f shK1 shR1 (memoS P f shK2 shR2 (memoS P f shK3 shR3 (memoS P f shK4 shR4 (memoS P f shK8 shR8 (memoS P f shK6 shR6 (memoS P f shK9 shR9 (evF P (gam []) (lam []) 100 f))))))))
def shG (P : Program) : List (FuncId × Spec) := (391, stS P 391) :: []
abbrev by1 (l : List Int) : AV := .sl true [.int .u8] (.kl (l.map fun n => .ki n)) none
abbrev mac6 : List AV := [2, 0, 0, 0, 0, 1].map fun n => .sc true (.int .u8 n)
-- END
def ckPK : List AV := [.agg ([by1 [107, 101, 121]] ++ mac6 ++ [by1 []]), .sc true (.int .i64 0)]
def ckPR : AV :=
    (AV.sl true [Sh.int IntKind.u8]
        (D.l
          [D.t [D.ki 179], D.t [D.ki 10], D.t [D.ki 0], D.t [D.ki 182], D.t [D.ki 147], D.t [D.ki 20], D.t [D.ki 34],
            D.t [D.ki 199], D.t [D.ki 232], D.t [D.ki 19], D.t [D.ki 145], D.t [D.ki 243], D.t [D.ki 24], D.t [D.ki 164],
            D.t [D.ki 81], D.t [D.ki 187], D.t [D.ki 9], D.t [D.ki 236], D.t [D.ki 95], D.t [D.ki 27], D.t [D.ki 142],
            D.t [D.ki 52], D.t [D.ki 190], D.t [D.ki 153], D.t [D.ki 94], D.t [D.ki 95], D.t [D.ki 230], D.t [D.ki 248],
            D.t [D.ki 212], D.t [D.ki 203], D.t [D.ki 219], D.t [D.ki 99]])
        none)
theorem ckP : okV (treeR (evF Tryz.prog (gam (shG Tryz.prog)) (lam ([])) 1000 232) ckPK) = some ckPR := by rw [← fvF_eq Tryz.prog (gam (shG Tryz.prog)) (lam ([])) true 1000 232]; kernel_rfl
end
end Go.Proofs.YtdlomggjhclmlaaGreatDoor
