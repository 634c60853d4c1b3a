/- Kc3: settings of the automaton, rules. No condition. -/
import Derived.Test.YtcambhbmobepjaaGreatKc2
namespace Go.Proofs.YtcambhbmobepjaaGreat
set_option linter.unusedSimpArgs false
set_option linter.unusedVariables false
open Go.RowKit
set_option maxRecDepth 100000
noncomputable section

-- DEFS
abbrev cfgA (a b c d e f g : Int) : AV := .agg [ai a, ai b, ai c, ai d, ai e, ai f, ai g]
abbrev rlS : List Sh := [.int .i64, .int .i64, .int .i64, .int .i64, .int .i64, .int .i64, .bool]
abbrev rulD (m g : Int) : D := .l [.t [.ki 1, .ki 2, .ki 2, .ki 128, .ki 1492, .ki 1492, .kb false], .t [.ki 5, .ki 4, .ki 4, .i m, .ki 0, .i g, .kb false]]
-- END
theorem lau_tree (a b c d e f g m : Int) : treeF (evF Tryz.prog (gam ([])) (lam ([])) 100 12) [cfgA a b c d e f g, ai m] =
    RT.br
      (IntKind.wrap IntKind.i64
          (↑(BitVec.toNat (BitVec.ofInt (IntKind.bits IntKind.i64) m ^^^ BitVec.ofInt (IntKind.bits IntKind.i64) 1)) :
            Int) ==
        0)
      (RT.ok
        (AV.agg
          [AV.sl true
              [Sh.int IntKind.i64, Sh.int IntKind.i64, Sh.int IntKind.i64, Sh.int IntKind.i64, Sh.int IntKind.i64,
                Sh.int IntKind.i64, Sh.bool]
              (D.l
                [D.t [D.ki 1, D.ki 2, D.ki 2, D.ki 128, D.ki 1492, D.ki 1492, D.kb false],
                  D.t [D.ki 5, D.ki 4, D.ki 4, D.i m, D.ki 0, D.ki 2, D.kb false]])
              none,
            AV.sc false (Value.int IntKind.i64 b), AV.sc false (Value.int IntKind.i64 c),
            AV.sc false (Value.int IntKind.i64 d), AV.sc false (Value.int IntKind.i64 e)]))
      (RT.ok
        (AV.agg
          [AV.sl true
              [Sh.int IntKind.i64, Sh.int IntKind.i64, Sh.int IntKind.i64, Sh.int IntKind.i64, Sh.int IntKind.i64,
                Sh.int IntKind.i64, Sh.bool]
              (D.l
                [D.t [D.ki 1, D.ki 2, D.ki 2, D.ki 128, D.ki 1492, D.ki 1492, D.kb false],
                  D.t
                    [D.ki 5, D.ki 4, D.ki 4, D.i m, D.ki 0,
                      D.i
                        (IntKind.wrap IntKind.i64
                          (↑(BitVec.toNat
                                (BitVec.ofInt (IntKind.bits IntKind.i64) m ^^^ BitVec.ofInt (IntKind.bits IntKind.i64) 1)) :
                            Int)),
                      D.kb false]])
              none,
            AV.sc false (Value.int IntKind.i64 b), AV.sc false (Value.int IntKind.i64 c),
            AV.sc false (Value.int IntKind.i64 d), AV.sc false (Value.int IntKind.i64 e)])) := by kernel_rfl
theorem rlau_tree (a b c d e f g m : Int) : treeF (evF Tryz.prog (gam ([])) (lam ([])) 100 13) [cfgA a b c d e f g, ai m] =
    RT.br true
      (RT.br (Int.tmod m 2 != 0)
        (RT.br (IntKind.wrap IntKind.i64 (m - 1) == 0)
          (RT.ok
            (AV.agg
              [AV.sl true
                  [Sh.int IntKind.i64, Sh.int IntKind.i64, Sh.int IntKind.i64, Sh.int IntKind.i64, Sh.int IntKind.i64,
                    Sh.int IntKind.i64, Sh.bool]
                  (D.l
                    [D.t [D.ki 1, D.ki 2, D.ki 2, D.ki 128, D.ki 1492, D.ki 1492, D.kb false],
                      D.t [D.ki 5, D.ki 4, D.ki 4, D.i m, D.ki 0, D.ki 2, D.kb false]])
                  none,
                AV.sc false (Value.int IntKind.i64 b), AV.sc false (Value.int IntKind.i64 c),
                AV.sc false (Value.int IntKind.i64 d), AV.sc false (Value.int IntKind.i64 e)]))
          (RT.ok
            (AV.agg
              [AV.sl true
                  [Sh.int IntKind.i64, Sh.int IntKind.i64, Sh.int IntKind.i64, Sh.int IntKind.i64, Sh.int IntKind.i64,
                    Sh.int IntKind.i64, Sh.bool]
                  (D.l
                    [D.t [D.ki 1, D.ki 2, D.ki 2, D.ki 128, D.ki 1492, D.ki 1492, D.kb false],
                      D.t [D.ki 5, D.ki 4, D.ki 4, D.i m, D.ki 0, D.i (IntKind.wrap IntKind.i64 (m - 1)), D.kb false]])
                  none,
                AV.sc false (Value.int IntKind.i64 b), AV.sc false (Value.int IntKind.i64 c),
                AV.sc false (Value.int IntKind.i64 d), AV.sc false (Value.int IntKind.i64 e)])))
        (RT.br (IntKind.wrap IntKind.i64 (m + 1) == 0)
          (RT.ok
            (AV.agg
              [AV.sl true
                  [Sh.int IntKind.i64, Sh.int IntKind.i64, Sh.int IntKind.i64, Sh.int IntKind.i64, Sh.int IntKind.i64,
                    Sh.int IntKind.i64, Sh.bool]
                  (D.l
                    [D.t [D.ki 1, D.ki 2, D.ki 2, D.ki 128, D.ki 1492, D.ki 1492, D.kb false],
                      D.t [D.ki 5, D.ki 4, D.ki 4, D.i m, D.ki 0, D.ki 2, D.kb false]])
                  none,
                AV.sc false (Value.int IntKind.i64 b), AV.sc false (Value.int IntKind.i64 c),
                AV.sc false (Value.int IntKind.i64 d), AV.sc false (Value.int IntKind.i64 e)]))
          (RT.ok
            (AV.agg
              [AV.sl true
                  [Sh.int IntKind.i64, Sh.int IntKind.i64, Sh.int IntKind.i64, Sh.int IntKind.i64, Sh.int IntKind.i64,
                    Sh.int IntKind.i64, Sh.bool]
                  (D.l
                    [D.t [D.ki 1, D.ki 2, D.ki 2, D.ki 128, D.ki 1492, D.ki 1492, D.kb false],
                      D.t [D.ki 5, D.ki 4, D.ki 4, D.i m, D.ki 0, D.i (IntKind.wrap IntKind.i64 (m + 1)), D.kb false]])
                  none,
                AV.sc false (Value.int IntKind.i64 b), AV.sc false (Value.int IntKind.i64 c),
                AV.sc false (Value.int IntKind.i64 d), AV.sc false (Value.int IntKind.i64 e)]))))
      (RT.bad 21) := by kernel_rfl
theorem chk_tree (m g : Int) : treeF (evF Tryz.prog (gam ([])) (lam ([])) 100 118) [.sl true rlS (rulD m g) none] =
    RT.br (decide (m < 0)) (RT.ok (AV.sc true (Value.int IntKind.i64 150)))
      (RT.br (decide (4294967296 ≤ m)) (RT.ok (AV.sc true (Value.int IntKind.i64 150)))
        (RT.br (decide (g < 0)) (RT.ok (AV.sc true (Value.int IntKind.i64 150)))
          (RT.br (decide (4294967296 ≤ g)) (RT.ok (AV.sc true (Value.int IntKind.i64 150)))
            (RT.br (!g != m) (RT.ok (AV.sc true (Value.int IntKind.i64 150)))
              (RT.ok (AV.sc true (Value.int IntKind.i64 0))))))) := by kernel_rfl
theorem are_tree (m g : Int) : treeF (evF Tryz.prog (gam ([])) (lam ([])) 100 85) [.sl true rlS (rulD m g) none] =
    RT.br (decide (0 ≤ m))
      (RT.br (decide (m < 4294967296))
        (RT.br (decide (0 ≤ g))
          (RT.br (decide (g < 4294967296))
            (RT.br (!g != m) (RT.ok (AV.sc true (Value.bool false))) (RT.ok (AV.sc true (Value.bool true))))
            (RT.ok (AV.sc true (Value.bool false))))
          (RT.ok (AV.sc true (Value.bool false))))
        (RT.ok (AV.sc true (Value.bool false))))
      (RT.ok (AV.sc true (Value.bool false))) := by kernel_rfl
end
end Go.Proofs.YtcambhbmobepjaaGreat
