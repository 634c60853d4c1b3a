/- Ke4: which controls may be: the law's tree. No condition. -/
import Derived.Test.YtcambhbmobepjaaGreatKe3
namespace Go.Proofs.YtcambhbmobepjaaGreat
set_option linter.unusedSimpArgs false
set_option linter.unusedVariables false
open Go.RowKit
set_option maxRecDepth 100000
noncomputable section
theorem frm_tree (a b c e f g h st id rq : Int) (d : D) (ct tm nk mg pr mu pe ne m ic ii : Int) (dd : D) : treeF (evF Tryz.prog (gam (lawG Tryz.prog)) (lam ([])) 100 3) [cfgA a b c e f g h, lcpA st id rq d ct tm nk mg pr mu pe ne, ai m, .agg [ai ic, ai ii, asl byS dd]] =
    RT.br (decide (-1099511627776 < m))
      (RT.br (decide (m < 1099511627776))
        (RT.br (b != b) (RT.ok (AV.sc true (Value.bool false)))
          (RT.br (c != c) (RT.ok (AV.sc true (Value.bool false)))
            (RT.br (e != e) (RT.ok (AV.sc true (Value.bool false)))
              (RT.br (f != f) (RT.ok (AV.sc true (Value.bool false)))
                (RT.br
                  (!(m == m &&
                      (bothB
                          (hint (true && (true && true))
                                (D.cell (D.get (rulD m (othP m)) (Int.toNat (IntKind.wrap IntKind.i64 (0 + 1))))
                                  (0 + 1 + 1 + 1 + 1)) &&
                              hint (true && (true && true))
                                (D.cell (D.get (rulD m (othR m)) (Int.toNat (IntKind.wrap IntKind.i64 (0 + 1))))
                                  (0 + 1 + 1 + 1 + 1)),
                            D.toI
                                (D.cell (D.get (rulD m (othP m)) (Int.toNat (IntKind.wrap IntKind.i64 (0 + 1))))
                                  (0 + 1 + 1 + 1 + 1)) ==
                              D.toI
                                (D.cell (D.get (rulD m (othR m)) (Int.toNat (IntKind.wrap IntKind.i64 (0 + 1))))
                                  (0 + 1 + 1 + 1 + 1)))
                          (bothB
                            (hint (true && (true && true))
                                  (D.cell (D.get (rulD m (othP m)) (Int.toNat (IntKind.wrap IntKind.i64 (0 + 1))))
                                    (0 + 1 + 1 + 1 + 1 + 1)) &&
                                hint (true && (true && true))
                                  (D.cell (D.get (rulD m (othR m)) (Int.toNat (IntKind.wrap IntKind.i64 (0 + 1))))
                                    (0 + 1 + 1 + 1 + 1 + 1)),
                              D.toI
                                  (D.cell (D.get (rulD m (othP m)) (Int.toNat (IntKind.wrap IntKind.i64 (0 + 1))))
                                    (0 + 1 + 1 + 1 + 1 + 1)) ==
                                D.toI
                                  (D.cell (D.get (rulD m (othR m)) (Int.toNat (IntKind.wrap IntKind.i64 (0 + 1))))
                                    (0 + 1 + 1 + 1 + 1 + 1)))
                            (bothB
                              (hint (true && (true && true))
                                    (D.cell (D.get (rulD m (othP m)) (Int.toNat (IntKind.wrap IntKind.i64 (0 + 1))))
                                      (0 + 1 + 1 + 1 + 1 + 1 + 1)) &&
                                  hint (true && (true && true))
                                    (D.cell (D.get (rulD m (othR m)) (Int.toNat (IntKind.wrap IntKind.i64 (0 + 1))))
                                      (0 + 1 + 1 + 1 + 1 + 1 + 1)),
                                D.toB
                                    (D.cell (D.get (rulD m (othP m)) (Int.toNat (IntKind.wrap IntKind.i64 (0 + 1))))
                                      (0 + 1 + 1 + 1 + 1 + 1 + 1)) ==
                                  D.toB
                                    (D.cell (D.get (rulD m (othR m)) (Int.toNat (IntKind.wrap IntKind.i64 (0 + 1))))
                                      (0 + 1 + 1 + 1 + 1 + 1 + 1)))
                              (true, true)))).2))
                  (RT.ok (AV.sc true (Value.bool false)))
                  (RT.br (rngB dd)
                    (RT.br (rngB dd)
                      (RT.br
                        (sameL 0 0 0 (nwD (newB a b c e f g h m) a m) 0 0 0 (nwI (newB a b c e f g h m) m) 0
                          (nwI (newB a b c e f g h m) 1492) 0 0 0 0 0 (nwD (newB a b c e f g h m) a m) 0 0 0
                          (nwI (newB a b c e f g h m) m) 0 (nwI (newB a b c e f g h m) 1492) 0 0)
                        (RT.br (errIf (newB a b c e f g h m) 170 == errIf (newB a b c e f g h m) 170)
                          (RT.br
                            ((errIf (lisB a b c e f g h st id rq (tabD (lgtE d) (lgtN d)) ct tm nk mg pr mu pe ne) 170 ==
                                0) ==
                              lisB a b c e f g h st id rq (tabD (lgtE d) (lgtN d)) ct tm nk mg pr mu pe ne)
                            (RT.br
                              (errIf (lisB a b c e f g h st id rq (tabD (lgtE d) (lgtN d)) ct tm nk mg pr mu pe ne) 170 ==
                                0)
                              (RT.br (nextI tm ne == nextI tm ne)
                                (RT.br (rejN ic dd == rejN ic dd)
                                  (RT.br (rejB ic dd == rejB ic dd)
                                    (RT.br
                                      (sameL st id rq (tabD (lgtE d) (lgtN d)) ct tm nk mg pr mu pe ne st id rq
                                        (tabD (lgtE d) (lgtN d)) ct tm nk mg pr mu pe ne)
                                      (RT.br
                                        (sameL 0 0 0 (nwD (newB a b c e f g h m) a m) 0 0 0 (nwI (newB a b c e f g h m) m) 0
                                            (nwI (newB a b c e f g h m) 1492) 0 0 st id rq (tabD (lgtE d) (lgtN d)) ct tm nk
                                            mg pr mu pe ne ==
                                          sameL 0 0 0 (nwD (newB a b c e f g h m) a m) 0 0 0 (nwI (newB a b c e f g h m) m)
                                            0 (nwI (newB a b c e f g h m) 1492) 0 0 st id rq (tabD (lgtE d) (lgtN d)) ct tm
                                            nk mg pr mu pe ne)
                                        (RT.ok (AV.sc true (Value.bool true))) (RT.ok (AV.sc true (Value.bool false))))
                                      (RT.ok (AV.sc true (Value.bool false))))
                                    (RT.ok (AV.sc true (Value.bool false))))
                                  (RT.ok (AV.sc true (Value.bool false))))
                                (RT.ok (AV.sc true (Value.bool false))))
                              (RT.br
                                (errIf (lisB a b c e f g h st id rq (tabD (lgtE d) (lgtN d)) ct tm nk mg pr mu pe ne) 170 ==
                                  170)
                                (RT.br (nextI tm ne == nextI tm ne)
                                  (RT.br (rejN ic dd == rejN ic dd)
                                    (RT.br (rejB ic dd == rejB ic dd)
                                      (RT.br
                                        (sameL st id rq (tabD (lgtE d) (lgtN d)) ct tm nk mg pr mu pe ne st id rq
                                          (tabD (lgtE d) (lgtN d)) ct tm nk mg pr mu pe ne)
                                        (RT.br
                                          (sameL 0 0 0 (nwD (newB a b c e f g h m) a m) 0 0 0 (nwI (newB a b c e f g h m) m)
                                              0 (nwI (newB a b c e f g h m) 1492) 0 0 st id rq (tabD (lgtE d) (lgtN d)) ct
                                              tm nk mg pr mu pe ne ==
                                            sameL 0 0 0 (nwD (newB a b c e f g h m) a m) 0 0 0
                                              (nwI (newB a b c e f g h m) m) 0 (nwI (newB a b c e f g h m) 1492) 0 0 st id
                                              rq (tabD (lgtE d) (lgtN d)) ct tm nk mg pr mu pe ne)
                                          (RT.ok (AV.sc true (Value.bool true))) (RT.ok (AV.sc true (Value.bool false))))
                                        (RT.ok (AV.sc true (Value.bool false))))
                                      (RT.ok (AV.sc true (Value.bool false))))
                                    (RT.ok (AV.sc true (Value.bool false))))
                                  (RT.ok (AV.sc true (Value.bool false))))
                                (RT.ok (AV.sc true (Value.bool false)))))
                            (RT.ok (AV.sc true (Value.bool false))))
                          (RT.ok (AV.sc true (Value.bool false))))
                        (RT.ok (AV.sc true (Value.bool false))))
                      (RT.bad 221))
                    (RT.bad 221)))))))
        (RT.br (rngB dd)
          (RT.br (rngB dd)
            (RT.br
              (sameL 0 0 0 (nwD (newB a b c e f g h m) a m) 0 0 0 (nwI (newB a b c e f g h m) m) 0
                (nwI (newB a b c e f g h m) 1492) 0 0 0 0 0 (nwD (newB a b c e f g h m) a m) 0 0 0
                (nwI (newB a b c e f g h m) m) 0 (nwI (newB a b c e f g h m) 1492) 0 0)
              (RT.br (errIf (newB a b c e f g h m) 170 == errIf (newB a b c e f g h m) 170)
                (RT.br
                  ((errIf (lisB a b c e f g h st id rq (tabD (lgtE d) (lgtN d)) ct tm nk mg pr mu pe ne) 170 == 0) ==
                    lisB a b c e f g h st id rq (tabD (lgtE d) (lgtN d)) ct tm nk mg pr mu pe ne)
                  (RT.br (errIf (lisB a b c e f g h st id rq (tabD (lgtE d) (lgtN d)) ct tm nk mg pr mu pe ne) 170 == 0)
                    (RT.br (nextI tm ne == nextI tm ne)
                      (RT.br (rejN ic dd == rejN ic dd)
                        (RT.br (rejB ic dd == rejB ic dd)
                          (RT.br
                            (sameL st id rq (tabD (lgtE d) (lgtN d)) ct tm nk mg pr mu pe ne st id rq
                              (tabD (lgtE d) (lgtN d)) ct tm nk mg pr mu pe ne)
                            (RT.br
                              (sameL 0 0 0 (nwD (newB a b c e f g h m) a m) 0 0 0 (nwI (newB a b c e f g h m) m) 0
                                  (nwI (newB a b c e f g h m) 1492) 0 0 st id rq (tabD (lgtE d) (lgtN d)) ct tm nk mg pr mu
                                  pe ne ==
                                sameL 0 0 0 (nwD (newB a b c e f g h m) a m) 0 0 0 (nwI (newB a b c e f g h m) m) 0
                                  (nwI (newB a b c e f g h m) 1492) 0 0 st id rq (tabD (lgtE d) (lgtN d)) ct tm nk mg pr mu
                                  pe ne)
                              (RT.ok (AV.sc true (Value.bool true))) (RT.ok (AV.sc true (Value.bool false))))
                            (RT.ok (AV.sc true (Value.bool false))))
                          (RT.ok (AV.sc true (Value.bool false))))
                        (RT.ok (AV.sc true (Value.bool false))))
                      (RT.ok (AV.sc true (Value.bool false))))
                    (RT.br (errIf (lisB a b c e f g h st id rq (tabD (lgtE d) (lgtN d)) ct tm nk mg pr mu pe ne) 170 == 170)
                      (RT.br (nextI tm ne == nextI tm ne)
                        (RT.br (rejN ic dd == rejN ic dd)
                          (RT.br (rejB ic dd == rejB ic dd)
                            (RT.br
                              (sameL st id rq (tabD (lgtE d) (lgtN d)) ct tm nk mg pr mu pe ne st id rq
                                (tabD (lgtE d) (lgtN d)) ct tm nk mg pr mu pe ne)
                              (RT.br
                                (sameL 0 0 0 (nwD (newB a b c e f g h m) a m) 0 0 0 (nwI (newB a b c e f g h m) m) 0
                                    (nwI (newB a b c e f g h m) 1492) 0 0 st id rq (tabD (lgtE d) (lgtN d)) ct tm nk mg pr
                                    mu pe ne ==
                                  sameL 0 0 0 (nwD (newB a b c e f g h m) a m) 0 0 0 (nwI (newB a b c e f g h m) m) 0
                                    (nwI (newB a b c e f g h m) 1492) 0 0 st id rq (tabD (lgtE d) (lgtN d)) ct tm nk mg pr
                                    mu pe ne)
                                (RT.ok (AV.sc true (Value.bool true))) (RT.ok (AV.sc true (Value.bool false))))
                              (RT.ok (AV.sc true (Value.bool false))))
                            (RT.ok (AV.sc true (Value.bool false))))
                          (RT.ok (AV.sc true (Value.bool false))))
                        (RT.ok (AV.sc true (Value.bool false))))
                      (RT.ok (AV.sc true (Value.bool false)))))
                  (RT.ok (AV.sc true (Value.bool false))))
                (RT.ok (AV.sc true (Value.bool false))))
              (RT.ok (AV.sc true (Value.bool false))))
            (RT.bad 221))
          (RT.bad 221)))
      (RT.br (rngB dd)
        (RT.br (rngB dd)
          (RT.br
            (sameL 0 0 0 (nwD (newB a b c e f g h m) a m) 0 0 0 (nwI (newB a b c e f g h m) m) 0
              (nwI (newB a b c e f g h m) 1492) 0 0 0 0 0 (nwD (newB a b c e f g h m) a m) 0 0 0
              (nwI (newB a b c e f g h m) m) 0 (nwI (newB a b c e f g h m) 1492) 0 0)
            (RT.br (errIf (newB a b c e f g h m) 170 == errIf (newB a b c e f g h m) 170)
              (RT.br
                ((errIf (lisB a b c e f g h st id rq (tabD (lgtE d) (lgtN d)) ct tm nk mg pr mu pe ne) 170 == 0) ==
                  lisB a b c e f g h st id rq (tabD (lgtE d) (lgtN d)) ct tm nk mg pr mu pe ne)
                (RT.br (errIf (lisB a b c e f g h st id rq (tabD (lgtE d) (lgtN d)) ct tm nk mg pr mu pe ne) 170 == 0)
                  (RT.br (nextI tm ne == nextI tm ne)
                    (RT.br (rejN ic dd == rejN ic dd)
                      (RT.br (rejB ic dd == rejB ic dd)
                        (RT.br
                          (sameL st id rq (tabD (lgtE d) (lgtN d)) ct tm nk mg pr mu pe ne st id rq (tabD (lgtE d) (lgtN d))
                            ct tm nk mg pr mu pe ne)
                          (RT.br
                            (sameL 0 0 0 (nwD (newB a b c e f g h m) a m) 0 0 0 (nwI (newB a b c e f g h m) m) 0
                                (nwI (newB a b c e f g h m) 1492) 0 0 st id rq (tabD (lgtE d) (lgtN d)) ct tm nk mg pr mu pe
                                ne ==
                              sameL 0 0 0 (nwD (newB a b c e f g h m) a m) 0 0 0 (nwI (newB a b c e f g h m) m) 0
                                (nwI (newB a b c e f g h m) 1492) 0 0 st id rq (tabD (lgtE d) (lgtN d)) ct tm nk mg pr mu pe
                                ne)
                            (RT.ok (AV.sc true (Value.bool true))) (RT.ok (AV.sc true (Value.bool false))))
                          (RT.ok (AV.sc true (Value.bool false))))
                        (RT.ok (AV.sc true (Value.bool false))))
                      (RT.ok (AV.sc true (Value.bool false))))
                    (RT.ok (AV.sc true (Value.bool false))))
                  (RT.br (errIf (lisB a b c e f g h st id rq (tabD (lgtE d) (lgtN d)) ct tm nk mg pr mu pe ne) 170 == 170)
                    (RT.br (nextI tm ne == nextI tm ne)
                      (RT.br (rejN ic dd == rejN ic dd)
                        (RT.br (rejB ic dd == rejB ic dd)
                          (RT.br
                            (sameL st id rq (tabD (lgtE d) (lgtN d)) ct tm nk mg pr mu pe ne st id rq
                              (tabD (lgtE d) (lgtN d)) ct tm nk mg pr mu pe ne)
                            (RT.br
                              (sameL 0 0 0 (nwD (newB a b c e f g h m) a m) 0 0 0 (nwI (newB a b c e f g h m) m) 0
                                  (nwI (newB a b c e f g h m) 1492) 0 0 st id rq (tabD (lgtE d) (lgtN d)) ct tm nk mg pr mu
                                  pe ne ==
                                sameL 0 0 0 (nwD (newB a b c e f g h m) a m) 0 0 0 (nwI (newB a b c e f g h m) m) 0
                                  (nwI (newB a b c e f g h m) 1492) 0 0 st id rq (tabD (lgtE d) (lgtN d)) ct tm nk mg pr mu
                                  pe ne)
                              (RT.ok (AV.sc true (Value.bool true))) (RT.ok (AV.sc true (Value.bool false))))
                            (RT.ok (AV.sc true (Value.bool false))))
                          (RT.ok (AV.sc true (Value.bool false))))
                        (RT.ok (AV.sc true (Value.bool false))))
                      (RT.ok (AV.sc true (Value.bool false))))
                    (RT.ok (AV.sc true (Value.bool false)))))
                (RT.ok (AV.sc true (Value.bool false))))
              (RT.ok (AV.sc true (Value.bool false))))
            (RT.ok (AV.sc true (Value.bool false))))
          (RT.bad 221))
        (RT.bad 221)) := by kernel_rfl
end
end Go.Proofs.YtcambhbmobepjaaGreat
