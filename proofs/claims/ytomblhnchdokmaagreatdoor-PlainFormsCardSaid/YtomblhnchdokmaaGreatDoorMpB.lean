/- MpB: texts of this claim, one behind the other: Ky1. No condition. -/
import Derived.Test.YtomblhnchdokmaaGreatDoorMp8
import Derived.Test.YtomblhnchdokmaaGreatDoorMp9
import Derived.Test.YtomblhnchdokmaaGreatDoorMpA
namespace Go.Proofs.YtomblhnchdokmaaGreatDoor
set_option linter.unusedSimpArgs false
set_option linter.unusedVariables false
open Go.RowKit
set_option maxRecDepth 100000
noncomputable section
-- NATLE
-- DEFS
abbrev u8k (n : Int) : AV := .sc false (.int .u8 n)
abbrev cfA (nm : ByteArray) (sv : D) (m0 m1 m2 m3 m4 m5 : Int) (sc : D) (tk a1 a2 o1 o2 lo hi qu ba sz : Int) (rs : D) (l1 l2 l3 l4 l5 l6 l7 ow id sh wk rm : Int) : List AV :=
  [.sc false (.string nm), .sl false stS sv none, u8k m0, u8k m1, u8k m2, u8k m3, u8k m4, u8k m5, .sl false byS sc none, ik tk, ik a1, ik a2, ik o1, ik o2, ik lo, ik hi, ik qu, ik ba, ik sz, .sl false inS rs none, ik l1, ik l2, ik l3, ik l4, ik l5, ik l6, ik l7, ik ow, ik id, ik sh, ik wk, ik rm]
def plnG (P : Program) : List (FuncId × Spec) :=
  (20, pureS P 20 FBkn) :: (21, newT FIds) :: (22, newT FPol) :: (23, pureS P 23 FLnw) ::
  (24, pureS P 24 FCki) :: (25, pureS P 25 FSrv) :: (26, pureS P 26 FKnd) ::
  (27, objR FHas) :: (29, pureS P 29 FClS) :: (30, pureS P 30 FClB) :: []
-- END
-- STOPS: srvB idB wAt ownD nwN growD hasD rateB
theorem pln_tree (nm : ByteArray) (sv : D) (m0 m1 m2 m3 m4 m5 : Int) (sc : D) (tk a1 a2 o1 o2 lo hi qu ba sz : Int) (rs : D) (l1 l2 l3 l4 l5 l6 l7 ow id sh wk rm : Int) : treeO 7 (gcS (evF Tryz.prog (gam (plnG Tryz.prog)) (lam []) 100 6)) [.agg (cfA nm sv m0 m1 m2 m3 m4 m5 sc tk a1 a2 o1 o2 lo hi qu ba sz rs l1 l2 l3 l4 l5 l6 l7 ow id sh wk rm)] hp0 =
    RT.br (rateB a1 a2 && rateB o1 o2)
      (RT.br (idB lo hi qu)
        (RT.br (poolB ba sz rs)
          (RT.br false
            (RT.ok
              (AV.tup [AV.sc true (Value.pointer none), AV.sc true (Value.int IntKind.i64 230)],
                { ob := [], nx := 7, gn := [], nv := 0, ng := 1000, ep := 1000 }))
            (RT.br false
              (RT.ok
                (AV.tup [AV.sc true (Value.pointer none), AV.sc true (Value.int IntKind.i64 230)],
                  { ob := [], nx := 7, gn := [], nv := 0, ng := 1000, ep := 1000 }))
              (RT.br false
                (RT.ok
                  (AV.tup [AV.sc true (Value.pointer none), AV.sc true (Value.int IntKind.i64 230)],
                    { ob := [], nx := 7, gn := [], nv := 0, ng := 1000, ep := 1000 }))
                (RT.br (lnE l1 l2 l3 l4 l5 l6 l7 ow != 0)
                  (RT.ok
                    (AV.tup [AV.sc true (Value.pointer none), AV.sc true (Value.int IntKind.i64 230)],
                      { ob := [], nx := 7, gn := [], nv := 0, ng := 1000, ep := 1000 }))
                  (RT.br (ckiE sc tk != 0)
                    (RT.ok
                      (AV.tup [AV.sc true (Value.pointer none), AV.sc true (Value.int IntKind.i64 230)],
                        { ob := [], nx := 7, gn := [], nv := 0, ng := 1000, ep := 1000 }))
                    (RT.br (decide (64 < (↑(ByteArray.size nm) : Int)))
                      (RT.ok
                        (AV.tup [AV.sc true (Value.pointer none), AV.sc true (Value.int IntKind.i64 230)],
                          { ob := [], nx := 7, gn := [], nv := 0, ng := 1000, ep := 1000 }))
                      (RT.br (!srvB sv)
                        (RT.ok
                          (AV.tup [AV.sc true (Value.pointer none), AV.sc true (Value.int IntKind.i64 230)],
                            { ob := [], nx := 7, gn := [], nv := 0, ng := 1000, ep := 1000 }))
                        (RT.br (knE m0 m1 m2 m3 m4 m5 != 4)
                          (RT.ok
                            (AV.tup [AV.sc true (Value.pointer none), AV.sc true (Value.int IntKind.i64 230)],
                              { ob := [], nx := 7, gn := [], nv := 0, ng := 1000, ep := 1000 }))
                          (RT.br
                            (decide
                              (1 ≤ ba ∧
                                ba ≤ 4294967294 ∧
                                  0 ≤ sz ∧ sz ≤ 65536 ∧ sz ≤ 64 * (↑(nwN sz) : Int) ∧ nwN sz ≤ D.len (ownD sz rs)))
                            (RT.br (hasD ba sz (ownD sz rs) ow)
                              (RT.ok
                                (AV.tup [AV.sc true (Value.pointer none), AV.sc true (Value.int IntKind.i64 230)],
                                  { ob := [], nx := 7, gn := [], nv := 0, ng := 1000, ep := 1000 }))
                              (RT.br (decide (1 ≤ id))
                                (RT.br (!decide (id ≤ 1048576))
                                  (RT.ok
                                    (AV.tup [AV.sc true (Value.pointer none), AV.sc true (Value.int IntKind.i64 230)],
                                      { ob := [], nx := 7, gn := [], nv := 0, ng := 1000, ep := 1000 }))
                                  (RT.br (decide (1 ≤ sh))
                                    (RT.br (!decide (sh ≤ 64))
                                      (RT.ok
                                        (AV.tup [AV.sc true (Value.pointer none), AV.sc true (Value.int IntKind.i64 230)],
                                          { ob := [], nx := 7, gn := [], nv := 0, ng := 1000, ep := 1000 }))
                                      (RT.br (decide (1 ≤ wk))
                                        (RT.br (!decide (wk ≤ 16))
                                          (RT.ok
                                            (AV.tup
                                                [AV.sc true (Value.pointer none), AV.sc true (Value.int IntKind.i64 230)],
                                              { ob := [], nx := 7, gn := [], nv := 0, ng := 1000, ep := 1000 }))
                                          (RT.br (decide (1 ≤ rm))
                                            (RT.br (!decide (rm ≤ 64))
                                              (RT.ok
                                                (AV.tup
                                                    [AV.sc true (Value.pointer none),
                                                      AV.sc true (Value.int IntKind.i64 230)],
                                                  { ob := [], nx := 7, gn := [], nv := 0, ng := 1000, ep := 1000 }))
                                              (RT.ok
                                                (AV.tup [AV.ptr 0 0, AV.sc true (Value.int IntKind.i64 0)],
                                                  {
                                                    ob :=
                                                      [(0,
                                                          [AV.sc false (Value.string nm), AV.sl false [Sh.str] sv none,
                                                            AV.sc false (Value.int IntKind.u8 m0),
                                                            AV.sc false (Value.int IntKind.u8 m1),
                                                            AV.sc false (Value.int IntKind.u8 m2),
                                                            AV.sc false (Value.int IntKind.u8 m3),
                                                            AV.sc false (Value.int IntKind.u8 m4),
                                                            AV.sc false (Value.int IntKind.u8 m5),
                                                            AV.sl false [Sh.int IntKind.u8] sc none,
                                                            AV.sc false (Value.int IntKind.i64 tk),
                                                            AV.sc false (Value.int IntKind.i64 a1),
                                                            AV.sc false (Value.int IntKind.i64 a2),
                                                            AV.sc false (Value.int IntKind.i64 o1),
                                                            AV.sc false (Value.int IntKind.i64 o2),
                                                            AV.sc false (Value.int IntKind.i64 lo),
                                                            AV.sc false (Value.int IntKind.i64 hi),
                                                            AV.sc false (Value.int IntKind.i64 qu),
                                                            AV.sc false (Value.int IntKind.i64 ba),
                                                            AV.sc false (Value.int IntKind.i64 sz),
                                                            AV.sl false [Sh.int IntKind.i64] rs none,
                                                            AV.sc false (Value.int IntKind.i64 l1),
                                                            AV.sc false (Value.int IntKind.i64 l2),
                                                            AV.sc false (Value.int IntKind.i64 l3),
                                                            AV.sc false (Value.int IntKind.i64 l4),
                                                            AV.sc false (Value.int IntKind.i64 l5),
                                                            AV.sc false (Value.int IntKind.i64 l6),
                                                            AV.sc false (Value.int IntKind.i64 l7),
                                                            AV.sc false (Value.int IntKind.i64 ow),
                                                            AV.sc false (Value.int IntKind.i64 id),
                                                            AV.sc false (Value.int IntKind.i64 sh),
                                                            AV.sc false (Value.int IntKind.i64 wk),
                                                            AV.sc false (Value.int IntKind.i64 rm),
                                                            AV.sc false (Value.int IntKind.i64 0),
                                                            AV.sc false (Value.bool false), AV.any, AV.ptr 1 0, AV.ptr 3 0,
                                                            AV.mp 6]),
                                                        (1,
                                                          [AV.sc false (Value.int IntKind.i64 lo),
                                                            AV.sc false (Value.int IntKind.i64 qu),
                                                            AV.rsl false 2 1 (Int.toNat (hi - lo + 1)),
                                                            AV.sl false [Sh.int IntKind.i64]
                                                              (growD (D.l []) (idE lo) (idN lo hi)) none,
                                                            AV.sc false (Value.int IntKind.i64 0),
                                                            AV.sc false (Value.slice none 0 0),
                                                            AV.sc false (Value.int IntKind.i64 0)]),
                                                        (2,
                                                          [AV.rw [Sh.bool]
                                                              (repD (Int.toNat (hi - lo + 1)) (D.t [D.kb false]))]),
                                                        (3,
                                                          [AV.sc false (Value.int IntKind.i64 ba),
                                                            AV.sc false (Value.int IntKind.i64 sz),
                                                            AV.rsl false 4 1 (nwN sz), AV.rsl false 5 1 (nwN sz),
                                                            AV.sc false (Value.int IntKind.i64 (sz - (↑(D.len rs) : Int))),
                                                            AV.sc false (Value.bool true)]),
                                                        (4, [AV.rw [Sh.int IntKind.u64] (ownD sz rs)]),
                                                        (5, [AV.rw [Sh.int IntKind.u64] (ownD sz rs)]),
                                                        (6, [AV.tup [AV.sc false (Value.int IntKind.i64 0)]])],
                                                    nx := 7, gn := [], nv := 0, ng := 1000, ep := 1000 })))
                                            (RT.ok
                                              (AV.tup
                                                  [AV.sc true (Value.pointer none), AV.sc true (Value.int IntKind.i64 230)],
                                                { ob := [], nx := 7, gn := [], nv := 0, ng := 1000, ep := 1000 }))))
                                        (RT.ok
                                          (AV.tup [AV.sc true (Value.pointer none), AV.sc true (Value.int IntKind.i64 230)],
                                            { ob := [], nx := 7, gn := [], nv := 0, ng := 1000, ep := 1000 }))))
                                    (RT.ok
                                      (AV.tup [AV.sc true (Value.pointer none), AV.sc true (Value.int IntKind.i64 230)],
                                        { ob := [], nx := 7, gn := [], nv := 0, ng := 1000, ep := 1000 }))))
                                (RT.ok
                                  (AV.tup [AV.sc true (Value.pointer none), AV.sc true (Value.int IntKind.i64 230)],
                                    { ob := [], nx := 7, gn := [], nv := 0, ng := 1000, ep := 1000 }))))
                            (RT.bad 663))))))))))
          (RT.br false
            (RT.ok
              (AV.tup [AV.sc true (Value.pointer none), AV.sc true (Value.int IntKind.i64 230)],
                { ob := [], nx := 7, gn := [], nv := 0, ng := 1000, ep := 1000 }))
            (RT.br false
              (RT.ok
                (AV.tup [AV.sc true (Value.pointer none), AV.sc true (Value.int IntKind.i64 230)],
                  { ob := [], nx := 7, gn := [], nv := 0, ng := 1000, ep := 1000 }))
              (RT.br true
                (RT.ok
                  (AV.tup [AV.sc true (Value.pointer none), AV.sc true (Value.int IntKind.i64 230)],
                    { ob := [], nx := 7, gn := [], nv := 0, ng := 1000, ep := 1000 }))
                (RT.br (lnE l1 l2 l3 l4 l5 l6 l7 ow != 0)
                  (RT.ok
                    (AV.tup [AV.sc true (Value.pointer none), AV.sc true (Value.int IntKind.i64 230)],
                      { ob := [], nx := 7, gn := [], nv := 0, ng := 1000, ep := 1000 }))
                  (RT.br (ckiE sc tk != 0)
                    (RT.ok
                      (AV.tup [AV.sc true (Value.pointer none), AV.sc true (Value.int IntKind.i64 230)],
                        { ob := [], nx := 7, gn := [], nv := 0, ng := 1000, ep := 1000 }))
                    (RT.br (decide (64 < (↑(ByteArray.size nm) : Int)))
                      (RT.ok
                        (AV.tup [AV.sc true (Value.pointer none), AV.sc true (Value.int IntKind.i64 230)],
                          { ob := [], nx := 7, gn := [], nv := 0, ng := 1000, ep := 1000 }))
                      (RT.br (!srvB sv)
                        (RT.ok
                          (AV.tup [AV.sc true (Value.pointer none), AV.sc true (Value.int IntKind.i64 230)],
                            { ob := [], nx := 7, gn := [], nv := 0, ng := 1000, ep := 1000 }))
                        (RT.br (knE m0 m1 m2 m3 m4 m5 != 4)
                          (RT.ok
                            (AV.tup [AV.sc true (Value.pointer none), AV.sc true (Value.int IntKind.i64 230)],
                              { ob := [], nx := 7, gn := [], nv := 0, ng := 1000, ep := 1000 }))
                          (RT.bad 664))))))))))
        (RT.br (poolB ba sz rs)
          (RT.br false
            (RT.ok
              (AV.tup [AV.sc true (Value.pointer none), AV.sc true (Value.int IntKind.i64 230)],
                { ob := [], nx := 7, gn := [], nv := 0, ng := 1000, ep := 1000 }))
            (RT.br true
              (RT.ok
                (AV.tup [AV.sc true (Value.pointer none), AV.sc true (Value.int IntKind.i64 230)],
                  { ob := [], nx := 7, gn := [], nv := 0, ng := 1000, ep := 1000 }))
              (RT.br false
                (RT.ok
                  (AV.tup [AV.sc true (Value.pointer none), AV.sc true (Value.int IntKind.i64 230)],
                    { ob := [], nx := 7, gn := [], nv := 0, ng := 1000, ep := 1000 }))
                (RT.br (lnE l1 l2 l3 l4 l5 l6 l7 ow != 0)
                  (RT.ok
                    (AV.tup [AV.sc true (Value.pointer none), AV.sc true (Value.int IntKind.i64 230)],
                      { ob := [], nx := 7, gn := [], nv := 0, ng := 1000, ep := 1000 }))
                  (RT.br (ckiE sc tk != 0)
                    (RT.ok
                      (AV.tup [AV.sc true (Value.pointer none), AV.sc true (Value.int IntKind.i64 230)],
                        { ob := [], nx := 7, gn := [], nv := 0, ng := 1000, ep := 1000 }))
                    (RT.br (decide (64 < (↑(ByteArray.size nm) : Int)))
                      (RT.ok
                        (AV.tup [AV.sc true (Value.pointer none), AV.sc true (Value.int IntKind.i64 230)],
                          { ob := [], nx := 7, gn := [], nv := 0, ng := 1000, ep := 1000 }))
                      (RT.br (!srvB sv)
                        (RT.ok
                          (AV.tup [AV.sc true (Value.pointer none), AV.sc true (Value.int IntKind.i64 230)],
                            { ob := [], nx := 7, gn := [], nv := 0, ng := 1000, ep := 1000 }))
                        (RT.br (knE m0 m1 m2 m3 m4 m5 != 4)
                          (RT.ok
                            (AV.tup [AV.sc true (Value.pointer none), AV.sc true (Value.int IntKind.i64 230)],
                              { ob := [], nx := 7, gn := [], nv := 0, ng := 1000, ep := 1000 }))
                          (RT.br
                            (decide
                              (1 ≤ ba ∧
                                ba ≤ 4294967294 ∧
                                  0 ≤ sz ∧ sz ≤ 65536 ∧ sz ≤ 64 * (↑(nwN sz) : Int) ∧ nwN sz ≤ D.len (ownD sz rs)))
                            (RT.br (hasD ba sz (ownD sz rs) ow)
                              (RT.ok
                                (AV.tup [AV.sc true (Value.pointer none), AV.sc true (Value.int IntKind.i64 230)],
                                  { ob := [], nx := 7, gn := [], nv := 0, ng := 1000, ep := 1000 }))
                              (RT.br (decide (1 ≤ id))
                                (RT.br (!decide (id ≤ 1048576))
                                  (RT.ok
                                    (AV.tup [AV.sc true (Value.pointer none), AV.sc true (Value.int IntKind.i64 230)],
                                      { ob := [], nx := 7, gn := [], nv := 0, ng := 1000, ep := 1000 }))
                                  (RT.br (decide (1 ≤ sh))
                                    (RT.br (!decide (sh ≤ 64))
                                      (RT.ok
                                        (AV.tup [AV.sc true (Value.pointer none), AV.sc true (Value.int IntKind.i64 230)],
                                          { ob := [], nx := 7, gn := [], nv := 0, ng := 1000, ep := 1000 }))
                                      (RT.br (decide (1 ≤ wk))
                                        (RT.br (!decide (wk ≤ 16))
                                          (RT.ok
                                            (AV.tup
                                                [AV.sc true (Value.pointer none), AV.sc true (Value.int IntKind.i64 230)],
                                              { ob := [], nx := 7, gn := [], nv := 0, ng := 1000, ep := 1000 }))
                                          (RT.br (decide (1 ≤ rm))
                                            (RT.br (!decide (rm ≤ 64))
                                              (RT.ok
                                                (AV.tup
                                                    [AV.sc true (Value.pointer none),
                                                      AV.sc true (Value.int IntKind.i64 230)],
                                                  { ob := [], nx := 7, gn := [], nv := 0, ng := 1000, ep := 1000 }))
                                              (RT.ok
                                                (AV.tup [AV.ptr 0 0, AV.sc true (Value.int IntKind.i64 0)],
                                                  {
                                                    ob :=
                                                      [(0,
                                                          [AV.sc false (Value.string nm), AV.sl false [Sh.str] sv none,
                                                            AV.sc false (Value.int IntKind.u8 m0),
                                                            AV.sc false (Value.int IntKind.u8 m1),
                                                            AV.sc false (Value.int IntKind.u8 m2),
                                                            AV.sc false (Value.int IntKind.u8 m3),
                                                            AV.sc false (Value.int IntKind.u8 m4),
                                                            AV.sc false (Value.int IntKind.u8 m5),
                                                            AV.sl false [Sh.int IntKind.u8] sc none,
                                                            AV.sc false (Value.int IntKind.i64 tk),
                                                            AV.sc false (Value.int IntKind.i64 a1),
                                                            AV.sc false (Value.int IntKind.i64 a2),
                                                            AV.sc false (Value.int IntKind.i64 o1),
                                                            AV.sc false (Value.int IntKind.i64 o2),
                                                            AV.sc false (Value.int IntKind.i64 lo),
                                                            AV.sc false (Value.int IntKind.i64 hi),
                                                            AV.sc false (Value.int IntKind.i64 qu),
                                                            AV.sc false (Value.int IntKind.i64 ba),
                                                            AV.sc false (Value.int IntKind.i64 sz),
                                                            AV.sl false [Sh.int IntKind.i64] rs none,
                                                            AV.sc false (Value.int IntKind.i64 l1),
                                                            AV.sc false (Value.int IntKind.i64 l2),
                                                            AV.sc false (Value.int IntKind.i64 l3),
                                                            AV.sc false (Value.int IntKind.i64 l4),
                                                            AV.sc false (Value.int IntKind.i64 l5),
                                                            AV.sc false (Value.int IntKind.i64 l6),
                                                            AV.sc false (Value.int IntKind.i64 l7),
                                                            AV.sc false (Value.int IntKind.i64 ow),
                                                            AV.sc false (Value.int IntKind.i64 id),
                                                            AV.sc false (Value.int IntKind.i64 sh),
                                                            AV.sc false (Value.int IntKind.i64 wk),
                                                            AV.sc false (Value.int IntKind.i64 rm),
                                                            AV.sc false (Value.int IntKind.i64 0),
                                                            AV.sc false (Value.bool false), AV.any,
                                                            AV.sc false (Value.pointer none), AV.ptr 1 0, AV.mp 4]),
                                                        (1,
                                                          [AV.sc false (Value.int IntKind.i64 ba),
                                                            AV.sc false (Value.int IntKind.i64 sz),
                                                            AV.rsl false 2 1 (nwN sz), AV.rsl false 3 1 (nwN sz),
                                                            AV.sc false (Value.int IntKind.i64 (sz - (↑(D.len rs) : Int))),
                                                            AV.sc false (Value.bool true)]),
                                                        (2, [AV.rw [Sh.int IntKind.u64] (ownD sz rs)]),
                                                        (3, [AV.rw [Sh.int IntKind.u64] (ownD sz rs)]),
                                                        (4, [AV.tup [AV.sc false (Value.int IntKind.i64 0)]])],
                                                    nx := 7, gn := [], nv := 0, ng := 1000, ep := 1000 })))
                                            (RT.ok
                                              (AV.tup
                                                  [AV.sc true (Value.pointer none), AV.sc true (Value.int IntKind.i64 230)],
                                                { ob := [], nx := 7, gn := [], nv := 0, ng := 1000, ep := 1000 }))))
                                        (RT.ok
                                          (AV.tup [AV.sc true (Value.pointer none), AV.sc true (Value.int IntKind.i64 230)],
                                            { ob := [], nx := 7, gn := [], nv := 0, ng := 1000, ep := 1000 }))))
                                    (RT.ok
                                      (AV.tup [AV.sc true (Value.pointer none), AV.sc true (Value.int IntKind.i64 230)],
                                        { ob := [], nx := 7, gn := [], nv := 0, ng := 1000, ep := 1000 }))))
                                (RT.ok
                                  (AV.tup [AV.sc true (Value.pointer none), AV.sc true (Value.int IntKind.i64 230)],
                                    { ob := [], nx := 7, gn := [], nv := 0, ng := 1000, ep := 1000 }))))
                            (RT.bad 663))))))))))
          (RT.br false
            (RT.ok
              (AV.tup [AV.sc true (Value.pointer none), AV.sc true (Value.int IntKind.i64 230)],
                { ob := [], nx := 7, gn := [], nv := 0, ng := 1000, ep := 1000 }))
            (RT.br true
              (RT.ok
                (AV.tup [AV.sc true (Value.pointer none), AV.sc true (Value.int IntKind.i64 230)],
                  { ob := [], nx := 7, gn := [], nv := 0, ng := 1000, ep := 1000 }))
              (RT.br true
                (RT.ok
                  (AV.tup [AV.sc true (Value.pointer none), AV.sc true (Value.int IntKind.i64 230)],
                    { ob := [], nx := 7, gn := [], nv := 0, ng := 1000, ep := 1000 }))
                (RT.br (lnE l1 l2 l3 l4 l5 l6 l7 ow != 0)
                  (RT.ok
                    (AV.tup [AV.sc true (Value.pointer none), AV.sc true (Value.int IntKind.i64 230)],
                      { ob := [], nx := 7, gn := [], nv := 0, ng := 1000, ep := 1000 }))
                  (RT.br (ckiE sc tk != 0)
                    (RT.ok
                      (AV.tup [AV.sc true (Value.pointer none), AV.sc true (Value.int IntKind.i64 230)],
                        { ob := [], nx := 7, gn := [], nv := 0, ng := 1000, ep := 1000 }))
                    (RT.br (decide (64 < (↑(ByteArray.size nm) : Int)))
                      (RT.ok
                        (AV.tup [AV.sc true (Value.pointer none), AV.sc true (Value.int IntKind.i64 230)],
                          { ob := [], nx := 7, gn := [], nv := 0, ng := 1000, ep := 1000 }))
                      (RT.br (!srvB sv)
                        (RT.ok
                          (AV.tup [AV.sc true (Value.pointer none), AV.sc true (Value.int IntKind.i64 230)],
                            { ob := [], nx := 7, gn := [], nv := 0, ng := 1000, ep := 1000 }))
                        (RT.br (knE m0 m1 m2 m3 m4 m5 != 4)
                          (RT.ok
                            (AV.tup [AV.sc true (Value.pointer none), AV.sc true (Value.int IntKind.i64 230)],
                              { ob := [], nx := 7, gn := [], nv := 0, ng := 1000, ep := 1000 }))
                          (RT.bad 664)))))))))))
      (RT.br (idB lo hi qu)
        (RT.br (poolB ba sz rs)
          (RT.br true
            (RT.ok
              (AV.tup [AV.sc true (Value.pointer none), AV.sc true (Value.int IntKind.i64 230)],
                { ob := [], nx := 7, gn := [], nv := 0, ng := 1000, ep := 1000 }))
            (RT.br false
              (RT.ok
                (AV.tup [AV.sc true (Value.pointer none), AV.sc true (Value.int IntKind.i64 230)],
                  { ob := [], nx := 7, gn := [], nv := 0, ng := 1000, ep := 1000 }))
              (RT.br false
                (RT.ok
                  (AV.tup [AV.sc true (Value.pointer none), AV.sc true (Value.int IntKind.i64 230)],
                    { ob := [], nx := 7, gn := [], nv := 0, ng := 1000, ep := 1000 }))
                (RT.br (lnE l1 l2 l3 l4 l5 l6 l7 ow != 0)
                  (RT.ok
                    (AV.tup [AV.sc true (Value.pointer none), AV.sc true (Value.int IntKind.i64 230)],
                      { ob := [], nx := 7, gn := [], nv := 0, ng := 1000, ep := 1000 }))
                  (RT.br (ckiE sc tk != 0)
                    (RT.ok
                      (AV.tup [AV.sc true (Value.pointer none), AV.sc true (Value.int IntKind.i64 230)],
                        { ob := [], nx := 7, gn := [], nv := 0, ng := 1000, ep := 1000 }))
                    (RT.br (decide (64 < (↑(ByteArray.size nm) : Int)))
                      (RT.ok
                        (AV.tup [AV.sc true (Value.pointer none), AV.sc true (Value.int IntKind.i64 230)],
                          { ob := [], nx := 7, gn := [], nv := 0, ng := 1000, ep := 1000 }))
                      (RT.br (!srvB sv)
                        (RT.ok
                          (AV.tup [AV.sc true (Value.pointer none), AV.sc true (Value.int IntKind.i64 230)],
                            { ob := [], nx := 7, gn := [], nv := 0, ng := 1000, ep := 1000 }))
                        (RT.br (knE m0 m1 m2 m3 m4 m5 != 4)
                          (RT.ok
                            (AV.tup [AV.sc true (Value.pointer none), AV.sc true (Value.int IntKind.i64 230)],
                              { ob := [], nx := 7, gn := [], nv := 0, ng := 1000, ep := 1000 }))
                          (RT.br
                            (decide
                              (1 ≤ ba ∧
                                ba ≤ 4294967294 ∧
                                  0 ≤ sz ∧ sz ≤ 65536 ∧ sz ≤ 64 * (↑(nwN sz) : Int) ∧ nwN sz ≤ D.len (ownD sz rs)))
                            (RT.br (hasD ba sz (ownD sz rs) ow)
                              (RT.ok
                                (AV.tup [AV.sc true (Value.pointer none), AV.sc true (Value.int IntKind.i64 230)],
                                  { ob := [], nx := 7, gn := [], nv := 0, ng := 1000, ep := 1000 }))
                              (RT.br (decide (1 ≤ id))
                                (RT.br (!decide (id ≤ 1048576))
                                  (RT.ok
                                    (AV.tup [AV.sc true (Value.pointer none), AV.sc true (Value.int IntKind.i64 230)],
                                      { ob := [], nx := 7, gn := [], nv := 0, ng := 1000, ep := 1000 }))
                                  (RT.br (decide (1 ≤ sh))
                                    (RT.br (!decide (sh ≤ 64))
                                      (RT.ok
                                        (AV.tup [AV.sc true (Value.pointer none), AV.sc true (Value.int IntKind.i64 230)],
                                          { ob := [], nx := 7, gn := [], nv := 0, ng := 1000, ep := 1000 }))
                                      (RT.br (decide (1 ≤ wk))
                                        (RT.br (!decide (wk ≤ 16))
                                          (RT.ok
                                            (AV.tup
                                                [AV.sc true (Value.pointer none), AV.sc true (Value.int IntKind.i64 230)],
                                              { ob := [], nx := 7, gn := [], nv := 0, ng := 1000, ep := 1000 }))
                                          (RT.br (decide (1 ≤ rm))
                                            (RT.br (!decide (rm ≤ 64))
                                              (RT.ok
                                                (AV.tup
                                                    [AV.sc true (Value.pointer none),
                                                      AV.sc true (Value.int IntKind.i64 230)],
                                                  { ob := [], nx := 7, gn := [], nv := 0, ng := 1000, ep := 1000 }))
                                              (RT.ok
                                                (AV.tup [AV.ptr 0 0, AV.sc true (Value.int IntKind.i64 0)],
                                                  {
                                                    ob :=
                                                      [(0,
                                                          [AV.sc false (Value.string nm), AV.sl false [Sh.str] sv none,
                                                            AV.sc false (Value.int IntKind.u8 m0),
                                                            AV.sc false (Value.int IntKind.u8 m1),
                                                            AV.sc false (Value.int IntKind.u8 m2),
                                                            AV.sc false (Value.int IntKind.u8 m3),
                                                            AV.sc false (Value.int IntKind.u8 m4),
                                                            AV.sc false (Value.int IntKind.u8 m5),
                                                            AV.sl false [Sh.int IntKind.u8] sc none,
                                                            AV.sc false (Value.int IntKind.i64 tk),
                                                            AV.sc false (Value.int IntKind.i64 a1),
                                                            AV.sc false (Value.int IntKind.i64 a2),
                                                            AV.sc false (Value.int IntKind.i64 o1),
                                                            AV.sc false (Value.int IntKind.i64 o2),
                                                            AV.sc false (Value.int IntKind.i64 lo),
                                                            AV.sc false (Value.int IntKind.i64 hi),
                                                            AV.sc false (Value.int IntKind.i64 qu),
                                                            AV.sc false (Value.int IntKind.i64 ba),
                                                            AV.sc false (Value.int IntKind.i64 sz),
                                                            AV.sl false [Sh.int IntKind.i64] rs none,
                                                            AV.sc false (Value.int IntKind.i64 l1),
                                                            AV.sc false (Value.int IntKind.i64 l2),
                                                            AV.sc false (Value.int IntKind.i64 l3),
                                                            AV.sc false (Value.int IntKind.i64 l4),
                                                            AV.sc false (Value.int IntKind.i64 l5),
                                                            AV.sc false (Value.int IntKind.i64 l6),
                                                            AV.sc false (Value.int IntKind.i64 l7),
                                                            AV.sc false (Value.int IntKind.i64 ow),
                                                            AV.sc false (Value.int IntKind.i64 id),
                                                            AV.sc false (Value.int IntKind.i64 sh),
                                                            AV.sc false (Value.int IntKind.i64 wk),
                                                            AV.sc false (Value.int IntKind.i64 rm),
                                                            AV.sc false (Value.int IntKind.i64 0),
                                                            AV.sc false (Value.bool false),
                                                            AV.sc false (Value.pointer none), AV.ptr 1 0, AV.ptr 3 0,
                                                            AV.mp 6]),
                                                        (1,
                                                          [AV.sc false (Value.int IntKind.i64 lo),
                                                            AV.sc false (Value.int IntKind.i64 qu),
                                                            AV.rsl false 2 1 (Int.toNat (hi - lo + 1)),
                                                            AV.sl false [Sh.int IntKind.i64]
                                                              (growD (D.l []) (idE lo) (idN lo hi)) none,
                                                            AV.sc false (Value.int IntKind.i64 0),
                                                            AV.sc false (Value.slice none 0 0),
                                                            AV.sc false (Value.int IntKind.i64 0)]),
                                                        (2,
                                                          [AV.rw [Sh.bool]
                                                              (repD (Int.toNat (hi - lo + 1)) (D.t [D.kb false]))]),
                                                        (3,
                                                          [AV.sc false (Value.int IntKind.i64 ba),
                                                            AV.sc false (Value.int IntKind.i64 sz),
                                                            AV.rsl false 4 1 (nwN sz), AV.rsl false 5 1 (nwN sz),
                                                            AV.sc false (Value.int IntKind.i64 (sz - (↑(D.len rs) : Int))),
                                                            AV.sc false (Value.bool true)]),
                                                        (4, [AV.rw [Sh.int IntKind.u64] (ownD sz rs)]),
                                                        (5, [AV.rw [Sh.int IntKind.u64] (ownD sz rs)]),
                                                        (6, [AV.tup [AV.sc false (Value.int IntKind.i64 0)]])],
                                                    nx := 7, gn := [], nv := 0, ng := 1000, ep := 1000 })))
                                            (RT.ok
                                              (AV.tup
                                                  [AV.sc true (Value.pointer none), AV.sc true (Value.int IntKind.i64 230)],
                                                { ob := [], nx := 7, gn := [], nv := 0, ng := 1000, ep := 1000 }))))
                                        (RT.ok
                                          (AV.tup [AV.sc true (Value.pointer none), AV.sc true (Value.int IntKind.i64 230)],
                                            { ob := [], nx := 7, gn := [], nv := 0, ng := 1000, ep := 1000 }))))
                                    (RT.ok
                                      (AV.tup [AV.sc true (Value.pointer none), AV.sc true (Value.int IntKind.i64 230)],
                                        { ob := [], nx := 7, gn := [], nv := 0, ng := 1000, ep := 1000 }))))
                                (RT.ok
                                  (AV.tup [AV.sc true (Value.pointer none), AV.sc true (Value.int IntKind.i64 230)],
                                    { ob := [], nx := 7, gn := [], nv := 0, ng := 1000, ep := 1000 }))))
                            (RT.bad 663))))))))))
          (RT.br true
            (RT.ok
              (AV.tup [AV.sc true (Value.pointer none), AV.sc true (Value.int IntKind.i64 230)],
                { ob := [], nx := 7, gn := [], nv := 0, ng := 1000, ep := 1000 }))
            (RT.br false
              (RT.ok
                (AV.tup [AV.sc true (Value.pointer none), AV.sc true (Value.int IntKind.i64 230)],
                  { ob := [], nx := 7, gn := [], nv := 0, ng := 1000, ep := 1000 }))
              (RT.br true
                (RT.ok
                  (AV.tup [AV.sc true (Value.pointer none), AV.sc true (Value.int IntKind.i64 230)],
                    { ob := [], nx := 7, gn := [], nv := 0, ng := 1000, ep := 1000 }))
                (RT.br (lnE l1 l2 l3 l4 l5 l6 l7 ow != 0)
                  (RT.ok
                    (AV.tup [AV.sc true (Value.pointer none), AV.sc true (Value.int IntKind.i64 230)],
                      { ob := [], nx := 7, gn := [], nv := 0, ng := 1000, ep := 1000 }))
                  (RT.br (ckiE sc tk != 0)
                    (RT.ok
                      (AV.tup [AV.sc true (Value.pointer none), AV.sc true (Value.int IntKind.i64 230)],
                        { ob := [], nx := 7, gn := [], nv := 0, ng := 1000, ep := 1000 }))
                    (RT.br (decide (64 < (↑(ByteArray.size nm) : Int)))
                      (RT.ok
                        (AV.tup [AV.sc true (Value.pointer none), AV.sc true (Value.int IntKind.i64 230)],
                          { ob := [], nx := 7, gn := [], nv := 0, ng := 1000, ep := 1000 }))
                      (RT.br (!srvB sv)
                        (RT.ok
                          (AV.tup [AV.sc true (Value.pointer none), AV.sc true (Value.int IntKind.i64 230)],
                            { ob := [], nx := 7, gn := [], nv := 0, ng := 1000, ep := 1000 }))
                        (RT.br (knE m0 m1 m2 m3 m4 m5 != 4)
                          (RT.ok
                            (AV.tup [AV.sc true (Value.pointer none), AV.sc true (Value.int IntKind.i64 230)],
                              { ob := [], nx := 7, gn := [], nv := 0, ng := 1000, ep := 1000 }))
                          (RT.bad 664))))))))))
        (RT.br (poolB ba sz rs)
          (RT.br true
            (RT.ok
              (AV.tup [AV.sc true (Value.pointer none), AV.sc true (Value.int IntKind.i64 230)],
                { ob := [], nx := 7, gn := [], nv := 0, ng := 1000, ep := 1000 }))
            (RT.br true
              (RT.ok
                (AV.tup [AV.sc true (Value.pointer none), AV.sc true (Value.int IntKind.i64 230)],
                  { ob := [], nx := 7, gn := [], nv := 0, ng := 1000, ep := 1000 }))
              (RT.br false
                (RT.ok
                  (AV.tup [AV.sc true (Value.pointer none), AV.sc true (Value.int IntKind.i64 230)],
                    { ob := [], nx := 7, gn := [], nv := 0, ng := 1000, ep := 1000 }))
                (RT.br (lnE l1 l2 l3 l4 l5 l6 l7 ow != 0)
                  (RT.ok
                    (AV.tup [AV.sc true (Value.pointer none), AV.sc true (Value.int IntKind.i64 230)],
                      { ob := [], nx := 7, gn := [], nv := 0, ng := 1000, ep := 1000 }))
                  (RT.br (ckiE sc tk != 0)
                    (RT.ok
                      (AV.tup [AV.sc true (Value.pointer none), AV.sc true (Value.int IntKind.i64 230)],
                        { ob := [], nx := 7, gn := [], nv := 0, ng := 1000, ep := 1000 }))
                    (RT.br (decide (64 < (↑(ByteArray.size nm) : Int)))
                      (RT.ok
                        (AV.tup [AV.sc true (Value.pointer none), AV.sc true (Value.int IntKind.i64 230)],
                          { ob := [], nx := 7, gn := [], nv := 0, ng := 1000, ep := 1000 }))
                      (RT.br (!srvB sv)
                        (RT.ok
                          (AV.tup [AV.sc true (Value.pointer none), AV.sc true (Value.int IntKind.i64 230)],
                            { ob := [], nx := 7, gn := [], nv := 0, ng := 1000, ep := 1000 }))
                        (RT.br (knE m0 m1 m2 m3 m4 m5 != 4)
                          (RT.ok
                            (AV.tup [AV.sc true (Value.pointer none), AV.sc true (Value.int IntKind.i64 230)],
                              { ob := [], nx := 7, gn := [], nv := 0, ng := 1000, ep := 1000 }))
                          (RT.br
                            (decide
                              (1 ≤ ba ∧
                                ba ≤ 4294967294 ∧
                                  0 ≤ sz ∧ sz ≤ 65536 ∧ sz ≤ 64 * (↑(nwN sz) : Int) ∧ nwN sz ≤ D.len (ownD sz rs)))
                            (RT.br (hasD ba sz (ownD sz rs) ow)
                              (RT.ok
                                (AV.tup [AV.sc true (Value.pointer none), AV.sc true (Value.int IntKind.i64 230)],
                                  { ob := [], nx := 7, gn := [], nv := 0, ng := 1000, ep := 1000 }))
                              (RT.br (decide (1 ≤ id))
                                (RT.br (!decide (id ≤ 1048576))
                                  (RT.ok
                                    (AV.tup [AV.sc true (Value.pointer none), AV.sc true (Value.int IntKind.i64 230)],
                                      { ob := [], nx := 7, gn := [], nv := 0, ng := 1000, ep := 1000 }))
                                  (RT.br (decide (1 ≤ sh))
                                    (RT.br (!decide (sh ≤ 64))
                                      (RT.ok
                                        (AV.tup [AV.sc true (Value.pointer none), AV.sc true (Value.int IntKind.i64 230)],
                                          { ob := [], nx := 7, gn := [], nv := 0, ng := 1000, ep := 1000 }))
                                      (RT.br (decide (1 ≤ wk))
                                        (RT.br (!decide (wk ≤ 16))
                                          (RT.ok
                                            (AV.tup
                                                [AV.sc true (Value.pointer none), AV.sc true (Value.int IntKind.i64 230)],
                                              { ob := [], nx := 7, gn := [], nv := 0, ng := 1000, ep := 1000 }))
                                          (RT.br (decide (1 ≤ rm))
                                            (RT.br (!decide (rm ≤ 64))
                                              (RT.ok
                                                (AV.tup
                                                    [AV.sc true (Value.pointer none),
                                                      AV.sc true (Value.int IntKind.i64 230)],
                                                  { ob := [], nx := 7, gn := [], nv := 0, ng := 1000, ep := 1000 }))
                                              (RT.ok
                                                (AV.tup [AV.ptr 0 0, AV.sc true (Value.int IntKind.i64 0)],
                                                  {
                                                    ob :=
                                                      [(0,
                                                          [AV.sc false (Value.string nm), AV.sl false [Sh.str] sv none,
                                                            AV.sc false (Value.int IntKind.u8 m0),
                                                            AV.sc false (Value.int IntKind.u8 m1),
                                                            AV.sc false (Value.int IntKind.u8 m2),
                                                            AV.sc false (Value.int IntKind.u8 m3),
                                                            AV.sc false (Value.int IntKind.u8 m4),
                                                            AV.sc false (Value.int IntKind.u8 m5),
                                                            AV.sl false [Sh.int IntKind.u8] sc none,
                                                            AV.sc false (Value.int IntKind.i64 tk),
                                                            AV.sc false (Value.int IntKind.i64 a1),
                                                            AV.sc false (Value.int IntKind.i64 a2),
                                                            AV.sc false (Value.int IntKind.i64 o1),
                                                            AV.sc false (Value.int IntKind.i64 o2),
                                                            AV.sc false (Value.int IntKind.i64 lo),
                                                            AV.sc false (Value.int IntKind.i64 hi),
                                                            AV.sc false (Value.int IntKind.i64 qu),
                                                            AV.sc false (Value.int IntKind.i64 ba),
                                                            AV.sc false (Value.int IntKind.i64 sz),
                                                            AV.sl false [Sh.int IntKind.i64] rs none,
                                                            AV.sc false (Value.int IntKind.i64 l1),
                                                            AV.sc false (Value.int IntKind.i64 l2),
                                                            AV.sc false (Value.int IntKind.i64 l3),
                                                            AV.sc false (Value.int IntKind.i64 l4),
                                                            AV.sc false (Value.int IntKind.i64 l5),
                                                            AV.sc false (Value.int IntKind.i64 l6),
                                                            AV.sc false (Value.int IntKind.i64 l7),
                                                            AV.sc false (Value.int IntKind.i64 ow),
                                                            AV.sc false (Value.int IntKind.i64 id),
                                                            AV.sc false (Value.int IntKind.i64 sh),
                                                            AV.sc false (Value.int IntKind.i64 wk),
                                                            AV.sc false (Value.int IntKind.i64 rm),
                                                            AV.sc false (Value.int IntKind.i64 0),
                                                            AV.sc false (Value.bool false),
                                                            AV.sc false (Value.pointer none),
                                                            AV.sc false (Value.pointer none), AV.ptr 1 0, AV.mp 4]),
                                                        (1,
                                                          [AV.sc false (Value.int IntKind.i64 ba),
                                                            AV.sc false (Value.int IntKind.i64 sz),
                                                            AV.rsl false 2 1 (nwN sz), AV.rsl false 3 1 (nwN sz),
                                                            AV.sc false (Value.int IntKind.i64 (sz - (↑(D.len rs) : Int))),
                                                            AV.sc false (Value.bool true)]),
                                                        (2, [AV.rw [Sh.int IntKind.u64] (ownD sz rs)]),
                                                        (3, [AV.rw [Sh.int IntKind.u64] (ownD sz rs)]),
                                                        (4, [AV.tup [AV.sc false (Value.int IntKind.i64 0)]])],
                                                    nx := 7, gn := [], nv := 0, ng := 1000, ep := 1000 })))
                                            (RT.ok
                                              (AV.tup
                                                  [AV.sc true (Value.pointer none), AV.sc true (Value.int IntKind.i64 230)],
                                                { ob := [], nx := 7, gn := [], nv := 0, ng := 1000, ep := 1000 }))))
                                        (RT.ok
                                          (AV.tup [AV.sc true (Value.pointer none), AV.sc true (Value.int IntKind.i64 230)],
                                            { ob := [], nx := 7, gn := [], nv := 0, ng := 1000, ep := 1000 }))))
                                    (RT.ok
                                      (AV.tup [AV.sc true (Value.pointer none), AV.sc true (Value.int IntKind.i64 230)],
                                        { ob := [], nx := 7, gn := [], nv := 0, ng := 1000, ep := 1000 }))))
                                (RT.ok
                                  (AV.tup [AV.sc true (Value.pointer none), AV.sc true (Value.int IntKind.i64 230)],
                                    { ob := [], nx := 7, gn := [], nv := 0, ng := 1000, ep := 1000 }))))
                            (RT.bad 663))))))))))
          (RT.br true
            (RT.ok
              (AV.tup [AV.sc true (Value.pointer none), AV.sc true (Value.int IntKind.i64 230)],
                { ob := [], nx := 7, gn := [], nv := 0, ng := 1000, ep := 1000 }))
            (RT.br true
              (RT.ok
                (AV.tup [AV.sc true (Value.pointer none), AV.sc true (Value.int IntKind.i64 230)],
                  { ob := [], nx := 7, gn := [], nv := 0, ng := 1000, ep := 1000 }))
              (RT.br true
                (RT.ok
                  (AV.tup [AV.sc true (Value.pointer none), AV.sc true (Value.int IntKind.i64 230)],
                    { ob := [], nx := 7, gn := [], nv := 0, ng := 1000, ep := 1000 }))
                (RT.br (lnE l1 l2 l3 l4 l5 l6 l7 ow != 0)
                  (RT.ok
                    (AV.tup [AV.sc true (Value.pointer none), AV.sc true (Value.int IntKind.i64 230)],
                      { ob := [], nx := 7, gn := [], nv := 0, ng := 1000, ep := 1000 }))
                  (RT.br (ckiE sc tk != 0)
                    (RT.ok
                      (AV.tup [AV.sc true (Value.pointer none), AV.sc true (Value.int IntKind.i64 230)],
                        { ob := [], nx := 7, gn := [], nv := 0, ng := 1000, ep := 1000 }))
                    (RT.br (decide (64 < (↑(ByteArray.size nm) : Int)))
                      (RT.ok
                        (AV.tup [AV.sc true (Value.pointer none), AV.sc true (Value.int IntKind.i64 230)],
                          { ob := [], nx := 7, gn := [], nv := 0, ng := 1000, ep := 1000 }))
                      (RT.br (!srvB sv)
                        (RT.ok
                          (AV.tup [AV.sc true (Value.pointer none), AV.sc true (Value.int IntKind.i64 230)],
                            { ob := [], nx := 7, gn := [], nv := 0, ng := 1000, ep := 1000 }))
                        (RT.br (knE m0 m1 m2 m3 m4 m5 != 4)
                          (RT.ok
                            (AV.tup [AV.sc true (Value.pointer none), AV.sc true (Value.int IntKind.i64 230)],
                              { ob := [], nx := 7, gn := [], nv := 0, ng := 1000, ep := 1000 }))
                          (RT.bad 664))))))))))) := by kernel_rfl
theorem plnG_ok : GamL Tryz.prog (plnG Tryz.prog) := ⟨bkn_soundF, ids_soundF, pol_soundF, lnk_soundF, cki_soundF, srv_soundF, knd_soundF, has_soundF, cls_soundF, clb_soundF, trivial⟩
end
end Go.Proofs.YtomblhnchdokmaaGreatDoor
