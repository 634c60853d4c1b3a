/- MpK: texts of this claim, one behind the other: Kz6 Kz8. No condition. -/
import Derived.Test.YtomblhnchdokmaaGreatDoorMpD
namespace Go.Proofs.YtomblhnchdokmaaGreatDoor
set_option linter.unusedSimpArgs false
set_option linter.unusedVariables false
open Go.RowKit
set_option maxRecDepth 100000
noncomputable section
-- DEFS
structure ligX where
  nm : ByteArray
  sv : D
  m0 : Int
  m1 : Int
  m2 : Int
  m3 : Int
  m4 : Int
  m5 : Int
  sc : D
  tk : Int
  a1 : Int
  a2 : Int
  o1 : Int
  o2 : Int
  lo : Int
  hi : Int
  qu : Int
  ba : Int
  sz : Int
  rs : D
  l1 : Int
  l2 : Int
  l3 : Int
  l4 : Int
  l5 : Int
  l6 : Int
  l7 : Int
  ow : Int
  id : Int
  sh : Int
  wk : Int
  rm : Int
  zz : ByteArray
def ligL : Lw := ⟨[1, 2, 3, 4], [(false, 3, 0, 9)], 2, 1, 1000, 1000⟩
def ligF (a : ligX) (i : Nat) (g0 : D) : Tm := ⟨65, [(1, .ptr 0 0), (2, .ptr 1 0), (3, .sl false stS g0 (some (0, 1000))), (4, .sc false (.int .i64 (i : Int)))], []⟩
def ligH (a : ligX) (i : Nat) (g0 : D) : Hp := ⟨[(0, [.sc false (.string a.nm), .sl false stS a.sv none, .sc false (.int .u8 a.m0), .sc false (.int .u8 a.m1), .sc false (.int .u8 a.m2), .sc false (.int .u8 a.m3), .sc false (.int .u8 a.m4), .sc false (.int .u8 a.m5), .sl false byS a.sc none, .sc false (.int .i64 a.tk), .sc false (.int .i64 a.a1), .sc false (.int .i64 a.a2), .sc false (.int .i64 a.o1), .sc false (.int .i64 a.o2), .sc false (.int .i64 a.lo), .sc false (.int .i64 a.hi), .sc false (.int .i64 a.qu), .sc false (.int .i64 a.ba), .sc false (.int .i64 a.sz), .sl false inS a.rs none, .sc false (.int .i64 a.l1), .sc false (.int .i64 a.l2), .sc false (.int .i64 a.l3), .sc false (.int .i64 a.l4), .sc false (.int .i64 a.l5), .sc false (.int .i64 a.l6), .sc false (.int .i64 a.l7), .sc false (.int .i64 a.ow), .sc false (.int .i64 a.id), .sc false (.int .i64 a.sh), .sc false (.int .i64 a.wk), .sc false (.int .i64 a.rm)]), (1, [.sc false (.string a.zz), .sc false (.slice none 0 0), .sc false (.int .u8 0), .sc false (.int .u8 0), .sc false (.int .u8 0), .sc false (.int .u8 0), .sc false (.int .u8 0), .sc false (.int .u8 0), .sc false (.slice none 0 0), .sc false (.int .i64 0), .sc false (.int .i64 0), .sc false (.int .i64 0), .sc false (.int .i64 0), .sc false (.int .i64 0), .sc false (.int .i64 0), .sc false (.int .i64 0), .sc false (.int .i64 0), .sc false (.int .i64 0), .sc false (.int .i64 0), .sc false (.slice none 0 0), .sc false (.int .i64 0), .sc false (.int .i64 0), .sc false (.int .i64 0), .sc false (.int .i64 0), .sc false (.int .i64 0), .sc false (.int .i64 0), .sc false (.int .i64 0), .sc false (.int .i64 0), .sc false (.int .i64 0), .sc false (.int .i64 0), .sc false (.int .i64 0), .sc false (.int .i64 0)])], 2, [(0, 1000, 9)], 1, 1001, 1000⟩
def ligC : Cs := ⟨65, [(1, .lit (.ptr 0 0)), (2, .lit (.ptr 1 0)), (3, .nw stS 0 1000), (4, .lit (.sc false (.int .i64 0)))], [(0, [.str, .sl stS, .int .u8, .int .u8, .int .u8, .int .u8, .int .u8, .int .u8, .sl byS, .int .i64, .int .i64, .int .i64, .int .i64, .int .i64, .int .i64, .int .i64, .int .i64, .int .i64, .int .i64, .sl inS, .int .i64, .int .i64, .int .i64, .int .i64, .int .i64, .int .i64, .int .i64, .int .i64, .int .i64, .int .i64, .int .i64, .int .i64]), (1, [.str, .lit (.sc false (.slice none 0 0)), .lit (.sc false (.int .u8 0)), .lit (.sc false (.int .u8 0)), .lit (.sc false (.int .u8 0)), .lit (.sc false (.int .u8 0)), .lit (.sc false (.int .u8 0)), .lit (.sc false (.int .u8 0)), .lit (.sc false (.slice none 0 0)), .lit (.sc false (.int .i64 0)), .lit (.sc false (.int .i64 0)), .lit (.sc false (.int .i64 0)), .lit (.sc false (.int .i64 0)), .lit (.sc false (.int .i64 0)), .lit (.sc false (.int .i64 0)), .lit (.sc false (.int .i64 0)), .lit (.sc false (.int .i64 0)), .lit (.sc false (.int .i64 0)), .lit (.sc false (.int .i64 0)), .lit (.sc false (.slice none 0 0)), .lit (.sc false (.int .i64 0)), .lit (.sc false (.int .i64 0)), .lit (.sc false (.int .i64 0)), .lit (.sc false (.int .i64 0)), .lit (.sc false (.int .i64 0)), .lit (.sc false (.int .i64 0)), .lit (.sc false (.int .i64 0)), .lit (.sc false (.int .i64 0)), .lit (.sc false (.int .i64 0)), .lit (.sc false (.int .i64 0)), .lit (.sc false (.int .i64 0)), .lit (.sc false (.int .i64 0))])], 2, [(0, 1000, 9)], 1, 1001, 1000⟩
noncomputable def ligDec (F : Tm) (h : Hp) : Option (ligX × Nat) := match cdS ligC F h with
  | some (v0 :: v1 :: v2 :: v3 :: v4 :: v5 :: v6 :: v7 :: v8 :: v9 :: v10 :: v11 :: v12 :: v13 :: v14 :: v15 :: v16 :: v17 :: v18 :: v19 :: r) => (match r with | [v20, v21, v22, v23, v24, v25, v26, v27, v28, v29, v30, v31, v32] => some (⟨v0.toS, v1, v2.toI, v3.toI, v4.toI, v5.toI, v6.toI, v7.toI, v8, v9.toI, v10.toI, v11.toI, v12.toI, v13.toI, v14.toI, v15.toI, v16.toI, v17.toI, v18.toI, v19, v20.toI, v21.toI, v22.toI, v23.toI, v24.toI, v25.toI, v26.toI, v27.toI, v28.toI, v29.toI, v30.toI, v31.toI, v32.toS⟩, 0) | _ => none)
  | _ => none
-- END
theorem lig_body (nm : ByteArray) (sv : D) (m0 : Int) (m1 : Int) (m2 : Int) (m3 : Int) (m4 : Int) (m5 : Int) (sc : D) (tk : Int) (a1 : Int) (a2 : Int) (o1 : Int) (o2 : Int) (lo : Int) (hi : Int) (qu : Int) (ba : Int) (sz : Int) (rs : D) (l1 : Int) (l2 : Int) (l3 : Int) (l4 : Int) (l5 : Int) (l6 : Int) (l7 : Int) (ow : Int) (id : Int) (sh : Int) (wk : Int) (rm : Int) (zz : ByteArray) (i : Int) (g0 : D) : roundT (⟨[1, 2, 3, 4], [(false, 3, 0, 9)], 2, 1, 1000, 1000⟩) (evC Tryz.prog (gam ([])) (lam ([])) 100 5 (loopAt 0 (bodyOf Tryz.prog 5)) (⟨65, [(1, .ptr 0 0), (2, .ptr 1 0), (3, .sl false stS g0 (some (0, 1000))), (4, .sc false (.int .i64 i))], []⟩) (⟨[(0, [.sc false (.string nm), .sl false stS sv none, .sc false (.int .u8 m0), .sc false (.int .u8 m1), .sc false (.int .u8 m2), .sc false (.int .u8 m3), .sc false (.int .u8 m4), .sc false (.int .u8 m5), .sl false byS sc none, .sc false (.int .i64 tk), .sc false (.int .i64 a1), .sc false (.int .i64 a2), .sc false (.int .i64 o1), .sc false (.int .i64 o2), .sc false (.int .i64 lo), .sc false (.int .i64 hi), .sc false (.int .i64 qu), .sc false (.int .i64 ba), .sc false (.int .i64 sz), .sl false inS rs none, .sc false (.int .i64 l1), .sc false (.int .i64 l2), .sc false (.int .i64 l3), .sc false (.int .i64 l4), .sc false (.int .i64 l5), .sc false (.int .i64 l6), .sc false (.int .i64 l7), .sc false (.int .i64 ow), .sc false (.int .i64 id), .sc false (.int .i64 sh), .sc false (.int .i64 wk), .sc false (.int .i64 rm)]), (1, [.sc false (.string zz), .sc false (.slice none 0 0), .sc false (.int .u8 0), .sc false (.int .u8 0), .sc false (.int .u8 0), .sc false (.int .u8 0), .sc false (.int .u8 0), .sc false (.int .u8 0), .sc false (.slice none 0 0), .sc false (.int .i64 0), .sc false (.int .i64 0), .sc false (.int .i64 0), .sc false (.int .i64 0), .sc false (.int .i64 0), .sc false (.int .i64 0), .sc false (.int .i64 0), .sc false (.int .i64 0), .sc false (.int .i64 0), .sc false (.int .i64 0), .sc false (.slice none 0 0), .sc false (.int .i64 0), .sc false (.int .i64 0), .sc false (.int .i64 0), .sc false (.int .i64 0), .sc false (.int .i64 0), .sc false (.int .i64 0), .sc false (.int .i64 0), .sc false (.int .i64 0), .sc false (.int .i64 0), .sc false (.int .i64 0), .sc false (.int .i64 0), .sc false (.int .i64 0)])], 2, [(0, 1000, 9)], 1, 1001, 1000⟩)) =
    RT.br (decide (i < (↑(D.len sv) : Int)))
      (RT.br (decide (i < 10))
        (RT.br (decide (0 ≤ i ∧ i < (↑(D.len sv) : Int)))
          (RT.br (decide (0 ≤ i ∧ i < (↑(D.len sv) : Int)))
            (RT.br
              (decide
                ((0 : Int) ≤ 0 ∧
                  0 ≤ imin (↑(ByteArray.size (D.toS (D.cell (D.get sv (Int.toNat i)) 0))) : Int) 70 ∧
                    imin (↑(ByteArray.size (D.toS (D.cell (D.get sv (Int.toNat i)) 0))) : Int) 70 ≤
                      (↑(ByteArray.size (D.toS (D.cell (D.get sv (Int.toNat i)) 0))) : Int)))
              (RT.br (decide ((D.len g0 + 1) * 16 ≤ 140737488355328))
                (RT.ok
                  (Ex.normal,
                    { nt := 65,
                      tm :=
                        [(1, AV.ptr 0 0), (2, AV.ptr 1 0),
                          (3,
                            AV.sl false [Sh.str]
                              (D.app g0
                                (D.l
                                  [D.t
                                      [D.s
                                          (ByteArray.extract (D.toS (D.cell (D.get sv (Int.toNat i)) 0)) 0
                                            (Int.toNat
                                              (imin (↑(ByteArray.size (D.toS (D.cell (D.get sv (Int.toNat i)) 0))) : Int)
                                                70)))]]))
                              (some (0, 1000))),
                          (4, AV.sc false (Value.int IntKind.i64 (IntKind.wrap IntKind.i64 (i + 1))))],
                      df := [] },
                    {
                      ob :=
                        [(0,
                            [AV.sc false (Value.string nm), AV.sl false [Sh.str] sv none,
                              AV.sc false (Value.int IntKind.u8 m0), AV.sc false (Value.int IntKind.u8 m1),
                              AV.sc false (Value.int IntKind.u8 m2), AV.sc false (Value.int IntKind.u8 m3),
                              AV.sc false (Value.int IntKind.u8 m4), AV.sc false (Value.int IntKind.u8 m5),
                              AV.sl false [Sh.int IntKind.u8] sc none, AV.sc false (Value.int IntKind.i64 tk),
                              AV.sc false (Value.int IntKind.i64 a1), AV.sc false (Value.int IntKind.i64 a2),
                              AV.sc false (Value.int IntKind.i64 o1), AV.sc false (Value.int IntKind.i64 o2),
                              AV.sc false (Value.int IntKind.i64 lo), AV.sc false (Value.int IntKind.i64 hi),
                              AV.sc false (Value.int IntKind.i64 qu), AV.sc false (Value.int IntKind.i64 ba),
                              AV.sc false (Value.int IntKind.i64 sz), AV.sl false [Sh.int IntKind.i64] rs none,
                              AV.sc false (Value.int IntKind.i64 l1), AV.sc false (Value.int IntKind.i64 l2),
                              AV.sc false (Value.int IntKind.i64 l3), AV.sc false (Value.int IntKind.i64 l4),
                              AV.sc false (Value.int IntKind.i64 l5), AV.sc false (Value.int IntKind.i64 l6),
                              AV.sc false (Value.int IntKind.i64 l7), AV.sc false (Value.int IntKind.i64 ow),
                              AV.sc false (Value.int IntKind.i64 id), AV.sc false (Value.int IntKind.i64 sh),
                              AV.sc false (Value.int IntKind.i64 wk), AV.sc false (Value.int IntKind.i64 rm)]),
                          (1,
                            [AV.sc false (Value.string zz), AV.sc false (Value.slice none 0 0),
                              AV.sc false (Value.int IntKind.u8 0), AV.sc false (Value.int IntKind.u8 0),
                              AV.sc false (Value.int IntKind.u8 0), AV.sc false (Value.int IntKind.u8 0),
                              AV.sc false (Value.int IntKind.u8 0), AV.sc false (Value.int IntKind.u8 0),
                              AV.sc false (Value.slice none 0 0), AV.sc false (Value.int IntKind.i64 0),
                              AV.sc false (Value.int IntKind.i64 0), AV.sc false (Value.int IntKind.i64 0),
                              AV.sc false (Value.int IntKind.i64 0), AV.sc false (Value.int IntKind.i64 0),
                              AV.sc false (Value.int IntKind.i64 0), AV.sc false (Value.int IntKind.i64 0),
                              AV.sc false (Value.int IntKind.i64 0), AV.sc false (Value.int IntKind.i64 0),
                              AV.sc false (Value.int IntKind.i64 0), AV.sc false (Value.slice none 0 0),
                              AV.sc false (Value.int IntKind.i64 0), AV.sc false (Value.int IntKind.i64 0),
                              AV.sc false (Value.int IntKind.i64 0), AV.sc false (Value.int IntKind.i64 0),
                              AV.sc false (Value.int IntKind.i64 0), AV.sc false (Value.int IntKind.i64 0),
                              AV.sc false (Value.int IntKind.i64 0), AV.sc false (Value.int IntKind.i64 0),
                              AV.sc false (Value.int IntKind.i64 0), AV.sc false (Value.int IntKind.i64 0),
                              AV.sc false (Value.int IntKind.i64 0), AV.sc false (Value.int IntKind.i64 0)])],
                      nx := 2, gn := [(0, 1000, 9)], nv := 1, ng := 1001, ep := 1000 }))
                (RT.bad 70))
              (RT.bad 271))
            (RT.bad 42))
          (RT.bad 42))
        (RT.ok
          (Ex.exit 0,
            { nt := 65,
              tm :=
                [(1, AV.ptr 0 0), (2, AV.ptr 1 0), (3, AV.sl false [Sh.str] g0 (some (0, 1000))),
                  (4, AV.sc false (Value.int IntKind.i64 i))],
              df := [] },
            {
              ob :=
                [(0,
                    [AV.sc false (Value.string nm), AV.sl false [Sh.str] sv none, AV.sc false (Value.int IntKind.u8 m0),
                      AV.sc false (Value.int IntKind.u8 m1), AV.sc false (Value.int IntKind.u8 m2),
                      AV.sc false (Value.int IntKind.u8 m3), AV.sc false (Value.int IntKind.u8 m4),
                      AV.sc false (Value.int IntKind.u8 m5), AV.sl false [Sh.int IntKind.u8] sc none,
                      AV.sc false (Value.int IntKind.i64 tk), AV.sc false (Value.int IntKind.i64 a1),
                      AV.sc false (Value.int IntKind.i64 a2), AV.sc false (Value.int IntKind.i64 o1),
                      AV.sc false (Value.int IntKind.i64 o2), AV.sc false (Value.int IntKind.i64 lo),
                      AV.sc false (Value.int IntKind.i64 hi), AV.sc false (Value.int IntKind.i64 qu),
                      AV.sc false (Value.int IntKind.i64 ba), AV.sc false (Value.int IntKind.i64 sz),
                      AV.sl false [Sh.int IntKind.i64] rs none, AV.sc false (Value.int IntKind.i64 l1),
                      AV.sc false (Value.int IntKind.i64 l2), AV.sc false (Value.int IntKind.i64 l3),
                      AV.sc false (Value.int IntKind.i64 l4), AV.sc false (Value.int IntKind.i64 l5),
                      AV.sc false (Value.int IntKind.i64 l6), AV.sc false (Value.int IntKind.i64 l7),
                      AV.sc false (Value.int IntKind.i64 ow), AV.sc false (Value.int IntKind.i64 id),
                      AV.sc false (Value.int IntKind.i64 sh), AV.sc false (Value.int IntKind.i64 wk),
                      AV.sc false (Value.int IntKind.i64 rm)]),
                  (1,
                    [AV.sc false (Value.string zz), AV.sc false (Value.slice none 0 0),
                      AV.sc false (Value.int IntKind.u8 0), AV.sc false (Value.int IntKind.u8 0),
                      AV.sc false (Value.int IntKind.u8 0), AV.sc false (Value.int IntKind.u8 0),
                      AV.sc false (Value.int IntKind.u8 0), AV.sc false (Value.int IntKind.u8 0),
                      AV.sc false (Value.slice none 0 0), AV.sc false (Value.int IntKind.i64 0),
                      AV.sc false (Value.int IntKind.i64 0), AV.sc false (Value.int IntKind.i64 0),
                      AV.sc false (Value.int IntKind.i64 0), AV.sc false (Value.int IntKind.i64 0),
                      AV.sc false (Value.int IntKind.i64 0), AV.sc false (Value.int IntKind.i64 0),
                      AV.sc false (Value.int IntKind.i64 0), AV.sc false (Value.int IntKind.i64 0),
                      AV.sc false (Value.int IntKind.i64 0), AV.sc false (Value.slice none 0 0),
                      AV.sc false (Value.int IntKind.i64 0), AV.sc false (Value.int IntKind.i64 0),
                      AV.sc false (Value.int IntKind.i64 0), AV.sc false (Value.int IntKind.i64 0),
                      AV.sc false (Value.int IntKind.i64 0), AV.sc false (Value.int IntKind.i64 0),
                      AV.sc false (Value.int IntKind.i64 0), AV.sc false (Value.int IntKind.i64 0),
                      AV.sc false (Value.int IntKind.i64 0), AV.sc false (Value.int IntKind.i64 0),
                      AV.sc false (Value.int IntKind.i64 0), AV.sc false (Value.int IntKind.i64 0)])],
              nx := 2, gn := [(0, 1000, 9)], nv := 1, ng := 1001, ep := 1000 })))
      (RT.ok
        (Ex.exit 0,
          { nt := 65,
            tm :=
              [(1, AV.ptr 0 0), (2, AV.ptr 1 0), (3, AV.sl false [Sh.str] g0 (some (0, 1000))),
                (4, AV.sc false (Value.int IntKind.i64 i))],
            df := [] },
          {
            ob :=
              [(0,
                  [AV.sc false (Value.string nm), AV.sl false [Sh.str] sv none, AV.sc false (Value.int IntKind.u8 m0),
                    AV.sc false (Value.int IntKind.u8 m1), AV.sc false (Value.int IntKind.u8 m2),
                    AV.sc false (Value.int IntKind.u8 m3), AV.sc false (Value.int IntKind.u8 m4),
                    AV.sc false (Value.int IntKind.u8 m5), AV.sl false [Sh.int IntKind.u8] sc none,
                    AV.sc false (Value.int IntKind.i64 tk), AV.sc false (Value.int IntKind.i64 a1),
                    AV.sc false (Value.int IntKind.i64 a2), AV.sc false (Value.int IntKind.i64 o1),
                    AV.sc false (Value.int IntKind.i64 o2), AV.sc false (Value.int IntKind.i64 lo),
                    AV.sc false (Value.int IntKind.i64 hi), AV.sc false (Value.int IntKind.i64 qu),
                    AV.sc false (Value.int IntKind.i64 ba), AV.sc false (Value.int IntKind.i64 sz),
                    AV.sl false [Sh.int IntKind.i64] rs none, AV.sc false (Value.int IntKind.i64 l1),
                    AV.sc false (Value.int IntKind.i64 l2), AV.sc false (Value.int IntKind.i64 l3),
                    AV.sc false (Value.int IntKind.i64 l4), AV.sc false (Value.int IntKind.i64 l5),
                    AV.sc false (Value.int IntKind.i64 l6), AV.sc false (Value.int IntKind.i64 l7),
                    AV.sc false (Value.int IntKind.i64 ow), AV.sc false (Value.int IntKind.i64 id),
                    AV.sc false (Value.int IntKind.i64 sh), AV.sc false (Value.int IntKind.i64 wk),
                    AV.sc false (Value.int IntKind.i64 rm)]),
                (1,
                  [AV.sc false (Value.string zz), AV.sc false (Value.slice none 0 0), AV.sc false (Value.int IntKind.u8 0),
                    AV.sc false (Value.int IntKind.u8 0), AV.sc false (Value.int IntKind.u8 0),
                    AV.sc false (Value.int IntKind.u8 0), AV.sc false (Value.int IntKind.u8 0),
                    AV.sc false (Value.int IntKind.u8 0), AV.sc false (Value.slice none 0 0),
                    AV.sc false (Value.int IntKind.i64 0), AV.sc false (Value.int IntKind.i64 0),
                    AV.sc false (Value.int IntKind.i64 0), AV.sc false (Value.int IntKind.i64 0),
                    AV.sc false (Value.int IntKind.i64 0), AV.sc false (Value.int IntKind.i64 0),
                    AV.sc false (Value.int IntKind.i64 0), AV.sc false (Value.int IntKind.i64 0),
                    AV.sc false (Value.int IntKind.i64 0), AV.sc false (Value.int IntKind.i64 0),
                    AV.sc false (Value.slice none 0 0), AV.sc false (Value.int IntKind.i64 0),
                    AV.sc false (Value.int IntKind.i64 0), AV.sc false (Value.int IntKind.i64 0),
                    AV.sc false (Value.int IntKind.i64 0), AV.sc false (Value.int IntKind.i64 0),
                    AV.sc false (Value.int IntKind.i64 0), AV.sc false (Value.int IntKind.i64 0),
                    AV.sc false (Value.int IntKind.i64 0), AV.sc false (Value.int IntKind.i64 0),
                    AV.sc false (Value.int IntKind.i64 0), AV.sc false (Value.int IntKind.i64 0),
                    AV.sc false (Value.int IntKind.i64 0)])],
            nx := 2, gn := [(0, 1000, 9)], nv := 1, ng := 1001, ep := 1000 })) := by kernel_rfl
-- DEFS
def ligN (sv : D) : Nat := min sv.len 10
def cutS (b : ByteArray) : ByteArray := b.extract 0 (imin (b.size : Int) 70).toNat
def ligE (sv : D) (i : Nat) : D := .t [.s (cutS ((sv.get i).cell 0).toS)]
def ligT : ligX × Nat → RT Out := foldT (fun a => ligN a.sv) (fun _ => true) (fun a i => ligF a i (growD (.l []) (ligE a.sv) i)) (fun a i => ligH a i (growD (.l []) (ligE a.sv) i))
def ligLs (P : Program) : List (FuncId × Nat × BSpec) := [(5, 0, loopS P ligL ligDec ligT)]
-- END
-- STOPS: growD ligE ligN
theorem ligDec_0 : ∀ F h x, ligDec F h = some x → ∃ a, x = (a, 0) ∧ F = ligF a 0 (.l []) ∧ h = ligH a 0 (.l []) := by
  intro F h x hx
  unfold ligDec at hx
  split at hx
  · rename_i hd
    split at hx
    · cases hx
      obtain ⟨h1, h2⟩ := cdS_ok hd
      exact ⟨_, rfl, h1, h2⟩
    · cases hx
  · cases hx
theorem ligDec_ok : ∀ F h x, ligDec F h = some x → F = ligF x.1 x.2 (.l []) ∧ h = ligH x.1 x.2 (.l []) := by
  intro F h x hx
  obtain ⟨a, rfl, h1, h2⟩ := ligDec_0 F h x hx
  exact ⟨h1, h2⟩
theorem nil_len : (D.l []).len = 0 := by simp [D.len, D.toL, D.raw, maxLen]
theorem imin_bnd (n : Nat) (k : Int) (hk : 0 ≤ k) : 0 ≤ imin (n : Int) k ∧ imin (n : Int) k ≤ (n : Int) := by unfold imin; split <;> omega
theorem lig_loop : LamE Tryz.prog 5 0 (loopS Tryz.prog ligL ligDec ligT) := by
  refine fold_loop (gs := []) (ls := []) mixed trivial trivial _ 0 100 (by kernel_rfl) ligL (fun F h x hx => by
    obtain ⟨a, rfl, h1, h2⟩ := ligDec_0 F h x hx
    exact ⟨h1, h2⟩) ?_
  rintro ⟨nm, sv, m0, m1, m2, m3, m4, m5, sc, tk, a1, a2, o1, o2, lo, hi, qu, ba, sz, rs, l1, l2, l3, l4, l5, l6, l7, ow, id, sh, wk, rm, zz⟩ i K _ hi' H1 H2
  dsimp only at hi' H1 H2
  have hm := sv.len_le
  have hN : ligN sv = min sv.len 10 := rfl
  have hx : maxLen = 140737488355328 ∨ 10 ≤ maxLen := by unfold maxLen; omega
  have hg : (growD (.l []) (ligE sv) i).len = i := by
    rw [growD_len (by rw [nil_len]; unfold maxLen; omega), nil_len]; omega
  show (roundT ligL (evC _ _ _ _ _ _ (ligF ⟨nm, sv, m0, m1, m2, m3, m4, m5, sc, tk, a1, a2, o1, o2, lo, hi, qu, ba, sz, rs, l1, l2, l3, l4, l5, l6, l7, ow, id, sh, wk, rm, zz⟩ i (growD (.l []) (ligE sv) i)) (ligH ⟨nm, sv, m0, m1, m2, m3, m4, m5, sc, tk, a1, a2, o1, o2, lo, hi, qu, ba, sz, rs, l1, l2, l3, l4, l5, l6, l7, ow, id, sh, wk, rm, zz⟩ i (growD (.l []) (ligE sv) i)))).holds _
  unfold ligL ligF ligH
  rw [lig_body]
  simp only [Int.toNat_natCast]
  refine ⟨fun h1 => ⟨fun h2 => ?_, fun h2 => ?_⟩, fun h1 => ?_⟩
  · have h1 : (i : Int) < (sv.len : Int) := of_decide_eq_true h1
    have h2 : (i : Int) < 10 := of_decide_eq_true h2
    have hb := imin_bnd (((sv.get i).cell 0).toS.size) 70 (by decide)
    have hin : (0 : Int) ≤ (i : Int) ∧ (i : Int) < (sv.len : Int) := ⟨by omega, h1⟩
    refine ⟨fun _ => ⟨fun _ => ⟨fun _ => ⟨fun _ => ?_, fun h => ?_⟩, fun h => absurd ⟨Int.le_refl _, hb.1, hb.2⟩ (of_decide_eq_false h)⟩, fun h => absurd hin (of_decide_eq_false h)⟩, fun h => absurd hin (of_decide_eq_false h)⟩
    · rw [wrap_nat (show i < sv.len by omega) hm]
      exact H1 (by omega)
    · have h := of_decide_eq_false h
      rw [hg] at h
      omega
  · have h1 : (i : Int) < (sv.len : Int) := of_decide_eq_true h1
    have h2 : ¬ (i : Int) < 10 := of_decide_eq_false h2
    obtain rfl : i = ligN sv := by omega
    exact H2 rfl
  · have h1 : ¬ (i : Int) < (sv.len : Int) := of_decide_eq_false h1
    obtain rfl : i = ligN sv := by omega
    exact H2 rfl
theorem ligLs_ok : LamL Tryz.prog (ligLs Tryz.prog) := ⟨lig_loop, trivial⟩
theorem lig_tree (nm : ByteArray) (sv : D) (m0 m1 m2 m3 m4 m5 : Int) (sc : D) (tk a1 a2 o1 o2 lo hi qu ba sz : Int) (rs : D) (l1 l2 l3 l4 l5 l6 l7 ow id sh wk rm : Int) : treeF (evF Tryz.prog (gam []) (lam (ligLs Tryz.prog)) 100 5) [.agg (cfA nm sv m0 m1 m2 m3 m4 m5 sc tk a1 a2 o1 o2 lo hi qu ba sz rs l1 l2 l3 l4 l5 l6 l7 ow id sh wk rm)] =
    RT.br
      (decide
        ((0 : Int) ≤ 0 ∧
          0 ≤ imin (↑(ByteArray.size nm) : Int) 70 ∧ imin (↑(ByteArray.size nm) : Int) 70 ≤ (↑(ByteArray.size nm) : Int)))
      (RT.br true
        (RT.br
          (decide
            ((0 : Int) ≤ 0 ∧
              0 ≤ imin (↑(D.len sc) : Int) 70 ∧
                imin (↑(D.len sc) : Int) 70 ≤ (↑(D.len sc) : Int) ∧ (↑(D.len sc) : Int) ≤ (↑(D.len sc) : Int)))
          (RT.br
            (decide
              ((0 : Int) ≤ 0 ∧
                0 ≤ imin (↑(D.len rs) : Int) 300 ∧
                  imin (↑(D.len rs) : Int) 300 ≤ (↑(D.len rs) : Int) ∧ (↑(D.len rs) : Int) ≤ (↑(D.len rs) : Int)))
            (RT.ok
              (AV.agg
                [AV.sc false (Value.string (ByteArray.extract nm 0 (Int.toNat (imin (↑(ByteArray.size nm) : Int) 70)))),
                  AV.sl false [Sh.str] (growD (D.l []) (ligE sv) (ligN sv)) none, AV.sc false (Value.int IntKind.u8 m0),
                  AV.sc false (Value.int IntKind.u8 m1), AV.sc false (Value.int IntKind.u8 m2),
                  AV.sc false (Value.int IntKind.u8 m3), AV.sc false (Value.int IntKind.u8 m4),
                  AV.sc false (Value.int IntKind.u8 m5),
                  AV.sl false [Sh.int IntKind.u8] (D.sub sc 0 (Int.toNat (imin (↑(D.len sc) : Int) 70))) none,
                  AV.sc false (Value.int IntKind.i64 tk), AV.sc false (Value.int IntKind.i64 a1),
                  AV.sc false (Value.int IntKind.i64 a2), AV.sc false (Value.int IntKind.i64 o1),
                  AV.sc false (Value.int IntKind.i64 o2), AV.sc false (Value.int IntKind.i64 lo),
                  AV.sc false (Value.int IntKind.i64 hi), AV.sc false (Value.int IntKind.i64 qu),
                  AV.sc false (Value.int IntKind.i64 ba), AV.sc false (Value.int IntKind.i64 sz),
                  AV.sl false [Sh.int IntKind.i64] (D.sub rs 0 (Int.toNat (imin (↑(D.len rs) : Int) 300))) none,
                  AV.sc false (Value.int IntKind.i64 l1), AV.sc false (Value.int IntKind.i64 l2),
                  AV.sc false (Value.int IntKind.i64 l3), AV.sc false (Value.int IntKind.i64 l4),
                  AV.sc false (Value.int IntKind.i64 l5), AV.sc false (Value.int IntKind.i64 l6),
                  AV.sc false (Value.int IntKind.i64 l7), AV.sc false (Value.int IntKind.i64 ow),
                  AV.sc false (Value.int IntKind.i64 id), AV.sc false (Value.int IntKind.i64 sh),
                  AV.sc false (Value.int IntKind.i64 wk), AV.sc false (Value.int IntKind.i64 rm)]))
            (RT.bad 37))
          (RT.bad 37))
        (RT.bad 210))
      (RT.bad 271) := by kernel_rfl
end
end Go.Proofs.YtomblhnchdokmaaGreatDoor

namespace Go.Proofs.YtomblhnchdokmaaGreatDoor
set_option linter.unusedSimpArgs false
set_option linter.unusedVariables false
open Go.RowKit
set_option maxRecDepth 100000
noncomputable section
-- DEFS
abbrev r2S : List Sh := [.int .i64, .int .i64]
structure ifrX where
  now : Int
  nn : Int
  z : D
  zn : Int
  lo : Int
  qu : Int
  n : Nat
  fr : D
  tk : D
def ifrL : Lw := ⟨[0, 1, 5, 23, 24, 25], [], 2, 0, 1000, 1000⟩
def ifrF (a : ifrX) (i : Nat) : Tm := ⟨37, [(0, .ptr 0 0), (1, .sc false (.int .i64 a.now)), (5, .sc false (.int .i64 a.nn)), (23, .sl false r2S a.z none), (24, .sc false (.int .i64 a.zn)), (25, .sc false (.int .i64 (i : Int)))], []⟩
def ifrH (a : ifrX) (i : Nat) : Hp := ⟨[(0, [.sc false (.int .i64 a.lo), .sc false (.int .i64 a.qu), .rsl false 1 1 a.n, .sl false inS a.fr none, .sc false (.int .i64 0), .sc false (.slice none 0 0), .sc false (.int .i64 0)]), (1, [.rw boS a.tk])], 2, [], 0, 1000, 1000⟩
def ifrC : Cs := ⟨37, [(0, .lit (.ptr 0 0)), (1, .int .i64), (5, .int .i64), (23, .sl r2S), (24, .int .i64), (25, .lit (.sc false (.int .i64 0)))], [(0, [.int .i64, .int .i64, .rs 1 1, .sl inS, .lit (.sc false (.int .i64 0)), .lit (.sc false (.slice none 0 0)), .lit (.sc false (.int .i64 0))]), (1, [.row boS])], 2, [], 0, 1000, 1000⟩
noncomputable def ifrDec (F : Tm) (h : Hp) : Option (ifrX × Nat) := match cdS ifrC F h with
  | some [v0, v1, v2, v3, v4, v5, v6, v7, v8] => some (⟨v0.toI, v1.toI, v2, v3.toI, v4.toI, v5.toI, v6.toI.toNat, v7, v8⟩, 0)
  | _ => none
-- END
theorem ifr_body (now : Int) (nn : Int) (z : D) (zn : Int) (lo : Int) (qu : Int) (n : Nat) (fr : D) (tk : D) (i : Int) : roundT (⟨[0, 1, 5, 23, 24, 25], [], 2, 0, 1000, 1000⟩) (evC Tryz.prog (gam ([])) (lam ([])) 100 39 (loopAt 0 (bodyOf Tryz.prog 39)) (⟨37, [(0, .ptr 0 0), (1, .sc false (.int .i64 now)), (5, .sc false (.int .i64 nn)), (23, .sl false r2S z none), (24, .sc false (.int .i64 zn)), (25, .sc false (.int .i64 i))], []⟩) (⟨[(0, [.sc false (.int .i64 lo), .sc false (.int .i64 qu), .rsl false 1 1 n, .sl false inS fr none, .sc false (.int .i64 0), .sc false (.slice none 0 0), .sc false (.int .i64 0)]), (1, [.rw boS tk])], 2, [], 0, 1000, 1000⟩)) =
    RT.br (decide (i < zn))
      (RT.br (decide (0 ≤ i ∧ i < (↑(D.len z) : Int)))
        (RT.br (decide (D.toI (D.cell (D.get z (Int.toNat i)) 1) ≤ now))
          (RT.ok
            (Ex.normal,
              { nt := 37,
                tm :=
                  [(0, AV.ptr 0 0), (1, AV.sc false (Value.int IntKind.i64 now)),
                    (5, AV.sc false (Value.int IntKind.i64 (IntKind.wrap IntKind.i64 (nn + 1)))),
                    (23, AV.sl false [Sh.int IntKind.i64, Sh.int IntKind.i64] z none),
                    (24, AV.sc false (Value.int IntKind.i64 zn)),
                    (25, AV.sc false (Value.int IntKind.i64 (IntKind.wrap IntKind.i64 (i + 1))))],
                df := [] },
              {
                ob :=
                  [(0,
                      [AV.sc false (Value.int IntKind.i64 lo), AV.sc false (Value.int IntKind.i64 qu), AV.rsl false 1 1 n,
                        AV.sl false [Sh.int IntKind.i64] fr none, AV.sc false (Value.int IntKind.i64 0),
                        AV.sc false (Value.slice none 0 0), AV.sc false (Value.int IntKind.i64 0)]),
                    (1, [AV.rw [Sh.bool] tk])],
                nx := 2, gn := [], nv := 0, ng := 1000, ep := 1000 }))
          (RT.ok
            (Ex.normal,
              { nt := 37,
                tm :=
                  [(0, AV.ptr 0 0), (1, AV.sc false (Value.int IntKind.i64 now)),
                    (5, AV.sc false (Value.int IntKind.i64 nn)),
                    (23, AV.sl false [Sh.int IntKind.i64, Sh.int IntKind.i64] z none),
                    (24, AV.sc false (Value.int IntKind.i64 zn)),
                    (25, AV.sc false (Value.int IntKind.i64 (IntKind.wrap IntKind.i64 (i + 1))))],
                df := [] },
              {
                ob :=
                  [(0,
                      [AV.sc false (Value.int IntKind.i64 lo), AV.sc false (Value.int IntKind.i64 qu), AV.rsl false 1 1 n,
                        AV.sl false [Sh.int IntKind.i64] fr none, AV.sc false (Value.int IntKind.i64 0),
                        AV.sc false (Value.slice none 0 0), AV.sc false (Value.int IntKind.i64 0)]),
                    (1, [AV.rw [Sh.bool] tk])],
                nx := 2, gn := [], nv := 0, ng := 1000, ep := 1000 })))
        (RT.bad 42))
      (RT.ok
        (Ex.exit 0,
          { nt := 37,
            tm :=
              [(0, AV.ptr 0 0), (1, AV.sc false (Value.int IntKind.i64 now)), (5, AV.sc false (Value.int IntKind.i64 nn)),
                (23, AV.sl false [Sh.int IntKind.i64, Sh.int IntKind.i64] z none),
                (24, AV.sc false (Value.int IntKind.i64 zn)), (25, AV.sc false (Value.int IntKind.i64 i))],
            df := [] },
          {
            ob :=
              [(0,
                  [AV.sc false (Value.int IntKind.i64 lo), AV.sc false (Value.int IntKind.i64 qu), AV.rsl false 1 1 n,
                    AV.sl false [Sh.int IntKind.i64] fr none, AV.sc false (Value.int IntKind.i64 0),
                    AV.sc false (Value.slice none 0 0), AV.sc false (Value.int IntKind.i64 0)]),
                (1, [AV.rw [Sh.bool] tk])],
            nx := 2, gn := [], nv := 0, ng := 1000, ep := 1000 })) := by kernel_rfl
-- DEFS
def ifrT : ifrX × Nat → RT Out := foldT (fun _ => 0) (fun a => decide (a.zn = 0)) (fun a i => ifrF a i) (fun a i => ifrH a i)
def ifrLs (P : Program) : List (FuncId × Nat × BSpec) := [(39, 0, loopS P ifrL ifrDec ifrT)]
abbrev alH (lo qu : Int) (n : Nat) (fr d : D) (e : Nat) : Hp := ⟨[(0, [ik lo, ik qu, .rsl false 1 1 n, .sl false inS fr none, ik 0, .sc false (.slice none 0 0), ik 0]), (1, [.rw [.bool] d])], 2, [], 0, e, e⟩
def FIfr : Spec := fun args h => match args, h with
  | [.ptr 0 0, .sc false (.int .i64 now)], ⟨[(0, [.sc false (.int .i64 lo), .sc false (.int .i64 qu), .rsl false 1 1 n, .sl false [.int .i64] fr none, .sc false (.int .i64 0), .sc false (.slice none 0 0), .sc false (.int .i64 0)]), (1, [.rw [.bool] d])], 2, [], 0, 0, 0⟩ =>
    need false (decide (0 < n ∧ 0 ≤ now ∧ now ≤ 1099511627776)) 705 (.ok (ik (fr.len : Int), alH lo qu n fr d 1000))
  | _, _ => .bad 706
-- END
theorem ifrDec_0 : ∀ F h x, ifrDec F h = some x → ∃ a, x = (a, 0) ∧ F = ifrF a 0 ∧ h = ifrH a 0 := by
  intro F h x hx
  unfold ifrDec at hx
  split at hx
  · rename_i hd
    cases hx
    obtain ⟨h1, h2⟩ := cdS_ok hd
    exact ⟨_, rfl, h1, h2⟩
  · cases hx
theorem ifrDec_ok : ∀ F h x, ifrDec F h = some x → F = ifrF x.1 x.2 ∧ h = ifrH x.1 x.2 := by
  intro F h x hx
  obtain ⟨a, rfl, h1, h2⟩ := ifrDec_0 F h x hx
  exact ⟨h1, h2⟩
theorem ifr_loop : LamE Tryz.prog 39 0 (loopS Tryz.prog ifrL ifrDec ifrT) := by
  refine fold_loop (gs := []) (ls := []) mixed trivial trivial _ 0 100 (by kernel_rfl) ifrL (fun F h x hx => by
    obtain ⟨a, rfl, h1, h2⟩ := ifrDec_0 F h x hx
    exact ⟨h1, h2⟩) ?_
  rintro ⟨now, nn, z, zn, lo, qu, n, fr, tk⟩ i K hok hi' H1 H2
  dsimp only at hok hi' H1 H2
  obtain rfl : i = 0 := by omega
  have hz : zn = 0 := of_decide_eq_true hok
  show (roundT ifrL (evC _ _ _ _ _ _ (ifrF ⟨now, nn, z, zn, lo, qu, n, fr, tk⟩ 0) (ifrH ⟨now, nn, z, zn, lo, qu, n, fr, tk⟩ 0))).holds _
  unfold ifrL ifrF ifrH
  rw [ifr_body]
  refine ⟨fun h => ?_, fun _ => H2 rfl⟩
  have h : (0 : Int) < zn := of_decide_eq_true h
  omega
theorem ifrLs_ok : LamL Tryz.prog (ifrLs Tryz.prog) := ⟨ifr_loop, trivial⟩
theorem ifr_tree (lo qu now : Int) (n : Nat) (fr d : D) : treeO 2 (evF Tryz.prog (gam []) (lam (ifrLs Tryz.prog)) 100 39) [.ptr 0 0, ik now] (alH lo qu n fr d 0) =
    RT.br (!decide (0 < (↑n : Int)))
      (RT.ok
        (AV.sc true (Value.int IntKind.i64 0),
          {
            ob :=
              [(0,
                  [AV.sc false (Value.int IntKind.i64 lo), AV.sc false (Value.int IntKind.i64 qu), AV.rsl false 1 1 n,
                    AV.sl false [Sh.int IntKind.i64] fr none, AV.sc false (Value.int IntKind.i64 0),
                    AV.sc false (Value.slice none 0 0), AV.sc false (Value.int IntKind.i64 0)]),
                (1, [AV.rw [Sh.bool] d])],
            nx := 2, gn := [], nv := 0, ng := 1000, ep := 1000 }))
      (RT.br (decide (0 ≤ now))
        (RT.br (!decide (now ≤ 1099511627776))
          (RT.ok
            (AV.sc true (Value.int IntKind.i64 0),
              {
                ob :=
                  [(0,
                      [AV.sc false (Value.int IntKind.i64 lo), AV.sc false (Value.int IntKind.i64 qu), AV.rsl false 1 1 n,
                        AV.sl false [Sh.int IntKind.i64] fr none, AV.sc false (Value.int IntKind.i64 0),
                        AV.sc false (Value.slice none 0 0), AV.sc false (Value.int IntKind.i64 0)]),
                    (1, [AV.rw [Sh.bool] d])],
                nx := 2, gn := [], nv := 0, ng := 1000, ep := 1000 }))
          (RT.br true
            (RT.br true
              (RT.ok
                (AV.sc false (Value.int IntKind.i64 (IntKind.wrap IntKind.i64 ((↑(D.len fr) : Int) - 0))),
                  {
                    ob :=
                      [(0,
                          [AV.sc false (Value.int IntKind.i64 lo), AV.sc false (Value.int IntKind.i64 qu),
                            AV.rsl false 1 1 (Int.toNat (Int.ofNat n)), AV.sl false [Sh.int IntKind.i64] fr none,
                            AV.sc false (Value.int IntKind.i64 0), AV.sc false (Value.slice none 0 0),
                            AV.sc false (Value.int IntKind.i64 0)]),
                        (1, [AV.rw [Sh.bool] d])],
                    nx := 2, gn := [], nv := 0, ng := 1000, ep := 1000 }))
              (RT.bad 210))
            (RT.bad 37)))
        (RT.ok
          (AV.sc true (Value.int IntKind.i64 0),
            {
              ob :=
                [(0,
                    [AV.sc false (Value.int IntKind.i64 lo), AV.sc false (Value.int IntKind.i64 qu), AV.rsl false 1 1 n,
                      AV.sl false [Sh.int IntKind.i64] fr none, AV.sc false (Value.int IntKind.i64 0),
                      AV.sc false (Value.slice none 0 0), AV.sc false (Value.int IntKind.i64 0)]),
                  (1, [AV.rw [Sh.bool] d])],
              nx := 2, gn := [], nv := 0, ng := 1000, ep := 1000 }))) := by kernel_rfl
theorem ifr_soundF : SoundF Tryz.prog 39 (objR FIfr) := objR_ok (by
  refine obj_in mixed (gs := []) trivial ifrLs_ok _ 100 2 fun args h K H => ?_
  unfold FIfr at H
  split at H
  · rename_i now lo qu n fr d
    obtain ⟨hc, H⟩ := need_holds H
    obtain ⟨k1, k2, k3⟩ := of_decide_eq_true hc
    refine ⟨rfl, ?_⟩
    rw [show ([.ptr 0 0, .sc false (.int .i64 now)] : List AV) = [.ptr 0 0, ik now] from rfl, ifr_tree]
    refine ⟨fun h => ?_, fun _ => ⟨fun _ => ⟨fun h => ?_, fun _ => ⟨fun _ => ⟨fun _ => ?_, fun h => Bool.noConfusion h⟩, fun h => Bool.noConfusion h⟩⟩, fun h => absurd k2 (of_decide_eq_false h)⟩⟩
    · rw [decide_eq_true (show (0 : Int) < (n : Int) by omega)] at h
      cases h
    · rw [decide_eq_true k3] at h
      cases h
    · have hm := fr.len_le
      unfold maxLen at hm
      rw [wrap_i64 (n := (fr.len : Int) - 0) (by omega), Int.sub_zero]
      exact ⟨_, Le.refl _, H⟩
  · exact H.elim)
end
end Go.Proofs.YtomblhnchdokmaaGreatDoor
