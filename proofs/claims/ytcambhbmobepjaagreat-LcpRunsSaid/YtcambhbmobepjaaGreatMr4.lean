/- Mr, 4: texts of this claim, one behind the other: Kj2 Kj3 Kj4 Kj5 Kj6 Kj7 Kj8 Kj9 Kk1 Kk2 Kk3 Kk4 Kl1 Kl2 Kl3 EvT EvX Km1 Km2 Km3. No condition. -/
import Derived.Test.YtcambhbmobepjaaGreatMr3
namespace Go.Proofs.YtcambhbmobepjaaGreat
set_option linter.unusedSimpArgs false
set_option linter.unusedVariables false
open Go.RowKit
set_option maxRecDepth 100000
noncomputable section
def badB:BSpec:=fun _ _=>.bad 998
def rsL:List (FuncId×Nat×BSpec):=[(153,0,badB)]
theorem rsL_ok:LamL Tryz.prog rsL:=⟨fun _ _ _ _ _ _ _ _ H=>H.elim,trivial⟩
def rstp_treeT (st e:Int):RT AV :=
RT.br (e==1) (RT.br (decide (st<0)) (RT.ok (AV.tup [zk 0,zz,zk 140])) (RT.br (decide (9<st)) (RT.ok (AV.tup [zk 0,zz,zk 140])) (RT.br (decide (0≤st∧st<10)) (RT.br (ByteArray.toList (D.toS (D.cell (D.get (D.l [D.t [bif true then D.ks { data:=#[50] } else D.s { data:=#[50] }],D.t [bif true then D.ks { data:=#[105,114,99,32,115,99,114,47,54] } else D.s { data:=#[105,114,99,32,115,99,114,47,54] }],D.t [bif true then D.ks { data:=#[45] } else D.s { data:=#[45] }],D.t [bif true then D.ks { data:=#[45] } else D.s { data:=#[45] }],D.t [bif true then D.ks { data:=#[45] } else D.s { data:=#[45] }],D.t [bif true then D.ks { data:=#[45] } else D.s { data:=#[45] }],D.t [bif true then D.ks { data:=#[45] } else D.s { data:=#[45] }],D.t [bif true then D.ks { data:=#[45] } else D.s { data:=#[45] }],D.t [bif true then D.ks { data:=#[45] } else D.s { data:=#[45] }],D.t [bif true then D.ks { data:=#[45] } else D.s { data:=#[45] }]]) (Int.toNat st)) 0))==ByteArray.toList { data:=#[45] }) (RT.ok (AV.tup [zk 0,zz,zk 5])) (RT.bad 998)) (RT.bad 42)))) (RT.br (e==2) (RT.br (decide (st<0)) (RT.ok (AV.tup [zk 0,zz,zk 140])) (RT.br (decide (9<st)) (RT.ok (AV.tup [zk 0,zz,zk 140])) (RT.br (decide (0≤st∧st<10)) (RT.br (ByteArray.toList (D.toS (D.cell (D.get (D.l [D.t [bif true then D.ks { data:=#[45] } else D.s { data:=#[45] }],D.t [bif true then D.ks { data:=#[45] } else D.s { data:=#[45] }],D.t [bif true then D.ks { data:=#[48] } else D.s { data:=#[48] }],D.t [bif true then D.ks { data:=#[116,108,115,47,49] } else D.s { data:=#[116,108,115,47,49] }],D.t [bif true then D.ks { data:=#[48] } else D.s { data:=#[48] }],D.t [bif true then D.ks { data:=#[49] } else D.s { data:=#[49] }],D.t [bif true then D.ks { data:=#[49] } else D.s { data:=#[49] }],D.t [bif true then D.ks { data:=#[49] } else D.s { data:=#[49] }],D.t [bif true then D.ks { data:=#[49] } else D.s { data:=#[49] }],D.t [bif true then D.ks { data:=#[116,108,100,47,49] } else D.s { data:=#[116,108,100,47,49] }]]) (Int.toNat st)) 0))==ByteArray.toList { data:=#[45] }) (RT.ok (AV.tup [zk 0,zz,zk 5])) (RT.bad 998)) (RT.bad 42)))) (RT.br (e==3) (RT.br (decide (st<0)) (RT.ok (AV.tup [zk 0,zz,zk 140])) (RT.br (decide (9<st)) (RT.ok (AV.tup [zk 0,zz,zk 140])) (RT.br (decide (0≤st∧st<10)) (RT.br (ByteArray.toList (D.toS (D.cell (D.get (D.l [D.t [bif true then D.ks { data:=#[116,108,115,47,49] } else D.s { data:=#[116,108,115,47,49] }],D.t [bif true then D.ks { data:=#[49] } else D.s { data:=#[49] }],D.t [bif true then D.ks { data:=#[105,114,99,32,115,99,114,47,54] } else D.s { data:=#[105,114,99,32,115,99,114,47,54] }],D.t [bif true then D.ks { data:=#[51] } else D.s { data:=#[51] }],D.t [bif true then D.ks { data:=#[53] } else D.s { data:=#[53] }],D.t [bif true then D.ks { data:=#[53] } else D.s { data:=#[53] }],D.t [bif true then D.ks { data:=#[54] } else D.s { data:=#[54] }],D.t [bif true then D.ks { data:=#[55] } else D.s { data:=#[55] }],D.t [bif true then D.ks { data:=#[56] } else D.s { data:=#[56] }],D.t [bif true then D.ks { data:=#[57] } else D.s { data:=#[57] }]]) (Int.toNat st)) 0))==ByteArray.toList { data:=#[45] }) (RT.ok (AV.tup [zk 0,zz,zk 5])) (RT.bad 998)) (RT.bad 42)))) (RT.br (e==4) (RT.br (decide (st<0)) (RT.ok (AV.tup [zk 0,zz,zk 140])) (RT.br (decide (9<st)) (RT.ok (AV.tup [zk 0,zz,zk 140])) (RT.br (decide (0≤st∧st<10)) (RT.br (ByteArray.toList (D.toS (D.cell (D.get (D.l [D.t [bif true then D.ks { data:=#[48] } else D.s { data:=#[48] }],D.t [bif true then D.ks { data:=#[116,108,102,47,48] } else D.s { data:=#[116,108,102,47,48] }],D.t [bif true then D.ks { data:=#[50] } else D.s { data:=#[50] }],D.t [bif true then D.ks { data:=#[50] } else D.s { data:=#[50] }],D.t [bif true then D.ks { data:=#[52] } else D.s { data:=#[52] }],D.t [bif true then D.ks { data:=#[52] } else D.s { data:=#[52] }],D.t [bif true then D.ks { data:=#[105,114,99,32,115,116,114,47,52] } else D.s { data:=#[105,114,99,32,115,116,114,47,52] }],D.t [bif true then D.ks { data:=#[105,114,99,32,115,116,114,47,52] } else D.s { data:=#[105,114,99,32,115,116,114,47,52] }],D.t [bif true then D.ks { data:=#[105,114,99,32,115,116,114,47,52] } else D.s { data:=#[105,114,99,32,115,116,114,47,52] }],D.t [bif true then D.ks { data:=#[116,108,100,32,105,114,99,32,115,116,114,47,52] } else D.s { data:=#[116,108,100,32,105,114,99,32,115,116,114,47,52] }]]) (Int.toNat st)) 0))==ByteArray.toList { data:=#[45] }) (RT.ok (AV.tup [zk 0,zz,zk 5])) (RT.bad 998)) (RT.bad 42)))) (RT.br (e==5) (RT.br (decide (st<0)) (RT.ok (AV.tup [zk 0,zz,zk 140])) (RT.br (decide (9<st)) (RT.ok (AV.tup [zk 0,zz,zk 140])) (RT.br (decide (0≤st∧st<10)) (RT.br (ByteArray.toList (D.toS (D.cell (D.get (D.l [D.t [bif true then D.ks { data:=#[45] } else D.s { data:=#[45] }],D.t [bif true then D.ks { data:=#[45] } else D.s { data:=#[45] }],D.t [bif true then D.ks { data:=#[45] } else D.s { data:=#[45] }],D.t [bif true then D.ks { data:=#[45] } else D.s { data:=#[45] }],D.t [bif true then D.ks { data:=#[115,116,114,47,52] } else D.s { data:=#[115,116,114,47,52] }],D.t [bif true then D.ks { data:=#[115,116,114,47,53] } else D.s { data:=#[115,116,114,47,53] }],D.t [bif true then D.ks { data:=#[115,99,114,47,54] } else D.s { data:=#[115,99,114,47,54] }],D.t [bif true then D.ks { data:=#[115,99,114,47,54] } else D.s { data:=#[115,99,114,47,54] }],D.t [bif true then D.ks { data:=#[115,99,114,47,56] } else D.s { data:=#[115,99,114,47,56] }],D.t [bif true then D.ks { data:=#[45] } else D.s { data:=#[45] }]]) (Int.toNat st)) 0))==ByteArray.toList { data:=#[45] }) (RT.ok (AV.tup [zk 0,zz,zk 5])) (RT.bad 998)) (RT.bad 42)))) (RT.br (e==6) (RT.br (decide (st<0)) (RT.ok (AV.tup [zk 0,zz,zk 140])) (RT.br (decide (9<st)) (RT.ok (AV.tup [zk 0,zz,zk 140])) (RT.br (decide (0≤st∧st<10)) (RT.br (ByteArray.toList (D.toS (D.cell (D.get (D.l [D.t [bif true then D.ks { data:=#[45] } else D.s { data:=#[45] }],D.t [bif true then D.ks { data:=#[45] } else D.s { data:=#[45] }],D.t [bif true then D.ks { data:=#[45] } else D.s { data:=#[45] }],D.t [bif true then D.ks { data:=#[45] } else D.s { data:=#[45] }],D.t [bif true then D.ks { data:=#[116,108,102,47,50] } else D.s { data:=#[116,108,102,47,50] }],D.t [bif true then D.ks { data:=#[116,108,102,47,51] } else D.s { data:=#[116,108,102,47,51] }],D.t [bif true then D.ks { data:=#[116,108,102,47,51] } else D.s { data:=#[116,108,102,47,51] }],D.t [bif true then D.ks { data:=#[116,108,102,47,51] } else D.s { data:=#[116,108,102,47,51] }],D.t [bif true then D.ks { data:=#[116,108,102,47,51] } else D.s { data:=#[116,108,102,47,51] }],D.t [bif true then D.ks { data:=#[45] } else D.s { data:=#[45] }]]) (Int.toNat st)) 0))==ByteArray.toList { data:=#[45] }) (RT.ok (AV.tup [zk 0,zz,zk 5])) (RT.bad 998)) (RT.bad 42)))) (RT.br (e==7) (RT.br (decide (st<0)) (RT.ok (AV.tup [zk 0,zz,zk 140])) (RT.br (decide (9<st)) (RT.ok (AV.tup [zk 0,zz,zk 140])) (RT.br (decide (0≤st∧st<10)) (RT.br (ByteArray.toList (D.toS (D.cell (D.get (D.l [D.t [bif true then D.ks { data:=#[45] } else D.s { data:=#[45] }],D.t [bif true then D.ks { data:=#[45] } else D.s { data:=#[45] }],D.t [bif true then D.ks { data:=#[115,116,97,47,50] } else D.s { data:=#[115,116,97,47,50] }],D.t [bif true then D.ks { data:=#[105,114,99,32,115,99,114,32,115,99,97,47,56] } else D.s { data:=#[105,114,99,32,115,99,114,32,115,99,97,47,56] }],D.t [bif true then D.ks { data:=#[52] } else D.s { data:=#[52] }],D.t [bif true then D.ks { data:=#[53] } else D.s { data:=#[53] }],D.t [bif true then D.ks { data:=#[115,99,97,47,56] } else D.s { data:=#[115,99,97,47,56] }],D.t [bif true then D.ks { data:=#[115,99,97,32,116,108,117,47,57] } else D.s { data:=#[115,99,97,32,116,108,117,47,57] }],D.t [bif true then D.ks { data:=#[115,99,97,47,56] } else D.s { data:=#[115,99,97,47,56] }],D.t [bif true then D.ks { data:=#[116,108,100,32,115,99,114,32,115,99,97,47,56] } else D.s { data:=#[116,108,100,32,115,99,114,32,115,99,97,47,56] }]]) (Int.toNat st)) 0))==ByteArray.toList { data:=#[45] }) (RT.ok (AV.tup [zk 0,zz,zk 5])) (RT.bad 998)) (RT.bad 42)))) (RT.br (e==8) (RT.br (decide (st<0)) (RT.ok (AV.tup [zk 0,zz,zk 140])) (RT.br (decide (9<st)) (RT.ok (AV.tup [zk 0,zz,zk 140])) (RT.br (decide (0≤st∧st<10)) (RT.br (ByteArray.toList (D.toS (D.cell (D.get (D.l [D.t [bif true then D.ks { data:=#[45] } else D.s { data:=#[45] }],D.t [bif true then D.ks { data:=#[45] } else D.s { data:=#[45] }],D.t [bif true then D.ks { data:=#[115,116,97,47,50] } else D.s { data:=#[115,116,97,47,50] }],D.t [bif true then D.ks { data:=#[105,114,99,32,115,99,114,32,115,99,110,47,54] } else D.s { data:=#[105,114,99,32,115,99,114,32,115,99,110,47,54] }],D.t [bif true then D.ks { data:=#[52] } else D.s { data:=#[52] }],D.t [bif true then D.ks { data:=#[53] } else D.s { data:=#[53] }],D.t [bif true then D.ks { data:=#[115,99,110,47,54] } else D.s { data:=#[115,99,110,47,54] }],D.t [bif true then D.ks { data:=#[115,99,110,47,55] } else D.s { data:=#[115,99,110,47,55] }],D.t [bif true then D.ks { data:=#[115,99,110,47,54] } else D.s { data:=#[115,99,110,47,54] }],D.t [bif true then D.ks { data:=#[116,108,100,32,115,99,114,32,115,99,110,47,54] } else D.s { data:=#[116,108,100,32,115,99,114,32,115,99,110,47,54] }]]) (Int.toNat st)) 0))==ByteArray.toList { data:=#[45] }) (RT.ok (AV.tup [zk 0,zz,zk 5])) (RT.bad 998)) (RT.bad 42)))) (RT.br (e==9) (RT.br (decide (st<0)) (RT.ok (AV.tup [zk 0,zz,zk 140])) (RT.br (decide (9<st)) (RT.ok (AV.tup [zk 0,zz,zk 140])) (RT.br (decide (0≤st∧st<10)) (RT.br (ByteArray.toList (D.toS (D.cell (D.get (D.l [D.t [bif true then D.ks { data:=#[45] } else D.s { data:=#[45] }],D.t [bif true then D.ks { data:=#[45] } else D.s { data:=#[45] }],D.t [bif true then D.ks { data:=#[115,116,97,47,50] } else D.s { data:=#[115,116,97,47,50] }],D.t [bif true then D.ks { data:=#[115,116,97,47,51] } else D.s { data:=#[115,116,97,47,51] }],D.t [bif true then D.ks { data:=#[52] } else D.s { data:=#[52] }],D.t [bif true then D.ks { data:=#[53] } else D.s { data:=#[53] }],D.t [bif true then D.ks { data:=#[105,114,99,47,55] } else D.s { data:=#[105,114,99,47,55] }],D.t [bif true then D.ks { data:=#[115,99,114,47,54] } else D.s { data:=#[115,99,114,47,54] }],D.t [bif true then D.ks { data:=#[105,114,99,32,116,108,117,47,57] } else D.s { data:=#[105,114,99,32,116,108,117,47,57] }],D.t [bif true then D.ks { data:=#[116,108,100,32,115,99,114,47,54] } else D.s { data:=#[116,108,100,32,115,99,114,47,54] }]]) (Int.toNat st)) 0))==ByteArray.toList { data:=#[45] }) (RT.ok (AV.tup [zk 0,zz,zk 5])) (RT.bad 998)) (RT.bad 42)))) (RT.br (e==10) (RT.br (decide (st<0)) (RT.ok (AV.tup [zk 0,zz,zk 140])) (RT.br (decide (9<st)) (RT.ok (AV.tup [zk 0,zz,zk 140])) (RT.br (decide (0≤st∧st<10)) (RT.br (ByteArray.toList (D.toS (D.cell (D.get (D.l [D.t [bif true then D.ks { data:=#[45] } else D.s { data:=#[45] }],D.t [bif true then D.ks { data:=#[45] } else D.s { data:=#[45] }],D.t [bif true then D.ks { data:=#[115,116,97,47,50] } else D.s { data:=#[115,116,97,47,50] }],D.t [bif true then D.ks { data:=#[115,116,97,47,51] } else D.s { data:=#[115,116,97,47,51] }],D.t [bif true then D.ks { data:=#[52] } else D.s { data:=#[52] }],D.t [bif true then D.ks { data:=#[53] } else D.s { data:=#[53] }],D.t [bif true then D.ks { data:=#[105,114,99,32,115,99,114,47,54] } else D.s { data:=#[105,114,99,32,115,99,114,47,54] }],D.t [bif true then D.ks { data:=#[115,99,114,47,54] } else D.s { data:=#[115,99,114,47,54] }],D.t [bif true then D.ks { data:=#[105,114,99,32,115,99,114,47,56] } else D.s { data:=#[105,114,99,32,115,99,114,47,56] }],D.t [bif true then D.ks { data:=#[116,108,100,32,115,99,114,47,54] } else D.s { data:=#[116,108,100,32,115,99,114,47,54] }]]) (Int.toNat st)) 0))==ByteArray.toList { data:=#[45] }) (RT.ok (AV.tup [zk 0,zz,zk 5])) (RT.bad 998)) (RT.bad 42)))) (RT.br (e==11) (RT.br (decide (st<0)) (RT.ok (AV.tup [zk 0,zz,zk 140])) (RT.br (decide (9<st)) (RT.ok (AV.tup [zk 0,zz,zk 140])) (RT.br (decide (0≤st∧st<10)) (RT.br (ByteArray.toList (D.toS (D.cell (D.get (D.l [D.t [bif true then D.ks { data:=#[45] } else D.s { data:=#[45] }],D.t [bif true then D.ks { data:=#[45] } else D.s { data:=#[45] }],D.t [bif true then D.ks { data:=#[115,116,97,47,50] } else D.s { data:=#[115,116,97,47,50] }],D.t [bif true then D.ks { data:=#[115,116,97,47,51] } else D.s { data:=#[115,116,97,47,51] }],D.t [bif true then D.ks { data:=#[115,116,97,47,52] } else D.s { data:=#[115,116,97,47,52] }],D.t [bif true then D.ks { data:=#[115,116,97,47,53] } else D.s { data:=#[115,116,97,47,53] }],D.t [bif true then D.ks { data:=#[115,116,97,47,54] } else D.s { data:=#[115,116,97,47,54] }],D.t [bif true then D.ks { data:=#[115,116,97,47,54] } else D.s { data:=#[115,116,97,47,54] }],D.t [bif true then D.ks { data:=#[115,116,97,47,54] } else D.s { data:=#[115,116,97,47,54] }],D.t [bif true then D.ks { data:=#[116,108,100,32,122,114,99,32,115,116,97,47,53] } else D.s { data:=#[116,108,100,32,122,114,99,32,115,116,97,47,53] }]]) (Int.toNat st)) 0))==ByteArray.toList { data:=#[45] }) (RT.ok (AV.tup [zk 0,zz,zk 5])) (RT.bad 998)) (RT.bad 42)))) (RT.br (e==12) (RT.br (decide (st<0)) (RT.ok (AV.tup [zk 0,zz,zk 140])) (RT.br (decide (9<st)) (RT.ok (AV.tup [zk 0,zz,zk 140])) (RT.br (decide (0≤st∧st<10)) (RT.br (ByteArray.toList (D.toS (D.cell (D.get (D.l [D.t [bif true then D.ks { data:=#[45] } else D.s { data:=#[45] }],D.t [bif true then D.ks { data:=#[45] } else D.s { data:=#[45] }],D.t [bif true then D.ks { data:=#[50] } else D.s { data:=#[50] }],D.t [bif true then D.ks { data:=#[51] } else D.s { data:=#[51] }],D.t [bif true then D.ks { data:=#[116,108,102,47,50] } else D.s { data:=#[116,108,102,47,50] }],D.t [bif true then D.ks { data:=#[116,108,102,47,51] } else D.s { data:=#[116,108,102,47,51] }],D.t [bif true then D.ks { data:=#[54] } else D.s { data:=#[54] }],D.t [bif true then D.ks { data:=#[54] } else D.s { data:=#[54] }],D.t [bif true then D.ks { data:=#[56] } else D.s { data:=#[56] }],D.t [bif true then D.ks { data:=#[116,108,100,32,115,99,114,47,54] } else D.s { data:=#[116,108,100,32,115,99,114,47,54] }]]) (Int.toNat st)) 0))==ByteArray.toList { data:=#[45] }) (RT.ok (AV.tup [zk 0,zz,zk 5])) (RT.bad 998)) (RT.bad 42)))) (RT.br (e==13) (RT.br (decide (st<0)) (RT.ok (AV.tup [zk 0,zz,zk 140])) (RT.br (decide (9<st)) (RT.ok (AV.tup [zk 0,zz,zk 140])) (RT.br (decide (0≤st∧st<10)) (RT.br (ByteArray.toList (D.toS (D.cell (D.get (D.l [D.t [bif true then D.ks { data:=#[45] } else D.s { data:=#[45] }],D.t [bif true then D.ks { data:=#[45] } else D.s { data:=#[45] }],D.t [bif true then D.ks { data:=#[115,99,106,47,50] } else D.s { data:=#[115,99,106,47,50] }],D.t [bif true then D.ks { data:=#[115,99,106,47,51] } else D.s { data:=#[115,99,106,47,51] }],D.t [bif true then D.ks { data:=#[115,99,106,47,52] } else D.s { data:=#[115,99,106,47,52] }],D.t [bif true then D.ks { data:=#[115,99,106,47,53] } else D.s { data:=#[115,99,106,47,53] }],D.t [bif true then D.ks { data:=#[115,99,106,47,54] } else D.s { data:=#[115,99,106,47,54] }],D.t [bif true then D.ks { data:=#[115,99,106,47,55] } else D.s { data:=#[115,99,106,47,55] }],D.t [bif true then D.ks { data:=#[115,99,106,47,56] } else D.s { data:=#[115,99,106,47,56] }],D.t [bif true then D.ks { data:=#[115,99,106,47,57] } else D.s { data:=#[115,99,106,47,57] }]]) (Int.toNat st)) 0))==ByteArray.toList { data:=#[45] }) (RT.ok (AV.tup [zk 0,zz,zk 5])) (RT.bad 998)) (RT.bad 42)))) (RT.br (e==14) (RT.br (decide (st<0)) (RT.ok (AV.tup [zk 0,zz,zk 140])) (RT.br (decide (9<st)) (RT.ok (AV.tup [zk 0,zz,zk 140])) (RT.br (decide (0≤st∧st<10)) (RT.br (ByteArray.toList (D.toS (D.cell (D.get (D.l [D.t [bif true then D.ks { data:=#[45] } else D.s { data:=#[45] }],D.t [bif true then D.ks { data:=#[45] } else D.s { data:=#[45] }],D.t [bif true then D.ks { data:=#[50] } else D.s { data:=#[50] }],D.t [bif true then D.ks { data:=#[51] } else D.s { data:=#[51] }],D.t [bif true then D.ks { data:=#[52] } else D.s { data:=#[52] }],D.t [bif true then D.ks { data:=#[53] } else D.s { data:=#[53] }],D.t [bif true then D.ks { data:=#[54] } else D.s { data:=#[54] }],D.t [bif true then D.ks { data:=#[54] } else D.s { data:=#[54] }],D.t [bif true then D.ks { data:=#[56] } else D.s { data:=#[56] }],D.t [bif true then D.ks { data:=#[57] } else D.s { data:=#[57] }]]) (Int.toNat st)) 0))==ByteArray.toList { data:=#[45] }) (RT.ok (AV.tup [zk 0,zz,zk 5])) (RT.bad 998)) (RT.bad 42)))) (RT.br (e==15) (RT.br (decide (st<0)) (RT.ok (AV.tup [zk 0,zz,zk 140])) (RT.br (decide (9<st)) (RT.ok (AV.tup [zk 0,zz,zk 140])) (RT.br (decide (0≤st∧st<10)) (RT.br (ByteArray.toList (D.toS (D.cell (D.get (D.l [D.t [bif true then D.ks { data:=#[45] } else D.s { data:=#[45] }],D.t [bif true then D.ks { data:=#[45] } else D.s { data:=#[45] }],D.t [bif true then D.ks { data:=#[116,108,102,47,50] } else D.s { data:=#[116,108,102,47,50] }],D.t [bif true then D.ks { data:=#[116,108,102,47,51] } else D.s { data:=#[116,108,102,47,51] }],D.t [bif true then D.ks { data:=#[116,108,102,47,50] } else D.s { data:=#[116,108,102,47,50] }],D.t [bif true then D.ks { data:=#[116,108,102,47,51] } else D.s { data:=#[116,108,102,47,51] }],D.t [bif true then D.ks { data:=#[116,108,102,47,51] } else D.s { data:=#[116,108,102,47,51] }],D.t [bif true then D.ks { data:=#[116,108,102,47,51] } else D.s { data:=#[116,108,102,47,51] }],D.t [bif true then D.ks { data:=#[116,108,102,47,51] } else D.s { data:=#[116,108,102,47,51] }],D.t [bif true then D.ks { data:=#[116,108,100,32,105,114,99,32,115,116,114,47,53] } else D.s { data:=#[116,108,100,32,105,114,99,32,115,116,114,47,53] }]]) (Int.toNat st)) 0))==ByteArray.toList { data:=#[45] }) (RT.ok (AV.tup [zk 0,zz,zk 5])) (RT.bad 998)) (RT.bad 42)))) (RT.br (e==16) (RT.br (decide (st<0)) (RT.ok (AV.tup [zk 0,zz,zk 140])) (RT.br (decide (9<st)) (RT.ok (AV.tup [zk 0,zz,zk 140])) (RT.br (decide (0≤st∧st<10)) (RT.br (ByteArray.toList (D.toS (D.cell (D.get (D.l [D.t [bif true then D.ks { data:=#[45] } else D.s { data:=#[45] }],D.t [bif true then D.ks { data:=#[45] } else D.s { data:=#[45] }],D.t [bif true then D.ks { data:=#[50] } else D.s { data:=#[50] }],D.t [bif true then D.ks { data:=#[51] } else D.s { data:=#[51] }],D.t [bif true then D.ks { data:=#[52] } else D.s { data:=#[52] }],D.t [bif true then D.ks { data:=#[53] } else D.s { data:=#[53] }],D.t [bif true then D.ks { data:=#[54] } else D.s { data:=#[54] }],D.t [bif true then D.ks { data:=#[55] } else D.s { data:=#[55] }],D.t [bif true then D.ks { data:=#[56] } else D.s { data:=#[56] }],D.t [bif true then D.ks { data:=#[115,101,114,47,57] } else D.s { data:=#[115,101,114,47,57] }]]) (Int.toNat st)) 0))==ByteArray.toList { data:=#[45] }) (RT.ok (AV.tup [zk 0,zz,zk 5])) (RT.bad 998)) (RT.bad 42)))) (RT.br (decide (st<0)) (RT.ok (AV.tup [zk 0,zz,zk 140])) (RT.br (decide (9<st)) (RT.ok (AV.tup [zk 0,zz,zk 140])) (RT.ok (AV.tup [zk 0,zz,zk 140])))))))))))))))))))
theorem rstp_tree (st e:Int):treeF (evF Tryz.prog (gam ([])) (lam (rsL)) 100 153) [ai st,ai e]=rstp_treeT st e:=by rw [← fvF_eq Tryz.prog (gam ([])) (lam (rsL)) false 100 153]; kernel_rfl
theorem rstp_all:((List.range 10).all fun i=>(List.range 16).all fun j=>chkA (treeF (fvF Tryz.prog (gam ([])) (lam ([])) true 100 153) [ai (i:Int),ai ((j+1:Nat):Int)]) (stepR (i:Int) ((j+1:Nat):Int)))=true:=by kernel_rfl
theorem rout_st {st:Int} {v:AV} {T:RT AV} {K:AV→Prop} (h:¬(0≤st∧st≤9)) (hv:K v):(RT.br (decide (st<0)) (RT.ok v) (RT.br (decide ((9:Int)<st)) (RT.ok v) T)).holds K:=by
  refine ⟨fun _=>hv,fun h1=>⟨fun _=>hv,fun h2=>absurd ?_ h⟩⟩
  have:=odf h1
  have:=odf h2
  omega
theorem rstp_pair (i j:Nat) (hi:i<10) (hj:j<16):(treeF (evF Tryz.prog (gam ([])) (lam ([])) 100 153) [ai (i:Int),ai ((j+1:Nat):Int)]).holds fun a=>Le a (stepR i ((j+1:Nat):Int)):=by
  have h:=List.all_eq_true.1 (List.all_eq_true.1 rstp_all i (List.mem_range.2 hi)) j (List.mem_range.2 hj)
  rw [fvF_eq] at h
  exact chkA_ok h
theorem step_off {st e:Int} (h:¬((0≤st∧st≤9)∧1≤e∧e≤16)):Le (AV.tup [AV.sc true (Value.int IntKind.i64 0),AV.sc true (Value.slice none 0 0),AV.sc true (Value.int IntKind.i64 140)]) (stepR st e):=by
  have hb:rfcB st e=false:=def_ h
  have hX:rfcX st e=none:=by unfold rfcX; rw [hb]; rfl
  have hE:rfcE st e=140:=by unfold rfcE; rw [hb]; rfl
  have hN:rfcN st e=0:=by unfold rfcN; rw [hX]
  have hD:rfcD st e=.l []:=by unfold rfcD; rw [hX]
  unfold stepR; rw [hE,hN,hD]
  exact eqA_le _ _ (by rfl)
theorem rstp_off {st e:Int} (h:¬((0≤st∧st≤9)∧1≤e∧e≤16)):(rstp_treeT st e).holds fun a=>Le a (stepR st e):=by
  have hv:=step_off h
  unfold rstp_treeT
  by_cases hs:0≤st∧st≤9
  · have he:¬(1≤e∧e≤16):=fun h'=>h ⟨hs,h'⟩
    refine ⟨off_e 1 (by decide) (by decide) he,fun _=>?_⟩
    refine ⟨off_e 2 (by decide) (by decide) he,fun _=>?_⟩
    refine ⟨off_e 3 (by decide) (by decide) he,fun _=>?_⟩
    refine ⟨off_e 4 (by decide) (by decide) he,fun _=>?_⟩
    refine ⟨off_e 5 (by decide) (by decide) he,fun _=>?_⟩
    refine ⟨off_e 6 (by decide) (by decide) he,fun _=>?_⟩
    refine ⟨off_e 7 (by decide) (by decide) he,fun _=>?_⟩
    refine ⟨off_e 8 (by decide) (by decide) he,fun _=>?_⟩
    refine ⟨off_e 9 (by decide) (by decide) he,fun _=>?_⟩
    refine ⟨off_e 10 (by decide) (by decide) he,fun _=>?_⟩
    refine ⟨off_e 11 (by decide) (by decide) he,fun _=>?_⟩
    refine ⟨off_e 12 (by decide) (by decide) he,fun _=>?_⟩
    refine ⟨off_e 13 (by decide) (by decide) he,fun _=>?_⟩
    refine ⟨off_e 14 (by decide) (by decide) he,fun _=>?_⟩
    refine ⟨off_e 15 (by decide) (by decide) he,fun _=>?_⟩
    refine ⟨off_e 16 (by decide) (by decide) he,fun _=>?_⟩
    exact ⟨fun _=>hv,fun _=>⟨fun _=>hv,fun _=>hv⟩⟩
  · refine ⟨fun _=>rout_st hs hv,fun _=>?_⟩
    refine ⟨fun _=>rout_st hs hv,fun _=>?_⟩
    refine ⟨fun _=>rout_st hs hv,fun _=>?_⟩
    refine ⟨fun _=>rout_st hs hv,fun _=>?_⟩
    refine ⟨fun _=>rout_st hs hv,fun _=>?_⟩
    refine ⟨fun _=>rout_st hs hv,fun _=>?_⟩
    refine ⟨fun _=>rout_st hs hv,fun _=>?_⟩
    refine ⟨fun _=>rout_st hs hv,fun _=>?_⟩
    refine ⟨fun _=>rout_st hs hv,fun _=>?_⟩
    refine ⟨fun _=>rout_st hs hv,fun _=>?_⟩
    refine ⟨fun _=>rout_st hs hv,fun _=>?_⟩
    refine ⟨fun _=>rout_st hs hv,fun _=>?_⟩
    refine ⟨fun _=>rout_st hs hv,fun _=>?_⟩
    refine ⟨fun _=>rout_st hs hv,fun _=>?_⟩
    refine ⟨fun _=>rout_st hs hv,fun _=>?_⟩
    refine ⟨fun _=>rout_st hs hv,fun _=>?_⟩
    exact ⟨fun _=>hv,fun _=>⟨fun _=>hv,fun _=>hv⟩⟩
def inT:List AV→Bool
  | [.sc false (.int .i64 st),.sc false (.int .i64 e)]=>rfcB st e
  | _=>false
theorem tree_alt {c:List AV→Bool} {s1 s2:Spec} (args:List AV):treeF (altS c s1 s2) args=bif c args then treeF s1 args else treeF s2 args:=by
  unfold treeF altS
  cases c args <;> rfl
theorem rstep_soundF:SoundF Tryz.prog 153 (pureS Tryz.prog 153 FStep):=by
  refine pureS_tree (alt_ok (c:=inT) (evF_ok mixed (gam_ok (l:=[]) trivial) (lam_ok (l:=[]) trivial) 100 153) (evF_ok mixed (gam_ok (l:=[]) trivial) (lam_ok rsL_ok) 100 153)) fun args K ho H=>?_
  unfold FStep at H
  split at H
  · rename_i st e
    by_cases h:(0≤st∧st≤9)∧1≤e∧e≤16
    · have hc:inT [ai st,ai e]=true:=det h
      rw [tree_alt,hc,cond_true]
      obtain ⟨i,hi⟩:∃ i:Nat,st=i:=⟨st.toNat,by omega⟩
      obtain ⟨j,hj⟩:∃ j:Nat,e=((j+1:Nat):Int):=⟨e.toNat - 1,by omega⟩
      subst hi; subst hj
      exact RT.holds_mono (fun a h=>⟨_,h,H⟩) _ (rstp_pair i j (by omega) (by omega))
    · have hc:inT [ai st,ai e]=false:=def_ h
      rw [tree_alt,hc,cond_false,rstp_tree]
      exact RT.holds_mono (fun a h=>⟨_,h,H⟩) _ (rstp_off h)
  · exact H.elim
def searchT {α:Type} (n:α→Nat) (p:α→Nat→Bool) (okk:α→Bool) (mkF:α→Nat→Tm) (mkR:α→Nat→Tm) (mkH:α→Hp) (w:Ex) (x:α×Nat):RT Out :=
  need false (okk x.1&&decide (x.2≤n x.1)) 210 (.br (okFrom (p x.1) (n x.1 - x.2) x.2) (.ok (.normal,mkF x.1 (n x.1),mkH x.1)) (.ok (w,mkR x.1 (badFrom (p x.1) (n x.1 - x.2) x.2),mkH x.1)))
abbrev acS:List Sh:=[.int .i64]
def neA (d:D) (x:Int) (i:Nat):Bool:=((d.get i).cell 0).toI != x
def hasA (d:D) (x:Int):Bool:=!okFrom (neA d x) d.len 0
def rhsL:Lw:=⟨[0,1,4,5],[],0,0,1000,1000⟩
def rhsF (a:D×Int) (i:Nat):Tm:=⟨18,[(0,asl acS a.1),(1,ai a.2),(4,ab false),(5,ai i)],[]⟩
def rhsR (a:D×Int) (i:Nat):Tm:=⟨18,[(0,asl acS a.1),(1,ai a.2),(4,ab true),(5,ai i)],[]⟩
def idxL:Lw:=⟨[0,1,4,7,8],[],0,0,1000,1000⟩
def idxF (a:D×Int×Int) (i:Nat):Tm:=⟨19,[(0,asl acS a.1),(1,ai a.2.1),(4,ai 0),(7,ai a.2.2),(8,ai i)],[]⟩
def idxR (a:D×Int×Int) (i:Nat):Tm:=⟨19,[(0,asl acS a.1),(1,ai a.2.1),(4,ai i),(7,ai a.2.2),(8,ai i)],[]⟩
theorem rhs_body (d:D) (x i:Int):roundT (⟨[0,1,4,5],[],0,0,1000,1000⟩) (evC Tryz.prog (gam ([])) (lam ([])) 100 190 (loopAt 0 (bodyOf Tryz.prog 190)) (⟨18,[(0,asl acS d),(1,ai x),(4,ab false),(5,ai i)],[]⟩) (⟨[],0,[],0,1000,1000⟩)) =
RT.br (decide (i<(↑(D.len d):Int))) (RT.br (decide (0≤i∧i<(↑(D.len d):Int))) (RT.br (D.toI (D.cell (D.get d (Int.toNat i)) 0)==x) (RT.ok (Ex.ret,(Tm.mk 18 [(0,zs zN d),(1,zi x),(4,zb true),(5,zi i)] []),(Hp.mk [] 0 [] 0 1000 1000))) (RT.ok (Ex.normal,(Tm.mk 18 [(0,zs zN d),(1,zi x),(4,zb false),(5,zi (IntKind.wrap IntKind.i64 (i+1)))] []),(Hp.mk [] 0 [] 0 1000 1000)))) (RT.bad 42)) (RT.ok (Ex.exit 0,(Tm.mk 18 [(0,zs zN d),(1,zi x),(4,zb false),(5,zi i)] []),(Hp.mk [] 0 [] 0 1000 1000))):=by rw [← fvC_eq Tryz.prog (gam ([])) (lam ([])) false 100]; kernel_rfl
theorem idx_body (d:D) (x n i:Int):roundT (⟨[0,1,4,7,8],[],0,0,1000,1000⟩) (evC Tryz.prog (gam ([])) (lam ([])) 100 221 (loopAt 0 (bodyOf Tryz.prog 221)) (⟨19,[(0,asl acS d),(1,ai x),(4,ai 0),(7,ai n),(8,ai i)],[]⟩) (⟨[],0,[],0,1000,1000⟩)) =
RT.br (decide (i<n)) (RT.br (decide (0≤i∧i<(↑(D.len d):Int))) (RT.br (x==D.toI (D.cell (D.get d (Int.toNat i)) 0)) (RT.ok (Ex.ret,(Tm.mk 19 [(0,zs zN d),(1,zi x),(4,zi i),(7,zi n),(8,zi i)] []),(Hp.mk [] 0 [] 0 1000 1000))) (RT.ok (Ex.normal,(Tm.mk 19 [(0,zs zN d),(1,zi x),(4,zi 0),(7,zi n),(8,zi (IntKind.wrap IntKind.i64 (i+1)))] []),(Hp.mk [] 0 [] 0 1000 1000)))) (RT.bad 42)) (RT.ok (Ex.exit 0,(Tm.mk 19 [(0,zs zN d),(1,zi x),(4,zi 0),(7,zi n),(8,zi i)] []),(Hp.mk [] 0 [] 0 1000 1000))):=by rw [← fvC_eq Tryz.prog (gam ([])) (lam ([])) false 100]; kernel_rfl
theorem search_loop {P:Program} {gs:List (FuncId×Spec)} {ls:List (FuncId×Nat×BSpec)} {α:Type} (hm:Fit P) (hΓ:GamL P gs) (hΛ:LamL P ls) (f id n:Nat) (hl:isLoop id (bodyOf P f)=true) (L:Lw)
    {len:α→Nat} {p:α→Nat→Bool} {okk:α→Bool} {mkF mkR:α→Nat→Tm} {mkH:α→Hp} {w:Ex} {dec:Tm→Hp→Option (α×Nat)}
    (hw:w≠.normal) (hwi:w≠.exit id) (hdec:∀ F h x,dec F h=some x→F=mkF x.1 x.2∧h=mkH x.1)
    (hround:∀ a i (K:Out→Prop),okk a=true→i≤len a→(i<len a→p a i=true→K (.normal,mkF a (i+1),mkH a))→(i<len a→p a i=false→K (w,mkR a i,mkH a))→(i=len a→K (.exit id,mkF a (len a),mkH a)) →
      (roundT L (evC P (gam gs) (lam ls) n f (loopAt id (bodyOf P f)) (mkF a i) (mkH a))).holds K) :
    LamE P f id (loopS P L dec (searchT len p okk mkF mkR mkH w)):=by
  refine loop_in2 hm hΓ hΛ f id n hl L (mkF:=fun x=>mkF x.1 x.2) (mkH:=fun x=>mkH x.1) (fun x=>len x.1 - x.2) hdec ?_
  rintro ⟨a,i⟩ K H
  obtain ⟨hc,H⟩:=need_holds H
  simp only [Bool.and_eq_true,decide_eq_true_eq] at hc
  obtain ⟨hok,hi⟩:=hc
  refine hround a i _ hok hi ?_ ?_ ?_
  · intro hlt hp
    refine ⟨(a,i+1),⟨rfl,rfl⟩,by show len a - (i+1)<len a - i; omega,?_⟩
    unfold searchT
    refine ⟨fun _=>?_,fun hf=>?_⟩
    · have e:len a - i=(len a - (i+1))+1:=by omega
      have e1:okFrom (p a) (len a - i) i=okFrom (p a) (len a - (i+1)) (i+1):=by rw [e]; simp only [okFrom,hp,Bool.true_and]
      have e2:badFrom (p a) (len a - i) i=badFrom (p a) (len a - (i+1)) (i+1):=by rw [e,badFrom_cons hp]
      dsimp only at H
      rw [e1,e2] at H
      exact H
    · simp only [hok,Bool.true_and,decide_eq_false_iff_not] at hf
      exact absurd (show i+1≤len a by omega) hf
  · intro hlt hp
    have h:=H.2 (okFrom_false (Nat.le_refl _) (show i<i+(len a - i) by omega) hp)
    dsimp only at h
    rw [show len a - i=(len a - i - 1)+1 by omega,badFrom_here hp] at h
    unfold Round
    cases w with
    | normal=>exact absurd rfl hw
    | exit j =>
      show if j=id then _ else _
      rw [if_neg (fun e:j=id=>hwi (by rw [e]))]
      exact h
    | ret=>exact h
  · intro he
    have h:=H.1 (by subst he; dsimp only; rw [Nat.sub_self]; rfl)
    unfold Round
    simp only [if_pos rfl]
    exact h
def rhsDec (F:Tm) (h:Hp):Option ((D×Int)×Nat):=match F,h with
  | ⟨18,[(0,.sl false [.int .i64] d none),(1,.sc false (.int .i64 x)),(4,.sc false (.bool false)),(5,.sc false (.int .i64 0))],[]⟩,⟨[],0,[],0,1000,1000⟩=>some ((d,x),0)
  | _,_=>none
def rhsT:(D×Int)×Nat→RT Out:=searchT (fun a=>a.1.len) (fun a=>neA a.1 a.2) (fun _=>true) rhsF rhsR (fun _=>ren1H) .ret
def rhsLs (P:Program):List (FuncId×Nat×BSpec):=[(190,0,loopS P rhsL rhsDec rhsT)]
theorem rhs_loop:LamE Tryz.prog 190 0 (loopS Tryz.prog rhsL rhsDec rhsT):=by
  refine search_loop (gs:=[]) (ls:=[]) mixed trivial trivial _ 0 100 (by kernel_rfl) rhsL (by intro h; cases h) (by intro h; cases h) ?_ ?_
  · intro F h x hx
    unfold rhsDec at hx
    split at hx
    · cases hx; exact ⟨rfl,rfl⟩
    · cases hx
  · rintro ⟨d,x⟩ i K _ hi H1 H2 H3
    dsimp only at hi H1 H2 H3
    have hm:=d.len_le
    show (roundT rhsL (evC _ _ _ _ _ _ (rhsF (d,x) i) ren1H)).holds _
    unfold rhsL rhsF ren1H
    rw [rhs_body]
    simp only [Int.toNat_natCast]
    refine ⟨fun h1=>⟨fun h2=>⟨fun h3=>?_,fun h3=>?_⟩,fun h2=>?_⟩,fun h1=>?_⟩
    all_goals simp only [decide_eq_true_eq,decide_eq_false_iff_not] at *
    · refine H2 (by omega) ?_
      unfold neA; rw [bne_eq_false_iff_eq]; exact eq_of_beq h3
    · rw [wrap_succ (by omega) hm]
      refine H1 (by omega) ?_
      unfold neA; rw [bne,h3]; rfl
    · omega
    · obtain rfl:i=d.len:=by omega
      exact H3 rfl
def idxDec (F:Tm) (h:Hp):Option ((D×Int×Int)×Nat):=match F,h with
  | ⟨19,[(0,.sl false [.int .i64] d none),(1,.sc false (.int .i64 x)),(4,.sc false (.int .i64 0)),(7,.sc false (.int .i64 n)),(8,.sc false (.int .i64 0))],[]⟩,⟨[],0,[],0,1000,1000⟩=>some ((d,x,n),0)
  | _,_=>none
def idxT:(D×Int×Int)×Nat→RT Out:=searchT (fun a=>a.1.len) (fun a=>neA a.1 a.2.1) (fun a=>decide (a.2.2=(a.1.len:Int))) idxF idxR (fun _=>ren1H) .ret
def idxLs (P:Program):List (FuncId×Nat×BSpec):=[(221,0,loopS P idxL idxDec idxT)]
theorem idx_loop:LamE Tryz.prog 221 0 (loopS Tryz.prog idxL idxDec idxT):=by
  refine search_loop (gs:=[]) (ls:=[]) mixed trivial trivial _ 0 100 (by kernel_rfl) idxL (by intro h; cases h) (by intro h; cases h) ?_ ?_
  · intro F h x hx
    unfold idxDec at hx
    split at hx
    · cases hx; exact ⟨rfl,rfl⟩
    · cases hx
  · rintro ⟨d,x,n⟩ i K hn hi H1 H2 H3
    obtain rfl:n=(d.len:Int):=odt hn
    dsimp only at hi H1 H2 H3
    have hm:=d.len_le
    show (roundT idxL (evC _ _ _ _ _ _ (idxF (d,x,d.len) i) ren1H)).holds _
    unfold idxL idxF ren1H
    rw [idx_body]
    simp only [Int.toNat_natCast]
    refine ⟨fun h1=>⟨fun h2=>⟨fun h3=>?_,fun h3=>?_⟩,fun h2=>?_⟩,fun h1=>?_⟩
    all_goals simp only [decide_eq_true_eq,decide_eq_false_iff_not] at *
    · refine H2 (by omega) ?_
      unfold neA; rw [bne_eq_false_iff_eq]; exact (eq_of_beq h3).symm
    · rw [wrap_succ (by omega) hm]
      refine H1 (by omega) ?_
      unfold neA; rw [bne_iff_ne]; exact fun e=>absurd h3 (by rw [e]; simp)
    · omega
    · obtain rfl:i=d.len:=by omega
      exact H3 rfl
def FHas:List AV→RT AV
  | [.sl false [.int .i64] d none,.sc false (.int .i64 x)]=>.ok (ab (hasA d x))
  | _=>.bad 271
theorem rhsLs_ok:LamL Tryz.prog (rhsLs Tryz.prog):=⟨rhs_loop,trivial⟩
theorem idxLs_ok:LamL Tryz.prog (idxLs Tryz.prog):=⟨idx_loop,trivial⟩
theorem rhs_tree (d:D) (x:Int):treeF (evF Tryz.prog (gam ([])) (lam (rhsLs Tryz.prog)) 100 190) [asl acS d,ai x] =
RT.br true (RT.br (okFrom ((fun a=>neA (Prod.fst a) (Prod.snd a)) (d,x)) (D.len d - 0) 0) (RT.ok (AV.sc true (Value.bool false))) (RT.ok (zb true))) (RT.bad 210):=by rw [← fvF_eq Tryz.prog (gam ([])) (lam (rhsLs Tryz.prog)) false 100 190]; kernel_rfl
theorem con_tree (d:D) (x:Int):treeF (evF Tryz.prog (gam ([])) (lam (idxLs Tryz.prog)) 100 206) [asl acS d,ai x] =
RT.br (decide ((↑(D.len d):Int)=(↑(D.len d):Int))&&true) (RT.br (okFrom ((fun a=>neA (Prod.fst a) (Prod.fst (Prod.snd a))) (d,x,(↑(D.len d):Int))) (D.len d - 0) 0) (RT.ok (AV.sc true (Value.bool false))) (RT.ok (zb true))) (RT.bad 210):=by rw [← fvF_eq Tryz.prog (gam ([])) (lam (idxLs Tryz.prog)) false 100 206]; kernel_rfl
theorem rhas_soundF:SoundF Tryz.prog 190 (pureS Tryz.prog 190 FHas):=by
  refine pure_in (gs:=[]) (ls:=rhsLs Tryz.prog) mixed trivial rhsLs_ok 190 100 fun args K ho H=>?_
  unfold FHas at H
  split at H
  · rename_i d x
    rw [rhs_tree]
    refine ⟨fun _=>⟨fun h=>⟨_,le_bool ?_,H⟩,fun h=>⟨_,le_bool ?_,H⟩⟩,fun h=>by cases h⟩
    · unfold hasA; rw [show okFrom (neA d x) d.len 0=true from h]; rfl
    · unfold hasA; rw [show okFrom (neA d x) d.len 0=false from h]; rfl
  · exact H.elim
theorem con_soundF:SoundF Tryz.prog 206 (pureS Tryz.prog 206 FHas):=by
  refine pure_in (gs:=[]) (ls:=idxLs Tryz.prog) mixed trivial idxLs_ok 206 100 fun args K ho H=>?_
  unfold FHas at H
  split at H
  · rename_i d x
    rw [con_tree]
    refine ⟨fun _=>⟨fun h=>⟨_,le_bool ?_,H⟩,fun h=>⟨_,le_bool ?_,H⟩⟩,fun h=>by simp at h⟩
    · unfold hasA; rw [show okFrom (neA d x) d.len 0=true from h]; rfl
    · unfold hasA; rw [show okFrom (neA d x) d.len 0=false from h]; rfl
  · exact H.elim
abbrev ctS:List Sh:=[.int .i64,.int .i64,.sl [.int .u8]]
def strL:List (FuncId×Nat×BSpec):=[(181,2000,badB)]
def doG (P:Program):List (FuncId×Spec):=(206,pureS P 206 FHas) :: (210,pureS P 210 FRej7) :: (98,pureS P 98 FCloneB) :: encG P
structure DoX where
  r0:D
  (mc0 mt0 mf0 wt0 st0 id0 rq0:Int)
  d0:D
  (ct0 tm0 nk0 ic0 ii0:Int)
  ix0:D
  (ac0 ax0:Int)
  ad0:D
  s0:Int
  did0:D
structure DoC where
  r:D
  (mc mt mf wt s:Int)
  d:D
  (ic ii:Int)
  ix:D
  (ac ax:Int)
  ad:D
  tk:Int
  (didr did:D)
structure DoV where
  (id rq ct tm nk:Int)
  out:D
def doL:Lw:=⟨[12,13,14,15,16,18,19,56,57,58],[(true,5,20, 32)],6,1,1000,1000⟩
def doF (x:DoX) (c:DoC) (n i:Int):Tm:=⟨82,[(12,.ptr 4 0),(13,.sc false (.slice none 0 0)),(14,.sc false (.slice none 0 0)),(15,zi x.s0),(16,.sl false [.int .i64] x.did0 none),(18,.ptr 5 0),(19,.fn (.func 129) [.ptr 5 0] []),(56,.sl false [.int .i64] c.did none),(57,ai n),(58,ai i)],[]⟩
def doH (x:DoX) (c:DoC) (v:DoV):Hp:=⟨[(0,[.sl false [.int .i64,.int .i64,.int .i64,.int .i64,.int .i64,.int .i64,.bool] x.r0 none,zi x.mc0,zi x.mt0,zi x.mf0,zi x.wt0]),(1,[zi x.st0,zi x.id0,zi x.rq0,.sl false [.int .i64,.sl [.int .u8]] x.d0 none,zi x.ct0,zi x.tm0,zi x.nk0]),(2,[zi x.ic0,zi x.ii0,.sl false [.int .u8] x.ix0 none]),(3,[zi x.ac0,zi x.ax0,.sl false [.int .u8] x.ad0 none]),(4,[zi 0,zi 0,zi 0,.sc false (.slice none 0 0),zi 0,zi 0,zi 0]),(5,[.sl false [.int .i64,.int .i64,.int .i64,.int .i64,.int .i64,.int .i64,.bool] c.r none,zi c.mc,zi c.mt,zi c.mf,zi c.wt,zi c.s,zi v.id,zi v.rq,.sl false [.int .i64,.sl [.int .u8]] c.d none,zi v.ct,zi v.tm,zi v.nk,zi c.ic,zi c.ii,.sl false [.int .u8] c.ix none,zi c.ac,zi c.ax,.sl false [.int .u8] c.ad none,zi c.tk,.sl false [.int .i64] c.didr none,.sl false [.int .i64,.int .i64,.sl [.int .u8]] v.out (some (0,1000))])],6,[(0,1000, 32)],1,1001,1000⟩
def nDec:AV→Option Int
  | .sc false (.int .i64 x)=>some x
  | _=>none
def aDec:AV→Option D
  | .sl false [.int .i64] d none=>some d
  | _=>none
def oDec:AV→Option Unit
  | .sl false [.int .i64,.int .i64,.sl [.int .u8]] (.l []) (some (0,1000))=>some ()
  | _=>none
def cfDec:List AV→Option (D×Int×Int×Int×Int)
  | [.sl false [.int .i64,.int .i64,.int .i64,.int .i64,.int .i64,.int .i64,.bool] r none,.sc false (.int .i64 a),.sc false (.int .i64 b),.sc false (.int .i64 c),.sc false (.int .i64 d)]=>some (r,a,b,c,d)
  | _=>none
def auDec:List AV→Option (Int×Int×Int×D×Int×Int×Int)
  | [.sc false (.int .i64 st),.sc false (.int .i64 id),.sc false (.int .i64 rq),.sl false [.int .i64,.sl [.int .u8]] d none,.sc false (.int .i64 ct),.sc false (.int .i64 tm),.sc false (.int .i64 nk)]=>some (st,id,rq,d,ct,tm,nk)
  | _=>none
def ctDec:List AV→Option (Int×Int×D)
  | [.sc false (.int .i64 c),.sc false (.int .i64 i),.sl false [.int .u8] x none]=>some (c,i,x)
  | _=>none
def zDec:List AV→Option Unit
  | [.sc false (.int .i64 0),.sc false (.int .i64 0),.sc false (.int .i64 0),.sc false (.slice none 0 0),.sc false (.int .i64 0),.sc false (.int .i64 0),.sc false (.int .i64 0)]=>some ()
  | _=>none
def tmDec:Tm→Option (Int×D×D×Int)
  | ⟨82,[(12,.ptr 4 0),(13,.sc false (.slice none 0 0)),(14,.sc false (.slice none 0 0)),(15,c15),(16,c16),(18,.ptr 5 0),(19,.fn (.func 129) [.ptr 5 0] []),(56,c56),(57,c57),(58,.sc false (.int .i64 0))],[]⟩ =>
    (nDec c15).bind fun s0=>(aDec c16).bind fun did0=>(aDec c56).bind fun did=>(nDec c57).bind fun n=>some (s0,did0,did,n)
  | _=>none
def ruDec:List AV→Option ((D×Int×Int×Int×Int)×(Int×Int×Int×D×Int×Int×Int)×(Int×Int×D)×(Int×Int×D)×Int×D)
  | [c0,c1,c2,c3,c4,c5,c6,c7,c8,c9,c10,c11,c12,c13,c14,c15,c16,c17,c18,c19,c20] =>
    (cfDec [c0,c1,c2,c3,c4]).bind fun a=>(auDec [c5,c6,c7,c8,c9,c10,c11]).bind fun b=>(ctDec [c12,c13,c14]).bind fun c=>(ctDec [c15,c16,c17]).bind fun d=>(nDec c18).bind fun e=>(aDec c19).bind fun f=>(oDec c20).bind fun _=>some (a,b,c,d,e,f)
  | _=>none
def hpDec:Hp→Option ((D×Int×Int×Int×Int)×(Int×Int×Int×D×Int×Int×Int)×(Int×Int×D)×(Int×Int×D)×((D×Int×Int×Int×Int)×(Int×Int×Int×D×Int×Int×Int)×(Int×Int×D)×(Int×Int×D)×Int×D))
  | ⟨[(0,o0),(1,o1),(2,o2),(3,o3),(4,o4),(5,o5)],6,[(0,1000, 32)],1,1001,1000⟩ =>
    (cfDec o0).bind fun a=>(auDec o1).bind fun b=>(ctDec o2).bind fun c=>(ctDec o3).bind fun d=>(zDec o4).bind fun _=>(ruDec o5).bind fun e=>some (a,b,c,d,e)
  | _=>none
def doDec (F:Tm) (h:Hp):Option (DoX×DoC×DoV×Int×Nat):=(tmDec F).bind fun t=>(hpDec h).bind fun y=>some
  (⟨y.1.1,y.1.2.1,y.1.2.2.1,y.1.2.2.2.1,y.1.2.2.2.2,y.2.1.1,y.2.1.2.1,y.2.1.2.2.1,y.2.1.2.2.2.1,y.2.1.2.2.2.2.1,y.2.1.2.2.2.2.2.1,y.2.1.2.2.2.2.2.2,y.2.2.1.1,y.2.2.1.2.1,y.2.2.1.2.2,y.2.2.2.1.1,y.2.2.2.1.2.1,y.2.2.2.1.2.2,t.1,t.2.1⟩,
   ⟨y.2.2.2.2.1.1,y.2.2.2.2.1.2.1,y.2.2.2.2.1.2.2.1,y.2.2.2.2.1.2.2.2.1,y.2.2.2.2.1.2.2.2.2,y.2.2.2.2.2.1.1,y.2.2.2.2.2.1.2.2.2.1,y.2.2.2.2.2.2.1.1,y.2.2.2.2.2.2.1.2.1,y.2.2.2.2.2.2.1.2.2,y.2.2.2.2.2.2.2.1.1,y.2.2.2.2.2.2.2.1.2.1,y.2.2.2.2.2.2.2.1.2.2,y.2.2.2.2.2.2.2.2.1,y.2.2.2.2.2.2.2.2.2,t.2.2.1⟩,
   ⟨y.2.2.2.2.2.1.2.1,y.2.2.2.2.2.1.2.2.1,y.2.2.2.2.2.1.2.2.2.2.1,y.2.2.2.2.2.1.2.2.2.2.2.1,y.2.2.2.2.2.1.2.2.2.2.2.2,.l []⟩,t.2.2.2,0)
def numN (id:Int):Int:=Int.tmod (IntKind.wrap .i64 (id+1)) 256
def cntN (ct:Int):Int:=imax (IntKind.wrap .i64 (ct - 1)) 0
def putO (v:D) (a b:D) (x:D):D:=v.app (.l [.t [a,b,x]])
def actF (c:DoC) (a:Int) (v:DoV):DoV :=
  bif a==5 then ⟨v.id,v.rq,bif hasA c.didr 10 then c.mt else c.mc,v.tm,v.nk,v.out⟩
  else bif a==6 then ⟨v.id,v.rq,0,IntKind.wrap .i64 (c.tk+c.wt),v.nk,v.out⟩
  else bif a==7 then ⟨numN v.id,numN v.id,cntN v.ct,IntKind.wrap .i64 (c.tk+c.wt),v.nk,putO v.out (.ki 1) (.i (numN v.id)) (encO c.d)⟩
  else bif a==8 then ⟨v.id,v.rq,v.ct,v.tm,0,putO v.out (.i c.ac) (.i c.ax) c.ad⟩
  else bif a==9 then ⟨v.id,v.rq,v.ct,v.tm,bif c.ac==3 then imin (IntKind.wrap .i64 (v.nk+1)) 1000 else v.nk,putO v.out (.i c.ac) (.i c.ax) c.ad⟩
  else bif a==10 then ⟨numN v.id,v.rq,cntN v.ct,IntKind.wrap .i64 (c.tk+c.wt),v.nk,putO v.out (.ki 5) (.i (numN v.id)) (.kl [])⟩
  else bif a==11 then ⟨v.id,v.rq,v.ct,v.tm,v.nk,putO v.out (.ki 6) (.i c.ii) (.kl [])⟩
  else bif a==12 then ⟨numN v.id,v.rq,v.ct,v.tm,v.nk,bif rej7E c.ic c.ii c.ix (numN v.id)==0 then putO v.out (.i (rej7C (rej7E c.ic c.ii c.ix (numN v.id)) 7)) (.i (rej7C (rej7E c.ic c.ii c.ix (numN v.id)) (numN v.id))) (rej7D c.ic c.ii c.ix (numN v.id)) else v.out⟩
  else bif a==13 then ⟨v.id,v.rq,v.ct,v.tm,v.nk,putO v.out (.i c.ac) (.i c.ax) c.ad⟩
  else v
def actsF (c:DoC) (did:D):Nat→Nat→DoV→DoV
  | 0,_,v=>v
  | m+1,i,v=>actsF c did m (i+1) (actF c ((did.get i).cell 0).toI v)
def doT (y:DoX×DoC×DoV×Int×Nat):RT Out:=need false (decide (y.2.2.2.1=(y.2.1.did.len:Int)∧y.2.2.2.2≤y.2.1.did.len∧y.2.1.did.len≤8∧y.2.2.1.out.len≤y.2.2.2.2)) 210 (.ok (.normal,doF y.1 y.2.1 y.2.2.2.1 y.2.1.did.len,doH y.1 y.2.1 (actsF y.2.1 y.2.1.did (y.2.1.did.len - y.2.2.2.2) y.2.2.2.2 y.2.2.1)))
def doLs (P:Program):List (FuncId×Nat×BSpec):=(94,0,loopS P doL doDec doT) :: strL
abbrev do_body_1 (r0:D) (mc0 mt0 mf0 wt0 st0 id0 rq0:Int) (d0:D) (ct0 tm0 nk0 ic0 ii0:Int) (ix0:D) (ac0 ax0:Int) (ad0:D) (s0:Int) (did0 r:D) (mc mt mf wt s:Int) (d:D) (ic ii:Int) (ix:D) (ac ax:Int) (ad:D) (tk:Int) (didr did:D) (id rq ct tm nk:Int) (out:D) (n i:Int):=RT.all (RT.br (rej7E ic ii ix (Int.tmod (IntKind.wrap IntKind.i64 (id+1)) 256)==0) (RT.br (decide ((D.len out+1)*40≤140737488355328)) (RT.ok (Ex.normal,(Tm.mk 82 [(12,AV.ptr 4 0),(13,zy),(14,zy),(15,zi s0),(16,zs zN did0),(18,AV.ptr 5 0),(19,AV.fn (Fn.func 129) [AV.ptr 5 0] []),(56,zs zN did),(57,zi n),(58,zi (IntKind.wrap IntKind.i64 (i+1)))] []),(Hp.mk [(0,[zs zR r0,zi mc0,zi mt0,zi mf0,zi wt0]),(1,[zi st0,zi id0,zi rq0,zs zO d0,zi ct0,zi tm0,zi nk0]),(2,[zi ic0,zi ii0,zs zU ix0]),(3,[zi ac0,zi ax0,zs zU ad0]),(4,[zi 0,zi 0,zi 0,zy,zi 0,zi 0,zi 0]),(5,[zs zR r,zi mc,zi mt,zi mf,zi wt,zi s,zi (Int.tmod (IntKind.wrap IntKind.i64 (id+1)) 256),zi rq,zs zO d,zi ct,zi tm,zi nk,zi ic,zi ii,zs zU ix,zi ac,zi ax,zs zU ad,zi tk,zs zN didr,AV.sl false zC (D.app out (D.l [D.t [D.i (rej7C (rej7E ic ii ix (Int.tmod (IntKind.wrap IntKind.i64 (id+1)) 256)) 7),D.i (rej7C (rej7E ic ii ix (Int.tmod (IntKind.wrap IntKind.i64 (id+1)) 256)) (Int.tmod (IntKind.wrap IntKind.i64 (id+1)) 256)),rej7D ic ii ix (Int.tmod (IntKind.wrap IntKind.i64 (id+1)) 256)]])) (some (0,1000))])] 6 [(0,1000,32)] 1 1001 1000))) (RT.bad 70)) (RT.ok (Ex.normal,(Tm.mk 82 [(12,AV.ptr 4 0),(13,zy),(14,zy),(15,zi s0),(16,zs zN did0),(18,AV.ptr 5 0),(19,AV.fn (Fn.func 129) [AV.ptr 5 0] []),(56,zs zN did),(57,zi n),(58,zi (IntKind.wrap IntKind.i64 (i+1)))] []),(Hp.mk [(0,[zs zR r0,zi mc0,zi mt0,zi mf0,zi wt0]),(1,[zi st0,zi id0,zi rq0,zs zO d0,zi ct0,zi tm0,zi nk0]),(2,[zi ic0,zi ii0,zs zU ix0]),(3,[zi ac0,zi ax0,zs zU ad0]),(4,[zi 0,zi 0,zi 0,zy,zi 0,zi 0,zi 0]),(5,[zs zR r,zi mc,zi mt,zi mf,zi wt,zi s,zi (Int.tmod (IntKind.wrap IntKind.i64 (id+1)) 256),zi rq,zs zO d,zi ct,zi tm,zi nk,zi ic,zi ii,zs zU ix,zi ac,zi ax,zs zU ad,zi tk,zs zN didr,AV.sl false zC out (some (0,1000))])] 6 [(0,1000,32)] 1 1001 1000)))) (RT.br (rej7E ic ii ix (Int.tmod (IntKind.wrap IntKind.i64 (id+1)) 256)==0) (RT.br (decide ((D.len out+1)*40≤140737488355328)) (RT.ok (Ex.normal,(Tm.mk 82 [(12,AV.ptr 4 0),(13,zy),(14,zy),(15,zi s0),(16,zs zN did0),(18,AV.ptr 5 0),(19,AV.fn (Fn.func 129) [AV.ptr 5 0] []),(56,zs zN did),(57,zi n),(58,zi (IntKind.wrap IntKind.i64 (i+1)))] []),(Hp.mk [(0,[zs zR r0,zi mc0,zi mt0,zi mf0,zi wt0]),(1,[zi st0,zi id0,zi rq0,zs zO d0,zi ct0,zi tm0,zi nk0]),(2,[zi ic0,zi ii0,zs zU ix0]),(3,[zi ac0,zi ax0,zs zU ad0]),(4,[zi 0,zi 0,zi 0,zy,zi 0,zi 0,zi 0]),(5,[zs zR r,zi mc,zi mt,zi mf,zi wt,zi s,zi (Int.tmod (IntKind.wrap IntKind.i64 (id+1)) 256),zi rq,zs zO d,zi ct,zi tm,zi nk,zi ic,zi ii,zs zU ix,zi ac,zi ax,zs zU ad,zi tk,zs zN didr,AV.sl false zC (D.app out (D.l [D.t [D.i (rej7C (rej7E ic ii ix (Int.tmod (IntKind.wrap IntKind.i64 (id+1)) 256)) 7),D.i (rej7C (rej7E ic ii ix (Int.tmod (IntKind.wrap IntKind.i64 (id+1)) 256)) (Int.tmod (IntKind.wrap IntKind.i64 (id+1)) 256)),rej7D ic ii ix (Int.tmod (IntKind.wrap IntKind.i64 (id+1)) 256)]])) (some (0,1000))])] 6 [(0,1000,32)] 1 1001 1000))) (RT.bad 70)) (RT.ok (Ex.normal,(Tm.mk 82 [(12,AV.ptr 4 0),(13,zy),(14,zy),(15,zi s0),(16,zs zN did0),(18,AV.ptr 5 0),(19,AV.fn (Fn.func 129) [AV.ptr 5 0] []),(56,zs zN did),(57,zi n),(58,zi (IntKind.wrap IntKind.i64 (i+1)))] []),(Hp.mk [(0,[zs zR r0,zi mc0,zi mt0,zi mf0,zi wt0]),(1,[zi st0,zi id0,zi rq0,zs zO d0,zi ct0,zi tm0,zi nk0]),(2,[zi ic0,zi ii0,zs zU ix0]),(3,[zi ac0,zi ax0,zs zU ad0]),(4,[zi 0,zi 0,zi 0,zy,zi 0,zi 0,zi 0]),(5,[zs zR r,zi mc,zi mt,zi mf,zi wt,zi s,zi (Int.tmod (IntKind.wrap IntKind.i64 (id+1)) 256),zi rq,zs zO d,zi ct,zi tm,zi nk,zi ic,zi ii,zs zU ix,zi ac,zi ax,zs zU ad,zi tk,zs zN didr,AV.sl false zC out (some (0,1000))])] 6 [(0,1000,32)] 1 1001 1000))))
abbrev do_body_2 (r0:D) (mc0 mt0 mf0 wt0 st0 id0 rq0:Int) (d0:D) (ct0 tm0 nk0 ic0 ii0:Int) (ix0:D) (ac0 ax0:Int) (ad0:D) (s0:Int) (did0 r:D) (mc mt mf wt s:Int) (d:D) (ic ii:Int) (ix:D) (ac ax:Int) (ad:D) (tk:Int) (didr did:D) (id rq ct tm nk:Int) (out:D) (n i:Int):=RT.br true (RT.br (rej7E ic ii ix (Int.tmod (IntKind.wrap IntKind.i64 (id+1)) 256)==0) (RT.br (decide ((D.len out+1)*40≤140737488355328)) (RT.ok (Ex.normal,(Tm.mk 82 [(12,AV.ptr 4 0),(13,zy),(14,zy),(15,zi s0),(16,zs zN did0),(18,AV.ptr 5 0),(19,AV.fn (Fn.func 129) [AV.ptr 5 0] []),(56,zs zN did),(57,zi n),(58,zi (IntKind.wrap IntKind.i64 (i+1)))] []),(Hp.mk [(0,[zs zR r0,zi mc0,zi mt0,zi mf0,zi wt0]),(1,[zi st0,zi id0,zi rq0,zs zO d0,zi ct0,zi tm0,zi nk0]),(2,[zi ic0,zi ii0,zs zU ix0]),(3,[zi ac0,zi ax0,zs zU ad0]),(4,[zi 0,zi 0,zi 0,zy,zi 0,zi 0,zi 0]),(5,[zs zR r,zi mc,zi mt,zi mf,zi wt,zi s,zi (Int.tmod (IntKind.wrap IntKind.i64 (id+1)) 256),zi rq,zs zO d,zi ct,zi tm,zi nk,zi ic,zi ii,zs zU ix,zi ac,zi ax,zs zU ad,zi tk,zs zN didr,AV.sl false zC (D.app out (D.l [D.t [D.i (rej7C (rej7E ic ii ix (Int.tmod (IntKind.wrap IntKind.i64 (id+1)) 256)) 7),D.i (rej7C (rej7E ic ii ix (Int.tmod (IntKind.wrap IntKind.i64 (id+1)) 256)) (Int.tmod (IntKind.wrap IntKind.i64 (id+1)) 256)),rej7D ic ii ix (Int.tmod (IntKind.wrap IntKind.i64 (id+1)) 256)]])) (some (0,1000))])] 6 [(0,1000,32)] 1 1001 1000))) (RT.bad 70)) (RT.ok (Ex.normal,(Tm.mk 82 [(12,AV.ptr 4 0),(13,zy),(14,zy),(15,zi s0),(16,zs zN did0),(18,AV.ptr 5 0),(19,AV.fn (Fn.func 129) [AV.ptr 5 0] []),(56,zs zN did),(57,zi n),(58,zi (IntKind.wrap IntKind.i64 (i+1)))] []),(Hp.mk [(0,[zs zR r0,zi mc0,zi mt0,zi mf0,zi wt0]),(1,[zi st0,zi id0,zi rq0,zs zO d0,zi ct0,zi tm0,zi nk0]),(2,[zi ic0,zi ii0,zs zU ix0]),(3,[zi ac0,zi ax0,zs zU ad0]),(4,[zi 0,zi 0,zi 0,zy,zi 0,zi 0,zi 0]),(5,[zs zR r,zi mc,zi mt,zi mf,zi wt,zi s,zi (Int.tmod (IntKind.wrap IntKind.i64 (id+1)) 256),zi rq,zs zO d,zi ct,zi tm,zi nk,zi ic,zi ii,zs zU ix,zi ac,zi ax,zs zU ad,zi tk,zs zN didr,AV.sl false zC out (some (0,1000))])] 6 [(0,1000,32)] 1 1001 1000)))) (RT.bad 21)
abbrev do_body_3 (r0:D) (mc0 mt0 mf0 wt0 st0 id0 rq0:Int) (d0:D) (ct0 tm0 nk0 ic0 ii0:Int) (ix0:D) (ac0 ax0:Int) (ad0:D) (s0:Int) (did0 r:D) (mc mt mf wt s:Int) (d:D) (ic ii:Int) (ix:D) (ac ax:Int) (ad:D) (tk:Int) (didr did:D) (id rq ct tm nk:Int) (out:D) (n i:Int):=RT.ok (Ex.normal,(Tm.mk 82 [(12,AV.ptr 4 0),(13,zy),(14,zy),(15,zi s0),(16,zs zN did0),(18,AV.ptr 5 0),(19,AV.fn (Fn.func 129) [AV.ptr 5 0] []),(56,zs zN did),(57,zi n),(58,zi (IntKind.wrap IntKind.i64 (i+1)))] []),(Hp.mk [(0,[zs zR r0,zi mc0,zi mt0,zi mf0,zi wt0]),(1,[zi st0,zi id0,zi rq0,zs zO d0,zi ct0,zi tm0,zi nk0]),(2,[zi ic0,zi ii0,zs zU ix0]),(3,[zi ac0,zi ax0,zs zU ad0]),(4,[zi 0,zi 0,zi 0,zy,zi 0,zi 0,zi 0]),(5,[zs zR r,zi mc,zi mt,zi mf,zi wt,zi s,zi id,zi rq,zs zO d,zi ct,zi tm,zi nk,zi ic,zi ii,zs zU ix,zi ac,zi ax,zs zU ad,zi tk,zs zN didr,AV.sl false zC (D.app out (D.l [D.t [D.i ac,D.i ax,ad]])) (some (0,1000))])] 6 [(0,1000,32)] 1 1001 1000))
theorem do_body (r0:D) (mc0 mt0 mf0 wt0 st0 id0 rq0:Int) (d0:D) (ct0 tm0 nk0 ic0 ii0:Int) (ix0:D) (ac0 ax0:Int) (ad0:D) (s0:Int) (did0 r:D) (mc mt mf wt s:Int) (d:D) (ic ii:Int) (ix:D) (ac ax:Int) (ad:D) (tk:Int) (didr did:D) (id rq ct tm nk:Int) (out:D) (n i:Int):roundT (doL) (evC Tryz.prog (gam (doG Tryz.prog)) (lam (strL)) 100 94 (loopAt 0 (bodyOf Tryz.prog 94)) (doF ⟨r0,mc0,mt0,mf0,wt0,st0,id0,rq0,d0,ct0,tm0,nk0,ic0,ii0,ix0,ac0,ax0,ad0,s0,did0⟩ ⟨r,mc,mt,mf,wt,s,d,ic,ii,ix,ac,ax,ad,tk,didr,did⟩ n i) (doH ⟨r0,mc0,mt0,mf0,wt0,st0,id0,rq0,d0,ct0,tm0,nk0,ic0,ii0,ix0,ac0,ax0,ad0,s0,did0⟩ ⟨r,mc,mt,mf,wt,s,d,ic,ii,ix,ac,ax,ad,tk,didr,did⟩ ⟨id,rq,ct,tm,nk,out⟩)) =
RT.br (decide (i<n)) (RT.br (decide (0≤i∧i<(↑(D.len did):Int))) (RT.br (D.toI (D.cell (D.get did (Int.toNat i)) 0)==5) (RT.br (hasA didr 10) (RT.ok (Ex.normal,(Tm.mk 82 [(12,AV.ptr 4 0),(13,zy),(14,zy),(15,zi s0),(16,zs zN did0),(18,AV.ptr 5 0),(19,AV.fn (Fn.func 129) [AV.ptr 5 0] []),(56,zs zN did),(57,zi n),(58,zi (IntKind.wrap IntKind.i64 (i+1)))] []),(Hp.mk [(0,[zs zR r0,zi mc0,zi mt0,zi mf0,zi wt0]),(1,[zi st0,zi id0,zi rq0,zs zO d0,zi ct0,zi tm0,zi nk0]),(2,[zi ic0,zi ii0,zs zU ix0]),(3,[zi ac0,zi ax0,zs zU ad0]),(4,[zi 0,zi 0,zi 0,zy,zi 0,zi 0,zi 0]),(5,[zs zR r,zi mc,zi mt,zi mf,zi wt,zi s,zi id,zi rq,zs zO d,zi mt,zi tm,zi nk,zi ic,zi ii,zs zU ix,zi ac,zi ax,zs zU ad,zi tk,zs zN didr,AV.sl false zC out (some (0,1000))])] 6 [(0,1000,32)] 1 1001 1000))) (RT.ok (Ex.normal,(Tm.mk 82 [(12,AV.ptr 4 0),(13,zy),(14,zy),(15,zi s0),(16,zs zN did0),(18,AV.ptr 5 0),(19,AV.fn (Fn.func 129) [AV.ptr 5 0] []),(56,zs zN did),(57,zi n),(58,zi (IntKind.wrap IntKind.i64 (i+1)))] []),(Hp.mk [(0,[zs zR r0,zi mc0,zi mt0,zi mf0,zi wt0]),(1,[zi st0,zi id0,zi rq0,zs zO d0,zi ct0,zi tm0,zi nk0]),(2,[zi ic0,zi ii0,zs zU ix0]),(3,[zi ac0,zi ax0,zs zU ad0]),(4,[zi 0,zi 0,zi 0,zy,zi 0,zi 0,zi 0]),(5,[zs zR r,zi mc,zi mt,zi mf,zi wt,zi s,zi id,zi rq,zs zO d,zi mc,zi tm,zi nk,zi ic,zi ii,zs zU ix,zi ac,zi ax,zs zU ad,zi tk,zs zN didr,AV.sl false zC out (some (0,1000))])] 6 [(0,1000,32)] 1 1001 1000)))) (RT.br (D.toI (D.cell (D.get did (Int.toNat i)) 0)==6) (RT.ok (Ex.normal,(Tm.mk 82 [(12,AV.ptr 4 0),(13,zy),(14,zy),(15,zi s0),(16,zs zN did0),(18,AV.ptr 5 0),(19,AV.fn (Fn.func 129) [AV.ptr 5 0] []),(56,zs zN did),(57,zi n),(58,zi (IntKind.wrap IntKind.i64 (i+1)))] []),(Hp.mk [(0,[zs zR r0,zi mc0,zi mt0,zi mf0,zi wt0]),(1,[zi st0,zi id0,zi rq0,zs zO d0,zi ct0,zi tm0,zi nk0]),(2,[zi ic0,zi ii0,zs zU ix0]),(3,[zi ac0,zi ax0,zs zU ad0]),(4,[zi 0,zi 0,zi 0,zy,zi 0,zi 0,zi 0]),(5,[zs zR r,zi mc,zi mt,zi mf,zi wt,zi s,zi id,zi rq,zs zO d,zi 0,zi (IntKind.wrap IntKind.i64 (tk+wt)),zi nk,zi ic,zi ii,zs zU ix,zi ac,zi ax,zs zU ad,zi tk,zs zN didr,AV.sl false zC out (some (0,1000))])] 6 [(0,1000,32)] 1 1001 1000))) (RT.br (D.toI (D.cell (D.get did (Int.toNat i)) 0)==7) (RT.br true (RT.br (decide ((D.len out+1)*40≤140737488355328)) (RT.ok (Ex.normal,(Tm.mk 82 [(12,AV.ptr 4 0),(13,zy),(14,zy),(15,zi s0),(16,zs zN did0),(18,AV.ptr 5 0),(19,AV.fn (Fn.func 129) [AV.ptr 5 0] []),(56,zs zN did),(57,zi n),(58,zi (IntKind.wrap IntKind.i64 (i+1)))] []),(Hp.mk [(0,[zs zR r0,zi mc0,zi mt0,zi mf0,zi wt0]),(1,[zi st0,zi id0,zi rq0,zs zO d0,zi ct0,zi tm0,zi nk0]),(2,[zi ic0,zi ii0,zs zU ix0]),(3,[zi ac0,zi ax0,zs zU ad0]),(4,[zi 0,zi 0,zi 0,zy,zi 0,zi 0,zi 0]),(5,[zs zR r,zi mc,zi mt,zi mf,zi wt,zi s,zi (Int.tmod (IntKind.wrap IntKind.i64 (id+1)) 256),zi (Int.tmod (IntKind.wrap IntKind.i64 (id+1)) 256),zs zO d,zi (imax (IntKind.wrap IntKind.i64 (ct - 1)) 0),zi (IntKind.wrap IntKind.i64 (tk+wt)),zi nk,zi ic,zi ii,zs zU ix,zi ac,zi ax,zs zU ad,zi tk,zs zN didr,AV.sl false zC (D.app out (D.l [D.t [D.ki 1,D.i (Int.tmod (IntKind.wrap IntKind.i64 (id+1)) 256),encO d]])) (some (0,1000))])] 6 [(0,1000,32)] 1 1001 1000))) (RT.bad 70)) (RT.bad 21)) (RT.br (D.toI (D.cell (D.get did (Int.toNat i)) 0)==8) (RT.br (decide ((D.len out+1)*40≤140737488355328)) (RT.ok (Ex.normal,(Tm.mk 82 [(12,AV.ptr 4 0),(13,zy),(14,zy),(15,zi s0),(16,zs zN did0),(18,AV.ptr 5 0),(19,AV.fn (Fn.func 129) [AV.ptr 5 0] []),(56,zs zN did),(57,zi n),(58,zi (IntKind.wrap IntKind.i64 (i+1)))] []),(Hp.mk [(0,[zs zR r0,zi mc0,zi mt0,zi mf0,zi wt0]),(1,[zi st0,zi id0,zi rq0,zs zO d0,zi ct0,zi tm0,zi nk0]),(2,[zi ic0,zi ii0,zs zU ix0]),(3,[zi ac0,zi ax0,zs zU ad0]),(4,[zi 0,zi 0,zi 0,zy,zi 0,zi 0,zi 0]),(5,[zs zR r,zi mc,zi mt,zi mf,zi wt,zi s,zi id,zi rq,zs zO d,zi ct,zi tm,zi 0,zi ic,zi ii,zs zU ix,zi ac,zi ax,zs zU ad,zi tk,zs zN didr,AV.sl false zC (D.app out (D.l [D.t [D.i ac,D.i ax,ad]])) (some (0,1000))])] 6 [(0,1000,32)] 1 1001 1000))) (RT.bad 70)) (RT.br (D.toI (D.cell (D.get did (Int.toNat i)) 0)==9) (RT.br (decide ((D.len out+1)*40≤140737488355328)) (RT.br (ac==3) (RT.ok (Ex.normal,(Tm.mk 82 [(12,AV.ptr 4 0),(13,zy),(14,zy),(15,zi s0),(16,zs zN did0),(18,AV.ptr 5 0),(19,AV.fn (Fn.func 129) [AV.ptr 5 0] []),(56,zs zN did),(57,zi n),(58,zi (IntKind.wrap IntKind.i64 (i+1)))] []),(Hp.mk [(0,[zs zR r0,zi mc0,zi mt0,zi mf0,zi wt0]),(1,[zi st0,zi id0,zi rq0,zs zO d0,zi ct0,zi tm0,zi nk0]),(2,[zi ic0,zi ii0,zs zU ix0]),(3,[zi ac0,zi ax0,zs zU ad0]),(4,[zi 0,zi 0,zi 0,zy,zi 0,zi 0,zi 0]),(5,[zs zR r,zi mc,zi mt,zi mf,zi wt,zi s,zi id,zi rq,zs zO d,zi ct,zi tm,zi (imin (IntKind.wrap IntKind.i64 (nk+1)) 1000),zi ic,zi ii,zs zU ix,zi ac,zi ax,zs zU ad,zi tk,zs zN didr,AV.sl false zC (D.app out (D.l [D.t [D.i ac,D.i ax,ad]])) (some (0,1000))])] 6 [(0,1000,32)] 1 1001 1000))) (do_body_3 r0 mc0 mt0 mf0 wt0 st0 id0 rq0 d0 ct0 tm0 nk0 ic0 ii0 ix0 ac0 ax0 ad0 s0 did0 r mc mt mf wt s d ic ii ix ac ax ad tk didr did id rq ct tm nk out n i)) (RT.bad 70)) (RT.br (D.toI (D.cell (D.get did (Int.toNat i)) 0)==10) (RT.br true (RT.br (decide ((D.len out+1)*40≤140737488355328)) (RT.ok (Ex.normal,(Tm.mk 82 [(12,AV.ptr 4 0),(13,zy),(14,zy),(15,zi s0),(16,zs zN did0),(18,AV.ptr 5 0),(19,AV.fn (Fn.func 129) [AV.ptr 5 0] []),(56,zs zN did),(57,zi n),(58,zi (IntKind.wrap IntKind.i64 (i+1)))] []),(Hp.mk [(0,[zs zR r0,zi mc0,zi mt0,zi mf0,zi wt0]),(1,[zi st0,zi id0,zi rq0,zs zO d0,zi ct0,zi tm0,zi nk0]),(2,[zi ic0,zi ii0,zs zU ix0]),(3,[zi ac0,zi ax0,zs zU ad0]),(4,[zi 0,zi 0,zi 0,zy,zi 0,zi 0,zi 0]),(5,[zs zR r,zi mc,zi mt,zi mf,zi wt,zi s,zi (Int.tmod (IntKind.wrap IntKind.i64 (id+1)) 256),zi rq,zs zO d,zi (imax (IntKind.wrap IntKind.i64 (ct - 1)) 0),zi (IntKind.wrap IntKind.i64 (tk+wt)),zi nk,zi ic,zi ii,zs zU ix,zi ac,zi ax,zs zU ad,zi tk,zs zN didr,AV.sl false zC (D.app out (D.l [D.t [D.ki 5,D.i (Int.tmod (IntKind.wrap IntKind.i64 (id+1)) 256),D.kl []]])) (some (0,1000))])] 6 [(0,1000,32)] 1 1001 1000))) (RT.bad 70)) (RT.bad 21)) (RT.br (D.toI (D.cell (D.get did (Int.toNat i)) 0)==11) (RT.br (decide ((D.len out+1)*40≤140737488355328)) (RT.ok (Ex.normal,(Tm.mk 82 [(12,AV.ptr 4 0),(13,zy),(14,zy),(15,zi s0),(16,zs zN did0),(18,AV.ptr 5 0),(19,AV.fn (Fn.func 129) [AV.ptr 5 0] []),(56,zs zN did),(57,zi n),(58,zi (IntKind.wrap IntKind.i64 (i+1)))] []),(Hp.mk [(0,[zs zR r0,zi mc0,zi mt0,zi mf0,zi wt0]),(1,[zi st0,zi id0,zi rq0,zs zO d0,zi ct0,zi tm0,zi nk0]),(2,[zi ic0,zi ii0,zs zU ix0]),(3,[zi ac0,zi ax0,zs zU ad0]),(4,[zi 0,zi 0,zi 0,zy,zi 0,zi 0,zi 0]),(5,[zs zR r,zi mc,zi mt,zi mf,zi wt,zi s,zi id,zi rq,zs zO d,zi ct,zi tm,zi nk,zi ic,zi ii,zs zU ix,zi ac,zi ax,zs zU ad,zi tk,zs zN didr,AV.sl false zC (D.app out (D.l [D.t [D.ki 6,D.i ii,D.kl []]])) (some (0,1000))])] 6 [(0,1000,32)] 1 1001 1000))) (RT.bad 70)) (RT.br (D.toI (D.cell (D.get did (Int.toNat i)) 0)==12) (RT.all (RT.all (RT.br true (do_body_1 r0 mc0 mt0 mf0 wt0 st0 id0 rq0 d0 ct0 tm0 nk0 ic0 ii0 ix0 ac0 ax0 ad0 s0 did0 r mc mt mf wt s d ic ii ix ac ax ad tk didr did id rq ct tm nk out n i) (RT.bad 21)) (do_body_2 r0 mc0 mt0 mf0 wt0 st0 id0 rq0 d0 ct0 tm0 nk0 ic0 ii0 ix0 ac0 ax0 ad0 s0 did0 r mc mt mf wt s d ic ii ix ac ax ad tk didr did id rq ct tm nk out n i)) (RT.all (RT.br true (RT.all (do_body_1 r0 mc0 mt0 mf0 wt0 st0 id0 rq0 d0 ct0 tm0 nk0 ic0 ii0 ix0 ac0 ax0 ad0 s0 did0 r mc mt mf wt s d ic ii ix ac ax ad tk didr did id rq ct tm nk out n i) (RT.br (rej7E ic ii ix (Int.tmod (IntKind.wrap IntKind.i64 (id+1)) 256)==0) (RT.br (decide ((D.len out+1)*40≤140737488355328)) (RT.ok (Ex.normal,(Tm.mk 82 [(12,AV.ptr 4 0),(13,zy),(14,zy),(15,zi s0),(16,zs zN did0),(18,AV.ptr 5 0),(19,AV.fn (Fn.func 129) [AV.ptr 5 0] []),(56,zs zN did),(57,zi n),(58,zi (IntKind.wrap IntKind.i64 (i+1)))] []),(Hp.mk [(0,[zs zR r0,zi mc0,zi mt0,zi mf0,zi wt0]),(1,[zi st0,zi id0,zi rq0,zs zO d0,zi ct0,zi tm0,zi nk0]),(2,[zi ic0,zi ii0,zs zU ix0]),(3,[zi ac0,zi ax0,zs zU ad0]),(4,[zi 0,zi 0,zi 0,zy,zi 0,zi 0,zi 0]),(5,[zs zR r,zi mc,zi mt,zi mf,zi wt,zi s,zi (Int.tmod (IntKind.wrap IntKind.i64 (id+1)) 256),zi rq,zs zO d,zi ct,zi tm,zi nk,zi ic,zi ii,zs zU ix,zi ac,zi ax,zs zU ad,zi tk,zs zN didr,AV.sl false zC (D.app out (D.l [D.t [D.i (rej7C (rej7E ic ii ix (Int.tmod (IntKind.wrap IntKind.i64 (id+1)) 256)) 7),D.i (rej7C (rej7E ic ii ix (Int.tmod (IntKind.wrap IntKind.i64 (id+1)) 256)) (Int.tmod (IntKind.wrap IntKind.i64 (id+1)) 256)),rej7D ic ii ix (Int.tmod (IntKind.wrap IntKind.i64 (id+1)) 256)]])) (some (0,1000))])] 6 [(0,1000,32)] 1 1001 1000))) (RT.bad 70)) (RT.ok (Ex.normal,(Tm.mk 82 [(12,AV.ptr 4 0),(13,zy),(14,zy),(15,zi s0),(16,zs zN did0),(18,AV.ptr 5 0),(19,AV.fn (Fn.func 129) [AV.ptr 5 0] []),(56,zs zN did),(57,zi n),(58,zi (IntKind.wrap IntKind.i64 (i+1)))] []),(Hp.mk [(0,[zs zR r0,zi mc0,zi mt0,zi mf0,zi wt0]),(1,[zi st0,zi id0,zi rq0,zs zO d0,zi ct0,zi tm0,zi nk0]),(2,[zi ic0,zi ii0,zs zU ix0]),(3,[zi ac0,zi ax0,zs zU ad0]),(4,[zi 0,zi 0,zi 0,zy,zi 0,zi 0,zi 0]),(5,[zs zR r,zi mc,zi mt,zi mf,zi wt,zi s,zi (Int.tmod (IntKind.wrap IntKind.i64 (id+1)) 256),zi rq,zs zO d,zi ct,zi tm,zi nk,zi ic,zi ii,zs zU ix,zi ac,zi ax,zs zU ad,zi tk,zs zN didr,AV.sl false zC out (some (0,1000))])] 6 [(0,1000,32)] 1 1001 1000))))) (RT.bad 21)) (RT.all (do_body_2 r0 mc0 mt0 mf0 wt0 st0 id0 rq0 d0 ct0 tm0 nk0 ic0 ii0 ix0 ac0 ax0 ad0 s0 did0 r mc mt mf wt s d ic ii ix ac ax ad tk didr did id rq ct tm nk out n i) (do_body_2 r0 mc0 mt0 mf0 wt0 st0 id0 rq0 d0 ct0 tm0 nk0 ic0 ii0 ix0 ac0 ax0 ad0 s0 did0 r mc mt mf wt s d ic ii ix ac ax ad tk didr did id rq ct tm nk out n i)))) (RT.br (D.toI (D.cell (D.get did (Int.toNat i)) 0)==13) (RT.br (decide ((D.len out+1)*40≤140737488355328)) (do_body_3 r0 mc0 mt0 mf0 wt0 st0 id0 rq0 d0 ct0 tm0 nk0 ic0 ii0 ix0 ac0 ax0 ad0 s0 did0 r mc mt mf wt s d ic ii ix ac ax ad tk didr did id rq ct tm nk out n i) (RT.bad 70)) (RT.ok (Ex.normal,(Tm.mk 82 [(12,AV.ptr 4 0),(13,zy),(14,zy),(15,zi s0),(16,zs zN did0),(18,AV.ptr 5 0),(19,AV.fn (Fn.func 129) [AV.ptr 5 0] []),(56,zs zN did),(57,zi n),(58,zi (IntKind.wrap IntKind.i64 (i+1)))] []),(Hp.mk [(0,[zs zR r0,zi mc0,zi mt0,zi mf0,zi wt0]),(1,[zi st0,zi id0,zi rq0,zs zO d0,zi ct0,zi tm0,zi nk0]),(2,[zi ic0,zi ii0,zs zU ix0]),(3,[zi ac0,zi ax0,zs zU ad0]),(4,[zi 0,zi 0,zi 0,zy,zi 0,zi 0,zi 0]),(5,[zs zR r,zi mc,zi mt,zi mf,zi wt,zi s,zi id,zi rq,zs zO d,zi ct,zi tm,zi nk,zi ic,zi ii,zs zU ix,zi ac,zi ax,zs zU ad,zi tk,zs zN didr,AV.sl false zC out (some (0,1000))])] 6 [(0,1000,32)] 1 1001 1000)))))))))))) (RT.bad 42)) (RT.ok (Ex.exit 0,(Tm.mk 82 [(12,AV.ptr 4 0),(13,zy),(14,zy),(15,zi s0),(16,zs zN did0),(18,AV.ptr 5 0),(19,AV.fn (Fn.func 129) [AV.ptr 5 0] []),(56,zs zN did),(57,zi n),(58,zi i)] []),(Hp.mk [(0,[zs zR r0,zi mc0,zi mt0,zi mf0,zi wt0]),(1,[zi st0,zi id0,zi rq0,zs zO d0,zi ct0,zi tm0,zi nk0]),(2,[zi ic0,zi ii0,zs zU ix0]),(3,[zi ac0,zi ax0,zs zU ad0]),(4,[zi 0,zi 0,zi 0,zy,zi 0,zi 0,zi 0]),(5,[zs zR r,zi mc,zi mt,zi mf,zi wt,zi s,zi id,zi rq,zs zO d,zi ct,zi tm,zi nk,zi ic,zi ii,zs zU ix,zi ac,zi ax,zs zU ad,zi tk,zs zN didr,AV.sl false zC out (some (0,1000))])] 6 [(0,1000,32)] 1 1001 1000))):=by rw [← fvC_eq Tryz.prog (gam (doG Tryz.prog)) (lam (strL)) false 100]; kernel_rfl
theorem strL_ok:LamL Tryz.prog strL:=⟨fun _ _ _ _ _ _ _ _ H=>H.elim,trivial⟩
theorem doG_ok:GamL Tryz.prog (doG Tryz.prog):=⟨con_soundF,rej7_soundF,cloneb_soundF,encG_ok⟩
theorem putO_len {o a b x:D} (h:o.len≤8):(putO o a b x).len=o.len+1:=by
  have h1:(D.l [D.t [a,b,x]]).len=1:=by unfold D.len; rw [toL_l (show [D.t [a,b,x]].length≤maxLen by unfold maxLen; simp)]; rfl
  unfold putO
  rw [app_len (by rw [h1]; unfold maxLen; omega),h1]
theorem actF_len {c:DoC} {a:Int} {v:DoV} (h:v.out.len≤8):(actF c a v).out.len≤v.out.len+1:=by
  have p:∀ a b x,(putO v.out a b x).len≤v.out.len+1:=fun a b x=>by rw [putO_len h]; omega
  unfold actF
  cases a==5 <;> cases a==6 <;> cases a==7 <;> cases a==8 <;> cases a==9 <;> cases a==10 <;> cases a==11 <;> cases a==12 <;> cases a==13 <;> simp only [cond_true,cond_false] <;> first | exact p _ _ _ | exact Nat.le_succ _ | (cases rej7E c.ic c.ii c.ix (numN v.id)==0 <;> simp only [cond_true,cond_false] <;> first | exact p _ _ _ | exact Nat.le_succ _)
theorem nDec_eq {a:AV} {x:Int} (h:nDec a=some x):a=ai x:=by
  unfold nDec at h; split at h
  · cases h; rfl
  · cases h
theorem aDec_eq {a:AV} {x:D} (h:aDec a=some x):a=asl acS x:=by
  unfold aDec at h; split at h
  · cases h; rfl
  · cases h
theorem oDec_eq {a:AV} {x:Unit} (h:oDec a=some x):a=.sl false ctS (.l []) (some (0,1000)):=by
  unfold oDec at h; split at h
  · rfl
  · cases h
theorem cfDec_eq {l:List AV} {y:D×Int×Int×Int×Int} (h:cfDec l=some y):l=[asl rlS y.1,ai y.2.1,ai y.2.2.1,ai y.2.2.2.1,ai y.2.2.2.2]:=by
  unfold cfDec at h; split at h
  · cases h; rfl
  · cases h
theorem auDec_eq {l:List AV} {y:Int×Int×Int×D×Int×Int×Int} (h:auDec l=some y):l=[ai y.1,ai y.2.1,ai y.2.2.1,asl opS y.2.2.2.1,ai y.2.2.2.2.1,ai y.2.2.2.2.2.1,ai y.2.2.2.2.2.2]:=by
  unfold auDec at h; split at h
  · cases h; rfl
  · cases h
theorem ctDec_eq {l:List AV} {y:Int×Int×D} (h:ctDec l=some y):l=[ai y.1,ai y.2.1,asl byS y.2.2]:=by
  unfold ctDec at h; split at h
  · cases h; rfl
  · cases h
theorem zDec_eq {l:List AV} {y:Unit} (h:zDec l=some y):l=[.sc false (.int .i64 0),.sc false (.int .i64 0),.sc false (.int .i64 0),.sc false (.slice none 0 0),.sc false (.int .i64 0),.sc false (.int .i64 0),.sc false (.int .i64 0)]:=by
  unfold zDec at h; split at h
  · rfl
  · cases h
theorem doDec_eq {F:Tm} {h:Hp} {y:DoX×DoC×DoV×Int×Nat} (H:doDec F h=some y):F=doF y.1 y.2.1 y.2.2.2.1 y.2.2.2.2∧h=doH y.1 y.2.1 y.2.2.1:=by
  unfold doDec at H
  obtain ⟨t,ht,H⟩:=Option.bind_eq_some_iff.1 H
  obtain ⟨z,hz,H⟩:=Option.bind_eq_some_iff.1 H
  cases H
  constructor
  · unfold tmDec at ht
    split at ht
    · obtain ⟨s0,e0,ht⟩:=Option.bind_eq_some_iff.1 ht
      obtain ⟨d0,e1,ht⟩:=Option.bind_eq_some_iff.1 ht
      obtain ⟨d1,e2,ht⟩:=Option.bind_eq_some_iff.1 ht
      obtain ⟨n,e3,ht⟩:=Option.bind_eq_some_iff.1 ht
      cases ht
      rw [nDec_eq e0,aDec_eq e1,aDec_eq e2,nDec_eq e3]
      rfl
    · cases ht
  · unfold hpDec at hz
    split at hz
    · obtain ⟨a,e0,hz⟩:=Option.bind_eq_some_iff.1 hz
      obtain ⟨b,e1,hz⟩:=Option.bind_eq_some_iff.1 hz
      obtain ⟨c,e2,hz⟩:=Option.bind_eq_some_iff.1 hz
      obtain ⟨d,e3,hz⟩:=Option.bind_eq_some_iff.1 hz
      obtain ⟨u,e4,hz⟩:=Option.bind_eq_some_iff.1 hz
      obtain ⟨r,e5,hz⟩:=Option.bind_eq_some_iff.1 hz
      cases hz
      rw [cfDec_eq e0,auDec_eq e1,ctDec_eq e2,ctDec_eq e3,zDec_eq e4]
      unfold ruDec at e5
      split at e5
      · obtain ⟨a',f0,e5⟩:=Option.bind_eq_some_iff.1 e5
        obtain ⟨b',f1,e5⟩:=Option.bind_eq_some_iff.1 e5
        obtain ⟨c',f2,e5⟩:=Option.bind_eq_some_iff.1 e5
        obtain ⟨d',f3,e5⟩:=Option.bind_eq_some_iff.1 e5
        obtain ⟨e',f4,e5⟩:=Option.bind_eq_some_iff.1 e5
        obtain ⟨g',f5,e5⟩:=Option.bind_eq_some_iff.1 e5
        obtain ⟨u',f6,e5⟩:=Option.bind_eq_some_iff.1 e5
        cases e5
        have g0:=cfDec_eq f0
        have g1:=auDec_eq f1
        have g2:=ctDec_eq f2
        have g3:=ctDec_eq f3
        simp only [List.cons.injEq,and_true] at g0 g1 g2 g3
        obtain ⟨rfl,rfl,rfl,rfl,rfl⟩:=g0
        obtain ⟨rfl,rfl,rfl,rfl,rfl,rfl,rfl⟩:=g1
        obtain ⟨rfl,rfl,rfl⟩:=g2
        obtain ⟨rfl,rfl,rfl⟩:=g3
        rw [nDec_eq f4,aDec_eq f5,oDec_eq f6]
        rfl
      · cases e5
    · cases hz
set_option maxHeartbeats 2000000 in
theorem do_loop:LamE Tryz.prog 94 0 (loopS Tryz.prog doL doDec doT):=by
  refine loop_in2 (gs:=doG Tryz.prog) (ls:=strL) mixed doG_ok strL_ok _ 0 100 (by kernel_rfl) doL (mkF:=fun y=>doF y.1 y.2.1 y.2.2.2.1 y.2.2.2.2) (mkH:=fun y=>doH y.1 y.2.1 y.2.2.1) (fun y=>y.2.1.did.len - y.2.2.2.2) ?_ ?_
  · exact fun F h y hy=>doDec_eq hy
  · rintro ⟨X,C,V,n,i⟩ K H
    obtain ⟨hc,H⟩:=need_holds H
    obtain ⟨hn,hi,h8,ho⟩:=odt hc
    dsimp only at hn hi h8 ho
    subst hn
    have hm:=C.did.len_le
    have hout:i=C.did.len→Round (fun y=>doF y.1 y.2.1 y.2.2.2.1 y.2.2.2.2) (fun y=>doH y.1 y.2.1 y.2.2.1) doT (fun y=>y.2.1.did.len - y.2.2.2.2) 0 (X,C,V,(C.did.len:Int),i) K (.exit 0,doF X C C.did.len C.did.len,doH X C V):=by
      intro he
      have h:=H
      dsimp only at h
      rw [he,Nat.sub_self] at h
      exact h
    have hnext:i<C.did.len→∀ v',actF C ((C.did.get i).cell 0).toI V=v'→Round (fun y=>doF y.1 y.2.1 y.2.2.2.1 y.2.2.2.2) (fun y=>doH y.1 y.2.1 y.2.2.1) doT (fun y=>y.2.1.did.len - y.2.2.2.2) 0 (X,C,V,(C.did.len:Int),i) K (.normal,doF X C C.did.len (IntKind.wrap .i64 ((i:Int)+1)),doH X C v'):=by
      intro hlt v' hv
      subst hv
      refine ⟨(X,C,actF C ((C.did.get i).cell 0).toI V,(C.did.len:Int),i+1),⟨?_,rfl⟩,by show C.did.len - (i+1)<C.did.len - i; omega,?_⟩
      · rw [wrap_succ hlt hm]
      · unfold doT
        refine ⟨fun _=>?_,fun hf=>absurd ?_ (odf hf)⟩
        · have h:=H
          dsimp only at h ⊢
          rw [show C.did.len - i=(C.did.len - (i+1))+1 by omega] at h
          exact h
        · dsimp only
          have:=actF_len (c:=C) (a:=((C.did.get i).cell 0).toI) (v:=V) (by omega)
          exact ⟨rfl,by omega,h8,by omega⟩
    clear H
    obtain ⟨r0,mc0,mt0,mf0,wt0,st0,id0,rq0,d0,ct0,tm0,nk0,ic0,ii0,ix0,ac0,ax0,ad0,s0,did0⟩:=X
    obtain ⟨r,mc,mt,mf,wt,s,d,ic,ii,ix,ac,ax,ad,tk,didr,did⟩:=C
    obtain ⟨id,rq,ct,tm,nk,out⟩:=V
    dsimp only at hi h8 ho hm hout hnext hc
    show (roundT doL (evC _ _ _ _ _ _ (doF ⟨r0,mc0,mt0,mf0,wt0,st0,id0,rq0,d0,ct0,tm0,nk0,ic0,ii0,ix0,ac0,ax0,ad0,s0,did0⟩ ⟨r,mc,mt,mf,wt,s,d,ic,ii,ix,ac,ax,ad,tk,didr,did⟩ (did.len:Int) i) (doH ⟨r0,mc0,mt0,mf0,wt0,st0,id0,rq0,d0,ct0,tm0,nk0,ic0,ii0,ix0,ac0,ax0,ad0,s0,did0⟩ ⟨r,mc,mt,mf,wt,s,d,ic,ii,ix,ac,ax,ad,tk,didr,did⟩ ⟨id,rq,ct,tm,nk,out⟩))).holds _
    rw [do_body]
    simp only [Int.toNat_natCast]
    have room:(out.len+1)*40≤140737488355328:=by omega
    refine ⟨fun h1=>⟨fun h2=>?_,fun h2=>absurd ⟨by omega,odt h1⟩ (odf h2)⟩,fun h1=>?_⟩
    · have lf:=@(hnext (by have:=odt h1; omega))
      clear hnext hout
      refine ⟨fun h5=>⟨fun hh=>?_,fun hh=>?_⟩,fun h5=>⟨fun h6=>?_,fun h6=>⟨fun h7=>⟨fun _=>⟨fun _=>?_,fun h=>absurd room (odf h)⟩,fun h=>by cases h⟩,fun h7=>⟨fun h8=>⟨fun _=>?_,fun h=>absurd room (odf h)⟩,fun h8=>⟨fun h9=>⟨fun _=>⟨fun hh=>?_,fun hh=>?_⟩,fun h=>absurd room (odf h)⟩,fun h9=>⟨fun h10=>⟨fun _=>⟨fun _=>?_,fun h=>absurd room (odf h)⟩,fun h=>by cases h⟩,fun h10=>⟨fun h11=>⟨fun _=>?_,fun h=>absurd room (odf h)⟩,fun h11=>⟨fun h12=>?_,fun h12=>⟨fun h13=>⟨fun _=>?_,fun h=>absurd room (odf h)⟩,fun h13=>?_⟩⟩⟩⟩⟩⟩⟩⟩⟩
      · exact lf _ (by simp only [actF,h5,hh,cond_true]; rfl)
      · exact lf _ (by simp only [actF,h5,hh,cond_true,cond_false]; rfl)
      · exact lf _ (by simp only [actF,h5,h6,cond_true,cond_false]; rfl)
      · exact lf _ (by simp only [actF,h5,h6,h7,cond_true,cond_false]; rfl)
      · exact lf _ (by simp only [actF,h5,h6,h7,h8,cond_true,cond_false]; rfl)
      · exact lf _ (by simp only [actF,h5,h6,h7,h8,h9,hh,cond_true,cond_false]; rfl)
      · exact lf _ (by simp only [actF,h5,h6,h7,h8,h9,hh,cond_true,cond_false]; rfl)
      · exact lf _ (by simp only [actF,h5,h6,h7,h8,h9,h10,cond_true,cond_false]; rfl)
      · exact lf _ (by simp only [actF,h5,h6,h7,h8,h9,h10,h11,cond_true,cond_false]; rfl)
      · have s1:=fun hr:(rej7E ic ii ix (Int.tmod (IntKind.wrap IntKind.i64 (id+1)) 256)==0)=true=>lf _ (by simp only [actF,numN,h5,h6,h7,h8,h9,h10,h11,h12,hr,cond_true,cond_false]; rfl)
        have s2:=fun hr:(rej7E ic ii ix (Int.tmod (IntKind.wrap IntKind.i64 (id+1)) 256)==0)=false=>lf _ (by simp only [actF,numN,h5,h6,h7,h8,h9,h10,h11,h12,hr,cond_true,cond_false]; rfl)
        clear lf
        repeat' (first | refine And.intro (fun hq=>?_) (fun hq=>?_) | refine And.intro ?_ ?_)
        all_goals first | exact s1 (by assumption) | exact s2 (by assumption) | exact absurd room (odf (by assumption)) | (exfalso; contradiction)
      · exact lf _ (by simp only [actF,h5,h6,h7,h8,h9,h10,h11,h12,h13,cond_true,cond_false]; rfl)
      · exact lf _ (by simp only [actF,h5,h6,h7,h8,h9,h10,h11,h12,h13,cond_false]; rfl)
    · obtain rfl:i=did.len:=by have:=odf h1; omega
      exact hout rfl
abbrev ctlA (c i:Int) (x:D):AV:=.agg [ai c,ai i,asl byS x]
def mayG (P:Program):List (FuncId×Spec):=[(79,pureS P 79 FCopied),(82,pureS P 82 FSet),(83,pureS P 83 FSound)]
def rmaG (P:Program):List (FuncId×Spec):=[(47,pureS P 47 FSet),(48,pureS P 48 FSound)]
def mayB (m g mc mt mf wt st id rq:Int) (d:D) (ct tm nk tk:Int):Bool:=setB m g mc mt mf wt&&(soundB st id rq d ct tm nk&&inB tk 0 1099511627776)
def FMay:List AV→RT AV
  | [.agg [.sl false [.int .i64,.int .i64,.int .i64,.int .i64,.int .i64,.int .i64,.bool] r none,.sc false (.int .i64 mc),.sc false (.int .i64 mt),.sc false (.int .i64 mf),.sc false (.int .i64 wt)],
     .agg [.sc false (.int .i64 st),.sc false (.int .i64 id),.sc false (.int .i64 rq),.sl false [.int .i64,.sl [.int .u8]] d none,.sc false (.int .i64 ct),.sc false (.int .i64 tm),.sc false (.int .i64 nk)],.sc false (.int .i64 tk)]=>match rlOf r with
    | some (m,g)=>.ok (ab (mayB m.toI g.toI mc mt mf wt st id rq d ct tm nk tk))
    | none=>.bad 272
  | _=>.bad 272
def FAs:List AV→RT AV
  | [.agg [.sc false (.int .i64 st),.sc false (.int .i64 id),.sc false (.int .i64 rq),.sl false [.int .i64,.sl [.int .u8]] d none,.sc false (.int .i64 ct),.sc false (.int .i64 tm),.sc false (.int .i64 nk)]]=>.ok (autA st id rq d ct tm nk)
  | _=>.bad 273
theorem mayG_ok:GamL Tryz.prog (mayG Tryz.prog):=⟨copied_soundF,set_soundF,sou_soundF,trivial⟩
theorem rmaG_ok:GamL Tryz.prog (rmaG Tryz.prog):=⟨rset_soundF,rsou_soundF,trivial⟩
theorem as_tree (st id rq:Int) (d:D) (ct tm nk:Int):treeF (evF Tryz.prog (gam (mayG Tryz.prog)) (lam ([])) 100 93) [autA st id rq d ct tm nk] =
RT.ok (AV.agg [zi st,zi id,zi rq,zs zO d,zi ct,zi tm,zi nk]):=by rw [← fvF_eq Tryz.prog (gam (mayG Tryz.prog)) (lam ([])) false 100 93]; kernel_rfl
theorem may_tree (m g mc mt mf wt st id rq:Int) (d:D) (ct tm nk tk:Int):treeF (evF Tryz.prog (gam (mayG Tryz.prog)) (lam ([])) 100 127) [.agg [.sl true rlS (rulD m g) none,ai mc,ai mt,ai mf,ai wt],autA st id rq d ct tm nk,ai tk] =
RT.br (setB m g mc mt mf wt) (RT.br (soundB st id rq d ct tm nk) (RT.br (decide (0≤tk)) (RT.ok (zb (decide (tk≤1099511627776)))) (RT.ok (AV.sc true (Value.bool false)))) (RT.ok (AV.sc true (Value.bool false)))) (RT.ok (AV.sc true (Value.bool false))):=by rw [← fvF_eq Tryz.prog (gam (mayG Tryz.prog)) (lam ([])) false 100 127]; kernel_rfl
theorem fin_tree (m g mc mt mf wt st id rq:Int) (d:D) (ct tm nk tk:Int):treeF (evF Tryz.prog (gam (rmaG Tryz.prog)) (lam ([])) 100 152) [.agg [.sl true rlS (rulD m g) none,ai mc,ai mt,ai mf,ai wt],autA st id rq d ct tm nk,ai tk] =
RT.br (setB m g mc mt mf wt) (RT.br (soundB st id rq d ct tm nk) (RT.br (decide (0≤tk)) (RT.ok (zb (decide (tk≤1099511627776)))) (RT.ok (AV.sc true (Value.bool false)))) (RT.ok (AV.sc true (Value.bool false)))) (RT.ok (AV.sc true (Value.bool false))):=by rw [← fvF_eq Tryz.prog (gam (rmaG Tryz.prog)) (lam ([])) false 100 152]; kernel_rfl
theorem may_soundF:SoundF Tryz.prog 127 (pureS Tryz.prog 127 FMay):=by
  refine pure_by (gs:=mayG Tryz.prog) (ls:=[]) mixed mayG_ok trivial 127 100 fun args K ho H=>?_
  unfold FMay at H
  split at H
  · split at H
    · rename_i m g hr
      refine ⟨_,leL_cons (le_agg (leL_cons (rlOf_le (kn':=true) hr) fun _ _ h=>h)) fun _ _ h=>h,?_⟩
      generalize m.toI=m at H ⊢
      generalize g.toI=g at H ⊢
      rw [may_tree]
      simp only [RT.holds]
      repeat' refine And.intro (fun _=>?_) (fun _=>?_)
      all_goals exact ⟨_,le_bool (by simp_all [mayB,inB] <;> omega),H⟩
    · exact H.elim
  · exact H.elim
theorem fin_soundF:SoundF Tryz.prog 152 (pureS Tryz.prog 152 FMay):=by
  refine pure_by (gs:=rmaG Tryz.prog) (ls:=[]) mixed rmaG_ok trivial 152 100 fun args K ho H=>?_
  unfold FMay at H
  split at H
  · split at H
    · rename_i m g hr
      refine ⟨_,leL_cons (le_agg (leL_cons (rlOf_le (kn':=true) hr) fun _ _ h=>h)) fun _ _ h=>h,?_⟩
      generalize m.toI=m at H ⊢
      generalize g.toI=g at H ⊢
      rw [fin_tree]
      simp only [RT.holds]
      repeat' refine And.intro (fun _=>?_) (fun _=>?_)
      all_goals exact ⟨_,le_bool (by simp_all [mayB,inB] <;> omega),H⟩
    · exact H.elim
  · exact H.elim
theorem as_soundF:SoundF Tryz.prog 93 (pureS Tryz.prog 93 FAs):=by
  refine pure_in (gs:=mayG Tryz.prog) (ls:=[]) mixed mayG_ok trivial 93 100 fun args K ho H=>?_
  unfold FAs at H
  split at H
  · rw [as_tree]
    exact ⟨_,Le.refl _,H⟩
  · exact H.elim
def dooG (P:Program):List (FuncId×Spec):=(93,pureS P 93 FAs) :: (127,pureS P 127 FMay) :: (128,pureS P 128 FStep) :: doG P
theorem dooG_ok:GamL Tryz.prog (dooG Tryz.prog):=⟨as_soundF,may_soundF,step_soundF,doG_ok⟩
theorem doLs_ok:LamL Tryz.prog (doLs Tryz.prog):=⟨do_loop,strL_ok⟩
abbrev doo_treeT_1 (m g mc mt mf wt st id rq:Int) (d:D) (ct tm nk e ic ii:Int) (ix:D) (ac ax:Int) (ad:D) (tk:Int):=RT.br (rfcN st e==4) (RT.ok (AV.tup [AV.agg [zi (rfcN st e),zi (DoV.id (actsF (DoC.mk (D.l [D.t [D.ki 1,D.ki 2,D.ki 2,D.ki 128,D.ki 1492,D.ki 1492,D.kb false],D.t [D.ki 5,D.ki 4,D.ki 4,D.i m,D.ki 0,D.i g,D.kb false]]) mc mt mf wt (rfcN st e) d ic ii ix ac ax ad tk (rfcD st e) (rfcD st e)) (rfcD st e) (D.len (rfcD st e) - 0) 0 (DoV.mk id rq ct tm nk (D.l [])))),zi (DoV.rq (actsF (DoC.mk (D.l [D.t [D.ki 1,D.ki 2,D.ki 2,D.ki 128,D.ki 1492,D.ki 1492,D.kb false],D.t [D.ki 5,D.ki 4,D.ki 4,D.i m,D.ki 0,D.i g,D.kb false]]) mc mt mf wt (rfcN st e) d ic ii ix ac ax ad tk (rfcD st e) (rfcD st e)) (rfcD st e) (D.len (rfcD st e) - 0) 0 (DoV.mk id rq ct tm nk (D.l [])))),zs zO d,zi (DoV.ct (actsF (DoC.mk (D.l [D.t [D.ki 1,D.ki 2,D.ki 2,D.ki 128,D.ki 1492,D.ki 1492,D.kb false],D.t [D.ki 5,D.ki 4,D.ki 4,D.i m,D.ki 0,D.i g,D.kb false]]) mc mt mf wt (rfcN st e) d ic ii ix ac ax ad tk (rfcD st e) (rfcD st e)) (rfcD st e) (D.len (rfcD st e) - 0) 0 (DoV.mk id rq ct tm nk (D.l [])))),zi (DoV.tm (actsF (DoC.mk (D.l [D.t [D.ki 1,D.ki 2,D.ki 2,D.ki 128,D.ki 1492,D.ki 1492,D.kb false],D.t [D.ki 5,D.ki 4,D.ki 4,D.i m,D.ki 0,D.i g,D.kb false]]) mc mt mf wt (rfcN st e) d ic ii ix ac ax ad tk (rfcD st e) (rfcD st e)) (rfcD st e) (D.len (rfcD st e) - 0) 0 (DoV.mk id rq ct tm nk (D.l [])))),zi (DoV.nk (actsF (DoC.mk (D.l [D.t [D.ki 1,D.ki 2,D.ki 2,D.ki 128,D.ki 1492,D.ki 1492,D.kb false],D.t [D.ki 5,D.ki 4,D.ki 4,D.i m,D.ki 0,D.i g,D.kb false]]) mc mt mf wt (rfcN st e) d ic ii ix ac ax ad tk (rfcD st e) (rfcD st e)) (rfcD st e) (D.len (rfcD st e) - 0) 0 (DoV.mk id rq ct tm nk (D.l []))))],zs zC (DoV.out (actsF (DoC.mk (D.l [D.t [D.ki 1,D.ki 2,D.ki 2,D.ki 128,D.ki 1492,D.ki 1492,D.kb false],D.t [D.ki 5,D.ki 4,D.ki 4,D.i m,D.ki 0,D.i g,D.kb false]]) mc mt mf wt (rfcN st e) d ic ii ix ac ax ad tk (rfcD st e) (rfcD st e)) (rfcD st e) (D.len (rfcD st e) - 0) 0 (DoV.mk id rq ct tm nk (D.l [])))),zs zN (rfcD st e)])) (RT.br (!rfcN st e==5) (RT.ok (AV.tup [AV.agg [zi (rfcN st e),zi (DoV.id (actsF (DoC.mk (D.l [D.t [D.ki 1,D.ki 2,D.ki 2,D.ki 128,D.ki 1492,D.ki 1492,D.kb false],D.t [D.ki 5,D.ki 4,D.ki 4,D.i m,D.ki 0,D.i g,D.kb false]]) mc mt mf wt (rfcN st e) d ic ii ix ac ax ad tk (rfcD st e) (rfcD st e)) (rfcD st e) (D.len (rfcD st e) - 0) 0 (DoV.mk id rq ct tm nk (D.l [])))),zi (DoV.rq (actsF (DoC.mk (D.l [D.t [D.ki 1,D.ki 2,D.ki 2,D.ki 128,D.ki 1492,D.ki 1492,D.kb false],D.t [D.ki 5,D.ki 4,D.ki 4,D.i m,D.ki 0,D.i g,D.kb false]]) mc mt mf wt (rfcN st e) d ic ii ix ac ax ad tk (rfcD st e) (rfcD st e)) (rfcD st e) (D.len (rfcD st e) - 0) 0 (DoV.mk id rq ct tm nk (D.l [])))),zs zO d,zi (DoV.ct (actsF (DoC.mk (D.l [D.t [D.ki 1,D.ki 2,D.ki 2,D.ki 128,D.ki 1492,D.ki 1492,D.kb false],D.t [D.ki 5,D.ki 4,D.ki 4,D.i m,D.ki 0,D.i g,D.kb false]]) mc mt mf wt (rfcN st e) d ic ii ix ac ax ad tk (rfcD st e) (rfcD st e)) (rfcD st e) (D.len (rfcD st e) - 0) 0 (DoV.mk id rq ct tm nk (D.l [])))),zk 0,zi (DoV.nk (actsF (DoC.mk (D.l [D.t [D.ki 1,D.ki 2,D.ki 2,D.ki 128,D.ki 1492,D.ki 1492,D.kb false],D.t [D.ki 5,D.ki 4,D.ki 4,D.i m,D.ki 0,D.i g,D.kb false]]) mc mt mf wt (rfcN st e) d ic ii ix ac ax ad tk (rfcD st e) (rfcD st e)) (rfcD st e) (D.len (rfcD st e) - 0) 0 (DoV.mk id rq ct tm nk (D.l []))))],zs zC (DoV.out (actsF (DoC.mk (D.l [D.t [D.ki 1,D.ki 2,D.ki 2,D.ki 128,D.ki 1492,D.ki 1492,D.kb false],D.t [D.ki 5,D.ki 4,D.ki 4,D.i m,D.ki 0,D.i g,D.kb false]]) mc mt mf wt (rfcN st e) d ic ii ix ac ax ad tk (rfcD st e) (rfcD st e)) (rfcD st e) (D.len (rfcD st e) - 0) 0 (DoV.mk id rq ct tm nk (D.l [])))),zs zN (rfcD st e)])) (RT.ok (AV.tup [AV.agg [zi (rfcN st e),zi (DoV.id (actsF (DoC.mk (D.l [D.t [D.ki 1,D.ki 2,D.ki 2,D.ki 128,D.ki 1492,D.ki 1492,D.kb false],D.t [D.ki 5,D.ki 4,D.ki 4,D.i m,D.ki 0,D.i g,D.kb false]]) mc mt mf wt (rfcN st e) d ic ii ix ac ax ad tk (rfcD st e) (rfcD st e)) (rfcD st e) (D.len (rfcD st e) - 0) 0 (DoV.mk id rq ct tm nk (D.l [])))),zi (DoV.rq (actsF (DoC.mk (D.l [D.t [D.ki 1,D.ki 2,D.ki 2,D.ki 128,D.ki 1492,D.ki 1492,D.kb false],D.t [D.ki 5,D.ki 4,D.ki 4,D.i m,D.ki 0,D.i g,D.kb false]]) mc mt mf wt (rfcN st e) d ic ii ix ac ax ad tk (rfcD st e) (rfcD st e)) (rfcD st e) (D.len (rfcD st e) - 0) 0 (DoV.mk id rq ct tm nk (D.l [])))),zs zO d,zi (DoV.ct (actsF (DoC.mk (D.l [D.t [D.ki 1,D.ki 2,D.ki 2,D.ki 128,D.ki 1492,D.ki 1492,D.kb false],D.t [D.ki 5,D.ki 4,D.ki 4,D.i m,D.ki 0,D.i g,D.kb false]]) mc mt mf wt (rfcN st e) d ic ii ix ac ax ad tk (rfcD st e) (rfcD st e)) (rfcD st e) (D.len (rfcD st e) - 0) 0 (DoV.mk id rq ct tm nk (D.l [])))),zi (DoV.tm (actsF (DoC.mk (D.l [D.t [D.ki 1,D.ki 2,D.ki 2,D.ki 128,D.ki 1492,D.ki 1492,D.kb false],D.t [D.ki 5,D.ki 4,D.ki 4,D.i m,D.ki 0,D.i g,D.kb false]]) mc mt mf wt (rfcN st e) d ic ii ix ac ax ad tk (rfcD st e) (rfcD st e)) (rfcD st e) (D.len (rfcD st e) - 0) 0 (DoV.mk id rq ct tm nk (D.l [])))),zi (DoV.nk (actsF (DoC.mk (D.l [D.t [D.ki 1,D.ki 2,D.ki 2,D.ki 128,D.ki 1492,D.ki 1492,D.kb false],D.t [D.ki 5,D.ki 4,D.ki 4,D.i m,D.ki 0,D.i g,D.kb false]]) mc mt mf wt (rfcN st e) d ic ii ix ac ax ad tk (rfcD st e) (rfcD st e)) (rfcD st e) (D.len (rfcD st e) - 0) 0 (DoV.mk id rq ct tm nk (D.l []))))],zs zC (DoV.out (actsF (DoC.mk (D.l [D.t [D.ki 1,D.ki 2,D.ki 2,D.ki 128,D.ki 1492,D.ki 1492,D.kb false],D.t [D.ki 5,D.ki 4,D.ki 4,D.i m,D.ki 0,D.i g,D.kb false]]) mc mt mf wt (rfcN st e) d ic ii ix ac ax ad tk (rfcD st e) (rfcD st e)) (rfcD st e) (D.len (rfcD st e) - 0) 0 (DoV.mk id rq ct tm nk (D.l [])))),zs zN (rfcD st e)])))
def doo_treeT (m g mc mt mf wt st id rq:Int) (d:D) (ct tm nk e ic ii:Int) (ix:D) (ac ax:Int) (ad:D) (tk:Int):RT AV :=
RT.br (!mayB m g mc mt mf wt st id rq d ct tm nk tk) (RT.ok (AV.tup [AV.agg [zi st,zi id,zi rq,zs zO d,zi ct,zi tm,zi nk],zz,zz])) (RT.br (rfcE st e != 0) (RT.ok (AV.tup [AV.agg [zi st,zi id,zi rq,zs zO d,zi ct,zi tm,zi nk],zz,zz])) (RT.br (decide ((↑(D.len (rfcD st e)):Int)=(↑(D.len (rfcD st e)):Int)∧0≤D.len (rfcD st e)∧D.len (rfcD st e)≤8∧(0:Nat)≤0)) (RT.br (decide (6≤rfcN st e)) (RT.br (decide (rfcN st e≤8)) (RT.ok (AV.tup [AV.agg [zi (rfcN st e),zi (DoV.id (actsF (DoC.mk (D.l [D.t [D.ki 1,D.ki 2,D.ki 2,D.ki 128,D.ki 1492,D.ki 1492,D.kb false],D.t [D.ki 5,D.ki 4,D.ki 4,D.i m,D.ki 0,D.i g,D.kb false]]) mc mt mf wt (rfcN st e) d ic ii ix ac ax ad tk (rfcD st e) (rfcD st e)) (rfcD st e) (D.len (rfcD st e) - 0) 0 (DoV.mk id rq ct tm nk (D.l [])))),zi (DoV.rq (actsF (DoC.mk (D.l [D.t [D.ki 1,D.ki 2,D.ki 2,D.ki 128,D.ki 1492,D.ki 1492,D.kb false],D.t [D.ki 5,D.ki 4,D.ki 4,D.i m,D.ki 0,D.i g,D.kb false]]) mc mt mf wt (rfcN st e) d ic ii ix ac ax ad tk (rfcD st e) (rfcD st e)) (rfcD st e) (D.len (rfcD st e) - 0) 0 (DoV.mk id rq ct tm nk (D.l [])))),zs zO d,zi (DoV.ct (actsF (DoC.mk (D.l [D.t [D.ki 1,D.ki 2,D.ki 2,D.ki 128,D.ki 1492,D.ki 1492,D.kb false],D.t [D.ki 5,D.ki 4,D.ki 4,D.i m,D.ki 0,D.i g,D.kb false]]) mc mt mf wt (rfcN st e) d ic ii ix ac ax ad tk (rfcD st e) (rfcD st e)) (rfcD st e) (D.len (rfcD st e) - 0) 0 (DoV.mk id rq ct tm nk (D.l [])))),zi (DoV.tm (actsF (DoC.mk (D.l [D.t [D.ki 1,D.ki 2,D.ki 2,D.ki 128,D.ki 1492,D.ki 1492,D.kb false],D.t [D.ki 5,D.ki 4,D.ki 4,D.i m,D.ki 0,D.i g,D.kb false]]) mc mt mf wt (rfcN st e) d ic ii ix ac ax ad tk (rfcD st e) (rfcD st e)) (rfcD st e) (D.len (rfcD st e) - 0) 0 (DoV.mk id rq ct tm nk (D.l [])))),zi (DoV.nk (actsF (DoC.mk (D.l [D.t [D.ki 1,D.ki 2,D.ki 2,D.ki 128,D.ki 1492,D.ki 1492,D.kb false],D.t [D.ki 5,D.ki 4,D.ki 4,D.i m,D.ki 0,D.i g,D.kb false]]) mc mt mf wt (rfcN st e) d ic ii ix ac ax ad tk (rfcD st e) (rfcD st e)) (rfcD st e) (D.len (rfcD st e) - 0) 0 (DoV.mk id rq ct tm nk (D.l []))))],zs zC (DoV.out (actsF (DoC.mk (D.l [D.t [D.ki 1,D.ki 2,D.ki 2,D.ki 128,D.ki 1492,D.ki 1492,D.kb false],D.t [D.ki 5,D.ki 4,D.ki 4,D.i m,D.ki 0,D.i g,D.kb false]]) mc mt mf wt (rfcN st e) d ic ii ix ac ax ad tk (rfcD st e) (rfcD st e)) (rfcD st e) (D.len (rfcD st e) - 0) 0 (DoV.mk id rq ct tm nk (D.l [])))),zs zN (rfcD st e)])) (doo_treeT_1 m g mc mt mf wt st id rq d ct tm nk e ic ii ix ac ax ad tk)) (doo_treeT_1 m g mc mt mf wt st id rq d ct tm nk e ic ii ix ac ax ad tk)) (RT.bad 210)))
theorem doo_tree (m g mc mt mf wt st id rq:Int) (d:D) (ct tm nk e ic ii:Int) (ix:D) (ac ax:Int) (ad:D) (tk:Int):treeF (evF Tryz.prog (gam (dooG Tryz.prog)) (lam (doLs Tryz.prog)) 100 94) [.agg [.sl false rlS (rulD m g) none,ai mc,ai mt,ai mf,ai wt],autA st id rq d ct tm nk,ai e,ctlA ic ii ix,ctlA ac ax ad,ai tk]=doo_treeT m g mc mt mf wt st id rq d ct tm nk e ic ii ix ac ax ad tk:=by rw [← fvF_eq Tryz.prog (gam (dooG Tryz.prog)) (lam (doLs Tryz.prog)) false 100 94]; kernel_rfl
structure AuV where
  (st id rq:Int)
  d:D
  (ct tm nk:Int)
structure DoneV where
  a:AuV
  (out did:D)
abbrev auvA (a:AuV):AV:=autA a.st a.id a.rq a.d a.ct a.tm a.nk
abbrev doneA (w:DoneV):AV:=.tup [auvA w.a,asl ctS w.out,asl acS w.did]
def tmdB (s:Int):Bool:=decide (4≤s∧s≤8)
def doK (m g mc mt mf wt st e:Int) (d:D) (ic ii:Int) (ix:D) (ac ax:Int) (ad:D) (tk:Int):DoC:=⟨rulD m g,mc,mt,mf,wt,rfcN st e,d,ic,ii,ix,ac,ax,ad,tk,rfcD st e,rfcD st e⟩
def doR (m g mc mt mf wt:Int) (a:AuV) (e ic ii:Int) (ix:D) (ac ax:Int) (ad:D) (tk:Int):DoV:=actsF (doK m g mc mt mf wt a.st e a.d ic ii ix ac ax ad tk) (rfcD a.st e) (rfcD a.st e).len 0 ⟨a.id,a.rq,a.ct,a.tm,a.nk,.l []⟩
def doB (m g mc mt mf wt:Int) (a:AuV) (e tk:Int):Bool:=mayB m g mc mt mf wt a.st a.id a.rq a.d a.ct a.tm a.nk tk&&rfcE a.st e==0
def doW (m g mc mt mf wt:Int) (a:AuV) (e ic ii:Int) (ix:D) (ac ax:Int) (ad:D) (tk:Int):DoneV :=
  bif doB m g mc mt mf wt a e tk then
    ⟨⟨rfcN a.st e,(doR m g mc mt mf wt a e ic ii ix ac ax ad tk).id,(doR m g mc mt mf wt a e ic ii ix ac ax ad tk).rq,a.d,(doR m g mc mt mf wt a e ic ii ix ac ax ad tk).ct,bif tmdB (rfcN a.st e) then (doR m g mc mt mf wt a e ic ii ix ac ax ad tk).tm else 0,(doR m g mc mt mf wt a e ic ii ix ac ax ad tk).nk⟩,(doR m g mc mt mf wt a e ic ii ix ac ax ad tk).out,rfcD a.st e⟩
  else ⟨a,.l [],.l []⟩
def FDo:List AV→RT AV
  | [.agg [.sl false [.int .i64,.int .i64,.int .i64,.int .i64,.int .i64,.int .i64,.bool] r none,.sc false (.int .i64 mc),.sc false (.int .i64 mt),.sc false (.int .i64 mf),.sc false (.int .i64 wt)],
     .agg [.sc false (.int .i64 st),.sc false (.int .i64 id),.sc false (.int .i64 rq),.sl false [.int .i64,.sl [.int .u8]] d none,.sc false (.int .i64 ct),.sc false (.int .i64 tm),.sc false (.int .i64 nk)],.sc false (.int .i64 e),
     .agg [.sc false (.int .i64 ic),.sc false (.int .i64 ii),.sl false [.int .u8] ix none],.agg [.sc false (.int .i64 ac),.sc false (.int .i64 ax),.sl false [.int .u8] ad none],.sc false (.int .i64 tk)]=>match rlOf r with
    | some (m,g)=>.ok (doneA (doW m.toI g.toI mc mt mf wt ⟨st,id,rq,d,ct,tm,nk⟩ e ic ii ix ac ax ad tk))
    | none=>.bad 274
  | _=>.bad 274
theorem rfc_short:(rfcT.all fun row=>row.all fun o=>match o with | some p=>decide (p.1.length≤3) | none=>true)=true:=by kernel_rfl
theorem rfcX_len {st e:Int} {p:List Int×Int} (h:rfcX st e=some p):p.1.length≤3:=by
  unfold rfcX at h
  cases hb:rfcB st e
  · rw [hb] at h; cases h
  · rw [hb,cond_true] at h
    rw [List.getD_eq_getElem?_getD,List.getD_eq_getElem?_getD] at h
    cases hr:rfcT[e.toNat - 1]? with
    | none=>rw [hr] at h; simp at h
    | some row =>
      rw [hr,Option.getD_some] at h
      cases ho:row[st.toNat]? with
      | none=>rw [ho] at h; simp at h
      | some o =>
        rw [ho,Option.getD_some] at h
        subst h
        have:=List.all_eq_true.1 (List.all_eq_true.1 rfc_short row (List.mem_of_getElem? hr)) _ (List.mem_of_getElem? ho)
        simpa using this
theorem rfcD_len (st e:Int):(rfcD st e).len≤3:=by
  unfold rfcD
  cases h:rfcX st e with
  | none=>simp [D.len,D.toL,D.raw]
  | some p =>
    have:=rfcX_len h
    unfold D.len
    rw [toL_l (by rw [List.length_map]; unfold maxLen; omega),List.length_map]
    exact this
theorem doW_off {m g mc mt mf wt:Int} {a:AuV} {e ic ii:Int} {ix:D} {ac ax:Int} {ad:D} {tk:Int} (h:doB m g mc mt mf wt a e tk=false):doW m g mc mt mf wt a e ic ii ix ac ax ad tk=⟨a,.l [],.l []⟩:=by
  unfold doW; rw [h]; rfl
theorem doW_on {m g mc mt mf wt:Int} {a:AuV} {e ic ii:Int} {ix:D} {ac ax:Int} {ad:D} {tk:Int} (h:doB m g mc mt mf wt a e tk=true):doW m g mc mt mf wt a e ic ii ix ac ax ad tk=⟨⟨rfcN a.st e,(doR m g mc mt mf wt a e ic ii ix ac ax ad tk).id,(doR m g mc mt mf wt a e ic ii ix ac ax ad tk).rq,a.d,(doR m g mc mt mf wt a e ic ii ix ac ax ad tk).ct,bif tmdB (rfcN a.st e) then (doR m g mc mt mf wt a e ic ii ix ac ax ad tk).tm else 0,(doR m g mc mt mf wt a e ic ii ix ac ax ad tk).nk⟩,(doR m g mc mt mf wt a e ic ii ix ac ax ad tk).out,rfcD a.st e⟩:=by
  unfold doW; rw [h]; rfl
theorem le_two' {a b c a' b' c':AV} (h1:Le a a') (h2:Le b b') (h3:Le c c'):Le (.tup [a,b,c]) (.tup [a',b',c']):=le_tup (leL_cons h1 (leL_cons h2 (leL_cons h3 leL_nil)))
theorem le_off {a:AuV} {kn kn':Bool}:Le (.tup [auvA a,.sc kn (.slice none 0 0),.sc kn' (.slice none 0 0)]) (doneA ⟨a,.l [],.l []⟩):=le_two' (Le.refl _) (le_nil nil_len) (le_nil nil_len)
set_option maxHeartbeats 1000000 in
theorem do_soundF:SoundF Tryz.prog 94 (pureS Tryz.prog 94 FDo):=by
  refine pure_by (gs:=dooG Tryz.prog) (ls:=doLs Tryz.prog) mixed dooG_ok doLs_ok 94 100 fun args K ho H=>?_
  unfold FDo at H
  split at H
  · split at H
    · rename_i r mc mt mf wt st id rq d ct tm nk e ic ii ix ac ax ad tk _ m g hr
      refine ⟨_,leL_cons (le_agg (leL_cons (rlOf_le (kn':=false) hr) fun _ _ h=>h)) fun _ _ h=>h,?_⟩
      generalize m.toI=m at H ⊢
      generalize g.toI=g at H ⊢
      rw [doo_tree]
      have off:doB m g mc mt mf wt ⟨st,id,rq,d,ct,tm,nk⟩ e tk=false→∃ y,Le (.tup [auvA ⟨st,id,rq,d,ct,tm,nk⟩,.sc true (.slice none 0 0),.sc true (.slice none 0 0)]) y∧K y:=fun h=>by
        rw [doW_off h] at H
        exact ⟨_,le_off,H⟩
      refine ⟨fun h1=>off ?_,fun h1=>⟨fun h2=>off ?_,fun h2=>⟨fun _=>?_,fun h=>absurd ⟨rfl,Nat.zero_le _,by have:=rfcD_len st e; omega,Nat.le_refl _⟩ (odf h)⟩⟩⟩
      · unfold doB; rw [Bool.and_eq_false_iff]; exact Or.inl (by simpa using h1)
      · unfold doB; rw [Bool.and_eq_false_iff]; exact Or.inr (by simpa using h2)
      have hb:doB m g mc mt mf wt ⟨st,id,rq,d,ct,tm,nk⟩ e tk=true:=by
        unfold doB; rw [Bool.and_eq_true]; exact ⟨by simpa using h1,by simpa using h2⟩
      clear off
      rw [doW_on hb] at H
      have on:tmdB (rfcN st e)=true→∃ y,Le (doneA ⟨⟨rfcN st e,(doR m g mc mt mf wt ⟨st,id,rq,d,ct,tm,nk⟩ e ic ii ix ac ax ad tk).id,(doR m g mc mt mf wt ⟨st,id,rq,d,ct,tm,nk⟩ e ic ii ix ac ax ad tk).rq,d,(doR m g mc mt mf wt ⟨st,id,rq,d,ct,tm,nk⟩ e ic ii ix ac ax ad tk).ct,(doR m g mc mt mf wt ⟨st,id,rq,d,ct,tm,nk⟩ e ic ii ix ac ax ad tk).tm,(doR m g mc mt mf wt ⟨st,id,rq,d,ct,tm,nk⟩ e ic ii ix ac ax ad tk).nk⟩,(doR m g mc mt mf wt ⟨st,id,rq,d,ct,tm,nk⟩ e ic ii ix ac ax ad tk).out,rfcD st e⟩) y∧K y:=fun ht=>by
        rw [ht] at H
        exact ⟨_,Le.refl _,H⟩
      have no:tmdB (rfcN st e)=false→∃ y,Le (.tup [.agg [ai (rfcN st e),ai (doR m g mc mt mf wt ⟨st,id,rq,d,ct,tm,nk⟩ e ic ii ix ac ax ad tk).id,ai (doR m g mc mt mf wt ⟨st,id,rq,d,ct,tm,nk⟩ e ic ii ix ac ax ad tk).rq,asl opS d,ai (doR m g mc mt mf wt ⟨st,id,rq,d,ct,tm,nk⟩ e ic ii ix ac ax ad tk).ct,.sc true (.int .i64 0),ai (doR m g mc mt mf wt ⟨st,id,rq,d,ct,tm,nk⟩ e ic ii ix ac ax ad tk).nk],asl ctS (doR m g mc mt mf wt ⟨st,id,rq,d,ct,tm,nk⟩ e ic ii ix ac ax ad tk).out,asl acS (rfcD st e)]) y∧K y:=fun ht=>by
        rw [ht] at H
        exact ⟨_,le_two' (le_agg (leL_cons (Le.refl _) (leL_cons (Le.refl _) (leL_cons (Le.refl _) (leL_cons (Le.refl _) (leL_cons (Le.refl _) (leL_cons (le_int rfl) fun _ _ h=>h))))))) (Le.refl _) (Le.refl _),H⟩
      clear H
      unfold tmdB at on no
      refine ⟨fun h3=>⟨fun h4=>on ?_,fun h4=>⟨fun h5=>on ?_,fun h5=>⟨fun h6=>no ?_,fun h6=>on ?_⟩⟩⟩,fun h3=>⟨fun h5=>on ?_,fun h5=>⟨fun h6=>no ?_,fun h6=>on ?_⟩⟩⟩
      all_goals simp only [decide_eq_true_eq,decide_eq_false_iff_not,Bool.not_eq_true',Bool.not_eq_false',beq_iff_eq,beq_eq_false_iff_ne] at *
      all_goals omega
    · exact H.elim
  · exact H.elim
def rdoG (P:Program):List (FuncId×Spec):=(190,pureS P 190 FHas) :: (192,pureS P 192 FRej7) :: encG P
structure RdX where
  r0:D
  (mc0 mt0 mf0 wt0 st0 id0 rq0:Int)
  d0:D
  (ct0 tm0 nk0 s0:Int)
structure RdC where
  r:D
  (mc mt mf wt s:Int)
  d:D
  (ic ii:Int)
  ix:D
  (ac ax:Int)
  ad:D
  tk:Int
  did:D
def RdC.c (y:RdC):DoC:=⟨y.r,y.mc,y.mt,y.mf,y.wt,y.s,y.d,y.ic,y.ii,y.ix,y.ac,y.ax,y.ad,y.tk,y.did,y.did⟩
def rdL:Lw:=⟨[5,9,10,12,13,14,15,16,18,19],[(true,5,12, 32)],6,1,1000,1000⟩
def rdF (x:RdX) (c:RdC) (i:Int):Tm:=⟨69,[(5,ai c.tk),(9,.ptr 2 0),(10,.ptr 3 0),(12,.ptr 4 0),(13,.sc false (.slice none 0 0)),(14,.sc false (.slice none 0 0)),(15,ai x.s0),(16,asl acS c.did),(18,.ptr 5 0),(19,ai i)],[]⟩
def rdH (x:RdX) (c:RdC) (v:DoV):Hp:=⟨[(0,[asl rlS x.r0,ai x.mc0,ai x.mt0,ai x.mf0,ai x.wt0]),(1,[ai x.st0,ai x.id0,ai x.rq0,asl opS x.d0,ai x.ct0,ai x.tm0,ai x.nk0]),(2,[ai c.ic,ai c.ii,asl byS c.ix]),(3,[ai c.ac,ai c.ax,asl byS c.ad]),(4,[zi 0,zi 0,zi 0,.sc false (.slice none 0 0),zi 0,zi 0,zi 0]),(5,[asl rlS c.r,ai c.mc,ai c.mt,ai c.mf,ai c.wt,ai c.s,ai v.id,ai v.rq,asl opS c.d,ai v.ct,ai v.tm,ai v.nk,sh ctS v.out 0 1000])],6,[(0,1000, 32)],1,1001,1000⟩
def rtDec:Tm→Option (Int×Int×D)
  | ⟨69,[(5,c5),(9,.ptr 2 0),(10,.ptr 3 0),(12,.ptr 4 0),(13,.sc false (.slice none 0 0)),(14,.sc false (.slice none 0 0)),(15,c15),(16,c16),(18,.ptr 5 0),(19,.sc false (.int .i64 0))],[]⟩ =>
    (nDec c5).bind fun tk=>(nDec c15).bind fun s0=>(aDec c16).bind fun did=>some (tk,s0,did)
  | _=>none
def rrDec:List AV→Option ((D×Int×Int×Int×Int)×(Int×Int×Int×D×Int×Int×Int))
  | [c0,c1,c2,c3,c4,c5,c6,c7,c8,c9,c10,c11,c12]=>(cfDec [c0,c1,c2,c3,c4]).bind fun a=>(auDec [c5,c6,c7,c8,c9,c10,c11]).bind fun b=>(oDec c12).bind fun _=>some (a,b)
  | _=>none
def rhDec:Hp→Option ((D×Int×Int×Int×Int)×(Int×Int×Int×D×Int×Int×Int)×(Int×Int×D)×(Int×Int×D)×((D×Int×Int×Int×Int)×(Int×Int×Int×D×Int×Int×Int)))
  | ⟨[(0,o0),(1,o1),(2,o2),(3,o3),(4,o4),(5,o5)],6,[(0,1000, 32)],1,1001,1000⟩ =>
    (cfDec o0).bind fun a=>(auDec o1).bind fun b=>(ctDec o2).bind fun c=>(ctDec o3).bind fun d=>(zDec o4).bind fun _=>(rrDec o5).bind fun e=>some (a,b,c,d,e)
  | _=>none
def rdDec (F:Tm) (h:Hp):Option (RdX×RdC×DoV×Nat):=(rtDec F).bind fun t=>(rhDec h).bind fun y=>some
  (⟨y.1.1,y.1.2.1,y.1.2.2.1,y.1.2.2.2.1,y.1.2.2.2.2,y.2.1.1,y.2.1.2.1,y.2.1.2.2.1,y.2.1.2.2.2.1,y.2.1.2.2.2.2.1,y.2.1.2.2.2.2.2.1,y.2.1.2.2.2.2.2.2,t.2.1⟩,
   ⟨y.2.2.2.2.1.1,y.2.2.2.2.1.2.1,y.2.2.2.2.1.2.2.1,y.2.2.2.2.1.2.2.2.1,y.2.2.2.2.1.2.2.2.2,y.2.2.2.2.2.1,y.2.2.2.2.2.2.2.2.1,y.2.2.1.1,y.2.2.1.2.1,y.2.2.1.2.2,y.2.2.2.1.1,y.2.2.2.1.2.1,y.2.2.2.1.2.2,t.1,t.2.2⟩,
   ⟨y.2.2.2.2.2.2.1,y.2.2.2.2.2.2.2.1,y.2.2.2.2.2.2.2.2.2.1,y.2.2.2.2.2.2.2.2.2.2.1,y.2.2.2.2.2.2.2.2.2.2.2,.l []⟩,0)
def rdT (y:RdX×RdC×DoV×Nat):RT Out:=need false (decide (y.2.2.2≤y.2.1.did.len∧y.2.1.did.len≤8∧y.2.2.1.out.len≤y.2.2.2∧(0≤y.2.1.mc∧y.2.1.mc≤1000)∧(0≤y.2.1.mt∧y.2.1.mt≤1000)∧(0≤y.2.2.1.ct∧y.2.2.1.ct≤1000)∧(0≤y.2.2.1.nk∧y.2.2.1.nk≤1000))) 210
  (.ok (.normal,rdF y.1 y.2.1 y.2.1.did.len,rdH y.1 y.2.1 (actsF y.2.1.c y.2.1.did (y.2.1.did.len - y.2.2.2) y.2.2.2 y.2.2.1)))
def rdLs (P:Program):List (FuncId×Nat×BSpec):=[(135,0,loopS P rdL rdDec rdT)]
abbrev rd_body_1 (r0:D) (mc0 mt0 mf0 wt0 st0 id0 rq0:Int) (d0:D) (ct0 tm0 nk0 s0:Int) (r:D) (mc mt mf wt s:Int) (d:D) (ic ii:Int) (ix:D) (ac ax:Int) (ad:D) (tk:Int) (did:D) (id rq ct tm nk:Int) (out:D) (i:Int):=RT.ok (Ex.normal,(Tm.mk 69 [(5,zi tk),(9,AV.ptr 2 0),(10,AV.ptr 3 0),(12,AV.ptr 4 0),(13,zy),(14,zy),(15,zi s0),(16,zs zN did),(18,AV.ptr 5 0),(19,zi (IntKind.wrap IntKind.i64 (i+1)))] []),(Hp.mk [(0,[zs zR r0,zi mc0,zi mt0,zi mf0,zi wt0]),(1,[zi st0,zi id0,zi rq0,zs zO d0,zi ct0,zi tm0,zi nk0]),(2,[zi ic,zi ii,zs zU ix]),(3,[zi ac,zi ax,zs zU ad]),(4,[zi 0,zi 0,zi 0,zy,zi 0,zi 0,zi 0]),(5,[zs zR r,zi mc,zi mt,zi mf,zi wt,zi s,zi id,zi rq,zs zO d,zi ct,zi tm,zi nk,AV.sl false zC (D.app out (D.l [D.t [D.i ac,D.i ax,ad]])) (some (0,1000))])] 6 [(0,1000,32)] 1 1001 1000))
theorem rd_body (r0:D) (mc0 mt0 mf0 wt0 st0 id0 rq0:Int) (d0:D) (ct0 tm0 nk0 s0:Int) (r:D) (mc mt mf wt s:Int) (d:D) (ic ii:Int) (ix:D) (ac ax:Int) (ad:D) (tk:Int) (did:D) (id rq ct tm nk:Int) (out:D) (i:Int):roundT (rdL) (evC Tryz.prog (gam (rdoG Tryz.prog)) (lam ([])) 100 135 (loopAt 0 (bodyOf Tryz.prog 135)) (rdF ⟨r0,mc0,mt0,mf0,wt0,st0,id0,rq0,d0,ct0,tm0,nk0,s0⟩ ⟨r,mc,mt,mf,wt,s,d,ic,ii,ix,ac,ax,ad,tk,did⟩ i) (rdH ⟨r0,mc0,mt0,mf0,wt0,st0,id0,rq0,d0,ct0,tm0,nk0,s0⟩ ⟨r,mc,mt,mf,wt,s,d,ic,ii,ix,ac,ax,ad,tk,did⟩ ⟨id,rq,ct,tm,nk,out⟩)) =
RT.br (decide (i<(↑(D.len did):Int))) (RT.br (decide (0≤i∧i<(↑(D.len did):Int))) (RT.br (D.toI (D.cell (D.get did (Int.toNat i)) 0)==5) (RT.br (hasA did 10) (RT.ok (Ex.normal,(Tm.mk 69 [(5,zi tk),(9,AV.ptr 2 0),(10,AV.ptr 3 0),(12,AV.ptr 4 0),(13,zy),(14,zy),(15,zi s0),(16,zs zN did),(18,AV.ptr 5 0),(19,zi (IntKind.wrap IntKind.i64 (i+1)))] []),(Hp.mk [(0,[zs zR r0,zi mc0,zi mt0,zi mf0,zi wt0]),(1,[zi st0,zi id0,zi rq0,zs zO d0,zi ct0,zi tm0,zi nk0]),(2,[zi ic,zi ii,zs zU ix]),(3,[zi ac,zi ax,zs zU ad]),(4,[zi 0,zi 0,zi 0,zy,zi 0,zi 0,zi 0]),(5,[zs zR r,zi mc,zi mt,zi mf,zi wt,zi s,zi id,zi rq,zs zO d,zi mt,zi tm,zi nk,AV.sl false zC out (some (0,1000))])] 6 [(0,1000,32)] 1 1001 1000))) (RT.ok (Ex.normal,(Tm.mk 69 [(5,zi tk),(9,AV.ptr 2 0),(10,AV.ptr 3 0),(12,AV.ptr 4 0),(13,zy),(14,zy),(15,zi s0),(16,zs zN did),(18,AV.ptr 5 0),(19,zi (IntKind.wrap IntKind.i64 (i+1)))] []),(Hp.mk [(0,[zs zR r0,zi mc0,zi mt0,zi mf0,zi wt0]),(1,[zi st0,zi id0,zi rq0,zs zO d0,zi ct0,zi tm0,zi nk0]),(2,[zi ic,zi ii,zs zU ix]),(3,[zi ac,zi ax,zs zU ad]),(4,[zi 0,zi 0,zi 0,zy,zi 0,zi 0,zi 0]),(5,[zs zR r,zi mc,zi mt,zi mf,zi wt,zi s,zi id,zi rq,zs zO d,zi mc,zi tm,zi nk,AV.sl false zC out (some (0,1000))])] 6 [(0,1000,32)] 1 1001 1000)))) (RT.br (D.toI (D.cell (D.get did (Int.toNat i)) 0)==6) (RT.ok (Ex.normal,(Tm.mk 69 [(5,zi tk),(9,AV.ptr 2 0),(10,AV.ptr 3 0),(12,AV.ptr 4 0),(13,zy),(14,zy),(15,zi s0),(16,zs zN did),(18,AV.ptr 5 0),(19,zi (IntKind.wrap IntKind.i64 (i+1)))] []),(Hp.mk [(0,[zs zR r0,zi mc0,zi mt0,zi mf0,zi wt0]),(1,[zi st0,zi id0,zi rq0,zs zO d0,zi ct0,zi tm0,zi nk0]),(2,[zi ic,zi ii,zs zU ix]),(3,[zi ac,zi ax,zs zU ad]),(4,[zi 0,zi 0,zi 0,zy,zi 0,zi 0,zi 0]),(5,[zs zR r,zi mc,zi mt,zi mf,zi wt,zi s,zi id,zi rq,zs zO d,zi 0,zi (IntKind.wrap IntKind.i64 (tk+wt)),zi nk,AV.sl false zC out (some (0,1000))])] 6 [(0,1000,32)] 1 1001 1000))) (RT.br (D.toI (D.cell (D.get did (Int.toNat i)) 0)==7) (RT.br true (RT.br (decide ((D.len out+1)*40≤140737488355328)) (RT.br (decide (0<ct)) (RT.ok (Ex.normal,(Tm.mk 69 [(5,zi tk),(9,AV.ptr 2 0),(10,AV.ptr 3 0),(12,AV.ptr 4 0),(13,zy),(14,zy),(15,zi s0),(16,zs zN did),(18,AV.ptr 5 0),(19,zi (IntKind.wrap IntKind.i64 (i+1)))] []),(Hp.mk [(0,[zs zR r0,zi mc0,zi mt0,zi mf0,zi wt0]),(1,[zi st0,zi id0,zi rq0,zs zO d0,zi ct0,zi tm0,zi nk0]),(2,[zi ic,zi ii,zs zU ix]),(3,[zi ac,zi ax,zs zU ad]),(4,[zi 0,zi 0,zi 0,zy,zi 0,zi 0,zi 0]),(5,[zs zR r,zi mc,zi mt,zi mf,zi wt,zi s,zi (Int.tmod (IntKind.wrap IntKind.i64 (id+1)) 256),zi (Int.tmod (IntKind.wrap IntKind.i64 (id+1)) 256),zs zO d,zi (IntKind.wrap IntKind.i64 (ct - 1)),zi (IntKind.wrap IntKind.i64 (tk+wt)),zi nk,AV.sl false zC (D.app out (D.l [D.t [D.ki 1,D.i (Int.tmod (IntKind.wrap IntKind.i64 (id+1)) 256),encO d]])) (some (0,1000))])] 6 [(0,1000,32)] 1 1001 1000))) (RT.ok (Ex.normal,(Tm.mk 69 [(5,zi tk),(9,AV.ptr 2 0),(10,AV.ptr 3 0),(12,AV.ptr 4 0),(13,zy),(14,zy),(15,zi s0),(16,zs zN did),(18,AV.ptr 5 0),(19,zi (IntKind.wrap IntKind.i64 (i+1)))] []),(Hp.mk [(0,[zs zR r0,zi mc0,zi mt0,zi mf0,zi wt0]),(1,[zi st0,zi id0,zi rq0,zs zO d0,zi ct0,zi tm0,zi nk0]),(2,[zi ic,zi ii,zs zU ix]),(3,[zi ac,zi ax,zs zU ad]),(4,[zi 0,zi 0,zi 0,zy,zi 0,zi 0,zi 0]),(5,[zs zR r,zi mc,zi mt,zi mf,zi wt,zi s,zi (Int.tmod (IntKind.wrap IntKind.i64 (id+1)) 256),zi (Int.tmod (IntKind.wrap IntKind.i64 (id+1)) 256),zs zO d,zi ct,zi (IntKind.wrap IntKind.i64 (tk+wt)),zi nk,AV.sl false zC (D.app out (D.l [D.t [D.ki 1,D.i (Int.tmod (IntKind.wrap IntKind.i64 (id+1)) 256),encO d]])) (some (0,1000))])] 6 [(0,1000,32)] 1 1001 1000)))) (RT.bad 70)) (RT.bad 21)) (RT.br (D.toI (D.cell (D.get did (Int.toNat i)) 0)==10) (RT.br true (RT.br (decide ((D.len out+1)*40≤140737488355328)) (RT.br (decide (0<ct)) (RT.ok (Ex.normal,(Tm.mk 69 [(5,zi tk),(9,AV.ptr 2 0),(10,AV.ptr 3 0),(12,AV.ptr 4 0),(13,zy),(14,zy),(15,zi s0),(16,zs zN did),(18,AV.ptr 5 0),(19,zi (IntKind.wrap IntKind.i64 (i+1)))] []),(Hp.mk [(0,[zs zR r0,zi mc0,zi mt0,zi mf0,zi wt0]),(1,[zi st0,zi id0,zi rq0,zs zO d0,zi ct0,zi tm0,zi nk0]),(2,[zi ic,zi ii,zs zU ix]),(3,[zi ac,zi ax,zs zU ad]),(4,[zi 0,zi 0,zi 0,zy,zi 0,zi 0,zi 0]),(5,[zs zR r,zi mc,zi mt,zi mf,zi wt,zi s,zi (Int.tmod (IntKind.wrap IntKind.i64 (id+1)) 256),zi rq,zs zO d,zi (IntKind.wrap IntKind.i64 (ct - 1)),zi (IntKind.wrap IntKind.i64 (tk+wt)),zi nk,AV.sl false zC (D.app out (D.l [D.t [D.ki 5,D.i (Int.tmod (IntKind.wrap IntKind.i64 (id+1)) 256),D.kl []]])) (some (0,1000))])] 6 [(0,1000,32)] 1 1001 1000))) (RT.ok (Ex.normal,(Tm.mk 69 [(5,zi tk),(9,AV.ptr 2 0),(10,AV.ptr 3 0),(12,AV.ptr 4 0),(13,zy),(14,zy),(15,zi s0),(16,zs zN did),(18,AV.ptr 5 0),(19,zi (IntKind.wrap IntKind.i64 (i+1)))] []),(Hp.mk [(0,[zs zR r0,zi mc0,zi mt0,zi mf0,zi wt0]),(1,[zi st0,zi id0,zi rq0,zs zO d0,zi ct0,zi tm0,zi nk0]),(2,[zi ic,zi ii,zs zU ix]),(3,[zi ac,zi ax,zs zU ad]),(4,[zi 0,zi 0,zi 0,zy,zi 0,zi 0,zi 0]),(5,[zs zR r,zi mc,zi mt,zi mf,zi wt,zi s,zi (Int.tmod (IntKind.wrap IntKind.i64 (id+1)) 256),zi rq,zs zO d,zi ct,zi (IntKind.wrap IntKind.i64 (tk+wt)),zi nk,AV.sl false zC (D.app out (D.l [D.t [D.ki 5,D.i (Int.tmod (IntKind.wrap IntKind.i64 (id+1)) 256),D.kl []]])) (some (0,1000))])] 6 [(0,1000,32)] 1 1001 1000)))) (RT.bad 70)) (RT.bad 21)) (RT.br (D.toI (D.cell (D.get did (Int.toNat i)) 0)==8) (RT.br (decide ((D.len out+1)*40≤140737488355328)) (RT.ok (Ex.normal,(Tm.mk 69 [(5,zi tk),(9,AV.ptr 2 0),(10,AV.ptr 3 0),(12,AV.ptr 4 0),(13,zy),(14,zy),(15,zi s0),(16,zs zN did),(18,AV.ptr 5 0),(19,zi (IntKind.wrap IntKind.i64 (i+1)))] []),(Hp.mk [(0,[zs zR r0,zi mc0,zi mt0,zi mf0,zi wt0]),(1,[zi st0,zi id0,zi rq0,zs zO d0,zi ct0,zi tm0,zi nk0]),(2,[zi ic,zi ii,zs zU ix]),(3,[zi ac,zi ax,zs zU ad]),(4,[zi 0,zi 0,zi 0,zy,zi 0,zi 0,zi 0]),(5,[zs zR r,zi mc,zi mt,zi mf,zi wt,zi s,zi id,zi rq,zs zO d,zi ct,zi tm,zi 0,AV.sl false zC (D.app out (D.l [D.t [D.i ac,D.i ax,ad]])) (some (0,1000))])] 6 [(0,1000,32)] 1 1001 1000))) (RT.bad 70)) (RT.br (D.toI (D.cell (D.get did (Int.toNat i)) 0)==9) (RT.br (decide ((D.len out+1)*40≤140737488355328)) (RT.br (ac==3) (RT.br (decide (nk<1000)) (RT.ok (Ex.normal,(Tm.mk 69 [(5,zi tk),(9,AV.ptr 2 0),(10,AV.ptr 3 0),(12,AV.ptr 4 0),(13,zy),(14,zy),(15,zi s0),(16,zs zN did),(18,AV.ptr 5 0),(19,zi (IntKind.wrap IntKind.i64 (i+1)))] []),(Hp.mk [(0,[zs zR r0,zi mc0,zi mt0,zi mf0,zi wt0]),(1,[zi st0,zi id0,zi rq0,zs zO d0,zi ct0,zi tm0,zi nk0]),(2,[zi ic,zi ii,zs zU ix]),(3,[zi ac,zi ax,zs zU ad]),(4,[zi 0,zi 0,zi 0,zy,zi 0,zi 0,zi 0]),(5,[zs zR r,zi mc,zi mt,zi mf,zi wt,zi s,zi id,zi rq,zs zO d,zi ct,zi tm,zi (IntKind.wrap IntKind.i64 (nk+1)),AV.sl false zC (D.app out (D.l [D.t [D.i ac,D.i ax,ad]])) (some (0,1000))])] 6 [(0,1000,32)] 1 1001 1000))) (rd_body_1 r0 mc0 mt0 mf0 wt0 st0 id0 rq0 d0 ct0 tm0 nk0 s0 r mc mt mf wt s d ic ii ix ac ax ad tk did id rq ct tm nk out i)) (rd_body_1 r0 mc0 mt0 mf0 wt0 st0 id0 rq0 d0 ct0 tm0 nk0 s0 r mc mt mf wt s d ic ii ix ac ax ad tk did id rq ct tm nk out i)) (RT.bad 70)) (RT.br (D.toI (D.cell (D.get did (Int.toNat i)) 0)==13) (RT.br (decide ((D.len out+1)*40≤140737488355328)) (rd_body_1 r0 mc0 mt0 mf0 wt0 st0 id0 rq0 d0 ct0 tm0 nk0 s0 r mc mt mf wt s d ic ii ix ac ax ad tk did id rq ct tm nk out i) (RT.bad 70)) (RT.br (D.toI (D.cell (D.get did (Int.toNat i)) 0)==11) (RT.br (decide ((D.len out+1)*40≤140737488355328)) (RT.ok (Ex.normal,(Tm.mk 69 [(5,zi tk),(9,AV.ptr 2 0),(10,AV.ptr 3 0),(12,AV.ptr 4 0),(13,zy),(14,zy),(15,zi s0),(16,zs zN did),(18,AV.ptr 5 0),(19,zi (IntKind.wrap IntKind.i64 (i+1)))] []),(Hp.mk [(0,[zs zR r0,zi mc0,zi mt0,zi mf0,zi wt0]),(1,[zi st0,zi id0,zi rq0,zs zO d0,zi ct0,zi tm0,zi nk0]),(2,[zi ic,zi ii,zs zU ix]),(3,[zi ac,zi ax,zs zU ad]),(4,[zi 0,zi 0,zi 0,zy,zi 0,zi 0,zi 0]),(5,[zs zR r,zi mc,zi mt,zi mf,zi wt,zi s,zi id,zi rq,zs zO d,zi ct,zi tm,zi nk,AV.sl false zC (D.app out (D.l [D.t [D.ki 6,D.i ii,D.kl []]])) (some (0,1000))])] 6 [(0,1000,32)] 1 1001 1000))) (RT.bad 70)) (RT.br (D.toI (D.cell (D.get did (Int.toNat i)) 0)==12) (RT.br true (RT.br (rej7E ic ii ix (Int.tmod (IntKind.wrap IntKind.i64 (id+1)) 256)==0) (RT.br (decide ((D.len out+1)*40≤140737488355328)) (RT.ok (Ex.normal,(Tm.mk 69 [(5,zi tk),(9,AV.ptr 2 0),(10,AV.ptr 3 0),(12,AV.ptr 4 0),(13,zy),(14,zy),(15,zi s0),(16,zs zN did),(18,AV.ptr 5 0),(19,zi (IntKind.wrap IntKind.i64 (i+1)))] []),(Hp.mk [(0,[zs zR r0,zi mc0,zi mt0,zi mf0,zi wt0]),(1,[zi st0,zi id0,zi rq0,zs zO d0,zi ct0,zi tm0,zi nk0]),(2,[zi ic,zi ii,zs zU ix]),(3,[zi ac,zi ax,zs zU ad]),(4,[zi 0,zi 0,zi 0,zy,zi 0,zi 0,zi 0]),(5,[zs zR r,zi mc,zi mt,zi mf,zi wt,zi s,zi (Int.tmod (IntKind.wrap IntKind.i64 (id+1)) 256),zi rq,zs zO d,zi ct,zi tm,zi nk,AV.sl false zC (D.app out (D.l [D.t [D.i (rej7C (rej7E ic ii ix (Int.tmod (IntKind.wrap IntKind.i64 (id+1)) 256)) 7),D.i (rej7C (rej7E ic ii ix (Int.tmod (IntKind.wrap IntKind.i64 (id+1)) 256)) (Int.tmod (IntKind.wrap IntKind.i64 (id+1)) 256)),rej7D ic ii ix (Int.tmod (IntKind.wrap IntKind.i64 (id+1)) 256)]])) (some (0,1000))])] 6 [(0,1000,32)] 1 1001 1000))) (RT.bad 70)) (RT.ok (Ex.normal,(Tm.mk 69 [(5,zi tk),(9,AV.ptr 2 0),(10,AV.ptr 3 0),(12,AV.ptr 4 0),(13,zy),(14,zy),(15,zi s0),(16,zs zN did),(18,AV.ptr 5 0),(19,zi (IntKind.wrap IntKind.i64 (i+1)))] []),(Hp.mk [(0,[zs zR r0,zi mc0,zi mt0,zi mf0,zi wt0]),(1,[zi st0,zi id0,zi rq0,zs zO d0,zi ct0,zi tm0,zi nk0]),(2,[zi ic,zi ii,zs zU ix]),(3,[zi ac,zi ax,zs zU ad]),(4,[zi 0,zi 0,zi 0,zy,zi 0,zi 0,zi 0]),(5,[zs zR r,zi mc,zi mt,zi mf,zi wt,zi s,zi (Int.tmod (IntKind.wrap IntKind.i64 (id+1)) 256),zi rq,zs zO d,zi ct,zi tm,zi nk,AV.sl false zC out (some (0,1000))])] 6 [(0,1000,32)] 1 1001 1000)))) (RT.bad 21)) (RT.ok (Ex.normal,(Tm.mk 69 [(5,zi tk),(9,AV.ptr 2 0),(10,AV.ptr 3 0),(12,AV.ptr 4 0),(13,zy),(14,zy),(15,zi s0),(16,zs zN did),(18,AV.ptr 5 0),(19,zi (IntKind.wrap IntKind.i64 (i+1)))] []),(Hp.mk [(0,[zs zR r0,zi mc0,zi mt0,zi mf0,zi wt0]),(1,[zi st0,zi id0,zi rq0,zs zO d0,zi ct0,zi tm0,zi nk0]),(2,[zi ic,zi ii,zs zU ix]),(3,[zi ac,zi ax,zs zU ad]),(4,[zi 0,zi 0,zi 0,zy,zi 0,zi 0,zi 0]),(5,[zs zR r,zi mc,zi mt,zi mf,zi wt,zi s,zi id,zi rq,zs zO d,zi ct,zi tm,zi nk,AV.sl false zC out (some (0,1000))])] 6 [(0,1000,32)] 1 1001 1000)))))))))))) (RT.bad 42)) (RT.ok (Ex.exit 0,(Tm.mk 69 [(5,zi tk),(9,AV.ptr 2 0),(10,AV.ptr 3 0),(12,AV.ptr 4 0),(13,zy),(14,zy),(15,zi s0),(16,zs zN did),(18,AV.ptr 5 0),(19,zi i)] []),(Hp.mk [(0,[zs zR r0,zi mc0,zi mt0,zi mf0,zi wt0]),(1,[zi st0,zi id0,zi rq0,zs zO d0,zi ct0,zi tm0,zi nk0]),(2,[zi ic,zi ii,zs zU ix]),(3,[zi ac,zi ax,zs zU ad]),(4,[zi 0,zi 0,zi 0,zy,zi 0,zi 0,zi 0]),(5,[zs zR r,zi mc,zi mt,zi mf,zi wt,zi s,zi id,zi rq,zs zO d,zi ct,zi tm,zi nk,AV.sl false zC out (some (0,1000))])] 6 [(0,1000,32)] 1 1001 1000))):=by rw [← fvC_eq Tryz.prog (gam (rdoG Tryz.prog)) (lam ([])) false 100]; kernel_rfl
theorem rdoG_ok:GamL Tryz.prog (rdoG Tryz.prog):=⟨rhas_soundF,rrej7_soundF,encG_ok⟩
theorem rdDec_eq {F:Tm} {h:Hp} {y:RdX×RdC×DoV×Nat} (H:rdDec F h=some y):F=rdF y.1 y.2.1 y.2.2.2∧h=rdH y.1 y.2.1 y.2.2.1:=by
  unfold rdDec at H
  obtain ⟨t,ht,H⟩:=Option.bind_eq_some_iff.1 H
  obtain ⟨z,hz,H⟩:=Option.bind_eq_some_iff.1 H
  cases H
  constructor
  · unfold rtDec at ht
    split at ht
    · obtain ⟨s0,e0,ht⟩:=Option.bind_eq_some_iff.1 ht
      obtain ⟨d0,e1,ht⟩:=Option.bind_eq_some_iff.1 ht
      obtain ⟨d1,e2,ht⟩:=Option.bind_eq_some_iff.1 ht
      cases ht
      rw [nDec_eq e0,nDec_eq e1,aDec_eq e2]
      rfl
    · cases ht
  · unfold rhDec at hz
    split at hz
    · obtain ⟨a,e0,hz⟩:=Option.bind_eq_some_iff.1 hz
      obtain ⟨b,e1,hz⟩:=Option.bind_eq_some_iff.1 hz
      obtain ⟨c,e2,hz⟩:=Option.bind_eq_some_iff.1 hz
      obtain ⟨d,e3,hz⟩:=Option.bind_eq_some_iff.1 hz
      obtain ⟨u,e4,hz⟩:=Option.bind_eq_some_iff.1 hz
      obtain ⟨r,e5,hz⟩:=Option.bind_eq_some_iff.1 hz
      cases hz
      rw [cfDec_eq e0,auDec_eq e1,ctDec_eq e2,ctDec_eq e3,zDec_eq e4]
      unfold rrDec at e5
      split at e5
      · obtain ⟨a',f0,e5⟩:=Option.bind_eq_some_iff.1 e5
        obtain ⟨b',f1,e5⟩:=Option.bind_eq_some_iff.1 e5
        obtain ⟨u',f6,e5⟩:=Option.bind_eq_some_iff.1 e5
        cases e5
        have g0:=cfDec_eq f0
        have g1:=auDec_eq f1
        simp only [List.cons.injEq,and_true] at g0 g1
        obtain ⟨rfl,rfl,rfl,rfl,rfl⟩:=g0
        obtain ⟨rfl,rfl,rfl,rfl,rfl,rfl,rfl⟩:=g1
        rw [oDec_eq f6]
        rfl
      · cases e5
    · cases hz
def bnd (n:Int):Prop:=0≤n∧n≤1000
theorem wrap_small {n:Int} (h:-1≤n∧n≤1001):IntKind.wrap .i64 n=n:=by
  rw [IntWalk.i64_left]; unfold wrap64; omega
theorem cntN_pos {ct:Int} (hb:bnd ct) (h:0<ct):cntN ct=IntKind.wrap .i64 (ct - 1):=by
  unfold cntN imax; unfold bnd at hb; rw [wrap_small (by omega)]; split <;> omega
theorem cntN_zero {ct:Int} (hb:bnd ct) (h:¬ 0<ct):cntN ct=ct:=by
  unfold cntN imax; unfold bnd at hb; rw [wrap_small (by omega)]; split <;> omega
theorem cntN_bnd {ct:Int} (hb:bnd ct):bnd (cntN ct):=by
  unfold cntN imax; unfold bnd at *; rw [wrap_small (by omega)]; split <;> omega
theorem nakN_less {nk:Int} (hb:bnd nk) (h:nk<1000):imin (IntKind.wrap .i64 (nk+1)) 1000=IntKind.wrap .i64 (nk+1):=by
  unfold imin; unfold bnd at hb; rw [wrap_small (by omega)]; split <;> omega
theorem nakN_most {nk:Int} (hb:bnd nk) (h:¬ nk<1000):imin (IntKind.wrap .i64 (nk+1)) 1000=nk:=by
  unfold imin; unfold bnd at hb; rw [wrap_small (by omega)]; split <;> omega
theorem nakN_bnd {nk:Int} (hb:bnd nk):bnd (imin (IntKind.wrap .i64 (nk+1)) 1000):=by
  unfold imin; unfold bnd at *; rw [wrap_small (by omega)]; split <;> omega
theorem actF_bnd {c:DoC} {a:Int} {v:DoV} (h1:bnd c.mc) (h2:bnd c.mt) (h3:bnd v.ct) (h4:bnd v.nk):bnd (actF c a v).ct∧bnd (actF c a v).nk:=by
  have z:bnd 0:=⟨by omega,by omega⟩
  have c1:=cntN_bnd h3
  have n1:=nakN_bnd h4
  have c2:bnd (bif hasA c.didr 10 then c.mt else c.mc):=by cases hasA c.didr 10 <;> assumption
  have n2:bnd (bif c.ac==3 then imin (IntKind.wrap .i64 (v.nk+1)) 1000 else v.nk):=by cases c.ac==3 <;> assumption
  unfold actF
  cases a==5 <;> cases a==6 <;> cases a==7 <;> cases a==8 <;> cases a==9 <;> cases a==10 <;> cases a==11 <;> cases a==12 <;> cases a==13 <;> simp only [cond_true,cond_false] <;> first | exact ⟨h3,h4⟩ | exact ⟨c1,h4⟩ | exact ⟨c2,h4⟩ | exact ⟨z,h4⟩ | exact ⟨h3,n2⟩ | exact ⟨h3,z⟩
set_option maxHeartbeats 2000000 in
theorem rd_loop:LamE Tryz.prog 135 0 (loopS Tryz.prog rdL rdDec rdT):=by
  refine loop_in2 (gs:=rdoG Tryz.prog) (ls:=[]) mixed rdoG_ok trivial _ 0 100 (by kernel_rfl) rdL (mkF:=fun y=>rdF y.1 y.2.1 y.2.2.2) (mkH:=fun y=>rdH y.1 y.2.1 y.2.2.1) (fun y=>y.2.1.did.len - y.2.2.2) ?_ ?_
  · exact fun F h y hy=>rdDec_eq hy
  · rintro ⟨X,C,V,i⟩ K H
    obtain ⟨hc,H⟩:=need_holds H
    obtain ⟨hi,h8,ho,b1,b2,b3,b4⟩:=odt hc
    dsimp only at hi h8 ho b1 b2 b3 b4
    have hm:=C.did.len_le
    have hout:i=C.did.len→Round (fun y=>rdF y.1 y.2.1 y.2.2.2) (fun y=>rdH y.1 y.2.1 y.2.2.1) rdT (fun y=>y.2.1.did.len - y.2.2.2) 0 (X,C,V,i) K (.exit 0,rdF X C C.did.len,rdH X C V):=by
      intro he
      have h:=H
      dsimp only at h
      rw [he,Nat.sub_self] at h
      exact h
    have hnext:i<C.did.len→∀ v',actF C.c ((C.did.get i).cell 0).toI V=v'→Round (fun y=>rdF y.1 y.2.1 y.2.2.2) (fun y=>rdH y.1 y.2.1 y.2.2.1) rdT (fun y=>y.2.1.did.len - y.2.2.2) 0 (X,C,V,i) K (.normal,rdF X C (IntKind.wrap .i64 ((i:Int)+1)),rdH X C v'):=by
      intro hlt v' hv
      subst hv
      refine ⟨(X,C,actF C.c ((C.did.get i).cell 0).toI V,i+1),⟨?_,rfl⟩,by show C.did.len - (i+1)<C.did.len - i; omega,?_⟩
      · rw [wrap_succ hlt hm]
      · unfold rdT
        refine ⟨fun _=>?_,fun hf=>absurd ?_ (odf hf)⟩
        · have h:=H
          dsimp only at h ⊢
          rw [show C.did.len - i=(C.did.len - (i+1))+1 by omega] at h
          exact h
        · dsimp only
          have hl:=actF_len (c:=C.c) (a:=((C.did.get i).cell 0).toI) (v:=V) (by omega)
          have hb:=actF_bnd (c:=C.c) (a:=((C.did.get i).cell 0).toI) (v:=V) b1 b2 b3 b4
          exact ⟨by omega,h8,by omega,b1,b2,hb.1,hb.2⟩
    clear H
    obtain ⟨r0,mc0,mt0,mf0,wt0,st0,id0,rq0,d0,ct0,tm0,nk0,s0⟩:=X
    obtain ⟨r,mc,mt,mf,wt,s,d,ic,ii,ix,ac,ax,ad,tk,did⟩:=C
    obtain ⟨id,rq,ct,tm,nk,out⟩:=V
    dsimp only [RdC.c] at hi h8 ho hm hout hnext hc b1 b2 b3 b4
    show (roundT rdL (evC _ _ _ _ _ _ (rdF ⟨r0,mc0,mt0,mf0,wt0,st0,id0,rq0,d0,ct0,tm0,nk0,s0⟩ ⟨r,mc,mt,mf,wt,s,d,ic,ii,ix,ac,ax,ad,tk,did⟩ i) (rdH ⟨r0,mc0,mt0,mf0,wt0,st0,id0,rq0,d0,ct0,tm0,nk0,s0⟩ ⟨r,mc,mt,mf,wt,s,d,ic,ii,ix,ac,ax,ad,tk,did⟩ ⟨id,rq,ct,tm,nk,out⟩))).holds _
    rw [rd_body]
    simp only [Int.toNat_natCast]
    have room:(out.len+1)*40≤140737488355328:=by omega
    refine ⟨fun h1=>⟨fun h2=>?_,fun h2=>absurd ⟨by omega,odt h1⟩ (odf h2)⟩,fun h1=>?_⟩
    · have lf:=@(hnext (by have:=odt h1; omega))
      have at':∀ k v',(((did.get i).cell 0).toI==k)=true→actF ⟨r,mc,mt,mf,wt,s,d,ic,ii,ix,ac,ax,ad,tk,did,did⟩ k ⟨id,rq,ct,tm,nk,out⟩=v'→actF ⟨r,mc,mt,mf,wt,s,d,ic,ii,ix,ac,ax,ad,tk,did,did⟩ ((did.get i).cell 0).toI ⟨id,rq,ct,tm,nk,out⟩=v':=fun k v' hk h=>by rw [eq_of_beq hk]; exact h
      clear hnext hout
      refine ⟨fun h5=>⟨fun hh=>?_,fun hh=>?_⟩,fun h5=>⟨fun h6=>?_,fun h6=>⟨fun h7=>⟨fun _=>⟨fun _=>⟨fun hp=>?_,fun hp=>?_⟩,fun h=>absurd room (odf h)⟩,fun h=>by cases h⟩,fun h7 =>
        ⟨fun h10=>⟨fun _=>⟨fun _=>⟨fun hp=>?_,fun hp=>?_⟩,fun h=>absurd room (odf h)⟩,fun h=>by cases h⟩,fun h10=>⟨fun h8=>⟨fun _=>?_,fun h=>absurd room (odf h)⟩,fun h8 =>
        ⟨fun h9=>⟨fun _=>⟨fun hh=>⟨fun hp=>?_,fun hp=>?_⟩,fun hh=>?_⟩,fun h=>absurd room (odf h)⟩,fun h9=>⟨fun h13=>⟨fun _=>?_,fun h=>absurd room (odf h)⟩,fun h13 =>
        ⟨fun h11=>⟨fun _=>?_,fun h=>absurd room (odf h)⟩,fun h11=>⟨fun h12=>⟨fun _=>⟨fun hr=>⟨fun _=>?_,fun h=>absurd room (odf h)⟩,fun hr=>?_⟩,fun h=>by cases h⟩,fun h12=>?_⟩⟩⟩⟩⟩⟩⟩⟩⟩
      · exact lf _ (at' 5 _ h5 (by show (⟨id,rq,bif hasA did 10 then mt else mc,tm,nk,out⟩:DoV)=_; rw [hh]))
      · exact lf _ (at' 5 _ h5 (by show (⟨id,rq,bif hasA did 10 then mt else mc,tm,nk,out⟩:DoV)=_; rw [hh]))
      · exact lf _ (at' 6 _ h6 rfl)
      · exact lf _ (at' 7 _ h7 (by show (⟨numN id,numN id,cntN ct,IntKind.wrap .i64 (tk+wt),nk,putO out (.ki 1) (.i (numN id)) (encO d)⟩:DoV)=_; rw [cntN_pos b3 (odt hp)]))
      · exact lf _ (at' 7 _ h7 (by show (⟨numN id,numN id,cntN ct,IntKind.wrap .i64 (tk+wt),nk,putO out (.ki 1) (.i (numN id)) (encO d)⟩:DoV)=_; rw [cntN_zero b3 (odf hp)]))
      · exact lf _ (at' 10 _ h10 (by show (⟨numN id,rq,cntN ct,IntKind.wrap .i64 (tk+wt),nk,putO out (.ki 5) (.i (numN id)) (.kl [])⟩:DoV)=_; rw [cntN_pos b3 (odt hp)]))
      · exact lf _ (at' 10 _ h10 (by show (⟨numN id,rq,cntN ct,IntKind.wrap .i64 (tk+wt),nk,putO out (.ki 5) (.i (numN id)) (.kl [])⟩:DoV)=_; rw [cntN_zero b3 (odf hp)]))
      · exact lf _ (at' 8 _ h8 rfl)
      · exact lf _ (at' 9 _ h9 (by show (⟨id,rq,ct,tm,bif ac==3 then imin (IntKind.wrap .i64 (nk+1)) 1000 else nk,putO out (.i ac) (.i ax) ad⟩:DoV)=_; rw [hh,cond_true,nakN_less b4 (odt hp)]))
      · exact lf _ (at' 9 _ h9 (by show (⟨id,rq,ct,tm,bif ac==3 then imin (IntKind.wrap .i64 (nk+1)) 1000 else nk,putO out (.i ac) (.i ax) ad⟩:DoV)=_; rw [hh,cond_true,nakN_most b4 (odf hp)]))
      · exact lf _ (at' 9 _ h9 (by show (⟨id,rq,ct,tm,bif ac==3 then imin (IntKind.wrap .i64 (nk+1)) 1000 else nk,putO out (.i ac) (.i ax) ad⟩:DoV)=_; rw [hh,cond_false]))
      · exact lf _ (at' 13 _ h13 rfl)
      · exact lf _ (at' 11 _ h11 rfl)
      · exact lf _ (at' 12 _ h12 (by show (⟨numN id,rq,ct,tm,nk,bif rej7E ic ii ix (numN id)==0 then putO out (.i (rej7C (rej7E ic ii ix (numN id)) 7)) (.i (rej7C (rej7E ic ii ix (numN id)) (numN id))) (rej7D ic ii ix (numN id)) else out⟩:DoV)=_; rw [show (rej7E ic ii ix (numN id)==0)=true from hr,cond_true]))
      · exact lf _ (at' 12 _ h12 (by show (⟨numN id,rq,ct,tm,nk,bif rej7E ic ii ix (numN id)==0 then putO out (.i (rej7C (rej7E ic ii ix (numN id)) 7)) (.i (rej7C (rej7E ic ii ix (numN id)) (numN id))) (rej7D ic ii ix (numN id)) else out⟩:DoV)=_; rw [show (rej7E ic ii ix (numN id)==0)=false from hr,cond_false]))
      · exact lf _ (by simp only [actF,h5,h6,h7,h8,h9,h10,h11,h12,h13,cond_false]; rfl)
    · obtain rfl:i=did.len:=by have:=odf h1; omega
      exact hout rfl
theorem rdLs_ok:LamL Tryz.prog (rdLs Tryz.prog):=⟨rd_loop,trivial⟩
def rddG (P:Program):List (FuncId×Spec):=(152,pureS P 152 FMay) :: (153,pureS P 153 FStep) :: rdoG P
theorem rddG_ok:GamL Tryz.prog (rddG Tryz.prog):=⟨fin_soundF,rstep_soundF,rdoG_ok⟩
abbrev rdd_treeT_1 (m g mc mt mf wt st id rq:Int) (d:D) (ct tm nk e ic ii:Int) (ix:D) (ac ax:Int) (ad:D) (tk:Int):=RT.ok (AV.tup [AV.agg [zi (rfcN st e),zi (DoV.id (actsF (DoC.mk (D.l [D.t [D.ki 1,D.ki 2,D.ki 2,D.ki 128,D.ki 1492,D.ki 1492,D.kb false],D.t [D.ki 5,D.ki 4,D.ki 4,D.i m,D.ki 0,D.i g,D.kb false]]) mc mt mf wt (rfcN st e) d ic ii ix ac ax ad tk (rfcD st e) (rfcD st e)) (rfcD st e) (D.len (rfcD st e) - 0) 0 (DoV.mk id rq ct tm nk (D.l [])))),zi (DoV.rq (actsF (DoC.mk (D.l [D.t [D.ki 1,D.ki 2,D.ki 2,D.ki 128,D.ki 1492,D.ki 1492,D.kb false],D.t [D.ki 5,D.ki 4,D.ki 4,D.i m,D.ki 0,D.i g,D.kb false]]) mc mt mf wt (rfcN st e) d ic ii ix ac ax ad tk (rfcD st e) (rfcD st e)) (rfcD st e) (D.len (rfcD st e) - 0) 0 (DoV.mk id rq ct tm nk (D.l [])))),zs zO d,zi (DoV.ct (actsF (DoC.mk (D.l [D.t [D.ki 1,D.ki 2,D.ki 2,D.ki 128,D.ki 1492,D.ki 1492,D.kb false],D.t [D.ki 5,D.ki 4,D.ki 4,D.i m,D.ki 0,D.i g,D.kb false]]) mc mt mf wt (rfcN st e) d ic ii ix ac ax ad tk (rfcD st e) (rfcD st e)) (rfcD st e) (D.len (rfcD st e) - 0) 0 (DoV.mk id rq ct tm nk (D.l [])))),zk 0,zi (DoV.nk (actsF (DoC.mk (D.l [D.t [D.ki 1,D.ki 2,D.ki 2,D.ki 128,D.ki 1492,D.ki 1492,D.kb false],D.t [D.ki 5,D.ki 4,D.ki 4,D.i m,D.ki 0,D.i g,D.kb false]]) mc mt mf wt (rfcN st e) d ic ii ix ac ax ad tk (rfcD st e) (rfcD st e)) (rfcD st e) (D.len (rfcD st e) - 0) 0 (DoV.mk id rq ct tm nk (D.l []))))],zs zC (DoV.out (actsF (DoC.mk (D.l [D.t [D.ki 1,D.ki 2,D.ki 2,D.ki 128,D.ki 1492,D.ki 1492,D.kb false],D.t [D.ki 5,D.ki 4,D.ki 4,D.i m,D.ki 0,D.i g,D.kb false]]) mc mt mf wt (rfcN st e) d ic ii ix ac ax ad tk (rfcD st e) (rfcD st e)) (rfcD st e) (D.len (rfcD st e) - 0) 0 (DoV.mk id rq ct tm nk (D.l [])))),zs zN (rfcD st e)])
def rdd_treeT (m g mc mt mf wt st id rq:Int) (d:D) (ct tm nk e ic ii:Int) (ix:D) (ac ax:Int) (ad:D) (tk:Int):RT AV :=
RT.br (!mayB m g mc mt mf wt st id rq d ct tm nk tk) (RT.ok (AV.tup [AV.agg [zi st,zi id,zi rq,zs zO d,zi ct,zi tm,zi nk],zz,zz])) (RT.br (rfcE st e != 0) (RT.ok (AV.tup [AV.agg [zi st,zi id,zi rq,zs zO d,zi ct,zi tm,zi nk],zz,zz])) (RT.br (decide (0≤D.len (rfcD st e)∧D.len (rfcD st e)≤8∧(0:Nat)≤0∧(0≤mc∧mc≤1000)∧(0≤mt∧mt≤1000)∧(0≤ct∧ct≤1000)∧0≤nk∧nk≤1000)) (RT.br (decide (4≤rfcN st e)) (RT.br (!decide (rfcN st e≤8)) (rdd_treeT_1 m g mc mt mf wt st id rq d ct tm nk e ic ii ix ac ax ad tk) (RT.ok (AV.tup [AV.agg [zi (rfcN st e),zi (DoV.id (actsF (DoC.mk (D.l [D.t [D.ki 1,D.ki 2,D.ki 2,D.ki 128,D.ki 1492,D.ki 1492,D.kb false],D.t [D.ki 5,D.ki 4,D.ki 4,D.i m,D.ki 0,D.i g,D.kb false]]) mc mt mf wt (rfcN st e) d ic ii ix ac ax ad tk (rfcD st e) (rfcD st e)) (rfcD st e) (D.len (rfcD st e) - 0) 0 (DoV.mk id rq ct tm nk (D.l [])))),zi (DoV.rq (actsF (DoC.mk (D.l [D.t [D.ki 1,D.ki 2,D.ki 2,D.ki 128,D.ki 1492,D.ki 1492,D.kb false],D.t [D.ki 5,D.ki 4,D.ki 4,D.i m,D.ki 0,D.i g,D.kb false]]) mc mt mf wt (rfcN st e) d ic ii ix ac ax ad tk (rfcD st e) (rfcD st e)) (rfcD st e) (D.len (rfcD st e) - 0) 0 (DoV.mk id rq ct tm nk (D.l [])))),zs zO d,zi (DoV.ct (actsF (DoC.mk (D.l [D.t [D.ki 1,D.ki 2,D.ki 2,D.ki 128,D.ki 1492,D.ki 1492,D.kb false],D.t [D.ki 5,D.ki 4,D.ki 4,D.i m,D.ki 0,D.i g,D.kb false]]) mc mt mf wt (rfcN st e) d ic ii ix ac ax ad tk (rfcD st e) (rfcD st e)) (rfcD st e) (D.len (rfcD st e) - 0) 0 (DoV.mk id rq ct tm nk (D.l [])))),zi (DoV.tm (actsF (DoC.mk (D.l [D.t [D.ki 1,D.ki 2,D.ki 2,D.ki 128,D.ki 1492,D.ki 1492,D.kb false],D.t [D.ki 5,D.ki 4,D.ki 4,D.i m,D.ki 0,D.i g,D.kb false]]) mc mt mf wt (rfcN st e) d ic ii ix ac ax ad tk (rfcD st e) (rfcD st e)) (rfcD st e) (D.len (rfcD st e) - 0) 0 (DoV.mk id rq ct tm nk (D.l [])))),zi (DoV.nk (actsF (DoC.mk (D.l [D.t [D.ki 1,D.ki 2,D.ki 2,D.ki 128,D.ki 1492,D.ki 1492,D.kb false],D.t [D.ki 5,D.ki 4,D.ki 4,D.i m,D.ki 0,D.i g,D.kb false]]) mc mt mf wt (rfcN st e) d ic ii ix ac ax ad tk (rfcD st e) (rfcD st e)) (rfcD st e) (D.len (rfcD st e) - 0) 0 (DoV.mk id rq ct tm nk (D.l []))))],zs zC (DoV.out (actsF (DoC.mk (D.l [D.t [D.ki 1,D.ki 2,D.ki 2,D.ki 128,D.ki 1492,D.ki 1492,D.kb false],D.t [D.ki 5,D.ki 4,D.ki 4,D.i m,D.ki 0,D.i g,D.kb false]]) mc mt mf wt (rfcN st e) d ic ii ix ac ax ad tk (rfcD st e) (rfcD st e)) (rfcD st e) (D.len (rfcD st e) - 0) 0 (DoV.mk id rq ct tm nk (D.l [])))),zs zN (rfcD st e)]))) (rdd_treeT_1 m g mc mt mf wt st id rq d ct tm nk e ic ii ix ac ax ad tk)) (RT.bad 210)))
theorem rdd_tree (m g mc mt mf wt st id rq:Int) (d:D) (ct tm nk e ic ii:Int) (ix:D) (ac ax:Int) (ad:D) (tk:Int):treeF (evF Tryz.prog (gam (rddG Tryz.prog)) (lam (rdLs Tryz.prog)) 100 135) [.agg [.sl false rlS (rulD m g) none,ai mc,ai mt,ai mf,ai wt],autA st id rq d ct tm nk,ai e,ctlA ic ii ix,ctlA ac ax ad,ai tk]=rdd_treeT m g mc mt mf wt st id rq d ct tm nk e ic ii ix ac ax ad tk:=by rw [← fvF_eq Tryz.prog (gam (rddG Tryz.prog)) (lam (rdLs Tryz.prog)) false 100 135]; kernel_rfl
theorem may_bnd {m g mc mt mf wt st id rq:Int} {d:D} {ct tm nk tk:Int} (h:mayB m g mc mt mf wt st id rq d ct tm nk tk=true):(0≤mc∧mc≤1000)∧(0≤mt∧mt≤1000)∧(0≤ct∧ct≤1000)∧0≤nk∧nk≤1000:=by
  unfold mayB setB soundB inB at h
  simp only [Bool.and_eq_true,decide_eq_true_eq] at h
  omega
set_option maxHeartbeats 1000000 in
theorem rdo_soundF:SoundF Tryz.prog 135 (pureS Tryz.prog 135 FDo):=by
  refine pure_by (gs:=rddG Tryz.prog) (ls:=rdLs Tryz.prog) mixed rddG_ok rdLs_ok 135 100 fun args K ho H=>?_
  unfold FDo at H
  split at H
  · split at H
    · rename_i r mc mt mf wt st id rq d ct tm nk e ic ii ix ac ax ad tk _ m g hr
      refine ⟨_,leL_cons (le_agg (leL_cons (rlOf_le (kn':=false) hr) fun _ _ h=>h)) fun _ _ h=>h,?_⟩
      generalize m.toI=m at H ⊢
      generalize g.toI=g at H ⊢
      rw [rdd_tree]
      have off:doB m g mc mt mf wt ⟨st,id,rq,d,ct,tm,nk⟩ e tk=false→∃ y,Le (.tup [auvA ⟨st,id,rq,d,ct,tm,nk⟩,.sc true (.slice none 0 0),.sc true (.slice none 0 0)]) y∧K y:=fun h=>by
        rw [doW_off h] at H
        exact ⟨_,le_off,H⟩
      refine ⟨fun h1=>off ?_,fun h1=>⟨fun h2=>off ?_,fun h2=>⟨fun _=>?_,fun h=>absurd ⟨Nat.zero_le _,by have:=rfcD_len st e; omega,Nat.le_refl _,may_bnd (by simpa using h1)⟩ (odf h)⟩⟩⟩
      · unfold doB; rw [Bool.and_eq_false_iff]; exact Or.inl (by simpa using h1)
      · unfold doB; rw [Bool.and_eq_false_iff]; exact Or.inr (by simpa using h2)
      have hb:doB m g mc mt mf wt ⟨st,id,rq,d,ct,tm,nk⟩ e tk=true:=by
        unfold doB; rw [Bool.and_eq_true]; exact ⟨by simpa using h1,by simpa using h2⟩
      clear off
      rw [doW_on hb] at H
      have on:tmdB (rfcN st e)=true→∃ y,Le (doneA ⟨⟨rfcN st e,(doR m g mc mt mf wt ⟨st,id,rq,d,ct,tm,nk⟩ e ic ii ix ac ax ad tk).id,(doR m g mc mt mf wt ⟨st,id,rq,d,ct,tm,nk⟩ e ic ii ix ac ax ad tk).rq,d,(doR m g mc mt mf wt ⟨st,id,rq,d,ct,tm,nk⟩ e ic ii ix ac ax ad tk).ct,(doR m g mc mt mf wt ⟨st,id,rq,d,ct,tm,nk⟩ e ic ii ix ac ax ad tk).tm,(doR m g mc mt mf wt ⟨st,id,rq,d,ct,tm,nk⟩ e ic ii ix ac ax ad tk).nk⟩,(doR m g mc mt mf wt ⟨st,id,rq,d,ct,tm,nk⟩ e ic ii ix ac ax ad tk).out,rfcD st e⟩) y∧K y:=fun ht=>by
        rw [ht] at H
        exact ⟨_,Le.refl _,H⟩
      have no:tmdB (rfcN st e)=false→∃ y,Le (.tup [.agg [ai (rfcN st e),ai (doR m g mc mt mf wt ⟨st,id,rq,d,ct,tm,nk⟩ e ic ii ix ac ax ad tk).id,ai (doR m g mc mt mf wt ⟨st,id,rq,d,ct,tm,nk⟩ e ic ii ix ac ax ad tk).rq,asl opS d,ai (doR m g mc mt mf wt ⟨st,id,rq,d,ct,tm,nk⟩ e ic ii ix ac ax ad tk).ct,.sc true (.int .i64 0),ai (doR m g mc mt mf wt ⟨st,id,rq,d,ct,tm,nk⟩ e ic ii ix ac ax ad tk).nk],asl ctS (doR m g mc mt mf wt ⟨st,id,rq,d,ct,tm,nk⟩ e ic ii ix ac ax ad tk).out,asl acS (rfcD st e)]) y∧K y:=fun ht=>by
        rw [ht] at H
        exact ⟨_,le_two' (le_agg (leL_cons (Le.refl _) (leL_cons (Le.refl _) (leL_cons (Le.refl _) (leL_cons (Le.refl _) (leL_cons (Le.refl _) (leL_cons (le_int rfl) fun _ _ h=>h))))))) (Le.refl _) (Le.refl _),H⟩
      clear H
      unfold tmdB at on no
      refine ⟨fun h3=>⟨fun h4=>no ?_,fun h4=>on ?_⟩,fun h3=>no ?_⟩
      all_goals simp only [decide_eq_true_eq,decide_eq_false_iff_not,Bool.not_eq_true',Bool.not_eq_false',beq_iff_eq,beq_eq_false_iff_ne] at *
      all_goals omega
    · exact H.elim
  · exact H.elim
def evDG (P:Program):List (FuncId×Spec):=[(93,pureS P 93 FAs),(94,pureS P 94 FDo),(135,pureS P 135 FDo)]
def tmW (m g mc mt mf wt:Int) (a:AuV) (tk:Int):DoneV :=
  bif (a.tm==0)||decide (tk<a.tm) then ⟨a,.l [],.l []⟩ else doW m g mc mt mf wt a (bif decide (0<a.ct) then 5 else 6) 0 0 (.l []) 0 0 (.l []) tk
def FTmo:List AV→RT AV
  | [.agg [.sl false [.int .i64,.int .i64,.int .i64,.int .i64,.int .i64,.int .i64,.bool] r none,.sc false (.int .i64 mc),.sc false (.int .i64 mt),.sc false (.int .i64 mf),.sc false (.int .i64 wt)],
     .agg [.sc false (.int .i64 st),.sc false (.int .i64 id),.sc false (.int .i64 rq),.sl false [.int .i64,.sl [.int .u8]] d none,.sc false (.int .i64 ct),.sc false (.int .i64 tm),.sc false (.int .i64 nk)],.sc false (.int .i64 tk)]=>match rlOf r with
    | some (m,g)=>.ok (doneA (tmW m.toI g.toI mc mt mf wt ⟨st,id,rq,d,ct,tm,nk⟩ tk))
    | none=>.bad 275
  | _=>.bad 275
theorem evDG_ok:GamL Tryz.prog (evDG Tryz.prog):=⟨as_soundF,do_soundF,rdo_soundF,trivial⟩
def tmo_treeT (m g mc mt mf wt st id rq:Int) (d:D) (ct tm nk tk:Int):RT AV :=
RT.br (tm==0) (RT.ok (AV.tup [AV.agg [zi st,zi id,zi rq,zs zO d,zi ct,zi tm,zi nk],zz,zz])) (RT.br (decide (tk<tm)) (RT.ok (AV.tup [AV.agg [zi st,zi id,zi rq,zs zO d,zi ct,zi tm,zi nk],zz,zz])) (RT.br (decide (0<ct)) (RT.ok (AV.tup [AV.agg [zi (AuV.st (DoneV.a (doW m g mc mt mf wt (AuV.mk st id rq d ct tm nk) 5 0 0 (D.l []) 0 0 (D.l []) tk))),zi (AuV.id (DoneV.a (doW m g mc mt mf wt (AuV.mk st id rq d ct tm nk) 5 0 0 (D.l []) 0 0 (D.l []) tk))),zi (AuV.rq (DoneV.a (doW m g mc mt mf wt (AuV.mk st id rq d ct tm nk) 5 0 0 (D.l []) 0 0 (D.l []) tk))),zs zO (AuV.d (DoneV.a (doW m g mc mt mf wt (AuV.mk st id rq d ct tm nk) 5 0 0 (D.l []) 0 0 (D.l []) tk))),zi (AuV.ct (DoneV.a (doW m g mc mt mf wt (AuV.mk st id rq d ct tm nk) 5 0 0 (D.l []) 0 0 (D.l []) tk))),zi (AuV.tm (DoneV.a (doW m g mc mt mf wt (AuV.mk st id rq d ct tm nk) 5 0 0 (D.l []) 0 0 (D.l []) tk))),zi (AuV.nk (DoneV.a (doW m g mc mt mf wt (AuV.mk st id rq d ct tm nk) 5 0 0 (D.l []) 0 0 (D.l []) tk)))],zs zC (DoneV.out (doW m g mc mt mf wt (AuV.mk st id rq d ct tm nk) 5 0 0 (D.l []) 0 0 (D.l []) tk)),zs zN (DoneV.did (doW m g mc mt mf wt (AuV.mk st id rq d ct tm nk) 5 0 0 (D.l []) 0 0 (D.l []) tk))])) (RT.ok (AV.tup [AV.agg [zi (AuV.st (DoneV.a (doW m g mc mt mf wt (AuV.mk st id rq d ct tm nk) 6 0 0 (D.l []) 0 0 (D.l []) tk))),zi (AuV.id (DoneV.a (doW m g mc mt mf wt (AuV.mk st id rq d ct tm nk) 6 0 0 (D.l []) 0 0 (D.l []) tk))),zi (AuV.rq (DoneV.a (doW m g mc mt mf wt (AuV.mk st id rq d ct tm nk) 6 0 0 (D.l []) 0 0 (D.l []) tk))),zs zO (AuV.d (DoneV.a (doW m g mc mt mf wt (AuV.mk st id rq d ct tm nk) 6 0 0 (D.l []) 0 0 (D.l []) tk))),zi (AuV.ct (DoneV.a (doW m g mc mt mf wt (AuV.mk st id rq d ct tm nk) 6 0 0 (D.l []) 0 0 (D.l []) tk))),zi (AuV.tm (DoneV.a (doW m g mc mt mf wt (AuV.mk st id rq d ct tm nk) 6 0 0 (D.l []) 0 0 (D.l []) tk))),zi (AuV.nk (DoneV.a (doW m g mc mt mf wt (AuV.mk st id rq d ct tm nk) 6 0 0 (D.l []) 0 0 (D.l []) tk)))],zs zC (DoneV.out (doW m g mc mt mf wt (AuV.mk st id rq d ct tm nk) 6 0 0 (D.l []) 0 0 (D.l []) tk)),zs zN (DoneV.did (doW m g mc mt mf wt (AuV.mk st id rq d ct tm nk) 6 0 0 (D.l []) 0 0 (D.l []) tk))]))))
theorem tmo_tree (m g mc mt mf wt st id rq:Int) (d:D) (ct tm nk tk:Int):treeF (evF Tryz.prog (gam (evDG Tryz.prog)) (lam ([])) 100 57) [.agg [.sl false rlS (rulD m g) none,ai mc,ai mt,ai mf,ai wt],autA st id rq d ct tm nk,ai tk]=tmo_treeT m g mc mt mf wt st id rq d ct tm nk tk:=by rw [← fvF_eq Tryz.prog (gam (evDG Tryz.prog)) (lam ([])) false 100 57]; kernel_rfl
def rtm_treeT (m g mc mt mf wt st id rq:Int) (d:D) (ct tm nk tk:Int):RT AV :=
RT.br (tm==0) (RT.ok (AV.tup [AV.agg [zi st,zi id,zi rq,zs zO d,zi ct,zi tm,zi nk],zz,zz])) (RT.br (decide (tk<tm)) (RT.ok (AV.tup [AV.agg [zi st,zi id,zi rq,zs zO d,zi ct,zi tm,zi nk],zz,zz])) (RT.br (decide (0<ct)) (RT.ok (AV.tup [AV.agg [zi (AuV.st (DoneV.a (doW m g mc mt mf wt (AuV.mk st id rq d ct tm nk) 5 0 0 (D.l []) 0 0 (D.l []) tk))),zi (AuV.id (DoneV.a (doW m g mc mt mf wt (AuV.mk st id rq d ct tm nk) 5 0 0 (D.l []) 0 0 (D.l []) tk))),zi (AuV.rq (DoneV.a (doW m g mc mt mf wt (AuV.mk st id rq d ct tm nk) 5 0 0 (D.l []) 0 0 (D.l []) tk))),zs zO (AuV.d (DoneV.a (doW m g mc mt mf wt (AuV.mk st id rq d ct tm nk) 5 0 0 (D.l []) 0 0 (D.l []) tk))),zi (AuV.ct (DoneV.a (doW m g mc mt mf wt (AuV.mk st id rq d ct tm nk) 5 0 0 (D.l []) 0 0 (D.l []) tk))),zi (AuV.tm (DoneV.a (doW m g mc mt mf wt (AuV.mk st id rq d ct tm nk) 5 0 0 (D.l []) 0 0 (D.l []) tk))),zi (AuV.nk (DoneV.a (doW m g mc mt mf wt (AuV.mk st id rq d ct tm nk) 5 0 0 (D.l []) 0 0 (D.l []) tk)))],zs zC (DoneV.out (doW m g mc mt mf wt (AuV.mk st id rq d ct tm nk) 5 0 0 (D.l []) 0 0 (D.l []) tk)),zs zN (DoneV.did (doW m g mc mt mf wt (AuV.mk st id rq d ct tm nk) 5 0 0 (D.l []) 0 0 (D.l []) tk))])) (RT.ok (AV.tup [AV.agg [zi (AuV.st (DoneV.a (doW m g mc mt mf wt (AuV.mk st id rq d ct tm nk) 6 0 0 (D.l []) 0 0 (D.l []) tk))),zi (AuV.id (DoneV.a (doW m g mc mt mf wt (AuV.mk st id rq d ct tm nk) 6 0 0 (D.l []) 0 0 (D.l []) tk))),zi (AuV.rq (DoneV.a (doW m g mc mt mf wt (AuV.mk st id rq d ct tm nk) 6 0 0 (D.l []) 0 0 (D.l []) tk))),zs zO (AuV.d (DoneV.a (doW m g mc mt mf wt (AuV.mk st id rq d ct tm nk) 6 0 0 (D.l []) 0 0 (D.l []) tk))),zi (AuV.ct (DoneV.a (doW m g mc mt mf wt (AuV.mk st id rq d ct tm nk) 6 0 0 (D.l []) 0 0 (D.l []) tk))),zi (AuV.tm (DoneV.a (doW m g mc mt mf wt (AuV.mk st id rq d ct tm nk) 6 0 0 (D.l []) 0 0 (D.l []) tk))),zi (AuV.nk (DoneV.a (doW m g mc mt mf wt (AuV.mk st id rq d ct tm nk) 6 0 0 (D.l []) 0 0 (D.l []) tk)))],zs zC (DoneV.out (doW m g mc mt mf wt (AuV.mk st id rq d ct tm nk) 6 0 0 (D.l []) 0 0 (D.l []) tk)),zs zN (DoneV.did (doW m g mc mt mf wt (AuV.mk st id rq d ct tm nk) 6 0 0 (D.l []) 0 0 (D.l []) tk))]))))
theorem rtm_tree (m g mc mt mf wt st id rq:Int) (d:D) (ct tm nk tk:Int):treeF (evF Tryz.prog (gam (evDG Tryz.prog)) (lam ([])) 100 113) [.agg [.sl false rlS (rulD m g) none,ai mc,ai mt,ai mf,ai wt],autA st id rq d ct tm nk,ai tk]=rtm_treeT m g mc mt mf wt st id rq d ct tm nk tk:=by rw [← fvF_eq Tryz.prog (gam (evDG Tryz.prog)) (lam ([])) false 100 113]; kernel_rfl
theorem tmo_soundF:SoundF Tryz.prog 57 (pureS Tryz.prog 57 FTmo):=by
  refine pure_by (gs:=evDG Tryz.prog) (ls:=[]) mixed evDG_ok trivial 57 100 fun args K ho H=>?_
  unfold FTmo at H
  split at H
  · split at H
    · rename_i r mc mt mf wt st id rq d ct tm nk tk _ m g hr
      refine ⟨_,leL_cons (le_agg (leL_cons (rlOf_le (kn':=false) hr) fun _ _ h=>h)) fun _ _ h=>h,?_⟩
      generalize m.toI=m at H ⊢
      generalize g.toI=g at H ⊢
      rw [tmo_tree]
      unfold tmW at H
      dsimp only at H
      refine ⟨fun h1=>?_,fun h1=>⟨fun h2=>?_,fun h2=>⟨fun h3=>?_,fun h3=>?_⟩⟩⟩
      · rw [h1,Bool.true_or,cond_true] at H
        exact ⟨_,le_off (a:=⟨st,id,rq,d,ct,tm,nk⟩),H⟩
      · rw [h1,h2,Bool.false_or,cond_true] at H
        exact ⟨_,le_off (a:=⟨st,id,rq,d,ct,tm,nk⟩),H⟩
      · rw [h1,h2,h3,Bool.false_or,cond_false,cond_true] at H
        exact ⟨_,Le.refl _,H⟩
      · rw [h1,h2,h3,Bool.false_or,cond_false,cond_false] at H
        exact ⟨_,Le.refl _,H⟩
    · exact H.elim
  · exact H.elim
theorem rtm_soundF:SoundF Tryz.prog 113 (pureS Tryz.prog 113 FTmo):=by
  refine pure_by (gs:=evDG Tryz.prog) (ls:=[]) mixed evDG_ok trivial 113 100 fun args K ho H=>?_
  unfold FTmo at H
  split at H
  · split at H
    · rename_i r mc mt mf wt st id rq d ct tm nk tk _ m g hr
      refine ⟨_,leL_cons (le_agg (leL_cons (rlOf_le (kn':=false) hr) fun _ _ h=>h)) fun _ _ h=>h,?_⟩
      generalize m.toI=m at H ⊢
      generalize g.toI=g at H ⊢
      rw [rtm_tree]
      unfold tmW at H
      dsimp only at H
      refine ⟨fun h1=>?_,fun h1=>⟨fun h2=>?_,fun h2=>⟨fun h3=>?_,fun h3=>?_⟩⟩⟩
      · rw [h1,Bool.true_or,cond_true] at H
        exact ⟨_,le_off (a:=⟨st,id,rq,d,ct,tm,nk⟩),H⟩
      · rw [h1,h2,Bool.false_or,cond_true] at H
        exact ⟨_,le_off (a:=⟨st,id,rq,d,ct,tm,nk⟩),H⟩
      · rw [h1,h2,h3,Bool.false_or,cond_false,cond_true] at H
        exact ⟨_,Le.refl _,H⟩
      · rw [h1,h2,h3,Bool.false_or,cond_false,cond_false] at H
        exact ⟨_,Le.refl _,H⟩
    · exact H.elim
  · exact H.elim
def neT (d:D) (x:Int) (i:Nat):Bool:=((d.get i).cell 0).toI != x
def hasT (d:D) (x:Int):Bool:=!okFrom (neT d x) d.len 0
def plaI (d:D) (x:Int):Int:=bif okFrom (neT d x) d.len 0 then -1 else ((badFrom (neT d x) d.len 0:Nat):Int)
abbrev plaC:AV:=.fn (.func 228) [] [.ptr 0 0]
def plaH (x:Int):Hp:=⟨[(0,[ai x])],1,[],0,1000,1000⟩
def plaL:Lw:=⟨[0,1,4,7,8],[],1,0,1000,1000⟩
def plaF (a:D×Int×Int) (i:Nat):Tm:=⟨19,[(0,asl opS a.1),(1,plaC),(4,ai 0),(7,ai a.2.2),(8,ai i)],[]⟩
def plaR (a:D×Int×Int) (i:Nat):Tm:=⟨19,[(0,asl opS a.1),(1,plaC),(4,ai i),(7,ai a.2.2),(8,ai i)],[]⟩
def plaDec (F:Tm) (h:Hp):Option ((D×Int×Int)×Nat):=match F,h with
  | ⟨19,[(0,.sl false [.int .i64,.sl [.int .u8]] d none),(1,.fn (.func 228) [] [.ptr 0 0]),(4,.sc false (.int .i64 0)),(7,.sc false (.int .i64 n)),(8,.sc false (.int .i64 0))],[]⟩,⟨[(0,[.sc false (.int .i64 x)])],1,[],0,1000,1000⟩=>some ((d,x,n),0)
  | _,_=>none
def plaT:(D×Int×Int)×Nat→RT Out:=searchT (fun a=>a.1.len) (fun a=>neT a.1 a.2.1) (fun a=>decide (a.2.2=(a.1.len:Int))) plaF plaR (fun a=>plaH a.2.1) .ret
def plaLs (P:Program):List (FuncId×Nat×BSpec):=[(227,0,loopS P plaL plaDec plaT)]
def rhtL:Lw:=⟨[0,1,4,5],[],0,0,1000,1000⟩
def rhtF (a:D×Int) (i:Nat):Tm:=⟨19,[(0,asl opS a.1),(1,ai a.2),(4,ab false),(5,ai i)],[]⟩
def rhtR (a:D×Int) (i:Nat):Tm:=⟨19,[(0,asl opS a.1),(1,ai a.2),(4,ab true),(5,ai i)],[]⟩
def rhtDec (F:Tm) (h:Hp):Option ((D×Int)×Nat):=match F,h with
  | ⟨19,[(0,.sl false [.int .i64,.sl [.int .u8]] d none),(1,.sc false (.int .i64 x)),(4,.sc false (.bool false)),(5,.sc false (.int .i64 0))],[]⟩,⟨[],0,[],0,1000,1000⟩=>some ((d,x),0)
  | _,_=>none
def rhtT:(D×Int)×Nat→RT Out:=searchT (fun a=>a.1.len) (fun a=>neT a.1 a.2) (fun _=>true) rhtF rhtR (fun _=>ren1H) .ret
def rhtLs (P:Program):List (FuncId×Nat×BSpec):=[(218,0,loopS P rhtL rhtDec rhtT)]
def FPla:List AV→RT AV
  | [.sl false [.int .i64,.sl [.int .u8]] d none,.sc false (.int .i64 x)]=>.ok (ai (plaI d x))
  | _=>.bad 276
def FHasT:List AV→RT AV
  | [.sl false [.int .i64,.sl [.int .u8]] d none,.sc false (.int .i64 x)]=>.ok (ab (hasT d x))
  | _=>.bad 277
theorem pla_body (d:D) (x n i:Int):roundT (⟨[0,1,4,7,8],[],1,0,1000,1000⟩) (evC Tryz.prog (gam ([])) (lam ([])) 100 227 (loopAt 0 (bodyOf Tryz.prog 227)) (⟨19,[(0,asl opS d),(1,plaC),(4,ai 0),(7,ai n),(8,ai i)],[]⟩) (⟨[(0,[ai x])],1,[],0,1000,1000⟩)) =
RT.br (decide (i<n)) (RT.br (decide (0≤i∧i<(↑(D.len d):Int))) (RT.br (D.toI (D.cell (D.get d (Int.toNat i)) 0)==x) (RT.ok (Ex.ret,(Tm.mk 19 [(0,zs zO d),(1,AV.fn (Fn.func 228) [] [AV.ptr 0 0]),(4,zi i),(7,zi n),(8,zi i)] []),(Hp.mk [(0,[zi x])] 1 [] 0 1000 1000))) (RT.ok (Ex.normal,(Tm.mk 19 [(0,zs zO d),(1,AV.fn (Fn.func 228) [] [AV.ptr 0 0]),(4,zi 0),(7,zi n),(8,zi (IntKind.wrap IntKind.i64 (i+1)))] []),(Hp.mk [(0,[zi x])] 1 [] 0 1000 1000)))) (RT.bad 42)) (RT.ok (Ex.exit 0,(Tm.mk 19 [(0,zs zO d),(1,AV.fn (Fn.func 228) [] [AV.ptr 0 0]),(4,zi 0),(7,zi n),(8,zi i)] []),(Hp.mk [(0,[zi x])] 1 [] 0 1000 1000))):=by rw [← fvC_eq Tryz.prog (gam ([])) (lam ([])) false 100]; kernel_rfl
theorem rht_body (d:D) (x i:Int):roundT (⟨[0,1,4,5],[],0,0,1000,1000⟩) (evC Tryz.prog (gam ([])) (lam ([])) 100 218 (loopAt 0 (bodyOf Tryz.prog 218)) (⟨19,[(0,asl opS d),(1,ai x),(4,ab false),(5,ai i)],[]⟩) (⟨[],0,[],0,1000,1000⟩)) =
RT.br (decide (i<(↑(D.len d):Int))) (RT.br (decide (0≤i∧i<(↑(D.len d):Int))) (RT.br (D.toI (D.cell (D.get d (Int.toNat i)) 0)==x) (RT.ok (Ex.ret,(Tm.mk 19 [(0,zs zO d),(1,zi x),(4,zb true),(5,zi i)] []),(Hp.mk [] 0 [] 0 1000 1000))) (RT.ok (Ex.normal,(Tm.mk 19 [(0,zs zO d),(1,zi x),(4,zb false),(5,zi (IntKind.wrap IntKind.i64 (i+1)))] []),(Hp.mk [] 0 [] 0 1000 1000)))) (RT.bad 42)) (RT.ok (Ex.exit 0,(Tm.mk 19 [(0,zs zO d),(1,zi x),(4,zb false),(5,zi i)] []),(Hp.mk [] 0 [] 0 1000 1000))):=by rw [← fvC_eq Tryz.prog (gam ([])) (lam ([])) false 100]; kernel_rfl
theorem pla_loop:LamE Tryz.prog 227 0 (loopS Tryz.prog plaL plaDec plaT):=by
  refine search_loop (gs:=[]) (ls:=[]) mixed trivial trivial _ 0 100 (by kernel_rfl) plaL (by intro h; cases h) (by intro h; cases h) ?_ ?_
  · intro F h x hx
    unfold plaDec at hx
    split at hx
    · cases hx; exact ⟨rfl,rfl⟩
    · cases hx
  · rintro ⟨d,x,n⟩ i K hn hi H1 H2 H3
    obtain rfl:n=(d.len:Int):=odt hn
    dsimp only at hi H1 H2 H3
    have hm:=d.len_le
    show (roundT plaL (evC _ _ _ _ _ _ (plaF (d,x,d.len) i) (plaH x))).holds _
    unfold plaL plaF plaH
    rw [pla_body]
    simp only [Int.toNat_natCast]
    refine ⟨fun h1=>⟨fun h2=>⟨fun h3=>?_,fun h3=>?_⟩,fun h2=>?_⟩,fun h1=>?_⟩
    all_goals simp only [decide_eq_true_eq,decide_eq_false_iff_not] at *
    · refine H2 (by omega) ?_
      unfold neT; rw [bne_eq_false_iff_eq]; exact eq_of_beq h3
    · rw [wrap_succ (by omega) hm]
      refine H1 (by omega) ?_
      unfold neT; rw [bne,h3]; rfl
    · omega
    · obtain rfl:i=d.len:=by omega
      exact H3 rfl
theorem rht_loop:LamE Tryz.prog 218 0 (loopS Tryz.prog rhtL rhtDec rhtT):=by
  refine search_loop (gs:=[]) (ls:=[]) mixed trivial trivial _ 0 100 (by kernel_rfl) rhtL (by intro h; cases h) (by intro h; cases h) ?_ ?_
  · intro F h x hx
    unfold rhtDec at hx
    split at hx
    · cases hx; exact ⟨rfl,rfl⟩
    · cases hx
  · rintro ⟨d,x⟩ i K _ hi H1 H2 H3
    dsimp only at hi H1 H2 H3
    have hm:=d.len_le
    show (roundT rhtL (evC _ _ _ _ _ _ (rhtF (d,x) i) ren1H)).holds _
    unfold rhtL rhtF ren1H
    rw [rht_body]
    simp only [Int.toNat_natCast]
    refine ⟨fun h1=>⟨fun h2=>⟨fun h3=>?_,fun h3=>?_⟩,fun h2=>?_⟩,fun h1=>?_⟩
    all_goals simp only [decide_eq_true_eq,decide_eq_false_iff_not] at *
    · refine H2 (by omega) ?_
      unfold neT; rw [bne_eq_false_iff_eq]; exact eq_of_beq h3
    · rw [wrap_succ (by omega) hm]
      refine H1 (by omega) ?_
      unfold neT; rw [bne,h3]; rfl
    · omega
    · obtain rfl:i=d.len:=by omega
      exact H3 rfl
theorem plaLs_ok:LamL Tryz.prog (plaLs Tryz.prog):=⟨pla_loop,trivial⟩
theorem rhtLs_ok:LamL Tryz.prog (rhtLs Tryz.prog):=⟨rht_loop,trivial⟩
theorem pla_tree (d:D) (x:Int):treeF (evF Tryz.prog (gam ([])) (lam (plaLs Tryz.prog)) 100 214) [asl opS d,ai x] =
RT.br (decide ((↑(D.len d):Int)=(↑(D.len d):Int))&&true) (RT.br (okFrom ((fun a=>neT (Prod.fst a) (Prod.fst (Prod.snd a))) (d,x,(↑(D.len d):Int))) (D.len d - 0) 0) (RT.ok (zk (-1))) (RT.ok (zi (↑(badFrom ((fun a=>neT (Prod.fst a) (Prod.fst (Prod.snd a))) (d,x,(↑(D.len d):Int))) (D.len d - 0) 0):Int)))) (RT.bad 210):=by rw [← fvF_eq Tryz.prog (gam ([])) (lam (plaLs Tryz.prog)) false 100 214]; kernel_rfl
theorem rht_tree (d:D) (x:Int):treeF (evF Tryz.prog (gam ([])) (lam (rhtLs Tryz.prog)) 100 218) [asl opS d,ai x] =
RT.br true (RT.br (okFrom ((fun a=>neT (Prod.fst a) (Prod.snd a)) (d,x)) (D.len d - 0) 0) (RT.ok (AV.sc true (Value.bool false))) (RT.ok (zb true))) (RT.bad 210):=by rw [← fvF_eq Tryz.prog (gam ([])) (lam (rhtLs Tryz.prog)) false 100 218]; kernel_rfl
theorem pla_soundF:SoundF Tryz.prog 214 (pureS Tryz.prog 214 FPla):=by
  refine pure_in (gs:=[]) (ls:=plaLs Tryz.prog) mixed trivial plaLs_ok 214 100 fun args K ho H=>?_
  unfold FPla at H
  split at H
  · rename_i d x
    rw [pla_tree]
    refine ⟨fun _=>⟨fun h=>⟨_,le_int ?_,H⟩,fun h=>⟨_,le_int ?_,H⟩⟩,fun h=>by simp at h⟩
    · unfold plaI; rw [show okFrom (neT d x) d.len 0=true from h]; rfl
    · unfold plaI; rw [show okFrom (neT d x) d.len 0=false from h]; rfl
  · exact H.elim
theorem rht_soundF:SoundF Tryz.prog 218 (pureS Tryz.prog 218 FHasT):=by
  refine pure_in (gs:=[]) (ls:=rhtLs Tryz.prog) mixed trivial rhtLs_ok 218 100 fun args K ho H=>?_
  unfold FHasT at H
  split at H
  · rename_i d x
    rw [rht_tree]
    refine ⟨fun _=>⟨fun h=>⟨_,le_bool ?_,H⟩,fun h=>⟨_,le_bool ?_,H⟩⟩,fun h=>by cases h⟩
    · unfold hasT; rw [show okFrom (neT d x) d.len 0=true from h]; rfl
    · unfold hasT; rw [show okFrom (neT d x) d.len 0=false from h]; rfl
  · exact H.elim
theorem plaI_has (d:D) (x:Int):decide (0≤plaI d x)=hasT d x:=by
  unfold plaI hasT
  cases okFrom (neT d x) d.len 0
  · exact det (Int.natCast_nonneg _)
  · rfl
abbrev optA (t:Int) (x:D):AV:=.agg [ai t,asl byS x]
abbrev rulA (t s k l h g:Int) (b:Bool):AV:=.agg [ai t,ai s,ai k,ai l,ai h,ai g,ab b]
def FOwnO:List AV→RT AV
  | [.agg [.sc false (.int .i64 t),.sl false [.int .u8] x none]]=>.ok (optA t x)
  | _=>.bad 278
def FGood:List AV→RT AV
  | [.agg [.sc false (.int .i64 t),.sc false (.int .i64 s),.sc false (.int .i64 _),.sc false (.int .i64 _),.sc false (.int .i64 _),.sc false (.int .i64 g),.sc false (.bool _)]]=>need false (decide ((0≤g∧g<4294967296)∧1≤s∧s≤8)) 279 (.ok (optA t (beD g s)))
  | _=>.bad 279
theorem owo_tree (t:Int) (x:D):treeF (evF Tryz.prog (gam (cloneG Tryz.prog)) (lam ([])) 100 213) [optA t x] =
RT.ok (AV.agg [zi t,zs zU x]):=by rw [← fvF_eq Tryz.prog (gam (cloneG Tryz.prog)) (lam ([])) false 100 213]; kernel_rfl
theorem goo_tree (t s k l h g:Int) (b:Bool):treeF (evF Tryz.prog (gam (putG Tryz.prog)) (lam ([])) 100 212) [rulA t s k l h g b] =
RT.br (decide ((0≤IntKind.wrap IntKind.u64 g∧IntKind.wrap IntKind.u64 g<18446744073709551616)∧1≤s∧s≤8)) (RT.ok (AV.agg [zi t,AV.sl true zU (beD (IntKind.wrap IntKind.u64 g) s) none])) (RT.bad 240):=by rw [← fvF_eq Tryz.prog (gam (putG Tryz.prog)) (lam ([])) false 100 212]; kernel_rfl
theorem rgo_tree (t s k l h g:Int) (b:Bool):treeF (evF Tryz.prog (gam (putG Tryz.prog)) (lam ([])) 100 220) [rulA t s k l h g b] =
RT.br (decide ((0≤IntKind.wrap IntKind.u64 g∧IntKind.wrap IntKind.u64 g<18446744073709551616)∧1≤s∧s≤8)) (RT.ok (AV.agg [zi t,AV.sl true zU (beD (IntKind.wrap IntKind.u64 g) s) none])) (RT.bad 240):=by rw [← fvF_eq Tryz.prog (gam (putG Tryz.prog)) (lam ([])) false 100 220]; kernel_rfl
theorem owo_soundF:SoundF Tryz.prog 213 (pureS Tryz.prog 213 FOwnO):=by
  refine pure_in (gs:=cloneG Tryz.prog) (ls:=[]) mixed cloneG_ok trivial 213 100 fun args K ho H=>?_
  unfold FOwnO at H
  split at H
  · rw [owo_tree]
    exact ⟨_,Le.refl _,H⟩
  · exact H.elim
theorem goo_soundF:SoundF Tryz.prog 212 (pureS Tryz.prog 212 FGood):=by
  refine pure_in (gs:=putG Tryz.prog) (ls:=[]) mixed putG_ok trivial 212 100 fun args K ho H=>?_
  unfold FGood at H
  split at H
  · rename_i t s k l h g b
    obtain ⟨hc,H⟩:=need_holds H
    obtain ⟨h0,h1⟩:=odt hc
    rw [goo_tree]
    have e:IntKind.wrap .u64 g=g:=by
      show g % 18446744073709551616=g
      omega
    rw [e]
    exact ⟨fun _=>⟨_,le_agg (leL_cons (Le.refl _) (leL_cons (le_sl rfl fun i _=>eqEl_refl _ _ _) leL_nil)),H⟩,fun hf=>absurd ⟨⟨h0.1,by omega⟩,h1⟩ (odf hf)⟩
  · exact H.elim
theorem rgo_soundF:SoundF Tryz.prog 220 (pureS Tryz.prog 220 FGood):=by
  refine pure_in (gs:=putG Tryz.prog) (ls:=[]) mixed putG_ok trivial 220 100 fun args K ho H=>?_
  unfold FGood at H
  split at H
  · rename_i t s k l h g b
    obtain ⟨hc,H⟩:=need_holds H
    obtain ⟨h0,h1⟩:=odt hc
    rw [rgo_tree]
    have e:IntKind.wrap .u64 g=g:=by
      show g % 18446744073709551616=g
      omega
    rw [e]
    exact ⟨fun _=>⟨_,le_agg (leL_cons (Le.refl _) (leL_cons (le_sl rfl fun i _=>eqEl_refl _ _ _) leL_nil)),H⟩,fun hf=>absurd ⟨⟨h0.1,by omega⟩,h1⟩ (odf hf)⟩
  · exact H.elim
def byR (n:Int):Prop:=0≤n∧n<256
instance (n:Int):Decidable (byR n):=by unfold byR; infer_instance
def numB (x:D):Int:=if x.len=2 then 256*byA x 0+byA x 1 else 256*(256*(256*byA x 0+byA x 1)+byA x 2)+byA x 3
def FNum:List AV→RT AV
  | [.agg [.sc false (.int .i64 _),.sl false [.int .u8] x none]]=>need false (decide ((x.len=2∧byR (byA x 0)∧byR (byA x 1))∨(x.len=4∧byR (byA x 0)∧byR (byA x 1)∧byR (byA x 2)∧byR (byA x 3)))) 280 (.ok (ai (numB x)))
  | _=>.bad 280
theorem nu2_tree (t a b:Int):treeF (evF Tryz.prog (gam ([])) (lam ([])) 100 226) [.agg [ai t,.sl true byS (.l [.i a,.i b]) none]] =
RT.br true (RT.ok (zi (IntKind.wrap IntKind.i64 (IntKind.wrap IntKind.u64 (↑(BitVec.toNat (BitVec.ofInt (IntKind.bits IntKind.u64) (IntKind.wrap IntKind.u64 (IntKind.wrap IntKind.u64 (↑(BitVec.toNat (BitVec.ofInt (IntKind.bits IntKind.u64) (Int.ofNat 0) ||| BitVec.ofInt (IntKind.bits IntKind.u64) (IntKind.wrap IntKind.u64 (D.toI (D.cell (D.get (D.l [D.i a,D.i b]) (Int.toNat (Int.ofNat 0))) 0))))):Int)*2 ^ min (Int.toNat 8) (IntKind.bits IntKind.u64))) ||| BitVec.ofInt (IntKind.bits IntKind.u64) (IntKind.wrap IntKind.u64 (D.toI (D.cell (D.get (D.l [D.i a,D.i b]) (Int.toNat (Int.ofNat (Nat.succ 0)))) 0))))):Int))))) (RT.bad 25):=by rw [← fvF_eq Tryz.prog (gam ([])) (lam ([])) false 100 226]; kernel_rfl
theorem nu4_tree (t a b c d:Int):treeF (evF Tryz.prog (gam ([])) (lam ([])) 100 226) [.agg [ai t,.sl true byS (.l [.i a,.i b,.i c,.i d]) none]] =
RT.br true (RT.br true (RT.br true (RT.ok (zi (IntKind.wrap IntKind.i64 (IntKind.wrap IntKind.u64 (↑(BitVec.toNat (BitVec.ofInt (IntKind.bits IntKind.u64) (IntKind.wrap IntKind.u64 (IntKind.wrap IntKind.u64 (↑(BitVec.toNat (BitVec.ofInt (IntKind.bits IntKind.u64) (IntKind.wrap IntKind.u64 (IntKind.wrap IntKind.u64 (↑(BitVec.toNat (BitVec.ofInt (IntKind.bits IntKind.u64) (IntKind.wrap IntKind.u64 (IntKind.wrap IntKind.u64 (↑(BitVec.toNat (BitVec.ofInt (IntKind.bits IntKind.u64) (Int.ofNat 0) ||| BitVec.ofInt (IntKind.bits IntKind.u64) (IntKind.wrap IntKind.u64 (D.toI (D.cell (D.get (D.l [D.i a,D.i b,D.i c,D.i d]) (Int.toNat (Int.ofNat 0))) 0))))):Int)*2 ^ min (Int.toNat 8) (IntKind.bits IntKind.u64))) ||| BitVec.ofInt (IntKind.bits IntKind.u64) (IntKind.wrap IntKind.u64 (D.toI (D.cell (D.get (D.l [D.i a,D.i b,D.i c,D.i d]) (Int.toNat (Int.ofNat (Nat.succ 0)))) 0))))):Int)*2 ^ min (Int.toNat 8) (IntKind.bits IntKind.u64))) ||| BitVec.ofInt (IntKind.bits IntKind.u64) (IntKind.wrap IntKind.u64 (D.toI (D.cell (D.get (D.l [D.i a,D.i b,D.i c,D.i d]) (Int.toNat (Int.ofNat (Nat.succ 1)))) 0))))):Int)*2 ^ min (Int.toNat 8) (IntKind.bits IntKind.u64))) ||| BitVec.ofInt (IntKind.bits IntKind.u64) (IntKind.wrap IntKind.u64 (D.toI (D.cell (D.get (D.l [D.i a,D.i b,D.i c,D.i d]) (Int.toNat (Int.ofNat (Nat.succ 2)))) 0))))):Int))))) (RT.bad 25)) (RT.bad 25)) (RT.bad 25):=by rw [← fvF_eq Tryz.prog (gam ([])) (lam ([])) false 100 226]; kernel_rfl
theorem rn2_tree (t a b:Int):treeF (evF Tryz.prog (gam ([])) (lam ([])) 100 219) [.agg [ai t,.sl true byS (.l [.i a,.i b]) none]] =
RT.ok (zi (IntKind.wrap IntKind.i64 (IntKind.wrap IntKind.i64 (256*IntKind.wrap IntKind.i64 (0+IntKind.wrap IntKind.i64 a))+IntKind.wrap IntKind.i64 b))):=by rw [← fvF_eq Tryz.prog (gam ([])) (lam ([])) false 100 219]; kernel_rfl
theorem rn4_tree (t a b c d:Int):treeF (evF Tryz.prog (gam ([])) (lam ([])) 100 219) [.agg [ai t,.sl true byS (.l [.i a,.i b,.i c,.i d]) none]] =
RT.ok (zi (IntKind.wrap IntKind.i64 (IntKind.wrap IntKind.i64 (256*IntKind.wrap IntKind.i64 (IntKind.wrap IntKind.i64 (256*IntKind.wrap IntKind.i64 (IntKind.wrap IntKind.i64 (256*IntKind.wrap IntKind.i64 (0+IntKind.wrap IntKind.i64 a))+IntKind.wrap IntKind.i64 b))+IntKind.wrap IntKind.i64 c))+IntKind.wrap IntKind.i64 d))):=by rw [← fvF_eq Tryz.prog (gam ([])) (lam ([])) false 100 219]; kernel_rfl
def orS (x y:Int):Int:=IntKind.wrap IntKind.u64 (↑(BitVec.toNat (BitVec.ofInt (IntKind.bits IntKind.u64) (IntKind.wrap IntKind.u64 (x*2 ^ min (Int.toNat 8) (IntKind.bits IntKind.u64))) ||| BitVec.ofInt (IntKind.bits IntKind.u64) (IntKind.wrap IntKind.u64 y))):Int)
theorem orS_eq {x y:Int} (hx:0≤x∧x<16777216) (hy:0≤y∧y<256):orS x y=256*x+y:=by
  obtain ⟨a,rfl⟩:=Int.eq_ofNat_of_zero_le hx.1
  obtain ⟨b,rfl⟩:=Int.eq_ofNat_of_zero_le hy.1
  have hw:∀ n:Nat,n<18446744073709551616→IntKind.wrap IntKind.u64 (n:Int)=(n:Int):=fun n hn=>by
    show (n:Int) % 18446744073709551616=n
    omega
  have ho:∀ p q:Nat,p<72057594037927936→q<256→BitVec.toNat (BitVec.ofInt (IntKind.bits IntKind.u64) ((p*256:Nat):Int) ||| BitVec.ofInt (IntKind.bits IntKind.u64) (q:Int))=256*p+q:=fun p q hp hq=>by
    have:=u64_or_byte p q hp hq
    rw [hw q (by omega)] at this
    unfold bits at this
    rw [show ((p:Int)*256)=((p*256:Nat):Int) by simp] at this
    have h3:∀ z:Nat,z<18446744073709551616→IntKind.u64.wrap (z:Int)=((256*p+q:Nat):Int)→z=256*p+q:=fun z hz h=>by
      rw [hw z hz] at h; exact Int.ofNat.inj h
    exact h3 _ (BitVec.isLt _) this
  have hm:min (Int.toNat 8) (IntKind.bits IntKind.u64)=8:=by decide
  unfold orS
  rw [hm,show ((a:Int)*2 ^ 8)=((a*256:Nat):Int) by simp,hw (a*256) (by omega),hw b (by omega),ho a b (by omega) (by omega),hw _ (by omega)]
  omega
theorem orZ_eq {y:Int} (hy:0≤y∧y<256):IntKind.wrap IntKind.u64 (↑(BitVec.toNat (BitVec.ofInt (IntKind.bits IntKind.u64) (Int.ofNat 0) ||| BitVec.ofInt (IntKind.bits IntKind.u64) (IntKind.wrap IntKind.u64 y))):Int)=y:=by
  have h:=orS_eq (x:=0) ⟨by omega,by omega⟩ hy
  rw [Int.mul_zero,Int.zero_add] at h
  exact h
theorem nu2_val {a b:Int} (ha:byR a) (hb:byR b):IntKind.wrap .i64 (orS (IntKind.wrap IntKind.u64 (↑(BitVec.toNat (BitVec.ofInt (IntKind.bits IntKind.u64) (Int.ofNat 0) ||| BitVec.ofInt (IntKind.bits IntKind.u64) (IntKind.wrap IntKind.u64 a))):Int)) b)=256*a+b:=by
  unfold byR at ha hb
  rw [orZ_eq ha,orS_eq ⟨ha.1,by omega⟩ hb,i64_id ⟨by omega,by omega⟩]
theorem nu4_val {a b c d:Int} (ha:byR a) (hb:byR b) (hc:byR c) (hd:byR d):IntKind.wrap .i64 (orS (orS (orS (IntKind.wrap IntKind.u64 (↑(BitVec.toNat (BitVec.ofInt (IntKind.bits IntKind.u64) (Int.ofNat 0) ||| BitVec.ofInt (IntKind.bits IntKind.u64) (IntKind.wrap IntKind.u64 a))):Int)) b) c) d)=256*(256*(256*a+b)+c)+d:=by
  unfold byR at ha hb hc hd
  rw [orZ_eq ha,orS_eq ⟨ha.1,by omega⟩ hb,orS_eq ⟨by omega,by omega⟩ hc,orS_eq ⟨by omega,by omega⟩ hd,i64_id ⟨by omega,by omega⟩]
theorem rn2_val {a b:Int} (ha:byR a) (hb:byR b):IntKind.wrap IntKind.i64 (IntKind.wrap IntKind.i64 (256*IntKind.wrap IntKind.i64 (0+IntKind.wrap IntKind.i64 a))+IntKind.wrap IntKind.i64 b)=256*a+b:=by
  unfold byR at ha hb
  rw [i64_id (n:=a) ⟨by omega,by omega⟩,i64_id (n:=b) ⟨by omega,by omega⟩,Int.zero_add,i64_id (n:=a) ⟨by omega,by omega⟩,i64_id (n:=256*a) ⟨by omega,by omega⟩,i64_id ⟨by omega,by omega⟩]
theorem rn4_val {a b c d:Int} (ha:byR a) (hb:byR b) (hc:byR c) (hd:byR d):IntKind.wrap IntKind.i64 (IntKind.wrap IntKind.i64 (256*IntKind.wrap IntKind.i64 (IntKind.wrap IntKind.i64 (256*IntKind.wrap IntKind.i64 (IntKind.wrap IntKind.i64 (256*IntKind.wrap IntKind.i64 (0+IntKind.wrap IntKind.i64 a))+IntKind.wrap IntKind.i64 b))+IntKind.wrap IntKind.i64 c))+IntKind.wrap IntKind.i64 d)=256*(256*(256*a+b)+c)+d:=by
  rw [rn2_val ha hb]
  unfold byR at ha hb hc hd
  rw [i64_id (n:=c) ⟨by omega,by omega⟩,i64_id (n:=d) ⟨by omega,by omega⟩,i64_id (n:=256*(256*a+b)) ⟨by omega,by omega⟩,i64_id (n:=256*(256*a+b)+c) ⟨by omega,by omega⟩,i64_id (n:=256*(256*(256*a+b)+c)) ⟨by omega,by omega⟩,i64_id ⟨by omega,by omega⟩]
theorem two_le {x:D} (h:x.len=2) {kn kn':Bool}:Le (.sl kn byS x none) (.sl kn' byS (.l [.i (byA x 0),.i (byA x 1)]) none):=by
  have hl:(D.l [.i (byA x 0),.i (byA x 1)]).toL=[.i (byA x 0),.i (byA x 1)]:=toL_l (by unfold maxLen; simp)
  refine le_sl (by unfold D.len at h ⊢; rw [hl,h]; rfl) fun i hi=>?_
  rw [show (D.l [.i (byA x 0),.i (byA x 1)]).get i=[D.i (byA x 0),D.i (byA x 1)].getD i .n from by unfold D.get; rw [hl]]
  have hi:i<2:=by omega
  match i,hi with
  | 0,_=>exact ⟨rfl,trivial⟩
  | 1,_=>exact ⟨rfl,trivial⟩
theorem four_le {x:D} (h:x.len=4) {kn kn':Bool}:Le (.sl kn byS x none) (.sl kn' byS (.l [.i (byA x 0),.i (byA x 1),.i (byA x 2),.i (byA x 3)]) none):=by
  have hl:(D.l [.i (byA x 0),.i (byA x 1),.i (byA x 2),.i (byA x 3)]).toL=[.i (byA x 0),.i (byA x 1),.i (byA x 2),.i (byA x 3)]:=toL_l (by unfold maxLen; simp)
  refine le_sl (by unfold D.len at h ⊢; rw [hl,h]; rfl) fun i hi=>?_
  rw [show (D.l [.i (byA x 0),.i (byA x 1),.i (byA x 2),.i (byA x 3)]).get i=[D.i (byA x 0),D.i (byA x 1),D.i (byA x 2),D.i (byA x 3)].getD i .n from by unfold D.get; rw [hl]]
  have hi:i<4:=by omega
  match i,hi with
  | 0,_=>exact ⟨rfl,trivial⟩
  | 1,_=>exact ⟨rfl,trivial⟩
  | 2,_=>exact ⟨rfl,trivial⟩
  | 3,_=>exact ⟨rfl,trivial⟩
theorem rnu_soundF:SoundF Tryz.prog 219 (pureS Tryz.prog 219 FNum):=by
  refine pure_by (gs:=[]) (ls:=[]) mixed trivial trivial 219 100 fun args K ho H=>?_
  unfold FNum at H
  split at H
  · rename_i t x
    obtain ⟨hc,H⟩:=need_holds H
    rcases odt hc with ⟨h,b0,b1⟩ | ⟨h,b0,b1,b2,b3⟩
    · refine ⟨_,leL_cons (le_agg (leL_cons (Le.refl _) (leL_cons (two_le (kn':=true) h) leL_nil))) leL_nil,?_⟩
      rw [rn2_tree]
      exact ⟨_,le_int (by rw [rn2_val b0 b1]; unfold numB; rw [if_pos h]),H⟩
    · refine ⟨_,leL_cons (le_agg (leL_cons (Le.refl _) (leL_cons (four_le (kn':=true) h) leL_nil))) leL_nil,?_⟩
      rw [rn4_tree]
      exact ⟨_,le_int (by rw [rn4_val b0 b1 b2 b3]; unfold numB; rw [if_neg (by omega)]),H⟩
  · exact H.elim
theorem num_soundF:SoundF Tryz.prog 226 (pureS Tryz.prog 226 FNum):=by
  refine pure_by (gs:=[]) (ls:=[]) mixed trivial trivial 226 100 fun args K ho H=>?_
  unfold FNum at H
  split at H
  · rename_i t x
    obtain ⟨hc,H⟩:=need_holds H
    rcases odt hc with ⟨h,b0,b1⟩ | ⟨h,b0,b1,b2,b3⟩
    · refine ⟨_,leL_cons (le_agg (leL_cons (Le.refl _) (leL_cons (two_le (kn':=true) h) leL_nil))) leL_nil,?_⟩
      rw [nu2_tree]
      refine ⟨fun _=>⟨_,le_int ((nu2_val b0 b1).trans ?_),H⟩,fun h=>by cases h⟩
      unfold numB; rw [if_pos h]
    · refine ⟨_,leL_cons (le_agg (leL_cons (Le.refl _) (leL_cons (four_le (kn':=true) h) leL_nil))) leL_nil,?_⟩
      rw [nu4_tree]
      refine ⟨fun _=>⟨fun _=>⟨fun _=>⟨_,le_int ((nu4_val b0 b1 b2 b3).trans ?_),H⟩,fun h=>by cases h⟩,fun h=>by cases h⟩,fun h=>by cases h⟩
      unfold numB; rw [if_neg (by omega)]
  · exact H.elim
end
end Go.Proofs.YtcambhbmobepjaaGreat
namespace Go.Proofs.YtcambhbmobepjaaGreat
set_option linter.unusedSimpArgs false
set_option linter.unusedVariables false
open Go.RowKit
set_option maxRecDepth 10000
noncomputable section
def ptrsL:List AV→List Nat→List Nat
  | [],acc=>acc
  | .ptr o _ :: r,acc=>bif acc.contains o then ptrsL r acc else ptrsL r (acc ++ [o])
  | _ :: r,acc=>ptrsL r acc
theorem ptrsL_nodup:∀ (l:List AV) (acc:List Nat),acc.Nodup→(ptrsL l acc).Nodup
  | [],_,h=>h
  | .ptr o _ :: r,acc,h=>by
    show (bif acc.contains o then ptrsL r acc else ptrsL r (acc ++ [o])).Nodup
    cases hc:acc.contains o
    · refine ptrsL_nodup r (acc ++ [o]) ?_
      rw [List.nodup_append]
      refine ⟨h,by simp,fun a ha b hb=>?_⟩
      obtain rfl:=List.mem_singleton.1 hb
      rintro rfl
      rw [List.contains_iff_mem.2 ha] at hc; cases hc
    · exact ptrsL_nodup r acc h
  | .any :: r,acc,h=>ptrsL_nodup r acc h
  | .sc _ _ :: r,acc,h=>ptrsL_nodup r acc h
  | .sl _ _ _ _ :: r,acc,h=>ptrsL_nodup r acc h
  | .mp _ :: r,acc,h=>ptrsL_nodup r acc h
  | .ep _ _ _ _ :: r,acc,h=>ptrsL_nodup r acc h
  | .fn _ _ _ :: r,acc,h=>ptrsL_nodup r acc h
  | .agg _ :: r,acc,h=>ptrsL_nodup r acc h
  | .tup _ :: r,acc,h=>ptrsL_nodup r acc h
  | .rsl _ _ _ _ :: r,acc,h=>ptrsL_nodup r acc h
  | .rp _ _ _ _ _ :: r,acc,h=>ptrsL_nodup r acc h
  | .rw _ _ :: r,acc,h=>ptrsL_nodup r acc h
def objS (sp:Spec):Spec:=fun args h=>bif (ptrsL args []).all (fun o=>(lookO o h.ob).isSome) then
  (sp (renL (ptrsL args []) [] 0 h.gn args) (h.ren (ptrsL args []) [] 0 0)).bind fun x=>.ok (bak (ptrsL args []) [] h.nv h.ng 0 x.2.gn x.1,h.bak (ptrsL args []) [] 0 x.2) else .bad 290
theorem objS_ok {P:Program} {f:FuncId} {sp:Spec} (hs:SoundF P f sp):SoundF P f (objS sp):=by
  intro args h K H w0 G E w vals I hr
  unfold objS at H
  cases hc:(ptrsL args []).all (fun o=>(lookO o h.ob).isSome)
  · rw [hc] at H; exact H.elim
  rw [hc] at H
  simp only [cond_true] at H
  rw [RT.holds_bind] at H
  have hnd:(ptrsL args []).Nodup:=ptrsL_nodup _ _ .nil
  generalize ptrsL args []=os at hc H hnd
  have hol:∀ o ∈ os,E.live o:=fun o ho=>(I.live o).2 (List.all_eq_true.1 hc o ho)
  have I2:=(I.ren (os:=os) (ks:=[]) (g0:=0) hnd .nil (by simp) 0).top
  have hr2:=ren_relL (os:=os) (ks:=[]) (g0:=0) I _ _ hr
  refine (hs _ _ _ H w _ _ w vals I2 hr2).mono ?_
  rintro e w' ⟨r,h',v,E',hK,rfl,S,hv⟩
  have S3:=Inv.bak (mk:=0) I hnd hol .nil (by simp) (Nat.le_refl _) (Nat.zero_le _) S
  have hv3:=bak_rel (h':=h') S.inv S.ext (mk:=0) .nil (by simp) (Nat.zero_le _) (Nat.le_refl _) hol h.ng r v hv
  rw [I.m] at hv3
  exact ⟨_,_,v,_,hK,rfl,S3,hv3⟩
def fitB (p:Nat) (h:Hp):Bool:=Nat.ble h.nx p&&Nat.beq h.nv 0&&Nat.ble h.ng 1000&&Nat.blt (h.ep+h.ob.length) 1000
def treeO (p:Nat) (sp:Spec) (args:List AV) (h:Hp):RT (AV×Hp):=(sp args h).bind fun x=>.ok (ren (List.range p) [] 1000 x.2.gn x.1,x.2.can p 0 1000 1000)
theorem obj_in {P:Program} {gs:List (FuncId×Spec)} {ls:List (FuncId×Nat×BSpec)} (hm:Fit P) (hΓ:GamL P gs) (hΛ:LamL P ls) (f n p:Nat) {F:Spec} (hF:∀ args h K,(F args h).holds K→fitB p h=true∧(treeO p (evF P (gam gs) (lam ls) n f) args h).holds fun x=>∃ y,Le x.1 y∧K (y,x.2)):SoundF P f F:=by
  intro args h K H w0 G E w vals I hr
  obtain ⟨hb,h1⟩:=hF args h K H
  unfold treeO at h1
  rw [RT.holds_bind] at h1
  unfold fitB at hb
  simp only [Bool.and_eq_true] at hb
  obtain ⟨⟨⟨b1,b2⟩,b3⟩,b4⟩:=hb
  have b1:=Nat.le_of_ble_eq_true b1
  have b2:=Nat.eq_of_beq_eq_true b2
  have b3:=Nat.le_of_ble_eq_true b3
  have b4:=Nat.lt_of_lt_of_le (Nat.lt_succ_self _) (Nat.le_of_ble_eq_true b4)
  refine (evF_ok hm (gam_ok hΓ) (lam_ok hΛ) n f _ _ _ h1 w0 G E w vals I hr).mono ?_
  rintro e w' ⟨r,h',v,E',⟨y,hy,hK⟩,rfl,S,hv⟩
  have Sc:=can_step S I (p:=p) (q:=0) (N:=1000) (ep:=1000) b1 (by omega) (Nat.zero_le _) b3 (fun o _=>by unfold ver; have:=cnt_le o h.ob; omega)
  exact ⟨y,_,v,_,hK,rfl,Sc,hy _ _ (ren_rel (os:=List.range p) (ks:=List.range 0) (g0:=1000) S.inv _ _ hv)⟩
def foldT {α:Type} (n:α→Nat) (okk:α→Bool) (mkF:α→Nat→Tm) (mkH:α→Nat→Hp) (x:α×Nat):RT Out :=
  need false (okk x.1&&decide (x.2≤n x.1)) 210 (.ok (.normal,mkF x.1 (n x.1),mkH x.1 (n x.1)))
theorem fold_loop {P:Program} {gs:List (FuncId×Spec)} {ls:List (FuncId×Nat×BSpec)} {α:Type} (hm:Fit P) (hΓ:GamL P gs) (hΛ:LamL P ls) (f id n:Nat) (hl:isLoop id (bodyOf P f)=true) (L:Lw)
    {len:α→Nat} {okk:α→Bool} {mkF:α→Nat→Tm} {mkH:α→Nat→Hp} {dec:Tm→Hp→Option (α×Nat)}
    (hdec:∀ F h x,dec F h=some x→F=mkF x.1 x.2∧h=mkH x.1 x.2)
    (hround:∀ a i (K:Out→Prop),okk a=true→i≤len a→(i<len a→K (.normal,mkF a (i+1),mkH a (i+1)))→(i=len a→K (.exit id,mkF a (len a),mkH a (len a))) →
      (roundT L (evC P (gam gs) (lam ls) n f (loopAt id (bodyOf P f)) (mkF a i) (mkH a i))).holds K) :
    LamE P f id (loopS P L dec (foldT len okk mkF mkH)):=by
  refine loop_in2 hm hΓ hΛ f id n hl L (mkF:=fun x=>mkF x.1 x.2) (mkH:=fun x=>mkH x.1 x.2) (fun x=>len x.1 - x.2) hdec ?_
  rintro ⟨a,i⟩ K H
  obtain ⟨hc,H⟩:=need_holds H
  simp only [Bool.and_eq_true,decide_eq_true_eq] at hc
  obtain ⟨hok,hi⟩:=hc
  refine hround a i _ hok hi ?_ ?_
  · intro hlt
    refine ⟨(a,i+1),⟨rfl,rfl⟩,by show len a - (i+1)<len a - i; omega,?_⟩
    refine ⟨fun _=>H,fun hf=>?_⟩
    simp only [hok,Bool.true_and,decide_eq_false_iff_not] at hf
    exact absurd (show i+1≤len a by omega) hf
  · intro _
    unfold Round
    simp only [if_pos rfl]
    exact H
def filD (p:Nat→Bool) (f:Nat→D) (n:Nat):D:=.l (((List.range n).filter p).map f)
theorem filD_len_le (p:Nat→Bool) (f:Nat→D) (n:Nat):(filD p f n).len≤n:=by
  unfold D.len D.toL filD D.raw
  refine Nat.le_trans (List.length_take_le' _ _) ?_
  rw [List.length_map]
  refine Nat.le_trans (List.length_filter_le _ _) ?_
  rw [List.length_range]; exact Nat.le_refl _
theorem filD_toL {p:Nat→Bool} {f:Nat→D} {n:Nat} (h:n≤maxLen):(filD p f n).toL=((List.range n).filter p).map f:=by
  refine toL_l ?_
  rw [List.length_map]
  refine Nat.le_trans (List.length_filter_le _ _) ?_
  rw [List.length_range]; exact h
theorem filD_on {p:Nat→Bool} {f:Nat→D} {n:Nat} (h:n≤maxLen) (hp:p n=true):(filD p f n).app (.l [f n])=filD p f (n+1):=by
  unfold D.app
  rw [filD_toL h,toL_l (show [f n].length≤maxLen by simp; unfold maxLen; omega)]
  unfold filD
  rw [List.range_succ,List.filter_append,List.map_append]
  simp [hp]
theorem filD_off {p:Nat→Bool} {f:Nat→D} {n:Nat} (hp:p n=false):filD p f (n+1)=filD p f n:=by
  unfold filD
  rw [List.range_succ,List.filter_append]
  simp [hp]
end
end Go.Proofs.YtcambhbmobepjaaGreat
namespace Go.Proofs.YtcambhbmobepjaaGreat
set_option linter.unusedSimpArgs false
set_option linter.unusedVariables false
open Go.RowKit
set_option maxRecDepth 10000
noncomputable section
inductive Cd where
  | int (k:IntKind) | bool | str | sl (es:List Sh) | tp (es:List Sh) (k g:Nat) | nw (es:List Sh) (k g:Nat) | lit (a:AV) | agg (l:List Cd) | rs (o m:Nat) | row (es:List Sh)
def lqV:Value→Value→Bool
  | .int k a,.int k' b=>decide (k=k')&&a==b
  | .bool a,.bool b=>a==b
  | .slice none n m,.slice none n' m'=>Nat.beq n n'&&Nat.beq m m'
  | .nilFunc,.nilFunc=>true
  | _,_=>false
theorem lqV_eq:∀ (a b:Value),lqV a b=true→a=b:=by
  intro a b h
  unfold lqV at h
  split at h
  · rw [Bool.and_eq_true] at h; rw [of_decide_eq_true h.1,eq_of_beq h.2]
  · rw [eq_of_beq h]
  · rw [Bool.and_eq_true] at h; rw [Nat.eq_of_beq_eq_true h.1,Nat.eq_of_beq_eq_true h.2]
  · rfl
  · cases h
mutual
def lqA:AV→AV→Bool
  | .ptr o f,.ptr o' f'=>Nat.beq o o'&&Nat.beq f f'
  | .sc k v,.sc k' v'=>(k==k')&&lqV v v'
  | .fn (.func f) a c,.fn (.func f') a' c'=>Nat.beq f f'&&(lqAL a a'&&lqAL c c')
  | _,_=>false
def lqAL:List AV→List AV→Bool
  | [],[]=>true
  | x :: xs,y :: ys=>lqA x y&&lqAL xs ys
  | _,_=>false
end
mutual
theorem lqA_eq:∀ (a b:AV),lqA a b=true→a=b
  | .ptr o f,.ptr o' f',h=>by
    simp only [lqA,Bool.and_eq_true] at h
    rw [Nat.eq_of_beq_eq_true h.1,Nat.eq_of_beq_eq_true h.2]
  | .sc k v,.sc k' v',h=>by
    simp only [lqA,Bool.and_eq_true] at h
    rw [eq_of_beq h.1,lqV_eq _ _ h.2]
  | .fn (.func f) a c,.fn (.func f') a' c',h=>by
    simp only [lqA,Bool.and_eq_true] at h
    rw [Nat.eq_of_beq_eq_true h.1,lqAL_eq a a' h.2.1,lqAL_eq c c' h.2.2]
  | .any,_,h | .sl _ _ _ _,_,h | .mp _,_,h | .ep _ _ _ _,_,h | .agg _,_,h | .tup _,_,h | .rsl _ _ _ _,_,h | .rp _ _ _ _ _,_,h | .rw _ _,_,h=>by simp [lqA] at h
  | .ptr _ _,.any,h | .ptr _ _,.sc _ _,h | .ptr _ _,.sl _ _ _ _,h | .ptr _ _,.mp _,h | .ptr _ _,.ep _ _ _ _,h | .ptr _ _,.fn _ _ _,h | .ptr _ _,.agg _,h | .ptr _ _,.tup _,h | .ptr _ _,.rsl _ _ _ _,h | .ptr _ _,.rp _ _ _ _ _,h | .ptr _ _,.rw _ _,h=>by simp [lqA] at h
  | .sc _ _,.any,h | .sc _ _,.ptr _ _,h | .sc _ _,.sl _ _ _ _,h | .sc _ _,.mp _,h | .sc _ _,.ep _ _ _ _,h | .sc _ _,.fn _ _ _,h | .sc _ _,.agg _,h | .sc _ _,.tup _,h | .sc _ _,.rsl _ _ _ _,h | .sc _ _,.rp _ _ _ _ _,h | .sc _ _,.rw _ _,h=>by simp [lqA] at h
  | .fn x _ _,y,h=>by
    unfold lqA at h
    split at h
    · rename_i heq; cases heq
    · rename_i heq; cases heq
    · rename_i f a c f' a' c' heq1
      cases heq1
      simp only [Bool.and_eq_true] at h
      rw [Nat.eq_of_beq_eq_true h.1,lqAL_eq _ _ h.2.1,lqAL_eq _ _ h.2.2]
    · cases h
theorem lqAL_eq:∀ (a b:List AV),lqAL a b=true→a=b
  | [],[],_=>rfl
  | x :: xs,y :: ys,h=>by
    simp only [lqAL,Bool.and_eq_true] at h
    rw [lqA_eq x y h.1,lqAL_eq xs ys h.2]
  | [],_ :: _,h | _ :: _,[],h=>by simp [lqAL] at h
end
def g_int (k:IntKind) (x:AV):Option (List D):=match x with | .sc false (.int k' n)=>bif decide (k=k') then some [.i n] else none | _=>none
def w_int (k:IntKind) (ds:List D):AV×List D:=(.sc false (.int k (ds.headD .n).toI),ds.tail)
theorem g_int_ok (k:IntKind) {x:AV} {ds:List D} (h:g_int k x=some ds) (r:List D):w_int k (ds ++ r)=(x,r):=by
  unfold g_int at h
  split at h
  · rename_i k' n
    cases hk:decide (k=k')
    · rw [hk] at h; cases h
    · rw [hk] at h; cases h
      rw [of_decide_eq_true hk]; rfl
  · cases h
def g_bool  (x:AV):Option (List D):=match x with | .sc false (.bool b)=>some [.b b] | _=>none
def w_bool  (ds:List D):AV×List D:=(.sc false (.bool (ds.headD .n).toB),ds.tail)
theorem g_bool_ok  {x:AV} {ds:List D} (h:g_bool  x=some ds) (r:List D):w_bool  (ds ++ r)=(x,r):=by
  unfold g_bool at h
  split at h
  · cases h; rfl
  · cases h
def g_str  (x:AV):Option (List D):=match x with | .sc false (.string s)=>some [.s s] | _=>none
def w_str  (ds:List D):AV×List D:=(.sc false (.string (ds.headD .n).toS),ds.tail)
theorem g_str_ok  {x:AV} {ds:List D} (h:g_str  x=some ds) (r:List D):w_str  (ds ++ r)=(x,r):=by
  unfold g_str at h
  split at h
  · cases h; rfl
  · cases h
def g_sl (es:List Sh) (x:AV):Option (List D):=match x with | .sl false es' d none=>bif Sh.eqsL es' es then some [d] else none | _=>none
def w_sl (es:List Sh) (ds:List D):AV×List D:=(.sl false es (ds.headD .n) none,ds.tail)
theorem g_sl_ok (es:List Sh) {x:AV} {ds:List D} (h:g_sl es x=some ds) (r:List D):w_sl es (ds ++ r)=(x,r):=by
  unfold g_sl at h
  split at h
  · rename_i es' d
    cases hk:Sh.eqsL es' es
    · rw [hk] at h; cases h
    · rw [hk] at h; cases h
      rw [Sh.eqsL_eq _ _ hk]; rfl
  · cases h
def g_tp (es:List Sh) (k g:Nat) (x:AV):Option (List D):=match x with | .sl false es' d (some (k',g'))=>bif Sh.eqsL es' es&&(Nat.beq k' k&&Nat.beq g' g) then some [d] else none | _=>none
def w_tp (es:List Sh) (k g:Nat) (ds:List D):AV×List D:=(.sl false es (ds.headD .n) (some (k,g)),ds.tail)
theorem g_tp_ok (es:List Sh) (k g:Nat) {x:AV} {ds:List D} (h:g_tp es k g x=some ds) (r:List D):w_tp es k g (ds ++ r)=(x,r):=by
  unfold g_tp at h
  split at h
  · rename_i es' d k' g'
    cases hk:Sh.eqsL es' es&&(Nat.beq k' k&&Nat.beq g' g)
    · rw [hk] at h; cases h
    · rw [hk] at h; cases h
      simp only [Bool.and_eq_true] at hk; rw [Sh.eqsL_eq _ _ hk.1,Nat.eq_of_beq_eq_true hk.2.1,Nat.eq_of_beq_eq_true hk.2.2]; rfl
  · cases h
def g_nw (es:List Sh) (k g:Nat) (x:AV):Option (List D):=match x with | .sl false es' (.l []) (some (k',g'))=>bif Sh.eqsL es' es&&(Nat.beq k' k&&Nat.beq g' g) then some [] else none | _=>none
def w_nw (es:List Sh) (k g:Nat) (ds:List D):AV×List D:=(.sl false es (.l []) (some (k,g)),ds)
theorem g_nw_ok (es:List Sh) (k g:Nat) {x:AV} {ds:List D} (h:g_nw es k g x=some ds) (r:List D):w_nw es k g (ds ++ r)=(x,r):=by
  unfold g_nw at h
  split at h
  · rename_i es' k' g'
    cases hk:Sh.eqsL es' es&&(Nat.beq k' k&&Nat.beq g' g)
    · rw [hk] at h; cases h
    · rw [hk] at h; cases h
      simp only [Bool.and_eq_true] at hk; rw [Sh.eqsL_eq _ _ hk.1,Nat.eq_of_beq_eq_true hk.2.1,Nat.eq_of_beq_eq_true hk.2.2]; rfl
  · cases h
def g_rs (o m:Nat) (x:AV):Option (List D):=match x with | .rsl false o' m' n=>bif Nat.beq o' o&&Nat.beq m' m then some [.i (Int.ofNat n)] else none | _=>none
def w_rs (o m:Nat) (ds:List D):AV×List D:=(.rsl false o m (ds.headD .n).toI.toNat,ds.tail)
theorem g_rs_ok (o m:Nat) {x:AV} {ds:List D} (h:g_rs o m x=some ds) (r:List D):w_rs o m (ds ++ r)=(x,r):=by
  unfold g_rs at h
  split at h
  · rename_i o' m' n
    cases hk:Nat.beq o' o&&Nat.beq m' m
    · rw [hk] at h; cases h
    · rw [hk] at h; cases h
      simp only [Bool.and_eq_true] at hk; rw [Nat.eq_of_beq_eq_true hk.1,Nat.eq_of_beq_eq_true hk.2]; rfl
  · cases h
def g_row (es:List Sh) (x:AV):Option (List D):=match x with | .rw es' d=>bif Sh.eqsL es' es then some [d] else none | _=>none
def w_row (es:List Sh) (ds:List D):AV×List D:=(.rw es (ds.headD .n),ds.tail)
theorem g_row_ok (es:List Sh) {x:AV} {ds:List D} (h:g_row es x=some ds) (r:List D):w_row es (ds ++ r)=(x,r):=by
  unfold g_row at h
  split at h
  · rename_i es' d
    cases hk:Sh.eqsL es' es
    · rw [hk] at h; cases h
    · rw [hk] at h; cases h
      rw [Sh.eqsL_eq _ _ hk]; rfl
  · cases h
mutual
def cdA:Cd→AV→Option (List D)
  | .int k,x=>g_int k x
  | .bool ,x=>g_bool  x
  | .str ,x=>g_str  x
  | .sl es,x=>g_sl es x
  | .tp es k g,x=>g_tp es k g x
  | .nw es k g,x=>g_nw es k g x
  | .rs o m,x=>g_rs o m x
  | .row es,x=>g_row es x
  | .lit a,x=>bif lqA x a then some [] else none
  | .agg l,x=>match x with | .agg xs=>cdAL l xs | _=>none
def cdAL:List Cd→List AV→Option (List D)
  | [],[]=>some []
  | c :: cs,x :: xs=>match cdA c x,cdAL cs xs with | some a,some b=>some (a ++ b) | _,_=>none
  | _,_=>none
end
mutual
def ceA:Cd→List D→AV×List D
  | .int k,ds=>w_int k ds
  | .bool ,ds=>w_bool  ds
  | .str ,ds=>w_str  ds
  | .sl es,ds=>w_sl es ds
  | .tp es k g,ds=>w_tp es k g ds
  | .nw es k g,ds=>w_nw es k g ds
  | .rs o m,ds=>w_rs o m ds
  | .row es,ds=>w_row es ds
  | .lit a,ds=>(a,ds)
  | .agg l,ds=>(.agg (ceAL l ds).1,(ceAL l ds).2)
def ceAL:List Cd→List D→List AV×List D
  | [],ds=>([],ds)
  | c :: cs,ds=>((ceA c ds).1 :: (ceAL cs (ceA c ds).2).1,(ceAL cs (ceA c ds).2).2)
end
mutual
theorem cdA_ok:∀ (c:Cd) (x:AV) (ds:List D),cdA c x=some ds→∀ r,ceA c (ds ++ r)=(x,r)
  | .int k,x,ds,h,r=>by simp only [cdA] at h; simp only [ceA]; exact g_int_ok _ h r
  | .bool ,x,ds,h,r=>by simp only [cdA] at h; simp only [ceA]; exact g_bool_ok  h r
  | .str ,x,ds,h,r=>by simp only [cdA] at h; simp only [ceA]; exact g_str_ok  h r
  | .sl es,x,ds,h,r=>by simp only [cdA] at h; simp only [ceA]; exact g_sl_ok _ h r
  | .tp es k g,x,ds,h,r=>by simp only [cdA] at h; simp only [ceA]; exact g_tp_ok _ _ _ h r
  | .nw es k g,x,ds,h,r=>by simp only [cdA] at h; simp only [ceA]; exact g_nw_ok _ _ _ h r
  | .rs o m,x,ds,h,r=>by simp only [cdA] at h; simp only [ceA]; exact g_rs_ok _ _ h r
  | .row es,x,ds,h,r=>by simp only [cdA] at h; simp only [ceA]; exact g_row_ok _ h r
  | .lit a,x,ds,h,r=>by
    simp only [cdA] at h
    cases he:lqA x a
    · rw [he] at h; cases h
    · rw [he] at h; cases h; rw [lqA_eq _ _ he]; rfl
  | .agg l,.agg xs,ds,h,r=>by
    simp only [cdA] at h
    simp only [ceA]
    rw [cdAL_ok l xs ds h r]
  | .agg _,.any,_,h,_ | .agg _,.sc _ _,_,h,_ | .agg _,.sl _ _ _ _,_,h,_ | .agg _,.ptr _ _,_,h,_ | .agg _,.mp _,_,h,_ | .agg _,.ep _ _ _ _,_,h,_ | .agg _,.fn _ _ _,_,h,_ | .agg _,.tup _,_,h,_ | .agg _,.rsl _ _ _ _,_,h,_ | .agg _,.rp _ _ _ _ _,_,h,_ | .agg _,.rw _ _,_,h,_=>by simp [cdA] at h
theorem cdAL_ok:∀ (cs:List Cd) (xs:List AV) (ds:List D),cdAL cs xs=some ds→∀ r,ceAL cs (ds ++ r)=(xs,r)
  | [],[],ds,h,r=>by simp only [cdAL] at h; cases h; rfl
  | c :: cs,x :: xs,ds,h,r=>by
    simp only [cdAL] at h
    split at h
    · rename_i a b h1 h2
      cases h
      simp only [ceAL]
      rw [List.append_assoc,cdA_ok c x a h1 (b ++ r)]
      simp only
      rw [cdAL_ok cs xs b h2 r]
    · cases h
  | [],_ :: _,_,h,_ | _ :: _,[],_,h,_=>by simp [cdAL] at h
end
structure Cs where
  nt:Nat
  tm:List (Nat×Cd)
  ob:List (Nat×List Cd)
  nx:Nat
  gn:List (Nat×Nat×TypeId)
  nv:Nat
  ng:Nat
  ep:Nat
def lqG:List (Nat×Nat×TypeId)→List (Nat×Nat×TypeId)→Bool
  | [],[]=>true
  | (a,b,c) :: r,(a',b',c') :: r'=>Nat.beq a a'&&(Nat.beq b b'&&(Nat.beq c c'&&lqG r r'))
  | _,_=>false
theorem lqG_eq:∀ (a b:List (Nat×Nat×TypeId)),lqG a b=true→a=b
  | [],[],_=>rfl
  | (a,b,c) :: r,(a',b',c') :: r',h=>by
    simp only [lqG,Bool.and_eq_true] at h
    rw [Nat.eq_of_beq_eq_true h.1,Nat.eq_of_beq_eq_true h.2.1,Nat.eq_of_beq_eq_true h.2.2.1,lqG_eq r r' h.2.2.2]
  | [],_ :: _,h | _ :: _,[],h=>by simp [lqG] at h
def cdM:List (Nat×Cd)→List (Nat×AV)→Option (List D)
  | [],[]=>some []
  | (k,c) :: cs,(k',x) :: xs=>bif Nat.beq k' k then (match cdA c x,cdM cs xs with | some a,some b=>some (a ++ b) | _,_=>none) else none
  | _,_=>none
def cdO:List (Nat×List Cd)→List (Nat×List AV)→Option (List D)
  | [],[]=>some []
  | (k,c) :: cs,(k',x) :: xs=>bif Nat.beq k' k then (match cdAL c x,cdO cs xs with | some a,some b=>some (a ++ b) | _,_=>none) else none
  | _,_=>none
def ceM:List (Nat×Cd)→List D→List (Nat×AV)×List D
  | [],ds=>([],ds)
  | (k,c) :: cs,ds=>((k,(ceA c ds).1) :: (ceM cs (ceA c ds).2).1,(ceM cs (ceA c ds).2).2)
def ceO:List (Nat×List Cd)→List D→List (Nat×List AV)×List D
  | [],ds=>([],ds)
  | (k,c) :: cs,ds=>((k,(ceAL c ds).1) :: (ceO cs (ceAL c ds).2).1,(ceO cs (ceAL c ds).2).2)
theorem cdM_ok:∀ (cs:List (Nat×Cd)) (xs:List (Nat×AV)) (ds:List D),cdM cs xs=some ds→∀ r,ceM cs (ds ++ r)=(xs,r)
  | [],[],ds,h,r=>by simp only [cdM] at h; cases h; rfl
  | (k,c) :: cs,(k',x) :: xs,ds,h,r=>by
    simp only [cdM] at h
    cases hk:Nat.beq k' k
    · rw [hk] at h; cases h
    · rw [hk,cond_true] at h
      split at h
      · rename_i a b h1 h2
        cases h
        simp only [ceM]
        rw [List.append_assoc,cdA_ok c x a h1 (b ++ r)]
        simp only
        rw [cdM_ok cs xs b h2 r,Nat.eq_of_beq_eq_true hk]
      · cases h
  | [],_ :: _,_,h,_ | _ :: _,[],_,h,_=>by simp [cdM] at h
theorem cdO_ok:∀ (cs:List (Nat×List Cd)) (xs:List (Nat×List AV)) (ds:List D),cdO cs xs=some ds→∀ r,ceO cs (ds ++ r)=(xs,r)
  | [],[],ds,h,r=>by simp only [cdO] at h; cases h; rfl
  | (k,c) :: cs,(k',x) :: xs,ds,h,r=>by
    simp only [cdO] at h
    cases hk:Nat.beq k' k
    · rw [hk] at h; cases h
    · rw [hk,cond_true] at h
      split at h
      · rename_i a b h1 h2
        cases h
        simp only [ceO]
        rw [List.append_assoc,cdAL_ok c x a h1 (b ++ r)]
        simp only
        rw [cdO_ok cs xs b h2 r,Nat.eq_of_beq_eq_true hk]
      · cases h
  | [],_ :: _,_,h,_ | _ :: _,[],_,h,_=>by simp [cdO] at h
def cdS (c:Cs) (F:Tm) (h:Hp):Option (List D) :=
  bif (Nat.beq F.nt c.nt&&F.df.isEmpty)&&(Nat.beq h.nx c.nx&&(lqG h.gn c.gn&&(Nat.beq h.nv c.nv&&(Nat.beq h.ng c.ng&&Nat.beq h.ep c.ep)))) then
    (match cdM c.tm F.tm,cdO c.ob h.ob with | some a,some b=>some (a ++ b) | _,_=>none) else none
def ceF (c:Cs) (ds:List D):Tm:=⟨c.nt,(ceM c.tm ds).1,[]⟩
def ceH (c:Cs) (ds:List D):Hp:=⟨(ceO c.ob (ceM c.tm ds).2).1,c.nx,c.gn,c.nv,c.ng,c.ep⟩
theorem cdS_ok {c:Cs} {F:Tm} {h:Hp} {ds:List D} (hd:cdS c F h=some ds):F=ceF c ds∧h=ceH c ds:=by
  unfold cdS at hd
  cases hb:(Nat.beq F.nt c.nt&&F.df.isEmpty)&&(Nat.beq h.nx c.nx&&(lqG h.gn c.gn&&(Nat.beq h.nv c.nv&&(Nat.beq h.ng c.ng&&Nat.beq h.ep c.ep))))
  · rw [hb] at hd; cases hd
  rw [hb,cond_true] at hd
  simp only [Bool.and_eq_true] at hb
  obtain ⟨⟨h1,h2⟩,h3,h4,h5,h6,h7⟩:=hb
  split at hd
  · rename_i a b ha hb
    cases hd
    have e1:=cdM_ok _ _ _ ha b
    have e2:=cdO_ok _ _ _ hb []
    rw [List.append_nil] at e2
    unfold ceF ceH
    rw [e1]
    simp only
    rw [e2]
    obtain ⟨nt,tm,df⟩:=F
    obtain ⟨ob,nx,gn,nv,ng,ep⟩:=h
    simp only at h1 h2 h3 h4 h5 h6 h7
    rw [Nat.eq_of_beq_eq_true h1,List.isEmpty_iff.1 h2,Nat.eq_of_beq_eq_true h3,lqG_eq _ _ h4,Nat.eq_of_beq_eq_true h5,Nat.eq_of_beq_eq_true h6,Nat.eq_of_beq_eq_true h7]
    exact ⟨rfl,rfl⟩
  · cases hd
def cdH (c:Cs) (h:Hp):Option (List D):=cdS c ⟨c.nt,[],[]⟩ h
end
end Go.Proofs.YtcambhbmobepjaaGreat
namespace Go.Proofs.YtcambhbmobepjaaGreat
set_option linter.unusedSimpArgs false
set_option linter.unusedVariables false
open Go.RowKit
set_option maxRecDepth 100000
noncomputable section
def takB (kd lo hi gd n:Int):Bool:=if kd=1 then true else if kd=2 then decide (lo≤n∧n≤hi) else if kd=3 then n==gd else if kd=4 then n != lo else false
def FTak:List AV→RT AV
  | [.agg [.sc false (.int .i64 _),.sc false (.int .i64 _),.sc false (.int .i64 k),.sc false (.int .i64 l),.sc false (.int .i64 h),.sc false (.int .i64 g),.sc false (.bool _)],.sc false (.int .i64 n)]=>.ok (ab (takB k l h g n))
  | _=>.bad 281
def rnoT (r:D) (t s:Int) (k:Nat):Bool:=!(((r.get k).cell 0).toI==t&&((r.get k).cell 1).toI==s)
def ruleI (r:D) (t s:Int):Int:=bif okFrom (rnoT r t s) r.len 0 then -1 else ((badFrom (rnoT r t s) r.len 0:Nat):Int)
structure ixrX where
  r:D
  n:Int
  r0:D
  t:Int
  x:D
def ixrL:Lw:=⟨[0,1,4,7,8],[],2,0,1000,1000⟩
def ixrF (a:ixrX) (i:Nat):Tm:=⟨19,[(0,.sl false rlS a.r none),(1,.fn (.func 225) [] [.ptr 1 0]),(4,zi 0),(7,zi a.n),(8,zi (i:Int))],[]⟩
def ixrH (a:ixrX) (i:Nat):Hp:=⟨[(0,[.sl false rlS a.r0 none]),(1,[zi a.t,.sl false byS a.x none])],2,[],0,1000,1000⟩
def ixrC:Cs:=⟨19,[(0,.sl rlS),(1,.lit (.fn (.func 225) [] [.ptr 1 0])),(4,.lit (.sc false (.int .i64 0))),(7,.int .i64),(8,.lit (.sc false (.int .i64 0)))],[(0,[.sl rlS]),(1,[.int .i64,.sl byS])],2,[],0,1000,1000⟩
noncomputable def ixrDec (F:Tm) (h:Hp):Option (ixrX×Nat):=match cdS ixrC F h with
  | some [v0,v1,v2,v3,v4]=>some (⟨v0,v1.toI,v2,v3.toI,v4⟩,0)
  | _=>none
theorem ixr_body (r:D) (n:Int) (r0:D) (t:Int) (x:D) (i:Int):roundT (⟨[0,1,4,7,8],[],2,0,1000,1000⟩) (evC Tryz.prog (gam ([])) (lam ([])) 100 224 (loopAt 0 (bodyOf Tryz.prog 224)) (⟨19,[(0,.sl false rlS r none),(1,.fn (.func 225) [] [.ptr 1 0]),(4,zi 0),(7,zi n),(8,zi i)],[]⟩) (⟨[(0,[.sl false rlS r0 none]),(1,[zi t,.sl false byS x none])],2,[],0,1000,1000⟩)) =
RT.br (decide (i<n)) (RT.br (decide (0≤i∧i<(↑(D.len r):Int))) (RT.br (D.toI (D.cell (D.get r (Int.toNat i)) 0)==t) (RT.br (D.toI (D.cell (D.get r (Int.toNat i)) 1)==(↑(D.len x):Int)) (RT.ok (Ex.ret,(Tm.mk 19 [(0,zs zR r),(1,AV.fn (Fn.func 225) [] [AV.ptr 1 0]),(4,zi i),(7,zi n),(8,zi i)] []),(Hp.mk [(0,[zs zR r0]),(1,[zi t,zs zU x])] 2 [] 0 1000 1000))) (RT.ok (Ex.normal,(Tm.mk 19 [(0,zs zR r),(1,AV.fn (Fn.func 225) [] [AV.ptr 1 0]),(4,zi 0),(7,zi n),(8,zi (IntKind.wrap IntKind.i64 (i+1)))] []),(Hp.mk [(0,[zs zR r0]),(1,[zi t,zs zU x])] 2 [] 0 1000 1000)))) (RT.ok (Ex.normal,(Tm.mk 19 [(0,zs zR r),(1,AV.fn (Fn.func 225) [] [AV.ptr 1 0]),(4,zi 0),(7,zi n),(8,zi (IntKind.wrap IntKind.i64 (i+1)))] []),(Hp.mk [(0,[zs zR r0]),(1,[zi t,zs zU x])] 2 [] 0 1000 1000)))) (RT.bad 42)) (RT.ok (Ex.exit 0,(Tm.mk 19 [(0,zs zR r),(1,AV.fn (Fn.func 225) [] [AV.ptr 1 0]),(4,zi 0),(7,zi n),(8,zi i)] []),(Hp.mk [(0,[zs zR r0]),(1,[zi t,zs zU x])] 2 [] 0 1000 1000))):=by rw [← fvC_eq Tryz.prog (gam ([])) (lam ([])) false 100]; kernel_rfl
structure rruX where
  r:D
  t:Int
  x:D
def rruL:Lw:=⟨[0,3,4,5],[],1,0,1000,1000⟩
def rruF (a:rruX) (i:Nat):Tm:=⟨32,[(0,.sl false rlS a.r none),(3,.ptr 0 0),(4,zi 0),(5,zi (i:Int))],[]⟩
def rruH (a:rruX) (i:Nat):Hp:=⟨[(0,[zi a.t,.sl false byS a.x none])],1,[],0,1000,1000⟩
def rruC:Cs:=⟨32,[(0,.sl rlS),(3,.lit (.ptr 0 0)),(4,.lit (.sc false (.int .i64 0))),(5,.lit (.sc false (.int .i64 0)))],[(0,[.int .i64,.sl byS])],1,[],0,1000,1000⟩
noncomputable def rruDec (F:Tm) (h:Hp):Option (rruX×Nat):=match cdS rruC F h with
  | some [v0,v1,v2]=>some (⟨v0,v1.toI,v2⟩,0)
  | _=>none
theorem rru_body (r:D) (t:Int) (x:D) (i:Int):roundT (⟨[0,3,4,5],[],1,0,1000,1000⟩) (evC Tryz.prog (gam ([])) (lam ([])) 100 217 (loopAt 0 (bodyOf Tryz.prog 217)) (⟨32,[(0,.sl false rlS r none),(3,.ptr 0 0),(4,zi 0),(5,zi i)],[]⟩) (⟨[(0,[zi t,.sl false byS x none])],1,[],0,1000,1000⟩)) =
RT.br (decide (i<(↑(D.len r):Int))) (RT.br (decide (0≤i∧i<(↑(D.len r):Int))) (RT.br (D.toI (D.cell (D.get r (Int.toNat i)) 0)==t) (RT.br (decide (0≤i∧i<(↑(D.len r):Int))) (RT.br (D.toI (D.cell (D.get r (Int.toNat i)) 1)==(↑(D.len x):Int)) (RT.ok (Ex.ret,(Tm.mk 32 [(0,zs zR r),(3,AV.ptr 0 0),(4,zi i),(5,zi i)] []),(Hp.mk [(0,[zi t,zs zU x])] 1 [] 0 1000 1000))) (RT.ok (Ex.normal,(Tm.mk 32 [(0,zs zR r),(3,AV.ptr 0 0),(4,zi 0),(5,zi (IntKind.wrap IntKind.i64 (i+1)))] []),(Hp.mk [(0,[zi t,zs zU x])] 1 [] 0 1000 1000)))) (RT.bad 42)) (RT.ok (Ex.normal,(Tm.mk 32 [(0,zs zR r),(3,AV.ptr 0 0),(4,zi 0),(5,zi (IntKind.wrap IntKind.i64 (i+1)))] []),(Hp.mk [(0,[zi t,zs zU x])] 1 [] 0 1000 1000)))) (RT.bad 42)) (RT.ok (Ex.exit 0,(Tm.mk 32 [(0,zs zR r),(3,AV.ptr 0 0),(4,zi 0),(5,zi i)] []),(Hp.mk [(0,[zi t,zs zU x])] 1 [] 0 1000 1000))):=by rw [← fvC_eq Tryz.prog (gam ([])) (lam ([])) false 100]; kernel_rfl
def ixrR (a:ixrX) (i:Nat):Tm:=⟨19,[(0,asl rlS a.r),(1,.fn (.func 225) [] [.ptr 1 0]),(4,ai i),(7,ai a.n),(8,ai i)],[]⟩
def rruR (a:rruX) (i:Nat):Tm:=⟨32,[(0,asl rlS a.r),(3,.ptr 0 0),(4,ai i),(5,ai i)],[]⟩
def ixrT:ixrX×Nat→RT Out:=searchT (fun a=>a.r.len) (fun a=>rnoT a.r a.t a.x.len) (fun a=>decide (a.n=(a.r.len:Int))) ixrF ixrR (fun a=>ixrH a 0) .ret
def rruT:rruX×Nat→RT Out:=searchT (fun a=>a.r.len) (fun a=>rnoT a.r a.t a.x.len) (fun _=>true) rruF rruR (fun a=>rruH a 0) .ret
def ixrLs (P:Program):List (FuncId×Nat×BSpec):=[(224,0,loopS P ixrL ixrDec ixrT)]
def rruLs (P:Program):List (FuncId×Nat×BSpec):=[(217,0,loopS P rruL rruDec rruT)]
def FRul:List AV→RT AV
  | [.sl false [.int .i64,.int .i64,.int .i64,.int .i64,.int .i64,.int .i64,.bool] r none,.agg [.sc false (.int .i64 t),.sl false [.int .u8] x none]]=>.ok (ai (ruleI r t x.len))
  | _=>.bad 282
def so1S:Spec:=fun args h=>match args,h with
  | [.agg [.sc false (.int .i64 t),.sl false [.int .u8] x none],.ptr 0 0],⟨[(0,[.sl false [.int .i64,.int .i64,.int .i64,.int .i64,.int .i64,.int .i64,.bool] r none])],1,[],0,0,0⟩=>.ok (ai (ruleI r t x.len),⟨[(0,[asl rlS r])],1,[],0,1000,1000⟩)
  | _,_=>.bad 283
theorem ixrDec_0:∀ F h x,ixrDec F h=some x→∃ a,x=(a,0)∧F=ixrF a 0∧h=ixrH a 0:=by
  intro F h x hx
  unfold ixrDec at hx
  split at hx
  · rename_i hd
    cases hx
    obtain ⟨h1,h2⟩:=cdS_ok hd
    exact ⟨_,rfl,h1,h2⟩
  · cases hx
theorem ixrDec_ok:∀ F h x,ixrDec F h=some x→F=ixrF x.1 x.2∧h=ixrH x.1 x.2:=by
  intro F h x hx
  obtain ⟨a,rfl,h1,h2⟩:=ixrDec_0 F h x hx
  exact ⟨h1,h2⟩
theorem rruDec_0:∀ F h x,rruDec F h=some x→∃ a,x=(a,0)∧F=rruF a 0∧h=rruH a 0:=by
  intro F h x hx
  unfold rruDec at hx
  split at hx
  · rename_i hd
    cases hx
    obtain ⟨h1,h2⟩:=cdS_ok hd
    exact ⟨_,rfl,h1,h2⟩
  · cases hx
theorem rruDec_ok:∀ F h x,rruDec F h=some x→F=rruF x.1 x.2∧h=rruH x.1 x.2:=by
  intro F h x hx
  obtain ⟨a,rfl,h1,h2⟩:=rruDec_0 F h x hx
  exact ⟨h1,h2⟩
theorem tak_tree (t s k l h g:Int) (b:Bool) (n:Int):treeF (evF Tryz.prog (gam ([])) (lam ([])) 100 157) [rulA t s k l h g b,ai n] =
RT.br (k==1) (RT.ok (AV.sc true (Value.bool true))) (RT.br (k==2) (RT.br (decide (l≤n)) (RT.ok (zb (decide (n≤h)))) (RT.ok (AV.sc true (Value.bool false)))) (RT.br (k==3) (RT.ok (zb (n==g))) (RT.br (k==4) (RT.ok (zb (n != l))) (RT.ok (AV.sc true (Value.bool false)))))):=by rw [← fvF_eq Tryz.prog (gam ([])) (lam ([])) false 100 157]; kernel_rfl
theorem rtk_tree (t s k l h g:Int) (b:Bool) (n:Int):treeF (evF Tryz.prog (gam ([])) (lam ([])) 100 145) [rulA t s k l h g b,ai n] =
RT.br (k==1) (RT.ok (AV.sc true (Value.bool true))) (RT.br (k==2) (RT.br (decide (l≤n)) (RT.ok (zb (decide (n≤h)))) (RT.ok (AV.sc true (Value.bool false)))) (RT.br (k==3) (RT.ok (zb (n==g))) (RT.br (k==4) (RT.ok (zb (n != l))) (RT.ok (AV.sc true (Value.bool false)))))):=by rw [← fvF_eq Tryz.prog (gam ([])) (lam ([])) false 100 145]; kernel_rfl
theorem so1_tree (r:D) (t:Int) (x:D):treeO 1 (evF Tryz.prog (gam []) (lam (ixrLs Tryz.prog)) 100 223) [optA t x,.ptr 0 0] ⟨[(0,[asl rlS r])],1,[],0,0,0⟩ =
RT.br (decide ((↑(D.len r):Int)=(↑(D.len r):Int))&&true) (RT.br (okFrom (rnoT r (D.toI (D.i t)) (↑(D.len x):Int)) (D.len r - 0) 0) (RT.ok (zk (-1),(Hp.mk [(0,[zs zR r])] 1 [] 0 1000 1000))) (RT.ok (zi (↑(badFrom (rnoT r (D.toI (D.i t)) (↑(D.len x):Int)) (D.len r - 0) 0):Int),(Hp.mk [(0,[zs zR r])] 1 [] 0 1000 1000)))) (RT.bad 210):=by kernel_rfl
theorem rru_tree (r:D) (t:Int) (x:D):treeF (evF Tryz.prog (gam ([])) (lam (rruLs Tryz.prog)) 100 217) [asl rlS r,optA t x] =
RT.br true (RT.br (okFrom (rnoT r (D.toI (D.i t)) (↑(D.len x):Int)) (D.len r - 0) 0) (RT.ok (zk (-1))) (RT.ok (zi (↑(badFrom (rnoT r (D.toI (D.i t)) (↑(D.len x):Int)) (D.len r - 0) 0):Int)))) (RT.bad 210):=by rw [← fvF_eq Tryz.prog (gam ([])) (lam (rruLs Tryz.prog)) false 100 217]; kernel_rfl
theorem ixr_loop:LamE Tryz.prog 224 0 (loopS Tryz.prog ixrL ixrDec ixrT):=by
  refine search_loop (gs:=[]) (ls:=[]) mixed trivial trivial _ 0 100 (by kernel_rfl) ixrL (by intro h; cases h) (by intro h; cases h) (fun F h x hx=>ixrDec_ok F h x hx) ?_
  rintro ⟨r,n,r0,t,x⟩ i K hn hi H1 H2 H3
  obtain rfl:n=(r.len:Int):=odt hn
  dsimp only at hi H1 H2 H3
  have hm:=r.len_le
  show (roundT ixrL (evC _ _ _ _ _ _ (ixrF ⟨r,r.len,r0,t,x⟩ i) (ixrH ⟨r,r.len,r0,t,x⟩ 0))).holds _
  unfold ixrL ixrF ixrH
  rw [ixr_body]
  simp only [Int.toNat_natCast]
  refine ⟨fun h1=>⟨fun h2=>⟨fun h3=>⟨fun h4=>?_,fun h4=>?_⟩,fun h3=>?_⟩,fun h2=>?_⟩,fun h1=>?_⟩
  all_goals simp only [decide_eq_true_eq,decide_eq_false_iff_not] at *
  · refine H2 (by omega) ?_
    unfold rnoT; rw [h3,h4]; rfl
  · rw [wrap_succ (by omega) hm]
    refine H1 (by omega) ?_
    unfold rnoT; rw [h3,h4]; rfl
  · rw [wrap_succ (by omega) hm]
    refine H1 (by omega) ?_
    unfold rnoT; rw [h3]; rfl
  · omega
  · obtain rfl:i=r.len:=by omega
    exact H3 rfl
theorem rru_loop:LamE Tryz.prog 217 0 (loopS Tryz.prog rruL rruDec rruT):=by
  refine search_loop (gs:=[]) (ls:=[]) mixed trivial trivial _ 0 100 (by kernel_rfl) rruL (by intro h; cases h) (by intro h; cases h) (fun F h x hx=>rruDec_ok F h x hx) ?_
  rintro ⟨r,t,x⟩ i K _ hi H1 H2 H3
  dsimp only at hi H1 H2 H3
  have hm:=r.len_le
  show (roundT rruL (evC _ _ _ _ _ _ (rruF ⟨r,t,x⟩ i) (rruH ⟨r,t,x⟩ 0))).holds _
  unfold rruL rruF rruH
  rw [rru_body]
  simp only [Int.toNat_natCast]
  refine ⟨fun h1=>⟨fun h2=>⟨fun h3=>⟨fun _=>⟨fun h4=>?_,fun h4=>?_⟩,fun h=>?_⟩,fun h3=>?_⟩,fun h2=>?_⟩,fun h1=>?_⟩
  all_goals simp only [decide_eq_true_eq,decide_eq_false_iff_not] at *
  · refine H2 (by omega) ?_
    unfold rnoT; rw [h3,h4]; rfl
  · rw [wrap_succ (by omega) hm]
    refine H1 (by omega) ?_
    unfold rnoT; rw [h3,h4]; rfl
  · omega
  · rw [wrap_succ (by omega) hm]
    refine H1 (by omega) ?_
    unfold rnoT; rw [h3]; rfl
  · omega
  · obtain rfl:i=r.len:=by omega
    exact H3 rfl
theorem ixrLs_ok:LamL Tryz.prog (ixrLs Tryz.prog):=⟨ixr_loop,trivial⟩
theorem rruLs_ok:LamL Tryz.prog (rruLs Tryz.prog):=⟨rru_loop,trivial⟩
theorem so1_soundF:SoundF Tryz.prog 223 so1S:=by
  refine obj_in (gs:=[]) (ls:=ixrLs Tryz.prog) mixed trivial ixrLs_ok 223 100 1 fun args h K H=>?_
  unfold so1S at H
  split at H
  · rename_i t x r
    refine ⟨rfl,?_⟩
    rw [so1_tree]
    refine ⟨fun _=>⟨fun h=>⟨_,le_int ?_,H⟩,fun h=>⟨_,le_int ?_,H⟩⟩,fun h=>by simp at h⟩
    · unfold ruleI; rw [show okFrom (rnoT r t x.len) r.len 0=true from h]; rfl
    · unfold ruleI; rw [show okFrom (rnoT r t x.len) r.len 0=false from h]; rfl
  · exact H.elim
theorem rru_soundF:SoundF Tryz.prog 217 (pureS Tryz.prog 217 FRul):=by
  refine pure_in (gs:=[]) (ls:=rruLs Tryz.prog) mixed trivial rruLs_ok 217 100 fun args K ho H=>?_
  unfold FRul at H
  split at H
  · rename_i r t x
    rw [rru_tree]
    refine ⟨fun _=>⟨fun h=>⟨_,le_int ?_,H⟩,fun h=>⟨_,le_int ?_,H⟩⟩,fun h=>by cases h⟩
    · unfold ruleI; rw [show okFrom (rnoT r t x.len) r.len 0=true from h]; rfl
    · unfold ruleI; rw [show okFrom (rnoT r t x.len) r.len 0=false from h]; rfl
  · exact H.elim
theorem tak_soundF:SoundF Tryz.prog 157 (pureS Tryz.prog 157 FTak):=by
  refine pure_in (gs:=[]) (ls:=[]) mixed trivial trivial 157 100 fun args K ho H=>?_
  unfold FTak at H
  split at H
  · rename_i t s k l h g b n
    rw [tak_tree]
    simp only [RT.holds]
    repeat' refine And.intro (fun _=>?_) (fun _=>?_)
    all_goals exact ⟨_,le_bool (by simp_all [takB] <;> omega),H⟩
  · exact H.elim
theorem rtk_soundF:SoundF Tryz.prog 145 (pureS Tryz.prog 145 FTak):=by
  refine pure_in (gs:=[]) (ls:=[]) mixed trivial trivial 145 100 fun args K ho H=>?_
  unfold FTak at H
  split at H
  · rename_i t s k l h g b n
    rw [rtk_tree]
    simp only [RT.holds]
    repeat' refine And.intro (fun _=>?_) (fun _=>?_)
    all_goals exact ⟨_,le_bool (by simp_all [takB] <;> omega),H⟩
  · exact H.elim
def rI (r:D) (k j:Nat):Int:=((r.get k).cell j).toI
def rMust (r:D) (k:Nat):Bool:=((r.get k).cell 6).toB
def rulK (r e:D) (i:Nat):Nat:=(ruleI r (optT e i) (optB e i).len).toNat
def oddB (r d e:D) (i:Nat):Bool:=decide (ruleI r (optT e i) (optB e i).len<0)||hasT (d.sub 0 i) (optT e i)
def notB (r e:D) (i:Nat):Bool:=!takB (rI r (rulK r e i) 2) (rI r (rulK r e i) 3) (rI r (rulK r e i) 4) (rI r (rulK r e i) 5) (numB (optB e i))
def bdB (r d e:D) (i:Nat):Bool:=!oddB r d e i&&notB r e i
def rulE (r:D) (k:Nat):D:=.t [.i (rI r k 0),.i (rI r k 1),.i (rI r k 2),.i (rI r k 3),.i (rI r k 4),.i (rI r k 5),.b (rMust r k)]
def lackB (r d:D) (k:Nat):Bool:=rMust r k&&decide (plaI d (rI r k 0)<0)
def sorG (P:Program):List (FuncId×Spec):=[(223,objS so1S),(214,pureS P 214 FPla),(213,pureS P 213 FOwnO),(226,pureS P 226 FNum),(157,pureS P 157 FTak)]
def rszB (r:D):Bool:=decide (∀ k,k<r.len→rI r k 1=2∨rI r k 1=4)
def optsB (e:D):Bool:=decide (∀ i,i<e.len→∀ j,j<(optB e i).len→byR (byA (optB e i) j))
structure srtX where
  (d e:D)
  n:Int
  r:D
def srtL:Lw:=⟨[1,2,4,5,6,13,14,15],[(true,2,0, 92),(true,2,1, 92),(true,2,2, 46)],3,3,1000,1000⟩
def srtF (a:srtX) (i:Nat) (g0:D) (g1:D) (g2:D):Tm:=⟨91,[(1,.sl false opS a.d none),(2,.ptr 0 0),(4,.ptr 1 0),(5,.ptr 2 0),(6,.fn (.func 223) [] [.ptr 0 0]),(13,.sl false opS a.e none),(14,zi a.n),(15,zi (i:Int))],[]⟩
def srtH (a:srtX) (i:Nat) (g0:D) (g1:D) (g2:D):Hp:=⟨[(0,[.sl false rlS a.r none]),(1,[.sc false (.slice none 0 0),.sc false (.slice none 0 0),.sc false (.slice none 0 0),.sc false (.slice none 0 0)]),(2,[.sl false opS g0 (some (0,1000)),.sl false opS g1 (some (1,1001)),.sl false rlS g2 (some (2,1002)),.sc false (.slice none 0 0)])],3,[(0,1000, 92),(1,1001, 92),(2,1002, 46)],3,1003,1000⟩
def srtC:Cs:=⟨91,[(1,.sl opS),(2,.lit (.ptr 0 0)),(4,.lit (.ptr 1 0)),(5,.lit (.ptr 2 0)),(6,.lit (.fn (.func 223) [] [.ptr 0 0])),(13,.sl opS),(14,.int .i64),(15,.lit (.sc false (.int .i64 0)))],[(0,[.sl rlS]),(1,[.lit (.sc false (.slice none 0 0)),.lit (.sc false (.slice none 0 0)),.lit (.sc false (.slice none 0 0)),.lit (.sc false (.slice none 0 0))]),(2,[.nw opS 0 1000,.nw opS 1 1001,.nw rlS 2 1002,.lit (.sc false (.slice none 0 0))])],3,[(0,1000, 92),(1,1001, 92),(2,1002, 46)],3,1003,1000⟩
noncomputable def srtDec (F:Tm) (h:Hp):Option (srtX×Nat):=match cdS srtC F h with
  | some [v0,v1,v2,v3]=>some (⟨v0,v1,v2.toI,v3⟩,0)
  | _=>none
theorem srt_body (d:D) (e:D) (n:Int) (r:D) (i:Int) (g0:D) (g1:D) (g2:D):roundT (⟨[1,2,4,5,6,13,14,15],[(true,2,0, 92),(true,2,1, 92),(true,2,2, 46)],3,3,1000,1000⟩) (evC Tryz.prog (gam (sorG Tryz.prog)) (lam ([])) 100 211 (loopAt 0 (bodyOf Tryz.prog 211)) (⟨91,[(1,.sl false opS d none),(2,.ptr 0 0),(4,.ptr 1 0),(5,.ptr 2 0),(6,.fn (.func 223) [] [.ptr 0 0]),(13,.sl false opS e none),(14,zi n),(15,zi i)],[]⟩) (⟨[(0,[.sl false rlS r none]),(1,[.sc false (.slice none 0 0),.sc false (.slice none 0 0),.sc false (.slice none 0 0),.sc false (.slice none 0 0)]),(2,[.sl false opS g0 (some (0,1000)),.sl false opS g1 (some (1,1001)),.sl false rlS g2 (some (2,1002)),.sc false (.slice none 0 0)])],3,[(0,1000, 92),(1,1001, 92),(2,1002, 46)],3,1003,1000⟩)) =
RT.br (decide (i<n)) (RT.br (decide (0≤i∧i<(↑(D.len e):Int))) (RT.br (decide (ruleI r (D.toI (D.cell (D.get e (Int.toNat i)) 0)) (↑(D.len (D.cell (D.get e (Int.toNat i)) 1)):Int)<0)) (RT.br (decide ((D.len g0+1)*32≤140737488355328)) (RT.ok (Ex.normal,(Tm.mk 91 [(1,zs zO d),(2,AV.ptr 0 0),(4,AV.ptr 1 0),(5,AV.ptr 2 0),(6,AV.fn (Fn.func 223) [] [AV.ptr 0 0]),(13,zs zO e),(14,zi n),(15,zi (IntKind.wrap IntKind.i64 (i+1)))] []),(Hp.mk [(0,[zs zR r]),(1,[zy,zy,zy,zy]),(2,[AV.sl false zO (D.app g0 (D.l [D.t [D.i (D.toI (D.cell (D.get e (Int.toNat i)) 0)),D.cell (D.get e (Int.toNat i)) 1]])) (some (0,1000)),AV.sl false zO g1 (some (1,1001)),AV.sl false zR g2 (some (2,1002)),zy])] 3 [(0,1000,92),(1,1001,92),(2,1002,46)] 3 1003 1000))) (RT.bad 70)) (RT.br (decide ((0:Int)≤0∧0≤i∧i≤(↑(D.len d):Int)∧(↑(D.len d):Int)≤(↑(D.len d):Int))) (RT.br (decide (0≤plaI (D.sub d 0 (Int.toNat i)) (D.toI (D.cell (D.get e (Int.toNat i)) 0)))) (RT.br (decide ((D.len g0+1)*32≤140737488355328)) (RT.ok (Ex.normal,(Tm.mk 91 [(1,zs zO d),(2,AV.ptr 0 0),(4,AV.ptr 1 0),(5,AV.ptr 2 0),(6,AV.fn (Fn.func 223) [] [AV.ptr 0 0]),(13,zs zO e),(14,zi n),(15,zi (IntKind.wrap IntKind.i64 (i+1)))] []),(Hp.mk [(0,[zs zR r]),(1,[zy,zy,zy,zy]),(2,[AV.sl false zO (D.app g0 (D.l [D.t [D.i (D.toI (D.cell (D.get e (Int.toNat i)) 0)),D.cell (D.get e (Int.toNat i)) 1]])) (some (0,1000)),AV.sl false zO g1 (some (1,1001)),AV.sl false zR g2 (some (2,1002)),zy])] 3 [(0,1000,92),(1,1001,92),(2,1002,46)] 3 1003 1000))) (RT.bad 70)) (RT.br (decide (0≤ruleI r (D.toI (D.cell (D.get e (Int.toNat i)) 0)) (↑(D.len (D.cell (D.get e (Int.toNat i)) 1)):Int)∧ruleI r (D.toI (D.cell (D.get e (Int.toNat i)) 0)) (↑(D.len (D.cell (D.get e (Int.toNat i)) 1)):Int)<(↑(D.len r):Int))) (RT.br (decide (D.len (D.cell (D.get e (Int.toNat i)) 1)=2∧byR (D.toI (D.cell (D.get (D.cell (D.get e (Int.toNat i)) 1) 0) 0))∧byR (D.toI (D.cell (D.get (D.cell (D.get e (Int.toNat i)) 1) 1) 0))∨D.len (D.cell (D.get e (Int.toNat i)) 1)=4∧byR (D.toI (D.cell (D.get (D.cell (D.get e (Int.toNat i)) 1) 0) 0))∧byR (D.toI (D.cell (D.get (D.cell (D.get e (Int.toNat i)) 1) 1) 0))∧byR (D.toI (D.cell (D.get (D.cell (D.get e (Int.toNat i)) 1) 2) 0))∧byR (D.toI (D.cell (D.get (D.cell (D.get e (Int.toNat i)) 1) 3) 0)))) (RT.br (!takB (D.toI (D.cell (D.get r (Int.toNat (ruleI r (D.toI (D.cell (D.get e (Int.toNat i)) 0)) (↑(D.len (D.cell (D.get e (Int.toNat i)) 1)):Int)))) 2)) (D.toI (D.cell (D.get r (Int.toNat (ruleI r (D.toI (D.cell (D.get e (Int.toNat i)) 0)) (↑(D.len (D.cell (D.get e (Int.toNat i)) 1)):Int)))) 3)) (D.toI (D.cell (D.get r (Int.toNat (ruleI r (D.toI (D.cell (D.get e (Int.toNat i)) 0)) (↑(D.len (D.cell (D.get e (Int.toNat i)) 1)):Int)))) 4)) (D.toI (D.cell (D.get r (Int.toNat (ruleI r (D.toI (D.cell (D.get e (Int.toNat i)) 0)) (↑(D.len (D.cell (D.get e (Int.toNat i)) 1)):Int)))) 5)) (numB (D.cell (D.get e (Int.toNat i)) 1))) (RT.br (decide ((D.len g1+1)*32≤140737488355328)) (RT.br (decide (0≤ruleI r (D.toI (D.cell (D.get e (Int.toNat i)) 0)) (↑(D.len (D.cell (D.get e (Int.toNat i)) 1)):Int)∧ruleI r (D.toI (D.cell (D.get e (Int.toNat i)) 0)) (↑(D.len (D.cell (D.get e (Int.toNat i)) 1)):Int)<(↑(D.len r):Int))) (RT.br (decide ((D.len g2+1)*56≤140737488355328)) (RT.ok (Ex.normal,(Tm.mk 91 [(1,zs zO d),(2,AV.ptr 0 0),(4,AV.ptr 1 0),(5,AV.ptr 2 0),(6,AV.fn (Fn.func 223) [] [AV.ptr 0 0]),(13,zs zO e),(14,zi n),(15,zi (IntKind.wrap IntKind.i64 (i+1)))] []),(Hp.mk [(0,[zs zR r]),(1,[zy,zy,zy,zy]),(2,[AV.sl false zO g0 (some (0,1000)),AV.sl false zO (D.app g1 (D.l [D.t [D.i (D.toI (D.cell (D.get e (Int.toNat i)) 0)),D.cell (D.get e (Int.toNat i)) 1]])) (some (1,1001)),AV.sl false zR (D.app g2 (D.l [D.t [D.i (D.toI (D.cell (D.get r (Int.toNat (ruleI r (D.toI (D.cell (D.get e (Int.toNat i)) 0)) (↑(D.len (D.cell (D.get e (Int.toNat i)) 1)):Int)))) 0)),D.i (D.toI (D.cell (D.get r (Int.toNat (ruleI r (D.toI (D.cell (D.get e (Int.toNat i)) 0)) (↑(D.len (D.cell (D.get e (Int.toNat i)) 1)):Int)))) 1)),D.i (D.toI (D.cell (D.get r (Int.toNat (ruleI r (D.toI (D.cell (D.get e (Int.toNat i)) 0)) (↑(D.len (D.cell (D.get e (Int.toNat i)) 1)):Int)))) 2)),D.i (D.toI (D.cell (D.get r (Int.toNat (ruleI r (D.toI (D.cell (D.get e (Int.toNat i)) 0)) (↑(D.len (D.cell (D.get e (Int.toNat i)) 1)):Int)))) 3)),D.i (D.toI (D.cell (D.get r (Int.toNat (ruleI r (D.toI (D.cell (D.get e (Int.toNat i)) 0)) (↑(D.len (D.cell (D.get e (Int.toNat i)) 1)):Int)))) 4)),D.i (D.toI (D.cell (D.get r (Int.toNat (ruleI r (D.toI (D.cell (D.get e (Int.toNat i)) 0)) (↑(D.len (D.cell (D.get e (Int.toNat i)) 1)):Int)))) 5)),D.b (D.toB (D.cell (D.get r (Int.toNat (ruleI r (D.toI (D.cell (D.get e (Int.toNat i)) 0)) (↑(D.len (D.cell (D.get e (Int.toNat i)) 1)):Int)))) 6))]])) (some (2,1002)),zy])] 3 [(0,1000,92),(1,1001,92),(2,1002,46)] 3 1003 1000))) (RT.bad 70)) (RT.bad 42)) (RT.bad 70)) (RT.ok (Ex.normal,(Tm.mk 91 [(1,zs zO d),(2,AV.ptr 0 0),(4,AV.ptr 1 0),(5,AV.ptr 2 0),(6,AV.fn (Fn.func 223) [] [AV.ptr 0 0]),(13,zs zO e),(14,zi n),(15,zi (IntKind.wrap IntKind.i64 (i+1)))] []),(Hp.mk [(0,[zs zR r]),(1,[zy,zy,zy,zy]),(2,[AV.sl false zO g0 (some (0,1000)),AV.sl false zO g1 (some (1,1001)),AV.sl false zR g2 (some (2,1002)),zy])] 3 [(0,1000,92),(1,1001,92),(2,1002,46)] 3 1003 1000)))) (RT.bad 280)) (RT.bad 42))) (RT.bad 37))) (RT.bad 42)) (RT.ok (Ex.exit 0,(Tm.mk 91 [(1,zs zO d),(2,AV.ptr 0 0),(4,AV.ptr 1 0),(5,AV.ptr 2 0),(6,AV.fn (Fn.func 223) [] [AV.ptr 0 0]),(13,zs zO e),(14,zi n),(15,zi i)] []),(Hp.mk [(0,[zs zR r]),(1,[zy,zy,zy,zy]),(2,[AV.sl false zO g0 (some (0,1000)),AV.sl false zO g1 (some (1,1001)),AV.sl false zR g2 (some (2,1002)),zy])] 3 [(0,1000,92),(1,1001,92),(2,1002,46)] 3 1003 1000))):=by rw [← fvC_eq Tryz.prog (gam (sorG Tryz.prog)) (lam ([])) false 100]; kernel_rfl
structure sr3X where
  (d r:D)
  n:Int
  (r0 b0 b1 b2:D)
def sr3L:Lw:=⟨[1,4,5,68,69,70],[(true,2,3, 46)],3,4,2000,2000⟩
def sr3F (a:sr3X) (i:Nat) (g3:D):Tm:=⟨91,[(1,.sl false opS a.d none),(4,.ptr 1 0),(5,.ptr 2 0),(68,.sl false rlS a.r none),(69,zi a.n),(70,zi (i:Int))],[]⟩
def sr3H (a:sr3X) (i:Nat) (g3:D):Hp:=⟨[(0,[.sl false rlS a.r0 none]),(1,[.sc false (.slice none 0 0),.sc false (.slice none 0 0),.sc false (.slice none 0 0),.sc false (.slice none 0 0)]),(2,[.sl false opS a.b0 (some (0,2000)),.sl false opS a.b1 (some (1,2001)),.sl false rlS a.b2 (some (2,2002)),.sl false rlS g3 (some (3,2003))])],3,[(0,2000, 92),(1,2001, 92),(2,2002, 46),(3,2003, 46)],4,2004,2000⟩
def sr3C:Cs:=⟨91,[(1,.sl opS),(4,.lit (.ptr 1 0)),(5,.lit (.ptr 2 0)),(68,.sl rlS),(69,.int .i64),(70,.lit (.sc false (.int .i64 0)))],[(0,[.sl rlS]),(1,[.lit (.sc false (.slice none 0 0)),.lit (.sc false (.slice none 0 0)),.lit (.sc false (.slice none 0 0)),.lit (.sc false (.slice none 0 0))]),(2,[.tp opS 0 2000,.tp opS 1 2001,.tp rlS 2 2002,.nw rlS 3 2003])],3,[(0,2000, 92),(1,2001, 92),(2,2002, 46),(3,2003, 46)],4,2004,2000⟩
noncomputable def sr3Dec (F:Tm) (h:Hp):Option (sr3X×Nat):=match cdS sr3C F h with
  | some [v0,v1,v2,v3,v4,v5,v6]=>some (⟨v0,v1,v2.toI,v3,v4,v5,v6⟩,0)
  | _=>none
theorem sr3_body (d:D) (r:D) (n:Int) (r0:D) (b0:D) (b1:D) (b2:D) (i:Int) (g3:D):roundT (⟨[1,4,5,68,69,70],[(true,2,3, 46)],3,4,2000,2000⟩) (evC Tryz.prog (gam (sorG Tryz.prog)) (lam ([])) 100 211 (loopAt 3 (bodyOf Tryz.prog 211)) (⟨91,[(1,.sl false opS d none),(4,.ptr 1 0),(5,.ptr 2 0),(68,.sl false rlS r none),(69,zi n),(70,zi i)],[]⟩) (⟨[(0,[.sl false rlS r0 none]),(1,[.sc false (.slice none 0 0),.sc false (.slice none 0 0),.sc false (.slice none 0 0),.sc false (.slice none 0 0)]),(2,[.sl false opS b0 (some (0,2000)),.sl false opS b1 (some (1,2001)),.sl false rlS b2 (some (2,2002)),.sl false rlS g3 (some (3,2003))])],3,[(0,2000, 92),(1,2001, 92),(2,2002, 46),(3,2003, 46)],4,2004,2000⟩)) =
RT.br (decide (i<n)) (RT.br (decide (0≤i∧i<(↑(D.len r):Int))) (RT.br (D.toB (D.cell (D.get r (Int.toNat i)) 6)) (RT.br (decide (plaI d (D.toI (D.cell (D.get r (Int.toNat i)) 0))<0)) (RT.br (decide ((D.len g3+1)*56≤140737488355328)) (RT.ok (Ex.normal,(Tm.mk 91 [(1,zs zO d),(4,AV.ptr 1 0),(5,AV.ptr 2 0),(68,zs zR r),(69,zi n),(70,zi (IntKind.wrap IntKind.i64 (i+1)))] []),(Hp.mk [(0,[zs zR r0]),(1,[zy,zy,zy,zy]),(2,[AV.sl false zO b0 (some (0,2000)),AV.sl false zO b1 (some (1,2001)),AV.sl false zR b2 (some (2,2002)),AV.sl false zR (D.app g3 (D.l [D.t [D.i (D.toI (D.cell (D.get r (Int.toNat i)) 0)),D.i (D.toI (D.cell (D.get r (Int.toNat i)) 1)),D.i (D.toI (D.cell (D.get r (Int.toNat i)) 2)),D.i (D.toI (D.cell (D.get r (Int.toNat i)) 3)),D.i (D.toI (D.cell (D.get r (Int.toNat i)) 4)),D.i (D.toI (D.cell (D.get r (Int.toNat i)) 5)),D.b (D.toB (D.cell (D.get r (Int.toNat i)) 6))]])) (some (3,2003))])] 3 [(0,2000,92),(1,2001,92),(2,2002,46),(3,2003,46)] 4 2004 2000))) (RT.bad 70)) (RT.ok (Ex.normal,(Tm.mk 91 [(1,zs zO d),(4,AV.ptr 1 0),(5,AV.ptr 2 0),(68,zs zR r),(69,zi n),(70,zi (IntKind.wrap IntKind.i64 (i+1)))] []),(Hp.mk [(0,[zs zR r0]),(1,[zy,zy,zy,zy]),(2,[AV.sl false zO b0 (some (0,2000)),AV.sl false zO b1 (some (1,2001)),AV.sl false zR b2 (some (2,2002)),AV.sl false zR g3 (some (3,2003))])] 3 [(0,2000,92),(1,2001,92),(2,2002,46),(3,2003,46)] 4 2004 2000)))) (RT.ok (Ex.normal,(Tm.mk 91 [(1,zs zO d),(4,AV.ptr 1 0),(5,AV.ptr 2 0),(68,zs zR r),(69,zi n),(70,zi (IntKind.wrap IntKind.i64 (i+1)))] []),(Hp.mk [(0,[zs zR r0]),(1,[zy,zy,zy,zy]),(2,[AV.sl false zO b0 (some (0,2000)),AV.sl false zO b1 (some (1,2001)),AV.sl false zR b2 (some (2,2002)),AV.sl false zR g3 (some (3,2003))])] 3 [(0,2000,92),(1,2001,92),(2,2002,46),(3,2003,46)] 4 2004 2000)))) (RT.bad 42)) (RT.ok (Ex.exit 3,(Tm.mk 91 [(1,zs zO d),(4,AV.ptr 1 0),(5,AV.ptr 2 0),(68,zs zR r),(69,zi n),(70,zi i)] []),(Hp.mk [(0,[zs zR r0]),(1,[zy,zy,zy,zy]),(2,[AV.sl false zO b0 (some (0,2000)),AV.sl false zO b1 (some (1,2001)),AV.sl false zR b2 (some (2,2002)),AV.sl false zR g3 (some (3,2003))])] 3 [(0,2000,92),(1,2001,92),(2,2002,46),(3,2003,46)] 4 2004 2000))):=by rw [← fvC_eq Tryz.prog (gam (sorG Tryz.prog)) (lam ([])) false 100]; kernel_rfl
def srtO0 (a:srtX) (i:Nat):D:=filD (oddB a.r a.d a.e) (copE a.e) i
def srtO1 (a:srtX) (i:Nat):D:=filD (bdB a.r a.d a.e) (copE a.e) i
def srtO2 (a:srtX) (i:Nat):D:=filD (bdB a.r a.d a.e) (fun j=>rulE a.r (rulK a.r a.e j)) i
def srtOk (a:srtX):Bool:=decide (a.n=(a.e.len:Int)∧a.d.len=a.e.len∧a.e.len*56≤room)&&(rszB a.r&&optsB a.e)
def srtT:srtX×Nat→RT Out:=foldT (fun a=>a.e.len) srtOk (fun a i=>srtF a i (srtO0 a i) (srtO1 a i) (srtO2 a i)) (fun a i=>srtH a i (srtO0 a i) (srtO1 a i) (srtO2 a i))
def sr3O (a:sr3X) (i:Nat):D:=filD (lackB a.r a.d) (rulE a.r) i
def sr3T:sr3X×Nat→RT Out:=foldT (fun a=>a.r.len) (fun a=>decide (a.n=(a.r.len:Int)∧a.r.len*56≤room)) (fun a i=>sr3F a i (sr3O a i)) (fun a i=>sr3H a i (sr3O a i))
def sorLs (P:Program):List (FuncId×Nat×BSpec):=[(211,0,loopS P srtL srtDec srtT),(211,3,loopS P sr3L sr3Dec sr3T)]
theorem srtDec_0:∀ F h x,srtDec F h=some x→∃ a,x=(a,0)∧F=srtF a 0 (.l []) (.l []) (.l [])∧h=srtH a 0 (.l []) (.l []) (.l []):=by
  intro F h x hx
  unfold srtDec at hx
  split at hx
  · rename_i hd
    cases hx
    obtain ⟨h1,h2⟩:=cdS_ok hd
    exact ⟨_,rfl,h1,h2⟩
  · cases hx
theorem sr3Dec_0:∀ F h x,sr3Dec F h=some x→∃ a,x=(a,0)∧F=sr3F a 0 (.l [])∧h=sr3H a 0 (.l []):=by
  intro F h x hx
  unfold sr3Dec at hx
  split at hx
  · rename_i hd
    cases hx
    obtain ⟨h1,h2⟩:=cdS_ok hd
    exact ⟨_,rfl,h1,h2⟩
  · cases hx
theorem sorG_ok:GamL Tryz.prog (sorG Tryz.prog):=⟨objS_ok so1_soundF,pla_soundF,owo_soundF,num_soundF,tak_soundF,trivial⟩
theorem badFrom_at {p:Nat→Bool}:∀ {n i:Nat},okFrom p n i=false→i≤badFrom p n i∧badFrom p n i<i+n∧p (badFrom p n i)=false
  | 0,i,h=>by simp [okFrom] at h
  | n+1,i,h=>by
    cases hp:p i
    · rw [badFrom_here hp]; exact ⟨Nat.le_refl _,by omega,hp⟩
    · rw [badFrom_cons hp]
      simp only [okFrom,hp,Bool.true_and] at h
      obtain ⟨a,b,c⟩:=badFrom_at h
      exact ⟨by omega,by omega,c⟩
theorem ruleI_at {r:D} {t s:Int} (h:0≤ruleI r t s):(ruleI r t s).toNat<r.len∧rI r (ruleI r t s).toNat 0=t∧rI r (ruleI r t s).toNat 1=s:=by
  unfold ruleI at h ⊢
  cases ho:okFrom (rnoT r t s) r.len 0
  · simp only [cond_false,Int.toNat_natCast]
    obtain ⟨_,h2,h3⟩:=badFrom_at ho
    generalize badFrom (rnoT r t s) r.len 0=k at h2 h3
    unfold rnoT at h3
    rw [Bool.not_eq_false',Bool.and_eq_true] at h3
    exact ⟨by omega,eq_of_beq h3.1,eq_of_beq h3.2⟩
  · rw [ho,cond_true] at h; omega
theorem srt_loop:LamE Tryz.prog 211 0 (loopS Tryz.prog srtL srtDec srtT):=by
  refine fold_loop (gs:=sorG Tryz.prog) (ls:=[]) mixed sorG_ok trivial _ 0 100 (by kernel_rfl) srtL (fun F h x hx=>?_) ?_
  · obtain ⟨a,rfl,h1,h2⟩:=srtDec_0 F h x hx
    exact ⟨h1,h2⟩
  rintro ⟨d,e,n,r⟩ i K hok hi H1 H2
  unfold srtOk at hok
  simp only [Bool.and_eq_true,decide_eq_true_eq] at hok
  obtain ⟨⟨rfl,hde,hrm⟩,hrs,hob⟩:=hok
  dsimp only at hi H1 H2 hde hrm hrs hob
  have hm:=e.len_le
  have hrs:=odt hrs
  have hob:=odt hob
  have go:∀ x0 x1 x2,i<e.len→filD (oddB r d e) (copE e) (i+1)=x0→filD (bdB r d e) (copE e) (i+1)=x1→filD (bdB r d e) (fun j=>rulE r (rulK r e j)) (i+1)=x2→K (.normal,srtF ⟨d,e,e.len,r⟩ (i+1) x0 x1 x2,srtH ⟨d,e,e.len,r⟩ (i+1) x0 x1 x2):=by
    rintro _ _ _ hlt rfl rfl rfl; exact H1 hlt
  have l0:=filD_len_le (oddB r d e) (copE e) i
  have l1:=filD_len_le (bdB r d e) (copE e) i
  have l2:=filD_len_le (bdB r d e) (fun j=>rulE r (rulK r e j)) i
  show (roundT srtL (evC _ _ _ _ _ _ (srtF ⟨d,e,e.len,r⟩ i (filD (oddB r d e) (copE e) i) (filD (bdB r d e) (copE e) i) (filD (bdB r d e) (fun j=>rulE r (rulK r e j)) i)) (srtH ⟨d,e,e.len,r⟩ i (filD (oddB r d e) (copE e) i) (filD (bdB r d e) (copE e) i) (filD (bdB r d e) (fun j=>rulE r (rulK r e j)) i)))).holds _
  unfold srtL srtF srtH
  rw [srt_body]
  simp only [Int.toNat_natCast]
  unfold room at hrm
  refine ⟨fun h1=>?_,fun h1=>?_⟩
  rotate_left
  · obtain rfl:i=e.len:=by have:=odf h1; omega
    exact H2 rfl
  have hlt:i<e.len:=by have:=odt h1; omega
  rw [wrap_succ hlt hm]
  clear H1 H2
  refine ⟨fun _=>⟨fun h3=>⟨fun _=>?_,fun h=>?_⟩,fun h3=>⟨fun _=>⟨fun h4=>⟨fun _=>?_,fun h=>?_⟩,fun h4=>⟨fun h5=>⟨fun _=>⟨fun h6=>⟨fun _=>⟨fun _=>⟨fun _=>?_,fun h=>?_⟩,fun h=>?_⟩,fun h=>?_⟩,fun h6=>?_⟩,fun h=>?_⟩,fun h=>?_⟩⟩,fun h=>?_⟩⟩,fun h=>?_⟩
  · have ho:oddB r d e i=true:=by unfold oddB; rw [Bool.or_eq_true]; exact .inl h3
    have hb:bdB r d e i=false:=by unfold bdB; rw [ho]; rfl
    exact go _ _ _ hlt (filD_on (f:=copE e) (by omega) ho).symm (filD_off hb) (filD_off hb)
  · have:=odf h; omega
  · have ho:oddB r d e i=true:=by unfold oddB; rw [Bool.or_eq_true,← plaI_has]; exact .inr h4
    have hb:bdB r d e i=false:=by unfold bdB; rw [ho]; rfl
    exact go _ _ _ hlt (filD_on (f:=copE e) (by omega) ho).symm (filD_off hb) (filD_off hb)
  · have:=odf h; omega
  · have ho:oddB r d e i=false:=by unfold oddB; rw [Bool.or_eq_false_iff,← plaI_has]; exact ⟨h3,h4⟩
    have hb:bdB r d e i=true:=by unfold bdB; rw [ho]; exact h6
    exact go _ _ _ hlt (filD_off ho) (filD_on (f:=copE e) (by omega) hb).symm (filD_on (f:=fun j=>rulE r (rulK r e j)) (by omega) hb).symm
  · have:=odf h; omega
  · rw [h] at h5; cases h5
  · have:=odf h; omega
  · have ho:oddB r d e i=false:=by unfold oddB; rw [Bool.or_eq_false_iff,← plaI_has]; exact ⟨h3,h4⟩
    have hb:bdB r d e i=false:=by unfold bdB; rw [ho]; exact h6
    exact go _ _ _ hlt (filD_off ho) (filD_off hb) (filD_off hb)
  · have h5:=(odt h5).1
    obtain ⟨k1,k2,k3⟩:=ruleI_at h5
    refine absurd ?_ (odf h)
    have hl:(optB e i).len=2∨(optB e i).len=4:=by
      have k4:rI r _ 1=((optB e i).len:Int):=k3
      rcases hrs _ k1 with h7 | h7 <;> rw [k4] at h7
      · left; omega
      · right; omega
    have hq:=hob i hlt
    rcases hl with hl | hl
    · exact .inl ⟨hl,hq 0 (by omega),hq 1 (by omega)⟩
    · exact .inr ⟨hl,hq 0 (by omega),hq 1 (by omega),hq 2 (by omega),hq 3 (by omega)⟩
  · have h3:=odf h3
    have h5:0≤ruleI r (optT e i) (optB e i).len:=by
      have:¬ ruleI r (optT e i) (optB e i).len<0:=h3
      omega
    obtain ⟨k1,_⟩:=ruleI_at h5
    refine absurd ⟨h5,?_⟩ (odf h)
    show ruleI r (optT e i) (optB e i).len<(r.len:Int)
    omega
  · have:=odf h; omega
  · have:=odf h; omega
theorem sr3_loop:LamE Tryz.prog 211 3 (loopS Tryz.prog sr3L sr3Dec sr3T):=by
  refine fold_loop (gs:=sorG Tryz.prog) (ls:=[]) mixed sorG_ok trivial _ 3 100 (by kernel_rfl) sr3L (fun F h x hx=>?_) ?_
  · obtain ⟨a,rfl,h1,h2⟩:=sr3Dec_0 F h x hx
    exact ⟨h1,h2⟩
  rintro ⟨d,r,n,r0,b0,b1,b2⟩ i K hok hi H1 H2
  have hok:=odt hok
  dsimp only at hok hi H1 H2
  obtain ⟨rfl,hrm⟩:=hok
  have hm:=r.len_le
  have go:∀ x0,i<r.len→filD (lackB r d) (rulE r) (i+1)=x0→K (.normal,sr3F ⟨d,r,r.len,r0,b0,b1,b2⟩ (i+1) x0,sr3H ⟨d,r,r.len,r0,b0,b1,b2⟩ (i+1) x0):=by
    rintro _ hlt rfl; exact H1 hlt
  have l0:=filD_len_le (lackB r d) (rulE r) i
  show (roundT sr3L (evC _ _ _ _ _ _ (sr3F ⟨d,r,r.len,r0,b0,b1,b2⟩ i (filD (lackB r d) (rulE r) i)) (sr3H ⟨d,r,r.len,r0,b0,b1,b2⟩ i (filD (lackB r d) (rulE r) i)))).holds _
  unfold sr3L sr3F sr3H
  rw [sr3_body]
  simp only [Int.toNat_natCast]
  unfold room at hrm
  refine ⟨fun h1=>?_,fun h1=>?_⟩
  rotate_left
  · obtain rfl:i=r.len:=by have:=odf h1; omega
    exact H2 rfl
  have hlt:i<r.len:=by have:=odt h1; omega
  rw [wrap_succ hlt hm]
  clear H1 H2
  refine ⟨fun _=>⟨fun h3=>⟨fun h4=>⟨fun _=>?_,fun h=>?_⟩,fun h4=>?_⟩,fun h3=>?_⟩,fun h=>?_⟩
  · exact go _ hlt (filD_on (p:=lackB r d) (f:=rulE r) (by omega) (by unfold lackB rMust; rw [h3]; exact h4)).symm
  · have:=odf h; omega
  · exact go _ hlt (filD_off (by unfold lackB rMust; rw [h3]; exact h4))
  · exact go _ hlt (filD_off (by unfold lackB rMust; rw [h3]; rfl))
  · have:=odf h; omega
theorem sorLs_ok:LamL Tryz.prog (sorLs Tryz.prog):=⟨srt_loop,sr3_loop,trivial⟩
def oddL (r d:D):D:=filD (oddB r d d) (copE d) d.len
def bdL (r d:D):D:=filD (bdB r d d) (copE d) d.len
def bdR (r d:D):D:=filD (bdB r d d) (fun j=>rulE r (rulK r d j)) d.len
def lackL (r d:D):D:=filD (lackB r d) (rulE r) r.len
def sorN (r d:D):Bool:=decide (d.len*56≤room∧r.len*56≤room)&&(rszB r&&optsB d)
def sorA (r d:D):AV:=.agg [asl opS (oddL r d),asl opS (bdL r d),asl rlS (bdR r d),asl rlS (lackL r d)]
def FSort:List AV→RT AV
  | [.sl false [.int .i64,.int .i64,.int .i64,.int .i64,.int .i64,.int .i64,.bool] r none,.sl false [.int .i64,.sl [.int .u8]] d none]=>need false (sorN r d) 284 (.ok (sorA r d))
  | _=>.bad 284
def gooC (e:D):D:=.t [.i (e.cell 0).toI,beD (e.cell 5).toI (e.cell 1).toI]
def gooE (q:D) (k:Nat):D:=gooC (q.get k)
def rgdB (q:D):Bool:=decide (∀ k,k<q.len→(0≤rI q k 5∧rI q k 5<4294967296)∧1≤rI q k 1∧rI q k 1≤8)
def grow (b:D) (p:Nat→Bool) (f:Nat→D):Nat→D
  | 0=>b
  | i+1=>bif p i then (grow b p f i).app (.l [f i]) else grow b p f i
def yes (_:Nat):Bool:=true
def golG (P:Program):List (FuncId×Spec):=[(212,pureS P 212 FGood),(213,pureS P 213 FOwnO)]
structure owsX where
  d:D
  n:Int
def owsL:Lw:=⟨[3,6,7,8],[(false,3,0, 92)],0,1,1000,1000⟩
def owsF (a:owsX) (i:Nat) (g0:D):Tm:=⟨19,[(3,.sl false opS g0 (some (0,1000))),(6,.sl false opS a.d none),(7,zi a.n),(8,zi (i:Int))],[]⟩
def owsH (a:owsX) (i:Nat) (g0:D):Hp:=⟨[],0,[(0,1000, 92)],1,1001,1000⟩
def owsC:Cs:=⟨19,[(3,.nw opS 0 1000),(6,.sl opS),(7,.int .i64),(8,.lit (.sc false (.int .i64 0)))],[],0,[(0,1000, 92)],1,1001,1000⟩
noncomputable def owsDec (F:Tm) (h:Hp):Option (owsX×Nat):=match cdS owsC F h with
  | some [v0,v1]=>some (⟨v0,v1.toI⟩,0)
  | _=>none
theorem ows_body (d:D) (n:Int) (i:Int) (g0:D):roundT (⟨[3,6,7,8],[(false,3,0, 92)],0,1,1000,1000⟩) (evC Tryz.prog (gam (golG Tryz.prog)) (lam ([])) 100 185 (loopAt 0 (bodyOf Tryz.prog 185)) (⟨19,[(3,.sl false opS g0 (some (0,1000))),(6,.sl false opS d none),(7,zi n),(8,zi i)],[]⟩) (⟨[],0,[(0,1000, 92)],1,1001,1000⟩)) =
RT.br (decide (i<n)) (RT.br (decide (0≤i∧i<(↑(D.len d):Int))) (RT.br (decide ((D.len g0+1)*32≤140737488355328)) (RT.ok (Ex.normal,(Tm.mk 19 [(3,AV.sl false zO (D.app g0 (D.l [D.t [D.i (D.toI (D.cell (D.get d (Int.toNat i)) 0)),D.cell (D.get d (Int.toNat i)) 1]])) (some (0,1000))),(6,zs zO d),(7,zi n),(8,zi (IntKind.wrap IntKind.i64 (i+1)))] []),(Hp.mk [] 0 [(0,1000,92)] 1 1001 1000))) (RT.bad 70)) (RT.bad 42)) (RT.ok (Ex.exit 0,(Tm.mk 19 [(3,AV.sl false zO g0 (some (0,1000))),(6,zs zO d),(7,zi n),(8,zi i)] []),(Hp.mk [] 0 [(0,1000,92)] 1 1001 1000))):=by rw [← fvC_eq Tryz.prog (gam (golG Tryz.prog)) (lam ([])) false 100]; kernel_rfl
structure anbX where
  d:D
  (nk mo:Int)
  q:D
  n:Int
  (s0 s1 s2 s3:D)
def anbL:Lw:=⟨[1,2,3,10,11,26,27,28],[(false,11,0, 92)],1,1,1000,1000⟩
def anbF (a:anbX) (i:Nat) (g0:D):Tm:=⟨81,[(1,.sl false opS a.d none),(2,zi a.nk),(3,zi a.mo),(10,.ptr 0 0),(11,.sl false opS g0 (some (0,1000))),(26,.sl false rlS a.q none),(27,zi a.n),(28,zi (i:Int))],[]⟩
def anbH (a:anbX) (i:Nat) (g0:D):Hp:=⟨[(0,[.sl false opS a.s0 none,.sl false opS a.s1 none,.sl false rlS a.s2 none,.sl false rlS a.s3 none])],1,[(0,1000, 92)],1,1001,1000⟩
def anbC:Cs:=⟨81,[(1,.sl opS),(2,.int .i64),(3,.int .i64),(10,.lit (.ptr 0 0)),(11,.nw opS 0 1000),(26,.sl rlS),(27,.int .i64),(28,.lit (.sc false (.int .i64 0)))],[(0,[.sl opS,.sl opS,.sl rlS,.sl rlS])],1,[(0,1000, 92)],1,1001,1000⟩
noncomputable def anbDec (F:Tm) (h:Hp):Option (anbX×Nat):=match cdS anbC F h with
  | some [v0,v1,v2,v3,v4,v5,v6,v7,v8]=>some (⟨v0,v1.toI,v2.toI,v3,v4.toI,v5,v6,v7,v8⟩,0)
  | _=>none
theorem anb_body (d:D) (nk:Int) (mo:Int) (q:D) (n:Int) (s0:D) (s1:D) (s2:D) (s3:D) (i:Int) (g0:D):roundT (⟨[1,2,3,10,11,26,27,28],[(false,11,0, 92)],1,1,1000,1000⟩) (evC Tryz.prog (gam (golG Tryz.prog)) (lam ([])) 100 184 (loopAt 0 (bodyOf Tryz.prog 184)) (⟨81,[(1,.sl false opS d none),(2,zi nk),(3,zi mo),(10,.ptr 0 0),(11,.sl false opS g0 (some (0,1000))),(26,.sl false rlS q none),(27,zi n),(28,zi i)],[]⟩) (⟨[(0,[.sl false opS s0 none,.sl false opS s1 none,.sl false rlS s2 none,.sl false rlS s3 none])],1,[(0,1000, 92)],1,1001,1000⟩)) =
RT.br (decide (i<n)) (RT.br (decide (0≤i∧i<(↑(D.len q):Int))) (RT.br (decide ((0≤D.toI (D.cell (D.get q (Int.toNat i)) 5)∧D.toI (D.cell (D.get q (Int.toNat i)) 5)<4294967296)∧1≤D.toI (D.cell (D.get q (Int.toNat i)) 1)∧D.toI (D.cell (D.get q (Int.toNat i)) 1)≤8)) (RT.br (decide ((D.len g0+1)*32≤140737488355328)) (RT.ok (Ex.normal,(Tm.mk 81 [(1,zs zO d),(2,zi nk),(3,zi mo),(10,AV.ptr 0 0),(11,AV.sl false zO (D.app g0 (D.l [D.t [D.i (D.toI (D.cell (D.get q (Int.toNat i)) 0)),beD (D.toI (D.cell (D.get q (Int.toNat i)) 5)) (D.toI (D.cell (D.get q (Int.toNat i)) 1))]])) (some (0,1000))),(26,zs zR q),(27,zi n),(28,zi (IntKind.wrap IntKind.i64 (i+1)))] []),(Hp.mk [(0,[zs zO s0,zs zO s1,zs zR s2,zs zR s3])] 1 [(0,1000,92)] 1 1001 1000))) (RT.bad 70)) (RT.bad 279)) (RT.bad 42)) (RT.ok (Ex.exit 0,(Tm.mk 81 [(1,zs zO d),(2,zi nk),(3,zi mo),(10,AV.ptr 0 0),(11,AV.sl false zO g0 (some (0,1000))),(26,zs zR q),(27,zi n),(28,zi i)] []),(Hp.mk [(0,[zs zO s0,zs zO s1,zs zR s2,zs zR s3])] 1 [(0,1000,92)] 1 1001 1000))):=by rw [← fvC_eq Tryz.prog (gam (golG Tryz.prog)) (lam ([])) false 100]; kernel_rfl
structure an2X where
  (d b q:D)
  n:Int
  (s0 s1 s2 s3:D)
def an2L:Lw:=⟨[1,10,11,48,49,50],[(false,11,0, 92)],1,1,2000,2000⟩
def an2F (a:an2X) (i:Nat) (g0:D):Tm:=⟨81,[(1,.sl false opS a.d none),(10,.ptr 0 0),(11,.sl false opS g0 (some (0,2000))),(48,.sl false rlS a.q none),(49,zi a.n),(50,zi (i:Int))],[]⟩
def an2H (a:an2X) (i:Nat) (g0:D):Hp:=⟨[(0,[.sl false opS a.s0 none,.sl false opS a.s1 none,.sl false rlS a.s2 none,.sl false rlS a.s3 none])],1,[(0,2000, 92)],1,2001,2000⟩
def an2C:Cs:=⟨81,[(1,.sl opS),(10,.lit (.ptr 0 0)),(11,.tp opS 0 2000),(48,.sl rlS),(49,.int .i64),(50,.lit (.sc false (.int .i64 0)))],[(0,[.sl opS,.sl opS,.sl rlS,.sl rlS])],1,[(0,2000, 92)],1,2001,2000⟩
noncomputable def an2Dec (F:Tm) (h:Hp):Option (an2X×Nat):=match cdS an2C F h with
  | some [v0,v1,v2,v3,v4,v5,v6,v7]=>some (⟨v0,v1,v2,v3.toI,v4,v5,v6,v7⟩,0)
  | _=>none
theorem an2_body (d:D) (q:D) (n:Int) (s0:D) (s1:D) (s2:D) (s3:D) (i:Int) (g0:D):roundT (⟨[1,10,11,48,49,50],[(false,11,0, 92)],1,1,2000,2000⟩) (evC Tryz.prog (gam (golG Tryz.prog)) (lam ([])) 100 184 (loopAt 2 (bodyOf Tryz.prog 184)) (⟨81,[(1,.sl false opS d none),(10,.ptr 0 0),(11,.sl false opS g0 (some (0,2000))),(48,.sl false rlS q none),(49,zi n),(50,zi i)],[]⟩) (⟨[(0,[.sl false opS s0 none,.sl false opS s1 none,.sl false rlS s2 none,.sl false rlS s3 none])],1,[(0,2000, 92)],1,2001,2000⟩)) =
RT.br (decide (i<n)) (RT.br (decide (0≤i∧i<(↑(D.len q):Int))) (RT.br (decide ((0≤D.toI (D.cell (D.get q (Int.toNat i)) 5)∧D.toI (D.cell (D.get q (Int.toNat i)) 5)<4294967296)∧1≤D.toI (D.cell (D.get q (Int.toNat i)) 1)∧D.toI (D.cell (D.get q (Int.toNat i)) 1)≤8)) (RT.br (decide ((D.len g0+1)*32≤140737488355328)) (RT.ok (Ex.normal,(Tm.mk 81 [(1,zs zO d),(10,AV.ptr 0 0),(11,AV.sl false zO (D.app g0 (D.l [D.t [D.i (D.toI (D.cell (D.get q (Int.toNat i)) 0)),beD (D.toI (D.cell (D.get q (Int.toNat i)) 5)) (D.toI (D.cell (D.get q (Int.toNat i)) 1))]])) (some (0,2000))),(48,zs zR q),(49,zi n),(50,zi (IntKind.wrap IntKind.i64 (i+1)))] []),(Hp.mk [(0,[zs zO s0,zs zO s1,zs zR s2,zs zR s3])] 1 [(0,2000,92)] 1 2001 2000))) (RT.bad 70)) (RT.bad 279)) (RT.bad 42)) (RT.ok (Ex.exit 2,(Tm.mk 81 [(1,zs zO d),(10,AV.ptr 0 0),(11,AV.sl false zO g0 (some (0,2000))),(48,zs zR q),(49,zi n),(50,zi i)] []),(Hp.mk [(0,[zs zO s0,zs zO s1,zs zR s2,zs zR s3])] 1 [(0,2000,92)] 1 2001 2000))):=by rw [← fvC_eq Tryz.prog (gam (golG Tryz.prog)) (lam ([])) false 100]; kernel_rfl
def owsT:owsX×Nat→RT Out:=foldT (fun a=>a.d.len) (fun a=>decide (a.n=(a.d.len:Int)∧a.d.len*32≤room)) (fun a i=>owsF a i (tabD (copE a.d) i)) (fun a i=>owsH a i (tabD (copE a.d) i))
def anbT:anbX×Nat→RT Out:=foldT (fun a=>a.q.len) (fun a=>decide (a.n=(a.q.len:Int)∧a.q.len*56≤room)&&rgdB a.q) (fun a i=>anbF a i (tabD (gooE a.q) i)) (fun a i=>anbH a i (tabD (gooE a.q) i))
def an2T:an2X×Nat→RT Out:=foldT (fun a=>a.q.len) (fun a=>decide (a.n=(a.q.len:Int)∧(a.b.len+a.q.len)*32≤room)&&rgdB a.q) (fun a i=>an2F a i (grow a.b yes (gooE a.q) i)) (fun a i=>an2H a i (grow a.b yes (gooE a.q) i))
def owsLs (P:Program):List (FuncId×Nat×BSpec):=[(185,0,loopS P owsL owsDec owsT)]
def ansLs (P:Program):List (FuncId×Nat×BSpec):=[(184,0,loopS P anbL anbDec anbT),(184,2,loopS P an2L an2Dec an2T)]
def FOwns:List AV→RT AV
  | [.sl false [.int .i64,.sl [.int .u8]] d none]=>need false (decide (d.len*32≤room)) 286 (.ok (asl opS d))
  | _=>.bad 286
theorem owsDec_0:∀ F h x,owsDec F h=some x→∃ a,x=(a,0)∧F=owsF a 0 (.l [])∧h=owsH a 0 (.l []):=by
  intro F h x hx
  unfold owsDec at hx
  split at hx
  · rename_i hd
    cases hx
    obtain ⟨h1,h2⟩:=cdS_ok hd
    exact ⟨_,rfl,h1,h2⟩
  · cases hx
theorem anbDec_0:∀ F h x,anbDec F h=some x→∃ a,x=(a,0)∧F=anbF a 0 (.l [])∧h=anbH a 0 (.l []):=by
  intro F h x hx
  unfold anbDec at hx
  split at hx
  · rename_i hd
    cases hx
    obtain ⟨h1,h2⟩:=cdS_ok hd
    exact ⟨_,rfl,h1,h2⟩
  · cases hx
theorem an2Dec_0:∀ F h x,an2Dec F h=some x→∃ a,x=(a,0)∧F=an2F a 0 a.b∧h=an2H a 0 a.b:=by
  intro F h x hx
  unfold an2Dec at hx
  split at hx
  · rename_i hd
    cases hx
    obtain ⟨h1,h2⟩:=cdS_ok hd
    exact ⟨_,rfl,h1,h2⟩
  · cases hx
theorem golG_ok:GamL Tryz.prog (golG Tryz.prog):=⟨goo_soundF,owo_soundF,trivial⟩
theorem grow_len (b:D) (p:Nat→Bool) (f:Nat→D):∀ n,(grow b p f n).len≤b.len+n
  | 0=>Nat.le_refl _
  | n+1=>by
    have ih:=grow_len b p f n
    show (bif p n then _ else _:D).len≤_
    cases p n
    · simp only [cond_false]; omega
    · simp only [cond_true]
      have:((grow b p f n).app (.l [f n])).len≤(grow b p f n).len+1:=by
        unfold D.app D.len D.toL D.raw
        refine Nat.le_trans (List.length_take_le' _ _) ?_
        rw [List.length_append]
        have:=List.length_take_le' maxLen [f n]
        simp only [List.length_cons,List.length_nil] at this
        exact Nat.add_le_add_left this _
      omega
theorem rgdB_at {q:D} {i:Nat} (h:rgdB q=true) (hi:i<q.len):(0≤rI q i 5∧rI q i 5<4294967296)∧1≤rI q i 1∧rI q i 1≤8:=odt h i hi
theorem ows_loop:LamE Tryz.prog 185 0 (loopS Tryz.prog owsL owsDec owsT):=by
  refine fold_loop (gs:=golG Tryz.prog) (ls:=[]) mixed golG_ok trivial _ 0 100 (by kernel_rfl) owsL (fun F h x hx=>by obtain ⟨a,rfl,h1,h2⟩:=owsDec_0 F h x hx; exact ⟨h1,h2⟩) ?_
  rintro ⟨d,n⟩ i K hok hi H1 H2
  dsimp only at hok hi H1 H2
  have hm:=d.len_le
  obtain ⟨rfl,hrm⟩:=odt hok
  have l0:=tabD_len (f:=copE d) (n:=i) (by omega)
  unfold room at hrm
  have go:∀ x0,i<d.len→tabD (copE d) (i+1)=x0→K (.normal,owsF ⟨d,d.len⟩ (i+1) x0,owsH ⟨d,d.len⟩ (i+1) x0):=by
    intro x0 hlt; rintro rfl; exact H1 hlt
  show (roundT owsL (evC _ _ _ _ _ _ (owsF ⟨d,d.len⟩ i (tabD (copE d) i)) (owsH ⟨d,d.len⟩ i (tabD (copE d) i)))).holds _
  unfold owsL owsF owsH
  rw [ows_body]
  simp only [Int.toNat_natCast]
  refine ⟨fun h1=>?_,fun h1=>?_⟩
  rotate_left
  · obtain rfl:i=d.len:=by have:=odf h1; omega
    exact H2 rfl
  have hlt:i<d.len:=by have:=odt h1; omega
  rw [wrap_succ hlt hm]
  clear H1 H2
  refine ⟨fun _=>⟨fun _=>?_,fun h=>?_⟩,fun h=>?_⟩
  · exact go _ hlt (tabD_succ (f:=copE d) (n:=i) (by omega)).symm
  · have:=odf h; omega
  · have:=odf h; omega
theorem anb_loop:LamE Tryz.prog 184 0 (loopS Tryz.prog anbL anbDec anbT):=by
  refine fold_loop (gs:=golG Tryz.prog) (ls:=[]) mixed golG_ok trivial _ 0 100 (by kernel_rfl) anbL (fun F h x hx=>by obtain ⟨a,rfl,h1,h2⟩:=anbDec_0 F h x hx; exact ⟨h1,h2⟩) ?_
  rintro ⟨d,nk,mo,q,n,s0,s1,s2,s3⟩ i K hok hi H1 H2
  dsimp only at hok hi H1 H2
  have hm:=q.len_le
  rw [Bool.and_eq_true] at hok
  obtain ⟨hok,hrg⟩:=hok
  obtain ⟨rfl,hrm⟩:=odt hok
  have l0:=tabD_len (f:=gooE q) (n:=i) (by have:=q.len_le; omega)
  unfold room at hrm
  have go:∀ x0,i<q.len→tabD (gooE q) (i+1)=x0→K (.normal,anbF ⟨d,nk,mo,q,q.len,s0,s1,s2,s3⟩ (i+1) x0,anbH ⟨d,nk,mo,q,q.len,s0,s1,s2,s3⟩ (i+1) x0):=by
    intro x0 hlt; rintro rfl; exact H1 hlt
  show (roundT anbL (evC _ _ _ _ _ _ (anbF ⟨d,nk,mo,q,q.len,s0,s1,s2,s3⟩ i (tabD (gooE q) i)) (anbH ⟨d,nk,mo,q,q.len,s0,s1,s2,s3⟩ i (tabD (gooE q) i)))).holds _
  unfold anbL anbF anbH
  rw [anb_body]
  simp only [Int.toNat_natCast]
  refine ⟨fun h1=>?_,fun h1=>?_⟩
  rotate_left
  · obtain rfl:i=q.len:=by have:=odf h1; omega
    exact H2 rfl
  have hlt:i<q.len:=by have:=odt h1; omega
  rw [wrap_succ hlt hm]
  clear H1 H2
  refine ⟨fun _=>⟨fun _=>⟨fun _=>?_,fun h=>?_⟩,fun h=>?_⟩,fun h=>?_⟩
  · exact go _ hlt (tabD_succ (f:=gooE q) (n:=i) (by omega)).symm
  · have:=odf h; omega
  · exact absurd (rgdB_at hrg hlt) (odf h)
  · have:=odf h; omega
theorem an2_loop:LamE Tryz.prog 184 2 (loopS Tryz.prog an2L an2Dec an2T):=by
  refine fold_loop (gs:=golG Tryz.prog) (ls:=[]) mixed golG_ok trivial _ 2 100 (by kernel_rfl) an2L (fun F h x hx=>by obtain ⟨a,rfl,h1,h2⟩:=an2Dec_0 F h x hx; exact ⟨h1,h2⟩) ?_
  rintro ⟨d,b,q,n,s0,s1,s2,s3⟩ i K hok hi H1 H2
  dsimp only at hok hi H1 H2
  have hm:=q.len_le
  rw [Bool.and_eq_true] at hok
  obtain ⟨hok,hrg⟩:=hok
  obtain ⟨rfl,hrm⟩:=odt hok
  have l0:=grow_len b yes (gooE q) i
  unfold room at hrm
  have go:∀ x0,i<q.len→grow b yes (gooE q) (i+1)=x0→K (.normal,an2F ⟨d,b,q,q.len,s0,s1,s2,s3⟩ (i+1) x0,an2H ⟨d,b,q,q.len,s0,s1,s2,s3⟩ (i+1) x0):=by
    intro x0 hlt; rintro rfl; exact H1 hlt
  show (roundT an2L (evC _ _ _ _ _ _ (an2F ⟨d,b,q,q.len,s0,s1,s2,s3⟩ i (grow b yes (gooE q) i)) (an2H ⟨d,b,q,q.len,s0,s1,s2,s3⟩ i (grow b yes (gooE q) i)))).holds _
  unfold an2L an2F an2H
  rw [an2_body]
  simp only [Int.toNat_natCast]
  refine ⟨fun h1=>?_,fun h1=>?_⟩
  rotate_left
  · obtain rfl:i=q.len:=by have:=odf h1; omega
    exact H2 rfl
  have hlt:i<q.len:=by have:=odt h1; omega
  rw [wrap_succ hlt hm]
  clear H1 H2
  refine ⟨fun _=>⟨fun _=>⟨fun _=>?_,fun h=>?_⟩,fun h=>?_⟩,fun h=>?_⟩
  · exact go _ hlt rfl
  · have:=odf h; omega
  · exact absurd (rgdB_at hrg hlt) (odf h)
  · have:=odf h; omega
theorem owsLs_ok:LamL Tryz.prog (owsLs Tryz.prog):=⟨ows_loop,trivial⟩
theorem ansLs_ok:LamL Tryz.prog (ansLs Tryz.prog):=⟨anb_loop,an2_loop,trivial⟩
theorem sor_tree (r d:D):treeF (evF Tryz.prog (gam (sorG Tryz.prog)) (lam (sorLs Tryz.prog)) 100 211) [asl rlS r,asl opS d] =
RT.br (decide ((↑(D.len d):Int)=(↑(D.len d):Int)∧D.len d=D.len d∧D.len d*56≤140737488355328)&&(rszB r&&optsB d)&&true) (RT.br (decide ((↑(D.len r):Int)=(↑(D.len r):Int)∧D.len r*56≤140737488355328)&&true) (RT.ok (AV.agg [zs zO (filD (oddB r d d) (copE d) (D.len d)),zs zO (filD (bdB r d d) (copE d) (D.len d)),zs zR (filD (bdB r d d) (fun j=>rulE r (rulK r d j)) (D.len d)),zs zR (filD (lackB r d) (rulE r) (D.len r))])) (RT.bad 210)) (RT.bad 210):=by rw [← fvF_eq Tryz.prog (gam (sorG Tryz.prog)) (lam (sorLs Tryz.prog)) false 100 211]; kernel_rfl
theorem ows_tree (d:D):treeF (evF Tryz.prog (gam (golG Tryz.prog)) (lam (owsLs Tryz.prog)) 100 185) [asl opS d] =
RT.br (decide ((↑(D.len d):Int)=(↑(D.len d):Int)∧D.len d*32≤140737488355328)&&true) (RT.ok (zs zO (tabD (copE d) (D.len d)))) (RT.bad 210):=by rw [← fvF_eq Tryz.prog (gam (golG Tryz.prog)) (lam (owsLs Tryz.prog)) false 100 185]; kernel_rfl
end
end Go.Proofs.YtcambhbmobepjaaGreat
