/- Mr, 6: texts of this claim, one behind the other: Kn7 Kn8 Kn9 Ko1 Ko2 Ko3 Ko4 Ko5 Ko6 Ko7 Ko8 Ko9. No condition. -/
import Derived.Test.YtcambhbmobepjaaGreatMr5
namespace Go.Proofs.YtcambhbmobepjaaGreat
set_option linter.unusedSimpArgs false
set_option linter.unusedVariables false
open Go.RowKit
set_option maxRecDepth 100000
noncomputable section
def pnmG (P:Program):List (FuncId×Spec):=[(140,pureS P 140 FNmb)]
structure fo0X where
  x:D
  (tick st id rq:Int)
  d:D
  (ct tm nk mg pr mu pe ne:Int)
  (o w:D)
  (mru mc mt mf wt ec lo st0 id0 rq0:Int)
  d0:D
  (ct0 tm0 nk0:Int)
def fo0L:Lw:=⟨[4,5,6,7,8,12,13],[],4,2,1000,1000⟩
def fo0F (a:fo0X) (i:Nat) (g7:Int) (g8:Int):Tm:=⟨115,[(4,.sl false acS a.x none),(5,zi a.tick),(6,.ptr 0 0),(7,.ptr 1 0),(8,.ptr 2 0),(12,.ptr 3 0),(13,zi (i:Int))],[]⟩
def fo0H (a:fo0X) (i:Nat) (g7:Int) (g8:Int):Hp:=⟨[(0,[zi a.st,zi a.id,zi a.rq,.sl false opS a.d none,zi a.ct,zi a.tm,zi a.nk,zi a.mg,zi a.pr,zi a.mu,zi g7,zi g8,.sl false ctS a.o (some (0,1000)),.sl false acS a.w (some (1,1001))]),(1,[zi a.mru,zi a.mc,zi a.mt,zi a.mf,zi a.wt,zi a.ec,zi a.lo]),(2,[zi a.st0,zi a.id0,zi a.rq0,.sl false opS a.d0 none,zi a.ct0,zi a.tm0,zi a.nk0]),(3,[zi 0,zi 0,zi 0,.sc false (.slice none 0 0),zi 0,zi 0,zi 0,zi 0,zi 0,zi 0,zi 0,zi 0,.sc false (.slice none 0 0),.sc false (.slice none 0 0)])],4,[(0,1000, 32),(1,1001, 68)],2,1002,1000⟩
def fo0C:Cs:=⟨115,[(4,.sl acS),(5,.int .i64),(6,.lit (.ptr 0 0)),(7,.lit (.ptr 1 0)),(8,.lit (.ptr 2 0)),(12,.lit (.ptr 3 0)),(13,.lit (.sc false (.int .i64 0)))],[(0,[.int .i64,.int .i64,.int .i64,.sl opS,.int .i64,.int .i64,.int .i64,.int .i64,.int .i64,.int .i64,.int .i64,.int .i64,.tp ctS 0 1000,.tp acS 1 1001]),(1,[.int .i64,.int .i64,.int .i64,.int .i64,.int .i64,.int .i64,.int .i64]),(2,[.int .i64,.int .i64,.int .i64,.sl opS,.int .i64,.int .i64,.int .i64]),(3,[.lit (.sc false (.int .i64 0)),.lit (.sc false (.int .i64 0)),.lit (.sc false (.int .i64 0)),.lit (.sc false (.slice none 0 0)),.lit (.sc false (.int .i64 0)),.lit (.sc false (.int .i64 0)),.lit (.sc false (.int .i64 0)),.lit (.sc false (.int .i64 0)),.lit (.sc false (.int .i64 0)),.lit (.sc false (.int .i64 0)),.lit (.sc false (.int .i64 0)),.lit (.sc false (.int .i64 0)),.lit (.sc false (.slice none 0 0)),.lit (.sc false (.slice none 0 0))])],4,[(0,1000, 32),(1,1001, 68)],2,1002,1000⟩
noncomputable def fo0Dec (F:Tm) (h:Hp):Option (fo0X×Nat):=match cdS fo0C F h with
  | some [v0,v1,v2,v3,v4,v5,v6,v7,v8,v9,v10,v11,v12,v13,v14,v15,v16,v17,v18,v19,v20,v21,v22,v23,v24,v25,v26,v27,v28,v29]=>some (⟨v0,v1.toI,v2.toI,v3.toI,v4.toI,v5,v6.toI,v7.toI,v8.toI,v9.toI,v10.toI,v11.toI,v12.toI,v13.toI,v14,v15,v16.toI,v17.toI,v18.toI,v19.toI,v20.toI,v21.toI,v22.toI,v23.toI,v24.toI,v25.toI,v26,v27.toI,v28.toI,v29.toI⟩,0)
  | _=>none
theorem fo0_body (x:D) (tick:Int) (st:Int) (id:Int) (rq:Int) (d:D) (ct:Int) (tm:Int) (nk:Int) (mg:Int) (pr:Int) (mu:Int) (o:D) (w:D) (mru:Int) (mc:Int) (mt:Int) (mf:Int) (wt:Int) (ec:Int) (lo:Int) (st0:Int) (id0:Int) (rq0:Int) (d0:D) (ct0:Int) (tm0:Int) (nk0:Int) (i:Int) (g7:Int) (g8:Int):roundT (⟨[4,5,6,7,8,12,13],[],4,2,1000,1000⟩) (evC Tryz.prog (gam (pnmG Tryz.prog)) (lam ([])) 100 114 (loopAt 0 (bodyOf Tryz.prog 114)) (⟨115,[(4,.sl false acS x none),(5,zi tick),(6,.ptr 0 0),(7,.ptr 1 0),(8,.ptr 2 0),(12,.ptr 3 0),(13,zi i)],[]⟩) (⟨[(0,[zi st,zi id,zi rq,.sl false opS d none,zi ct,zi tm,zi nk,zi mg,zi pr,zi mu,zi g7,zi g8,.sl false ctS o (some (0,1000)),.sl false acS w (some (1,1001))]),(1,[zi mru,zi mc,zi mt,zi mf,zi wt,zi ec,zi lo]),(2,[zi st0,zi id0,zi rq0,.sl false opS d0 none,zi ct0,zi tm0,zi nk0]),(3,[zi 0,zi 0,zi 0,.sc false (.slice none 0 0),zi 0,zi 0,zi 0,zi 0,zi 0,zi 0,zi 0,zi 0,.sc false (.slice none 0 0),.sc false (.slice none 0 0)])],4,[(0,1000, 32),(1,1001, 68)],2,1002,1000⟩)) =
RT.br (decide (i<(↑(D.len x):Int))) (RT.br (decide (0≤i∧i<(↑(D.len x):Int))) (RT.br (D.toI (D.cell (D.get x (Int.toNat i)) 0)==1) (RT.br (decide (0≤i∧i<(↑(D.len x):Int))) (RT.br (D.toI (D.cell (D.get x (Int.toNat i)) 0)==1) (RT.br (ec != 0) (RT.ok (Ex.normal,(Tm.mk 115 [(4,zs zN x),(5,zi tick),(6,AV.ptr 0 0),(7,AV.ptr 1 0),(8,AV.ptr 2 0),(12,AV.ptr 3 0),(13,zi (IntKind.wrap IntKind.i64 (i+1)))] []),(Hp.mk [(0,[zi st,zi id,zi rq,zs zO d,zi ct,zi tm,zi nk,zi mg,zi pr,zi mu,zi 0,zi (IntKind.wrap IntKind.i64 (tick+ec)),AV.sl false zC o (some (0,1000)),AV.sl false zN w (some (1,1001))]),(1,[zi mru,zi mc,zi mt,zi mf,zi wt,zi ec,zi lo]),(2,[zi st0,zi id0,zi rq0,zs zO d0,zi ct0,zi tm0,zi nk0]),(3,[zi 0,zi 0,zi 0,zy,zi 0,zi 0,zi 0,zi 0,zi 0,zi 0,zi 0,zi 0,zy,zy])] 4 [(0,1000,32),(1,1001,68)] 2 1002 1000))) (RT.ok (Ex.normal,(Tm.mk 115 [(4,zs zN x),(5,zi tick),(6,AV.ptr 0 0),(7,AV.ptr 1 0),(8,AV.ptr 2 0),(12,AV.ptr 3 0),(13,zi (IntKind.wrap IntKind.i64 (i+1)))] []),(Hp.mk [(0,[zi st,zi id,zi rq,zs zO d,zi ct,zi tm,zi nk,zi mg,zi pr,zi mu,zi 0,zi 0,AV.sl false zC o (some (0,1000)),AV.sl false zN w (some (1,1001))]),(1,[zi mru,zi mc,zi mt,zi mf,zi wt,zi ec,zi lo]),(2,[zi st0,zi id0,zi rq0,zs zO d0,zi ct0,zi tm0,zi nk0]),(3,[zi 0,zi 0,zi 0,zy,zi 0,zi 0,zi 0,zi 0,zi 0,zi 0,zi 0,zi 0,zy,zy])] 4 [(0,1000,32),(1,1001,68)] 2 1002 1000)))) (RT.ok (Ex.normal,(Tm.mk 115 [(4,zs zN x),(5,zi tick),(6,AV.ptr 0 0),(7,AV.ptr 1 0),(8,AV.ptr 2 0),(12,AV.ptr 3 0),(13,zi (IntKind.wrap IntKind.i64 (i+1)))] []),(Hp.mk [(0,[zi st,zi id,zi rq,zs zO d,zi ct,zi tm,zi nk,zi mg,zi pr,zi mu,zi 0,zi 0,AV.sl false zC o (some (0,1000)),AV.sl false zN w (some (1,1001))]),(1,[zi mru,zi mc,zi mt,zi mf,zi wt,zi ec,zi lo]),(2,[zi st0,zi id0,zi rq0,zs zO d0,zi ct0,zi tm0,zi nk0]),(3,[zi 0,zi 0,zi 0,zy,zi 0,zi 0,zi 0,zi 0,zi 0,zi 0,zi 0,zi 0,zy,zy])] 4 [(0,1000,32),(1,1001,68)] 2 1002 1000)))) (RT.bad 42)) (RT.br (decide (0≤i∧i<(↑(D.len x):Int))) (RT.br (D.toI (D.cell (D.get x (Int.toNat i)) 0)==2) (RT.br (decide (0≤i∧i<(↑(D.len x):Int))) (RT.br (D.toI (D.cell (D.get x (Int.toNat i)) 0)==1) (RT.br (ec != 0) (RT.ok (Ex.normal,(Tm.mk 115 [(4,zs zN x),(5,zi tick),(6,AV.ptr 0 0),(7,AV.ptr 1 0),(8,AV.ptr 2 0),(12,AV.ptr 3 0),(13,zi (IntKind.wrap IntKind.i64 (i+1)))] []),(Hp.mk [(0,[zi st,zi id,zi rq,zs zO d,zi ct,zi tm,zi nk,zi mg,zi pr,zi mu,zi 0,zi (IntKind.wrap IntKind.i64 (tick+ec)),AV.sl false zC o (some (0,1000)),AV.sl false zN w (some (1,1001))]),(1,[zi mru,zi mc,zi mt,zi mf,zi wt,zi ec,zi lo]),(2,[zi st0,zi id0,zi rq0,zs zO d0,zi ct0,zi tm0,zi nk0]),(3,[zi 0,zi 0,zi 0,zy,zi 0,zi 0,zi 0,zi 0,zi 0,zi 0,zi 0,zi 0,zy,zy])] 4 [(0,1000,32),(1,1001,68)] 2 1002 1000))) (RT.ok (Ex.normal,(Tm.mk 115 [(4,zs zN x),(5,zi tick),(6,AV.ptr 0 0),(7,AV.ptr 1 0),(8,AV.ptr 2 0),(12,AV.ptr 3 0),(13,zi (IntKind.wrap IntKind.i64 (i+1)))] []),(Hp.mk [(0,[zi st,zi id,zi rq,zs zO d,zi ct,zi tm,zi nk,zi mg,zi pr,zi mu,zi 0,zi 0,AV.sl false zC o (some (0,1000)),AV.sl false zN w (some (1,1001))]),(1,[zi mru,zi mc,zi mt,zi mf,zi wt,zi ec,zi lo]),(2,[zi st0,zi id0,zi rq0,zs zO d0,zi ct0,zi tm0,zi nk0]),(3,[zi 0,zi 0,zi 0,zy,zi 0,zi 0,zi 0,zi 0,zi 0,zi 0,zi 0,zi 0,zy,zy])] 4 [(0,1000,32),(1,1001,68)] 2 1002 1000)))) (RT.ok (Ex.normal,(Tm.mk 115 [(4,zs zN x),(5,zi tick),(6,AV.ptr 0 0),(7,AV.ptr 1 0),(8,AV.ptr 2 0),(12,AV.ptr 3 0),(13,zi (IntKind.wrap IntKind.i64 (i+1)))] []),(Hp.mk [(0,[zi st,zi id,zi rq,zs zO d,zi ct,zi tm,zi nk,zi mg,zi pr,zi mu,zi 0,zi 0,AV.sl false zC o (some (0,1000)),AV.sl false zN w (some (1,1001))]),(1,[zi mru,zi mc,zi mt,zi mf,zi wt,zi ec,zi lo]),(2,[zi st0,zi id0,zi rq0,zs zO d0,zi ct0,zi tm0,zi nk0]),(3,[zi 0,zi 0,zi 0,zy,zi 0,zi 0,zi 0,zi 0,zi 0,zi 0,zi 0,zi 0,zy,zy])] 4 [(0,1000,32),(1,1001,68)] 2 1002 1000)))) (RT.bad 42)) (RT.br (decide (0≤i∧i<(↑(D.len x):Int))) (RT.br (D.toI (D.cell (D.get x (Int.toNat i)) 0)==1) (RT.br (ec != 0) (RT.ok (Ex.normal,(Tm.mk 115 [(4,zs zN x),(5,zi tick),(6,AV.ptr 0 0),(7,AV.ptr 1 0),(8,AV.ptr 2 0),(12,AV.ptr 3 0),(13,zi (IntKind.wrap IntKind.i64 (i+1)))] []),(Hp.mk [(0,[zi st,zi id,zi rq,zs zO d,zi ct,zi tm,zi nk,zi mg,zi pr,zi mu,zi g7,zi (IntKind.wrap IntKind.i64 (tick+ec)),AV.sl false zC o (some (0,1000)),AV.sl false zN w (some (1,1001))]),(1,[zi mru,zi mc,zi mt,zi mf,zi wt,zi ec,zi lo]),(2,[zi st0,zi id0,zi rq0,zs zO d0,zi ct0,zi tm0,zi nk0]),(3,[zi 0,zi 0,zi 0,zy,zi 0,zi 0,zi 0,zi 0,zi 0,zi 0,zi 0,zi 0,zy,zy])] 4 [(0,1000,32),(1,1001,68)] 2 1002 1000))) (RT.ok (Ex.normal,(Tm.mk 115 [(4,zs zN x),(5,zi tick),(6,AV.ptr 0 0),(7,AV.ptr 1 0),(8,AV.ptr 2 0),(12,AV.ptr 3 0),(13,zi (IntKind.wrap IntKind.i64 (i+1)))] []),(Hp.mk [(0,[zi st,zi id,zi rq,zs zO d,zi ct,zi tm,zi nk,zi mg,zi pr,zi mu,zi g7,zi g8,AV.sl false zC o (some (0,1000)),AV.sl false zN w (some (1,1001))]),(1,[zi mru,zi mc,zi mt,zi mf,zi wt,zi ec,zi lo]),(2,[zi st0,zi id0,zi rq0,zs zO d0,zi ct0,zi tm0,zi nk0]),(3,[zi 0,zi 0,zi 0,zy,zi 0,zi 0,zi 0,zi 0,zi 0,zi 0,zi 0,zi 0,zy,zy])] 4 [(0,1000,32),(1,1001,68)] 2 1002 1000)))) (RT.ok (Ex.normal,(Tm.mk 115 [(4,zs zN x),(5,zi tick),(6,AV.ptr 0 0),(7,AV.ptr 1 0),(8,AV.ptr 2 0),(12,AV.ptr 3 0),(13,zi (IntKind.wrap IntKind.i64 (i+1)))] []),(Hp.mk [(0,[zi st,zi id,zi rq,zs zO d,zi ct,zi tm,zi nk,zi mg,zi pr,zi mu,zi g7,zi g8,AV.sl false zC o (some (0,1000)),AV.sl false zN w (some (1,1001))]),(1,[zi mru,zi mc,zi mt,zi mf,zi wt,zi ec,zi lo]),(2,[zi st0,zi id0,zi rq0,zs zO d0,zi ct0,zi tm0,zi nk0]),(3,[zi 0,zi 0,zi 0,zy,zi 0,zi 0,zi 0,zi 0,zi 0,zi 0,zi 0,zi 0,zy,zy])] 4 [(0,1000,32),(1,1001,68)] 2 1002 1000)))) (RT.bad 42))) (RT.bad 42))) (RT.bad 42)) (RT.ok (Ex.exit 0,(Tm.mk 115 [(4,zs zN x),(5,zi tick),(6,AV.ptr 0 0),(7,AV.ptr 1 0),(8,AV.ptr 2 0),(12,AV.ptr 3 0),(13,zi i)] []),(Hp.mk [(0,[zi st,zi id,zi rq,zs zO d,zi ct,zi tm,zi nk,zi mg,zi pr,zi mu,zi g7,zi g8,AV.sl false zC o (some (0,1000)),AV.sl false zN w (some (1,1001))]),(1,[zi mru,zi mc,zi mt,zi mf,zi wt,zi ec,zi lo]),(2,[zi st0,zi id0,zi rq0,zs zO d0,zi ct0,zi tm0,zi nk0]),(3,[zi 0,zi 0,zi 0,zy,zi 0,zi 0,zi 0,zi 0,zi 0,zi 0,zi 0,zi 0,zy,zy])] 4 [(0,1000,32),(1,1001,68)] 2 1002 1000))):=by rw [← fvC_eq Tryz.prog (gam (pnmG Tryz.prog)) (lam ([])) false 100]; kernel_rfl
structure fo2X where
  (st id rq:Int)
  d:D
  (ct tm nk mg pr mu pe ne:Int)
  (o w:D)
  (mru mc mt mf wt ec lo st0 id0 rq0:Int)
  d0:D
  (ct0 tm0 nk0:Int)
def fo2L:Lw:=⟨[6,8,12,14],[],4,2,2000,2000⟩
def fo2F (a:fo2X) (i:Nat):Tm:=⟨115,[(6,.ptr 0 0),(8,.ptr 2 0),(12,.ptr 3 0),(14,zi (i:Int))],[]⟩
def fo2H (a:fo2X) (i:Nat):Hp:=⟨[(0,[zi a.st,zi a.id,zi a.rq,.sl false opS a.d none,zi a.ct,zi a.tm,zi a.nk,zi a.mg,zi a.pr,zi a.mu,zi a.pe,zi a.ne,.sl false ctS a.o (some (0,2000)),.sl false acS a.w (some (1,2001))]),(1,[zi a.mru,zi a.mc,zi a.mt,zi a.mf,zi a.wt,zi a.ec,zi a.lo]),(2,[zi a.st0,zi a.id0,zi a.rq0,.sl false opS a.d0 none,zi a.ct0,zi a.tm0,zi a.nk0]),(3,[zi 0,zi 0,zi 0,.sc false (.slice none 0 0),zi 0,zi 0,zi 0,zi 0,zi 0,zi 0,zi 0,zi 0,.sc false (.slice none 0 0),.sc false (.slice none 0 0)])],4,[(0,2000, 32),(1,2001, 68)],2,2002,2000⟩
def fo2C:Cs:=⟨115,[(6,.lit (.ptr 0 0)),(8,.lit (.ptr 2 0)),(12,.lit (.ptr 3 0)),(14,.lit (.sc false (.int .i64 0)))],[(0,[.int .i64,.int .i64,.int .i64,.sl opS,.int .i64,.int .i64,.int .i64,.int .i64,.int .i64,.int .i64,.int .i64,.int .i64,.tp ctS 0 2000,.tp acS 1 2001]),(1,[.int .i64,.int .i64,.int .i64,.int .i64,.int .i64,.int .i64,.int .i64]),(2,[.int .i64,.int .i64,.int .i64,.sl opS,.int .i64,.int .i64,.int .i64]),(3,[.lit (.sc false (.int .i64 0)),.lit (.sc false (.int .i64 0)),.lit (.sc false (.int .i64 0)),.lit (.sc false (.slice none 0 0)),.lit (.sc false (.int .i64 0)),.lit (.sc false (.int .i64 0)),.lit (.sc false (.int .i64 0)),.lit (.sc false (.int .i64 0)),.lit (.sc false (.int .i64 0)),.lit (.sc false (.int .i64 0)),.lit (.sc false (.int .i64 0)),.lit (.sc false (.int .i64 0)),.lit (.sc false (.slice none 0 0)),.lit (.sc false (.slice none 0 0))])],4,[(0,2000, 32),(1,2001, 68)],2,2002,2000⟩
noncomputable def fo2Dec (F:Tm) (h:Hp):Option (fo2X×Nat):=match cdS fo2C F h with
  | some [v0,v1,v2,v3,v4,v5,v6,v7,v8,v9,v10,v11,v12,v13,v14,v15,v16,v17,v18,v19,v20,v21,v22,v23,v24,v25,v26,v27]=>some (⟨v0.toI,v1.toI,v2.toI,v3,v4.toI,v5.toI,v6.toI,v7.toI,v8.toI,v9.toI,v10.toI,v11.toI,v12,v13,v14.toI,v15.toI,v16.toI,v17.toI,v18.toI,v19.toI,v20.toI,v21.toI,v22.toI,v23.toI,v24,v25.toI,v26.toI,v27.toI⟩,0)
  | _=>none
theorem fo2_body (st:Int) (id:Int) (rq:Int) (d:D) (ct:Int) (tm:Int) (nk:Int) (mg:Int) (pr:Int) (mu:Int) (pe:Int) (ne:Int) (o:D) (w:D) (mru:Int) (mc:Int) (mt:Int) (mf:Int) (wt:Int) (ec:Int) (lo:Int) (st0:Int) (id0:Int) (rq0:Int) (d0:D) (ct0:Int) (tm0:Int) (nk0:Int) (i:Int):roundT (⟨[6,8,12,14],[],4,2,2000,2000⟩) (evC Tryz.prog (gam (pnmG Tryz.prog)) (lam ([])) 100 114 (loopAt 2 (bodyOf Tryz.prog 114)) (⟨115,[(6,.ptr 0 0),(8,.ptr 2 0),(12,.ptr 3 0),(14,zi i)],[]⟩) (⟨[(0,[zi st,zi id,zi rq,.sl false opS d none,zi ct,zi tm,zi nk,zi mg,zi pr,zi mu,zi pe,zi ne,.sl false ctS o (some (0,2000)),.sl false acS w (some (1,2001))]),(1,[zi mru,zi mc,zi mt,zi mf,zi wt,zi ec,zi lo]),(2,[zi st0,zi id0,zi rq0,.sl false opS d0 none,zi ct0,zi tm0,zi nk0]),(3,[zi 0,zi 0,zi 0,.sc false (.slice none 0 0),zi 0,zi 0,zi 0,zi 0,zi 0,zi 0,zi 0,zi 0,.sc false (.slice none 0 0),.sc false (.slice none 0 0)])],4,[(0,2000, 32),(1,2001, 68)],2,2002,2000⟩)) =
RT.br (decide (i<(↑(D.len d0):Int))) (RT.br (decide (0≤i∧i<(↑(D.len d0):Int))) (RT.br (D.toI (D.cell (D.get d0 (Int.toNat i)) 0)==5) (RT.br (decide (0≤i∧i<(↑(D.len d0):Int))) (RT.br (bytesB (D.cell (D.get d0 (Int.toNat i)) 1)) (RT.br (nmOk (D.cell (D.get d0 (Int.toNat i)) 1)) (RT.br (decide (0≤i∧i<(↑(D.len d0):Int))) (RT.br ((↑(D.len (D.cell (D.get d0 (Int.toNat i)) 1)):Int)==4) (RT.br (nmI (D.cell (D.get d0 (Int.toNat i)) 1) != 0) (RT.ok (Ex.ret,(Tm.mk 115 [(6,AV.ptr 0 0),(8,AV.ptr 2 0),(12,AV.ptr 3 0),(14,zi i)] []),(Hp.mk [(0,[zi st,zi id,zi rq,zs zO d,zi ct,zi tm,zi nk,zi (nmI (D.cell (D.get d0 (Int.toNat i)) 1)),zi pr,zi mu,zi pe,zi ne,AV.sl false zC o (some (0,2000)),AV.sl false zN w (some (1,2001))]),(1,[zi mru,zi mc,zi mt,zi mf,zi wt,zi ec,zi lo]),(2,[zi st0,zi id0,zi rq0,zs zO d0,zi ct0,zi tm0,zi nk0]),(3,[zi st,zi id,zi rq,zs zO d,zi ct,zi tm,zi nk,zi (nmI (D.cell (D.get d0 (Int.toNat i)) 1)),zi pr,zi mu,zi pe,zi ne,AV.sl false zC o (some (0,2000)),AV.sl false zN w (some (1,2001))])] 4 [(0,2000,32),(1,2001,68)] 2 2002 2000))) (RT.ok (Ex.ret,(Tm.mk 115 [(6,AV.ptr 0 0),(8,AV.ptr 2 0),(12,AV.ptr 3 0),(14,zi i)] []),(Hp.mk [(0,[zi st,zi id,zi rq,zs zO d,zi ct,zi tm,zi nk,zi mg,zi pr,zi mu,zi pe,zi ne,AV.sl false zC o (some (0,2000)),AV.sl false zN w (some (1,2001))]),(1,[zi mru,zi mc,zi mt,zi mf,zi wt,zi ec,zi lo]),(2,[zi st0,zi id0,zi rq0,zs zO d0,zi ct0,zi tm0,zi nk0]),(3,[zi st,zi id,zi rq,zs zO d,zi ct,zi tm,zi nk,zi mg,zi pr,zi mu,zi pe,zi ne,AV.sl false zC o (some (0,2000)),AV.sl false zN w (some (1,2001))])] 4 [(0,2000,32),(1,2001,68)] 2 2002 2000)))) (RT.ok (Ex.ret,(Tm.mk 115 [(6,AV.ptr 0 0),(8,AV.ptr 2 0),(12,AV.ptr 3 0),(14,zi i)] []),(Hp.mk [(0,[zi st,zi id,zi rq,zs zO d,zi ct,zi tm,zi nk,zi mg,zi pr,zi mu,zi pe,zi ne,AV.sl false zC o (some (0,2000)),AV.sl false zN w (some (1,2001))]),(1,[zi mru,zi mc,zi mt,zi mf,zi wt,zi ec,zi lo]),(2,[zi st0,zi id0,zi rq0,zs zO d0,zi ct0,zi tm0,zi nk0]),(3,[zi st,zi id,zi rq,zs zO d,zi ct,zi tm,zi nk,zi mg,zi pr,zi mu,zi pe,zi ne,AV.sl false zC o (some (0,2000)),AV.sl false zN w (some (1,2001))])] 4 [(0,2000,32),(1,2001,68)] 2 2002 2000)))) (RT.bad 42)) (RT.ok (Ex.ret,(Tm.mk 115 [(6,AV.ptr 0 0),(8,AV.ptr 2 0),(12,AV.ptr 3 0),(14,zi i)] []),(Hp.mk [(0,[zi st,zi id,zi rq,zs zO d,zi ct,zi tm,zi nk,zi mg,zi pr,zi mu,zi pe,zi ne,AV.sl false zC o (some (0,2000)),AV.sl false zN w (some (1,2001))]),(1,[zi mru,zi mc,zi mt,zi mf,zi wt,zi ec,zi lo]),(2,[zi st0,zi id0,zi rq0,zs zO d0,zi ct0,zi tm0,zi nk0]),(3,[zi st,zi id,zi rq,zs zO d,zi ct,zi tm,zi nk,zi mg,zi pr,zi mu,zi pe,zi ne,AV.sl false zC o (some (0,2000)),AV.sl false zN w (some (1,2001))])] 4 [(0,2000,32),(1,2001,68)] 2 2002 2000)))) (RT.bad 297)) (RT.bad 42)) (RT.ok (Ex.normal,(Tm.mk 115 [(6,AV.ptr 0 0),(8,AV.ptr 2 0),(12,AV.ptr 3 0),(14,zi (IntKind.wrap IntKind.i64 (i+1)))] []),(Hp.mk [(0,[zi st,zi id,zi rq,zs zO d,zi ct,zi tm,zi nk,zi mg,zi pr,zi mu,zi pe,zi ne,AV.sl false zC o (some (0,2000)),AV.sl false zN w (some (1,2001))]),(1,[zi mru,zi mc,zi mt,zi mf,zi wt,zi ec,zi lo]),(2,[zi st0,zi id0,zi rq0,zs zO d0,zi ct0,zi tm0,zi nk0]),(3,[zi 0,zi 0,zi 0,zy,zi 0,zi 0,zi 0,zi 0,zi 0,zi 0,zi 0,zi 0,zy,zy])] 4 [(0,2000,32),(1,2001,68)] 2 2002 2000)))) (RT.bad 42)) (RT.ok (Ex.exit 2,(Tm.mk 115 [(6,AV.ptr 0 0),(8,AV.ptr 2 0),(12,AV.ptr 3 0),(14,zi i)] []),(Hp.mk [(0,[zi st,zi id,zi rq,zs zO d,zi ct,zi tm,zi nk,zi mg,zi pr,zi mu,zi pe,zi ne,AV.sl false zC o (some (0,2000)),AV.sl false zN w (some (1,2001))]),(1,[zi mru,zi mc,zi mt,zi mf,zi wt,zi ec,zi lo]),(2,[zi st0,zi id0,zi rq0,zs zO d0,zi ct0,zi tm0,zi nk0]),(3,[zi 0,zi 0,zi 0,zy,zi 0,zi 0,zi 0,zi 0,zi 0,zi 0,zi 0,zi 0,zy,zy])] 4 [(0,2000,32),(1,2001,68)] 2 2002 2000))):=by rw [← fvC_eq Tryz.prog (gam (pnmG Tryz.prog)) (lam ([])) false 100]; kernel_rfl
structure fs0X where
  x:D
  (tick st id rq:Int)
  d:D
  (ct tm nk mg pr mu pe ne:Int)
  (o w:D)
  (mru mc mt mf wt ec lo st0 id0 rq0:Int)
  d0:D
  (ct0 tm0 nk0:Int)
def fs0L:Lw:=⟨[4,5,6,7,8,12,13],[],4,2,1000,1000⟩
def fs0F (a:fs0X) (i:Nat) (g7:Int) (g8:Int):Tm:=⟨115,[(4,.sl false acS a.x none),(5,zi a.tick),(6,.ptr 0 0),(7,.ptr 1 0),(8,.ptr 2 0),(12,.ptr 3 0),(13,zi (i:Int))],[]⟩
def fs0H (a:fs0X) (i:Nat) (g7:Int) (g8:Int):Hp:=⟨[(0,[zi a.st,zi a.id,zi a.rq,.sl false opS a.d none,zi a.ct,zi a.tm,zi a.nk,zi a.mg,zi a.pr,zi a.mu,zi g7,zi g8,.sl false ctS a.o (some (1,1001)),.sl false acS a.w (some (0,1000))]),(1,[zi a.mru,zi a.mc,zi a.mt,zi a.mf,zi a.wt,zi a.ec,zi a.lo]),(2,[zi a.st0,zi a.id0,zi a.rq0,.sl false opS a.d0 none,zi a.ct0,zi a.tm0,zi a.nk0]),(3,[zi 0,zi 0,zi 0,.sc false (.slice none 0 0),zi 0,zi 0,zi 0,zi 0,zi 0,zi 0,zi 0,zi 0,.sc false (.slice none 0 0),.sc false (.slice none 0 0)])],4,[(0,1000, 68),(1,1001, 32)],2,1002,1000⟩
def fs0C:Cs:=⟨115,[(4,.sl acS),(5,.int .i64),(6,.lit (.ptr 0 0)),(7,.lit (.ptr 1 0)),(8,.lit (.ptr 2 0)),(12,.lit (.ptr 3 0)),(13,.lit (.sc false (.int .i64 0)))],[(0,[.int .i64,.int .i64,.int .i64,.sl opS,.int .i64,.int .i64,.int .i64,.int .i64,.int .i64,.int .i64,.int .i64,.int .i64,.tp ctS 1 1001,.tp acS 0 1000]),(1,[.int .i64,.int .i64,.int .i64,.int .i64,.int .i64,.int .i64,.int .i64]),(2,[.int .i64,.int .i64,.int .i64,.sl opS,.int .i64,.int .i64,.int .i64]),(3,[.lit (.sc false (.int .i64 0)),.lit (.sc false (.int .i64 0)),.lit (.sc false (.int .i64 0)),.lit (.sc false (.slice none 0 0)),.lit (.sc false (.int .i64 0)),.lit (.sc false (.int .i64 0)),.lit (.sc false (.int .i64 0)),.lit (.sc false (.int .i64 0)),.lit (.sc false (.int .i64 0)),.lit (.sc false (.int .i64 0)),.lit (.sc false (.int .i64 0)),.lit (.sc false (.int .i64 0)),.lit (.sc false (.slice none 0 0)),.lit (.sc false (.slice none 0 0))])],4,[(0,1000, 68),(1,1001, 32)],2,1002,1000⟩
noncomputable def fs0Dec (F:Tm) (h:Hp):Option (fs0X×Nat):=match cdS fs0C F h with
  | some [v0,v1,v2,v3,v4,v5,v6,v7,v8,v9,v10,v11,v12,v13,v14,v15,v16,v17,v18,v19,v20,v21,v22,v23,v24,v25,v26,v27,v28,v29]=>some (⟨v0,v1.toI,v2.toI,v3.toI,v4.toI,v5,v6.toI,v7.toI,v8.toI,v9.toI,v10.toI,v11.toI,v12.toI,v13.toI,v14,v15,v16.toI,v17.toI,v18.toI,v19.toI,v20.toI,v21.toI,v22.toI,v23.toI,v24.toI,v25.toI,v26,v27.toI,v28.toI,v29.toI⟩,0)
  | _=>none
theorem fs0_body (x:D) (tick:Int) (st:Int) (id:Int) (rq:Int) (d:D) (ct:Int) (tm:Int) (nk:Int) (mg:Int) (pr:Int) (mu:Int) (o:D) (w:D) (mru:Int) (mc:Int) (mt:Int) (mf:Int) (wt:Int) (ec:Int) (lo:Int) (st0:Int) (id0:Int) (rq0:Int) (d0:D) (ct0:Int) (tm0:Int) (nk0:Int) (i:Int) (g7:Int) (g8:Int):roundT (⟨[4,5,6,7,8,12,13],[],4,2,1000,1000⟩) (evC Tryz.prog (gam (pnmG Tryz.prog)) (lam ([])) 100 114 (loopAt 0 (bodyOf Tryz.prog 114)) (⟨115,[(4,.sl false acS x none),(5,zi tick),(6,.ptr 0 0),(7,.ptr 1 0),(8,.ptr 2 0),(12,.ptr 3 0),(13,zi i)],[]⟩) (⟨[(0,[zi st,zi id,zi rq,.sl false opS d none,zi ct,zi tm,zi nk,zi mg,zi pr,zi mu,zi g7,zi g8,.sl false ctS o (some (1,1001)),.sl false acS w (some (0,1000))]),(1,[zi mru,zi mc,zi mt,zi mf,zi wt,zi ec,zi lo]),(2,[zi st0,zi id0,zi rq0,.sl false opS d0 none,zi ct0,zi tm0,zi nk0]),(3,[zi 0,zi 0,zi 0,.sc false (.slice none 0 0),zi 0,zi 0,zi 0,zi 0,zi 0,zi 0,zi 0,zi 0,.sc false (.slice none 0 0),.sc false (.slice none 0 0)])],4,[(0,1000, 68),(1,1001, 32)],2,1002,1000⟩)) =
RT.br (decide (i<(↑(D.len x):Int))) (RT.br (decide (0≤i∧i<(↑(D.len x):Int))) (RT.br (D.toI (D.cell (D.get x (Int.toNat i)) 0)==1) (RT.br (decide (0≤i∧i<(↑(D.len x):Int))) (RT.br (D.toI (D.cell (D.get x (Int.toNat i)) 0)==1) (RT.br (ec != 0) (RT.ok (Ex.normal,(Tm.mk 115 [(4,zs zN x),(5,zi tick),(6,AV.ptr 0 0),(7,AV.ptr 1 0),(8,AV.ptr 2 0),(12,AV.ptr 3 0),(13,zi (IntKind.wrap IntKind.i64 (i+1)))] []),(Hp.mk [(0,[zi st,zi id,zi rq,zs zO d,zi ct,zi tm,zi nk,zi mg,zi pr,zi mu,zi 0,zi (IntKind.wrap IntKind.i64 (tick+ec)),AV.sl false zC o (some (1,1001)),AV.sl false zN w (some (0,1000))]),(1,[zi mru,zi mc,zi mt,zi mf,zi wt,zi ec,zi lo]),(2,[zi st0,zi id0,zi rq0,zs zO d0,zi ct0,zi tm0,zi nk0]),(3,[zi 0,zi 0,zi 0,zy,zi 0,zi 0,zi 0,zi 0,zi 0,zi 0,zi 0,zi 0,zy,zy])] 4 [(0,1000,68),(1,1001,32)] 2 1002 1000))) (RT.ok (Ex.normal,(Tm.mk 115 [(4,zs zN x),(5,zi tick),(6,AV.ptr 0 0),(7,AV.ptr 1 0),(8,AV.ptr 2 0),(12,AV.ptr 3 0),(13,zi (IntKind.wrap IntKind.i64 (i+1)))] []),(Hp.mk [(0,[zi st,zi id,zi rq,zs zO d,zi ct,zi tm,zi nk,zi mg,zi pr,zi mu,zi 0,zi 0,AV.sl false zC o (some (1,1001)),AV.sl false zN w (some (0,1000))]),(1,[zi mru,zi mc,zi mt,zi mf,zi wt,zi ec,zi lo]),(2,[zi st0,zi id0,zi rq0,zs zO d0,zi ct0,zi tm0,zi nk0]),(3,[zi 0,zi 0,zi 0,zy,zi 0,zi 0,zi 0,zi 0,zi 0,zi 0,zi 0,zi 0,zy,zy])] 4 [(0,1000,68),(1,1001,32)] 2 1002 1000)))) (RT.ok (Ex.normal,(Tm.mk 115 [(4,zs zN x),(5,zi tick),(6,AV.ptr 0 0),(7,AV.ptr 1 0),(8,AV.ptr 2 0),(12,AV.ptr 3 0),(13,zi (IntKind.wrap IntKind.i64 (i+1)))] []),(Hp.mk [(0,[zi st,zi id,zi rq,zs zO d,zi ct,zi tm,zi nk,zi mg,zi pr,zi mu,zi 0,zi 0,AV.sl false zC o (some (1,1001)),AV.sl false zN w (some (0,1000))]),(1,[zi mru,zi mc,zi mt,zi mf,zi wt,zi ec,zi lo]),(2,[zi st0,zi id0,zi rq0,zs zO d0,zi ct0,zi tm0,zi nk0]),(3,[zi 0,zi 0,zi 0,zy,zi 0,zi 0,zi 0,zi 0,zi 0,zi 0,zi 0,zi 0,zy,zy])] 4 [(0,1000,68),(1,1001,32)] 2 1002 1000)))) (RT.bad 42)) (RT.br (decide (0≤i∧i<(↑(D.len x):Int))) (RT.br (D.toI (D.cell (D.get x (Int.toNat i)) 0)==2) (RT.br (decide (0≤i∧i<(↑(D.len x):Int))) (RT.br (D.toI (D.cell (D.get x (Int.toNat i)) 0)==1) (RT.br (ec != 0) (RT.ok (Ex.normal,(Tm.mk 115 [(4,zs zN x),(5,zi tick),(6,AV.ptr 0 0),(7,AV.ptr 1 0),(8,AV.ptr 2 0),(12,AV.ptr 3 0),(13,zi (IntKind.wrap IntKind.i64 (i+1)))] []),(Hp.mk [(0,[zi st,zi id,zi rq,zs zO d,zi ct,zi tm,zi nk,zi mg,zi pr,zi mu,zi 0,zi (IntKind.wrap IntKind.i64 (tick+ec)),AV.sl false zC o (some (1,1001)),AV.sl false zN w (some (0,1000))]),(1,[zi mru,zi mc,zi mt,zi mf,zi wt,zi ec,zi lo]),(2,[zi st0,zi id0,zi rq0,zs zO d0,zi ct0,zi tm0,zi nk0]),(3,[zi 0,zi 0,zi 0,zy,zi 0,zi 0,zi 0,zi 0,zi 0,zi 0,zi 0,zi 0,zy,zy])] 4 [(0,1000,68),(1,1001,32)] 2 1002 1000))) (RT.ok (Ex.normal,(Tm.mk 115 [(4,zs zN x),(5,zi tick),(6,AV.ptr 0 0),(7,AV.ptr 1 0),(8,AV.ptr 2 0),(12,AV.ptr 3 0),(13,zi (IntKind.wrap IntKind.i64 (i+1)))] []),(Hp.mk [(0,[zi st,zi id,zi rq,zs zO d,zi ct,zi tm,zi nk,zi mg,zi pr,zi mu,zi 0,zi 0,AV.sl false zC o (some (1,1001)),AV.sl false zN w (some (0,1000))]),(1,[zi mru,zi mc,zi mt,zi mf,zi wt,zi ec,zi lo]),(2,[zi st0,zi id0,zi rq0,zs zO d0,zi ct0,zi tm0,zi nk0]),(3,[zi 0,zi 0,zi 0,zy,zi 0,zi 0,zi 0,zi 0,zi 0,zi 0,zi 0,zi 0,zy,zy])] 4 [(0,1000,68),(1,1001,32)] 2 1002 1000)))) (RT.ok (Ex.normal,(Tm.mk 115 [(4,zs zN x),(5,zi tick),(6,AV.ptr 0 0),(7,AV.ptr 1 0),(8,AV.ptr 2 0),(12,AV.ptr 3 0),(13,zi (IntKind.wrap IntKind.i64 (i+1)))] []),(Hp.mk [(0,[zi st,zi id,zi rq,zs zO d,zi ct,zi tm,zi nk,zi mg,zi pr,zi mu,zi 0,zi 0,AV.sl false zC o (some (1,1001)),AV.sl false zN w (some (0,1000))]),(1,[zi mru,zi mc,zi mt,zi mf,zi wt,zi ec,zi lo]),(2,[zi st0,zi id0,zi rq0,zs zO d0,zi ct0,zi tm0,zi nk0]),(3,[zi 0,zi 0,zi 0,zy,zi 0,zi 0,zi 0,zi 0,zi 0,zi 0,zi 0,zi 0,zy,zy])] 4 [(0,1000,68),(1,1001,32)] 2 1002 1000)))) (RT.bad 42)) (RT.br (decide (0≤i∧i<(↑(D.len x):Int))) (RT.br (D.toI (D.cell (D.get x (Int.toNat i)) 0)==1) (RT.br (ec != 0) (RT.ok (Ex.normal,(Tm.mk 115 [(4,zs zN x),(5,zi tick),(6,AV.ptr 0 0),(7,AV.ptr 1 0),(8,AV.ptr 2 0),(12,AV.ptr 3 0),(13,zi (IntKind.wrap IntKind.i64 (i+1)))] []),(Hp.mk [(0,[zi st,zi id,zi rq,zs zO d,zi ct,zi tm,zi nk,zi mg,zi pr,zi mu,zi g7,zi (IntKind.wrap IntKind.i64 (tick+ec)),AV.sl false zC o (some (1,1001)),AV.sl false zN w (some (0,1000))]),(1,[zi mru,zi mc,zi mt,zi mf,zi wt,zi ec,zi lo]),(2,[zi st0,zi id0,zi rq0,zs zO d0,zi ct0,zi tm0,zi nk0]),(3,[zi 0,zi 0,zi 0,zy,zi 0,zi 0,zi 0,zi 0,zi 0,zi 0,zi 0,zi 0,zy,zy])] 4 [(0,1000,68),(1,1001,32)] 2 1002 1000))) (RT.ok (Ex.normal,(Tm.mk 115 [(4,zs zN x),(5,zi tick),(6,AV.ptr 0 0),(7,AV.ptr 1 0),(8,AV.ptr 2 0),(12,AV.ptr 3 0),(13,zi (IntKind.wrap IntKind.i64 (i+1)))] []),(Hp.mk [(0,[zi st,zi id,zi rq,zs zO d,zi ct,zi tm,zi nk,zi mg,zi pr,zi mu,zi g7,zi g8,AV.sl false zC o (some (1,1001)),AV.sl false zN w (some (0,1000))]),(1,[zi mru,zi mc,zi mt,zi mf,zi wt,zi ec,zi lo]),(2,[zi st0,zi id0,zi rq0,zs zO d0,zi ct0,zi tm0,zi nk0]),(3,[zi 0,zi 0,zi 0,zy,zi 0,zi 0,zi 0,zi 0,zi 0,zi 0,zi 0,zi 0,zy,zy])] 4 [(0,1000,68),(1,1001,32)] 2 1002 1000)))) (RT.ok (Ex.normal,(Tm.mk 115 [(4,zs zN x),(5,zi tick),(6,AV.ptr 0 0),(7,AV.ptr 1 0),(8,AV.ptr 2 0),(12,AV.ptr 3 0),(13,zi (IntKind.wrap IntKind.i64 (i+1)))] []),(Hp.mk [(0,[zi st,zi id,zi rq,zs zO d,zi ct,zi tm,zi nk,zi mg,zi pr,zi mu,zi g7,zi g8,AV.sl false zC o (some (1,1001)),AV.sl false zN w (some (0,1000))]),(1,[zi mru,zi mc,zi mt,zi mf,zi wt,zi ec,zi lo]),(2,[zi st0,zi id0,zi rq0,zs zO d0,zi ct0,zi tm0,zi nk0]),(3,[zi 0,zi 0,zi 0,zy,zi 0,zi 0,zi 0,zi 0,zi 0,zi 0,zi 0,zi 0,zy,zy])] 4 [(0,1000,68),(1,1001,32)] 2 1002 1000)))) (RT.bad 42))) (RT.bad 42))) (RT.bad 42)) (RT.ok (Ex.exit 0,(Tm.mk 115 [(4,zs zN x),(5,zi tick),(6,AV.ptr 0 0),(7,AV.ptr 1 0),(8,AV.ptr 2 0),(12,AV.ptr 3 0),(13,zi i)] []),(Hp.mk [(0,[zi st,zi id,zi rq,zs zO d,zi ct,zi tm,zi nk,zi mg,zi pr,zi mu,zi g7,zi g8,AV.sl false zC o (some (1,1001)),AV.sl false zN w (some (0,1000))]),(1,[zi mru,zi mc,zi mt,zi mf,zi wt,zi ec,zi lo]),(2,[zi st0,zi id0,zi rq0,zs zO d0,zi ct0,zi tm0,zi nk0]),(3,[zi 0,zi 0,zi 0,zy,zi 0,zi 0,zi 0,zi 0,zi 0,zi 0,zi 0,zi 0,zy,zy])] 4 [(0,1000,68),(1,1001,32)] 2 1002 1000))):=by rw [← fvC_eq Tryz.prog (gam (pnmG Tryz.prog)) (lam ([])) false 100]; kernel_rfl
structure fs2X where
  (st id rq:Int)
  d:D
  (ct tm nk mg pr mu pe ne:Int)
  (o w:D)
  (mru mc mt mf wt ec lo st0 id0 rq0:Int)
  d0:D
  (ct0 tm0 nk0:Int)
def fs2L:Lw:=⟨[6,8,12,14],[],4,2,2000,2000⟩
def fs2F (a:fs2X) (i:Nat):Tm:=⟨115,[(6,.ptr 0 0),(8,.ptr 2 0),(12,.ptr 3 0),(14,zi (i:Int))],[]⟩
def fs2H (a:fs2X) (i:Nat):Hp:=⟨[(0,[zi a.st,zi a.id,zi a.rq,.sl false opS a.d none,zi a.ct,zi a.tm,zi a.nk,zi a.mg,zi a.pr,zi a.mu,zi a.pe,zi a.ne,.sl false ctS a.o (some (1,2001)),.sl false acS a.w (some (0,2000))]),(1,[zi a.mru,zi a.mc,zi a.mt,zi a.mf,zi a.wt,zi a.ec,zi a.lo]),(2,[zi a.st0,zi a.id0,zi a.rq0,.sl false opS a.d0 none,zi a.ct0,zi a.tm0,zi a.nk0]),(3,[zi 0,zi 0,zi 0,.sc false (.slice none 0 0),zi 0,zi 0,zi 0,zi 0,zi 0,zi 0,zi 0,zi 0,.sc false (.slice none 0 0),.sc false (.slice none 0 0)])],4,[(0,2000, 68),(1,2001, 32)],2,2002,2000⟩
def fs2C:Cs:=⟨115,[(6,.lit (.ptr 0 0)),(8,.lit (.ptr 2 0)),(12,.lit (.ptr 3 0)),(14,.lit (.sc false (.int .i64 0)))],[(0,[.int .i64,.int .i64,.int .i64,.sl opS,.int .i64,.int .i64,.int .i64,.int .i64,.int .i64,.int .i64,.int .i64,.int .i64,.tp ctS 1 2001,.tp acS 0 2000]),(1,[.int .i64,.int .i64,.int .i64,.int .i64,.int .i64,.int .i64,.int .i64]),(2,[.int .i64,.int .i64,.int .i64,.sl opS,.int .i64,.int .i64,.int .i64]),(3,[.lit (.sc false (.int .i64 0)),.lit (.sc false (.int .i64 0)),.lit (.sc false (.int .i64 0)),.lit (.sc false (.slice none 0 0)),.lit (.sc false (.int .i64 0)),.lit (.sc false (.int .i64 0)),.lit (.sc false (.int .i64 0)),.lit (.sc false (.int .i64 0)),.lit (.sc false (.int .i64 0)),.lit (.sc false (.int .i64 0)),.lit (.sc false (.int .i64 0)),.lit (.sc false (.int .i64 0)),.lit (.sc false (.slice none 0 0)),.lit (.sc false (.slice none 0 0))])],4,[(0,2000, 68),(1,2001, 32)],2,2002,2000⟩
noncomputable def fs2Dec (F:Tm) (h:Hp):Option (fs2X×Nat):=match cdS fs2C F h with
  | some [v0,v1,v2,v3,v4,v5,v6,v7,v8,v9,v10,v11,v12,v13,v14,v15,v16,v17,v18,v19,v20,v21,v22,v23,v24,v25,v26,v27]=>some (⟨v0.toI,v1.toI,v2.toI,v3,v4.toI,v5.toI,v6.toI,v7.toI,v8.toI,v9.toI,v10.toI,v11.toI,v12,v13,v14.toI,v15.toI,v16.toI,v17.toI,v18.toI,v19.toI,v20.toI,v21.toI,v22.toI,v23.toI,v24,v25.toI,v26.toI,v27.toI⟩,0)
  | _=>none
theorem fs2_body (st:Int) (id:Int) (rq:Int) (d:D) (ct:Int) (tm:Int) (nk:Int) (mg:Int) (pr:Int) (mu:Int) (pe:Int) (ne:Int) (o:D) (w:D) (mru:Int) (mc:Int) (mt:Int) (mf:Int) (wt:Int) (ec:Int) (lo:Int) (st0:Int) (id0:Int) (rq0:Int) (d0:D) (ct0:Int) (tm0:Int) (nk0:Int) (i:Int):roundT (⟨[6,8,12,14],[],4,2,2000,2000⟩) (evC Tryz.prog (gam (pnmG Tryz.prog)) (lam ([])) 100 114 (loopAt 2 (bodyOf Tryz.prog 114)) (⟨115,[(6,.ptr 0 0),(8,.ptr 2 0),(12,.ptr 3 0),(14,zi i)],[]⟩) (⟨[(0,[zi st,zi id,zi rq,.sl false opS d none,zi ct,zi tm,zi nk,zi mg,zi pr,zi mu,zi pe,zi ne,.sl false ctS o (some (1,2001)),.sl false acS w (some (0,2000))]),(1,[zi mru,zi mc,zi mt,zi mf,zi wt,zi ec,zi lo]),(2,[zi st0,zi id0,zi rq0,.sl false opS d0 none,zi ct0,zi tm0,zi nk0]),(3,[zi 0,zi 0,zi 0,.sc false (.slice none 0 0),zi 0,zi 0,zi 0,zi 0,zi 0,zi 0,zi 0,zi 0,.sc false (.slice none 0 0),.sc false (.slice none 0 0)])],4,[(0,2000, 68),(1,2001, 32)],2,2002,2000⟩)) =
RT.br (decide (i<(↑(D.len d0):Int))) (RT.br (decide (0≤i∧i<(↑(D.len d0):Int))) (RT.br (D.toI (D.cell (D.get d0 (Int.toNat i)) 0)==5) (RT.br (decide (0≤i∧i<(↑(D.len d0):Int))) (RT.br (bytesB (D.cell (D.get d0 (Int.toNat i)) 1)) (RT.br (nmOk (D.cell (D.get d0 (Int.toNat i)) 1)) (RT.br (decide (0≤i∧i<(↑(D.len d0):Int))) (RT.br ((↑(D.len (D.cell (D.get d0 (Int.toNat i)) 1)):Int)==4) (RT.br (nmI (D.cell (D.get d0 (Int.toNat i)) 1) != 0) (RT.ok (Ex.ret,(Tm.mk 115 [(6,AV.ptr 0 0),(8,AV.ptr 2 0),(12,AV.ptr 3 0),(14,zi i)] []),(Hp.mk [(0,[zi st,zi id,zi rq,zs zO d,zi ct,zi tm,zi nk,zi (nmI (D.cell (D.get d0 (Int.toNat i)) 1)),zi pr,zi mu,zi pe,zi ne,AV.sl false zC o (some (1,2001)),AV.sl false zN w (some (0,2000))]),(1,[zi mru,zi mc,zi mt,zi mf,zi wt,zi ec,zi lo]),(2,[zi st0,zi id0,zi rq0,zs zO d0,zi ct0,zi tm0,zi nk0]),(3,[zi st,zi id,zi rq,zs zO d,zi ct,zi tm,zi nk,zi (nmI (D.cell (D.get d0 (Int.toNat i)) 1)),zi pr,zi mu,zi pe,zi ne,AV.sl false zC o (some (1,2001)),AV.sl false zN w (some (0,2000))])] 4 [(0,2000,68),(1,2001,32)] 2 2002 2000))) (RT.ok (Ex.ret,(Tm.mk 115 [(6,AV.ptr 0 0),(8,AV.ptr 2 0),(12,AV.ptr 3 0),(14,zi i)] []),(Hp.mk [(0,[zi st,zi id,zi rq,zs zO d,zi ct,zi tm,zi nk,zi mg,zi pr,zi mu,zi pe,zi ne,AV.sl false zC o (some (1,2001)),AV.sl false zN w (some (0,2000))]),(1,[zi mru,zi mc,zi mt,zi mf,zi wt,zi ec,zi lo]),(2,[zi st0,zi id0,zi rq0,zs zO d0,zi ct0,zi tm0,zi nk0]),(3,[zi st,zi id,zi rq,zs zO d,zi ct,zi tm,zi nk,zi mg,zi pr,zi mu,zi pe,zi ne,AV.sl false zC o (some (1,2001)),AV.sl false zN w (some (0,2000))])] 4 [(0,2000,68),(1,2001,32)] 2 2002 2000)))) (RT.ok (Ex.ret,(Tm.mk 115 [(6,AV.ptr 0 0),(8,AV.ptr 2 0),(12,AV.ptr 3 0),(14,zi i)] []),(Hp.mk [(0,[zi st,zi id,zi rq,zs zO d,zi ct,zi tm,zi nk,zi mg,zi pr,zi mu,zi pe,zi ne,AV.sl false zC o (some (1,2001)),AV.sl false zN w (some (0,2000))]),(1,[zi mru,zi mc,zi mt,zi mf,zi wt,zi ec,zi lo]),(2,[zi st0,zi id0,zi rq0,zs zO d0,zi ct0,zi tm0,zi nk0]),(3,[zi st,zi id,zi rq,zs zO d,zi ct,zi tm,zi nk,zi mg,zi pr,zi mu,zi pe,zi ne,AV.sl false zC o (some (1,2001)),AV.sl false zN w (some (0,2000))])] 4 [(0,2000,68),(1,2001,32)] 2 2002 2000)))) (RT.bad 42)) (RT.ok (Ex.ret,(Tm.mk 115 [(6,AV.ptr 0 0),(8,AV.ptr 2 0),(12,AV.ptr 3 0),(14,zi i)] []),(Hp.mk [(0,[zi st,zi id,zi rq,zs zO d,zi ct,zi tm,zi nk,zi mg,zi pr,zi mu,zi pe,zi ne,AV.sl false zC o (some (1,2001)),AV.sl false zN w (some (0,2000))]),(1,[zi mru,zi mc,zi mt,zi mf,zi wt,zi ec,zi lo]),(2,[zi st0,zi id0,zi rq0,zs zO d0,zi ct0,zi tm0,zi nk0]),(3,[zi st,zi id,zi rq,zs zO d,zi ct,zi tm,zi nk,zi mg,zi pr,zi mu,zi pe,zi ne,AV.sl false zC o (some (1,2001)),AV.sl false zN w (some (0,2000))])] 4 [(0,2000,68),(1,2001,32)] 2 2002 2000)))) (RT.bad 297)) (RT.bad 42)) (RT.ok (Ex.normal,(Tm.mk 115 [(6,AV.ptr 0 0),(8,AV.ptr 2 0),(12,AV.ptr 3 0),(14,zi (IntKind.wrap IntKind.i64 (i+1)))] []),(Hp.mk [(0,[zi st,zi id,zi rq,zs zO d,zi ct,zi tm,zi nk,zi mg,zi pr,zi mu,zi pe,zi ne,AV.sl false zC o (some (1,2001)),AV.sl false zN w (some (0,2000))]),(1,[zi mru,zi mc,zi mt,zi mf,zi wt,zi ec,zi lo]),(2,[zi st0,zi id0,zi rq0,zs zO d0,zi ct0,zi tm0,zi nk0]),(3,[zi 0,zi 0,zi 0,zy,zi 0,zi 0,zi 0,zi 0,zi 0,zi 0,zi 0,zi 0,zy,zy])] 4 [(0,2000,68),(1,2001,32)] 2 2002 2000)))) (RT.bad 42)) (RT.ok (Ex.exit 2,(Tm.mk 115 [(6,AV.ptr 0 0),(8,AV.ptr 2 0),(12,AV.ptr 3 0),(14,zi i)] []),(Hp.mk [(0,[zi st,zi id,zi rq,zs zO d,zi ct,zi tm,zi nk,zi mg,zi pr,zi mu,zi pe,zi ne,AV.sl false zC o (some (1,2001)),AV.sl false zN w (some (0,2000))]),(1,[zi mru,zi mc,zi mt,zi mf,zi wt,zi ec,zi lo]),(2,[zi st0,zi id0,zi rq0,zs zO d0,zi ct0,zi tm0,zi nk0]),(3,[zi 0,zi 0,zi 0,zy,zi 0,zi 0,zi 0,zi 0,zi 0,zi 0,zi 0,zi 0,zy,zy])] 4 [(0,2000,68),(1,2001,32)] 2 2002 2000))):=by rw [← fvC_eq Tryz.prog (gam (pnmG Tryz.prog)) (lam ([])) false 100]; kernel_rfl
def mgE (d:D) (i:Nat) (mg:Int):Int:=bif (optB d i).len==4&&nmI (optB d i) != 0 then nmI (optB d i) else mg
def fo0T:fo0X×Nat→RT Out:=foldT (fun a=>a.x.len) (fun a=>decide (0≤a.ec)) (fun a i=>fo0F a i (flP a.x a.pe i) (flN a.x a.ec a.tick a.ne i)) (fun a i=>fo0H a i (flP a.x a.pe i) (flN a.x a.ec a.tick a.ne i))
def fo2G (a:fo2X) (i:Nat):Hp:=⟨[(0,[ai a.st,ai a.id,ai a.rq,asl opS a.d,ai a.ct,ai a.tm,ai a.nk,ai (mgE a.d0 i a.mg),ai a.pr,ai a.mu,ai a.pe,ai a.ne,.sl false ctS a.o (some (0,2000)),.sl false acS a.w (some (1,2001))]),(1,[ai a.mru,ai a.mc,ai a.mt,ai a.mf,ai a.wt,ai a.ec,ai a.lo]),(2,[ai a.st0,ai a.id0,ai a.rq0,asl opS a.d0,ai a.ct0,ai a.tm0,ai a.nk0]),(3,[ai a.st,ai a.id,ai a.rq,asl opS a.d,ai a.ct,ai a.tm,ai a.nk,ai (mgE a.d0 i a.mg),ai a.pr,ai a.mu,ai a.pe,ai a.ne,.sl false ctS a.o (some (0,2000)),.sl false acS a.w (some (1,2001))])],4,[(0,2000, 32),(1,2001, 68)],2,2002,2000⟩
def fo2T:fo2X×Nat→RT Out:=scanT (fun a=>a.d0.len) (fun a=>neT a.d0 5) (fun a=>optsB a.d0) fo2F fo2F (fun a=>fo2H a 0) fo2G .ret
def fs0T:fs0X×Nat→RT Out:=foldT (fun a=>a.x.len) (fun a=>decide (0≤a.ec)) (fun a i=>fs0F a i (flP a.x a.pe i) (flN a.x a.ec a.tick a.ne i)) (fun a i=>fs0H a i (flP a.x a.pe i) (flN a.x a.ec a.tick a.ne i))
def fs2G (a:fs2X) (i:Nat):Hp:=⟨[(0,[ai a.st,ai a.id,ai a.rq,asl opS a.d,ai a.ct,ai a.tm,ai a.nk,ai (mgE a.d0 i a.mg),ai a.pr,ai a.mu,ai a.pe,ai a.ne,.sl false ctS a.o (some (1,2001)),.sl false acS a.w (some (0,2000))]),(1,[ai a.mru,ai a.mc,ai a.mt,ai a.mf,ai a.wt,ai a.ec,ai a.lo]),(2,[ai a.st0,ai a.id0,ai a.rq0,asl opS a.d0,ai a.ct0,ai a.tm0,ai a.nk0]),(3,[ai a.st,ai a.id,ai a.rq,asl opS a.d,ai a.ct,ai a.tm,ai a.nk,ai (mgE a.d0 i a.mg),ai a.pr,ai a.mu,ai a.pe,ai a.ne,.sl false ctS a.o (some (1,2001)),.sl false acS a.w (some (0,2000))])],4,[(0,2000, 68),(1,2001, 32)],2,2002,2000⟩
def fs2T:fs2X×Nat→RT Out:=scanT (fun a=>a.d0.len) (fun a=>neT a.d0 5) (fun a=>optsB a.d0) fs2F fs2F (fun a=>fs2H a 0) fs2G .ret
def fstT (ty:TypeId) (_:Tm) (h:Hp):Bool:=match lookG 0 h.gn with | some (_,e)=>Nat.beq e ty | none=>false
def flsCd:List Cd:=[.agg [.int .i64,.int .i64,.int .i64,.sl opS,.int .i64,.int .i64,.int .i64,.int .i64,.int .i64,.int .i64,.int .i64,.int .i64,.sl ctS,.sl acS],.agg [.int .i64,.int .i64,.int .i64,.int .i64,.int .i64,.int .i64,.int .i64],.agg [.int .i64,.int .i64,.int .i64,.sl opS,.int .i64,.int .i64,.int .i64],.sl ctS,.sl acS,.int .i64]
def cat2 (a b:D):D:=D.app (D.app (.l []) a) b
def flsN (ec:Int) (d2 o out w did:D):Bool:=decide (0≤ec∧(D.len (D.app (.l []) o)+out.len)*40≤140737488355328∧(D.len (D.app (.l []) w)+did.len)*8≤140737488355328)&&optsB d2
def flsA (pr mu pe ne mg:Int) (o w:D) (ec st2 id2 rq2:Int) (d2:D) (ct2 tm2 nk2:Int) (out did:D) (tick:Int):AV :=
  .agg [ai st2,ai id2,ai rq2,asl opS d2,ai ct2,ai tm2,ai nk2,ai (mgV d2 mg),ai pr,ai mu,ai (flP did pe did.len),ai (flN did ec tick ne did.len),asl ctS (cat2 o out),asl acS (cat2 w did)]
def FFls (args:List AV):RT AV:=match cdAL flsCd args with
  | some [v0,v1,v2,v3,v4,v5,v6,v7,v8,v9,v10,v11,v12,v13,v14,v15,v16,v17,v18,v19,v20,v21,v22,v23,v24,v25,v26,v27,v28,v29,v30]=>need false (flsN v19.toI v24 v12 v28 v13 v29) 300 (.ok (flsA v8.toI v9.toI v10.toI v11.toI v7.toI v12 v13 v19.toI v21.toI v22.toI v23.toI v24 v25.toI v26.toI v27.toI v28 v29 v30.toI))
  | _=>.bad 300
def flsLs (P:Program):List (FuncId×Nat×BSpec):=[(114,0,altB (fstT 32) (loopS P fo0L fo0Dec fo0T) (loopS P fs0L fs0Dec fs0T)),(114,2,altB (fstT 32) (loopS P fo2L fo2Dec fo2T) (loopS P fs2L fs2Dec fs2T))]
theorem fo0Dec_0:∀ F h x,fo0Dec F h=some x→∃ a,x=(a,0)∧F=fo0F a 0 a.pe a.ne∧h=fo0H a 0 a.pe a.ne:=by
  intro F h x hx
  unfold fo0Dec at hx
  split at hx
  · rename_i hd
    cases hx
    obtain ⟨h1,h2⟩:=cdS_ok hd
    exact ⟨_,rfl,h1,h2⟩
  · cases hx
theorem fo2Dec_0:∀ F h x,fo2Dec F h=some x→∃ a,x=(a,0)∧F=fo2F a 0∧h=fo2H a 0:=by
  intro F h x hx
  unfold fo2Dec at hx
  split at hx
  · rename_i hd
    cases hx
    obtain ⟨h1,h2⟩:=cdS_ok hd
    exact ⟨_,rfl,h1,h2⟩
  · cases hx
theorem fo2Dec_ok:∀ F h x,fo2Dec F h=some x→F=fo2F x.1 x.2∧h=fo2H x.1 x.2:=by
  intro F h x hx
  obtain ⟨a,rfl,h1,h2⟩:=fo2Dec_0 F h x hx
  exact ⟨h1,h2⟩
theorem fs0Dec_0:∀ F h x,fs0Dec F h=some x→∃ a,x=(a,0)∧F=fs0F a 0 a.pe a.ne∧h=fs0H a 0 a.pe a.ne:=by
  intro F h x hx
  unfold fs0Dec at hx
  split at hx
  · rename_i hd
    cases hx
    obtain ⟨h1,h2⟩:=cdS_ok hd
    exact ⟨_,rfl,h1,h2⟩
  · cases hx
theorem fs2Dec_0:∀ F h x,fs2Dec F h=some x→∃ a,x=(a,0)∧F=fs2F a 0∧h=fs2H a 0:=by
  intro F h x hx
  unfold fs2Dec at hx
  split at hx
  · rename_i hd
    cases hx
    obtain ⟨h1,h2⟩:=cdS_ok hd
    exact ⟨_,rfl,h1,h2⟩
  · cases hx
theorem fs2Dec_ok:∀ F h x,fs2Dec F h=some x→F=fs2F x.1 x.2∧h=fs2H x.1 x.2:=by
  intro F h x hx
  obtain ⟨a,rfl,h1,h2⟩:=fs2Dec_0 F h x hx
  exact ⟨h1,h2⟩
theorem pnmG_ok:GamL Tryz.prog (pnmG Tryz.prog):=⟨pnm_soundF,trivial⟩
theorem flN_neg {ec:Int} (h:0≤ec):(ec != 0)=decide (0<ec):=by
  rw [Bool.eq_iff_iff,bne_iff_ne,decide_eq_true_eq]; omega
theorem fo0_loop:LamE Tryz.prog 114 0 (loopS Tryz.prog fo0L fo0Dec fo0T):=by
  refine fold_loop (gs:=pnmG Tryz.prog) (ls:=[]) mixed pnmG_ok trivial _ 0 100 (by kernel_rfl) fo0L (fun F h x hx=>by obtain ⟨a,rfl,h1,h2⟩:=fo0Dec_0 F h x hx; exact ⟨h1,h2⟩) ?_
  rintro ⟨x,tick,st,id,rq,d,ct,tm,nk,mg,pr,mu,pe,ne,o,w,mru,mc,mt,mf,wt,ec,lo,st0,id0,rq0,d0,ct0,tm0,nk0⟩ i K hok hi H1 H2
  dsimp only at hok hi H1 H2
  have hm:=x.len_le
  have hec:=odt hok
  have go:∀ x0 x1,i<x.len→flP x pe (i+1)=x0→flN x ec tick ne (i+1)=x1→K (.normal,fo0F ⟨x,tick,st,id,rq,d,ct,tm,nk,mg,pr,mu,pe,ne,o,w,mru,mc,mt,mf,wt,ec,lo,st0,id0,rq0,d0,ct0,tm0,nk0⟩ (i+1) x0 x1,fo0H ⟨x,tick,st,id,rq,d,ct,tm,nk,mg,pr,mu,pe,ne,o,w,mru,mc,mt,mf,wt,ec,lo,st0,id0,rq0,d0,ct0,tm0,nk0⟩ (i+1) x0 x1):=by
    intro x0 x1 hlt; rintro rfl rfl; exact H1 hlt
  show (roundT fo0L (evC _ _ _ _ _ _ (fo0F ⟨x,tick,st,id,rq,d,ct,tm,nk,mg,pr,mu,pe,ne,o,w,mru,mc,mt,mf,wt,ec,lo,st0,id0,rq0,d0,ct0,tm0,nk0⟩ i (flP x pe i) (flN x ec tick ne i)) (fo0H ⟨x,tick,st,id,rq,d,ct,tm,nk,mg,pr,mu,pe,ne,o,w,mru,mc,mt,mf,wt,ec,lo,st0,id0,rq0,d0,ct0,tm0,nk0⟩ i (flP x pe i) (flN x ec tick ne i)))).holds _
  unfold fo0L fo0F fo0H
  rw [fo0_body]
  simp only [Int.toNat_natCast]
  refine ⟨fun h1=>?_,fun h1=>?_⟩
  rotate_left
  · obtain rfl:i=x.len:=by have:=odf h1; omega
    exact H2 rfl
  have hlt:i<x.len:=by have:=odt h1; omega
  rw [wrap_succ hlt hm]
  clear H1 H2
  have hI:decide (0≤(i:Int)∧(i:Int)<(x.len:Int))=true:=det ⟨by omega,by omega⟩
  rw [hI,flN_neg hec]
  have eP:flP x pe (i+1)=bif acI x i==1||acI x i==2 then 0 else flP x pe i:=rfl
  have eN:flN x ec tick ne (i+1)=bif acI x i==1 then (bif decide (0<ec) then IntKind.wrap .i64 (tick+ec) else 0) else bif acI x i==2 then 0 else flN x ec tick ne i:=rfl
  have e1:D.toI (D.cell (D.get x i) 0)=acI x i:=rfl
  rw [e1]
  refine holds_t ?_
  cases h3:acI x i==1
  · refine ⟨fun h=>(by cases h),fun _=>holds_t ?_⟩
    cases h4:acI x i==2
    · refine ⟨fun h=>(by cases h),fun _=>holds_t ⟨fun h=>(by cases h),fun _=>go _ _ hlt (eP.trans ?_) (eN.trans ?_)⟩⟩
      · rw [h3,h4]; rfl
      · rw [h3,h4]; rfl
    · refine holds_t (holds_t ⟨fun h=>(by cases h),fun _=>go _ _ hlt (eP.trans ?_) (eN.trans ?_)⟩)
      · rw [h3,h4]; rfl
      · rw [h3,h4]; rfl
  · refine holds_t (holds_t (holds_t ⟨fun h5=>go _ _ hlt (eP.trans ?_) (eN.trans ?_),fun h5=>go _ _ hlt (eP.trans ?_) (eN.trans ?_)⟩))
    · rw [h3]; rfl
    · rw [h3,h5]; rfl
    · rw [h3]; rfl
    · rw [h3,h5]; rfl
theorem fo2_loop:LamE Tryz.prog 114 2 (loopS Tryz.prog fo2L fo2Dec fo2T):=by
  refine scan_loop (gs:=pnmG Tryz.prog) (ls:=[]) mixed pnmG_ok trivial _ 2 100 (by kernel_rfl) fo2L (by intro h; cases h) (by intro h; cases h) (fun F h x hx=>fo2Dec_ok F h x hx) ?_
  rintro ⟨st,id,rq,d,ct,tm,nk,mg,pr,mu,pe,ne,o,w,mru,mc,mt,mf,wt,ec,lo,st0,id0,rq0,d0,ct0,tm0,nk0⟩ i K hb hi H1 H2 H3
  dsimp only at hb hi H1 H2 H3
  have hm:=d0.len_le
  show (roundT fo2L (evC _ _ _ _ _ _ (fo2F ⟨st,id,rq,d,ct,tm,nk,mg,pr,mu,pe,ne,o,w,mru,mc,mt,mf,wt,ec,lo,st0,id0,rq0,d0,ct0,tm0,nk0⟩ i) (fo2H ⟨st,id,rq,d,ct,tm,nk,mg,pr,mu,pe,ne,o,w,mru,mc,mt,mf,wt,ec,lo,st0,id0,rq0,d0,ct0,tm0,nk0⟩ 0))).holds _
  unfold fo2L fo2F fo2H
  rw [fo2_body]
  simp only [Int.toNat_natCast]
  refine ⟨fun h1=>?_,fun h1=>?_⟩
  rotate_left
  · obtain rfl:i=d0.len:=by have:=odf h1; omega
    exact H3 rfl
  have hlt:i<d0.len:=by have:=odt h1; omega
  have hI:decide (0≤(i:Int)∧(i:Int)<(d0.len:Int))=true:=det ⟨by omega,by omega⟩
  have hby:bytesB (D.cell (D.get d0 i) 1)=true:=det (odt hb i hlt)
  rw [hI,hby,wrap_succ hlt hm]
  have G:∀ m,mgE d0 i mg=m→neT d0 5 i=false→K (.ret,fo2F ⟨st,id,rq,d,ct,tm,nk,mg,pr,mu,pe,ne,o,w,mru,mc,mt,mf,wt,ec,lo,st0,id0,rq0,d0,ct0,tm0,nk0⟩ i,⟨[(0,[ai st,ai id,ai rq,asl opS d,ai ct,ai tm,ai nk,ai m,ai pr,ai mu,ai pe,ai ne,.sl false ctS o (some (0,2000)),.sl false acS w (some (1,2001))]),(1,[ai mru,ai mc,ai mt,ai mf,ai wt,ai ec,ai lo]),(2,[ai st0,ai id0,ai rq0,asl opS d0,ai ct0,ai tm0,ai nk0]),(3,[ai st,ai id,ai rq,asl opS d,ai ct,ai tm,ai nk,ai m,ai pr,ai mu,ai pe,ai ne,.sl false ctS o (some (0,2000)),.sl false acS w (some (1,2001))])],4,[(0,2000, 32),(1,2001, 68)],2,2002,2000⟩):=by rintro m rfl hn; exact H2 hlt hn
  have e1:∀ b,(D.toI (D.cell (D.get d0 i) 0)==5)=b→neT d0 5 i=!b:=fun b h=>by rw [← h]; rfl
  refine holds_t ⟨fun h3=>holds_t (holds_t ⟨fun h4=>holds_t ⟨fun h5=>⟨fun h6=>G _ ?_ (e1 _ h3),fun h6=>G _ ?_ (e1 _ h3)⟩,fun h5=>G _ ?_ (e1 _ h3)⟩,fun h4=>G _ ?_ (e1 _ h3)⟩),fun h3=>H1 hlt (e1 _ h3)⟩
  all_goals unfold mgE
  · have h5:((optB d0 i).len==4)=true:=by have:=eq_of_beq h5; rw [beq_iff_eq]; unfold optB; omega
    rw [h5,show (nmI (optB d0 i) != 0)=true from h6]; rfl
  · rw [show (nmI (optB d0 i) != 0)=false from h6,Bool.and_false]; rfl
  · have h5:((optB d0 i).len==4)=false:=by
      rw [beq_eq_false_iff_ne]
      intro e
      have e:(D.cell (D.get d0 i) 1).len=4:=e
      rw [e] at h5; cases h5
    rw [h5]; rfl
  · have h5:((optB d0 i).len==4)=false:=by
      rw [beq_eq_false_iff_ne]
      intro e
      have h4:nmOk (optB d0 i)=false:=h4
      unfold nmOk at h4
      have:=odf h4
      omega
    rw [h5]; rfl
theorem fs0_loop:LamE Tryz.prog 114 0 (loopS Tryz.prog fs0L fs0Dec fs0T):=by
  refine fold_loop (gs:=pnmG Tryz.prog) (ls:=[]) mixed pnmG_ok trivial _ 0 100 (by kernel_rfl) fs0L (fun F h x hx=>by obtain ⟨a,rfl,h1,h2⟩:=fs0Dec_0 F h x hx; exact ⟨h1,h2⟩) ?_
  rintro ⟨x,tick,st,id,rq,d,ct,tm,nk,mg,pr,mu,pe,ne,o,w,mru,mc,mt,mf,wt,ec,lo,st0,id0,rq0,d0,ct0,tm0,nk0⟩ i K hok hi H1 H2
  dsimp only at hok hi H1 H2
  have hm:=x.len_le
  have hec:=odt hok
  have go:∀ x0 x1,i<x.len→flP x pe (i+1)=x0→flN x ec tick ne (i+1)=x1→K (.normal,fs0F ⟨x,tick,st,id,rq,d,ct,tm,nk,mg,pr,mu,pe,ne,o,w,mru,mc,mt,mf,wt,ec,lo,st0,id0,rq0,d0,ct0,tm0,nk0⟩ (i+1) x0 x1,fs0H ⟨x,tick,st,id,rq,d,ct,tm,nk,mg,pr,mu,pe,ne,o,w,mru,mc,mt,mf,wt,ec,lo,st0,id0,rq0,d0,ct0,tm0,nk0⟩ (i+1) x0 x1):=by
    intro x0 x1 hlt; rintro rfl rfl; exact H1 hlt
  show (roundT fs0L (evC _ _ _ _ _ _ (fs0F ⟨x,tick,st,id,rq,d,ct,tm,nk,mg,pr,mu,pe,ne,o,w,mru,mc,mt,mf,wt,ec,lo,st0,id0,rq0,d0,ct0,tm0,nk0⟩ i (flP x pe i) (flN x ec tick ne i)) (fs0H ⟨x,tick,st,id,rq,d,ct,tm,nk,mg,pr,mu,pe,ne,o,w,mru,mc,mt,mf,wt,ec,lo,st0,id0,rq0,d0,ct0,tm0,nk0⟩ i (flP x pe i) (flN x ec tick ne i)))).holds _
  unfold fs0L fs0F fs0H
  rw [fs0_body]
  simp only [Int.toNat_natCast]
  refine ⟨fun h1=>?_,fun h1=>?_⟩
  rotate_left
  · obtain rfl:i=x.len:=by have:=odf h1; omega
    exact H2 rfl
  have hlt:i<x.len:=by have:=odt h1; omega
  rw [wrap_succ hlt hm]
  clear H1 H2
  have hI:decide (0≤(i:Int)∧(i:Int)<(x.len:Int))=true:=det ⟨by omega,by omega⟩
  rw [hI,flN_neg hec]
  have eP:flP x pe (i+1)=bif acI x i==1||acI x i==2 then 0 else flP x pe i:=rfl
  have eN:flN x ec tick ne (i+1)=bif acI x i==1 then (bif decide (0<ec) then IntKind.wrap .i64 (tick+ec) else 0) else bif acI x i==2 then 0 else flN x ec tick ne i:=rfl
  have e1:D.toI (D.cell (D.get x i) 0)=acI x i:=rfl
  rw [e1]
  refine holds_t ?_
  cases h3:acI x i==1
  · refine ⟨fun h=>(by cases h),fun _=>holds_t ?_⟩
    cases h4:acI x i==2
    · refine ⟨fun h=>(by cases h),fun _=>holds_t ⟨fun h=>(by cases h),fun _=>go _ _ hlt (eP.trans ?_) (eN.trans ?_)⟩⟩
      · rw [h3,h4]; rfl
      · rw [h3,h4]; rfl
    · refine holds_t (holds_t ⟨fun h=>(by cases h),fun _=>go _ _ hlt (eP.trans ?_) (eN.trans ?_)⟩)
      · rw [h3,h4]; rfl
      · rw [h3,h4]; rfl
  · refine holds_t (holds_t (holds_t ⟨fun h5=>go _ _ hlt (eP.trans ?_) (eN.trans ?_),fun h5=>go _ _ hlt (eP.trans ?_) (eN.trans ?_)⟩))
    · rw [h3]; rfl
    · rw [h3,h5]; rfl
    · rw [h3]; rfl
    · rw [h3,h5]; rfl
theorem fs2_loop:LamE Tryz.prog 114 2 (loopS Tryz.prog fs2L fs2Dec fs2T):=by
  refine scan_loop (gs:=pnmG Tryz.prog) (ls:=[]) mixed pnmG_ok trivial _ 2 100 (by kernel_rfl) fs2L (by intro h; cases h) (by intro h; cases h) (fun F h x hx=>fs2Dec_ok F h x hx) ?_
  rintro ⟨st,id,rq,d,ct,tm,nk,mg,pr,mu,pe,ne,o,w,mru,mc,mt,mf,wt,ec,lo,st0,id0,rq0,d0,ct0,tm0,nk0⟩ i K hb hi H1 H2 H3
  dsimp only at hb hi H1 H2 H3
  have hm:=d0.len_le
  show (roundT fs2L (evC _ _ _ _ _ _ (fs2F ⟨st,id,rq,d,ct,tm,nk,mg,pr,mu,pe,ne,o,w,mru,mc,mt,mf,wt,ec,lo,st0,id0,rq0,d0,ct0,tm0,nk0⟩ i) (fs2H ⟨st,id,rq,d,ct,tm,nk,mg,pr,mu,pe,ne,o,w,mru,mc,mt,mf,wt,ec,lo,st0,id0,rq0,d0,ct0,tm0,nk0⟩ 0))).holds _
  unfold fs2L fs2F fs2H
  rw [fs2_body]
  simp only [Int.toNat_natCast]
  refine ⟨fun h1=>?_,fun h1=>?_⟩
  rotate_left
  · obtain rfl:i=d0.len:=by have:=odf h1; omega
    exact H3 rfl
  have hlt:i<d0.len:=by have:=odt h1; omega
  have hI:decide (0≤(i:Int)∧(i:Int)<(d0.len:Int))=true:=det ⟨by omega,by omega⟩
  have hby:bytesB (D.cell (D.get d0 i) 1)=true:=det (odt hb i hlt)
  rw [hI,hby,wrap_succ hlt hm]
  have G:∀ m,mgE d0 i mg=m→neT d0 5 i=false→K (.ret,fs2F ⟨st,id,rq,d,ct,tm,nk,mg,pr,mu,pe,ne,o,w,mru,mc,mt,mf,wt,ec,lo,st0,id0,rq0,d0,ct0,tm0,nk0⟩ i,⟨[(0,[ai st,ai id,ai rq,asl opS d,ai ct,ai tm,ai nk,ai m,ai pr,ai mu,ai pe,ai ne,.sl false ctS o (some (1,2001)),.sl false acS w (some (0,2000))]),(1,[ai mru,ai mc,ai mt,ai mf,ai wt,ai ec,ai lo]),(2,[ai st0,ai id0,ai rq0,asl opS d0,ai ct0,ai tm0,ai nk0]),(3,[ai st,ai id,ai rq,asl opS d,ai ct,ai tm,ai nk,ai m,ai pr,ai mu,ai pe,ai ne,.sl false ctS o (some (1,2001)),.sl false acS w (some (0,2000))])],4,[(0,2000, 68),(1,2001, 32)],2,2002,2000⟩):=by rintro m rfl hn; exact H2 hlt hn
  have e1:∀ b,(D.toI (D.cell (D.get d0 i) 0)==5)=b→neT d0 5 i=!b:=fun b h=>by rw [← h]; rfl
  refine holds_t ⟨fun h3=>holds_t (holds_t ⟨fun h4=>holds_t ⟨fun h5=>⟨fun h6=>G _ ?_ (e1 _ h3),fun h6=>G _ ?_ (e1 _ h3)⟩,fun h5=>G _ ?_ (e1 _ h3)⟩,fun h4=>G _ ?_ (e1 _ h3)⟩),fun h3=>H1 hlt (e1 _ h3)⟩
  all_goals unfold mgE
  · have h5:((optB d0 i).len==4)=true:=by have:=eq_of_beq h5; rw [beq_iff_eq]; unfold optB; omega
    rw [h5,show (nmI (optB d0 i) != 0)=true from h6]; rfl
  · rw [show (nmI (optB d0 i) != 0)=false from h6,Bool.and_false]; rfl
  · have h5:((optB d0 i).len==4)=false:=by
      rw [beq_eq_false_iff_ne]
      intro e
      have e:(D.cell (D.get d0 i) 1).len=4:=e
      rw [e] at h5; cases h5
    rw [h5]; rfl
  · have h5:((optB d0 i).len==4)=false:=by
      rw [beq_eq_false_iff_ne]
      intro e
      have h4:nmOk (optB d0 i)=false:=h4
      unfold nmOk at h4
      have:=odf h4
      omega
    rw [h5]; rfl
theorem flsLs_ok:LamL Tryz.prog (flsLs Tryz.prog):=⟨altB_ok fo0_loop fs0_loop,altB_ok fo2_loop fs2_loop,trivial⟩
theorem fls_tree (st id rq:Int) (d:D) (ct tm nk mg pr mu pe ne:Int) (o w:D) (mru mc mt mf wt ec lo:Int) (st2 id2 rq2:Int) (d2:D) (ct2 tm2 nk2:Int) (out did:D) (tick:Int):treeF (evF Tryz.prog (gam (pnmG Tryz.prog)) (lam (flsLs Tryz.prog)) 100 114) [.agg [ai st,ai id,ai rq,asl opS d,ai ct,ai tm,ai nk,ai mg,ai pr,ai mu,ai pe,ai ne,asl ctS o,asl acS w],.agg [ai mru,ai mc,ai mt,ai mf,ai wt,ai ec,ai lo],autA st2 id2 rq2 d2 ct2 tm2 nk2,asl ctS out,asl acS did,ai tick] =
RT.all (RT.all (RT.all (RT.br (decide ((D.len (D.app (D.l []) o)+D.len out)*40≤140737488355328)) (RT.br (decide ((D.len (D.app (D.l []) w)+D.len did)*8≤140737488355328)) (RT.br (decide (0≤ec)&&true) (RT.br (optsB d2&&true) (RT.br (okFrom (neT d2 5) (D.len d2 - 0) 0) (RT.ok (AV.agg [zi st2,zi id2,zi rq2,zs zO d2,zi ct2,zi tm2,zi nk2,zi mg,zi pr,zi mu,zi (flP did pe (D.len did)),zi (flN did ec tick ne (D.len did)),zs zC (D.app (D.app (D.l []) o) out),zs zN (D.app (D.app (D.l []) w) did)])) (RT.ok (AV.agg [zi st2,zi id2,zi rq2,zs zO d2,zi ct2,zi tm2,zi nk2,zi (mgE d2 (badFrom (neT d2 5) (D.len d2 - 0) 0) mg),zi pr,zi mu,zi (flP did pe (D.len did)),zi (flN did ec tick ne (D.len did)),zs zC (D.app (D.app (D.l []) o) out),zs zN (D.app (D.app (D.l []) w) did)]))) (RT.bad 210)) (RT.bad 210)) (RT.bad 70)) (RT.bad 70)) (RT.br (decide ((D.len (D.app (D.l []) o)+D.len out)*40≤140737488355328)) (RT.br (decide ((D.len (D.app (D.l []) w)+D.len did)*8≤140737488355328)) (RT.br (decide (0≤ec)&&true) (RT.br (optsB d2&&true) (RT.br (okFrom (neT d2 5) (D.len d2 - 0) 0) (RT.ok (AV.agg [zi st2,zi id2,zi rq2,zs zO d2,zi ct2,zi tm2,zi nk2,zi mg,zi pr,zi mu,zi (flP did pe (D.len did)),zi (flN did ec tick ne (D.len did)),zs zC (D.app (D.app (D.l []) o) out),zs zN (D.app (D.app (D.l []) w) did)])) (RT.ok (AV.agg [zi st2,zi id2,zi rq2,zs zO d2,zi ct2,zi tm2,zi nk2,zi (mgE d2 (badFrom (neT d2 5) (D.len d2 - 0) 0) mg),zi pr,zi mu,zi (flP did pe (D.len did)),zi (flN did ec tick ne (D.len did)),zs zC (D.app (D.app (D.l []) o) out),zs zN (D.app (D.app (D.l []) w) did)]))) (RT.bad 210)) (RT.bad 210)) (RT.bad 70)) (RT.bad 70))) (RT.br (decide ((D.len (D.app (D.l []) o)+D.len out)*40≤140737488355328)) (RT.br (decide ((D.len (D.app (D.l []) w)+D.len did)*8≤140737488355328)) (RT.br (decide (0≤ec)&&true) (RT.br (optsB d2&&true) (RT.br (okFrom (neT d2 5) (D.len d2 - 0) 0) (RT.ok (AV.agg [zi st2,zi id2,zi rq2,zs zO d2,zi ct2,zi tm2,zi nk2,zi mg,zi pr,zi mu,zi (flP did pe (D.len did)),zi (flN did ec tick ne (D.len did)),zs zC (D.app (D.app (D.l []) o) out),zs zN (D.app (D.app (D.l []) w) did)])) (RT.ok (AV.agg [zi st2,zi id2,zi rq2,zs zO d2,zi ct2,zi tm2,zi nk2,zi (mgE d2 (badFrom (neT d2 5) (D.len d2 - 0) 0) mg),zi pr,zi mu,zi (flP did pe (D.len did)),zi (flN did ec tick ne (D.len did)),zs zC (D.app (D.app (D.l []) o) out),zs zN (D.app (D.app (D.l []) w) did)]))) (RT.bad 210)) (RT.bad 210)) (RT.bad 70)) (RT.bad 70))) (RT.br (decide ((D.len (D.app (D.l []) o)+D.len out)*40≤140737488355328)) (RT.br (decide ((D.len (D.app (D.l []) w)+D.len did)*8≤140737488355328)) (RT.br (decide (0≤ec)&&true) (RT.br (optsB d2&&true) (RT.br (okFrom (neT d2 5) (D.len d2 - 0) 0) (RT.ok (AV.agg [zi st2,zi id2,zi rq2,zs zO d2,zi ct2,zi tm2,zi nk2,zi mg,zi pr,zi mu,zi (flP did pe (D.len did)),zi (flN did ec tick ne (D.len did)),zs zC (D.app (D.app (D.l []) o) out),zs zN (D.app (D.app (D.l []) w) did)])) (RT.ok (AV.agg [zi st2,zi id2,zi rq2,zs zO d2,zi ct2,zi tm2,zi nk2,zi (mgE d2 (badFrom (neT d2 5) (D.len d2 - 0) 0) mg),zi pr,zi mu,zi (flP did pe (D.len did)),zi (flN did ec tick ne (D.len did)),zs zC (D.app (D.app (D.l []) o) out),zs zN (D.app (D.app (D.l []) w) did)]))) (RT.bad 210)) (RT.bad 210)) (RT.bad 70)) (RT.bad 70)):=by rw [← fvF_eq Tryz.prog (gam (pnmG Tryz.prog)) (lam (flsLs Tryz.prog)) false 100 114]; kernel_rfl
theorem FFls_inv {args:List AV} {K:AV→Prop} (H:(FFls args).holds K):∃ (st id rq ct tm nk mg pr mu pe ne mru mc mt mf wt ec lo st2 id2 rq2 ct2 tm2 nk2 tick:Int) (d o w d2 out did:D),args=[.agg [ai st,ai id,ai rq,asl opS d,ai ct,ai tm,ai nk,ai mg,ai pr,ai mu,ai pe,ai ne,asl ctS o,asl acS w],.agg [ai mru,ai mc,ai mt,ai mf,ai wt,ai ec,ai lo],autA st2 id2 rq2 d2 ct2 tm2 nk2,asl ctS out,asl acS did,ai tick]∧flsN ec d2 o out w did=true∧K (flsA pr mu pe ne mg o w ec st2 id2 rq2 d2 ct2 tm2 nk2 out did tick):=by
  unfold FFls at H
  split at H
  · rename_i v0 v1 v2 v3 v4 v5 v6 v7 v8 v9 v10 v11 v12 v13 v14 v15 v16 v17 v18 v19 v20 v21 v22 v23 v24 v25 v26 v27 v28 v29 v30 hd
    obtain ⟨hc,H⟩:=need_holds H
    have:=cdAL_ok _ _ _ hd []
    exact ⟨v0.toI,v1.toI,v2.toI,v4.toI,v5.toI,v6.toI,v7.toI,v8.toI,v9.toI,v10.toI,v11.toI,v14.toI,v15.toI,v16.toI,v17.toI,v18.toI,v19.toI,v20.toI,v21.toI,v22.toI,v23.toI,v25.toI,v26.toI,v27.toI,v30.toI,v3,v12,v13,v24,v28,v29,(congrArg Prod.fst this).symm,hc,H⟩
  · exact H.elim
theorem mgV_none {d:D} {mg:Int} (h:okFrom (neT d 5) d.len 0=true):mgV d mg=mg:=by
  unfold mgV hasT; rw [h]; rfl
theorem mgV_some {d:D} {mg:Int} (h:okFrom (neT d 5) d.len 0=false):mgV d mg=mgE d (badFrom (neT d 5) d.len 0) mg:=by
  have e:hasT d 5=true:=by unfold hasT; rw [h]; rfl
  unfold mgV mgE fnD
  rw [e]; rfl
theorem fls_soundF:SoundF Tryz.prog 114 (pureS Tryz.prog 114 FFls):=by
  refine pure_in (gs:=pnmG Tryz.prog) (ls:=flsLs Tryz.prog) mixed pnmG_ok flsLs_ok 114 100 fun args K ho H=>?_
  obtain ⟨st,id,rq,ct,tm,nk,mg,pr,mu,pe,ne,mru,mc,mt,mf,wt,ec,lo,st2,id2,rq2,ct2,tm2,nk2,tick,d,o,w,d2,out,did,hr,hc,H⟩:=FFls_inv H
  rw [hr,fls_tree]
  unfold flsN at hc
  rw [Bool.and_eq_true] at hc
  obtain ⟨hc,hb⟩:=hc
  obtain ⟨hec,h1,h2⟩:=odt hc
  rw [hb,det h1,det h2,det hec]
  have go:∀ m,mgV d2 mg=m→∃ y,Le (.agg [ai st2,ai id2,ai rq2,asl opS d2,ai ct2,ai tm2,ai nk2,ai m,ai pr,ai mu,ai (flP did pe did.len),ai (flN did ec tick ne did.len),asl ctS (cat2 o out),asl acS (cat2 w did)]) y∧K y:=by rintro m rfl; exact ⟨_,Le.refl _,H⟩
  have one:(RT.br (okFrom (neT d2 5) (d2.len - 0) 0) (RT.ok (.agg [ai st2,ai id2,ai rq2,asl opS d2,ai ct2,ai tm2,ai nk2,ai mg,ai pr,ai mu,ai (flP did pe did.len),ai (flN did ec tick ne did.len),asl ctS (cat2 o out),asl acS (cat2 w did)])) (RT.ok (.agg [ai st2,ai id2,ai rq2,asl opS d2,ai ct2,ai tm2,ai nk2,ai (mgE d2 (badFrom (neT d2 5) (d2.len - 0) 0) mg),ai pr,ai mu,ai (flP did pe did.len),ai (flN did ec tick ne did.len),asl ctS (cat2 o out),asl acS (cat2 w did)]))).holds fun r=>∃ y,Le r y∧K y:=⟨fun h=>go _ (mgV_none h),fun h=>go _ (mgV_some h)⟩
  exact ⟨⟨⟨holds_t (holds_t (holds_t (holds_t one))),holds_t (holds_t (holds_t (holds_t one)))⟩,holds_t (holds_t (holds_t (holds_t one)))⟩,holds_t (holds_t (holds_t (holds_t one)))⟩
def brB (l:D) (t:Int):Bool:=hasT l t&&nmOk (fnD l t)
def brV (l:D) (t none:Int):Int:=bif brB l t then nmI (fnD l t) else none
structure rbrX where
  l:D
  t:Int
def rbrL:Lw:=⟨[0,1,4,5,6],[],0,0,1000,1000⟩
def rbrF (a:rbrX) (i:Nat):Tm:=⟨27,[(0,.sl false opS a.l none),(1,zi a.t),(4,zi 0),(5,.sc false (.bool false)),(6,zi (i:Int))],[]⟩
def rbrH (a:rbrX) (i:Nat):Hp:=⟨[],0,[],0,1000,1000⟩
def rbrC:Cs:=⟨27,[(0,.sl opS),(1,.int .i64),(4,.lit (.sc false (.int .i64 0))),(5,.lit (.sc false (.bool false))),(6,.lit (.sc false (.int .i64 0)))],[],0,[],0,1000,1000⟩
noncomputable def rbrDec (F:Tm) (h:Hp):Option (rbrX×Nat):=match cdS rbrC F h with
  | some [v0,v1]=>some (⟨v0,v1.toI⟩,0)
  | _=>none
theorem rbr_body (l:D) (t:Int) (i:Int):roundT (⟨[0,1,4,5,6],[],0,0,1000,1000⟩) (evC Tryz.prog (gam (pnmG Tryz.prog)) (lam ([])) 100 138 (loopAt 0 (bodyOf Tryz.prog 138)) (⟨27,[(0,.sl false opS l none),(1,zi t),(4,zi 0),(5,.sc false (.bool false)),(6,zi i)],[]⟩) (⟨[],0,[],0,1000,1000⟩)) =
RT.br (decide (i<(↑(D.len l):Int))) (RT.br (decide (0≤i∧i<(↑(D.len l):Int))) (RT.br (D.toI (D.cell (D.get l (Int.toNat i)) 0)==t) (RT.br (decide (0≤i∧i<(↑(D.len l):Int))) (RT.br (bytesB (D.cell (D.get l (Int.toNat i)) 1)) (RT.ok (Ex.ret,(Tm.mk 27 [(0,zs zO l),(1,zi t),(4,zi (nmI (D.cell (D.get l (Int.toNat i)) 1))),(5,zb (nmOk (D.cell (D.get l (Int.toNat i)) 1))),(6,zi i)] []),(Hp.mk [] 0 [] 0 1000 1000))) (RT.bad 297)) (RT.bad 42)) (RT.ok (Ex.normal,(Tm.mk 27 [(0,zs zO l),(1,zi t),(4,zi 0),(5,zb false),(6,zi (IntKind.wrap IntKind.i64 (i+1)))] []),(Hp.mk [] 0 [] 0 1000 1000)))) (RT.bad 42)) (RT.ok (Ex.exit 0,(Tm.mk 27 [(0,zs zO l),(1,zi t),(4,zi 0),(5,zb false),(6,zi i)] []),(Hp.mk [] 0 [] 0 1000 1000))):=by rw [← fvC_eq Tryz.prog (gam (pnmG Tryz.prog)) (lam ([])) false 100]; kernel_rfl
def rbrR (a:rbrX) (i:Nat):Tm:=⟨27,[(0,asl opS a.l),(1,ai a.t),(4,ai (nmI (optB a.l i))),(5,ab (nmOk (optB a.l i))),(6,ai i)],[]⟩
def rbrT:rbrX×Nat→RT Out:=searchT (fun a=>a.l.len) (fun a=>neT a.l a.t) (fun a=>optsB a.l) rbrF rbrR (fun a=>rbrH a 0) .ret
def rbrLs (P:Program):List (FuncId×Nat×BSpec):=[(138,0,loopS P rbrL rbrDec rbrT)]
def FRbr:List AV→RT AV
  | [.sl false [.int .i64,.sl [.int .u8]] l none,.sc false (.int .i64 t)]=>need false (optsB l) 301 (.ok (.tup [ai (brV l t 0),ab (brB l t)]))
  | _=>.bad 301
def FBrs:List AV→RT AV
  | [.sl false [.int .i64,.sl [.int .u8]] l none,.sc false (.int .i64 t),.sc false (.int .i64 n)]=>need false (optsB l) 302 (.ok (ai (brV l t n)))
  | _=>.bad 302
def neC (x:D) (i:Nat):Bool:=((x.get i).cell 0).toI != 2
def hasK (x:D):Bool:=!okFrom (neC x) x.len 0
structure ixkX where
  x:D
  n:Int
def ixkL:Lw:=⟨[0,1,4,7,8],[],0,0,1000,1000⟩
def ixkF (a:ixkX) (i:Nat):Tm:=⟨19,[(0,.sl false ctS a.x none),(1,.fn (.func 103) [] []),(4,zi 0),(7,zi a.n),(8,zi (i:Int))],[]⟩
def ixkH (a:ixkX) (i:Nat):Hp:=⟨[],0,[],0,1000,1000⟩
def ixkC:Cs:=⟨19,[(0,.sl ctS),(1,.lit (.fn (.func 103) [] [])),(4,.lit (.sc false (.int .i64 0))),(7,.int .i64),(8,.lit (.sc false (.int .i64 0)))],[],0,[],0,1000,1000⟩
noncomputable def ixkDec (F:Tm) (h:Hp):Option (ixkX×Nat):=match cdS ixkC F h with
  | some [v0,v1]=>some (⟨v0,v1.toI⟩,0)
  | _=>none
theorem ixk_body (x:D) (n:Int) (i:Int):roundT (⟨[0,1,4,7,8],[],0,0,1000,1000⟩) (evC Tryz.prog (gam (nonG Tryz.prog)) (lam ([])) 100 131 (loopAt 0 (bodyOf Tryz.prog 131)) (⟨19,[(0,.sl false ctS x none),(1,.fn (.func 103) [] []),(4,zi 0),(7,zi n),(8,zi i)],[]⟩) (⟨[],0,[],0,1000,1000⟩)) =
RT.br (decide (i<n)) (RT.br (decide (0≤i∧i<(↑(D.len x):Int))) (RT.br (D.toI (D.cell (D.get x (Int.toNat i)) 0)==2) (RT.ok (Ex.ret,(Tm.mk 19 [(0,zs zC x),(1,AV.fn (Fn.func 103) [] []),(4,zi i),(7,zi n),(8,zi i)] []),(Hp.mk [] 0 [] 0 1000 1000))) (RT.ok (Ex.normal,(Tm.mk 19 [(0,zs zC x),(1,AV.fn (Fn.func 103) [] []),(4,zi 0),(7,zi n),(8,zi (IntKind.wrap IntKind.i64 (i+1)))] []),(Hp.mk [] 0 [] 0 1000 1000)))) (RT.bad 42)) (RT.ok (Ex.exit 0,(Tm.mk 19 [(0,zs zC x),(1,AV.fn (Fn.func 103) [] []),(4,zi 0),(7,zi n),(8,zi i)] []),(Hp.mk [] 0 [] 0 1000 1000))):=by rw [← fvC_eq Tryz.prog (gam (nonG Tryz.prog)) (lam ([])) false 100]; kernel_rfl
def ixkR (a:ixkX) (i:Nat):Tm:=⟨19,[(0,asl ctS a.x),(1,.fn (.func 103) [] []),(4,ai i),(7,ai a.n),(8,ai i)],[]⟩
def ixkT:ixkX×Nat→RT Out:=searchT (fun a=>a.x.len) (fun a=>neC a.x) (fun a=>decide (a.n=(a.x.len:Int))) ixkF ixkR (fun a=>ixkH a 0) .ret
def ixkLs (P:Program):List (FuncId×Nat×BSpec):=[(131,0,loopS P ixkL ixkDec ixkT)]
def FCnk:List AV→RT AV
  | [.sl false [.int .i64,.int .i64,.sl [.int .u8]] x none,.fn (.func 103) [] []]=>.ok (ab (hasK x))
  | _=>.bad 303
def akV (x:D) (v0 v1:Int):Nat→Int
  | 0=>v0
  | i+1=>bif neC x i then akV x v0 v1 i else v1
def cfgG (P:Program):List (FuncId×Spec):=[(137,pureS P 137 FDec),(138,pureS P 138 FRbr)]
structure cfgX where
  x:D
  (st id rq:Int)
  d:D
  (ct tm nk mg pr mu pe ne:Int)
  (o w:D)
  (mru mc mt mf wt ec lo ic ii:Int)
  ix:D
  (st0 id0 rq0:Int)
  d0:D
  (ct0 tm0 nk0:Int)
def cfgL:Lw:=⟨[4,6,8,10,13],[],5,0,1000,1000⟩
def cfgF (a:cfgX) (i:Nat) (g7:Int) (g8:Int):Tm:=⟨82,[(4,.ptr 0 0),(6,.ptr 2 0),(8,.ptr 3 0),(10,.sl false ctS a.x none),(13,zi (i:Int))],[]⟩
def cfgH (a:cfgX) (i:Nat) (g7:Int) (g8:Int):Hp:=⟨[(0,[zi a.st,zi a.id,zi a.rq,.sl false opS a.d none,zi a.ct,zi a.tm,zi a.nk,zi a.mg,zi g7,zi g8,zi a.pe,zi a.ne,.sl false ctS a.o none,.sl false acS a.w none]),(1,[zi a.mru,zi a.mc,zi a.mt,zi a.mf,zi a.wt,zi a.ec,zi a.lo]),(2,[zi a.ic,zi a.ii,.sl false byS a.ix none]),(3,[zi 0,zi 0,zi 0,.sc false (.slice none 0 0),zi 0,zi 0,zi 0,zi 0,zi 0,zi 0,zi 0,zi 0,.sc false (.slice none 0 0),.sc false (.slice none 0 0)]),(4,[zi a.st0,zi a.id0,zi a.rq0,.sl false opS a.d0 none,zi a.ct0,zi a.tm0,zi a.nk0])],5,[],0,1000,1000⟩
def cfgC:Cs:=⟨82,[(4,.lit (.ptr 0 0)),(6,.lit (.ptr 2 0)),(8,.lit (.ptr 3 0)),(10,.sl ctS),(13,.lit (.sc false (.int .i64 0)))],[(0,[.int .i64,.int .i64,.int .i64,.sl opS,.int .i64,.int .i64,.int .i64,.int .i64,.int .i64,.int .i64,.int .i64,.int .i64,.sl ctS,.sl acS]),(1,[.int .i64,.int .i64,.int .i64,.int .i64,.int .i64,.int .i64,.int .i64]),(2,[.int .i64,.int .i64,.sl byS]),(3,[.lit (.sc false (.int .i64 0)),.lit (.sc false (.int .i64 0)),.lit (.sc false (.int .i64 0)),.lit (.sc false (.slice none 0 0)),.lit (.sc false (.int .i64 0)),.lit (.sc false (.int .i64 0)),.lit (.sc false (.int .i64 0)),.lit (.sc false (.int .i64 0)),.lit (.sc false (.int .i64 0)),.lit (.sc false (.int .i64 0)),.lit (.sc false (.int .i64 0)),.lit (.sc false (.int .i64 0)),.lit (.sc false (.slice none 0 0)),.lit (.sc false (.slice none 0 0))]),(4,[.int .i64,.int .i64,.int .i64,.sl opS,.int .i64,.int .i64,.int .i64])],5,[],0,1000,1000⟩
noncomputable def cfgDec (F:Tm) (h:Hp):Option (cfgX×Nat):=match cdS cfgC F h with
  | some [v0,v1,v2,v3,v4,v5,v6,v7,v8,v9,v10,v11,v12,v13,v14,v15,v16,v17,v18,v19,v20,v21,v22,v23,v24,v25,v26,v27,v28,v29,v30,v31]=>some (⟨v0,v1.toI,v2.toI,v3.toI,v4,v5.toI,v6.toI,v7.toI,v8.toI,v9.toI,v10.toI,v11.toI,v12.toI,v13,v14,v15.toI,v16.toI,v17.toI,v18.toI,v19.toI,v20.toI,v21.toI,v22.toI,v23.toI,v24,v25.toI,v26.toI,v27.toI,v28,v29.toI,v30.toI,v31.toI⟩,0)
  | _=>none
theorem cfg_body (x:D) (st:Int) (id:Int) (rq:Int) (d:D) (ct:Int) (tm:Int) (nk:Int) (mg:Int) (pe:Int) (ne:Int) (o:D) (w:D) (mru:Int) (mc:Int) (mt:Int) (mf:Int) (wt:Int) (ec:Int) (lo:Int) (ic:Int) (ii:Int) (ix:D) (st0:Int) (id0:Int) (rq0:Int) (d0:D) (ct0:Int) (tm0:Int) (nk0:Int) (i:Int) (g7:Int) (g8:Int):roundT (⟨[4,6,8,10,13],[],5,0,1000,1000⟩) (evC Tryz.prog (gam (cfgG Tryz.prog)) (lam ([])) 100 111 (loopAt 0 (bodyOf Tryz.prog 111)) (⟨82,[(4,.ptr 0 0),(6,.ptr 2 0),(8,.ptr 3 0),(10,.sl false ctS x none),(13,zi i)],[]⟩) (⟨[(0,[zi st,zi id,zi rq,.sl false opS d none,zi ct,zi tm,zi nk,zi mg,zi g7,zi g8,zi pe,zi ne,.sl false ctS o none,.sl false acS w none]),(1,[zi mru,zi mc,zi mt,zi mf,zi wt,zi ec,zi lo]),(2,[zi ic,zi ii,.sl false byS ix none]),(3,[zi 0,zi 0,zi 0,.sc false (.slice none 0 0),zi 0,zi 0,zi 0,zi 0,zi 0,zi 0,zi 0,zi 0,.sc false (.slice none 0 0),.sc false (.slice none 0 0)]),(4,[zi st0,zi id0,zi rq0,.sl false opS d0 none,zi ct0,zi tm0,zi nk0])],5,[],0,1000,1000⟩)) =
RT.br (decide (i<(↑(D.len x):Int))) (RT.br (decide (0≤i∧i<(↑(D.len x):Int))) (RT.br (D.toI (D.cell (D.get x (Int.toNat i)) 0) != 2) (RT.ok (Ex.normal,(Tm.mk 82 [(4,AV.ptr 0 0),(6,AV.ptr 2 0),(8,AV.ptr 3 0),(10,zs zC x),(13,zi (IntKind.wrap IntKind.i64 (i+1)))] []),(Hp.mk [(0,[zi st,zi id,zi rq,zs zO d,zi ct,zi tm,zi nk,zi mg,zi g7,zi g8,zi pe,zi ne,zs zC o,zs zN w]),(1,[zi mru,zi mc,zi mt,zi mf,zi wt,zi ec,zi lo]),(2,[zi ic,zi ii,zs zU ix]),(3,[zi 0,zi 0,zi 0,zy,zi 0,zi 0,zi 0,zi 0,zi 0,zi 0,zi 0,zi 0,zy,zy]),(4,[zi st0,zi id0,zi rq0,zs zO d0,zi ct0,zi tm0,zi nk0])] 5 [] 0 1000 1000))) (RT.br (bytesB ix) (RT.br (optsB (decO ix)) (RT.br (optsB (decO ix)) (RT.br (!brB (decO ix) 1) (RT.ok (Ex.normal,(Tm.mk 82 [(4,AV.ptr 0 0),(6,AV.ptr 2 0),(8,AV.ptr 3 0),(10,zs zC x),(13,zi (IntKind.wrap IntKind.i64 (i+1)))] []),(Hp.mk [(0,[zi st,zi id,zi rq,zs zO d,zi ct,zi tm,zi nk,zi mg,zi (brV (decO ix) 5 0),zi 1492,zi pe,zi ne,zs zC o,zs zN w]),(1,[zi mru,zi mc,zi mt,zi mf,zi wt,zi ec,zi lo]),(2,[zi ic,zi ii,zs zU ix]),(3,[zi 0,zi 0,zi 0,zy,zi 0,zi 0,zi 0,zi 0,zi 0,zi 0,zi 0,zi 0,zy,zy]),(4,[zi st0,zi id0,zi rq0,zs zO d0,zi ct0,zi tm0,zi nk0])] 5 [] 0 1000 1000))) (RT.ok (Ex.normal,(Tm.mk 82 [(4,AV.ptr 0 0),(6,AV.ptr 2 0),(8,AV.ptr 3 0),(10,zs zC x),(13,zi (IntKind.wrap IntKind.i64 (i+1)))] []),(Hp.mk [(0,[zi st,zi id,zi rq,zs zO d,zi ct,zi tm,zi nk,zi mg,zi (brV (decO ix) 5 0),zi (brV (decO ix) 1 0),zi pe,zi ne,zs zC o,zs zN w]),(1,[zi mru,zi mc,zi mt,zi mf,zi wt,zi ec,zi lo]),(2,[zi ic,zi ii,zs zU ix]),(3,[zi 0,zi 0,zi 0,zy,zi 0,zi 0,zi 0,zi 0,zi 0,zi 0,zi 0,zi 0,zy,zy]),(4,[zi st0,zi id0,zi rq0,zs zO d0,zi ct0,zi tm0,zi nk0])] 5 [] 0 1000 1000)))) (RT.bad 301)) (RT.bad 301)) (RT.bad 251))) (RT.bad 42)) (RT.ok (Ex.exit 0,(Tm.mk 82 [(4,AV.ptr 0 0),(6,AV.ptr 2 0),(8,AV.ptr 3 0),(10,zs zC x),(13,zi i)] []),(Hp.mk [(0,[zi st,zi id,zi rq,zs zO d,zi ct,zi tm,zi nk,zi mg,zi g7,zi g8,zi pe,zi ne,zs zC o,zs zN w]),(1,[zi mru,zi mc,zi mt,zi mf,zi wt,zi ec,zi lo]),(2,[zi ic,zi ii,zs zU ix]),(3,[zi 0,zi 0,zi 0,zy,zi 0,zi 0,zi 0,zi 0,zi 0,zi 0,zi 0,zi 0,zy,zy]),(4,[zi st0,zi id0,zi rq0,zs zO d0,zi ct0,zi tm0,zi nk0])] 5 [] 0 1000 1000))):=by rw [← fvC_eq Tryz.prog (gam (cfgG Tryz.prog)) (lam ([])) false 100]; kernel_rfl
def cfgT:cfgX×Nat→RT Out:=foldT (fun a=>a.x.len) (fun a=>bytesB a.ix) (fun a i=>cfgF a i (akV a.x a.pr (brV (decO a.ix) 5 0) i) (akV a.x a.mu (brV (decO a.ix) 1 1492) i)) (fun a i=>cfgH a i (akV a.x a.pr (brV (decO a.ix) 5 0) i) (akV a.x a.mu (brV (decO a.ix) 1 1492) i))
def cfgLs (P:Program):List (FuncId×Nat×BSpec):=[(111,0,loopS P cfgL cfgDec cfgT)]
theorem rbrDec_0:∀ F h x,rbrDec F h=some x→∃ a,x=(a,0)∧F=rbrF a 0∧h=rbrH a 0:=by
  intro F h x hx
  unfold rbrDec at hx
  split at hx
  · rename_i hd
    cases hx
    obtain ⟨h1,h2⟩:=cdS_ok hd
    exact ⟨_,rfl,h1,h2⟩
  · cases hx
theorem rbrDec_ok:∀ F h x,rbrDec F h=some x→F=rbrF x.1 x.2∧h=rbrH x.1 x.2:=by
  intro F h x hx
  obtain ⟨a,rfl,h1,h2⟩:=rbrDec_0 F h x hx
  exact ⟨h1,h2⟩
theorem ixkDec_0:∀ F h x,ixkDec F h=some x→∃ a,x=(a,0)∧F=ixkF a 0∧h=ixkH a 0:=by
  intro F h x hx
  unfold ixkDec at hx
  split at hx
  · rename_i hd
    cases hx
    obtain ⟨h1,h2⟩:=cdS_ok hd
    exact ⟨_,rfl,h1,h2⟩
  · cases hx
theorem ixkDec_ok:∀ F h x,ixkDec F h=some x→F=ixkF x.1 x.2∧h=ixkH x.1 x.2:=by
  intro F h x hx
  obtain ⟨a,rfl,h1,h2⟩:=ixkDec_0 F h x hx
  exact ⟨h1,h2⟩
theorem cfgDec_0:∀ F h x,cfgDec F h=some x→∃ a,x=(a,0)∧F=cfgF a 0 a.pr a.mu∧h=cfgH a 0 a.pr a.mu:=by
  intro F h x hx
  unfold cfgDec at hx
  split at hx
  · rename_i hd
    cases hx
    obtain ⟨h1,h2⟩:=cdS_ok hd
    exact ⟨_,rfl,h1,h2⟩
  · cases hx
theorem rbr_tree (l:D) (t:Int):treeF (evF Tryz.prog (gam (pnmG Tryz.prog)) (lam (rbrLs Tryz.prog)) 100 138) [asl opS l,ai t] =
RT.br (optsB l&&true) (RT.br (okFrom (neT l (D.toI (D.i t))) (D.len l - 0) 0) (RT.ok (AV.tup [zk 0,AV.sc true (Value.bool false)])) (RT.ok (AV.tup [zi (nmI (D.cell (D.get l (badFrom (neT l (D.toI (D.i t))) (D.len l - 0) 0)) 1)),zb (nmOk (D.cell (D.get l (badFrom (neT l (D.toI (D.i t))) (D.len l - 0) 0)) 1))]))) (RT.bad 210):=by rw [← fvF_eq Tryz.prog (gam (pnmG Tryz.prog)) (lam (rbrLs Tryz.prog)) false 100 138]; kernel_rfl
theorem brs_tree (l:D) (t n:Int):treeF (evF Tryz.prog (gam (fndG Tryz.prog)) (lam ([])) 100 105) [asl opS l,ai t,ai n] =
RT.br (!hasT l t) (RT.ok (zi n)) (RT.br (bytesB (fnD l t)) (RT.br (!nmOk (fnD l t)) (RT.ok (zi n)) (RT.ok (zi (nmI (fnD l t))))) (RT.bad 297)):=by rw [← fvF_eq Tryz.prog (gam (fndG Tryz.prog)) (lam ([])) false 100 105]; kernel_rfl
theorem cnk_tree (x:D):treeF (evF Tryz.prog (gam (nonG Tryz.prog)) (lam (ixkLs Tryz.prog)) 100 102) [asl ctS x,.fn (.func 103) [] []] =
RT.br (decide ((↑(D.len x):Int)=(↑(D.len x):Int))&&true) (RT.br (okFrom (neC x) (D.len x - 0) 0) (RT.ok (AV.sc true (Value.bool false))) (RT.ok (zb true))) (RT.bad 210):=by rw [← fvF_eq Tryz.prog (gam (nonG Tryz.prog)) (lam (ixkLs Tryz.prog)) false 100 102]; kernel_rfl
theorem brV_none {l:D} {t n:Int} (h:okFrom (neT l t) l.len 0=true):brB l t=false∧brV l t n=n:=by
  have e:brB l t=false:=by unfold brB hasT; rw [h]; rfl
  exact ⟨e,by unfold brV; rw [e]; rfl⟩
theorem brV_some {l:D} {t:Int} (h:okFrom (neT l t) l.len 0=false):brB l t=nmOk (optB l (badFrom (neT l t) l.len 0))∧brV l t 0=nmI (optB l (badFrom (neT l t) l.len 0)):=by
  have e:hasT l t=true:=by unfold hasT; rw [h]; rfl
  have f:fnD l t=optB l (badFrom (neT l t) l.len 0):=by unfold fnD; rw [e]; rfl
  have b:brB l t=nmOk (fnD l t):=by unfold brB; rw [e]; rfl
  rw [← f]
  refine ⟨b,?_⟩
  unfold brV
  rw [b]
  cases hn:nmOk (fnD l t)
  · exact (nm_no (odf hn)).1.symm
  · rfl
theorem rbr_loop:LamE Tryz.prog 138 0 (loopS Tryz.prog rbrL rbrDec rbrT):=by
  refine search_loop (gs:=pnmG Tryz.prog) (ls:=[]) mixed pnmG_ok trivial _ 0 100 (by kernel_rfl) rbrL (by intro h; cases h) (by intro h; cases h) (fun F h x hx=>rbrDec_ok F h x hx) ?_
  rintro ⟨l,t⟩ i K hb hi H1 H2 H3
  dsimp only at hb hi H1 H2 H3
  have hm:=l.len_le
  show (roundT rbrL (evC _ _ _ _ _ _ (rbrF ⟨l,t⟩ i) (rbrH ⟨l,t⟩ 0))).holds _
  unfold rbrL rbrF rbrH
  rw [rbr_body]
  simp only [Int.toNat_natCast]
  refine ⟨fun h1=>?_,fun h1=>?_⟩
  rotate_left
  · obtain rfl:i=l.len:=by have:=odf h1; omega
    exact H3 rfl
  have hlt:i<l.len:=by have:=odt h1; omega
  have hI:decide (0≤(i:Int)∧(i:Int)<(l.len:Int))=true:=det ⟨by omega,by omega⟩
  have hby:bytesB (D.cell (D.get l i) 1)=true:=det (odt hb i hlt)
  rw [hI,hby,wrap_succ hlt hm]
  refine holds_t ⟨fun h3=>holds_t (holds_t (H2 hlt ?_)),fun h3=>H1 hlt ?_⟩
  · unfold neT; rw [bne_eq_false_iff_eq]; exact eq_of_beq h3
  · unfold neT; rw [bne,h3]; rfl
theorem rbrLs_ok:LamL Tryz.prog (rbrLs Tryz.prog):=⟨rbr_loop,trivial⟩
theorem ixk_loop:LamE Tryz.prog 131 0 (loopS Tryz.prog ixkL ixkDec ixkT):=by
  refine search_loop (gs:=nonG Tryz.prog) (ls:=[]) mixed nonG_ok trivial _ 0 100 (by kernel_rfl) ixkL (by intro h; cases h) (by intro h; cases h) (fun F h x hx=>ixkDec_ok F h x hx) ?_
  rintro ⟨x,n⟩ i K hn hi H1 H2 H3
  obtain rfl:n=(x.len:Int):=odt hn
  dsimp only at hi H1 H2 H3
  have hm:=x.len_le
  show (roundT ixkL (evC _ _ _ _ _ _ (ixkF ⟨x,x.len⟩ i) (ixkH ⟨x,x.len⟩ 0))).holds _
  unfold ixkL ixkF ixkH
  rw [ixk_body]
  simp only [Int.toNat_natCast]
  refine ⟨fun h1=>?_,fun h1=>?_⟩
  rotate_left
  · obtain rfl:i=x.len:=by have:=odf h1; omega
    exact H3 rfl
  have hlt:i<x.len:=by have:=odt h1; omega
  have hI:decide (0≤(i:Int)∧(i:Int)<(x.len:Int))=true:=det ⟨by omega,by omega⟩
  rw [hI,wrap_succ hlt hm]
  refine holds_t ⟨fun h3=>H2 hlt ?_,fun h3=>H1 hlt ?_⟩
  · unfold neC; rw [bne_eq_false_iff_eq]; exact eq_of_beq h3
  · unfold neC; rw [bne,h3]; rfl
theorem ixkLs_ok:LamL Tryz.prog (ixkLs Tryz.prog):=⟨ixk_loop,trivial⟩
theorem FRbr_inv {args:List AV} {K:AV→Prop} (H:(FRbr args).holds K):∃ l t,args=[asl opS l,ai t]∧optsB l=true∧K (.tup [ai (brV l t 0),ab (brB l t)]):=by
  unfold FRbr at H
  split at H
  · rename_i l t
    obtain ⟨hc,H⟩:=need_holds H
    exact ⟨l,t,rfl,hc,H⟩
  · exact H.elim
theorem rbr_soundF:SoundF Tryz.prog 138 (pureS Tryz.prog 138 FRbr):=by
  refine pure_in (gs:=pnmG Tryz.prog) (ls:=rbrLs Tryz.prog) mixed pnmG_ok rbrLs_ok 138 100 fun args K ho H=>?_
  obtain ⟨l,t,hr,hc,H⟩:=FRbr_inv H
  rw [hr,rbr_tree,hc]
  refine holds_t_of rfl ⟨fun h=>?_,fun h=>?_⟩
  · obtain ⟨a,b⟩:=brV_none (l:=l) (t:=t) (n:=0) h
    exact ⟨_,le_two (le_int b.symm) (le_bool a.symm),H⟩
  · obtain ⟨a,b⟩:=brV_some (l:=l) (t:=t) h
    exact ⟨_,le_two (le_int b.symm) (le_bool a.symm),H⟩
theorem brs_soundF:SoundF Tryz.prog 105 (pureS Tryz.prog 105 FBrs):=by
  refine pure_in (gs:=fndG Tryz.prog) (ls:=[]) mixed fndG_ok trivial 105 100 fun args K ho H=>?_
  unfold FBrs at H
  split at H
  · rename_i l t n
    obtain ⟨hc,H⟩:=need_holds H
    rw [brs_tree,fnD_by hc]
    have go:∀ m,brV l t n=m→∃ y,Le (ai m) y∧K y:=by rintro m rfl; exact ⟨_,Le.refl _,H⟩
    refine ⟨fun h=>go _ ?_,fun h=>holds_t ⟨fun h2=>go _ ?_,fun h2=>go _ ?_⟩⟩
    all_goals unfold brV brB
    · rw [Bool.not_eq_true'] at h; rw [h]; rfl
    · rw [Bool.not_eq_true'] at h2; rw [h2,Bool.and_false]; rfl
    · rw [Bool.not_eq_false'] at h h2; rw [h,h2]; rfl
  · exact H.elim
theorem cnk_soundF:SoundF Tryz.prog 102 (pureS Tryz.prog 102 FCnk):=by
  refine pure_in (gs:=nonG Tryz.prog) (ls:=ixkLs Tryz.prog) mixed nonG_ok ixkLs_ok 102 100 fun args K ho H=>?_
  unfold FCnk at H
  split at H
  · rename_i x
    rw [cnk_tree]
    refine holds_t_of (by rw [Bool.and_true]; exact det rfl) ⟨fun h=>⟨_,le_bool ?_,H⟩,fun h=>⟨_,le_bool ?_,H⟩⟩
    · unfold hasK; rw [show okFrom (neC x) x.len 0=true from h]; rfl
    · unfold hasK; rw [show okFrom (neC x) x.len 0=false from h]; rfl
  · exact H.elim
theorem cfgG_ok:GamL Tryz.prog (cfgG Tryz.prog):=⟨rdec_soundF,rbr_soundF,trivial⟩
theorem cfg_loop:LamE Tryz.prog 111 0 (loopS Tryz.prog cfgL cfgDec cfgT):=by
  refine fold_loop (gs:=cfgG Tryz.prog) (ls:=[]) mixed cfgG_ok trivial _ 0 100 (by kernel_rfl) cfgL (fun F h x hx=>by obtain ⟨a,rfl,h1,h2⟩:=cfgDec_0 F h x hx; exact ⟨h1,h2⟩) ?_
  rintro ⟨x,st,id,rq,d,ct,tm,nk,mg,pr,mu,pe,ne,o,w,mru,mc,mt,mf,wt,ec,lo,ic,ii,ix,st0,id0,rq0,d0,ct0,tm0,nk0⟩ i K hok hi H1 H2
  dsimp only at hok hi H1 H2
  have hm:=x.len_le
  skip
  have go:∀ x0 x1,i<x.len→akV x pr (brV (decO ix) 5 0) (i+1)=x0→akV x mu (brV (decO ix) 1 1492) (i+1)=x1→K (.normal,cfgF ⟨x,st,id,rq,d,ct,tm,nk,mg,pr,mu,pe,ne,o,w,mru,mc,mt,mf,wt,ec,lo,ic,ii,ix,st0,id0,rq0,d0,ct0,tm0,nk0⟩ (i+1) x0 x1,cfgH ⟨x,st,id,rq,d,ct,tm,nk,mg,pr,mu,pe,ne,o,w,mru,mc,mt,mf,wt,ec,lo,ic,ii,ix,st0,id0,rq0,d0,ct0,tm0,nk0⟩ (i+1) x0 x1):=by
    intro x0 x1 hlt; rintro rfl rfl; exact H1 hlt
  show (roundT cfgL (evC _ _ _ _ _ _ (cfgF ⟨x,st,id,rq,d,ct,tm,nk,mg,pr,mu,pe,ne,o,w,mru,mc,mt,mf,wt,ec,lo,ic,ii,ix,st0,id0,rq0,d0,ct0,tm0,nk0⟩ i (akV x pr (brV (decO ix) 5 0) i) (akV x mu (brV (decO ix) 1 1492) i)) (cfgH ⟨x,st,id,rq,d,ct,tm,nk,mg,pr,mu,pe,ne,o,w,mru,mc,mt,mf,wt,ec,lo,ic,ii,ix,st0,id0,rq0,d0,ct0,tm0,nk0⟩ i (akV x pr (brV (decO ix) 5 0) i) (akV x mu (brV (decO ix) 1 1492) i)))).holds _
  unfold cfgL cfgF cfgH
  rw [cfg_body]
  simp only [Int.toNat_natCast]
  refine ⟨fun h1=>?_,fun h1=>?_⟩
  rotate_left
  · obtain rfl:i=x.len:=by have:=odf h1; omega
    exact H2 rfl
  have hlt:i<x.len:=by have:=odt h1; omega
  rw [wrap_succ hlt hm]
  clear H1 H2
  have hI:decide (0≤(i:Int)∧(i:Int)<(x.len:Int))=true:=det ⟨by omega,by omega⟩
  have ho:=(decO_fit hok).2
  have e1:(D.toI (D.cell (D.get x i) 0) != 2)=neC x i:=rfl
  have eA:∀ v0 v1,akV x v0 v1 (i+1)=bif neC x i then akV x v0 v1 i else v1:=fun _ _=>rfl
  rw [hI,hok,ho,e1]
  refine holds_t ?_
  cases h3:neC x i
  · refine ⟨fun h=>(by cases h),fun _=>holds_t (holds_t (holds_t ⟨fun h4=>go _ _ hlt ((eA _ _).trans ?_) ((eA _ _).trans ?_),fun h4=>go _ _ hlt ((eA _ _).trans ?_) ((eA _ _).trans ?_)⟩))⟩
    · rw [h3]; rfl
    · rw [Bool.not_eq_true'] at h4
      rw [h3]; unfold brV; rw [h4]; rfl
    · rw [h3]; rfl
    · rw [Bool.not_eq_false'] at h4
      rw [h3]; unfold brV; rw [h4]; rfl
  · refine holds_t (go _ _ hlt ((eA _ _).trans ?_) ((eA _ _).trans ?_))
    · rw [h3]; rfl
    · rw [h3]; rfl
theorem cfgLs_ok:LamL Tryz.prog (cfgLs Tryz.prog):=⟨cfg_loop,trivial⟩
theorem akV_all (x:D) (v0 v1:Int):∀ n,akV x v0 v1 n=bif okFrom (neC x) n 0 then v0 else v1
  | 0=>rfl
  | n+1=>by
    show (bif neC x n then akV x v0 v1 n else v1)=_
    rw [akV_all x v0 v1 n]
    cases h:okFrom (neC x) n 0
    · have:okFrom (neC x) (n+1) 0=false:=by
        cases h':okFrom (neC x) (n+1) 0
        · rfl
        · rw [okFrom_iff] at h'
          have:okFrom (neC x) n 0=true:=okFrom_iff.2 fun j a b=>h' j a (by omega)
          rw [h] at this; cases this
      rw [this]; cases neC x n <;> rfl
    · cases hn:neC x n
      · rw [okFrom_false (Nat.zero_le n) (by omega) hn]; rfl
      · rw [okFrom_snoc h hn]; rfl
def rlA (m:Int):D:=rulD m (othP m)
def rlB (m:Int):D:=rulD m (othR m)
def FAuA:List AV→RT AV
  | [.agg [.sc false (.int .i64 _),.sc false (.int .i64 b),.sc false (.int .i64 c),.sc false (.int .i64 d),.sc false (.int .i64 e),.sc false (.int .i64 _),.sc false (.int .i64 _)],.sc false (.int .i64 m)]=>.ok (.agg [asl rlS (rlA m),ai b,ai c,ai d,ai e])
  | _=>.bad 304
def FAuB:List AV→RT AV
  | [.agg [.sc false (.int .i64 _),.sc false (.int .i64 b),.sc false (.int .i64 c),.sc false (.int .i64 d),.sc false (.int .i64 e),.sc false (.int .i64 _),.sc false (.int .i64 _)],.sc false (.int .i64 m)]=>.ok (.agg [asl rlS (rlB m),ai b,ai c,ai d,ai e])
  | _=>.bad 304
def evB (e:Int):Bool:=decide (1≤e∧e≤4)
def isEv (d:D):Bool:=match d.raw with | [.t [.ki 1],.t [.ki 2],.t [.ki 3],.t [.ki 4]]=>true | _=>false
def FEvt:List AV→RT AV
  | [.sl false [.int .i64] d none,.sc false (.int .i64 e)]=>bif isEv d then .ok (ab (evB e)) else .bad 305
  | _=>.bad 305
def lcpG (P:Program):List (FuncId×Spec):=[(11,pureS P 11 FLck),(61,pureS P 61 FOwn),(12,pureS P 12 FAuA),(94,pureS P 94 FDoR),(55,objT flwS),(88,pureS P 88 FEvt)]
def rlcG (P:Program):List (FuncId×Spec):=[(17,pureS P 17 FLis),(13,pureS P 13 FAuB),(135,pureS P 135 FDoR),(114,pureS P 114 FFls)]
abbrev cnfA (mru mc mt mf wt ec lo:Int):AV:=.agg [ai mru,ai mc,ai mt,ai mf,ai wt,ai ec,ai lo]
def evR (w:WkV) (rl:D) (e ic ii:Int) (ix:D) (ac ax:Int) (ad:D):DoneV:=doW (rlM rl) (rlG rl) w.mc w.mt w.mf w.wt ⟨w.st,w.id,w.rq,w.d,w.ct,w.tm,w.nk⟩ e ic ii ix ac ax ad w.tick
def folW (w:WkV) (r:DoneV):WkV:={ w with st:=r.a.st,id:=r.a.id,rq:=r.a.rq,d:=r.a.d,ct:=r.a.ct,tm:=r.a.tm,nk:=r.a.nk,mg:=mgV r.a.d w.mg,pe:=flP r.did w.pe r.did.len,ne:=flN r.did w.ec w.tick w.ne r.did.len,out:=D.app w.out r.out,did:=D.app w.did r.did }
def evW (w:WkV) (rl:D) (e ic ii:Int) (ix:D) (ac ax:Int) (ad:D):WkV:=folW w (evR w rl e ic ii ix ac ax ad)
abbrev wkB (w:WkV):AV:=.agg [ai w.st,ai w.id,ai w.rq,asl opS w.d,ai w.ct,ai w.tm,ai w.nk,ai w.mg,ai w.pr,ai w.mu,ai w.pe,ai w.ne,asl ctS w.out,asl acS w.did]
abbrev wkA (w:WkV):AV:=.tup [.agg [ai w.st,ai w.id,ai w.rq,asl opS w.d,ai w.ct,ai w.tm,ai w.nk,ai w.mg,ai w.pr,ai w.mu,ai w.pe,ai w.ne],asl ctS w.out,asl acS w.did]
def byOk (w:WkV):Bool:=decide (0≤w.ec∧w.out.len≤1000000∧w.did.len≤1000000)&&optsB w.d
def byCd:List Cd:=[.agg [.int .i64,.int .i64,.int .i64,.sl opS,.int .i64,.int .i64,.int .i64,.int .i64,.int .i64,.int .i64,.int .i64,.int .i64,.sl ctS,.sl acS],.agg [.int .i64,.int .i64,.int .i64,.int .i64,.int .i64,.int .i64,.int .i64],.int .i64,.agg [.int .i64,.int .i64,.sl byS],.agg [.int .i64,.int .i64,.sl byS],.int .i64]
def FBy (args:List AV):RT AV:=match cdAL byCd args with
  | some [v0,v1,v2,v3,v4,v5,v6,v7,v8,v9,v10,v11,v12,v13,v14,v15,v16,v17,v18,v19,v20,v21,v22,v23,v24,v25,v26,v27,v28]=>need false (byOk ⟨v14.toI,v15.toI,v16.toI,v17.toI,v18.toI,v19.toI,v20.toI,v0.toI,v1.toI,v2.toI,v3,v4.toI,v5.toI,v6.toI,v7.toI,v8.toI,v9.toI,v10.toI,v11.toI,v28.toI,v12,v13⟩) 306 (.ok (wkB (evW ⟨v14.toI,v15.toI,v16.toI,v17.toI,v18.toI,v19.toI,v20.toI,v0.toI,v1.toI,v2.toI,v3,v4.toI,v5.toI,v6.toI,v7.toI,v8.toI,v9.toI,v10.toI,v11.toI,v28.toI,v12,v13⟩ (rlB v7.toI) v21.toI v22.toI v23.toI v24 v25.toI v26.toI v27)))
  | _=>.bad 306
theorem auA_soundF:SoundF Tryz.prog 12 (pureS Tryz.prog 12 FAuA):=by
  refine pure_in (gs:=[]) (ls:=[]) mixed trivial trivial 12 100 fun args K ho H=>?_
  unfold FAuA at H
  split at H
  · rename_i m
    rw [lau_tree]
    refine ⟨fun h1=>⟨_,le_agg (leL_cons (fun E v hv=>le_raw (kn:=true) (kn':=false) (d:=rulD _ _) rfl E v (le_rul ?_ E v hv)) fun _ _ h=>h),H⟩,fun h1=>⟨_,le_agg (leL_cons (fun E v hv=>le_raw (kn:=true) (kn':=false) (d:=rulD _ _) rfl E v (le_rul ?_ E v hv)) fun _ _ h=>h),H⟩⟩
    · have h1:othX m=0:=eq_of_beq (a:=othX m) (b:=0) h1
      unfold othP; rw [if_pos h1]; rfl
    · have h1:¬ othX m=0:=fun e=>by
        have h1':(othX m==0)=false:=h1
        rw [e] at h1'; cases h1'
      unfold othP; rw [if_neg h1]; rfl
  · exact H.elim
theorem auB_soundF:SoundF Tryz.prog 13 (pureS Tryz.prog 13 FAuB):=by
  refine pure_in (gs:=[]) (ls:=[]) mixed trivial trivial 13 100 fun args K ho H=>?_
  unfold FAuB at H
  split at H
  · rename_i m
    rw [rlau_tree]
    simp only [RT.holds]
    repeat' refine And.intro (fun _=>?_) (fun _=>?_)
    all_goals first | (refine ⟨_,le_agg (leL_cons (fun E v hv=>le_raw (kn:=true) (kn':=false) (d:=rulD _ _) rfl E v (le_rul ?_ E v hv)) fun _ _ h=>h),H⟩; clear H ho; simp_all [othR,othY,D.toI]; done) | contradiction
  · exact H.elim
theorem cat2_app (a b:D):cat2 a b=D.app a b:=by
  have e:(D.app (.l []) a).toL=a.toL:=by
    unfold D.app
    rw [show (D.l []).toL=[] from toL_l (Nat.zero_le _),List.nil_append]
    exact toL_l a.len_le
  unfold cat2 D.app at *
  rw [e]
theorem acts_len {c:DoC} {did:D}:∀ (m i:Nat) (v:DoV),v.out.len+m≤8→(actsF c did m i v).out.len≤v.out.len+m
  | 0,_,_,_=>Nat.le_refl _
  | m+1,i,v,h=>by
    have h1:=actF_len (c:=c) (a:=((did.get i).cell 0).toI) (v:=v) (by omega)
    have h2:=acts_len (c:=c) (did:=did) m (i+1) (actF c ((did.get i).cell 0).toI v) (by omega)
    unfold actsF
    omega
theorem doW_fit {m g mc mt mf wt:Int} {a:AuV} {e ic ii:Int} {ix:D} {ac ax:Int} {ad:D} {tk:Int}:(doW m g mc mt mf wt a e ic ii ix ac ax ad tk).out.len≤3∧(doW m g mc mt mf wt a e ic ii ix ac ax ad tk).did.len≤3∧(doW m g mc mt mf wt a e ic ii ix ac ax ad tk).a.d=a.d:=by
  cases h:doB m g mc mt mf wt a e tk
  · rw [doW_off h]; exact ⟨Nat.zero_le _,Nat.zero_le _,rfl⟩
  · rw [doW_on h]
    have h3:=rfcD_len a.st e
    have h4:=acts_len (c:=doK m g mc mt mf wt a.st e a.d ic ii ix ac ax ad tk) (did:=rfcD a.st e) (rfcD a.st e).len 0 ⟨a.id,a.rq,a.ct,a.tm,a.nk,.l []⟩ (by show 0+_≤8; omega)
    refine ⟨?_,h3,rfl⟩
    have h4:(doR m g mc mt mf wt a e ic ii ix ac ax ad tk).out.len≤0+(rfcD a.st e).len:=h4
    show (doR m g mc mt mf wt a e ic ii ix ac ax ad tk).out.len≤3
    omega
abbrev by_treeT_1 (st id rq ct tm nk mg pr mu pe ne mc mt mf wt ec e ic ii ac ax tick:Int) (d out did ix ad:D):=RT.br true (RT.br (flsN ec (AuV.d (DoneV.a (doW (rlM (rlB mg)) (rlG (rlB mg)) mc mt mf wt (AuV.mk st id rq d ct tm nk) e ic ii ix ac ax ad tick))) out (DoneV.out (doW (rlM (rlB mg)) (rlG (rlB mg)) mc mt mf wt (AuV.mk st id rq d ct tm nk) e ic ii ix ac ax ad tick)) did (DoneV.did (doW (rlM (rlB mg)) (rlG (rlB mg)) mc mt mf wt (AuV.mk st id rq d ct tm nk) e ic ii ix ac ax ad tick))) (RT.ok (AV.agg [zi (AuV.st (DoneV.a (doW (rlM (rlB mg)) (rlG (rlB mg)) mc mt mf wt (AuV.mk st id rq d ct tm nk) e ic ii ix ac ax ad tick))),zi (AuV.id (DoneV.a (doW (rlM (rlB mg)) (rlG (rlB mg)) mc mt mf wt (AuV.mk st id rq d ct tm nk) e ic ii ix ac ax ad tick))),zi (AuV.rq (DoneV.a (doW (rlM (rlB mg)) (rlG (rlB mg)) mc mt mf wt (AuV.mk st id rq d ct tm nk) e ic ii ix ac ax ad tick))),zs zO (AuV.d (DoneV.a (doW (rlM (rlB mg)) (rlG (rlB mg)) mc mt mf wt (AuV.mk st id rq d ct tm nk) e ic ii ix ac ax ad tick))),zi (AuV.ct (DoneV.a (doW (rlM (rlB mg)) (rlG (rlB mg)) mc mt mf wt (AuV.mk st id rq d ct tm nk) e ic ii ix ac ax ad tick))),zi (AuV.tm (DoneV.a (doW (rlM (rlB mg)) (rlG (rlB mg)) mc mt mf wt (AuV.mk st id rq d ct tm nk) e ic ii ix ac ax ad tick))),zi (AuV.nk (DoneV.a (doW (rlM (rlB mg)) (rlG (rlB mg)) mc mt mf wt (AuV.mk st id rq d ct tm nk) e ic ii ix ac ax ad tick))),zi (mgV (AuV.d (DoneV.a (doW (rlM (rlB mg)) (rlG (rlB mg)) mc mt mf wt (AuV.mk st id rq d ct tm nk) e ic ii ix ac ax ad tick))) mg),zi pr,zi mu,zi (flP (DoneV.did (doW (rlM (rlB mg)) (rlG (rlB mg)) mc mt mf wt (AuV.mk st id rq d ct tm nk) e ic ii ix ac ax ad tick)) pe (D.len (DoneV.did (doW (rlM (rlB mg)) (rlG (rlB mg)) mc mt mf wt (AuV.mk st id rq d ct tm nk) e ic ii ix ac ax ad tick)))),zi (flN (DoneV.did (doW (rlM (rlB mg)) (rlG (rlB mg)) mc mt mf wt (AuV.mk st id rq d ct tm nk) e ic ii ix ac ax ad tick)) ec tick ne (D.len (DoneV.did (doW (rlM (rlB mg)) (rlG (rlB mg)) mc mt mf wt (AuV.mk st id rq d ct tm nk) e ic ii ix ac ax ad tick)))),zs zC (cat2 out (DoneV.out (doW (rlM (rlB mg)) (rlG (rlB mg)) mc mt mf wt (AuV.mk st id rq d ct tm nk) e ic ii ix ac ax ad tick))),zs zN (cat2 did (DoneV.did (doW (rlM (rlB mg)) (rlG (rlB mg)) mc mt mf wt (AuV.mk st id rq d ct tm nk) e ic ii ix ac ax ad tick)))])) (RT.bad 300)) (RT.bad 274)
def by_treeT (st id rq ct tm nk mg pr mu pe ne mru mc mt mf wt ec lo e ic ii ac ax tick:Int) (d out did ix ad:D):RT AV :=
RT.all (RT.all (by_treeT_1 st id rq ct tm nk mg pr mu pe ne mc mt mf wt ec e ic ii ac ax tick d out did ix ad) (by_treeT_1 st id rq ct tm nk mg pr mu pe ne mc mt mf wt ec e ic ii ac ax tick d out did ix ad)) (by_treeT_1 st id rq ct tm nk mg pr mu pe ne mc mt mf wt ec e ic ii ac ax tick d out did ix ad)
theorem by_tree (st id rq ct tm nk mg pr mu pe ne mru mc mt mf wt ec lo e ic ii ac ax tick:Int) (d out did ix ad:D):treeF (evF Tryz.prog (gam (rlcG Tryz.prog)) (lam ([])) 100 110) [.agg [ai st,ai id,ai rq,asl opS d,ai ct,ai tm,ai nk,ai mg,ai pr,ai mu,ai pe,ai ne,asl ctS out,asl acS did],cnfA mru mc mt mf wt ec lo,ai e,ctlA ic ii ix,ctlA ac ax ad,ai tick]=by_treeT st id rq ct tm nk mg pr mu pe ne mru mc mt mf wt ec lo e ic ii ac ax tick d out did ix ad:=by rw [← fvF_eq Tryz.prog (gam (rlcG Tryz.prog)) (lam ([])) false 100 110]; kernel_rfl
theorem FBy_inv {args:List AV} {K:AV→Prop} (H:(FBy args).holds K):∃ (st id rq ct tm nk mg pr mu pe ne mru mc mt mf wt ec lo e ic ii ac ax tick:Int) (d out did ix ad:D),args=[.agg [ai st,ai id,ai rq,asl opS d,ai ct,ai tm,ai nk,ai mg,ai pr,ai mu,ai pe,ai ne,asl ctS out,asl acS did],cnfA mru mc mt mf wt ec lo,ai e,ctlA ic ii ix,ctlA ac ax ad,ai tick]∧byOk ⟨mru,mc,mt,mf,wt,ec,lo,st,id,rq,d,ct,tm,nk,mg,pr,mu,pe,ne,tick,out,did⟩=true∧K (wkB (evW ⟨mru,mc,mt,mf,wt,ec,lo,st,id,rq,d,ct,tm,nk,mg,pr,mu,pe,ne,tick,out,did⟩ (rlB mg) e ic ii ix ac ax ad)):=by
  unfold FBy at H
  split at H
  · rename_i v0 v1 v2 v3 v4 v5 v6 v7 v8 v9 v10 v11 v12 v13 v14 v15 v16 v17 v18 v19 v20 v21 v22 v23 v24 v25 v26 v27 v28 hd
    obtain ⟨hc,H⟩:=need_holds H
    have:=cdAL_ok _ _ _ hd []
    exact ⟨v0.toI,v1.toI,v2.toI,v4.toI,v5.toI,v6.toI,v7.toI,v8.toI,v9.toI,v10.toI,v11.toI,v14.toI,v15.toI,v16.toI,v17.toI,v18.toI,v19.toI,v20.toI,v21.toI,v22.toI,v23.toI,v25.toI,v26.toI,v28.toI,v3,v12,v13,v24,v27,(congrArg Prod.fst this).symm,hc,H⟩
  · exact H.elim
theorem rlcG_ok:GamL Tryz.prog (rlcG Tryz.prog):=⟨rlis_soundF,auB_soundF,doR_of rdo_soundF,fls_soundF,trivial⟩
theorem app_fit {a b:D} {n:Nat} (h:a.len+b.len≤n):(D.app a b).len≤n:=by
  unfold D.app D.len D.toL D.raw
  refine Nat.le_trans (List.length_take_le' _ _) ?_
  rw [List.length_append]; exact h
theorem by_soundF:SoundF Tryz.prog 110 (pureS Tryz.prog 110 FBy):=by
  refine pure_in (gs:=rlcG Tryz.prog) (ls:=[]) mixed rlcG_ok trivial 110 100 fun args K ho H=>?_
  obtain ⟨st,id,rq,ct,tm,nk,mg,pr,mu,pe,ne,mru,mc,mt,mf,wt,ec,lo,e,ic,ii,ac,ax,tick,d,out,did,ix,ad,hr,hc,H⟩:=FBy_inv H
  rw [hr,by_tree]
  unfold byOk at hc
  rw [Bool.and_eq_true] at hc
  obtain ⟨hc,hb⟩:=hc
  obtain ⟨hec,h1,h2⟩:0≤ec∧out.len≤1000000∧did.len≤1000000:=odt hc
  dsimp only at hb
  unfold evW folW evR at H
  dsimp only at H
  obtain ⟨f1,f2,f3⟩:=doW_fit (m:=rlM (rlB mg)) (g:=rlG (rlB mg)) (mc:=mc) (mt:=mt) (mf:=mf) (wt:=wt) (a:=⟨st,id,rq,d,ct,tm,nk⟩) (e:=e) (ic:=ic) (ii:=ii) (ix:=ix) (ac:=ac) (ax:=ax) (ad:=ad) (tk:=tick)
  unfold by_treeT by_treeT_1
  generalize doW (rlM (rlB mg)) (rlG (rlB mg)) mc mt mf wt ⟨st,id,rq,d,ct,tm,nk⟩ e ic ii ix ac ax ad tick=r at H f1 f2 f3 ⊢
  have f3:r.a.d=d:=f3
  have hN:flsN ec r.a.d out r.out did r.did=true:=by
    unfold flsN
    rw [f3,hb,Bool.and_true]
    have a1:(D.app (.l []) out).len≤1000000:=app_fit (by show 0+out.len≤_; omega)
    have a2:(D.app (.l []) did).len≤1000000:=app_fit (by show 0+did.len≤_; omega)
    exact det ⟨hec,by omega,by omega⟩
  rw [hN]
  have one:∀ x y:RT AV,(RT.br true (RT.br true (.ok (flsA pr mu pe ne mg out did ec r.a.st r.a.id r.a.rq r.a.d r.a.ct r.a.tm r.a.nk r.out r.did tick)) x) y).holds fun r=>∃ y,Le r y∧K y:=fun x y=>holds_t (holds_t (by
    unfold flsA
    rw [cat2_app,cat2_app]
    exact ⟨_,Le.refl _,H⟩))
  exact ⟨⟨one _ _,one _ _⟩,one _ _⟩
def lisW (w:WkV):Bool:=lisB w.mru w.mc w.mt w.mf w.wt w.ec w.lo w.st w.id w.rq w.d w.ct w.tm w.nk w.mg w.pr w.mu w.pe w.ne
def onB (w:WkV):Bool:=lisW w&&(decide (0≤w.tick)&&decide (w.tick≤1099511627776))
def ldoW (w:WkV) (e:Int):WkV:=bif evB e&&onB w then evW w (rlA w.mg) e 0 0 (.l []) 0 0 (.l []) else w
def ldoCd:List Cd:=[.agg [.int .i64,.int .i64,.int .i64,.int .i64,.int .i64,.int .i64,.int .i64],.agg [.int .i64,.int .i64,.int .i64,.sl opS,.int .i64,.int .i64,.int .i64,.int .i64,.int .i64,.int .i64,.int .i64,.int .i64],.int .i64,.int .i64]
def FLdo (args:List AV):RT AV:=match cdAL ldoCd args with
  | some [v0,v1,v2,v3,v4,v5,v6,v7,v8,v9,v10,v11,v12,v13,v14,v15,v16,v17,v18,v19,v20]=>need false (optsB v10) 307 (.ok (wkA (ldoW ⟨v0.toI,v1.toI,v2.toI,v3.toI,v4.toI,v5.toI,v6.toI,v7.toI,v8.toI,v9.toI,v10,v11.toI,v12.toI,v13.toI,v14.toI,v15.toI,v16.toI,v17.toI,v18.toI,v20.toI,.l [],.l []⟩ v19.toI)))
  | _=>.bad 307
def FRdo (args:List AV):RT AV:=match cdAL ldoCd args with
  | some [v0,v1,v2,v3,v4,v5,v6,v7,v8,v9,v10,v11,v12,v13,v14,v15,v16,v17,v18,v19,v20]=>need false (optsB v10) 307 (.ok (wkB (ldoW ⟨v0.toI,v1.toI,v2.toI,v3.toI,v4.toI,v5.toI,v6.toI,v7.toI,v8.toI,v9.toI,v10,v11.toI,v12.toI,v13.toI,v14.toI,v15.toI,v16.toI,v17.toI,v18.toI,v20.toI,.l [],.l []⟩ v19.toI)))
  | _=>.bad 307
def rl2G (P:Program):List (FuncId×Spec):=[(17,pureS P 17 FLis),(110,pureS P 110 FBy)]
abbrev ldo_treeT_1 (st id rq ct tm nk mg pr mu pe ne:Int) (d:D):=RT.ok (AV.tup [AV.agg [zi st,zi id,zi rq,zs zO d,zi ct,zi tm,zi nk,zi mg,zi pr,zi mu,zi pe,zi ne],zz,zz])
def ldo_treeT (mru mc mt mf wt ec lo st id rq ct tm nk mg pr mu pe ne:Int) (d:D) (e tk:Int):RT AV :=
RT.br (!evB e) (ldo_treeT_1 st id rq ct tm nk mg pr mu pe ne d) (RT.br (errIf (lisB mru mc mt mf wt ec lo st id rq d ct tm nk mg pr mu pe ne) 170 != 0) (ldo_treeT_1 st id rq ct tm nk mg pr mu pe ne d) (RT.br (decide (0≤tk)) (RT.br (!decide (tk≤1099511627776)) (ldo_treeT_1 st id rq ct tm nk mg pr mu pe ne d) (RT.br true (RT.br (flwN (WkV.mk mru mc mt mf wt ec lo (AuV.st (DoneV.a (doW (rlM (rlA mg)) (rlG (rlA mg)) mc mt mf wt (AuV.mk st id rq d ct tm nk) e 0 0 (D.l []) 0 0 (D.l []) tk))) (AuV.id (DoneV.a (doW (rlM (rlA mg)) (rlG (rlA mg)) mc mt mf wt (AuV.mk st id rq d ct tm nk) e 0 0 (D.l []) 0 0 (D.l []) tk))) (AuV.rq (DoneV.a (doW (rlM (rlA mg)) (rlG (rlA mg)) mc mt mf wt (AuV.mk st id rq d ct tm nk) e 0 0 (D.l []) 0 0 (D.l []) tk))) (AuV.d (DoneV.a (doW (rlM (rlA mg)) (rlG (rlA mg)) mc mt mf wt (AuV.mk st id rq d ct tm nk) e 0 0 (D.l []) 0 0 (D.l []) tk))) (AuV.ct (DoneV.a (doW (rlM (rlA mg)) (rlG (rlA mg)) mc mt mf wt (AuV.mk st id rq d ct tm nk) e 0 0 (D.l []) 0 0 (D.l []) tk))) (AuV.tm (DoneV.a (doW (rlM (rlA mg)) (rlG (rlA mg)) mc mt mf wt (AuV.mk st id rq d ct tm nk) e 0 0 (D.l []) 0 0 (D.l []) tk))) (AuV.nk (DoneV.a (doW (rlM (rlA mg)) (rlG (rlA mg)) mc mt mf wt (AuV.mk st id rq d ct tm nk) e 0 0 (D.l []) 0 0 (D.l []) tk))) mg pr mu pe ne tk (D.app (D.l []) (DoneV.out (doW (rlM (rlA mg)) (rlG (rlA mg)) mc mt mf wt (AuV.mk st id rq d ct tm nk) e 0 0 (D.l []) 0 0 (D.l []) tk))) (D.app (D.l []) (DoneV.did (doW (rlM (rlA mg)) (rlG (rlA mg)) mc mt mf wt (AuV.mk st id rq d ct tm nk) e 0 0 (D.l []) 0 0 (D.l []) tk)))) 0) (RT.ok (AV.tup [AV.agg [zi (WkV.st (flwW (WkV.mk mru mc mt mf wt ec lo (AuV.st (DoneV.a (doW (rlM (rlA mg)) (rlG (rlA mg)) mc mt mf wt (AuV.mk st id rq d ct tm nk) e 0 0 (D.l []) 0 0 (D.l []) tk))) (AuV.id (DoneV.a (doW (rlM (rlA mg)) (rlG (rlA mg)) mc mt mf wt (AuV.mk st id rq d ct tm nk) e 0 0 (D.l []) 0 0 (D.l []) tk))) (AuV.rq (DoneV.a (doW (rlM (rlA mg)) (rlG (rlA mg)) mc mt mf wt (AuV.mk st id rq d ct tm nk) e 0 0 (D.l []) 0 0 (D.l []) tk))) (AuV.d (DoneV.a (doW (rlM (rlA mg)) (rlG (rlA mg)) mc mt mf wt (AuV.mk st id rq d ct tm nk) e 0 0 (D.l []) 0 0 (D.l []) tk))) (AuV.ct (DoneV.a (doW (rlM (rlA mg)) (rlG (rlA mg)) mc mt mf wt (AuV.mk st id rq d ct tm nk) e 0 0 (D.l []) 0 0 (D.l []) tk))) (AuV.tm (DoneV.a (doW (rlM (rlA mg)) (rlG (rlA mg)) mc mt mf wt (AuV.mk st id rq d ct tm nk) e 0 0 (D.l []) 0 0 (D.l []) tk))) (AuV.nk (DoneV.a (doW (rlM (rlA mg)) (rlG (rlA mg)) mc mt mf wt (AuV.mk st id rq d ct tm nk) e 0 0 (D.l []) 0 0 (D.l []) tk))) mg pr mu pe ne tk (D.app (D.l []) (DoneV.out (doW (rlM (rlA mg)) (rlG (rlA mg)) mc mt mf wt (AuV.mk st id rq d ct tm nk) e 0 0 (D.l []) 0 0 (D.l []) tk))) (D.app (D.l []) (DoneV.did (doW (rlM (rlA mg)) (rlG (rlA mg)) mc mt mf wt (AuV.mk st id rq d ct tm nk) e 0 0 (D.l []) 0 0 (D.l []) tk)))) 0)),zi (WkV.id (flwW (WkV.mk mru mc mt mf wt ec lo (AuV.st (DoneV.a (doW (rlM (rlA mg)) (rlG (rlA mg)) mc mt mf wt (AuV.mk st id rq d ct tm nk) e 0 0 (D.l []) 0 0 (D.l []) tk))) (AuV.id (DoneV.a (doW (rlM (rlA mg)) (rlG (rlA mg)) mc mt mf wt (AuV.mk st id rq d ct tm nk) e 0 0 (D.l []) 0 0 (D.l []) tk))) (AuV.rq (DoneV.a (doW (rlM (rlA mg)) (rlG (rlA mg)) mc mt mf wt (AuV.mk st id rq d ct tm nk) e 0 0 (D.l []) 0 0 (D.l []) tk))) (AuV.d (DoneV.a (doW (rlM (rlA mg)) (rlG (rlA mg)) mc mt mf wt (AuV.mk st id rq d ct tm nk) e 0 0 (D.l []) 0 0 (D.l []) tk))) (AuV.ct (DoneV.a (doW (rlM (rlA mg)) (rlG (rlA mg)) mc mt mf wt (AuV.mk st id rq d ct tm nk) e 0 0 (D.l []) 0 0 (D.l []) tk))) (AuV.tm (DoneV.a (doW (rlM (rlA mg)) (rlG (rlA mg)) mc mt mf wt (AuV.mk st id rq d ct tm nk) e 0 0 (D.l []) 0 0 (D.l []) tk))) (AuV.nk (DoneV.a (doW (rlM (rlA mg)) (rlG (rlA mg)) mc mt mf wt (AuV.mk st id rq d ct tm nk) e 0 0 (D.l []) 0 0 (D.l []) tk))) mg pr mu pe ne tk (D.app (D.l []) (DoneV.out (doW (rlM (rlA mg)) (rlG (rlA mg)) mc mt mf wt (AuV.mk st id rq d ct tm nk) e 0 0 (D.l []) 0 0 (D.l []) tk))) (D.app (D.l []) (DoneV.did (doW (rlM (rlA mg)) (rlG (rlA mg)) mc mt mf wt (AuV.mk st id rq d ct tm nk) e 0 0 (D.l []) 0 0 (D.l []) tk)))) 0)),zi (WkV.rq (flwW (WkV.mk mru mc mt mf wt ec lo (AuV.st (DoneV.a (doW (rlM (rlA mg)) (rlG (rlA mg)) mc mt mf wt (AuV.mk st id rq d ct tm nk) e 0 0 (D.l []) 0 0 (D.l []) tk))) (AuV.id (DoneV.a (doW (rlM (rlA mg)) (rlG (rlA mg)) mc mt mf wt (AuV.mk st id rq d ct tm nk) e 0 0 (D.l []) 0 0 (D.l []) tk))) (AuV.rq (DoneV.a (doW (rlM (rlA mg)) (rlG (rlA mg)) mc mt mf wt (AuV.mk st id rq d ct tm nk) e 0 0 (D.l []) 0 0 (D.l []) tk))) (AuV.d (DoneV.a (doW (rlM (rlA mg)) (rlG (rlA mg)) mc mt mf wt (AuV.mk st id rq d ct tm nk) e 0 0 (D.l []) 0 0 (D.l []) tk))) (AuV.ct (DoneV.a (doW (rlM (rlA mg)) (rlG (rlA mg)) mc mt mf wt (AuV.mk st id rq d ct tm nk) e 0 0 (D.l []) 0 0 (D.l []) tk))) (AuV.tm (DoneV.a (doW (rlM (rlA mg)) (rlG (rlA mg)) mc mt mf wt (AuV.mk st id rq d ct tm nk) e 0 0 (D.l []) 0 0 (D.l []) tk))) (AuV.nk (DoneV.a (doW (rlM (rlA mg)) (rlG (rlA mg)) mc mt mf wt (AuV.mk st id rq d ct tm nk) e 0 0 (D.l []) 0 0 (D.l []) tk))) mg pr mu pe ne tk (D.app (D.l []) (DoneV.out (doW (rlM (rlA mg)) (rlG (rlA mg)) mc mt mf wt (AuV.mk st id rq d ct tm nk) e 0 0 (D.l []) 0 0 (D.l []) tk))) (D.app (D.l []) (DoneV.did (doW (rlM (rlA mg)) (rlG (rlA mg)) mc mt mf wt (AuV.mk st id rq d ct tm nk) e 0 0 (D.l []) 0 0 (D.l []) tk)))) 0)),zs zO (WkV.d (flwW (WkV.mk mru mc mt mf wt ec lo (AuV.st (DoneV.a (doW (rlM (rlA mg)) (rlG (rlA mg)) mc mt mf wt (AuV.mk st id rq d ct tm nk) e 0 0 (D.l []) 0 0 (D.l []) tk))) (AuV.id (DoneV.a (doW (rlM (rlA mg)) (rlG (rlA mg)) mc mt mf wt (AuV.mk st id rq d ct tm nk) e 0 0 (D.l []) 0 0 (D.l []) tk))) (AuV.rq (DoneV.a (doW (rlM (rlA mg)) (rlG (rlA mg)) mc mt mf wt (AuV.mk st id rq d ct tm nk) e 0 0 (D.l []) 0 0 (D.l []) tk))) (AuV.d (DoneV.a (doW (rlM (rlA mg)) (rlG (rlA mg)) mc mt mf wt (AuV.mk st id rq d ct tm nk) e 0 0 (D.l []) 0 0 (D.l []) tk))) (AuV.ct (DoneV.a (doW (rlM (rlA mg)) (rlG (rlA mg)) mc mt mf wt (AuV.mk st id rq d ct tm nk) e 0 0 (D.l []) 0 0 (D.l []) tk))) (AuV.tm (DoneV.a (doW (rlM (rlA mg)) (rlG (rlA mg)) mc mt mf wt (AuV.mk st id rq d ct tm nk) e 0 0 (D.l []) 0 0 (D.l []) tk))) (AuV.nk (DoneV.a (doW (rlM (rlA mg)) (rlG (rlA mg)) mc mt mf wt (AuV.mk st id rq d ct tm nk) e 0 0 (D.l []) 0 0 (D.l []) tk))) mg pr mu pe ne tk (D.app (D.l []) (DoneV.out (doW (rlM (rlA mg)) (rlG (rlA mg)) mc mt mf wt (AuV.mk st id rq d ct tm nk) e 0 0 (D.l []) 0 0 (D.l []) tk))) (D.app (D.l []) (DoneV.did (doW (rlM (rlA mg)) (rlG (rlA mg)) mc mt mf wt (AuV.mk st id rq d ct tm nk) e 0 0 (D.l []) 0 0 (D.l []) tk)))) 0)),zi (WkV.ct (flwW (WkV.mk mru mc mt mf wt ec lo (AuV.st (DoneV.a (doW (rlM (rlA mg)) (rlG (rlA mg)) mc mt mf wt (AuV.mk st id rq d ct tm nk) e 0 0 (D.l []) 0 0 (D.l []) tk))) (AuV.id (DoneV.a (doW (rlM (rlA mg)) (rlG (rlA mg)) mc mt mf wt (AuV.mk st id rq d ct tm nk) e 0 0 (D.l []) 0 0 (D.l []) tk))) (AuV.rq (DoneV.a (doW (rlM (rlA mg)) (rlG (rlA mg)) mc mt mf wt (AuV.mk st id rq d ct tm nk) e 0 0 (D.l []) 0 0 (D.l []) tk))) (AuV.d (DoneV.a (doW (rlM (rlA mg)) (rlG (rlA mg)) mc mt mf wt (AuV.mk st id rq d ct tm nk) e 0 0 (D.l []) 0 0 (D.l []) tk))) (AuV.ct (DoneV.a (doW (rlM (rlA mg)) (rlG (rlA mg)) mc mt mf wt (AuV.mk st id rq d ct tm nk) e 0 0 (D.l []) 0 0 (D.l []) tk))) (AuV.tm (DoneV.a (doW (rlM (rlA mg)) (rlG (rlA mg)) mc mt mf wt (AuV.mk st id rq d ct tm nk) e 0 0 (D.l []) 0 0 (D.l []) tk))) (AuV.nk (DoneV.a (doW (rlM (rlA mg)) (rlG (rlA mg)) mc mt mf wt (AuV.mk st id rq d ct tm nk) e 0 0 (D.l []) 0 0 (D.l []) tk))) mg pr mu pe ne tk (D.app (D.l []) (DoneV.out (doW (rlM (rlA mg)) (rlG (rlA mg)) mc mt mf wt (AuV.mk st id rq d ct tm nk) e 0 0 (D.l []) 0 0 (D.l []) tk))) (D.app (D.l []) (DoneV.did (doW (rlM (rlA mg)) (rlG (rlA mg)) mc mt mf wt (AuV.mk st id rq d ct tm nk) e 0 0 (D.l []) 0 0 (D.l []) tk)))) 0)),zi (WkV.tm (flwW (WkV.mk mru mc mt mf wt ec lo (AuV.st (DoneV.a (doW (rlM (rlA mg)) (rlG (rlA mg)) mc mt mf wt (AuV.mk st id rq d ct tm nk) e 0 0 (D.l []) 0 0 (D.l []) tk))) (AuV.id (DoneV.a (doW (rlM (rlA mg)) (rlG (rlA mg)) mc mt mf wt (AuV.mk st id rq d ct tm nk) e 0 0 (D.l []) 0 0 (D.l []) tk))) (AuV.rq (DoneV.a (doW (rlM (rlA mg)) (rlG (rlA mg)) mc mt mf wt (AuV.mk st id rq d ct tm nk) e 0 0 (D.l []) 0 0 (D.l []) tk))) (AuV.d (DoneV.a (doW (rlM (rlA mg)) (rlG (rlA mg)) mc mt mf wt (AuV.mk st id rq d ct tm nk) e 0 0 (D.l []) 0 0 (D.l []) tk))) (AuV.ct (DoneV.a (doW (rlM (rlA mg)) (rlG (rlA mg)) mc mt mf wt (AuV.mk st id rq d ct tm nk) e 0 0 (D.l []) 0 0 (D.l []) tk))) (AuV.tm (DoneV.a (doW (rlM (rlA mg)) (rlG (rlA mg)) mc mt mf wt (AuV.mk st id rq d ct tm nk) e 0 0 (D.l []) 0 0 (D.l []) tk))) (AuV.nk (DoneV.a (doW (rlM (rlA mg)) (rlG (rlA mg)) mc mt mf wt (AuV.mk st id rq d ct tm nk) e 0 0 (D.l []) 0 0 (D.l []) tk))) mg pr mu pe ne tk (D.app (D.l []) (DoneV.out (doW (rlM (rlA mg)) (rlG (rlA mg)) mc mt mf wt (AuV.mk st id rq d ct tm nk) e 0 0 (D.l []) 0 0 (D.l []) tk))) (D.app (D.l []) (DoneV.did (doW (rlM (rlA mg)) (rlG (rlA mg)) mc mt mf wt (AuV.mk st id rq d ct tm nk) e 0 0 (D.l []) 0 0 (D.l []) tk)))) 0)),zi (WkV.nk (flwW (WkV.mk mru mc mt mf wt ec lo (AuV.st (DoneV.a (doW (rlM (rlA mg)) (rlG (rlA mg)) mc mt mf wt (AuV.mk st id rq d ct tm nk) e 0 0 (D.l []) 0 0 (D.l []) tk))) (AuV.id (DoneV.a (doW (rlM (rlA mg)) (rlG (rlA mg)) mc mt mf wt (AuV.mk st id rq d ct tm nk) e 0 0 (D.l []) 0 0 (D.l []) tk))) (AuV.rq (DoneV.a (doW (rlM (rlA mg)) (rlG (rlA mg)) mc mt mf wt (AuV.mk st id rq d ct tm nk) e 0 0 (D.l []) 0 0 (D.l []) tk))) (AuV.d (DoneV.a (doW (rlM (rlA mg)) (rlG (rlA mg)) mc mt mf wt (AuV.mk st id rq d ct tm nk) e 0 0 (D.l []) 0 0 (D.l []) tk))) (AuV.ct (DoneV.a (doW (rlM (rlA mg)) (rlG (rlA mg)) mc mt mf wt (AuV.mk st id rq d ct tm nk) e 0 0 (D.l []) 0 0 (D.l []) tk))) (AuV.tm (DoneV.a (doW (rlM (rlA mg)) (rlG (rlA mg)) mc mt mf wt (AuV.mk st id rq d ct tm nk) e 0 0 (D.l []) 0 0 (D.l []) tk))) (AuV.nk (DoneV.a (doW (rlM (rlA mg)) (rlG (rlA mg)) mc mt mf wt (AuV.mk st id rq d ct tm nk) e 0 0 (D.l []) 0 0 (D.l []) tk))) mg pr mu pe ne tk (D.app (D.l []) (DoneV.out (doW (rlM (rlA mg)) (rlG (rlA mg)) mc mt mf wt (AuV.mk st id rq d ct tm nk) e 0 0 (D.l []) 0 0 (D.l []) tk))) (D.app (D.l []) (DoneV.did (doW (rlM (rlA mg)) (rlG (rlA mg)) mc mt mf wt (AuV.mk st id rq d ct tm nk) e 0 0 (D.l []) 0 0 (D.l []) tk)))) 0)),zi (WkV.mg (flwW (WkV.mk mru mc mt mf wt ec lo (AuV.st (DoneV.a (doW (rlM (rlA mg)) (rlG (rlA mg)) mc mt mf wt (AuV.mk st id rq d ct tm nk) e 0 0 (D.l []) 0 0 (D.l []) tk))) (AuV.id (DoneV.a (doW (rlM (rlA mg)) (rlG (rlA mg)) mc mt mf wt (AuV.mk st id rq d ct tm nk) e 0 0 (D.l []) 0 0 (D.l []) tk))) (AuV.rq (DoneV.a (doW (rlM (rlA mg)) (rlG (rlA mg)) mc mt mf wt (AuV.mk st id rq d ct tm nk) e 0 0 (D.l []) 0 0 (D.l []) tk))) (AuV.d (DoneV.a (doW (rlM (rlA mg)) (rlG (rlA mg)) mc mt mf wt (AuV.mk st id rq d ct tm nk) e 0 0 (D.l []) 0 0 (D.l []) tk))) (AuV.ct (DoneV.a (doW (rlM (rlA mg)) (rlG (rlA mg)) mc mt mf wt (AuV.mk st id rq d ct tm nk) e 0 0 (D.l []) 0 0 (D.l []) tk))) (AuV.tm (DoneV.a (doW (rlM (rlA mg)) (rlG (rlA mg)) mc mt mf wt (AuV.mk st id rq d ct tm nk) e 0 0 (D.l []) 0 0 (D.l []) tk))) (AuV.nk (DoneV.a (doW (rlM (rlA mg)) (rlG (rlA mg)) mc mt mf wt (AuV.mk st id rq d ct tm nk) e 0 0 (D.l []) 0 0 (D.l []) tk))) mg pr mu pe ne tk (D.app (D.l []) (DoneV.out (doW (rlM (rlA mg)) (rlG (rlA mg)) mc mt mf wt (AuV.mk st id rq d ct tm nk) e 0 0 (D.l []) 0 0 (D.l []) tk))) (D.app (D.l []) (DoneV.did (doW (rlM (rlA mg)) (rlG (rlA mg)) mc mt mf wt (AuV.mk st id rq d ct tm nk) e 0 0 (D.l []) 0 0 (D.l []) tk)))) 0)),zi (WkV.pr (flwW (WkV.mk mru mc mt mf wt ec lo (AuV.st (DoneV.a (doW (rlM (rlA mg)) (rlG (rlA mg)) mc mt mf wt (AuV.mk st id rq d ct tm nk) e 0 0 (D.l []) 0 0 (D.l []) tk))) (AuV.id (DoneV.a (doW (rlM (rlA mg)) (rlG (rlA mg)) mc mt mf wt (AuV.mk st id rq d ct tm nk) e 0 0 (D.l []) 0 0 (D.l []) tk))) (AuV.rq (DoneV.a (doW (rlM (rlA mg)) (rlG (rlA mg)) mc mt mf wt (AuV.mk st id rq d ct tm nk) e 0 0 (D.l []) 0 0 (D.l []) tk))) (AuV.d (DoneV.a (doW (rlM (rlA mg)) (rlG (rlA mg)) mc mt mf wt (AuV.mk st id rq d ct tm nk) e 0 0 (D.l []) 0 0 (D.l []) tk))) (AuV.ct (DoneV.a (doW (rlM (rlA mg)) (rlG (rlA mg)) mc mt mf wt (AuV.mk st id rq d ct tm nk) e 0 0 (D.l []) 0 0 (D.l []) tk))) (AuV.tm (DoneV.a (doW (rlM (rlA mg)) (rlG (rlA mg)) mc mt mf wt (AuV.mk st id rq d ct tm nk) e 0 0 (D.l []) 0 0 (D.l []) tk))) (AuV.nk (DoneV.a (doW (rlM (rlA mg)) (rlG (rlA mg)) mc mt mf wt (AuV.mk st id rq d ct tm nk) e 0 0 (D.l []) 0 0 (D.l []) tk))) mg pr mu pe ne tk (D.app (D.l []) (DoneV.out (doW (rlM (rlA mg)) (rlG (rlA mg)) mc mt mf wt (AuV.mk st id rq d ct tm nk) e 0 0 (D.l []) 0 0 (D.l []) tk))) (D.app (D.l []) (DoneV.did (doW (rlM (rlA mg)) (rlG (rlA mg)) mc mt mf wt (AuV.mk st id rq d ct tm nk) e 0 0 (D.l []) 0 0 (D.l []) tk)))) 0)),zi (WkV.mu (flwW (WkV.mk mru mc mt mf wt ec lo (AuV.st (DoneV.a (doW (rlM (rlA mg)) (rlG (rlA mg)) mc mt mf wt (AuV.mk st id rq d ct tm nk) e 0 0 (D.l []) 0 0 (D.l []) tk))) (AuV.id (DoneV.a (doW (rlM (rlA mg)) (rlG (rlA mg)) mc mt mf wt (AuV.mk st id rq d ct tm nk) e 0 0 (D.l []) 0 0 (D.l []) tk))) (AuV.rq (DoneV.a (doW (rlM (rlA mg)) (rlG (rlA mg)) mc mt mf wt (AuV.mk st id rq d ct tm nk) e 0 0 (D.l []) 0 0 (D.l []) tk))) (AuV.d (DoneV.a (doW (rlM (rlA mg)) (rlG (rlA mg)) mc mt mf wt (AuV.mk st id rq d ct tm nk) e 0 0 (D.l []) 0 0 (D.l []) tk))) (AuV.ct (DoneV.a (doW (rlM (rlA mg)) (rlG (rlA mg)) mc mt mf wt (AuV.mk st id rq d ct tm nk) e 0 0 (D.l []) 0 0 (D.l []) tk))) (AuV.tm (DoneV.a (doW (rlM (rlA mg)) (rlG (rlA mg)) mc mt mf wt (AuV.mk st id rq d ct tm nk) e 0 0 (D.l []) 0 0 (D.l []) tk))) (AuV.nk (DoneV.a (doW (rlM (rlA mg)) (rlG (rlA mg)) mc mt mf wt (AuV.mk st id rq d ct tm nk) e 0 0 (D.l []) 0 0 (D.l []) tk))) mg pr mu pe ne tk (D.app (D.l []) (DoneV.out (doW (rlM (rlA mg)) (rlG (rlA mg)) mc mt mf wt (AuV.mk st id rq d ct tm nk) e 0 0 (D.l []) 0 0 (D.l []) tk))) (D.app (D.l []) (DoneV.did (doW (rlM (rlA mg)) (rlG (rlA mg)) mc mt mf wt (AuV.mk st id rq d ct tm nk) e 0 0 (D.l []) 0 0 (D.l []) tk)))) 0)),zi (WkV.pe (flwW (WkV.mk mru mc mt mf wt ec lo (AuV.st (DoneV.a (doW (rlM (rlA mg)) (rlG (rlA mg)) mc mt mf wt (AuV.mk st id rq d ct tm nk) e 0 0 (D.l []) 0 0 (D.l []) tk))) (AuV.id (DoneV.a (doW (rlM (rlA mg)) (rlG (rlA mg)) mc mt mf wt (AuV.mk st id rq d ct tm nk) e 0 0 (D.l []) 0 0 (D.l []) tk))) (AuV.rq (DoneV.a (doW (rlM (rlA mg)) (rlG (rlA mg)) mc mt mf wt (AuV.mk st id rq d ct tm nk) e 0 0 (D.l []) 0 0 (D.l []) tk))) (AuV.d (DoneV.a (doW (rlM (rlA mg)) (rlG (rlA mg)) mc mt mf wt (AuV.mk st id rq d ct tm nk) e 0 0 (D.l []) 0 0 (D.l []) tk))) (AuV.ct (DoneV.a (doW (rlM (rlA mg)) (rlG (rlA mg)) mc mt mf wt (AuV.mk st id rq d ct tm nk) e 0 0 (D.l []) 0 0 (D.l []) tk))) (AuV.tm (DoneV.a (doW (rlM (rlA mg)) (rlG (rlA mg)) mc mt mf wt (AuV.mk st id rq d ct tm nk) e 0 0 (D.l []) 0 0 (D.l []) tk))) (AuV.nk (DoneV.a (doW (rlM (rlA mg)) (rlG (rlA mg)) mc mt mf wt (AuV.mk st id rq d ct tm nk) e 0 0 (D.l []) 0 0 (D.l []) tk))) mg pr mu pe ne tk (D.app (D.l []) (DoneV.out (doW (rlM (rlA mg)) (rlG (rlA mg)) mc mt mf wt (AuV.mk st id rq d ct tm nk) e 0 0 (D.l []) 0 0 (D.l []) tk))) (D.app (D.l []) (DoneV.did (doW (rlM (rlA mg)) (rlG (rlA mg)) mc mt mf wt (AuV.mk st id rq d ct tm nk) e 0 0 (D.l []) 0 0 (D.l []) tk)))) 0)),zi (WkV.ne (flwW (WkV.mk mru mc mt mf wt ec lo (AuV.st (DoneV.a (doW (rlM (rlA mg)) (rlG (rlA mg)) mc mt mf wt (AuV.mk st id rq d ct tm nk) e 0 0 (D.l []) 0 0 (D.l []) tk))) (AuV.id (DoneV.a (doW (rlM (rlA mg)) (rlG (rlA mg)) mc mt mf wt (AuV.mk st id rq d ct tm nk) e 0 0 (D.l []) 0 0 (D.l []) tk))) (AuV.rq (DoneV.a (doW (rlM (rlA mg)) (rlG (rlA mg)) mc mt mf wt (AuV.mk st id rq d ct tm nk) e 0 0 (D.l []) 0 0 (D.l []) tk))) (AuV.d (DoneV.a (doW (rlM (rlA mg)) (rlG (rlA mg)) mc mt mf wt (AuV.mk st id rq d ct tm nk) e 0 0 (D.l []) 0 0 (D.l []) tk))) (AuV.ct (DoneV.a (doW (rlM (rlA mg)) (rlG (rlA mg)) mc mt mf wt (AuV.mk st id rq d ct tm nk) e 0 0 (D.l []) 0 0 (D.l []) tk))) (AuV.tm (DoneV.a (doW (rlM (rlA mg)) (rlG (rlA mg)) mc mt mf wt (AuV.mk st id rq d ct tm nk) e 0 0 (D.l []) 0 0 (D.l []) tk))) (AuV.nk (DoneV.a (doW (rlM (rlA mg)) (rlG (rlA mg)) mc mt mf wt (AuV.mk st id rq d ct tm nk) e 0 0 (D.l []) 0 0 (D.l []) tk))) mg pr mu pe ne tk (D.app (D.l []) (DoneV.out (doW (rlM (rlA mg)) (rlG (rlA mg)) mc mt mf wt (AuV.mk st id rq d ct tm nk) e 0 0 (D.l []) 0 0 (D.l []) tk))) (D.app (D.l []) (DoneV.did (doW (rlM (rlA mg)) (rlG (rlA mg)) mc mt mf wt (AuV.mk st id rq d ct tm nk) e 0 0 (D.l []) 0 0 (D.l []) tk)))) 0))],zs zC (WkV.out (flwW (WkV.mk mru mc mt mf wt ec lo (AuV.st (DoneV.a (doW (rlM (rlA mg)) (rlG (rlA mg)) mc mt mf wt (AuV.mk st id rq d ct tm nk) e 0 0 (D.l []) 0 0 (D.l []) tk))) (AuV.id (DoneV.a (doW (rlM (rlA mg)) (rlG (rlA mg)) mc mt mf wt (AuV.mk st id rq d ct tm nk) e 0 0 (D.l []) 0 0 (D.l []) tk))) (AuV.rq (DoneV.a (doW (rlM (rlA mg)) (rlG (rlA mg)) mc mt mf wt (AuV.mk st id rq d ct tm nk) e 0 0 (D.l []) 0 0 (D.l []) tk))) (AuV.d (DoneV.a (doW (rlM (rlA mg)) (rlG (rlA mg)) mc mt mf wt (AuV.mk st id rq d ct tm nk) e 0 0 (D.l []) 0 0 (D.l []) tk))) (AuV.ct (DoneV.a (doW (rlM (rlA mg)) (rlG (rlA mg)) mc mt mf wt (AuV.mk st id rq d ct tm nk) e 0 0 (D.l []) 0 0 (D.l []) tk))) (AuV.tm (DoneV.a (doW (rlM (rlA mg)) (rlG (rlA mg)) mc mt mf wt (AuV.mk st id rq d ct tm nk) e 0 0 (D.l []) 0 0 (D.l []) tk))) (AuV.nk (DoneV.a (doW (rlM (rlA mg)) (rlG (rlA mg)) mc mt mf wt (AuV.mk st id rq d ct tm nk) e 0 0 (D.l []) 0 0 (D.l []) tk))) mg pr mu pe ne tk (D.app (D.l []) (DoneV.out (doW (rlM (rlA mg)) (rlG (rlA mg)) mc mt mf wt (AuV.mk st id rq d ct tm nk) e 0 0 (D.l []) 0 0 (D.l []) tk))) (D.app (D.l []) (DoneV.did (doW (rlM (rlA mg)) (rlG (rlA mg)) mc mt mf wt (AuV.mk st id rq d ct tm nk) e 0 0 (D.l []) 0 0 (D.l []) tk)))) 0)),zs zN (WkV.did (flwW (WkV.mk mru mc mt mf wt ec lo (AuV.st (DoneV.a (doW (rlM (rlA mg)) (rlG (rlA mg)) mc mt mf wt (AuV.mk st id rq d ct tm nk) e 0 0 (D.l []) 0 0 (D.l []) tk))) (AuV.id (DoneV.a (doW (rlM (rlA mg)) (rlG (rlA mg)) mc mt mf wt (AuV.mk st id rq d ct tm nk) e 0 0 (D.l []) 0 0 (D.l []) tk))) (AuV.rq (DoneV.a (doW (rlM (rlA mg)) (rlG (rlA mg)) mc mt mf wt (AuV.mk st id rq d ct tm nk) e 0 0 (D.l []) 0 0 (D.l []) tk))) (AuV.d (DoneV.a (doW (rlM (rlA mg)) (rlG (rlA mg)) mc mt mf wt (AuV.mk st id rq d ct tm nk) e 0 0 (D.l []) 0 0 (D.l []) tk))) (AuV.ct (DoneV.a (doW (rlM (rlA mg)) (rlG (rlA mg)) mc mt mf wt (AuV.mk st id rq d ct tm nk) e 0 0 (D.l []) 0 0 (D.l []) tk))) (AuV.tm (DoneV.a (doW (rlM (rlA mg)) (rlG (rlA mg)) mc mt mf wt (AuV.mk st id rq d ct tm nk) e 0 0 (D.l []) 0 0 (D.l []) tk))) (AuV.nk (DoneV.a (doW (rlM (rlA mg)) (rlG (rlA mg)) mc mt mf wt (AuV.mk st id rq d ct tm nk) e 0 0 (D.l []) 0 0 (D.l []) tk))) mg pr mu pe ne tk (D.app (D.l []) (DoneV.out (doW (rlM (rlA mg)) (rlG (rlA mg)) mc mt mf wt (AuV.mk st id rq d ct tm nk) e 0 0 (D.l []) 0 0 (D.l []) tk))) (D.app (D.l []) (DoneV.did (doW (rlM (rlA mg)) (rlG (rlA mg)) mc mt mf wt (AuV.mk st id rq d ct tm nk) e 0 0 (D.l []) 0 0 (D.l []) tk)))) 0))])) (RT.bad 299)) (RT.bad 274))) (ldo_treeT_1 st id rq ct tm nk mg pr mu pe ne d)))
theorem ldo_tree (mru mc mt mf wt ec lo st id rq ct tm nk mg pr mu pe ne:Int) (d:D) (e tk:Int):treeF (evF Tryz.prog (gam (lcpG Tryz.prog)) (lam ([])) 100 50) [cnfA mru mc mt mf wt ec lo,lcpA st id rq d ct tm nk mg pr mu pe ne,ai e,ai tk]=ldo_treeT mru mc mt mf wt ec lo st id rq ct tm nk mg pr mu pe ne d e tk:=by rw [← fvF_eq Tryz.prog (gam (lcpG Tryz.prog)) (lam ([])) false 100 50]; kernel_rfl
abbrev rld_treeT_1 (mru mc mt mf wt ec lo st id rq ct tm nk mg pr mu pe ne:Int) (d:D) (e tk:Int):=RT.br (byOk (WkV.mk mru mc mt mf wt ec lo st id rq d ct tm nk mg pr mu pe ne tk (D.l []) (D.l []))) (RT.ok (AV.agg [zi (WkV.st (evW (WkV.mk mru mc mt mf wt ec lo st id rq d ct tm nk mg pr mu pe ne tk (D.l []) (D.l [])) (rlB mg) e 0 0 (D.l []) 0 0 (D.l []))),zi (WkV.id (evW (WkV.mk mru mc mt mf wt ec lo st id rq d ct tm nk mg pr mu pe ne tk (D.l []) (D.l [])) (rlB mg) e 0 0 (D.l []) 0 0 (D.l []))),zi (WkV.rq (evW (WkV.mk mru mc mt mf wt ec lo st id rq d ct tm nk mg pr mu pe ne tk (D.l []) (D.l [])) (rlB mg) e 0 0 (D.l []) 0 0 (D.l []))),zs zO (WkV.d (evW (WkV.mk mru mc mt mf wt ec lo st id rq d ct tm nk mg pr mu pe ne tk (D.l []) (D.l [])) (rlB mg) e 0 0 (D.l []) 0 0 (D.l []))),zi (WkV.ct (evW (WkV.mk mru mc mt mf wt ec lo st id rq d ct tm nk mg pr mu pe ne tk (D.l []) (D.l [])) (rlB mg) e 0 0 (D.l []) 0 0 (D.l []))),zi (WkV.tm (evW (WkV.mk mru mc mt mf wt ec lo st id rq d ct tm nk mg pr mu pe ne tk (D.l []) (D.l [])) (rlB mg) e 0 0 (D.l []) 0 0 (D.l []))),zi (WkV.nk (evW (WkV.mk mru mc mt mf wt ec lo st id rq d ct tm nk mg pr mu pe ne tk (D.l []) (D.l [])) (rlB mg) e 0 0 (D.l []) 0 0 (D.l []))),zi (WkV.mg (evW (WkV.mk mru mc mt mf wt ec lo st id rq d ct tm nk mg pr mu pe ne tk (D.l []) (D.l [])) (rlB mg) e 0 0 (D.l []) 0 0 (D.l []))),zi (WkV.pr (evW (WkV.mk mru mc mt mf wt ec lo st id rq d ct tm nk mg pr mu pe ne tk (D.l []) (D.l [])) (rlB mg) e 0 0 (D.l []) 0 0 (D.l []))),zi (WkV.mu (evW (WkV.mk mru mc mt mf wt ec lo st id rq d ct tm nk mg pr mu pe ne tk (D.l []) (D.l [])) (rlB mg) e 0 0 (D.l []) 0 0 (D.l []))),zi (WkV.pe (evW (WkV.mk mru mc mt mf wt ec lo st id rq d ct tm nk mg pr mu pe ne tk (D.l []) (D.l [])) (rlB mg) e 0 0 (D.l []) 0 0 (D.l []))),zi (WkV.ne (evW (WkV.mk mru mc mt mf wt ec lo st id rq d ct tm nk mg pr mu pe ne tk (D.l []) (D.l [])) (rlB mg) e 0 0 (D.l []) 0 0 (D.l []))),zs zC (WkV.out (evW (WkV.mk mru mc mt mf wt ec lo st id rq d ct tm nk mg pr mu pe ne tk (D.l []) (D.l [])) (rlB mg) e 0 0 (D.l []) 0 0 (D.l []))),zs zN (WkV.did (evW (WkV.mk mru mc mt mf wt ec lo st id rq d ct tm nk mg pr mu pe ne tk (D.l []) (D.l [])) (rlB mg) e 0 0 (D.l []) 0 0 (D.l [])))])) (RT.bad 306)
abbrev rld_treeT_2 (st id rq ct tm nk mg pr mu pe ne:Int) (d:D):=RT.ok (AV.agg [zi st,zi id,zi rq,zs zO d,zi ct,zi tm,zi nk,zi mg,zi pr,zi mu,zi pe,zi ne,zz,zz])
def rld_treeT (mru mc mt mf wt ec lo st id rq ct tm nk mg pr mu pe ne:Int) (d:D) (e tk:Int):RT AV :=
RT.br (lisB mru mc mt mf wt ec lo st id rq d ct tm nk mg pr mu pe ne) (RT.br (decide (0≤tk)) (RT.br (!decide (tk≤1099511627776)) (rld_treeT_2 st id rq ct tm nk mg pr mu pe ne d) (RT.br (e != 1) (RT.br (e != 2) (RT.br (e != 3) (RT.br (e != 4) (rld_treeT_2 st id rq ct tm nk mg pr mu pe ne d) (rld_treeT_1 mru mc mt mf wt ec lo st id rq ct tm nk mg pr mu pe ne d e tk)) (rld_treeT_1 mru mc mt mf wt ec lo st id rq ct tm nk mg pr mu pe ne d e tk)) (rld_treeT_1 mru mc mt mf wt ec lo st id rq ct tm nk mg pr mu pe ne d e tk)) (rld_treeT_1 mru mc mt mf wt ec lo st id rq ct tm nk mg pr mu pe ne d e tk))) (rld_treeT_2 st id rq ct tm nk mg pr mu pe ne d)) (rld_treeT_2 st id rq ct tm nk mg pr mu pe ne d)
theorem rld_tree (mru mc mt mf wt ec lo st id rq ct tm nk mg pr mu pe ne:Int) (d:D) (e tk:Int):treeF (evF Tryz.prog (gam (rl2G Tryz.prog)) (lam ([])) 100 72) [cnfA mru mc mt mf wt ec lo,lcpA st id rq d ct tm nk mg pr mu pe ne,ai e,ai tk]=rld_treeT mru mc mt mf wt ec lo st id rq ct tm nk mg pr mu pe ne d e tk:=by rw [← fvF_eq Tryz.prog (gam (rl2G Tryz.prog)) (lam ([])) false 100 72]; kernel_rfl
theorem evt_tree (e:Int):treeF (evF Tryz.prog (gam ([])) (lam ([])) 100 88) [.sl true acS (.l [.t [.ki 1],.t [.ki 2],.t [.ki 3],.t [.ki 4]]) none,ai e] =
RT.br (e==1) (RT.ok (AV.sc true (Value.bool true))) (RT.br (e==2) (RT.ok (AV.sc true (Value.bool true))) (RT.br (e==3) (RT.ok (AV.sc true (Value.bool true))) (RT.br (e==4) (RT.ok (AV.sc true (Value.bool true))) (RT.ok (AV.sc true (Value.bool false)))))):=by rw [← fvF_eq Tryz.prog (gam ([])) (lam ([])) false 100 88]; kernel_rfl
theorem app_lenS {a b:D} (h:a.len+b.len≤maxLen):(D.app a b).len=a.len+b.len:=by
  have e:(D.app a b).toL=a.toL ++ b.toL:=toL_l (by rw [List.length_append]; exact h)
  unfold D.len
  rw [e,List.length_append]
theorem app_get_r {a b:D} (h:a.len+b.len≤maxLen) (i:Nat):(D.app a b).get (a.len+i)=b.get i:=by
  have e:(D.app a b).toL=a.toL ++ b.toL:=toL_l (by rw [List.length_append]; exact h)
  unfold D.get
  rw [e,List.getD_eq_getElem?_getD,List.getD_eq_getElem?_getD,List.getElem?_append_right (by unfold D.len; omega)]
  congr 2
  unfold D.len; omega
theorem flP_eq {x y:D} {pe:Int}:∀ n,(∀ i,i<n→acI x i=acI y i)→flP x pe n=flP y pe n
  | 0,_=>rfl
  | n+1,h=>by
    show (bif acI x n==1||acI x n==2 then 0 else flP x pe n)=(bif acI y n==1||acI y n==2 then 0 else flP y pe n)
    rw [h n (by omega),flP_eq n fun i hi=>h i (by omega)]
theorem flN_eq {x y:D} {ec tk ne:Int}:∀ n,(∀ i,i<n→acI x i=acI y i)→flN x ec tk ne n=flN y ec tk ne n
  | 0,_=>rfl
  | n+1,h=>by
    show (bif acI x n==1 then (bif decide (0<ec) then IntKind.wrap .i64 (tk+ec) else 0) else bif acI x n==2 then 0 else flN x ec tk ne n)=(bif acI y n==1 then (bif decide (0<ec) then IntKind.wrap .i64 (tk+ec) else 0) else bif acI y n==2 then 0 else flN y ec tk ne n)
    rw [h n (by omega),flN_eq n fun i hi=>h i (by omega)]
theorem fol_w (w:WkV) (r:DoneV) (h:w.did.len+r.did.len≤maxLen):flwW { w with st:=r.a.st,id:=r.a.id,rq:=r.a.rq,d:=r.a.d,ct:=r.a.ct,tm:=r.a.tm,nk:=r.a.nk,out:=D.app w.out r.out,did:=D.app w.did r.did } (w.did.len:Int)=folW w r:=by
  have hl:=app_lenS h
  have e1:((D.app w.did r.did).sub w.did.len (D.app w.did r.did).len).len=r.did.len:=by rw [sub_len (by omega) (Nat.le_refl _)]; omega
  have e2:∀ i,i<r.did.len→acI ((D.app w.did r.did).sub w.did.len (D.app w.did r.did).len) i=acI r.did i:=fun i hi=>by
    unfold acI
    rw [sub_get (by omega),app_get_r h]
  unfold flwW folW
  simp only [Int.toNat_natCast]
  rw [e1,flP_eq _ e2,flN_eq _ e2]
theorem isEv_le {d:D} (h:isEv d=true) {kn kn':Bool}:Le (.sl kn acS d none) (.sl kn' acS (.l [.t [.ki 1],.t [.ki 2],.t [.ki 3],.t [.ki 4]]) none):=by
  unfold isEv at h
  split at h
  · rename_i hd
    exact le_raw hd
  · cases h
theorem evt_soundF:SoundF Tryz.prog 88 (pureS Tryz.prog 88 FEvt):=by
  refine pure_by (gs:=[]) (ls:=[]) mixed trivial trivial 88 100 fun args K ho H=>?_
  unfold FEvt at H
  split at H
  · rename_i d e
    cases hd:isEv d
    · rw [hd] at H; exact H.elim
    rw [hd] at H
    refine ⟨_,leL_cons (isEv_le (kn':=true) hd) fun _ _ h=>h,?_⟩
    rw [evt_tree]
    have go:∀ b,evB e=b→∃ y,Le (ab b) y∧K y:=by rintro b rfl; exact ⟨_,Le.refl _,H⟩
    have go':∀ b,evB e=b→∃ y,Le (.sc true (.bool b)) y∧K y:=fun b h=>by
      obtain ⟨y,h1,h2⟩:=go b h
      exact ⟨y,fun E v hv=>h1 E v (le_bool rfl E v hv),h2⟩
    refine ⟨fun h1=>go' _ ?_,fun h1=>⟨fun h2=>go' _ ?_,fun h2=>⟨fun h3=>go' _ ?_,fun h3=>⟨fun h4=>go' _ ?_,fun h4=>go' _ ?_⟩⟩⟩⟩
    all_goals unfold evB
    all_goals simp only [beq_iff_eq,beq_eq_false_iff_ne] at *
    all_goals first | (rw [decide_eq_true_eq]; omega) | (rw [decide_eq_false_iff_not]; omega)
  · exact H.elim
theorem lcpG_ok:GamL Tryz.prog (lcpG Tryz.prog):=⟨lcheck_soundF,own_soundF,auA_soundF,doR_of do_soundF,objT_ok flw_soundF,evt_soundF,trivial⟩
theorem rl2G_ok:GamL Tryz.prog (rl2G Tryz.prog):=⟨rlis_soundF,by_soundF,trivial⟩
theorem FLdo_inv {args:List AV} {K:AV→Prop} (H:(FLdo args).holds K):∃ (mru mc mt mf wt ec lo st id rq ct tm nk mg pr mu pe ne:Int) (d:D) (e tk:Int),args=[cnfA mru mc mt mf wt ec lo,lcpA st id rq d ct tm nk mg pr mu pe ne,ai e,ai tk]∧optsB d=true∧K (wkA (ldoW ⟨mru,mc,mt,mf,wt,ec,lo,st,id,rq,d,ct,tm,nk,mg,pr,mu,pe,ne,tk,.l [],.l []⟩ e)):=by
  unfold FLdo at H
  split at H
  · rename_i v0 v1 v2 v3 v4 v5 v6 v7 v8 v9 v10 v11 v12 v13 v14 v15 v16 v17 v18 v19 v20 hd
    obtain ⟨hc,H⟩:=need_holds H
    have:=cdAL_ok _ _ _ hd []
    exact ⟨v0.toI,v1.toI,v2.toI,v3.toI,v4.toI,v5.toI,v6.toI,v7.toI,v8.toI,v9.toI,v11.toI,v12.toI,v13.toI,v14.toI,v15.toI,v16.toI,v17.toI,v18.toI,v10,v19.toI,v20.toI,(congrArg Prod.fst this).symm,hc,H⟩
  · exact H.elim
theorem FRdo_inv {args:List AV} {K:AV→Prop} (H:(FRdo args).holds K):∃ (mru mc mt mf wt ec lo st id rq ct tm nk mg pr mu pe ne:Int) (d:D) (e tk:Int),args=[cnfA mru mc mt mf wt ec lo,lcpA st id rq d ct tm nk mg pr mu pe ne,ai e,ai tk]∧optsB d=true∧K (wkB (ldoW ⟨mru,mc,mt,mf,wt,ec,lo,st,id,rq,d,ct,tm,nk,mg,pr,mu,pe,ne,tk,.l [],.l []⟩ e)):=by
  unfold FRdo at H
  split at H
  · rename_i v0 v1 v2 v3 v4 v5 v6 v7 v8 v9 v10 v11 v12 v13 v14 v15 v16 v17 v18 v19 v20 hd
    obtain ⟨hc,H⟩:=need_holds H
    have:=cdAL_ok _ _ _ hd []
    exact ⟨v0.toI,v1.toI,v2.toI,v3.toI,v4.toI,v5.toI,v6.toI,v7.toI,v8.toI,v9.toI,v11.toI,v12.toI,v13.toI,v14.toI,v15.toI,v16.toI,v17.toI,v18.toI,v10,v19.toI,v20.toI,(congrArg Prod.fst this).symm,hc,H⟩
  · exact H.elim
theorem ldo_soundF:SoundF Tryz.prog 50 (pureS Tryz.prog 50 FLdo):=by
  refine pure_in (gs:=lcpG Tryz.prog) (ls:=[]) mixed lcpG_ok trivial 50 100 fun args K ho H=>?_
  obtain ⟨mru,mc,mt,mf,wt,ec,lo,st,id,rq,ct,tm,nk,mg,pr,mu,pe,ne,d,e,tk,hr,hb,H⟩:=FLdo_inv H
  rw [hr,ldo_tree]
  unfold ldo_treeT ldo_treeT_1
  have A:∀ b v,(evB e&&onB ⟨mru,mc,mt,mf,wt,ec,lo,st,id,rq,d,ct,tm,nk,mg,pr,mu,pe,ne,tk,.l [],.l []⟩)=b→(bif b then evW ⟨mru,mc,mt,mf,wt,ec,lo,st,id,rq,d,ct,tm,nk,mg,pr,mu,pe,ne,tk,.l [],.l []⟩ (rlA mg) e 0 0 (.l []) 0 0 (.l []) else ⟨mru,mc,mt,mf,wt,ec,lo,st,id,rq,d,ct,tm,nk,mg,pr,mu,pe,ne,tk,.l [],.l []⟩)=v→K (wkA v):=by
    rintro b v rfl rfl; exact H
  clear H
  unfold evW evR onB lisW at A
  dsimp only at A
  obtain ⟨f1,f2,f3⟩:=doW_fit (m:=rlM (rlA mg)) (g:=rlG (rlA mg)) (mc:=mc) (mt:=mt) (mf:=mf) (wt:=wt) (a:=⟨st,id,rq,d,ct,tm,nk⟩) (e:=e) (ic:=0) (ii:=0) (ix:=.l []) (ac:=0) (ax:=0) (ad:=.l []) (tk:=tk)
  rw [errIf_nz (by decide)]
  generalize doW (rlM (rlA mg)) (rlG (rlA mg)) mc mt mf wt ⟨st,id,rq,d,ct,tm,nk⟩ e 0 0 (.l []) 0 0 (.l []) tk=r at A f1 f2 f3 ⊢
  have f3:r.a.d=d:=f3
  have off:(evB e&&(lisB mru mc mt mf wt ec lo st id rq d ct tm nk mg pr mu pe ne&&(decide (0≤tk)&&decide (tk≤1099511627776))))=false→∃ y,Le (.tup [.agg [ai st,ai id,ai rq,asl opS d,ai ct,ai tm,ai nk,ai mg,ai pr,ai mu,ai pe,ai ne],.sc true (.slice none 0 0),.sc true (.slice none 0 0)]) y∧K y:=fun h =>
    ⟨_,le_two' (Le.refl _) (le_nil rfl) (le_nil rfl),A _ _ h rfl⟩
  refine ⟨fun h1=>off ?_,fun h1=>⟨fun h2=>off ?_,fun h2=>⟨fun h3=>⟨fun h4=>off ?_,fun h4=>holds_t (holds_t_of ?_ ⟨_,Le.refl _,A true _ ?_ (fol_w ⟨mru,mc,mt,mf,wt,ec,lo,st,id,rq,d,ct,tm,nk,mg,pr,mu,pe,ne,tk,.l [],.l []⟩ r ?_).symm⟩)⟩,fun h3=>off ?_⟩⟩⟩
  all_goals simp only [Bool.not_eq_true',Bool.not_eq_false'] at *
  · rw [h1]; rfl
  · rw [h2,Bool.false_and,Bool.and_false]
  · rw [h4,Bool.and_false,Bool.and_false,Bool.and_false]
  · unfold flwN
    dsimp only
    rw [f3,hb,Bool.and_true]
    exact det ⟨Int.le_refl _,Int.natCast_nonneg _⟩
  · rw [h1,h2,h3,h4]; rfl
  · show 0+r.did.len≤maxLen
    unfold maxLen; omega
  · rw [h3,Bool.false_and,Bool.and_false,Bool.and_false]
theorem mg_rng {mru mc mt mf wt ec lo st id rq ct tm nk mg pr mu pe ne:Int} {d:D} (h:lisB mru mc mt mf wt ec lo st id rq d ct tm nk mg pr mu pe ne=true):(1≤mg∧mg≤4294967295)∧0≤ec:=by
  obtain ⟨hf,hm,_⟩:=(lisB_iff _ _ _ _ _ _ _ _ _ _ _ _ _ _ _ _ _ _ _).1 h
  have:=(fitsB_iff _ _ _ _ _ _ _).1 hf
  exact ⟨hm,this.2.2.2.2.2.1.1⟩
theorem rl_same {m:Int} (h:1≤m∧m≤4294967295):rlB m=rlA m:=by
  unfold rlA rlB
  rw [oth_same (m:=m) (by omega) (by omega)]
theorem rld_soundF:SoundF Tryz.prog 72 (pureS Tryz.prog 72 FRdo):=by
  refine pure_in (gs:=rl2G Tryz.prog) (ls:=[]) mixed rl2G_ok trivial 72 100 fun args K ho H=>?_
  obtain ⟨mru,mc,mt,mf,wt,ec,lo,st,id,rq,ct,tm,nk,mg,pr,mu,pe,ne,d,e,tk,hr,hb,H⟩:=FRdo_inv H
  rw [hr,rld_tree]
  unfold rld_treeT rld_treeT_1 rld_treeT_2
  have A:∀ b v,(evB e&&onB ⟨mru,mc,mt,mf,wt,ec,lo,st,id,rq,d,ct,tm,nk,mg,pr,mu,pe,ne,tk,.l [],.l []⟩)=b→(bif b then evW ⟨mru,mc,mt,mf,wt,ec,lo,st,id,rq,d,ct,tm,nk,mg,pr,mu,pe,ne,tk,.l [],.l []⟩ (rlA mg) e 0 0 (.l []) 0 0 (.l []) else ⟨mru,mc,mt,mf,wt,ec,lo,st,id,rq,d,ct,tm,nk,mg,pr,mu,pe,ne,tk,.l [],.l []⟩)=v→K (wkB v):=by
    rintro b v rfl rfl; exact H
  clear H
  unfold onB lisW at A
  dsimp only at A
  have off:(evB e&&(lisB mru mc mt mf wt ec lo st id rq d ct tm nk mg pr mu pe ne&&(decide (0≤tk)&&decide (tk≤1099511627776))))=false→∃ y,Le (.agg [ai st,ai id,ai rq,asl opS d,ai ct,ai tm,ai nk,ai mg,ai pr,ai mu,ai pe,ai ne,.sc true (.slice none 0 0),.sc true (.slice none 0 0)]) y∧K y:=fun h =>
    ⟨_,le_agg (leL_cons (Le.refl _) (leL_cons (Le.refl _) (leL_cons (Le.refl _) (leL_cons (Le.refl _) (leL_cons (Le.refl _) (leL_cons (Le.refl _) (leL_cons (Le.refl _) (leL_cons (Le.refl _) (leL_cons (Le.refl _) (leL_cons (Le.refl _) (leL_cons (Le.refl _) (leL_cons (Le.refl _) (leL_cons (le_nil rfl) (leL_cons (le_nil rfl) leL_nil)))))))))))))),A _ _ h rfl⟩
  refine ⟨fun h1=>⟨fun h2=>⟨fun h3=>off ?c0,fun h3=>?_⟩,fun h2=>off ?c1⟩,fun h1=>off ?c2⟩
  case c0 =>
    rw [Bool.not_eq_true'] at h3
    rw [h3,Bool.and_false,Bool.and_false,Bool.and_false]
  case c1=>rw [h2,Bool.false_and,Bool.and_false,Bool.and_false]
  case c2=>rw [h1,Bool.false_and,Bool.and_false]
  rw [Bool.not_eq_false'] at h3
  obtain ⟨hm,hec⟩:=mg_rng h1
  have hB:byOk ⟨mru,mc,mt,mf,wt,ec,lo,st,id,rq,d,ct,tm,nk,mg,pr,mu,pe,ne,tk,.l [],.l []⟩=true:=by
    unfold byOk
    dsimp only
    rw [hb,Bool.and_true]
    exact det ⟨hec,Nat.zero_le _,Nat.zero_le _⟩
  rw [hB,rl_same hm]
  have on:evB e=true→∃ y,Le (wkB (evW ⟨mru,mc,mt,mf,wt,ec,lo,st,id,rq,d,ct,tm,nk,mg,pr,mu,pe,ne,tk,.l [],.l []⟩ (rlA mg) e 0 0 (.l []) 0 0 (.l []))) y∧K y:=fun h=>⟨_,Le.refl _,A true _ (by rw [h,h1,h2,h3]; rfl) rfl⟩
  have ev:∀ k,(e != k)=false→1≤k→k≤4→evB e=true:=fun k h h1 h2=>by
    rw [bne_eq_false_iff_eq] at h
    exact det ⟨by omega,by omega⟩
  refine ⟨fun e1=>⟨fun e2=>⟨fun e3=>⟨fun e4=>off ?_,fun e4=>holds_t (on (ev 4 e4 (by omega) (by omega)))⟩,fun e3=>holds_t (on (ev 3 e3 (by omega) (by omega)))⟩,fun e2=>holds_t (on (ev 2 e2 (by omega) (by omega)))⟩,fun e1=>holds_t (on (ev 1 e1 (by omega) (by omega)))⟩
  simp only [bne_iff_ne] at e1 e2 e3 e4
  have:evB e=false:=def_ (by omega)
  rw [this]; rfl
def lrjG (P:Program):List (FuncId×Spec):=(70,pureS P 70 FPro7) :: lcpG P
def rljG (P:Program):List (FuncId×Spec):=(112,pureS P 112 FPro7) :: rl2G P
def pkE (p:Int) (x:D) (i:Int):D:=.t [.i (rej7C (pro7E p x i) 8),.i (rej7C (pro7E p x i) i),pro7D p x i]
def lrjW (w:WkV) (p:Int) (x:D):WkV:=bif lisW w&&(w.st==9&&pro7E p x (numN w.id)==0) then { w with id:=numN w.id,out:=.l [pkE p x (numN w.id)] } else w
abbrev wkR (w:WkV):AV:=.tup [.agg [ai w.st,ai w.id,ai w.rq,asl opS w.d,ai w.ct,ai w.tm,ai w.nk,ai w.mg,ai w.pr,ai w.mu,ai w.pe,ai w.ne],asl ctS w.out]
def lrjCd:List Cd:=[.agg [.int .i64,.int .i64,.int .i64,.int .i64,.int .i64,.int .i64,.int .i64],.agg [.int .i64,.int .i64,.int .i64,.sl opS,.int .i64,.int .i64,.int .i64,.int .i64,.int .i64,.int .i64,.int .i64,.int .i64],.agg [.int .i64,.sl byS]]
def FLrj (args:List AV):RT AV:=match cdAL lrjCd args with
  | some [v0,v1,v2,v3,v4,v5,v6,v7,v8,v9,v10,v11,v12,v13,v14,v15,v16,v17,v18,v19,v20]=>.ok (wkR (lrjW ⟨v0.toI,v1.toI,v2.toI,v3.toI,v4.toI,v5.toI,v6.toI,v7.toI,v8.toI,v9.toI,v10,v11.toI,v12.toI,v13.toI,v14.toI,v15.toI,v16.toI,v17.toI,v18.toI,0,.l [],.l []⟩ v19.toI v20))
  | _=>.bad 308
def FRrj (args:List AV):RT AV:=match cdAL lrjCd args with
  | some [v0,v1,v2,v3,v4,v5,v6,v7,v8,v9,v10,v11,v12,v13,v14,v15,v16,v17,v18,v19,v20]=>.ok (wkB (lrjW ⟨v0.toI,v1.toI,v2.toI,v3.toI,v4.toI,v5.toI,v6.toI,v7.toI,v8.toI,v9.toI,v10,v11.toI,v12.toI,v13.toI,v14.toI,v15.toI,v16.toI,v17.toI,v18.toI,0,.l [],.l []⟩ v19.toI v20))
  | _=>.bad 308
abbrev lrj_treeT_1 (st id rq:Int) (d:D) (ct tm nk mg pr mu pe ne p:Int) (x:D):=RT.br (pro7E p x (Int.tmod (IntKind.wrap IntKind.i64 (id+1)) 256) != 0) (RT.ok (AV.tup [AV.agg [zi st,zi id,zi rq,zs zO d,zi ct,zi tm,zi nk,zi mg,zi pr,zi mu,zi pe,zi ne],zz])) (RT.ok (AV.tup [AV.agg [zi st,zi (Int.tmod (IntKind.wrap IntKind.i64 (id+1)) 256),zi rq,zs zO d,zi ct,zi tm,zi nk,zi mg,zi pr,zi mu,zi pe,zi ne],AV.sl true zC (D.app (D.l []) (D.l [D.t [D.i (rej7C (pro7E p x (Int.tmod (IntKind.wrap IntKind.i64 (id+1)) 256)) 8),D.i (rej7C (pro7E p x (Int.tmod (IntKind.wrap IntKind.i64 (id+1)) 256)) (Int.tmod (IntKind.wrap IntKind.i64 (id+1)) 256)),pro7D p x (Int.tmod (IntKind.wrap IntKind.i64 (id+1)) 256)]])) none]))
abbrev lrj_treeT_2 (st id rq:Int) (d:D) (ct tm nk mg pr mu pe ne:Int):=RT.ok (AV.tup [AV.agg [zi st,zi id,zi rq,zs zO d,zi ct,zi tm,zi nk,zi mg,zi pr,zi mu,zi pe,zi ne],zz])
def lrj_treeT (mru mc mt mf wt ec lo st id rq:Int) (d:D) (ct tm nk mg pr mu pe ne p:Int) (x:D):RT AV :=
RT.br (errIf (lisB mru mc mt mf wt ec lo st id rq d ct tm nk mg pr mu pe ne) 170 != 0) (lrj_treeT_2 st id rq d ct tm nk mg pr mu pe ne) (RT.br (st != 9) (lrj_treeT_2 st id rq d ct tm nk mg pr mu pe ne) (RT.all (RT.br true (RT.all (lrj_treeT_1 st id rq d ct tm nk mg pr mu pe ne p x) (lrj_treeT_1 st id rq d ct tm nk mg pr mu pe ne p x)) (RT.bad 21)) (RT.br true (lrj_treeT_1 st id rq d ct tm nk mg pr mu pe ne p x) (RT.bad 21))))
theorem lrj_tree (mru mc mt mf wt ec lo st id rq:Int) (d:D) (ct tm nk mg pr mu pe ne p:Int) (x:D):treeF (evF Tryz.prog (gam (lrjG Tryz.prog)) (lam ([])) 100 33) [cnfA mru mc mt mf wt ec lo,lcpA st id rq d ct tm nk mg pr mu pe ne,.agg [ai p,asl byS x]]=lrj_treeT mru mc mt mf wt ec lo st id rq d ct tm nk mg pr mu pe ne p x:=by rw [← fvF_eq Tryz.prog (gam (lrjG Tryz.prog)) (lam ([])) false 100 33]; kernel_rfl
abbrev rlj_treeT_1 (st id rq:Int) (d:D) (ct tm nk mg pr mu pe ne:Int):=RT.ok (AV.agg [zi st,zi id,zi rq,zs zO d,zi ct,zi tm,zi nk,zi mg,zi pr,zi mu,zi pe,zi ne,zz,zz])
def rlj_treeT (mru mc mt mf wt ec lo st id rq:Int) (d:D) (ct tm nk mg pr mu pe ne p:Int) (x:D):RT AV :=
RT.br (!lisB mru mc mt mf wt ec lo st id rq d ct tm nk mg pr mu pe ne) (rlj_treeT_1 st id rq d ct tm nk mg pr mu pe ne) (RT.br (st != 9) (rlj_treeT_1 st id rq d ct tm nk mg pr mu pe ne) (RT.br true (RT.br (pro7E p x (Int.tmod (IntKind.wrap IntKind.i64 (id+1)) 256) != 0) (rlj_treeT_1 st id rq d ct tm nk mg pr mu pe ne) (RT.br true (RT.ok (AV.agg [zi st,zi (Int.tmod (IntKind.wrap IntKind.i64 (id+1)) 256),zi rq,zs zO d,zi ct,zi tm,zi nk,zi mg,zi pr,zi mu,zi pe,zi ne,AV.sl true zC (D.l [D.t [D.i (rej7C (pro7E p x (Int.tmod (IntKind.wrap IntKind.i64 (id+1)) 256)) 8),D.i (rej7C (pro7E p x (Int.tmod (IntKind.wrap IntKind.i64 (id+1)) 256)) (Int.tmod (IntKind.wrap IntKind.i64 (id+1)) 256)),pro7D p x (Int.tmod (IntKind.wrap IntKind.i64 (id+1)) 256)]]) none,zz])) (RT.bad 21))) (RT.bad 21)))
theorem rlj_tree (mru mc mt mf wt ec lo st id rq:Int) (d:D) (ct tm nk mg pr mu pe ne p:Int) (x:D):treeF (evF Tryz.prog (gam (rljG Tryz.prog)) (lam ([])) 100 74) [cnfA mru mc mt mf wt ec lo,lcpA st id rq d ct tm nk mg pr mu pe ne,.agg [ai p,asl byS x]]=rlj_treeT mru mc mt mf wt ec lo st id rq d ct tm nk mg pr mu pe ne p x:=by rw [← fvF_eq Tryz.prog (gam (rljG Tryz.prog)) (lam ([])) false 100 74]; kernel_rfl
theorem FLrj_inv {args:List AV} {K:AV→Prop} (H:(FLrj args).holds K):∃ (mru mc mt mf wt ec lo st id rq ct tm nk mg pr mu pe ne:Int) (d:D) (p:Int) (x:D),args=[cnfA mru mc mt mf wt ec lo,lcpA st id rq d ct tm nk mg pr mu pe ne,.agg [ai p,asl byS x]]∧K (wkR (lrjW ⟨mru,mc,mt,mf,wt,ec,lo,st,id,rq,d,ct,tm,nk,mg,pr,mu,pe,ne,0,.l [],.l []⟩ p x)):=by
  unfold FLrj at H
  split at H
  · rename_i v0 v1 v2 v3 v4 v5 v6 v7 v8 v9 v10 v11 v12 v13 v14 v15 v16 v17 v18 v19 v20 hd
    have:=cdAL_ok _ _ _ hd []
    exact ⟨v0.toI,v1.toI,v2.toI,v3.toI,v4.toI,v5.toI,v6.toI,v7.toI,v8.toI,v9.toI,v11.toI,v12.toI,v13.toI,v14.toI,v15.toI,v16.toI,v17.toI,v18.toI,v10,v19.toI,v20,(congrArg Prod.fst this).symm,H⟩
  · exact H.elim
theorem FRrj_inv {args:List AV} {K:AV→Prop} (H:(FRrj args).holds K):∃ (mru mc mt mf wt ec lo st id rq ct tm nk mg pr mu pe ne:Int) (d:D) (p:Int) (x:D),args=[cnfA mru mc mt mf wt ec lo,lcpA st id rq d ct tm nk mg pr mu pe ne,.agg [ai p,asl byS x]]∧K (wkB (lrjW ⟨mru,mc,mt,mf,wt,ec,lo,st,id,rq,d,ct,tm,nk,mg,pr,mu,pe,ne,0,.l [],.l []⟩ p x)):=by
  unfold FRrj at H
  split at H
  · rename_i v0 v1 v2 v3 v4 v5 v6 v7 v8 v9 v10 v11 v12 v13 v14 v15 v16 v17 v18 v19 v20 hd
    have:=cdAL_ok _ _ _ hd []
    exact ⟨v0.toI,v1.toI,v2.toI,v3.toI,v4.toI,v5.toI,v6.toI,v7.toI,v8.toI,v9.toI,v11.toI,v12.toI,v13.toI,v14.toI,v15.toI,v16.toI,v17.toI,v18.toI,v10,v19.toI,v20,(congrArg Prod.fst this).symm,H⟩
  · exact H.elim
theorem lrjG_ok:GamL Tryz.prog (lrjG Tryz.prog):=⟨pro7_soundF,lcpG_ok⟩
theorem rljG_ok:GamL Tryz.prog (rljG Tryz.prog):=⟨rpro7_soundF,rl2G_ok⟩
theorem app_one (e:D):D.app (.l []) (.l [e])=.l [e]:=by
  unfold D.app
  rw [show (D.l []).toL=[] from toL_l (Nat.zero_le _),show (D.l [e]).toL=[e] from toL_l (by unfold maxLen; simp)]; rfl
theorem lrj_soundF:SoundF Tryz.prog 33 (pureS Tryz.prog 33 FLrj):=by
  refine pure_in (gs:=lrjG Tryz.prog) (ls:=[]) mixed lrjG_ok trivial 33 100 fun args K ho H=>?_
  obtain ⟨mru,mc,mt,mf,wt,ec,lo,st,id,rq,ct,tm,nk,mg,pr,mu,pe,ne,d,p,x,hr,H⟩:=FLrj_inv H
  rw [hr,lrj_tree]
  unfold lrj_treeT lrj_treeT_1 lrj_treeT_2
  have A:∀ b v,(lisB mru mc mt mf wt ec lo st id rq d ct tm nk mg pr mu pe ne&&(st==9&&pro7E p x (numN id)==0))=b→(bif b then (⟨mru,mc,mt,mf,wt,ec,lo,st,numN id,rq,d,ct,tm,nk,mg,pr,mu,pe,ne,0,.l [pkE p x (numN id)],.l []⟩:WkV) else ⟨mru,mc,mt,mf,wt,ec,lo,st,id,rq,d,ct,tm,nk,mg,pr,mu,pe,ne,0,.l [],.l []⟩)=v→K (wkR v):=by
    rintro b v rfl rfl; exact H
  rw [errIf_nz (by decide)]
  have off:(lisB mru mc mt mf wt ec lo st id rq d ct tm nk mg pr mu pe ne&&(st==9&&pro7E p x (numN id)==0))=false→∃ y,Le (.tup [.agg [ai st,ai id,ai rq,asl opS d,ai ct,ai tm,ai nk,ai mg,ai pr,ai mu,ai pe,ai ne],.sc true (.slice none 0 0)]) y∧K y:=fun h=>⟨_,le_two (Le.refl _) (le_nil rfl),A _ _ h rfl⟩
  rw [app_one]
  have two:∀ Z:RT AV,lisB mru mc mt mf wt ec lo st id rq d ct tm nk mg pr mu pe ne=true→(st==9)=true→(RT.br (pro7E p x (numN id) != 0) (.ok (.tup [.agg [ai st,ai id,ai rq,asl opS d,ai ct,ai tm,ai nk,ai mg,ai pr,ai mu,ai pe,ai ne],.sc true (.slice none 0 0)])) (.ok (.tup [.agg [ai st,ai (numN id),ai rq,asl opS d,ai ct,ai tm,ai nk,ai mg,ai pr,ai mu,ai pe,ai ne],.sl true ctS (.l [pkE p x (numN id)]) none]))).holds fun r=>∃ y,Le r y∧K y:=fun _ h1 h2=>⟨fun h3=>off (by
      rw [bne,Bool.not_eq_true'] at h3
      rw [h3,Bool.and_false,Bool.and_false]),fun h3=>⟨_,le_two (Le.refl _) (le_raw rfl),A true _ (by
      rw [bne,Bool.not_eq_false'] at h3
      rw [h1,h2,h3]; rfl) rfl⟩⟩
  refine ⟨fun h1=>off ?_,fun h1=>⟨fun h2=>off ?_,fun h2=>?_⟩⟩
  · rw [Bool.not_eq_true'] at h1
    rw [h1]; rfl
  · rw [bne,Bool.not_eq_true'] at h2
    rw [h2,Bool.false_and,Bool.and_false]
  · rw [Bool.not_eq_false'] at h1
    rw [bne,Bool.not_eq_false'] at h2
    exact ⟨holds_t ⟨two (.bad 0) h1 h2,two (.bad 0) h1 h2⟩,holds_t (two (.bad 0) h1 h2)⟩
theorem rlj_soundF:SoundF Tryz.prog 74 (pureS Tryz.prog 74 FRrj):=by
  refine pure_in (gs:=rljG Tryz.prog) (ls:=[]) mixed rljG_ok trivial 74 100 fun args K ho H=>?_
  obtain ⟨mru,mc,mt,mf,wt,ec,lo,st,id,rq,ct,tm,nk,mg,pr,mu,pe,ne,d,p,x,hr,H⟩:=FRrj_inv H
  rw [hr,rlj_tree]
  unfold rlj_treeT rlj_treeT_1
  have A:∀ b v,(lisB mru mc mt mf wt ec lo st id rq d ct tm nk mg pr mu pe ne&&(st==9&&pro7E p x (numN id)==0))=b→(bif b then (⟨mru,mc,mt,mf,wt,ec,lo,st,numN id,rq,d,ct,tm,nk,mg,pr,mu,pe,ne,0,.l [pkE p x (numN id)],.l []⟩:WkV) else ⟨mru,mc,mt,mf,wt,ec,lo,st,id,rq,d,ct,tm,nk,mg,pr,mu,pe,ne,0,.l [],.l []⟩)=v→K (wkB v):=by
    rintro b v rfl rfl; exact H
  have off:(lisB mru mc mt mf wt ec lo st id rq d ct tm nk mg pr mu pe ne&&(st==9&&pro7E p x (numN id)==0))=false→∃ y,Le (.agg [ai st,ai id,ai rq,asl opS d,ai ct,ai tm,ai nk,ai mg,ai pr,ai mu,ai pe,ai ne,.sc true (.slice none 0 0),.sc true (.slice none 0 0)]) y∧K y:=fun h =>
    ⟨_,le_agg (leL_cons (Le.refl _) (leL_cons (Le.refl _) (leL_cons (Le.refl _) (leL_cons (Le.refl _) (leL_cons (Le.refl _) (leL_cons (Le.refl _) (leL_cons (Le.refl _) (leL_cons (Le.refl _) (leL_cons (Le.refl _) (leL_cons (Le.refl _) (leL_cons (Le.refl _) (leL_cons (Le.refl _) (leL_cons (le_nil rfl) (leL_cons (le_nil rfl) leL_nil)))))))))))))),A _ _ h rfl⟩
  refine ⟨fun h1=>off ?_,fun h1=>⟨fun h2=>off ?_,fun h2=>holds_t ⟨fun h3=>off ?_,fun h3=>holds_t ⟨_,le_agg (leL_cons (Le.refl _) (leL_cons (Le.refl _) (leL_cons (Le.refl _) (leL_cons (Le.refl _) (leL_cons (Le.refl _) (leL_cons (Le.refl _) (leL_cons (Le.refl _) (leL_cons (Le.refl _) (leL_cons (Le.refl _) (leL_cons (Le.refl _) (leL_cons (Le.refl _) (leL_cons (Le.refl _) (leL_cons (le_raw rfl) (leL_cons (le_nil rfl) leL_nil)))))))))))))),A true _ ?_ rfl⟩⟩⟩⟩
  all_goals simp only [bne,Bool.not_eq_true',Bool.not_eq_false'] at *
  · rw [h1]; rfl
  · rw [h2,Bool.false_and,Bool.and_false]
  · rw [show (pro7E p x (numN id)==0)=false from h3,Bool.and_false,Bool.and_false]
  · rw [h1,h2,show (pro7E p x (numN id)==0)=true from h3]; rfl
def FTmoR:List AV→RT AV
  | [.agg [.sl false [.int .i64,.int .i64,.int .i64,.int .i64,.int .i64,.int .i64,.bool] r none,.sc false (.int .i64 mc),.sc false (.int .i64 mt),.sc false (.int .i64 mf),.sc false (.int .i64 wt)],
     .agg [.sc false (.int .i64 st),.sc false (.int .i64 id),.sc false (.int .i64 rq),.sl false [.int .i64,.sl [.int .u8]] d none,.sc false (.int .i64 ct),.sc false (.int .i64 tm),.sc false (.int .i64 nk)],.sc false (.int .i64 tk)]=>need false (isRl r) 275 (.ok (doneA (tmW (rlM r) (rlG r) mc mt mf wt ⟨st,id,rq,d,ct,tm,nk⟩ tk)))
  | _=>.bad 275
def ltkG (P:Program):List (FuncId×Spec):=(57,pureS P 57 FTmoR) :: (38,vecS P 38 5 byS FPutV) :: lcpG P
def rtkG (P:Program):List (FuncId×Spec):=(113,pureS P 113 FTmoR) :: (42,vecS P 42 5 byS FPutV) :: (13,pureS P 13 FAuB) :: (114,pureS P 114 FFls) :: rl2G P
def ltkL:List (FuncId×Nat×BSpec):=[(58,2003,cutX)]
def tmR (w:WkV):DoneV:=tmW (rlM (rlA w.mg)) (rlG (rlA w.mg)) w.mc w.mt w.mf w.wt ⟨w.st,w.id,w.rq,w.d,w.ct,w.tm,w.nk⟩ w.tick
def ecE (i m:Int):D:=.t [.ki 9,.i i,.kl [.i (byI m 4 0),.i (byI m 4 1),.i (byI m 4 2),.i (byI m 4 3)]]
def ecoW (w:WkV):WkV:={ w with id:=numN w.id,pe:=IntKind.wrap .i64 (w.pe+1),ne:=IntKind.wrap .i64 (w.tick+w.ec),out:=D.app w.out (.l [ecE (numN w.id) (IntKind.wrap .u64 w.mg)]) }
def endW (w:WkV):WkV:=evW (evW w (rlA w.mg) 2 0 0 (.l []) 0 0 (.l [])) (rlA (evW w (rlA w.mg) 2 0 0 (.l []) 0 0 (.l [])).mg) 4 0 0 (.l []) 0 0 (.l [])
def tik1 (w:WkV):WkV:=bif w.st==9&&(w.ne != 0&&decide (w.ne≤w.tick)) then (bif decide (w.lo≤w.pe) then endW w else ecoW w) else w
def tikW (w:WkV):WkV:=bif onB w then tik1 (folW w (tmR w)) else w
def tikCd:List Cd:=[.agg [.int .i64,.int .i64,.int .i64,.int .i64,.int .i64,.int .i64,.int .i64],.agg [.int .i64,.int .i64,.int .i64,.sl opS,.int .i64,.int .i64,.int .i64,.int .i64,.int .i64,.int .i64,.int .i64,.int .i64],.int .i64]
def FLtk (args:List AV):RT AV:=match cdAL tikCd args with
  | some [v0,v1,v2,v3,v4,v5,v6,v7,v8,v9,v10,v11,v12,v13,v14,v15,v16,v17,v18,v19]=>need false (optsB v10) 309 (.ok (wkA (tikW ⟨v0.toI,v1.toI,v2.toI,v3.toI,v4.toI,v5.toI,v6.toI,v7.toI,v8.toI,v9.toI,v10,v11.toI,v12.toI,v13.toI,v14.toI,v15.toI,v16.toI,v17.toI,v18.toI,v19.toI,.l [],.l []⟩)))
  | _=>.bad 309
def FRtk (args:List AV):RT AV:=match cdAL tikCd args with
  | some [v0,v1,v2,v3,v4,v5,v6,v7,v8,v9,v10,v11,v12,v13,v14,v15,v16,v17,v18,v19]=>need false (optsB v10) 309 (.ok (wkB (tikW ⟨v0.toI,v1.toI,v2.toI,v3.toI,v4.toI,v5.toI,v6.toI,v7.toI,v8.toI,v9.toI,v10,v11.toI,v12.toI,v13.toI,v14.toI,v15.toI,v16.toI,v17.toI,v18.toI,v19.toI,.l [],.l []⟩)))
  | _=>.bad 309
theorem ltkL_ok:LamL Tryz.prog ltkL:=⟨cutX_ok,trivial⟩
abbrev ltk_treeT_1 (st id rq:Int) (d:D) (ct tm nk mg pr mu pe ne:Int):=RT.ok (AV.tup [AV.agg [zi st,zi id,zi rq,zs zO d,zi ct,zi tm,zi nk,zi mg,zi pr,zi mu,zi pe,zi ne],zz,zz])
def ltk_treeT (mru mc mt mf wt ec lo st id rq:Int) (d:D) (ct tm nk mg pr mu pe ne tk:Int):RT AV :=
let w_0:=tmW (rlM (rlA mg)) (rlG (rlA mg)) mc mt mf wt (AuV.mk st id rq d ct tm nk) tk; let w_1:=flwW (WkV.mk mru mc mt mf wt ec lo w_0.a.st w_0.a.id w_0.a.rq w_0.a.d w_0.a.ct w_0.a.tm w_0.a.nk mg pr mu pe ne tk (D.app (D.l []) w_0.out) (D.app (D.l []) w_0.did)) 0; let w_2:=doW (rlM (rlA w_1.mg)) (rlG (rlA w_1.mg)) w_1.mc w_1.mt w_1.mf w_1.wt (AuV.mk w_1.st w_1.id w_1.rq w_1.d w_1.ct w_1.tm w_1.nk) 2 0 0 (D.l []) 0 0 (D.l []) w_1.tick; let w_3:=flwW (WkV.mk w_1.mru w_1.mc w_1.mt w_1.mf w_1.wt w_1.ec w_1.lo w_2.a.st w_2.a.id w_2.a.rq w_2.a.d w_2.a.ct w_2.a.tm w_2.a.nk w_1.mg w_1.pr w_1.mu w_1.pe w_1.ne w_1.tick (D.app w_1.out w_2.out) (D.app w_1.did w_2.did)) (↑(D.len w_1.did):Int); let w_4:=doW (rlM (rlA w_3.mg)) (rlG (rlA w_3.mg)) w_3.mc w_3.mt w_3.mf w_3.wt (AuV.mk w_3.st w_3.id w_3.rq w_3.d w_3.ct w_3.tm w_3.nk) 4 0 0 (D.l []) 0 0 (D.l []) w_3.tick; let w_5:=flwW (WkV.mk w_3.mru w_3.mc w_3.mt w_3.mf w_3.wt w_3.ec w_3.lo w_4.a.st w_4.a.id w_4.a.rq w_4.a.d w_4.a.ct w_4.a.tm w_4.a.nk w_3.mg w_3.pr w_3.mu w_3.pe w_3.ne w_3.tick (D.app w_3.out w_4.out) (D.app w_3.did w_4.did)) (↑(D.len w_3.did):Int); RT.br (errIf (lisB mru mc mt mf wt ec lo st id rq d ct tm nk mg pr mu pe ne) 170 != 0) (ltk_treeT_1 st id rq d ct tm nk mg pr mu pe ne) (RT.br (decide (0≤tk)) (RT.br (!decide (tk≤1099511627776)) (ltk_treeT_1 st id rq d ct tm nk mg pr mu pe ne) (RT.br true (RT.br (flwN (WkV.mk mru mc mt mf wt ec lo w_0.a.st w_0.a.id w_0.a.rq w_0.a.d w_0.a.ct w_0.a.tm w_0.a.nk mg pr mu pe ne tk (D.app (D.l []) w_0.out) (D.app (D.l []) w_0.did)) 0) (RT.br (WkV.st w_1==9) (RT.br (WkV.ne w_1 != 0) (RT.br (decide (WkV.ne w_1≤tk)) (RT.br (decide (WkV.lo w_1≤WkV.pe w_1)) (RT.br true (RT.br (decide ((D.len w_1.out+D.len w_2.out)*40≤140737488355328)) (RT.br (decide ((D.len w_1.did+D.len w_2.did)*8≤140737488355328)) (RT.br (flwN (WkV.mk w_1.mru w_1.mc w_1.mt w_1.mf w_1.wt w_1.ec w_1.lo w_2.a.st w_2.a.id w_2.a.rq w_2.a.d w_2.a.ct w_2.a.tm w_2.a.nk w_1.mg w_1.pr w_1.mu w_1.pe w_1.ne w_1.tick (D.app w_1.out w_2.out) (D.app w_1.did w_2.did)) (↑(D.len w_1.did):Int)) (RT.br true (RT.br (decide ((D.len w_3.out+D.len w_4.out)*40≤140737488355328)) (RT.br (decide ((D.len w_3.did+D.len w_4.did)*8≤140737488355328)) (RT.br (flwN (WkV.mk w_3.mru w_3.mc w_3.mt w_3.mf w_3.wt w_3.ec w_3.lo w_4.a.st w_4.a.id w_4.a.rq w_4.a.d w_4.a.ct w_4.a.tm w_4.a.nk w_3.mg w_3.pr w_3.mu w_3.pe w_3.ne w_3.tick (D.app w_3.out w_4.out) (D.app w_3.did w_4.did)) (↑(D.len w_3.did):Int)) (RT.ok (AV.tup [AV.agg [zi w_5.st,zi w_5.id,zi w_5.rq,zs zO w_5.d,zi w_5.ct,zi w_5.tm,zi w_5.nk,zi w_5.mg,zi w_5.pr,zi w_5.mu,zi w_5.pe,zi w_5.ne],zs zC w_5.out,zs zN w_5.did])) (RT.bad 299)) (RT.bad 70)) (RT.bad 70)) (RT.bad 274)) (RT.bad 299)) (RT.bad 70)) (RT.bad 70)) (RT.bad 274)) (RT.all (RT.br true (RT.br (decide ((0≤IntKind.wrap IntKind.u64 w_1.mg∧IntKind.wrap IntKind.u64 w_1.mg<18446744073709551616)∧(1:Int)≤4∧(4:Int)≤8)) (RT.br (decide ((D.len w_1.out+1)*40≤140737488355328)) (RT.ok (AV.tup [AV.agg [zi w_1.st,zi (Int.tmod (IntKind.wrap IntKind.i64 (WkV.id w_1+1)) 256),zi w_1.rq,zs zO w_1.d,zi w_1.ct,zi w_1.tm,zi w_1.nk,zi w_1.mg,zi w_1.pr,zi w_1.mu,zi (IntKind.wrap IntKind.i64 (WkV.pe w_1+1)),zi (IntKind.wrap IntKind.i64 (WkV.tick w_1+WkV.ec w_1))],zs zC (D.app w_1.out (D.l [D.t [D.ki 9,D.i (Int.tmod (IntKind.wrap IntKind.i64 (WkV.id w_1+1)) 256),D.kl [D.i (byI (IntKind.wrap IntKind.u64 w_1.mg) 4 0),D.i (byI (IntKind.wrap IntKind.u64 w_1.mg) 4 1),D.i (byI (IntKind.wrap IntKind.u64 w_1.mg) 4 2),D.i (byI (IntKind.wrap IntKind.u64 w_1.mg) 4 3)]]])),zs zN w_1.did])) (RT.bad 70)) (RT.bad 240)) (RT.bad 21)) (RT.br true (RT.all (RT.br (decide ((0≤IntKind.wrap IntKind.u64 w_1.mg∧IntKind.wrap IntKind.u64 w_1.mg<18446744073709551616)∧(1:Int)≤4∧(4:Int)≤8)) (RT.br (decide ((D.len w_1.out+1)*40≤140737488355328)) (RT.ok (AV.tup [AV.agg [zi w_1.st,zi (Int.tmod (IntKind.wrap IntKind.i64 (WkV.id w_1+1)) 256),zi w_1.rq,zs zO w_1.d,zi w_1.ct,zi w_1.tm,zi w_1.nk,zi w_1.mg,zi w_1.pr,zi w_1.mu,zi (IntKind.wrap IntKind.i64 (WkV.pe w_1+1)),zi (IntKind.wrap IntKind.i64 (WkV.tick w_1+WkV.ec w_1))],zs zC (D.app w_1.out (D.l [D.t [D.ki 9,D.i (Int.tmod (IntKind.wrap IntKind.i64 (WkV.id w_1+1)) 256),D.kl [D.i (byI (IntKind.wrap IntKind.u64 w_1.mg) 4 0),D.i (byI (IntKind.wrap IntKind.u64 w_1.mg) 4 1),D.i (byI (IntKind.wrap IntKind.u64 w_1.mg) 4 2),D.i (byI (IntKind.wrap IntKind.u64 w_1.mg) 4 3)]]])),zs zN w_1.did])) (RT.bad 70)) (RT.bad 240)) (RT.br (decide ((0≤IntKind.wrap IntKind.u64 w_1.mg∧IntKind.wrap IntKind.u64 w_1.mg<18446744073709551616)∧(1:Int)≤4∧(4:Int)≤8)) (RT.all (RT.br (decide ((D.len w_1.out+1)*40≤140737488355328)) (RT.ok (AV.tup [AV.agg [zi w_1.st,zi (Int.tmod (IntKind.wrap IntKind.i64 (WkV.id w_1+1)) 256),zi w_1.rq,zs zO w_1.d,zi w_1.ct,zi w_1.tm,zi w_1.nk,zi w_1.mg,zi w_1.pr,zi w_1.mu,zi (IntKind.wrap IntKind.i64 (WkV.pe w_1+1)),zi (IntKind.wrap IntKind.i64 (WkV.tick w_1+WkV.ec w_1))],zs zC (D.app w_1.out (D.l [D.t [D.ki 9,D.i (Int.tmod (IntKind.wrap IntKind.i64 (WkV.id w_1+1)) 256),D.kl [D.i (byI (IntKind.wrap IntKind.u64 w_1.mg) 4 0),D.i (byI (IntKind.wrap IntKind.u64 w_1.mg) 4 1),D.i (byI (IntKind.wrap IntKind.u64 w_1.mg) 4 2),D.i (byI (IntKind.wrap IntKind.u64 w_1.mg) 4 3)]]])),zs zN w_1.did])) (RT.bad 70)) (RT.br (decide ((D.len w_1.out+1)*40≤140737488355328)) (RT.ok (AV.tup [AV.agg [zi w_1.st,zi (Int.tmod (IntKind.wrap IntKind.i64 (WkV.id w_1+1)) 256),zi w_1.rq,zs zO w_1.d,zi w_1.ct,zi w_1.tm,zi w_1.nk,zi w_1.mg,zi w_1.pr,zi w_1.mu,zi (IntKind.wrap IntKind.i64 (WkV.pe w_1+1)),zi (IntKind.wrap IntKind.i64 (WkV.tick w_1+WkV.ec w_1))],zs zC (D.app w_1.out (D.l [D.t [D.ki 9,D.i (Int.tmod (IntKind.wrap IntKind.i64 (WkV.id w_1+1)) 256),D.kl [D.i (byI (IntKind.wrap IntKind.u64 w_1.mg) 4 0),D.i (byI (IntKind.wrap IntKind.u64 w_1.mg) 4 1),D.i (byI (IntKind.wrap IntKind.u64 w_1.mg) 4 2),D.i (byI (IntKind.wrap IntKind.u64 w_1.mg) 4 3)]]])),zs zN w_1.did])) (RT.bad 70))) (RT.bad 240))) (RT.bad 21)))) (RT.ok (AV.tup [AV.agg [zi w_1.st,zi w_1.id,zi w_1.rq,zs zO w_1.d,zi w_1.ct,zi w_1.tm,zi w_1.nk,zi w_1.mg,zi w_1.pr,zi w_1.mu,zi w_1.pe,zi w_1.ne],zs zC w_1.out,zs zN w_1.did]))) (RT.ok (AV.tup [AV.agg [zi w_1.st,zi w_1.id,zi w_1.rq,zs zO w_1.d,zi w_1.ct,zi w_1.tm,zi w_1.nk,zi w_1.mg,zi w_1.pr,zi w_1.mu,zi w_1.pe,zi w_1.ne],zs zC w_1.out,zs zN w_1.did]))) (RT.ok (AV.tup [AV.agg [zi w_1.st,zi w_1.id,zi w_1.rq,zs zO w_1.d,zi w_1.ct,zi w_1.tm,zi w_1.nk,zi w_1.mg,zi w_1.pr,zi w_1.mu,zi w_1.pe,zi w_1.ne],zs zC w_1.out,zs zN w_1.did]))) (RT.bad 299)) (RT.bad 275))) (ltk_treeT_1 st id rq d ct tm nk mg pr mu pe ne))
theorem ltk_tree (mru mc mt mf wt ec lo st id rq:Int) (d:D) (ct tm nk mg pr mu pe ne tk:Int):treeF (evF Tryz.prog (gam (ltkG Tryz.prog)) (lam (ltkL)) 100 26) [cnfA mru mc mt mf wt ec lo,lcpA st id rq d ct tm nk mg pr mu pe ne,ai tk]=ltk_treeT mru mc mt mf wt ec lo st id rq d ct tm nk mg pr mu pe ne tk:=by rw [← fvF_eq Tryz.prog (gam (ltkG Tryz.prog)) (lam (ltkL)) false 100 26]; kernel_rfl
abbrev rtk_tree2T_1 (st id rq:Int) (d:D) (ct tm nk mg pr mu pe ne:Int):=RT.ok (AV.agg [zi st,zi id,zi rq,zs zO d,zi ct,zi tm,zi nk,zi mg,zi pr,zi mu,zi pe,zi ne,zz,zz])
def rtk_tree2T (mru mc mt mf wt ec lo st id rq:Int) (d:D) (ct tm nk mg pr mu pe ne tk:Int):RT AV :=
let w_0:=tmW (rlM (rlB mg)) (rlG (rlB mg)) mc mt mf wt (AuV.mk st id rq d ct tm nk) tk; let w_1:=evW (WkV.mk mru mc mt mf wt ec lo w_0.a.st w_0.a.id w_0.a.rq w_0.a.d w_0.a.ct w_0.a.tm w_0.a.nk (mgV w_0.a.d mg) pr mu (flP w_0.did pe (D.len w_0.did)) (flN w_0.did ec tk ne (D.len w_0.did)) tk (cat2 (D.l []) w_0.out) (cat2 (D.l []) w_0.did)) (rlB (mgV w_0.a.d mg)) 2 0 0 (D.l []) 0 0 (D.l []); let w_2:=evW (WkV.mk mru mc mt mf wt ec lo w_1.st w_1.id w_1.rq w_1.d w_1.ct w_1.tm w_1.nk w_1.mg w_1.pr w_1.mu w_1.pe w_1.ne tk w_1.out w_1.did) (rlB w_1.mg) 4 0 0 (D.l []) 0 0 (D.l []); RT.br (lisB mru mc mt mf wt ec lo st id rq d ct tm nk mg pr mu pe ne) (RT.br (decide (0≤tk)) (RT.br (!decide (tk≤1099511627776)) (rtk_tree2T_1 st id rq d ct tm nk mg pr mu pe ne) (RT.all (RT.all (RT.br true (RT.br (flsN ec w_0.a.d (D.l []) w_0.out (D.l []) w_0.did) (RT.br (AuV.st w_0.a != 9) (RT.ok (AV.agg [zi w_0.a.st,zi w_0.a.id,zi w_0.a.rq,zs zO w_0.a.d,zi w_0.a.ct,zi w_0.a.tm,zi w_0.a.nk,zi (mgV w_0.a.d mg),zi pr,zi mu,zi (flP w_0.did pe (D.len w_0.did)),zi (flN w_0.did ec tk ne (D.len w_0.did)),zs zC (cat2 (D.l []) w_0.out),zs zN (cat2 (D.l []) w_0.did)])) (RT.br (flN w_0.did ec tk ne (D.len w_0.did)==0) (RT.ok (AV.agg [zi w_0.a.st,zi w_0.a.id,zi w_0.a.rq,zs zO w_0.a.d,zi w_0.a.ct,zi w_0.a.tm,zi w_0.a.nk,zi (mgV w_0.a.d mg),zi pr,zi mu,zi (flP w_0.did pe (D.len w_0.did)),zi (flN w_0.did ec tk ne (D.len w_0.did)),zs zC (cat2 (D.l []) w_0.out),zs zN (cat2 (D.l []) w_0.did)])) (RT.br (decide (tk<flN w_0.did ec tk ne (D.len w_0.did))) (RT.ok (AV.agg [zi w_0.a.st,zi w_0.a.id,zi w_0.a.rq,zs zO w_0.a.d,zi w_0.a.ct,zi w_0.a.tm,zi w_0.a.nk,zi (mgV w_0.a.d mg),zi pr,zi mu,zi (flP w_0.did pe (D.len w_0.did)),zi (flN w_0.did ec tk ne (D.len w_0.did)),zs zC (cat2 (D.l []) w_0.out),zs zN (cat2 (D.l []) w_0.did)])) (RT.br (decide (lo≤flP w_0.did pe (D.len w_0.did))) (RT.br (byOk (WkV.mk mru mc mt mf wt ec lo w_0.a.st w_0.a.id w_0.a.rq w_0.a.d w_0.a.ct w_0.a.tm w_0.a.nk (mgV w_0.a.d mg) pr mu (flP w_0.did pe (D.len w_0.did)) (flN w_0.did ec tk ne (D.len w_0.did)) tk (cat2 (D.l []) w_0.out) (cat2 (D.l []) w_0.did))) (RT.br (byOk (WkV.mk mru mc mt mf wt ec lo w_1.st w_1.id w_1.rq w_1.d w_1.ct w_1.tm w_1.nk w_1.mg w_1.pr w_1.mu w_1.pe w_1.ne tk w_1.out w_1.did)) (RT.ok (AV.agg [zi w_2.st,zi w_2.id,zi w_2.rq,zs zO w_2.d,zi w_2.ct,zi w_2.tm,zi w_2.nk,zi w_2.mg,zi w_2.pr,zi w_2.mu,zi w_2.pe,zi w_2.ne,zs zC w_2.out,zs zN w_2.did])) (RT.bad 306)) (RT.bad 306)) (RT.br true (RT.br (decide ((0≤IntKind.wrap IntKind.u64 (mgV w_0.a.d mg)∧IntKind.wrap IntKind.u64 (mgV w_0.a.d mg)<18446744073709551616)∧(1:Int)≤4∧(4:Int)≤8)) (RT.br (decide ((D.len (D.app (D.l []) (cat2 (D.l []) w_0.out))+1)*40≤140737488355328)) (RT.ok (AV.agg [zi w_0.a.st,zi (Int.tmod (IntKind.wrap IntKind.i64 (AuV.id w_0.a+1)) 256),zi w_0.a.rq,zs zO w_0.a.d,zi w_0.a.ct,zi w_0.a.tm,zi w_0.a.nk,zi (mgV w_0.a.d mg),zi pr,zi mu,zi (IntKind.wrap IntKind.i64 (flP w_0.did pe (D.len w_0.did)+1)),zi (IntKind.wrap IntKind.i64 (tk+ec)),zs zC (D.app (D.app (D.l []) (cat2 (D.l []) w_0.out)) (D.l [D.t [D.ki 9,D.i (Int.tmod (IntKind.wrap IntKind.i64 (AuV.id w_0.a+1)) 256),D.kl [D.i (byI (IntKind.wrap IntKind.u64 (mgV w_0.a.d mg)) 4 0),D.i (byI (IntKind.wrap IntKind.u64 (mgV w_0.a.d mg)) 4 1),D.i (byI (IntKind.wrap IntKind.u64 (mgV w_0.a.d mg)) 4 2),D.i (byI (IntKind.wrap IntKind.u64 (mgV w_0.a.d mg)) 4 3)]]])),zs zN (cat2 (D.l []) w_0.did)])) (RT.bad 70)) (RT.bad 240)) (RT.bad 21)))))) (RT.bad 300)) (RT.bad 275)) (RT.br true (RT.br (flsN ec w_0.a.d (D.l []) w_0.out (D.l []) w_0.did) (RT.br (AuV.st w_0.a != 9) (RT.ok (AV.agg [zi w_0.a.st,zi w_0.a.id,zi w_0.a.rq,zs zO w_0.a.d,zi w_0.a.ct,zi w_0.a.tm,zi w_0.a.nk,zi (mgV w_0.a.d mg),zi pr,zi mu,zi (flP w_0.did pe (D.len w_0.did)),zi (flN w_0.did ec tk ne (D.len w_0.did)),zs zC (cat2 (D.l []) w_0.out),zs zN (cat2 (D.l []) w_0.did)])) (RT.br (flN w_0.did ec tk ne (D.len w_0.did)==0) (RT.ok (AV.agg [zi w_0.a.st,zi w_0.a.id,zi w_0.a.rq,zs zO w_0.a.d,zi w_0.a.ct,zi w_0.a.tm,zi w_0.a.nk,zi (mgV w_0.a.d mg),zi pr,zi mu,zi (flP w_0.did pe (D.len w_0.did)),zi (flN w_0.did ec tk ne (D.len w_0.did)),zs zC (cat2 (D.l []) w_0.out),zs zN (cat2 (D.l []) w_0.did)])) (RT.br (decide (tk<flN w_0.did ec tk ne (D.len w_0.did))) (RT.ok (AV.agg [zi w_0.a.st,zi w_0.a.id,zi w_0.a.rq,zs zO w_0.a.d,zi w_0.a.ct,zi w_0.a.tm,zi w_0.a.nk,zi (mgV w_0.a.d mg),zi pr,zi mu,zi (flP w_0.did pe (D.len w_0.did)),zi (flN w_0.did ec tk ne (D.len w_0.did)),zs zC (cat2 (D.l []) w_0.out),zs zN (cat2 (D.l []) w_0.did)])) (RT.br (decide (lo≤flP w_0.did pe (D.len w_0.did))) (RT.br (byOk (WkV.mk mru mc mt mf wt ec lo w_0.a.st w_0.a.id w_0.a.rq w_0.a.d w_0.a.ct w_0.a.tm w_0.a.nk (mgV w_0.a.d mg) pr mu (flP w_0.did pe (D.len w_0.did)) (flN w_0.did ec tk ne (D.len w_0.did)) tk (cat2 (D.l []) w_0.out) (cat2 (D.l []) w_0.did))) (RT.br (byOk (WkV.mk mru mc mt mf wt ec lo w_1.st w_1.id w_1.rq w_1.d w_1.ct w_1.tm w_1.nk w_1.mg w_1.pr w_1.mu w_1.pe w_1.ne tk w_1.out w_1.did)) (RT.ok (AV.agg [zi w_2.st,zi w_2.id,zi w_2.rq,zs zO w_2.d,zi w_2.ct,zi w_2.tm,zi w_2.nk,zi w_2.mg,zi w_2.pr,zi w_2.mu,zi w_2.pe,zi w_2.ne,zs zC w_2.out,zs zN w_2.did])) (RT.bad 306)) (RT.bad 306)) (RT.br true (RT.br (decide ((0≤IntKind.wrap IntKind.u64 (mgV w_0.a.d mg)∧IntKind.wrap IntKind.u64 (mgV w_0.a.d mg)<18446744073709551616)∧(1:Int)≤4∧(4:Int)≤8)) (RT.br (decide ((D.len (D.app (D.l []) (cat2 (D.l []) w_0.out))+1)*40≤140737488355328)) (RT.ok (AV.agg [zi w_0.a.st,zi (Int.tmod (IntKind.wrap IntKind.i64 (AuV.id w_0.a+1)) 256),zi w_0.a.rq,zs zO w_0.a.d,zi w_0.a.ct,zi w_0.a.tm,zi w_0.a.nk,zi (mgV w_0.a.d mg),zi pr,zi mu,zi (IntKind.wrap IntKind.i64 (flP w_0.did pe (D.len w_0.did)+1)),zi (IntKind.wrap IntKind.i64 (tk+ec)),zs zC (D.app (D.app (D.l []) (cat2 (D.l []) w_0.out)) (D.l [D.t [D.ki 9,D.i (Int.tmod (IntKind.wrap IntKind.i64 (AuV.id w_0.a+1)) 256),D.kl [D.i (byI (IntKind.wrap IntKind.u64 (mgV w_0.a.d mg)) 4 0),D.i (byI (IntKind.wrap IntKind.u64 (mgV w_0.a.d mg)) 4 1),D.i (byI (IntKind.wrap IntKind.u64 (mgV w_0.a.d mg)) 4 2),D.i (byI (IntKind.wrap IntKind.u64 (mgV w_0.a.d mg)) 4 3)]]])),zs zN (cat2 (D.l []) w_0.did)])) (RT.bad 70)) (RT.bad 240)) (RT.bad 21)))))) (RT.bad 300)) (RT.bad 275))) (RT.br true (RT.br (flsN ec w_0.a.d (D.l []) w_0.out (D.l []) w_0.did) (RT.br (AuV.st w_0.a != 9) (RT.ok (AV.agg [zi w_0.a.st,zi w_0.a.id,zi w_0.a.rq,zs zO w_0.a.d,zi w_0.a.ct,zi w_0.a.tm,zi w_0.a.nk,zi (mgV w_0.a.d mg),zi pr,zi mu,zi (flP w_0.did pe (D.len w_0.did)),zi (flN w_0.did ec tk ne (D.len w_0.did)),zs zC (cat2 (D.l []) w_0.out),zs zN (cat2 (D.l []) w_0.did)])) (RT.br (flN w_0.did ec tk ne (D.len w_0.did)==0) (RT.ok (AV.agg [zi w_0.a.st,zi w_0.a.id,zi w_0.a.rq,zs zO w_0.a.d,zi w_0.a.ct,zi w_0.a.tm,zi w_0.a.nk,zi (mgV w_0.a.d mg),zi pr,zi mu,zi (flP w_0.did pe (D.len w_0.did)),zi (flN w_0.did ec tk ne (D.len w_0.did)),zs zC (cat2 (D.l []) w_0.out),zs zN (cat2 (D.l []) w_0.did)])) (RT.br (decide (tk<flN w_0.did ec tk ne (D.len w_0.did))) (RT.ok (AV.agg [zi w_0.a.st,zi w_0.a.id,zi w_0.a.rq,zs zO w_0.a.d,zi w_0.a.ct,zi w_0.a.tm,zi w_0.a.nk,zi (mgV w_0.a.d mg),zi pr,zi mu,zi (flP w_0.did pe (D.len w_0.did)),zi (flN w_0.did ec tk ne (D.len w_0.did)),zs zC (cat2 (D.l []) w_0.out),zs zN (cat2 (D.l []) w_0.did)])) (RT.br (decide (lo≤flP w_0.did pe (D.len w_0.did))) (RT.br (byOk (WkV.mk mru mc mt mf wt ec lo w_0.a.st w_0.a.id w_0.a.rq w_0.a.d w_0.a.ct w_0.a.tm w_0.a.nk (mgV w_0.a.d mg) pr mu (flP w_0.did pe (D.len w_0.did)) (flN w_0.did ec tk ne (D.len w_0.did)) tk (cat2 (D.l []) w_0.out) (cat2 (D.l []) w_0.did))) (RT.br (byOk (WkV.mk mru mc mt mf wt ec lo w_1.st w_1.id w_1.rq w_1.d w_1.ct w_1.tm w_1.nk w_1.mg w_1.pr w_1.mu w_1.pe w_1.ne tk w_1.out w_1.did)) (RT.ok (AV.agg [zi w_2.st,zi w_2.id,zi w_2.rq,zs zO w_2.d,zi w_2.ct,zi w_2.tm,zi w_2.nk,zi w_2.mg,zi w_2.pr,zi w_2.mu,zi w_2.pe,zi w_2.ne,zs zC w_2.out,zs zN w_2.did])) (RT.bad 306)) (RT.bad 306)) (RT.br true (RT.br (decide ((0≤IntKind.wrap IntKind.u64 (mgV w_0.a.d mg)∧IntKind.wrap IntKind.u64 (mgV w_0.a.d mg)<18446744073709551616)∧(1:Int)≤4∧(4:Int)≤8)) (RT.br (decide ((D.len (D.app (D.l []) (cat2 (D.l []) w_0.out))+1)*40≤140737488355328)) (RT.ok (AV.agg [zi w_0.a.st,zi (Int.tmod (IntKind.wrap IntKind.i64 (AuV.id w_0.a+1)) 256),zi w_0.a.rq,zs zO w_0.a.d,zi w_0.a.ct,zi w_0.a.tm,zi w_0.a.nk,zi (mgV w_0.a.d mg),zi pr,zi mu,zi (IntKind.wrap IntKind.i64 (flP w_0.did pe (D.len w_0.did)+1)),zi (IntKind.wrap IntKind.i64 (tk+ec)),zs zC (D.app (D.app (D.l []) (cat2 (D.l []) w_0.out)) (D.l [D.t [D.ki 9,D.i (Int.tmod (IntKind.wrap IntKind.i64 (AuV.id w_0.a+1)) 256),D.kl [D.i (byI (IntKind.wrap IntKind.u64 (mgV w_0.a.d mg)) 4 0),D.i (byI (IntKind.wrap IntKind.u64 (mgV w_0.a.d mg)) 4 1),D.i (byI (IntKind.wrap IntKind.u64 (mgV w_0.a.d mg)) 4 2),D.i (byI (IntKind.wrap IntKind.u64 (mgV w_0.a.d mg)) 4 3)]]])),zs zN (cat2 (D.l []) w_0.did)])) (RT.bad 70)) (RT.bad 240)) (RT.bad 21)))))) (RT.bad 300)) (RT.bad 275)))) (rtk_tree2T_1 st id rq d ct tm nk mg pr mu pe ne)) (rtk_tree2T_1 st id rq d ct tm nk mg pr mu pe ne)
theorem rtk_tree2 (mru mc mt mf wt ec lo st id rq:Int) (d:D) (ct tm nk mg pr mu pe ne tk:Int):treeF (evF Tryz.prog (gam (rtkG Tryz.prog)) (lam ([])) 100 75) [cnfA mru mc mt mf wt ec lo,lcpA st id rq d ct tm nk mg pr mu pe ne,ai tk]=rtk_tree2T mru mc mt mf wt ec lo st id rq d ct tm nk mg pr mu pe ne tk:=by rw [← fvF_eq Tryz.prog (gam (rtkG Tryz.prog)) (lam ([])) false 100 75]; kernel_rfl
theorem tmR_of {f:FuncId} (h:SoundF Tryz.prog f (pureS Tryz.prog f FTmo)):SoundF Tryz.prog f (pureS Tryz.prog f FTmoR):=by
  refine pure_mono h fun args K H=>?_
  unfold FTmoR at H
  split at H
  · rename_i r mc mt mf wt st id rq d ct tm nk tk
    obtain ⟨hc,H⟩:=need_holds H
    unfold isRl at hc
    unfold rlM rlG at H
    unfold FTmo
    cases hr:rlOf r with
    | none=>rw [hr] at hc; cases hc
    | some p=>rw [hr] at H; dsimp only; rw [hr]; exact H
  · exact H.elim
theorem ltkG_ok:GamL Tryz.prog (ltkG Tryz.prog):=⟨tmR_of tmo_soundF,putV_soundF,lcpG_ok⟩
theorem rtkG_ok:GamL Tryz.prog (rtkG Tryz.prog):=⟨tmR_of rtm_soundF,rputV_soundF,auB_soundF,fls_soundF,rl2G_ok⟩
theorem tmW_fit {m g mc mt mf wt:Int} {a:AuV} {tk:Int}:(tmW m g mc mt mf wt a tk).out.len≤3∧(tmW m g mc mt mf wt a tk).did.len≤3∧(tmW m g mc mt mf wt a tk).a.d=a.d:=by
  unfold tmW
  cases (a.tm==0)||decide (tk<a.tm)
  · exact doW_fit
  · exact ⟨Nat.zero_le _,Nat.zero_le _,rfl⟩
theorem nmI_rng {x:D} (hb:bytesB x=true) (hl:x.len=4):0≤nmI x∧nmI x≤4294967295:=by
  have h:∀ j,j<4→0≤byA x j∧byA x j<256:=fun j hj=>bytes_at hb (by omega)
  have h0:=h 0 (by omega)
  have h1:=h 1 (by omega)
  have h2:=h 2 (by omega)
  have h3:=h 3 (by omega)
  unfold nmI
  rw [if_neg (by omega),if_neg (by omega),if_neg (by omega),if_pos hl]
  omega
theorem mgV_rng {d:D} {mg:Int} (hb:optsB d=true) (h:1≤mg∧mg≤4294967295):1≤mgV d mg∧mgV d mg≤4294967295:=by
  unfold mgV
  cases hc:hasT d 5&&((fnD d 5).len==4&&nmI (fnD d 5) != 0)
  · exact h
  · rw [Bool.and_eq_true,Bool.and_eq_true] at hc
    obtain ⟨_,h1,h2⟩:=hc
    have h1:=eq_of_beq h1
    have:=nmI_rng (fnD_by hb) h1
    rw [bne_iff_ne] at h2
    rw [cond_true]
    omega
theorem FLtk_inv {args:List AV} {K:AV→Prop} (H:(FLtk args).holds K):∃ (mru mc mt mf wt ec lo st id rq ct tm nk mg pr mu pe ne:Int) (d:D) (tk:Int),args=[cnfA mru mc mt mf wt ec lo,lcpA st id rq d ct tm nk mg pr mu pe ne,ai tk]∧optsB d=true∧K (wkA (tikW ⟨mru,mc,mt,mf,wt,ec,lo,st,id,rq,d,ct,tm,nk,mg,pr,mu,pe,ne,tk,.l [],.l []⟩)):=by
  unfold FLtk at H
  split at H
  · rename_i v0 v1 v2 v3 v4 v5 v6 v7 v8 v9 v10 v11 v12 v13 v14 v15 v16 v17 v18 v19 hd
    obtain ⟨hc,H⟩:=need_holds H
    have:=cdAL_ok _ _ _ hd []
    exact ⟨v0.toI,v1.toI,v2.toI,v3.toI,v4.toI,v5.toI,v6.toI,v7.toI,v8.toI,v9.toI,v11.toI,v12.toI,v13.toI,v14.toI,v15.toI,v16.toI,v17.toI,v18.toI,v10,v19.toI,(congrArg Prod.fst this).symm,hc,H⟩
  · exact H.elim
theorem FRtk_inv {args:List AV} {K:AV→Prop} (H:(FRtk args).holds K):∃ (mru mc mt mf wt ec lo st id rq ct tm nk mg pr mu pe ne:Int) (d:D) (tk:Int),args=[cnfA mru mc mt mf wt ec lo,lcpA st id rq d ct tm nk mg pr mu pe ne,ai tk]∧optsB d=true∧K (wkB (tikW ⟨mru,mc,mt,mf,wt,ec,lo,st,id,rq,d,ct,tm,nk,mg,pr,mu,pe,ne,tk,.l [],.l []⟩)):=by
  unfold FRtk at H
  split at H
  · rename_i v0 v1 v2 v3 v4 v5 v6 v7 v8 v9 v10 v11 v12 v13 v14 v15 v16 v17 v18 v19 hd
    obtain ⟨hc,H⟩:=need_holds H
    have:=cdAL_ok _ _ _ hd []
    exact ⟨v0.toI,v1.toI,v2.toI,v3.toI,v4.toI,v5.toI,v6.toI,v7.toI,v8.toI,v9.toI,v11.toI,v12.toI,v13.toI,v14.toI,v15.toI,v16.toI,v17.toI,v18.toI,v10,v19.toI,(congrArg Prod.fst this).symm,hc,H⟩
  · exact H.elim
theorem ltk_soundF:SoundF Tryz.prog 26 (pureS Tryz.prog 26 FLtk):=by
  refine pure_in (gs:=ltkG Tryz.prog) (ls:=ltkL) mixed ltkG_ok ltkL_ok 26 100 fun args K ho H=>?_
  obtain ⟨mru,mc,mt,mf,wt,ec,lo,st,id,rq,ct,tm,nk,mg,pr,mu,pe,ne,d,tk,hr,hb,H⟩:=FLtk_inv H
  rw [hr,ltk_tree]
  unfold ltk_treeT ltk_treeT_1
  extract_lets w0 w1 w2 w3 w4 w5
  have hw0:w0.out.len≤3∧w0.did.len≤3∧w0.a.d=d:=tmW_fit
  have E1:w1=folW ⟨mru,mc,mt,mf,wt,ec,lo,st,id,rq,d,ct,tm,nk,mg,pr,mu,pe,ne,tk,.l [],.l []⟩ w0:=fol_w ⟨mru,mc,mt,mf,wt,ec,lo,st,id,rq,d,ct,tm,nk,mg,pr,mu,pe,ne,tk,.l [],.l []⟩ w0 (by show 0+w0.did.len≤maxLen; unfold maxLen; omega)
  have A:∀ b v,onB ⟨mru,mc,mt,mf,wt,ec,lo,st,id,rq,d,ct,tm,nk,mg,pr,mu,pe,ne,tk,.l [],.l []⟩=b→(bif b then tik1 w1 else ⟨mru,mc,mt,mf,wt,ec,lo,st,id,rq,d,ct,tm,nk,mg,pr,mu,pe,ne,tk,.l [],.l []⟩)=v→K (wkA v):=by
    rw [E1]; rintro b v rfl rfl; exact H
  clear H
  unfold onB lisW at A
  dsimp only at A
  have d1:w1.d=d:=by rw [E1]; exact hw0.2.2
  have o1:w1.out.len≤3:=by rw [E1]; exact app_fit (by show 0+w0.out.len≤3; omega)
  have i1:w1.did.len≤3:=by rw [E1]; exact app_fit (by show 0+w0.did.len≤3; omega)
  have t1:w1.tick=tk:=by rw [E1]; rfl
  have hw2:w2.out.len≤3∧w2.did.len≤3∧w2.a.d=w1.d:=doW_fit
  have E3:w3=evW w1 (rlA w1.mg) 2 0 0 (.l []) 0 0 (.l []):=fol_w w1 w2 (by unfold maxLen; omega)
  have d3:w3.d=d:=by rw [E3]; exact hw2.2.2.trans d1
  have o3:w3.out.len≤6:=by rw [E3]; exact app_fit (by show w1.out.len+w2.out.len≤6; omega)
  have i3:w3.did.len≤6:=by rw [E3]; exact app_fit (by show w1.did.len+w2.did.len≤6; omega)
  have hw4:w4.out.len≤3∧w4.did.len≤3∧w4.a.d=w3.d:=doW_fit
  have E5:w5=evW w3 (rlA w3.mg) 4 0 0 (.l []) 0 0 (.l []):=fol_w w3 w4 (by unfold maxLen; omega)
  have EE:endW w1=w5:=by unfold endW; rw [← E3,← E5]
  have N:∀ (v:WkV) (n:Nat),v.d=d→n≤v.did.len→flwN v (n:Int)=true:=fun v n h1 h2=>by
    unfold flwN
    rw [h1,hb,Bool.and_true]
    exact det ⟨Int.natCast_nonneg _,Int.ofNat_le.2 h2⟩
  have AL:∀ a b:D,a.len≤(D.app a b).len∨¬ a.len+b.len≤maxLen:=fun a b=>by
    by_cases h:a.len+b.len≤maxLen
    · left; rw [app_lenS h]; omega
    · exact .inr h
  have lisE:∀ b1 b2 b3,lisB mru mc mt mf wt ec lo st id rq d ct tm nk mg pr mu pe ne=b1→decide (0≤tk)=b2→decide (tk≤1099511627776)=b3→(b1&&(b2&&b3))=false→∃ y,Le (.tup [.agg [ai st,ai id,ai rq,asl opS d,ai ct,ai tm,ai nk,ai mg,ai pr,ai mu,ai pe,ai ne],.sc true (.slice none 0 0),.sc true (.slice none 0 0)]) y∧K y:=fun b1 b2 b3 e1 e2 e3 h =>
    ⟨_,le_two' (Le.refl _) (le_nil rfl) (le_nil rfl),A false _ (by rw [e1,e2,e3]; exact h) rfl⟩
  rw [errIf_nz (by decide)]
  refine ⟨fun h1=>lisE false _ _ (by rw [Bool.not_eq_true'] at h1; exact h1) rfl rfl rfl,fun h1=>⟨fun h2=>⟨fun h3=>lisE _ _ false rfl rfl (by rw [Bool.not_eq_true'] at h3; exact h3) (by rw [Bool.and_false,Bool.and_false]),fun h3=>?_⟩,fun h2=>lisE _ false _ rfl h2 rfl (by rw [Bool.false_and,Bool.and_false])⟩⟩
  rw [Bool.not_eq_false'] at h1 h3
  have on:∀ v,tik1 w1=v→K (wkA v):=fun v hv=>A true v (by rw [h1,h2,h3]; rfl) hv
  have l3:∀ v,tik1 w1=v→v=w1→∃ y,Le (wkA w1) y∧K y:=by rintro v hv rfl; exact ⟨_,Le.refl _,on _ hv⟩
  have tk1:decide (w1.ne≤tk)=decide (w1.ne≤w1.tick):=by rw [t1]
  have b0:(D.app (.l []) w0.did).len≤3:=app_fit (by show 0+w0.did.len≤3; omega)
  refine holds_t (holds_t_of (N _ 0 hw0.2.2 (Nat.zero_le _)) ⟨fun h4=>⟨fun h5=>⟨fun h6=>⟨fun h7=>?_,fun h7=>?_⟩,fun h6=>l3 _ ?_ rfl⟩,fun h5=>l3 _ ?_ rfl⟩,fun h4=>l3 _ ?_ rfl⟩)
  · refine holds_t (holds_t_of (det (by omega)) (holds_t_of (det (by omega)) (holds_t_of (N _ w1.did.len (hw2.2.2.trans d1) ?_) (holds_t (holds_t_of (det (by omega)) (holds_t_of (det (by omega)) (holds_t_of (N _ w3.did.len (hw4.2.2.trans d3) ?_) ⟨_,Le.refl _,on w5 ?_⟩)))))))
    · show w1.did.len≤(D.app w1.did w2.did).len
      rw [app_lenS (by unfold maxLen; omega)]; omega
    · show w3.did.len≤(D.app w3.did w4.did).len
      rw [app_lenS (by unfold maxLen; omega)]; omega
    · unfold tik1
      rw [h4,h5,← tk1,h6,h7,EE]; rfl
  · have e:tik1 w1=ecoW w1:=by
      unfold tik1
      rw [h4,h5,← tk1,h6,h7]; rfl
    have hw:IntKind.wrap .u64 w1.mg=w1.mg % 18446744073709551616:=rfl
    have hP:decide ((0≤IntKind.wrap .u64 w1.mg∧IntKind.wrap .u64 w1.mg<18446744073709551616)∧(1:Int)≤4∧(4:Int)≤8)=true:=det ⟨⟨by omega,by omega⟩,by decide,by decide⟩
    have hS:decide ((w1.out.len+1)*40≤140737488355328)=true:=det (by omega)
    rw [hP,hS]
    have L:∃ y,Le (wkA (ecoW w1)) y∧K y:=⟨_,Le.refl _,on _ e⟩
    repeat' first
      | exact L
      | refine holds_t ?_
      | refine ⟨?_,?_⟩
  · unfold tik1; rw [← tk1,h6,Bool.and_false,Bool.and_false]; rfl
  · unfold tik1; rw [h5,Bool.false_and,Bool.and_false]; rfl
  · unfold tik1; rw [h4]; rfl
theorem app_nil_app {a b:D} (h:a.len+b.len≤maxLen):D.app (.l []) (D.app a b)=D.app a b:=by
  have e:(D.app a b).toL=a.toL ++ b.toL:=toL_l (by rw [List.length_append]; exact h)
  have e0:(D.l []).toL=[]:=toL_l (Nat.zero_le _)
  show D.l ((D.l []).toL ++ (D.app a b).toL)=D.l (a.toL ++ b.toL)
  rw [e0,e]; rfl
theorem rtk2_soundF:SoundF Tryz.prog 75 (pureS Tryz.prog 75 FRtk):=by
  refine pure_in (gs:=rtkG Tryz.prog) (ls:=[]) mixed rtkG_ok trivial 75 100 fun args K ho H=>?_
  obtain ⟨mru,mc,mt,mf,wt,ec,lo,st,id,rq,ct,tm,nk,mg,pr,mu,pe,ne,d,tk,hr,hb,H⟩:=FRtk_inv H
  rw [hr,rtk_tree2]
  unfold rtk_tree2T rtk_tree2T_1
  extract_lets w0 w1 w2
  have lisE:∀ b1 b2 b3,lisB mru mc mt mf wt ec lo st id rq d ct tm nk mg pr mu pe ne=b1→decide (0≤tk)=b2→decide (tk≤1099511627776)=b3→(b1&&(b2&&b3))=false→∃ y,Le (.agg [ai st,ai id,ai rq,asl opS d,ai ct,ai tm,ai nk,ai mg,ai pr,ai mu,ai pe,ai ne,.sc true (.slice none 0 0),.sc true (.slice none 0 0)]) y∧K y:=fun b1 b2 b3 e1 e2 e3 h=>by
    have e:onB ⟨mru,mc,mt,mf,wt,ec,lo,st,id,rq,d,ct,tm,nk,mg,pr,mu,pe,ne,tk,.l [],.l []⟩=false:=by unfold onB lisW; dsimp only; rw [e1,e2,e3]; exact h
    unfold tikW at H
    rw [e] at H
    exact ⟨_,le_agg (leL_cons (Le.refl _) (leL_cons (Le.refl _) (leL_cons (Le.refl _) (leL_cons (Le.refl _) (leL_cons (Le.refl _) (leL_cons (Le.refl _) (leL_cons (Le.refl _) (leL_cons (Le.refl _) (leL_cons (Le.refl _) (leL_cons (Le.refl _) (leL_cons (Le.refl _) (leL_cons (Le.refl _) (leL_cons (le_nil rfl) (leL_cons (le_nil rfl) leL_nil)))))))))))))),H⟩
  refine ⟨fun h1=>⟨fun h2=>⟨fun h3=>lisE _ _ false rfl rfl (by rw [Bool.not_eq_true'] at h3; exact h3) (by rw [Bool.and_false,Bool.and_false]),fun h3=>?_⟩,fun h2=>lisE _ false _ rfl h2 rfl (by rw [Bool.false_and,Bool.and_false])⟩,fun h1=>lisE false _ _ h1 rfl rfl rfl⟩
  rw [Bool.not_eq_false'] at h3
  obtain ⟨hm,hec⟩:=mg_rng h1
  have hB:=rl_same hm
  have e0:w0=tmR ⟨mru,mc,mt,mf,wt,ec,lo,st,id,rq,d,ct,tm,nk,mg,pr,mu,pe,ne,tk,.l [],.l []⟩:=by show tmW (rlM (rlB mg)) (rlG (rlB mg)) _ _ _ _ _ _=_; rw [hB]; rfl
  have hw0:w0.out.len≤3∧w0.did.len≤3∧w0.a.d=d:=tmW_fit
  have hu:onB ⟨mru,mc,mt,mf,wt,ec,lo,st,id,rq,d,ct,tm,nk,mg,pr,mu,pe,ne,tk,.l [],.l []⟩=true:=by unfold onB lisW; dsimp only; rw [h1,h2,h3]; rfl
  unfold tikW at H
  rw [hu,cond_true,← e0] at H
  obtain ⟨u,hU⟩:∃ u,u=folW ⟨mru,mc,mt,mf,wt,ec,lo,st,id,rq,d,ct,tm,nk,mg,pr,mu,pe,ne,tk,.l [],.l []⟩ w0:=⟨_,rfl⟩
  rw [← hU] at H
  have on:∀ v,tik1 u=v→K (wkB v):=by rintro v rfl; exact H
  have um:1≤u.mg∧u.mg≤4294967295:=by rw [hU]; show 1≤mgV w0.a.d mg∧mgV w0.a.d mg≤_; rw [hw0.2.2]; exact mgV_rng hb hm
  have ud:u.d=d:=by rw [hU]; exact hw0.2.2
  have uo:u.out.len≤3:=by rw [hU]; exact app_fit (by show 0+w0.out.len≤3; omega)
  have ui:u.did.len≤3:=by rw [hU]; exact app_fit (by show 0+w0.did.len≤3; omega)
  have co:cat2 (.l []) w0.out=u.out:=by rw [hU,cat2_app]; rfl
  have ci:cat2 (.l []) w0.did=u.did:=by rw [hU,cat2_app]; rfl
  have E1:w1=evW u (rlA u.mg) 2 0 0 (.l []) 0 0 (.l []):=by
    rw [← rl_same um]
    show evW ⟨_,_,_,_,_,_,_,_,_,_,_,_,_,_,_,_,_,_,_,_,cat2 (.l []) w0.out,cat2 (.l []) w0.did⟩ _ _ _ _ _ _ _ _=_
    rw [co,ci]
    subst hU
    rfl
  have w1d:w1.d=d:=by rw [E1]; exact doW_fit.2.2.trans ud
  have w1m:1≤w1.mg∧w1.mg≤4294967295:=by
    have e:w1.mg=mgV d u.mg:=by rw [E1]; show mgV (evR u (rlA u.mg) 2 0 0 (.l []) 0 0 (.l [])).a.d u.mg=_; rw [show (evR u (rlA u.mg) 2 0 0 (.l []) 0 0 (.l [])).a.d=u.d from doW_fit.2.2,ud]
    rw [e]; exact mgV_rng hb um
  have w1o:w1.out.len≤6:=by rw [E1]; exact app_fit (by have:=(doW_fit (m:=rlM (rlA u.mg)) (g:=rlG (rlA u.mg)) (mc:=u.mc) (mt:=u.mt) (mf:=u.mf) (wt:=u.wt) (a:=⟨u.st,u.id,u.rq,u.d,u.ct,u.tm,u.nk⟩) (e:=2) (ic:=0) (ii:=0) (ix:=.l []) (ac:=0) (ax:=0) (ad:=.l []) (tk:=u.tick)).1; show u.out.len+(evR u (rlA u.mg) 2 0 0 (.l []) 0 0 (.l [])).out.len≤6; unfold evR; omega)
  have w1i:w1.did.len≤6:=by rw [E1]; exact app_fit (by have:=(doW_fit (m:=rlM (rlA u.mg)) (g:=rlG (rlA u.mg)) (mc:=u.mc) (mt:=u.mt) (mf:=u.mf) (wt:=u.wt) (a:=⟨u.st,u.id,u.rq,u.d,u.ct,u.tm,u.nk⟩) (e:=2) (ic:=0) (ii:=0) (ix:=.l []) (ac:=0) (ax:=0) (ad:=.l []) (tk:=u.tick)).2.1; show u.did.len+(evR u (rlA u.mg) 2 0 0 (.l []) 0 0 (.l [])).did.len≤6; unfold evR; omega)
  have E2:w2=endW u:=by
    unfold endW
    rw [← E1,← rl_same w1m]
    have ht:w1.tick=tk:=by rw [E1,hU]; rfl
    show evW ⟨_,_,_,_,_,_,_,_,_,_,_,_,_,_,_,_,_,_,_,tk,_,_⟩ _ _ _ _ _ _ _ _=_
    rw [← ht]
    rfl
  have BO:∀ v:WkV,v.ec=ec→v.d=d→v.out.len≤1000000→v.did.len≤1000000→byOk v=true:=fun v e1 e2 e3 e4=>by
    unfold byOk
    rw [e1,e2,hb,Bool.and_true]
    exact det ⟨hec,e3,e4⟩
  have hN:flsN ec w0.a.d (.l []) w0.out (.l []) w0.did=true:=by
    unfold flsN
    rw [hw0.2.2,hb,Bool.and_true]
    exact det ⟨hec,by show (0+w0.out.len)*40≤_; omega,by show (0+w0.did.len)*8≤_; omega⟩
  have hw:IntKind.wrap .u64 (mgV w0.a.d mg)=(mgV w0.a.d mg) % 18446744073709551616:=rfl
  have hP:decide ((0≤IntKind.wrap .u64 (mgV w0.a.d mg)∧IntKind.wrap .u64 (mgV w0.a.d mg)<18446744073709551616)∧(1:Int)≤4∧(4:Int)≤8)=true:=det ⟨⟨by omega,by omega⟩,by decide,by decide⟩
  have co':D.app (.l []) (cat2 (.l []) w0.out)=u.out:=by rw [hU,cat2_app]; exact app_nil_app (by show 0+w0.out.len≤_; unfold maxLen; omega)
  have hS:decide ((u.out.len+1)*40≤140737488355328)=true:=det (by omega)
  rw [hN,hP,co',co,ci,hS]
  have us:w0.a.st=u.st:=by rw [hU]; rfl
  have un:flN w0.did ec tk ne w0.did.len=u.ne:=by rw [hU]; rfl
  have up:flP w0.did pe w0.did.len=u.pe:=by rw [hU]; rfl
  have hB1:∀ b,b=byOk (⟨mru,mc,mt,mf,wt,ec,lo,w0.a.st,w0.a.id,w0.a.rq,w0.a.d,w0.a.ct,w0.a.tm,w0.a.nk,mgV w0.a.d mg,pr,mu,flP w0.did pe w0.did.len,flN w0.did ec tk ne w0.did.len,tk,u.out,u.did⟩:WkV)→b=true:=by
    rintro b rfl; exact BO _ rfl hw0.2.2 (by show u.out.len≤_; omega) (by show u.did.len≤_; omega)
  have L1:tik1 u=u→∃ y,Le (.agg [ai w0.a.st,ai w0.a.id,ai w0.a.rq,asl opS w0.a.d,ai w0.a.ct,ai w0.a.tm,ai w0.a.nk,ai (mgV w0.a.d mg),ai pr,ai mu,ai (flP w0.did pe w0.did.len),ai (flN w0.did ec tk ne w0.did.len),asl ctS u.out,asl acS u.did]) y∧K y:=fun h=>by
    have:=on _ h
    rw [hU] at this ⊢
    exact ⟨_,Le.refl _,this⟩
  have ut:u.tick=tk:=by rw [hU]; rfl
  have ul:u.lo=lo:=by rw [hU]; rfl
  have T:∀ b4 b5 b6 b7,(u.st==9)=b4→(u.ne==0)=b5→decide (tk<u.ne)=b6→decide (lo≤u.pe)=b7→tik1 u=(bif b4&&(!b5&&!b6) then (bif b7 then endW u else ecoW u) else u):=by
    rintro _ _ _ _ rfl rfl rfl rfl
    have e:decide (u.ne≤tk)=!decide (tk<u.ne):=by by_cases h:u.ne≤tk <;> simp [h] <;> omega
    unfold tik1
    rw [ut,ul,e,bne]
  have L3:tik1 u=ecoW u→∃ y,Le (wkB (ecoW u)) y∧K y:=fun h=>⟨_,Le.refl _,on _ h⟩
  refine ⟨⟨?_,?_⟩,?_⟩
  all_goals refine holds_t (holds_t ⟨fun h4=>L1 ((T false _ _ _ (by rw [us,bne,Bool.not_eq_true'] at h4; exact h4) rfl rfl rfl).trans rfl),fun h4=>⟨fun h5=>L1 ((T true true _ _ (by rw [us,bne,Bool.not_eq_false'] at h4; exact h4) (by rw [un] at h5; exact h5) rfl rfl).trans rfl),fun h5=>⟨fun h6=>L1 ((T true false true _ (by rw [us,bne,Bool.not_eq_false'] at h4; exact h4) (by rw [un] at h5; exact h5) (by rw [un] at h6; exact h6) rfl).trans rfl),fun h6=>⟨fun h7=>holds_t_of (hB1 _ rfl) (holds_t_of (BO _ rfl w1d (by show w1.out.len≤_; omega) (by show w1.did.len≤_; omega)) ⟨_,Le.refl (wkB w2),on w2 ?_⟩),fun h7=>holds_t (holds_t (holds_t ?_))⟩⟩⟩⟩)
  all_goals have H4:(u.st==9)=true:=by rw [us,bne,Bool.not_eq_false'] at h4; exact h4
  all_goals have H5:(u.ne==0)=false:=by rw [un] at h5; exact h5
  all_goals have H6:decide (tk<u.ne)=false:=by rw [un] at h6; exact h6
  all_goals first
    | exact (T true false false true H4 H5 H6 (by rw [up] at h7; exact h7)).trans E2.symm
    | (have h:=on _ ((T true false false false H4 H5 H6 (by rw [up] at h7; exact h7)).trans rfl)
       rw [hU] at h ⊢
       exact ⟨_,Le.refl _,h⟩)
abbrev nlH (mru mc mt mf wt ec lo st id rq ct tm nk mg pr mu pe ne tick:Int) (d:D):Hp:=⟨[(0,[ai mru,ai mc,ai mt,ai mf,ai wt,ai ec,ai lo,ai st,ai id,ai rq,asl opS d,ai ct,ai tm,ai nk,ai mg,ai pr,ai mu,ai pe,ai ne,ai tick,.sc false (.slice none 0 0),.sc false (.slice none 0 0)])],1,[],0,0,0⟩
abbrev dnH (mru mc mt mf wt ec lo st id rq ct tm nk mg pr mu pe ne tick:Int) (d out did:D):Hp:=⟨[(0,[ai mru,ai mc,ai mt,ai mf,ai wt,ai ec,ai lo,ai st,ai id,ai rq,asl opS d,ai ct,ai tm,ai nk,ai mg,ai pr,ai mu,ai pe,ai ne,ai tick,asl ctS out,asl acS did])],1,[],0,1000,1000⟩
def nlCd:Cs:=⟨0,[],[(0,[.int .i64,.int .i64,.int .i64,.int .i64,.int .i64,.int .i64,.int .i64,.int .i64,.int .i64,.int .i64,.sl opS,.int .i64,.int .i64,.int .i64,.int .i64,.int .i64,.int .i64,.int .i64,.int .i64,.int .i64,.lit (.sc false (.slice none 0 0)),.lit (.sc false (.slice none 0 0))])],1,[],0,0,0⟩
def nlD (h:Hp):Option WkV:=match cdH nlCd h with
  | some [v0,v1,v2,v3,v4,v5,v6,v7,v8,v9,v10,v11,v12,v13,v14,v15,v16,v17,v18,v19]=>some ⟨v0.toI,v1.toI,v2.toI,v3.toI,v4.toI,v5.toI,v6.toI,v7.toI,v8.toI,v9.toI,v10,v11.toI,v12.toI,v13.toI,v14.toI,v15.toI,v16.toI,v17.toI,v18.toI,v19.toI,.l [],.l []⟩
  | _=>none
theorem nlD_ok {h:Hp} {w:WkV} (hd:nlD h=some w):h=nlH w.mru w.mc w.mt w.mf w.wt w.ec w.lo w.st w.id w.rq w.ct w.tm w.nk w.mg w.pr w.mu w.pe w.ne w.tick w.d∧w.out=.l []∧w.did=.l []:=by
  unfold nlD at hd
  split at hd
  · rename_i h1
    cases hd
    exact ⟨(cdS_ok h1).2,rfl,rfl⟩
  · cases hd
def dnW (w:WkV):Hp:=dnH w.mru w.mc w.mt w.mf w.wt w.ec w.lo w.st w.id w.rq w.ct w.tm w.nk w.mg w.pr w.mu w.pe w.ne w.tick w.d w.out w.did
def cnfG (P:Program):List (FuncId×Spec):=[(12,pureS P 12 FAuA),(101,pureS P 101 FPkt),(55,objT flwS),(104,pureS P 104 FDec),(105,pureS P 105 FBrs),(102,pureS P 102 FCnk)]
theorem cnf_tree (mru mc mt mf wt ec lo st id rq ct tm nk mg pr mu pe ne tick:Int) (d:D) (ic ii:Int) (ix:D):treeQ 1 0 (evF Tryz.prog (gam (cnfG Tryz.prog)) (lam []) 100 64) [.ptr 0 0,ctlA ic ii ix] (nlH mru mc mt mf wt ec lo st id rq ct tm nk mg pr mu pe ne tick d) =
let w_0:=pkW (rlA mg) mc mt mf wt (AuV.mk st id rq d ct tm nk) ic ii ix tick; let w_1:=flwW (WkV.mk mru mc mt mf wt ec lo w_0.a.st w_0.a.id w_0.a.rq w_0.a.d w_0.a.ct w_0.a.tm w_0.a.nk mg pr mu pe ne tick (D.app (D.l []) w_0.out) (D.app (D.l []) w_0.did)) 0; RT.all (RT.all (RT.br (pkN (rlA mg) d ix) (RT.br (flwN (WkV.mk mru mc mt mf wt ec lo w_0.a.st w_0.a.id w_0.a.rq w_0.a.d w_0.a.ct w_0.a.tm w_0.a.nk mg pr mu pe ne tick (D.app (D.l []) w_0.out) (D.app (D.l []) w_0.did)) 0) (RT.br (decide ((0:Int)≤0∧0≤(↑(D.len w_1.out):Int)∧(↑(D.len w_1.out):Int)≤(↑(D.len w_1.out):Int)∧(↑(D.len w_1.out):Int)≤(↑(D.len w_1.out):Int))) (RT.br (!hasK (D.sub w_1.out 0 (Int.toNat (↑(D.len w_1.out):Int)))) (RT.ok (AV.tup [],(Hp.mk [(0,[zi w_1.mru,zi w_1.mc,zi w_1.mt,zi w_1.mf,zi w_1.wt,zi w_1.ec,zi w_1.lo,zi w_1.st,zi w_1.id,zi w_1.rq,zs zO w_1.d,zi w_1.ct,zi w_1.tm,zi w_1.nk,zi w_1.mg,zi w_1.pr,zi w_1.mu,zi w_1.pe,zi w_1.ne,zi w_1.tick,zs zC w_1.out,zs zN w_1.did])] 1 [] 0 1000 1000))) (RT.br (bytesB ix) (RT.br (optsB (decO ix)) (RT.br (optsB (decO ix)) (RT.ok (AV.tup [],(Hp.mk [(0,[zi w_1.mru,zi w_1.mc,zi w_1.mt,zi w_1.mf,zi w_1.wt,zi w_1.ec,zi w_1.lo,zi w_1.st,zi w_1.id,zi w_1.rq,zs zO w_1.d,zi w_1.ct,zi w_1.tm,zi w_1.nk,zi w_1.mg,zi (brV (decO ix) 5 0),zi (brV (decO ix) 1 1492),zi w_1.pe,zi w_1.ne,zi w_1.tick,zs zC w_1.out,zs zN w_1.did])] 1 [] 0 1000 1000))) (RT.bad 302)) (RT.bad 302)) (RT.bad 251))) (RT.bad 37)) (RT.bad 299)) (RT.bad 294)) (RT.br (pkN (rlA mg) d ix) (RT.br (flwN (WkV.mk mru mc mt mf wt ec lo w_0.a.st w_0.a.id w_0.a.rq w_0.a.d w_0.a.ct w_0.a.tm w_0.a.nk mg pr mu pe ne tick (D.app (D.l []) w_0.out) (D.app (D.l []) w_0.did)) 0) (RT.br (decide ((0:Int)≤0∧0≤(↑(D.len w_1.out):Int)∧(↑(D.len w_1.out):Int)≤(↑(D.len w_1.out):Int)∧(↑(D.len w_1.out):Int)≤(↑(D.len w_1.out):Int))) (RT.br (!hasK (D.sub w_1.out 0 (Int.toNat (↑(D.len w_1.out):Int)))) (RT.ok (AV.tup [],(Hp.mk [(0,[zi w_1.mru,zi w_1.mc,zi w_1.mt,zi w_1.mf,zi w_1.wt,zi w_1.ec,zi w_1.lo,zi w_1.st,zi w_1.id,zi w_1.rq,zs zO w_1.d,zi w_1.ct,zi w_1.tm,zi w_1.nk,zi w_1.mg,zi w_1.pr,zi w_1.mu,zi w_1.pe,zi w_1.ne,zi w_1.tick,zs zC w_1.out,zs zN w_1.did])] 1 [] 0 1000 1000))) (RT.br (bytesB ix) (RT.br (optsB (decO ix)) (RT.br (optsB (decO ix)) (RT.ok (AV.tup [],(Hp.mk [(0,[zi w_1.mru,zi w_1.mc,zi w_1.mt,zi w_1.mf,zi w_1.wt,zi w_1.ec,zi w_1.lo,zi w_1.st,zi w_1.id,zi w_1.rq,zs zO w_1.d,zi w_1.ct,zi w_1.tm,zi w_1.nk,zi w_1.mg,zi (brV (decO ix) 5 0),zi (brV (decO ix) 1 1492),zi w_1.pe,zi w_1.ne,zi w_1.tick,zs zC w_1.out,zs zN w_1.did])] 1 [] 0 1000 1000))) (RT.bad 302)) (RT.bad 302)) (RT.bad 251))) (RT.bad 37)) (RT.bad 299)) (RT.bad 294))) (RT.br (pkN (rlA mg) d ix) (RT.br (flwN (WkV.mk mru mc mt mf wt ec lo w_0.a.st w_0.a.id w_0.a.rq w_0.a.d w_0.a.ct w_0.a.tm w_0.a.nk mg pr mu pe ne tick (D.app (D.l []) w_0.out) (D.app (D.l []) w_0.did)) 0) (RT.br (decide ((0:Int)≤0∧0≤(↑(D.len w_1.out):Int)∧(↑(D.len w_1.out):Int)≤(↑(D.len w_1.out):Int)∧(↑(D.len w_1.out):Int)≤(↑(D.len w_1.out):Int))) (RT.br (!hasK (D.sub w_1.out 0 (Int.toNat (↑(D.len w_1.out):Int)))) (RT.ok (AV.tup [],(Hp.mk [(0,[zi w_1.mru,zi w_1.mc,zi w_1.mt,zi w_1.mf,zi w_1.wt,zi w_1.ec,zi w_1.lo,zi w_1.st,zi w_1.id,zi w_1.rq,zs zO w_1.d,zi w_1.ct,zi w_1.tm,zi w_1.nk,zi w_1.mg,zi w_1.pr,zi w_1.mu,zi w_1.pe,zi w_1.ne,zi w_1.tick,zs zC w_1.out,zs zN w_1.did])] 1 [] 0 1000 1000))) (RT.br (bytesB ix) (RT.br (optsB (decO ix)) (RT.br (optsB (decO ix)) (RT.ok (AV.tup [],(Hp.mk [(0,[zi w_1.mru,zi w_1.mc,zi w_1.mt,zi w_1.mf,zi w_1.wt,zi w_1.ec,zi w_1.lo,zi w_1.st,zi w_1.id,zi w_1.rq,zs zO w_1.d,zi w_1.ct,zi w_1.tm,zi w_1.nk,zi w_1.mg,zi (brV (decO ix) 5 0),zi (brV (decO ix) 1 1492),zi w_1.pe,zi w_1.ne,zi w_1.tick,zs zC w_1.out,zs zN w_1.did])] 1 [] 0 1000 1000))) (RT.bad 302)) (RT.bad 302)) (RT.bad 251))) (RT.bad 37)) (RT.bad 299)) (RT.bad 294)):=by kernel_rfl
theorem cnfG_ok:GamL Tryz.prog (cnfG Tryz.prog):=⟨auA_soundF,pkt_soundF,objT_ok flw_soundF,dec_soundF,brs_soundF,cnk_soundF,trivial⟩
theorem optsB_of {d:D} (h:∀ i,i<d.len→bytesB (optB d i)=true):optsB d=true:=det fun i hi=>odt (h i hi)
theorem optsB_at {d:D} (h:optsB d=true) {i:Nat} (hi:i<d.len):bytesB (optB d i)=true:=det (odt h i hi)
theorem len_max (d:D):d.len≤maxLen:=by unfold D.len D.toL; exact List.length_take_le _ _
theorem nkD_opts {d l:D} (h:optsB d=true) (hl:optsB l=true):optsB (nkD d l)=true:=by
  refine optsB_of fun i hi=>?_
  unfold nkD at hi ⊢
  rw [tabD_len (len_max d)] at hi
  show bytesB (((tabD (nkV d l) d.len).get i).cell 1)=true
  rw [tabD_get (len_max d) hi]
  show bytesB (bif decide (0≤plaI l (optT d i)) then optB l (plaI l (optT d i)).toNat else optB d i)=true
  by_cases hp:0≤plaI l (optT d i)
  · rw [det hp]; exact optsB_at hl (plaI_lt hp).1
  · rw [def_ hp]; exact optsB_at h hi
theorem rjO_opts {d l:D} (h:optsB d=true):optsB (rjO d l)=true:=by
  refine optsB_of fun i hi=>?_
  unfold rjO at hi ⊢
  obtain ⟨j,hj,_,e⟩:=filD_get (len_max d) hi
  show bytesB (((filD _ (copE d) d.len).get i).cell 1)=true
  rw [e]
  exact optsB_at h hj
theorem lrnO_opts {d l:D} {c:Int} (h:optsB d=true) (hl:optsB l=true):optsB (lrnO d c l)=true:=by
  unfold lrnO
  cases lrnB d c l
  · exact h
  · cases c==3
    · exact rjO_opts h
    · exact nkD_opts h hl
def pkFit (w:DoneV):Prop:=w.out.len≤3∧w.did.len≤3∧optsB w.a.d=true
theorem pkW_fit {r:D} {mc mt mf wt:Int} {a:AuV} {ic ii:Int} {ix:D} {tk:Int} (h:optsB a.d=true) (hx:bytesB ix=true):pkFit (pkW r mc mt mf wt a ic ii ix tk):=by
  have S:pkFit (stayV a):=⟨Nat.zero_le _,Nat.zero_le _,h⟩
  have W:∀ (e ac ax:Int) (ad:D) (b:AuV),optsB b.d=true→pkFit (doW (rlM r) (rlG r) mc mt mf wt b e ic ii ix ac ax ad tk):=fun e ac ax ad b hb=>⟨doW_fit.1,doW_fit.2.1,by rw [doW_fit.2.2]; exact hb⟩
  have C:∀ (b:Bool) (x y:DoneV),pkFit x→pkFit y→pkFit (bif b then x else y):=fun b x y hx hy=>by cases b <;> assumption
  have hl:∀ c,optsB (lrnO a.d c (decO ix))=true:=fun c=>lrnO_opts h (decO_fit hx).2
  unfold pkW
  repeat (first | with_reducible refine C _ _ _ ?_ ?_ | with_reducible exact S | with_reducible exact W _ _ _ _ _ h | (refine W _ _ _ _ _ ?_; exact hl _))
def cnR (w:WkV) (rl:D) (ic ii:Int) (ix:D):DoneV:=pkW rl w.mc w.mt w.mf w.wt ⟨w.st,w.id,w.rq,w.d,w.ct,w.tm,w.nk⟩ ic ii ix w.tick
def cnfW (w:WkV) (rl:D) (ic ii:Int) (ix:D):WkV :=
  bif hasK (folW w (cnR w rl ic ii ix)).out then { folW w (cnR w rl ic ii ix) with pr:=brV (decO ix) 5 0,mu:=brV (decO ix) 1 1492 } else folW w (cnR w rl ic ii ix)
def cnA:List AV→Option (Int×Int×D)
  | .ptr 0 0 :: l=>(match cdAL [.agg [.int .i64,.int .i64,.sl byS]] l with
    | some [v1,v2,v3]=>some (v1.toI,v2.toI,v3)
    | _=>none)
  | _=>none
theorem cnA_ok {args:List AV} {ic ii:Int} {ix:D} (h:cnA args=some (ic,ii,ix)):args=[.ptr 0 0,ctlA ic ii ix]:=by
  unfold cnA at h
  split at h
  · split at h
    · rename_i h1
      cases h
      have e:=congrArg Prod.fst (cdAL_ok _ _ _ h1 [])
      dsimp only at e
      rw [← e]; rfl
    · cases h
  · cases h
def cnfS:Spec:=fun args h=>match cnA args,nlD h with
  | some (ic,ii,ix),some w=>need false (bytesB ix&&optsB w.d) 299 (.ok (.tup [],dnW (cnfW w (rlA w.mg) ic ii ix)))
  | _,_=>.bad 299
theorem hasK_sub (x:D):hasK (x.sub 0 x.len)=hasK x:=by
  have hl:(x.sub 0 x.len).len=x.len:=by rw [sub_len (Nat.zero_le _) (Nat.le_refl _)]; rfl
  unfold hasK
  rw [hl]
  congr 1
  have G:∀ i,i<x.len→(x.sub 0 x.len).get i=x.get i:=fun i hi=>by rw [sub_get (by omega),Nat.zero_add]
  have N:∀ j,j<x.len→neC (x.sub 0 x.len) j=neC x j:=fun j hj=>by unfold neC; rw [G j hj]
  rw [Bool.eq_iff_iff,okFrom_iff,okFrom_iff]
  exact ⟨fun h j h1 h2=>by rw [← N j (by omega)]; exact h j h1 h2,fun h j h1 h2=>by rw [N j (by omega)]; exact h j h1 h2⟩
theorem cnf_soundF:SoundF Tryz.prog 64 cnfS:=by
  refine obj_in2 (gs:=cnfG Tryz.prog) (ls:=[]) mixed cnfG_ok trivial 64 100 1 0 fun args h K H=>?_
  unfold cnfS at H
  split at H
  rotate_left
  · exact H.elim
  rename_i ic ii ix w h1 h2
  obtain ⟨hb,H⟩:=need_holds H
  rw [Bool.and_eq_true] at hb
  obtain ⟨hx,hb⟩:=hb
  obtain ⟨e1,e2,e3⟩:=nlD_ok h2
  rw [cnA_ok h1,e1]
  refine ⟨rfl,?_⟩
  obtain ⟨mru,mc,mt,mf,wt,ec,lo,st,id,rq,d,ct,tm,nk,mg,pr,mu,pe,ne,tick,out,did⟩:=w
  dsimp only at hb H e2 e3
  subst e2 e3
  dsimp only
  rw [cnf_tree]
  extract_lets w0 w1
  obtain ⟨f1,f2,f3⟩:pkFit w0:=pkW_fit hb hx
  have E:w1=folW ⟨mru,mc,mt,mf,wt,ec,lo,st,id,rq,d,ct,tm,nk,mg,pr,mu,pe,ne,tick,.l [],.l []⟩ w0:=fol_w ⟨mru,mc,mt,mf,wt,ec,lo,st,id,rq,d,ct,tm,nk,mg,pr,mu,pe,ne,tick,.l [],.l []⟩ w0 (by show 0+w0.did.len≤_; unfold maxLen; omega)
  have hP:pkN (rlA mg) d ix=true:=by unfold pkN; rw [hx,hb]; rfl
  have hF:flwN ⟨mru,mc,mt,mf,wt,ec,lo,w0.a.st,w0.a.id,w0.a.rq,w0.a.d,w0.a.ct,w0.a.tm,w0.a.nk,mg,pr,mu,pe,ne,tick,D.app (.l []) w0.out,D.app (.l []) w0.did⟩ 0=true:=by
    unfold flwN
    dsimp only
    rw [f3,Bool.and_true]
    exact det ⟨Int.le_refl _,by omega⟩
  have hD:=(decO_fit hx).2
  have A:∀ b v,hasK w1.out=b→(bif b then { w1 with pr:=brV (decO ix) 5 0,mu:=brV (decO ix) 1 1492 } else w1)=v→K (.tup [],dnW v):=by
    rintro b v rfl rfl
    rw [E]; exact H
  have hK:hasK (w1.out.sub 0 (w1.out.len:Int).toNat)=hasK w1.out:=hasK_sub _
  refine ⟨⟨?_,?_⟩,?_⟩
  all_goals refine holds_t_of hP (holds_t_of hF (holds_t_of (det ⟨by omega,by omega,by omega,by omega⟩) ⟨fun h=>⟨_,Le.refl _,A false _ ?_ rfl⟩,fun h=>holds_t_of hx (holds_t_of hD (holds_t_of hD ⟨_,Le.refl _,A true _ ?_ rfl⟩))⟩))
  all_goals rw [hK] at h; simpa using h
def cfuG (P:Program):List (FuncId×Spec):=[(13,pureS P 13 FAuB),(136,pureS P 136 FPkt),(114,pureS P 114 FFls),(137,pureS P 137 FDec),(138,pureS P 138 FRbr)]
def cfuCd:List Cd:=[.agg [.int .i64,.int .i64,.int .i64,.sl opS,.int .i64,.int .i64,.int .i64,.int .i64,.int .i64,.int .i64,.int .i64,.int .i64,.sl ctS,.sl acS],.agg [.int .i64,.int .i64,.int .i64,.int .i64,.int .i64,.int .i64,.int .i64],.agg [.int .i64,.int .i64,.sl byS],.int .i64]
def FCfu (args:List AV):RT AV:=match cdAL cfuCd args with
  | some [v0,v1,v2,v3,v4,v5,v6,v7,v8,v9,v10,v11,.l [],.l [],v14,v15,v16,v17,v18,v19,v20,v21,v22,v23,v24]=>need false (decide (0≤v19.toI)&&(bytesB v23&&optsB v3)) 308 (.ok (wkB (cnfW ⟨v14.toI,v15.toI,v16.toI,v17.toI,v18.toI,v19.toI,v20.toI,v0.toI,v1.toI,v2.toI,v3,v4.toI,v5.toI,v6.toI,v7.toI,v8.toI,v9.toI,v10.toI,v11.toI,v24.toI,.l [],.l []⟩ (rlB v7.toI) v21.toI v22.toI v23)))
  | _=>.bad 308
theorem cfuG_ok:GamL Tryz.prog (cfuG Tryz.prog):=⟨auB_soundF,rpk_soundF,fls_soundF,rdec_soundF,rbr_soundF,trivial⟩
def cfu_treeT (mru mc mt mf wt ec lo st id rq ct tm nk mg pr mu pe ne tick:Int) (d:D) (ic ii:Int) (ix:D):RT AV :=
let w_0:=pkW (rlB mg) mc mt mf wt (AuV.mk st id rq d ct tm nk) ic ii ix tick; RT.all (RT.all (RT.br (pkN (rlB mg) d ix) (RT.br (flsN ec w_0.a.d (D.l []) w_0.out (D.l []) w_0.did) (RT.br (bytesB ix&&true) (RT.ok (AV.agg [zi w_0.a.st,zi w_0.a.id,zi w_0.a.rq,zs zO w_0.a.d,zi w_0.a.ct,zi w_0.a.tm,zi w_0.a.nk,zi (mgV w_0.a.d mg),zi (akV w_0.out pr (brV (decO ix) 5 0) (D.len w_0.out)),zi (akV w_0.out mu (brV (decO ix) 1 1492) (D.len w_0.out)),zi (flP w_0.did pe (D.len w_0.did)),zi (flN w_0.did ec tick ne (D.len w_0.did)),zs zC (cat2 (D.l []) w_0.out),zs zN (cat2 (D.l []) w_0.did)])) (RT.bad 210)) (RT.bad 300)) (RT.bad 294)) (RT.br (pkN (rlB mg) d ix) (RT.br (flsN ec w_0.a.d (D.l []) w_0.out (D.l []) w_0.did) (RT.br (bytesB ix&&true) (RT.ok (AV.agg [zi w_0.a.st,zi w_0.a.id,zi w_0.a.rq,zs zO w_0.a.d,zi w_0.a.ct,zi w_0.a.tm,zi w_0.a.nk,zi (mgV w_0.a.d mg),zi (akV w_0.out pr (brV (decO ix) 5 0) (D.len w_0.out)),zi (akV w_0.out mu (brV (decO ix) 1 1492) (D.len w_0.out)),zi (flP w_0.did pe (D.len w_0.did)),zi (flN w_0.did ec tick ne (D.len w_0.did)),zs zC (cat2 (D.l []) w_0.out),zs zN (cat2 (D.l []) w_0.did)])) (RT.bad 210)) (RT.bad 300)) (RT.bad 294))) (RT.br (pkN (rlB mg) d ix) (RT.br (flsN ec w_0.a.d (D.l []) w_0.out (D.l []) w_0.did) (RT.br (bytesB ix&&true) (RT.ok (AV.agg [zi w_0.a.st,zi w_0.a.id,zi w_0.a.rq,zs zO w_0.a.d,zi w_0.a.ct,zi w_0.a.tm,zi w_0.a.nk,zi (mgV w_0.a.d mg),zi (akV w_0.out pr (brV (decO ix) 5 0) (D.len w_0.out)),zi (akV w_0.out mu (brV (decO ix) 1 1492) (D.len w_0.out)),zi (flP w_0.did pe (D.len w_0.did)),zi (flN w_0.did ec tick ne (D.len w_0.did)),zs zC (cat2 (D.l []) w_0.out),zs zN (cat2 (D.l []) w_0.did)])) (RT.bad 210)) (RT.bad 300)) (RT.bad 294))
theorem cfu_tree (mru mc mt mf wt ec lo st id rq ct tm nk mg pr mu pe ne tick:Int) (d:D) (ic ii:Int) (ix:D):treeF (evF Tryz.prog (gam (cfuG Tryz.prog)) (lam (cfgLs Tryz.prog)) 100 111) [.agg [ai st,ai id,ai rq,asl opS d,ai ct,ai tm,ai nk,ai mg,ai pr,ai mu,ai pe,ai ne,asl ctS (.l []),asl acS (.l [])],cnfA mru mc mt mf wt ec lo,ctlA ic ii ix,ai tick]=cfu_treeT mru mc mt mf wt ec lo st id rq ct tm nk mg pr mu pe ne tick d ic ii ix:=by rw [← fvF_eq Tryz.prog (gam (cfuG Tryz.prog)) (lam (cfgLs Tryz.prog)) false 100 111]; kernel_rfl
theorem hasK_nil {x:D} (hx:x.len≤maxLen):hasK (D.app (.l []) x)=hasK x:=by
  have h0:(D.l []).len+x.len≤maxLen:=by show 0+x.len≤_; omega
  have hl:(D.app (.l []) x).len=x.len:=by rw [app_lenS h0]; show 0+x.len=_; omega
  have G:∀ i,(D.app (.l []) x).get i=x.get i:=fun i=>by
    have:=app_get_r h0 i
    rwa [show (D.l []).len+i=i from Nat.zero_add i] at this
  unfold hasK
  rw [hl]
  congr 1
  have N:neC (D.app (.l []) x)=neC x:=funext fun j=>by unfold neC; rw [G j]
  rw [N]
theorem cfu_holds {mru mc mt mf wt ec lo st id rq ct tm nk mg pr mu pe ne tick:Int} {d:D} {ic ii:Int} {ix:D} {K:AV→Prop} (hec:0≤ec) (hx:bytesB ix=true) (hb:optsB d=true) (H:K (wkB (cnfW ⟨mru,mc,mt,mf,wt,ec,lo,st,id,rq,d,ct,tm,nk,mg,pr,mu,pe,ne,tick,.l [],.l []⟩ (rlB mg) ic ii ix))):(cfu_treeT mru mc mt mf wt ec lo st id rq ct tm nk mg pr mu pe ne tick d ic ii ix).holds fun y=>∃ z,Le y z∧K z:=by
  unfold cfu_treeT
  extract_lets w0
  obtain ⟨f1,f2,f3⟩:pkFit w0:=pkW_fit hb hx
  have hP:pkN (rlB mg) d ix=true:=by unfold pkN; rw [hx,hb]; rfl
  have hN:flsN ec w0.a.d (.l []) w0.out (.l []) w0.did=true:=by
    unfold flsN
    rw [f3,Bool.and_true]
    exact det ⟨hec,by show (0+w0.out.len)*40≤_; omega,by show (0+w0.did.len)*8≤_; omega⟩
  have co:cat2 (.l []) w0.out=D.app (.l []) w0.out:=by rw [cat2_app]
  have ci:cat2 (.l []) w0.did=D.app (.l []) w0.did:=by rw [cat2_app]
  have hK:hasK (D.app (.l []) w0.out)=hasK w0.out:=hasK_nil (by unfold maxLen; omega)
  have e1:∀ v0 v1,akV w0.out v0 v1 w0.out.len=bif hasK (D.app (.l []) w0.out) then v1 else v0:=fun v0 v1=>by
    rw [akV_all,hK]
    unfold hasK
    cases okFrom (neC w0.out) w0.out.len 0 <;> rfl
  rw [hP,hN,hx]
  simp only [co,ci,e1]
  have A:∀ b,hasK (D.app (.l []) w0.out)=b→K (wkB (bif b then { folW ⟨mru,mc,mt,mf,wt,ec,lo,st,id,rq,d,ct,tm,nk,mg,pr,mu,pe,ne,tick,.l [],.l []⟩ w0 with pr:=brV (decO ix) 5 0,mu:=brV (decO ix) 1 1492 } else folW ⟨mru,mc,mt,mf,wt,ec,lo,st,id,rq,d,ct,tm,nk,mg,pr,mu,pe,ne,tick,.l [],.l []⟩ w0)):=by
    rintro b rfl; exact H
  cases hh:hasK (D.app (.l []) w0.out)
  · have A:=A _ hh
    refine ⟨⟨?_,?_⟩,?_⟩ <;> exact holds_t (holds_t (holds_t ⟨_,Le.refl _,A⟩))
  · have A:=A _ hh
    refine ⟨⟨?_,?_⟩,?_⟩ <;> exact holds_t (holds_t (holds_t ⟨_,Le.refl _,A⟩))
theorem FCfu_inv {args:List AV} {K:AV→Prop} (H:(FCfu args).holds K):∃ (mru mc mt mf wt ec lo st id rq ct tm nk mg pr mu pe ne tick:Int) (d:D) (ic ii:Int) (ix:D),args=[.agg [ai st,ai id,ai rq,asl opS d,ai ct,ai tm,ai nk,ai mg,ai pr,ai mu,ai pe,ai ne,asl ctS (.l []),asl acS (.l [])],cnfA mru mc mt mf wt ec lo,ctlA ic ii ix,ai tick]∧0≤ec∧bytesB ix=true∧optsB d=true∧K (wkB (cnfW ⟨mru,mc,mt,mf,wt,ec,lo,st,id,rq,d,ct,tm,nk,mg,pr,mu,pe,ne,tick,.l [],.l []⟩ (rlB mg) ic ii ix)):=by
  unfold FCfu at H
  split at H
  · rename_i v0 v1 v2 v3 v4 v5 v6 v7 v8 v9 v10 v11 v14 v15 v16 v17 v18 v19 v20 v21 v22 v23 v24 hd
    obtain ⟨hc,H⟩:=need_holds H
    rw [Bool.and_eq_true,Bool.and_eq_true] at hc
    have:=cdAL_ok _ _ _ hd []
    exact ⟨v14.toI,v15.toI,v16.toI,v17.toI,v18.toI,v19.toI,v20.toI,v0.toI,v1.toI,v2.toI,v4.toI,v5.toI,v6.toI,v7.toI,v8.toI,v9.toI,v10.toI,v11.toI,v24.toI,v3,v21.toI,v22.toI,v23,(congrArg Prod.fst this).symm,odt hc.1,hc.2.1,hc.2.2,H⟩
  · exact H.elim
theorem cfu_soundF:SoundF Tryz.prog 111 (pureS Tryz.prog 111 FCfu):=by
  refine pure_in (gs:=cfuG Tryz.prog) (ls:=cfgLs Tryz.prog) mixed cfuG_ok cfgLs_ok 111 100 fun args K ho H=>?_
  obtain ⟨mru,mc,mt,mf,wt,ec,lo,st,id,rq,ct,tm,nk,mg,pr,mu,pe,ne,tick,d,ic,ii,ix,hr,h1,h2,h3,H⟩:=FCfu_inv H
  rw [hr,cfu_tree]
  exact cfu_holds h1 h2 h3 H
def FEq4:List AV→RT AV
  | [.sl false [.int .u8] x none,.sl false [.int .u8] y none]=>need false (decide (x.len=4∧y.len=4)&&(bytesB x&&bytesB y)) 310 (.ok (ab (eqB x y)))
  | _=>.bad 310
def lpkG (P:Program):List (FuncId×Spec):=(60,pureS P 60 FEnc7) :: (38,vecS P 38 5 byS FPutV) :: (64,objT cnfS) :: (14,pureS P 14 FRej) :: (133,pureS P 133 FEq4) :: lcpG P
def rplG (P:Program):List (FuncId×Spec):=(30,pureS P 30 FEnc7) :: (42,vecS P 42 5 byS FPutV) :: (111,pureS P 111 FCfu) :: (15,pureS P 15 FRej) :: rl2G P
theorem oeq_tree (a b c d e f g h:Int):treeF (evF Tryz.prog (gam ([])) (lam ([])) 100 133) [.sl true byS (.l [.i a,.i b,.i c,.i d]) none,.sl true byS (.l [.i e,.i f,.i g,.i h]) none] =
RT.ok (zb (IntKind.wrap IntKind.u8 (↑(BitVec.toNat (BitVec.ofInt (IntKind.bits IntKind.u8) (IntKind.wrap IntKind.u8 (↑(BitVec.toNat (BitVec.ofInt (IntKind.bits IntKind.u8) (IntKind.wrap IntKind.u8 (↑(BitVec.toNat (BitVec.ofInt (IntKind.bits IntKind.u8) (IntKind.wrap IntKind.u8 (↑(BitVec.toNat (BitVec.ofInt (IntKind.bits IntKind.u8) (Int.ofNat 0) ||| BitVec.ofInt (IntKind.bits IntKind.u8) (IntKind.wrap IntKind.u8 (↑(BitVec.toNat (BitVec.ofInt (IntKind.bits IntKind.u8) (D.toI (D.cell (D.get (D.l [D.i a,D.i b,D.i c,D.i d]) (Int.toNat (Int.ofNat 0))) 0)) ^^^ BitVec.ofInt (IntKind.bits IntKind.u8) (D.toI (D.cell (D.get (D.l [D.i e,D.i f,D.i g,D.i h]) (Int.toNat (Int.ofNat 0))) 0)))):Int)))):Int)) ||| BitVec.ofInt (IntKind.bits IntKind.u8) (IntKind.wrap IntKind.u8 (↑(BitVec.toNat (BitVec.ofInt (IntKind.bits IntKind.u8) (D.toI (D.cell (D.get (D.l [D.i a,D.i b,D.i c,D.i d]) (Int.toNat (Int.ofNat (Nat.succ 0)))) 0)) ^^^ BitVec.ofInt (IntKind.bits IntKind.u8) (D.toI (D.cell (D.get (D.l [D.i e,D.i f,D.i g,D.i h]) (Int.toNat (Int.ofNat (Nat.succ 0)))) 0)))):Int)))):Int)) ||| BitVec.ofInt (IntKind.bits IntKind.u8) (IntKind.wrap IntKind.u8 (↑(BitVec.toNat (BitVec.ofInt (IntKind.bits IntKind.u8) (D.toI (D.cell (D.get (D.l [D.i a,D.i b,D.i c,D.i d]) (Int.toNat (Int.ofNat (Nat.succ 1)))) 0)) ^^^ BitVec.ofInt (IntKind.bits IntKind.u8) (D.toI (D.cell (D.get (D.l [D.i e,D.i f,D.i g,D.i h]) (Int.toNat (Int.ofNat (Nat.succ 1)))) 0)))):Int)))):Int)) ||| BitVec.ofInt (IntKind.bits IntKind.u8) (IntKind.wrap IntKind.u8 (↑(BitVec.toNat (BitVec.ofInt (IntKind.bits IntKind.u8) (D.toI (D.cell (D.get (D.l [D.i a,D.i b,D.i c,D.i d]) (Int.toNat (Int.ofNat (Nat.succ 2)))) 0)) ^^^ BitVec.ofInt (IntKind.bits IntKind.u8) (D.toI (D.cell (D.get (D.l [D.i e,D.i f,D.i g,D.i h]) (Int.toNat (Int.ofNat (Nat.succ 2)))) 0)))):Int)))):Int)==0)):=by rw [← fvF_eq Tryz.prog (gam ([])) (lam ([])) false 100 133]; kernel_rfl
abbrev lpk_treeT_1 (st id rq ct tm nk mg pr mu pe ne:Int) (d:D):=RT.ok (AV.tup [AV.agg [zi st,zi id,zi rq,zs zO d,zi ct,zi tm,zi nk,zi mg,zi pr,zi mu,zi pe,zi ne],zz,zz])
def lpk_treeT (mru mc mt mf wt ec lo st id rq ct tm nk mg pr mu pe ne:Int) (d:D) (ic ii:Int) (ix:D) (tk:Int):RT AV :=
let w_0:=cnfW (WkV.mk mru mc mt mf wt ec lo st id rq d ct tm nk mg pr mu pe ne tk (D.l []) (D.l [])) (rlA mg) ic ii ix; let w_1:=doW (rlM (rlA mg)) (rlG (rlA mg)) mc mt mf wt (AuV.mk st id rq d ct tm nk) 15 ic ii ix 0 0 (D.l []) tk; let w_2:=flwW (WkV.mk mru mc mt mf wt ec lo w_1.a.st w_1.a.id w_1.a.rq w_1.a.d w_1.a.ct w_1.a.tm w_1.a.nk mg pr mu pe ne tk (D.app (D.l []) w_1.out) (D.app (D.l []) w_1.did)) 0; let w_3:=doW (rlM (rlA mg)) (rlG (rlA mg)) mc mt mf wt (AuV.mk st id rq d ct tm nk) 14 ic ii ix 0 0 (D.l []) tk; let w_4:=flwW (WkV.mk mru mc mt mf wt ec lo w_3.a.st w_3.a.id w_3.a.rq w_3.a.d w_3.a.ct w_3.a.tm w_3.a.nk mg pr mu pe ne tk (D.app (D.l []) w_3.out) (D.app (D.l []) w_3.did)) 0; let w_5:=doW (rlM (rlA mg)) (rlG (rlA mg)) mc mt mf wt (AuV.mk st id rq d ct tm nk) 16 ic ii ix 10 ii (D.app (beD (IntKind.wrap IntKind.u64 mg) 4) (D.sub ix 4 (Int.toNat (↑(D.len ix):Int)))) tk; let w_6:=flwW (WkV.mk mru mc mt mf wt ec lo w_5.a.st w_5.a.id w_5.a.rq w_5.a.d w_5.a.ct w_5.a.tm w_5.a.nk mg pr mu pe ne tk (D.app (D.l []) w_5.out) (D.app (D.l []) w_5.did)) 0; let w_7:=doW (rlM (rlA mg)) (rlG (rlA mg)) mc mt mf wt (AuV.mk st id rq d ct tm nk) 13 ic ii ix 0 0 (D.l []) tk; let w_8:=flwW (WkV.mk mru mc mt mf wt ec lo w_7.a.st w_7.a.id w_7.a.rq w_7.a.d w_7.a.ct w_7.a.tm w_7.a.nk mg pr mu pe ne tk (D.app (D.l []) w_7.out) (D.app (D.l []) w_7.did)) 0; RT.br (enc7E ic ii ix != 0) (lpk_treeT_1 st id rq ct tm nk mg pr mu pe ne d) (RT.br (errIf (lisB mru mc mt mf wt ec lo st id rq d ct tm nk mg pr mu pe ne) 170 != 0) (lpk_treeT_1 st id rq ct tm nk mg pr mu pe ne d) (RT.br (decide (0≤tk)) (RT.br (!decide (tk≤1099511627776)) (lpk_treeT_1 st id rq ct tm nk mg pr mu pe ne d) (RT.br (ic==1) (RT.br (bytesB ix&&optsB d) (RT.ok (AV.tup [AV.agg [zi w_0.st,zi w_0.id,zi w_0.rq,zs zO w_0.d,zi w_0.ct,zi w_0.tm,zi w_0.nk,zi w_0.mg,zi w_0.pr,zi w_0.mu,zi w_0.pe,zi w_0.ne],zs zC w_0.out,zs zN w_0.did])) (RT.bad 299)) (RT.br (ic==2) (RT.br (bytesB ix&&optsB d) (RT.ok (AV.tup [AV.agg [zi w_0.st,zi w_0.id,zi w_0.rq,zs zO w_0.d,zi w_0.ct,zi w_0.tm,zi w_0.nk,zi w_0.mg,zi w_0.pr,zi w_0.mu,zi w_0.pe,zi w_0.ne],zs zC w_0.out,zs zN w_0.did])) (RT.bad 299)) (RT.br (ic==3) (RT.br (bytesB ix&&optsB d) (RT.ok (AV.tup [AV.agg [zi w_0.st,zi w_0.id,zi w_0.rq,zs zO w_0.d,zi w_0.ct,zi w_0.tm,zi w_0.nk,zi w_0.mg,zi w_0.pr,zi w_0.mu,zi w_0.pe,zi w_0.ne],zs zC w_0.out,zs zN w_0.did])) (RT.bad 299)) (RT.br (ic==4) (RT.br (bytesB ix&&optsB d) (RT.ok (AV.tup [AV.agg [zi w_0.st,zi w_0.id,zi w_0.rq,zs zO w_0.d,zi w_0.ct,zi w_0.tm,zi w_0.nk,zi w_0.mg,zi w_0.pr,zi w_0.mu,zi w_0.pe,zi w_0.ne],zs zC w_0.out,zs zN w_0.did])) (RT.bad 299)) (RT.br (ic==5) (RT.br (bytesB ix&&optsB d) (RT.ok (AV.tup [AV.agg [zi w_0.st,zi w_0.id,zi w_0.rq,zs zO w_0.d,zi w_0.ct,zi w_0.tm,zi w_0.nk,zi w_0.mg,zi w_0.pr,zi w_0.mu,zi w_0.pe,zi w_0.ne],zs zC w_0.out,zs zN w_0.did])) (RT.bad 299)) (RT.br (ic==6) (RT.br (bytesB ix&&optsB d) (RT.ok (AV.tup [AV.agg [zi w_0.st,zi w_0.id,zi w_0.rq,zs zO w_0.d,zi w_0.ct,zi w_0.tm,zi w_0.nk,zi w_0.mg,zi w_0.pr,zi w_0.mu,zi w_0.pe,zi w_0.ne],zs zC w_0.out,zs zN w_0.did])) (RT.bad 299)) (RT.br (ic==7) (RT.br (bytesB ix&&optsB d) (RT.ok (AV.tup [AV.agg [zi w_0.st,zi w_0.id,zi w_0.rq,zs zO w_0.d,zi w_0.ct,zi w_0.tm,zi w_0.nk,zi w_0.mg,zi w_0.pr,zi w_0.mu,zi w_0.pe,zi w_0.ne],zs zC w_0.out,zs zN w_0.did])) (RT.bad 299)) (RT.br (ic==8) (RT.br (rngB ix) (RT.br (!rejB ic ix) (lpk_treeT_1 st id rq ct tm nk mg pr mu pe ne d) (RT.br (st != 9) (lpk_treeT_1 st id rq ct tm nk mg pr mu pe ne d) (RT.br (rejN ic ix==49185) (RT.br true (RT.br (flwN (WkV.mk mru mc mt mf wt ec lo w_1.a.st w_1.a.id w_1.a.rq w_1.a.d w_1.a.ct w_1.a.tm w_1.a.nk mg pr mu pe ne tk (D.app (D.l []) w_1.out) (D.app (D.l []) w_1.did)) 0) (RT.ok (AV.tup [AV.agg [zi w_2.st,zi w_2.id,zi w_2.rq,zs zO w_2.d,zi w_2.ct,zi w_2.tm,zi w_2.nk,zi w_2.mg,zi w_2.pr,zi w_2.mu,zi w_2.pe,zi w_2.ne],zs zC w_2.out,zs zN w_2.did])) (RT.bad 299)) (RT.bad 274)) (RT.br true (RT.br (flwN (WkV.mk mru mc mt mf wt ec lo w_3.a.st w_3.a.id w_3.a.rq w_3.a.d w_3.a.ct w_3.a.tm w_3.a.nk mg pr mu pe ne tk (D.app (D.l []) w_3.out) (D.app (D.l []) w_3.did)) 0) (RT.ok (AV.tup [AV.agg [zi w_4.st,zi w_4.id,zi w_4.rq,zs zO w_4.d,zi w_4.ct,zi w_4.tm,zi w_4.nk,zi w_4.mg,zi w_4.pr,zi w_4.mu,zi w_4.pe,zi w_4.ne],zs zC w_4.out,zs zN w_4.did])) (RT.bad 299)) (RT.bad 274))))) (RT.bad 221)) (RT.br (ic==9) (RT.br (st==9) (RT.br (decide (4≤(↑(D.len ix):Int))) (RT.br (decide ((0:Int)≤0∧(0:Int)≤4∧4≤(↑(D.len ix):Int)∧(↑(D.len ix):Int)≤(↑(D.len ix):Int))) (RT.br (decide ((0≤IntKind.wrap IntKind.u64 mg∧IntKind.wrap IntKind.u64 mg<18446744073709551616)∧(1:Int)≤4∧(4:Int)≤8)) (RT.br (decide (D.len (D.sub ix 0 4)=4∧4=4)&&(bytesB (D.sub ix 0 4)&&bytesB (beD (IntKind.wrap IntKind.u64 mg) 4))) (RT.br (!eqB (D.sub ix 0 4) (beD (IntKind.wrap IntKind.u64 mg) 4)) (RT.br (decide ((0:Int)≤4∧4≤(↑(D.len ix):Int)∧(↑(D.len ix):Int)≤(↑(D.len ix):Int)∧(↑(D.len ix):Int)≤(↑(D.len ix):Int))) (RT.br (decide ((0≤IntKind.wrap IntKind.u64 mg∧IntKind.wrap IntKind.u64 mg<18446744073709551616)∧(1:Int)≤4∧(4:Int)≤8)) (RT.br (decide ((4+D.len (D.sub ix 4 (Int.toNat (↑(D.len ix):Int))))*1≤140737488355328)) (RT.br true (RT.br (flwN (WkV.mk mru mc mt mf wt ec lo w_5.a.st w_5.a.id w_5.a.rq w_5.a.d w_5.a.ct w_5.a.tm w_5.a.nk mg pr mu pe ne tk (D.app (D.l []) w_5.out) (D.app (D.l []) w_5.did)) 0) (RT.ok (AV.tup [AV.agg [zi w_6.st,zi w_6.id,zi w_6.rq,zs zO w_6.d,zi w_6.ct,zi w_6.tm,zi w_6.nk,zi w_6.mg,zi w_6.pr,zi w_6.mu,zi w_6.pe,zi w_6.ne],zs zC w_6.out,zs zN w_6.did])) (RT.bad 299)) (RT.bad 274)) (RT.bad 70)) (RT.bad 240)) (RT.bad 37)) (lpk_treeT_1 st id rq ct tm nk mg pr mu pe ne d)) (RT.bad 310)) (RT.bad 240)) (RT.bad 37)) (lpk_treeT_1 st id rq ct tm nk mg pr mu pe ne d)) (lpk_treeT_1 st id rq ct tm nk mg pr mu pe ne d)) (RT.br (ic==10) (RT.br (st==9) (RT.br (decide (4≤(↑(D.len ix):Int))) (RT.br (decide ((0:Int)≤0∧(0:Int)≤4∧4≤(↑(D.len ix):Int)∧(↑(D.len ix):Int)≤(↑(D.len ix):Int))) (RT.br (decide ((0≤IntKind.wrap IntKind.u64 mg∧IntKind.wrap IntKind.u64 mg<18446744073709551616)∧(1:Int)≤4∧(4:Int)≤8)) (RT.br (decide (D.len (D.sub ix 0 4)=4∧4=4)&&(bytesB (D.sub ix 0 4)&&bytesB (beD (IntKind.wrap IntKind.u64 mg) 4))) (RT.br (!eqB (D.sub ix 0 4) (beD (IntKind.wrap IntKind.u64 mg) 4)) (RT.ok (AV.tup [AV.agg [zi st,zi id,zi rq,zs zO d,zi ct,zi tm,zi nk,zi mg,zi pr,zi mu,zk 0,zi ne],zz,zz])) (lpk_treeT_1 st id rq ct tm nk mg pr mu pe ne d)) (RT.bad 310)) (RT.bad 240)) (RT.bad 37)) (lpk_treeT_1 st id rq ct tm nk mg pr mu pe ne d)) (lpk_treeT_1 st id rq ct tm nk mg pr mu pe ne d)) (RT.br (ic==11) (lpk_treeT_1 st id rq ct tm nk mg pr mu pe ne d) (RT.br true (RT.br (flwN (WkV.mk mru mc mt mf wt ec lo w_7.a.st w_7.a.id w_7.a.rq w_7.a.d w_7.a.ct w_7.a.tm w_7.a.nk mg pr mu pe ne tk (D.app (D.l []) w_7.out) (D.app (D.l []) w_7.did)) 0) (RT.ok (AV.tup [AV.agg [zi w_8.st,zi w_8.id,zi w_8.rq,zs zO w_8.d,zi w_8.ct,zi w_8.tm,zi w_8.nk,zi w_8.mg,zi w_8.pr,zi w_8.mu,zi w_8.pe,zi w_8.ne],zs zC w_8.out,zs zN w_8.did])) (RT.bad 299)) (RT.bad 274)))))))))))))) (lpk_treeT_1 st id rq ct tm nk mg pr mu pe ne d)))
theorem lpk_tree (mru mc mt mf wt ec lo st id rq ct tm nk mg pr mu pe ne:Int) (d:D) (ic ii:Int) (ix:D) (tk:Int):treeF (evF Tryz.prog (gam (lpkG Tryz.prog)) (lam ([])) 100 31) [cnfA mru mc mt mf wt ec lo,lcpA st id rq d ct tm nk mg pr mu pe ne,ctlA ic ii ix,ai tk]=lpk_treeT mru mc mt mf wt ec lo st id rq ct tm nk mg pr mu pe ne d ic ii ix tk:=by rw [← fvF_eq Tryz.prog (gam (lpkG Tryz.prog)) (lam ([])) false 100 31]; kernel_rfl
abbrev rpk_tree2T_1 (st id rq ct tm nk mg pr mu pe ne:Int) (d:D):=RT.ok (AV.agg [zi st,zi id,zi rq,zs zO d,zi ct,zi tm,zi nk,zi mg,zi pr,zi mu,zi pe,zi ne,zz,zz])
abbrev rpk_tree2T_2 (st id rq ct tm nk mg pr mu ne:Int) (d:D):=RT.ok (AV.agg [zi st,zi id,zi rq,zs zO d,zi ct,zi tm,zi nk,zi mg,zi pr,zi mu,zk 0,zi ne,zz,zz])
def rpk_tree2T (mru mc mt mf wt ec lo st id rq ct tm nk mg pr mu pe ne:Int) (d:D) (ic ii:Int) (ix:D) (tk:Int):RT AV :=
let w_0:=cnfW (WkV.mk mru mc mt mf wt ec lo st id rq d ct tm nk mg pr mu pe ne tk (D.l []) (D.l [])) (rlB mg) ic ii ix; let w_1:=evW (WkV.mk mru mc mt mf wt ec lo st id rq d ct tm nk mg pr mu pe ne tk (D.l []) (D.l [])) (rlB mg) 13 ic ii ix 0 0 (D.l []); let w_2:=evW (WkV.mk mru mc mt mf wt ec lo st id rq d ct tm nk mg pr mu pe ne tk (D.l []) (D.l [])) (rlB mg) 15 ic ii ix 0 0 (D.l []); let w_3:=evW (WkV.mk mru mc mt mf wt ec lo st id rq d ct tm nk mg pr mu pe ne tk (D.l []) (D.l [])) (rlB mg) 14 ic ii ix 0 0 (D.l []); let w_4:=evW (WkV.mk mru mc mt mf wt ec lo st id rq d ct tm nk mg pr mu pe ne tk (D.l []) (D.l [])) (rlB mg) 16 ic ii ix 10 ii (D.app (beD (IntKind.wrap IntKind.u64 mg) 4) (D.sub ix 4 (Int.toNat (↑(D.len ix):Int)))); RT.br (lisB mru mc mt mf wt ec lo st id rq d ct tm nk mg pr mu pe ne) (RT.br (decide (0≤tk)) (RT.br (!decide (tk≤1099511627776)) (rpk_tree2T_1 st id rq ct tm nk mg pr mu pe ne d) (RT.br (enc7E ic ii ix != 0) (rpk_tree2T_1 st id rq ct tm nk mg pr mu pe ne d) (RT.br (decide (1≤ic)) (RT.br (decide (ic≤7)) (RT.br (decide (0≤ec)&&(bytesB ix&&optsB d)) (RT.ok (AV.agg [zi w_0.st,zi w_0.id,zi w_0.rq,zs zO w_0.d,zi w_0.ct,zi w_0.tm,zi w_0.nk,zi w_0.mg,zi w_0.pr,zi w_0.mu,zi w_0.pe,zi w_0.ne,zs zC w_0.out,zs zN w_0.did])) (RT.bad 308)) (RT.br (decide (ic<1)) (RT.br (byOk (WkV.mk mru mc mt mf wt ec lo st id rq d ct tm nk mg pr mu pe ne tk (D.l []) (D.l []))) (RT.ok (AV.agg [zi w_1.st,zi w_1.id,zi w_1.rq,zs zO w_1.d,zi w_1.ct,zi w_1.tm,zi w_1.nk,zi w_1.mg,zi w_1.pr,zi w_1.mu,zi w_1.pe,zi w_1.ne,zs zC w_1.out,zs zN w_1.did])) (RT.bad 306)) (RT.br (decide (11<ic)) (RT.br (byOk (WkV.mk mru mc mt mf wt ec lo st id rq d ct tm nk mg pr mu pe ne tk (D.l []) (D.l []))) (RT.ok (AV.agg [zi w_1.st,zi w_1.id,zi w_1.rq,zs zO w_1.d,zi w_1.ct,zi w_1.tm,zi w_1.nk,zi w_1.mg,zi w_1.pr,zi w_1.mu,zi w_1.pe,zi w_1.ne,zs zC w_1.out,zs zN w_1.did])) (RT.bad 306)) (RT.br (st != 9) (rpk_tree2T_1 st id rq ct tm nk mg pr mu pe ne d) (RT.br (ic==11) (rpk_tree2T_1 st id rq ct tm nk mg pr mu pe ne d) (RT.br (ic==8) (RT.br (rngB ix) (RT.br (!rejB ic ix) (rpk_tree2T_1 st id rq ct tm nk mg pr mu pe ne d) (RT.br (rejN ic ix==49185) (RT.br (byOk (WkV.mk mru mc mt mf wt ec lo st id rq d ct tm nk mg pr mu pe ne tk (D.l []) (D.l []))) (RT.ok (AV.agg [zi w_2.st,zi w_2.id,zi w_2.rq,zs zO w_2.d,zi w_2.ct,zi w_2.tm,zi w_2.nk,zi w_2.mg,zi w_2.pr,zi w_2.mu,zi w_2.pe,zi w_2.ne,zs zC w_2.out,zs zN w_2.did])) (RT.bad 306)) (RT.br (byOk (WkV.mk mru mc mt mf wt ec lo st id rq d ct tm nk mg pr mu pe ne tk (D.l []) (D.l []))) (RT.ok (AV.agg [zi w_3.st,zi w_3.id,zi w_3.rq,zs zO w_3.d,zi w_3.ct,zi w_3.tm,zi w_3.nk,zi w_3.mg,zi w_3.pr,zi w_3.mu,zi w_3.pe,zi w_3.ne,zs zC w_3.out,zs zN w_3.did])) (RT.bad 306)))) (RT.bad 221)) (RT.br (decide ((↑(D.len ix):Int)<4)) (rpk_tree2T_1 st id rq ct tm nk mg pr mu pe ne d) (RT.br (decide ((0:Int)≤0∧(0:Int)≤4∧4≤(↑(D.len ix):Int)∧(↑(D.len ix):Int)≤(↑(D.len ix):Int))) (RT.br (decide ((0≤IntKind.wrap IntKind.u64 mg∧IntKind.wrap IntKind.u64 mg<18446744073709551616)∧(1:Int)≤4∧(4:Int)≤8)) (RT.br (ByteArray.toList (D.str (D.sub ix 0 4))==ByteArray.toList (D.str (beD (IntKind.wrap IntKind.u64 mg) 4))) (rpk_tree2T_1 st id rq ct tm nk mg pr mu pe ne d) (RT.br (ic==10) (rpk_tree2T_2 st id rq ct tm nk mg pr mu ne d) (RT.br (decide ((0:Int)≤4∧4≤(↑(D.len ix):Int)∧(↑(D.len ix):Int)≤(↑(D.len ix):Int)∧(↑(D.len ix):Int)≤(↑(D.len ix):Int))) (RT.br (decide ((0≤IntKind.wrap IntKind.u64 mg∧IntKind.wrap IntKind.u64 mg<18446744073709551616)∧(1:Int)≤4∧(4:Int)≤8)) (RT.br (decide ((4+D.len (D.sub ix 4 (Int.toNat (↑(D.len ix):Int))))*1≤140737488355328)) (RT.br (byOk (WkV.mk mru mc mt mf wt ec lo st id rq d ct tm nk mg pr mu pe ne tk (D.l []) (D.l []))) (RT.ok (AV.agg [zi w_4.st,zi w_4.id,zi w_4.rq,zs zO w_4.d,zi w_4.ct,zi w_4.tm,zi w_4.nk,zi w_4.mg,zi w_4.pr,zi w_4.mu,zi w_4.pe,zi w_4.ne,zs zC w_4.out,zs zN w_4.did])) (RT.bad 306)) (RT.bad 70)) (RT.bad 240)) (RT.bad 37)))) (RT.bad 240)) (RT.bad 37))))))))) (RT.br (decide (ic<1)) (RT.br (byOk (WkV.mk mru mc mt mf wt ec lo st id rq d ct tm nk mg pr mu pe ne tk (D.l []) (D.l []))) (RT.ok (AV.agg [zi w_1.st,zi w_1.id,zi w_1.rq,zs zO w_1.d,zi w_1.ct,zi w_1.tm,zi w_1.nk,zi w_1.mg,zi w_1.pr,zi w_1.mu,zi w_1.pe,zi w_1.ne,zs zC w_1.out,zs zN w_1.did])) (RT.bad 306)) (RT.br (decide (11<ic)) (RT.br (byOk (WkV.mk mru mc mt mf wt ec lo st id rq d ct tm nk mg pr mu pe ne tk (D.l []) (D.l []))) (RT.ok (AV.agg [zi w_1.st,zi w_1.id,zi w_1.rq,zs zO w_1.d,zi w_1.ct,zi w_1.tm,zi w_1.nk,zi w_1.mg,zi w_1.pr,zi w_1.mu,zi w_1.pe,zi w_1.ne,zs zC w_1.out,zs zN w_1.did])) (RT.bad 306)) (RT.br (st != 9) (rpk_tree2T_1 st id rq ct tm nk mg pr mu pe ne d) (RT.br (ic==11) (rpk_tree2T_1 st id rq ct tm nk mg pr mu pe ne d) (RT.br (ic==8) (RT.br (rngB ix) (RT.br (!rejB ic ix) (rpk_tree2T_1 st id rq ct tm nk mg pr mu pe ne d) (RT.br (rejN ic ix==49185) (RT.br (byOk (WkV.mk mru mc mt mf wt ec lo st id rq d ct tm nk mg pr mu pe ne tk (D.l []) (D.l []))) (RT.ok (AV.agg [zi w_2.st,zi w_2.id,zi w_2.rq,zs zO w_2.d,zi w_2.ct,zi w_2.tm,zi w_2.nk,zi w_2.mg,zi w_2.pr,zi w_2.mu,zi w_2.pe,zi w_2.ne,zs zC w_2.out,zs zN w_2.did])) (RT.bad 306)) (RT.br (byOk (WkV.mk mru mc mt mf wt ec lo st id rq d ct tm nk mg pr mu pe ne tk (D.l []) (D.l []))) (RT.ok (AV.agg [zi w_3.st,zi w_3.id,zi w_3.rq,zs zO w_3.d,zi w_3.ct,zi w_3.tm,zi w_3.nk,zi w_3.mg,zi w_3.pr,zi w_3.mu,zi w_3.pe,zi w_3.ne,zs zC w_3.out,zs zN w_3.did])) (RT.bad 306)))) (RT.bad 221)) (RT.br (decide ((↑(D.len ix):Int)<4)) (rpk_tree2T_1 st id rq ct tm nk mg pr mu pe ne d) (RT.br (decide ((0:Int)≤0∧(0:Int)≤4∧4≤(↑(D.len ix):Int)∧(↑(D.len ix):Int)≤(↑(D.len ix):Int))) (RT.br (decide ((0≤IntKind.wrap IntKind.u64 mg∧IntKind.wrap IntKind.u64 mg<18446744073709551616)∧(1:Int)≤4∧(4:Int)≤8)) (RT.br (ByteArray.toList (D.str (D.sub ix 0 4))==ByteArray.toList (D.str (beD (IntKind.wrap IntKind.u64 mg) 4))) (rpk_tree2T_1 st id rq ct tm nk mg pr mu pe ne d) (RT.br (ic==10) (rpk_tree2T_2 st id rq ct tm nk mg pr mu ne d) (RT.br (decide ((0:Int)≤4∧4≤(↑(D.len ix):Int)∧(↑(D.len ix):Int)≤(↑(D.len ix):Int)∧(↑(D.len ix):Int)≤(↑(D.len ix):Int))) (RT.br (decide ((0≤IntKind.wrap IntKind.u64 mg∧IntKind.wrap IntKind.u64 mg<18446744073709551616)∧(1:Int)≤4∧(4:Int)≤8)) (RT.br (decide ((4+D.len (D.sub ix 4 (Int.toNat (↑(D.len ix):Int))))*1≤140737488355328)) (RT.br (byOk (WkV.mk mru mc mt mf wt ec lo st id rq d ct tm nk mg pr mu pe ne tk (D.l []) (D.l []))) (RT.ok (AV.agg [zi w_4.st,zi w_4.id,zi w_4.rq,zs zO w_4.d,zi w_4.ct,zi w_4.tm,zi w_4.nk,zi w_4.mg,zi w_4.pr,zi w_4.mu,zi w_4.pe,zi w_4.ne,zs zC w_4.out,zs zN w_4.did])) (RT.bad 306)) (RT.bad 70)) (RT.bad 240)) (RT.bad 37)))) (RT.bad 240)) (RT.bad 37))))))))))) (rpk_tree2T_1 st id rq ct tm nk mg pr mu pe ne d)) (rpk_tree2T_1 st id rq ct tm nk mg pr mu pe ne d)
theorem rpk_tree2 (mru mc mt mf wt ec lo st id rq ct tm nk mg pr mu pe ne:Int) (d:D) (ic ii:Int) (ix:D) (tk:Int):treeF (evF Tryz.prog (gam (rplG Tryz.prog)) (lam ([])) 100 73) [cnfA mru mc mt mf wt ec lo,lcpA st id rq d ct tm nk mg pr mu pe ne,ctlA ic ii ix,ai tk]=rpk_tree2T mru mc mt mf wt ec lo st id rq ct tm nk mg pr mu pe ne d ic ii ix tk:=by rw [← fvF_eq Tryz.prog (gam (rplG Tryz.prog)) (lam ([])) false 100 73]; kernel_rfl
abbrev mgD (m:Int):D:=beD (IntKind.wrap .u64 m) 4
def pkt1 (w:WkV) (ic ii:Int) (ix:D):WkV :=
  bif decide (1≤ic)&&decide (ic≤7) then cnfW w (rlA w.mg) ic ii ix
  else bif decide (ic<1)||decide (11<ic) then evW w (rlA w.mg) 13 ic ii ix 0 0 (.l [])
  else bif w.st != 9||ic==11 then w
  else bif ic==8 then (bif rejB ic ix then (bif rejN ic ix==49185 then evW w (rlA w.mg) 15 ic ii ix 0 0 (.l []) else evW w (rlA w.mg) 14 ic ii ix 0 0 (.l [])) else w)
  else bif decide (ix.len<4)||eqB (ix.sub 0 4) (mgD w.mg) then w
  else bif ic==10 then { w with pe:=0 }
  else evW w (rlA w.mg) 16 ic ii ix 10 ii (D.app (mgD w.mg) (ix.sub 4 ix.len))
def pktW (w:WkV) (ic ii:Int) (ix:D):WkV:=bif enc7E ic ii ix==0&&onB w then pkt1 w ic ii ix else w
def lpkCd:List Cd:=[.agg [.int .i64,.int .i64,.int .i64,.int .i64,.int .i64,.int .i64,.int .i64],.agg [.int .i64,.int .i64,.int .i64,.sl opS,.int .i64,.int .i64,.int .i64,.int .i64,.int .i64,.int .i64,.int .i64,.int .i64],.agg [.int .i64,.int .i64,.sl byS],.int .i64]
def FLpk (args:List AV):RT AV:=match cdAL lpkCd args with
  | some [v0,v1,v2,v3,v4,v5,v6,v7,v8,v9,v10,v11,v12,v13,v14,v15,v16,v17,v18,v19,v20,v21,v22]=>need false (bytesB v21&&optsB v10) 313 (.ok (wkA (pktW ⟨v0.toI,v1.toI,v2.toI,v3.toI,v4.toI,v5.toI,v6.toI,v7.toI,v8.toI,v9.toI,v10,v11.toI,v12.toI,v13.toI,v14.toI,v15.toI,v16.toI,v17.toI,v18.toI,v22.toI,.l [],.l []⟩ v19.toI v20.toI v21)))
  | _=>.bad 313
def FRpk (args:List AV):RT AV:=match cdAL lpkCd args with
  | some [v0,v1,v2,v3,v4,v5,v6,v7,v8,v9,v10,v11,v12,v13,v14,v15,v16,v17,v18,v19,v20,v21,v22]=>need false (bytesB v21&&optsB v10) 313 (.ok (wkB (pktW ⟨v0.toI,v1.toI,v2.toI,v3.toI,v4.toI,v5.toI,v6.toI,v7.toI,v8.toI,v9.toI,v10,v11.toI,v12.toI,v13.toI,v14.toI,v15.toI,v16.toI,v17.toI,v18.toI,v22.toI,.l [],.l []⟩ v19.toI v20.toI v21)))
  | _=>.bad 313
theorem lpk_inv {args:List AV} {G:WkV→AV} {K:AV→Prop} (H:(match cdAL lpkCd args with
  | some [v0,v1,v2,v3,v4,v5,v6,v7,v8,v9,v10,v11,v12,v13,v14,v15,v16,v17,v18,v19,v20,v21,v22]=>need false (bytesB v21&&optsB v10) 313 (.ok (G (pktW ⟨v0.toI,v1.toI,v2.toI,v3.toI,v4.toI,v5.toI,v6.toI,v7.toI,v8.toI,v9.toI,v10,v11.toI,v12.toI,v13.toI,v14.toI,v15.toI,v16.toI,v17.toI,v18.toI,v22.toI,.l [],.l []⟩ v19.toI v20.toI v21)))
  | _=>(.bad 313:RT AV)).holds K):∃ (mru mc mt mf wt ec lo st id rq ct tm nk mg pr mu pe ne:Int) (d:D) (ic ii:Int) (ix:D) (tk:Int),args=[cnfA mru mc mt mf wt ec lo,lcpA st id rq d ct tm nk mg pr mu pe ne,ctlA ic ii ix,ai tk]∧bytesB ix=true∧optsB d=true∧K (G (pktW ⟨mru,mc,mt,mf,wt,ec,lo,st,id,rq,d,ct,tm,nk,mg,pr,mu,pe,ne,tk,.l [],.l []⟩ ic ii ix)):=by
  split at H
  · rename_i v0 v1 v2 v3 v4 v5 v6 v7 v8 v9 v10 v11 v12 v13 v14 v15 v16 v17 v18 v19 v20 v21 v22 hd
    obtain ⟨hc,H⟩:=need_holds H
    rw [Bool.and_eq_true] at hc
    have:=cdAL_ok _ _ _ hd []
    exact ⟨v0.toI,v1.toI,v2.toI,v3.toI,v4.toI,v5.toI,v6.toI,v7.toI,v8.toI,v9.toI,v11.toI,v12.toI,v13.toI,v14.toI,v15.toI,v16.toI,v17.toI,v18.toI,v10,v19.toI,v20.toI,v21,v22.toI,(congrArg Prod.fst this).symm,hc.1,hc.2,H⟩
  · exact H.elim
theorem pkt1_cnf {w:WkV} {ic ii:Int} {ix:D} (h:1≤ic∧ic≤7):pkt1 w ic ii ix=cnfW w (rlA w.mg) ic ii ix:=by
  unfold pkt1; rw [det h.1,det h.2]; rfl
theorem no_cnf {ic:Int} (h:ic<1∨7<ic):(decide (1≤ic)&&decide (ic≤7))=false:=by
  rcases h with h | h
  · rw [def_ (show ¬ 1≤ic by omega)]; rfl
  · rw [def_ (show ¬ ic≤7 by omega),Bool.and_false]
theorem no_ruc {ic:Int} (h:1≤ic∧ic≤11):(decide (ic<1)||decide (11<ic))=false:=by
  rw [def_ (show ¬ ic<1 by omega),def_ (show ¬ 11<ic by omega)]; rfl
theorem pkt1_ruc {w:WkV} {ic ii:Int} {ix:D} (h:ic<1∨11<ic):pkt1 w ic ii ix=evW w (rlA w.mg) 13 ic ii ix 0 0 (.l []):=by
  unfold pkt1
  have e:(decide (ic<1)||decide (11<ic))=true:=by
    rcases h with h | h
    · rw [det h]; rfl
    · rw [det h,Bool.or_true]
  rw [no_cnf (by omega),e]; rfl
theorem pkt1_off {w:WkV} {ic ii:Int} {ix:D} (h:8≤ic∧ic≤11) (hs:(w.st != 9||ic==11)=true):pkt1 w ic ii ix=w:=by
  unfold pkt1
  rw [no_cnf (by omega),no_ruc (by omega),hs]; rfl
theorem pkt1_rej {w:WkV} {ii:Int} {ix:D} (hs:(w.st != 9)=false):pkt1 w 8 ii ix=bif rejB 8 ix then (bif rejN 8 ix==49185 then evW w (rlA w.mg) 15 8 ii ix 0 0 (.l []) else evW w (rlA w.mg) 14 8 ii ix 0 0 (.l [])) else w:=by
  unfold pkt1
  rw [hs]; rfl
theorem pkt1_req {w:WkV} {ii:Int} {ix:D} (hs:(w.st != 9)=false):pkt1 w 9 ii ix=bif decide (ix.len<4)||eqB (ix.sub 0 4) (mgD w.mg) then w else evW w (rlA w.mg) 16 9 ii ix 10 ii (D.app (mgD w.mg) (ix.sub 4 ix.len)):=by
  unfold pkt1
  rw [hs]; rfl
theorem pkt1_rep {w:WkV} {ii:Int} {ix:D} (hs:(w.st != 9)=false):pkt1 w 10 ii ix=bif decide (ix.len<4)||eqB (ix.sub 0 4) (mgD w.mg) then w else { w with pe:=0 }:=by
  unfold pkt1
  rw [hs]; rfl
theorem bv_ofInt_wrap (x:BitVec 8):BitVec.ofInt 8 (IntKind.wrap .u8 (x.toNat:Int))=x:=by
  rw [show IntKind.wrap .u8 (x.toNat:Int)=(x.toNat:Int) from wrap_u8 ⟨by omega,by have:=x.isLt; omega⟩]
  simp
theorem byte_inj {a b:Int} (ha:byR a) (hb:byR b) (h:BitVec.ofInt 8 a=BitVec.ofInt 8 b):a=b:=by
  unfold byR at ha hb
  have:=congrArg BitVec.toNat h
  rw [BitVec.toNat_ofInt,BitVec.toNat_ofInt] at this
  omega
def orX (p u v:Int):Int:=IntKind.wrap .u8 ((BitVec.ofInt 8 p ||| BitVec.ofInt 8 (IntKind.wrap .u8 ((BitVec.ofInt 8 u ^^^ BitVec.ofInt 8 v).toNat:Int))).toNat:Int)
theorem orX_bv (p u v:Int):BitVec.ofInt 8 (orX p u v)=BitVec.ofInt 8 p ||| (BitVec.ofInt 8 u ^^^ BitVec.ofInt 8 v):=by
  unfold orX; rw [bv_ofInt_wrap,bv_ofInt_wrap]
theorem orX_zero (p u v:Int):orX p u v=0↔BitVec.ofInt 8 (orX p u v)=0:=by
  constructor
  · intro h; rw [h]; rfl
  · intro h
    rw [orX_bv] at h
    unfold orX
    rw [bv_ofInt_wrap,h]; rfl
theorem eq4_bit {a b c d e f g h:Int} (ha:byR a) (hb:byR b) (hc:byR c) (hd:byR d) (he:byR e) (hf:byR f) (hg:byR g) (hh:byR h) :
    orX (orX (orX (orX 0 a e) b f) c g) d h=0↔(a=e∧b=f∧c=g∧d=h):=by
  rw [orX_zero,orX_bv,orX_bv,orX_bv,orX_bv]
  constructor
  · intro H
    have H1:=BitVec.or_eq_zero_iff.1 H
    have H2:=BitVec.or_eq_zero_iff.1 H1.1
    have H3:=BitVec.or_eq_zero_iff.1 H2.1
    have H4:=BitVec.or_eq_zero_iff.1 H3.1
    exact ⟨byte_inj ha he (BitVec.xor_eq_zero_iff.1 H4.2),byte_inj hb hf (BitVec.xor_eq_zero_iff.1 H3.2),byte_inj hc hg (BitVec.xor_eq_zero_iff.1 H2.2),byte_inj hd hh (BitVec.xor_eq_zero_iff.1 H1.2)⟩
  · rintro ⟨rfl,rfl,rfl,rfl⟩
    rw [BitVec.xor_self,BitVec.xor_self,BitVec.xor_self,BitVec.xor_self]; rfl
theorem oeq_soundF:SoundF Tryz.prog 133 (pureS Tryz.prog 133 FEq4):=by
  refine pure_by (gs:=[]) (ls:=[]) mixed trivial trivial 133 100 fun args K ho H=>?_
  unfold FEq4 at H
  split at H
  · rename_i x y
    obtain ⟨hc,H⟩:=need_holds H
    rw [Bool.and_eq_true,Bool.and_eq_true] at hc
    obtain ⟨hl,hx,hy⟩:=hc
    obtain ⟨lx,ly⟩:=odt hl
    have X:∀ j,j<4→byR (byA x j):=fun j hj=>bytes_at hx (by omega)
    have Y:∀ j,j<4→byR (byA y j):=fun j hj=>bytes_at hy (by omega)
    refine ⟨_,leL_cons (four_le (kn':=true) lx) (leL_cons (four_le (kn':=true) ly) leL_nil),?_⟩
    rw [oeq_tree]
    refine ⟨_,le_bool ?_,H⟩
    have B:=eq4_bit (X 0 (by omega)) (X 1 (by omega)) (X 2 (by omega)) (X 3 (by omega)) (Y 0 (by omega)) (Y 1 (by omega)) (Y 2 (by omega)) (Y 3 (by omega))
    have E:eqB x y=decide (byA x 0=byA y 0∧byA x 1=byA y 1∧byA x 2=byA y 2∧byA x 3=byA y 3):=by
      unfold eqB
      rw [det (show x.len=y.len by omega),lx,Bool.true_and,Bool.eq_iff_iff,decide_eq_true_eq]
      show (eqBy x y 0&&(eqBy x y 1&&(eqBy x y 2&&(eqBy x y 3&&true))))=true↔_
      unfold eqBy
      simp only [Bool.and_eq_true,beq_iff_eq,and_true]
    rw [E]
    show (orX (orX (orX (orX 0 (byA x 0) (byA y 0)) (byA x 1) (byA y 1)) (byA x 2) (byA y 2)) (byA x 3) (byA y 3)==0)=_
    rw [Bool.eq_iff_iff,beq_iff_eq,decide_eq_true_eq]
    exact B
  · exact H.elim
theorem beD_toL (n:Int):(beD n 4).toL=[.i (byI n 4 0),.i (byI n 4 1),.i (byI n 4 2),.i (byI n 4 3)]:=toL_l (by show 4≤maxLen; unfold maxLen; omega)
theorem beD_len4 (n:Int):(beD n 4).len=4:=by unfold D.len; rw [beD_toL]; rfl
theorem byI_rng (n:Int) (s i:Nat):0≤byI n s i∧byI n s i<256:=by
  unfold byI
  have:=(beByte n.toNat (s - 1 - i)).toNat_lt
  omega
theorem beD_bytes (n:Int):bytesB (beD n 4)=true:=by
  refine det fun i hi=>?_
  rw [beD_len4] at hi
  unfold byN D.get
  rw [beD_toL]
  match i,hi with
  | 0,_=>exact byI_rng n 4 0
  | 1,_=>exact byI_rng n 4 1
  | 2,_=>exact byI_rng n 4 2
  | 3,_=>exact byI_rng n 4 3
theorem rngB_by {d:D} (h:bytesB d=true):rngB d=true:=det fun hl=>⟨bytes_at h (by omega),bytes_at h (by omega)⟩
theorem lpkG_ok:GamL Tryz.prog (lpkG Tryz.prog):=⟨enc7_soundF,putV_soundF,objT_ok cnf_soundF,rej_soundF,oeq_soundF,lcpG_ok⟩
theorem wrap64_ok (m:Int):decide ((0≤IntKind.wrap IntKind.u64 m∧IntKind.wrap IntKind.u64 m<18446744073709551616)∧(1:Int)≤4∧(4:Int)≤8)=true:=by
  have hw:IntKind.wrap .u64 m=m % 18446744073709551616:=rfl
  exact det ⟨⟨by omega,by omega⟩,by decide,by decide⟩
theorem enc7_le {c i:Int} {x:D} (h:(enc7E c i x==0)=true):x.len≤1488:=by
  have h:=eq_of_beq h
  unfold enc7E at h
  split at h
  · split at h
    · exact absurd h (by decide)
    · omega
  · exact absurd h (by decide)
theorem lpk_soundF:SoundF Tryz.prog 31 (pureS Tryz.prog 31 FLpk):=by
  refine pure_in (gs:=lpkG Tryz.prog) (ls:=[]) mixed lpkG_ok trivial 31 100 fun args K ho H=>?_
  obtain ⟨mru,mc,mt,mf,wt,ec,lo,st,id,rq,ct,tm,nk,mg,pr,mu,pe,ne,d,ic,ii,ix,tk,hr,hx,hb,H⟩:=lpk_inv (G:=fun w=>wkA w) H
  rw [hr,lpk_tree]
  unfold lpk_treeT lpk_treeT_1
  extract_lets w0 w1 w2 w3 w4 w5 w6 w7 w8
  have A:∀ v,pktW ⟨mru,mc,mt,mf,wt,ec,lo,st,id,rq,d,ct,tm,nk,mg,pr,mu,pe,ne,tk,.l [],.l []⟩ ic ii ix=v→K (wkA v):=by rintro v rfl; exact H
  clear H
  have fit:∀ e ac ax (ad:D),(doW (rlM (rlA mg)) (rlG (rlA mg)) mc mt mf wt ⟨st,id,rq,d,ct,tm,nk⟩ e ic ii ix ac ax ad tk).out.len≤3∧(doW (rlM (rlA mg)) (rlG (rlA mg)) mc mt mf wt ⟨st,id,rq,d,ct,tm,nk⟩ e ic ii ix ac ax ad tk).did.len≤3∧(doW (rlM (rlA mg)) (rlG (rlA mg)) mc mt mf wt ⟨st,id,rq,d,ct,tm,nk⟩ e ic ii ix ac ax ad tk).a.d=d:=fun _ _ _ _=>doW_fit
  have hf1:w1.did.len≤3∧w1.a.d=d:=(fit _ _ _ _).2
  have hf3:w3.did.len≤3∧w3.a.d=d:=(fit _ _ _ _).2
  have hf5:w5.did.len≤3∧w5.a.d=d:=(fit _ _ _ _).2
  have hf7:w7.did.len≤3∧w7.a.d=d:=(fit _ _ _ _).2
  have fw:∀ r:DoneV,r.did.len≤3→_:=fun r hr=>fol_w ⟨mru,mc,mt,mf,wt,ec,lo,st,id,rq,d,ct,tm,nk,mg,pr,mu,pe,ne,tk,.l [],.l []⟩ r (by show 0+r.did.len≤_; unfold maxLen; omega)
  have E2:w2=evW ⟨mru,mc,mt,mf,wt,ec,lo,st,id,rq,d,ct,tm,nk,mg,pr,mu,pe,ne,tk,.l [],.l []⟩ (rlA mg) 15 ic ii ix 0 0 (.l []):=fw w1 hf1.1
  have E4:w4=evW ⟨mru,mc,mt,mf,wt,ec,lo,st,id,rq,d,ct,tm,nk,mg,pr,mu,pe,ne,tk,.l [],.l []⟩ (rlA mg) 14 ic ii ix 0 0 (.l []):=fw w3 hf3.1
  have E6:w6=evW ⟨mru,mc,mt,mf,wt,ec,lo,st,id,rq,d,ct,tm,nk,mg,pr,mu,pe,ne,tk,.l [],.l []⟩ (rlA mg) 16 ic ii ix 10 ii (D.app (mgD mg) (ix.sub 4 ix.len)):=fw w5 hf5.1
  have E8:w8=evW ⟨mru,mc,mt,mf,wt,ec,lo,st,id,rq,d,ct,tm,nk,mg,pr,mu,pe,ne,tk,.l [],.l []⟩ (rlA mg) 13 ic ii ix 0 0 (.l []):=fw w7 hf7.1
  have N:∀ (v:WkV),v.d=d→flwN v 0=true:=fun v h1=>by
    unfold flwN
    rw [h1,hb,Bool.and_true]
    exact det ⟨Int.le_refl _,by omega⟩
  clear_value w2 w4 w6 w8
  have off:pktW ⟨mru,mc,mt,mf,wt,ec,lo,st,id,rq,d,ct,tm,nk,mg,pr,mu,pe,ne,tk,.l [],.l []⟩ ic ii ix=⟨mru,mc,mt,mf,wt,ec,lo,st,id,rq,d,ct,tm,nk,mg,pr,mu,pe,ne,tk,.l [],.l []⟩→∃ y,Le (.tup [.agg [ai st,ai id,ai rq,asl opS d,ai ct,ai tm,ai nk,ai mg,ai pr,ai mu,ai pe,ai ne],.sc true (.slice none 0 0),.sc true (.slice none 0 0)]) y∧K y:=fun h =>
    ⟨_,le_two' (Le.refl _) (le_nil rfl) (le_nil rfl),A _ h⟩
  have pk:∀ b1 b2 b3 b4,(enc7E ic ii ix==0)=b1→lisB mru mc mt mf wt ec lo st id rq d ct tm nk mg pr mu pe ne=b2→decide (0≤tk)=b3→decide (tk≤1099511627776)=b4→pktW ⟨mru,mc,mt,mf,wt,ec,lo,st,id,rq,d,ct,tm,nk,mg,pr,mu,pe,ne,tk,.l [],.l []⟩ ic ii ix=bif b1&&(b2&&(b3&&b4)) then pkt1 ⟨mru,mc,mt,mf,wt,ec,lo,st,id,rq,d,ct,tm,nk,mg,pr,mu,pe,ne,tk,.l [],.l []⟩ ic ii ix else ⟨mru,mc,mt,mf,wt,ec,lo,st,id,rq,d,ct,tm,nk,mg,pr,mu,pe,ne,tk,.l [],.l []⟩:=by
    rintro b1 b2 b3 b4 rfl rfl rfl rfl; rfl
  rw [errIf_nz (by decide)]
  refine ⟨fun h1=>off ((pk false _ _ _ (by rw [bne,Bool.not_eq_true'] at h1; exact h1) rfl rfl rfl).trans rfl),fun h1=>⟨fun h2=>off ((pk _ false _ _ rfl (by rw [Bool.not_eq_true'] at h2; exact h2) rfl rfl).trans (by rw [Bool.false_and,Bool.and_false]; rfl)),fun h2=>⟨fun h3=>⟨fun h4=>off ((pk _ _ _ false rfl rfl rfl (by rw [Bool.not_eq_true'] at h4; exact h4)).trans (by rw [Bool.and_false,Bool.and_false,Bool.and_false]; rfl)),fun h4=>?_⟩,fun h3=>off ((pk _ _ false _ rfl rfl h3 rfl).trans (by rw [Bool.false_and,Bool.and_false,Bool.and_false]; rfl))⟩⟩⟩
  rw [bne,Bool.not_eq_false'] at h1
  rw [Bool.not_eq_false'] at h2 h4
  have pk:pktW ⟨mru,mc,mt,mf,wt,ec,lo,st,id,rq,d,ct,tm,nk,mg,pr,mu,pe,ne,tk,.l [],.l []⟩ ic ii ix=pkt1 ⟨mru,mc,mt,mf,wt,ec,lo,st,id,rq,d,ct,tm,nk,mg,pr,mu,pe,ne,tk,.l [],.l []⟩ ic ii ix:=(pk true true true true h1 h2 h3 h4).trans rfl
  have cnf:1≤ic∧ic≤7→(RT.br (bytesB ix&&optsB d) (.ok (wkA w0)) (.bad 299)).holds fun r=>∃ y,Le r y∧K y:=fun h=>by
    rw [hx,hb]
    exact holds_t ⟨_,Le.refl _,A w0 (pk.trans (pkt1_cnf h))⟩
  have X4:∀ j,j<ix.len→byR (byA ix j):=fun j hj=>bytes_at hx hj
  refine ⟨fun e1=>cnf (by have:=eq_of_beq e1; omega),fun e1=>⟨fun e2=>cnf (by have:=eq_of_beq e2; omega),fun e2=>⟨fun e3=>cnf (by have:=eq_of_beq e3; omega),fun e3=>⟨fun e4=>cnf (by have:=eq_of_beq e4; omega),fun e4=>⟨fun e5=>cnf (by have:=eq_of_beq e5; omega),fun e5=>⟨fun e6=>cnf (by have:=eq_of_beq e6; omega),fun e6=>⟨fun e7=>cnf (by have:=eq_of_beq e7; omega),fun e7=>⟨fun e8=>?_,fun e8=>⟨fun e9=>?_,fun e9=>⟨fun e10=>?_,fun e10=>⟨fun e11=>?_,fun e11=>?_⟩⟩⟩⟩⟩⟩⟩⟩⟩⟩⟩
  · obtain rfl:ic=8:=eq_of_beq e8
    refine holds_t_of (rngB_by hx) ⟨fun hj=>?_,fun hj=>⟨fun hs=>off (pk.trans (pkt1_off (by decide) (by show (st != 9||_)=true; rw [hs]; rfl))),fun hs=>?_⟩⟩
    · rw [Bool.not_eq_true'] at hj
      cases hs:st != 9
      · exact off (pk.trans ((pkt1_rej hs).trans (by rw [hj]; rfl)))
      · exact off (pk.trans (pkt1_off (by decide) (by show (st != 9||_)=true; rw [hs]; rfl)))
    · rw [Bool.not_eq_false'] at hj
      have P:=pk.trans (pkt1_rej hs)
      rw [hj,cond_true] at P
      refine ⟨fun hp=>holds_t (holds_t_of (N _ hf1.2) ⟨_,Le.refl _,A w2 (P.trans ?_)⟩),fun hp=>holds_t (holds_t_of (N _ hf3.2) ⟨_,Le.refl _,A w4 (P.trans ?_)⟩)⟩
      · rw [hp,E2]; rfl
      · rw [hp,E4]; rfl
  · obtain rfl:ic=9:=eq_of_beq e9
    refine ⟨fun hs=>?_,fun hs=>off (pk.trans (pkt1_off (by decide) (by show (st != 9||_)=true; rw [bne,hs]; rfl)))⟩
    have hs:(st != 9)=false:=by rw [bne,hs]; rfl
    have P:=pk.trans (pkt1_req hs)
    refine ⟨fun hl=>?_,fun hl=>off (P.trans (by rw [det (show ix.len<4 by have:=odf hl; omega)]; rfl))⟩
    have hl:=odt hl
    rw [def_ (show ¬ ix.len<4 by omega),Bool.false_or] at P
    have hm:=enc7_le h1
    have sl:(ix.sub 0 4).len=4:=sub_len (by omega) (by omega)
    have hq:(decide ((ix.sub 0 4).len=4∧(4:Nat)=4)&&(bytesB (ix.sub 0 4)&&bytesB (mgD mg)))=true:=by rw [det ⟨sl,rfl⟩,bytes_sub hx (by omega) (by omega),beD_bytes]; rfl
    refine holds_t_of (det ⟨by omega,by omega,by omega,by omega⟩) (holds_t_of (wrap64_ok mg) (holds_t_of hq ⟨fun he=>?_,fun he=>off (P.trans ?_)⟩))
    · rw [Bool.not_eq_true'] at he
      have hd:decide ((4+(ix.sub 4 (Int.toNat (ix.len:Int))).len)*1≤140737488355328)=true:=by
        rw [Int.toNat_natCast,sub_len (by omega) (by omega)]
        exact det (by omega)
      refine holds_t_of (det ⟨by omega,by omega,by omega,by omega⟩) (holds_t_of (wrap64_ok mg) (holds_t_of hd (holds_t (holds_t_of (N _ hf5.2) ⟨_,Le.refl _,A w6 (P.trans ?_)⟩))))
      rw [show eqB (ix.sub 0 4) (mgD mg)=false from he,E6]; rfl
    · rw [Bool.not_eq_false'] at he
      rw [show eqB (ix.sub 0 4) (mgD mg)=true from he]; rfl
  · obtain rfl:ic=10:=eq_of_beq e10
    refine ⟨fun hs=>?_,fun hs=>off (pk.trans (pkt1_off (by decide) (by show (st != 9||_)=true; rw [bne,hs]; rfl)))⟩
    have hs:(st != 9)=false:=by rw [bne,hs]; rfl
    have P:=pk.trans (pkt1_rep hs)
    refine ⟨fun hl=>?_,fun hl=>off (P.trans (by rw [det (show ix.len<4 by have:=odf hl; omega)]; rfl))⟩
    have hl:=odt hl
    rw [def_ (show ¬ ix.len<4 by omega),Bool.false_or] at P
    have sl:(ix.sub 0 4).len=4:=sub_len (by omega) (by omega)
    have hq:(decide ((ix.sub 0 4).len=4∧(4:Nat)=4)&&(bytesB (ix.sub 0 4)&&bytesB (mgD mg)))=true:=by rw [det ⟨sl,rfl⟩,bytes_sub hx (by omega) (by omega),beD_bytes]; rfl
    refine holds_t_of (det ⟨by omega,by omega,by omega,by omega⟩) (holds_t_of (wrap64_ok mg) (holds_t_of hq ⟨fun he=>?_,fun he=>off (P.trans ?_)⟩))
    · rw [Bool.not_eq_true'] at he
      exact ⟨_,le_two' (le_agg (leL_cons (Le.refl _) (leL_cons (Le.refl _) (leL_cons (Le.refl _) (leL_cons (Le.refl _) (leL_cons (Le.refl _) (leL_cons (Le.refl _) (leL_cons (Le.refl _) (leL_cons (Le.refl _) (leL_cons (Le.refl _) (leL_cons (Le.refl _) (leL_cons (le_int rfl) (leL_cons (Le.refl _) leL_nil))))))))))))) (le_nil rfl) (le_nil rfl),A ⟨mru,mc,mt,mf,wt,ec,lo,st,id,rq,d,ct,tm,nk,mg,pr,mu,0,ne,tk,.l [],.l []⟩ (P.trans (by rw [show eqB (ix.sub 0 4) (mgD mg)=false from he]; rfl))⟩
    · rw [Bool.not_eq_false'] at he
      rw [show eqB (ix.sub 0 4) (mgD mg)=true from he]; rfl
  · obtain rfl:ic=11:=eq_of_beq e11
    exact off (pk.trans (pkt1_off (by decide) (Bool.or_true _)))
  · refine holds_t (holds_t_of (N _ hf7.2) ⟨_,Le.refl _,A w8 (pk.trans ((pkt1_ruc ?_).trans E8.symm))⟩)
    rw [beq_eq_false_iff_ne] at e1 e2 e3 e4 e5 e6 e7 e8 e9 e10 e11
    omega
theorem rplG_ok:GamL Tryz.prog (rplG Tryz.prog):=⟨renc7_soundF,rputV_soundF,cfu_soundF,rrej_soundF,rl2G_ok⟩
theorem rpk2_soundF:SoundF Tryz.prog 73 (pureS Tryz.prog 73 FRpk):=by
  refine pure_in (gs:=rplG Tryz.prog) (ls:=[]) mixed rplG_ok trivial 73 100 fun args K ho H=>?_
  obtain ⟨mru,mc,mt,mf,wt,ec,lo,st,id,rq,ct,tm,nk,mg,pr,mu,pe,ne,d,ic,ii,ix,tk,hr,hx,hb,H⟩:=lpk_inv (G:=fun w=>wkB w) H
  rw [hr,rpk_tree2]
  unfold rpk_tree2T rpk_tree2T_1 rpk_tree2T_2
  extract_lets w0 w1 w2 w3 w4
  have A:∀ v,pktW ⟨mru,mc,mt,mf,wt,ec,lo,st,id,rq,d,ct,tm,nk,mg,pr,mu,pe,ne,tk,.l [],.l []⟩ ic ii ix=v→K (wkB v):=by rintro v rfl; exact H
  clear H
  have off:pktW ⟨mru,mc,mt,mf,wt,ec,lo,st,id,rq,d,ct,tm,nk,mg,pr,mu,pe,ne,tk,.l [],.l []⟩ ic ii ix=⟨mru,mc,mt,mf,wt,ec,lo,st,id,rq,d,ct,tm,nk,mg,pr,mu,pe,ne,tk,.l [],.l []⟩→∃ y,Le (.agg [ai st,ai id,ai rq,asl opS d,ai ct,ai tm,ai nk,ai mg,ai pr,ai mu,ai pe,ai ne,.sc true (.slice none 0 0),.sc true (.slice none 0 0)]) y∧K y:=fun h =>
    ⟨_,le_agg (leL_cons (Le.refl _) (leL_cons (Le.refl _) (leL_cons (Le.refl _) (leL_cons (Le.refl _) (leL_cons (Le.refl _) (leL_cons (Le.refl _) (leL_cons (Le.refl _) (leL_cons (Le.refl _) (leL_cons (Le.refl _) (leL_cons (Le.refl _) (leL_cons (Le.refl _) (leL_cons (Le.refl _) (leL_cons (le_nil rfl) (leL_cons (le_nil rfl) leL_nil)))))))))))))),A _ h⟩
  have pk:∀ b1 b2 b3 b4,(enc7E ic ii ix==0)=b1→lisB mru mc mt mf wt ec lo st id rq d ct tm nk mg pr mu pe ne=b2→decide (0≤tk)=b3→decide (tk≤1099511627776)=b4→pktW ⟨mru,mc,mt,mf,wt,ec,lo,st,id,rq,d,ct,tm,nk,mg,pr,mu,pe,ne,tk,.l [],.l []⟩ ic ii ix=bif b1&&(b2&&(b3&&b4)) then pkt1 ⟨mru,mc,mt,mf,wt,ec,lo,st,id,rq,d,ct,tm,nk,mg,pr,mu,pe,ne,tk,.l [],.l []⟩ ic ii ix else ⟨mru,mc,mt,mf,wt,ec,lo,st,id,rq,d,ct,tm,nk,mg,pr,mu,pe,ne,tk,.l [],.l []⟩:=by
    rintro b1 b2 b3 b4 rfl rfl rfl rfl; rfl
  refine ⟨fun h2=>⟨fun h3=>⟨fun h4=>off ((pk _ _ _ false rfl rfl rfl (by rw [Bool.not_eq_true'] at h4; exact h4)).trans (by rw [Bool.and_false,Bool.and_false,Bool.and_false]; rfl)),fun h4=>⟨fun h1=>off ((pk false _ _ _ (by rw [bne,Bool.not_eq_true'] at h1; exact h1) rfl rfl rfl).trans rfl),fun h1=>?_⟩⟩,fun h3=>off ((pk _ _ false _ rfl rfl h3 rfl).trans (by rw [Bool.false_and,Bool.and_false,Bool.and_false]; rfl))⟩,fun h2=>off ((pk _ false _ _ rfl h2 rfl rfl).trans (by rw [Bool.false_and,Bool.and_false]; rfl))⟩
  rw [bne,Bool.not_eq_false'] at h1
  rw [Bool.not_eq_false'] at h4
  have pk:pktW ⟨mru,mc,mt,mf,wt,ec,lo,st,id,rq,d,ct,tm,nk,mg,pr,mu,pe,ne,tk,.l [],.l []⟩ ic ii ix=pkt1 ⟨mru,mc,mt,mf,wt,ec,lo,st,id,rq,d,ct,tm,nk,mg,pr,mu,pe,ne,tk,.l [],.l []⟩ ic ii ix:=(pk true true true true h1 h2 h3 h4).trans rfl
  obtain ⟨hm,hec⟩:=mg_rng h2
  have hB:=rl_same hm
  have F0:w0=cnfW ⟨mru,mc,mt,mf,wt,ec,lo,st,id,rq,d,ct,tm,nk,mg,pr,mu,pe,ne,tk,.l [],.l []⟩ (rlA mg) ic ii ix:=by rw [← hB]
  have F1:w1=evW ⟨mru,mc,mt,mf,wt,ec,lo,st,id,rq,d,ct,tm,nk,mg,pr,mu,pe,ne,tk,.l [],.l []⟩ (rlA mg) 13 ic ii ix 0 0 (.l []):=by rw [← hB]
  have F2:w2=evW ⟨mru,mc,mt,mf,wt,ec,lo,st,id,rq,d,ct,tm,nk,mg,pr,mu,pe,ne,tk,.l [],.l []⟩ (rlA mg) 15 ic ii ix 0 0 (.l []):=by rw [← hB]
  have F3:w3=evW ⟨mru,mc,mt,mf,wt,ec,lo,st,id,rq,d,ct,tm,nk,mg,pr,mu,pe,ne,tk,.l [],.l []⟩ (rlA mg) 14 ic ii ix 0 0 (.l []):=by rw [← hB]
  have F4:w4=evW ⟨mru,mc,mt,mf,wt,ec,lo,st,id,rq,d,ct,tm,nk,mg,pr,mu,pe,ne,tk,.l [],.l []⟩ (rlA mg) 16 ic ii ix 10 ii (D.app (mgD mg) (ix.sub 4 ix.len)):=by rw [← hB]; rfl
  clear_value w0 w1 w2 w3 w4
  have Y:byOk ⟨mru,mc,mt,mf,wt,ec,lo,st,id,rq,d,ct,tm,nk,mg,pr,mu,pe,ne,tk,.l [],.l []⟩=true:=by
    unfold byOk
    dsimp only
    rw [hb,Bool.and_true]
    exact det ⟨hec,Nat.zero_le _,Nat.zero_le _⟩
  have on:∀ {v},pkt1 ⟨mru,mc,mt,mf,wt,ec,lo,st,id,rq,d,ct,tm,nk,mg,pr,mu,pe,ne,tk,.l [],.l []⟩ ic ii ix=v→∃ y,Le (wkB v) y∧K y:=fun h=>⟨_,Le.refl _,A _ (pk.trans h)⟩
  have off:pkt1 ⟨mru,mc,mt,mf,wt,ec,lo,st,id,rq,d,ct,tm,nk,mg,pr,mu,pe,ne,tk,.l [],.l []⟩ ic ii ix=⟨mru,mc,mt,mf,wt,ec,lo,st,id,rq,d,ct,tm,nk,mg,pr,mu,pe,ne,tk,.l [],.l []⟩→∃ y,Le (.agg [ai st,ai id,ai rq,asl opS d,ai ct,ai tm,ai nk,ai mg,ai pr,ai mu,ai pe,ai ne,.sc true (.slice none 0 0),.sc true (.slice none 0 0)]) y∧K y:=fun h=>off (pk.trans h)
  refine ⟨fun c1=>⟨fun c2=>?_,fun c2=>⟨fun c3=>?_,fun c3=>⟨fun c4=>?_,fun c4=>⟨fun c5=>?_,fun c5=>⟨fun c6=>?_,fun c6=>⟨fun c7=>?_,fun c7=>⟨fun c8=>?_,fun c8=>?_⟩⟩⟩⟩⟩⟩⟩,fun c1=>⟨fun c2=>?_,fun c2=>?_⟩⟩
  · rw [hx,hb,det hec]
    exact holds_t (on ((pkt1_cnf ⟨odt c1,odt c2⟩).trans F0.symm))
  · have:=odt c1
    have:=odt c3
    omega
  · exact holds_t_of Y (on ((pkt1_ruc (.inr (odt c4))).trans F1.symm))
  · exact off (pkt1_off (by have:=odf c2; have:=odf c4; omega) (by show (st != 9||_)=true; rw [c5]; rfl))
  · obtain rfl:ic=11:=eq_of_beq c6
    exact off (pkt1_off (by decide) (Bool.or_true _))
  · obtain rfl:ic=8:=eq_of_beq c7
    have P:=pkt1_rej (w:=⟨mru,mc,mt,mf,wt,ec,lo,st,id,rq,d,ct,tm,nk,mg,pr,mu,pe,ne,tk,.l [],.l []⟩) (ii:=ii) (ix:=ix) c5
    refine holds_t_of (rngB_by hx) ⟨fun hj=>off (P.trans ?_),fun hj=>?_⟩
    · rw [Bool.not_eq_true'] at hj; rw [hj]; rfl
    · rw [Bool.not_eq_false'] at hj
      rw [hj,cond_true] at P
      refine ⟨fun hp=>holds_t_of Y (on (P.trans ?_)),fun hp=>holds_t_of Y (on (P.trans ?_))⟩
      · rw [hp,F2]; rfl
      · rw [hp,F3]; rfl
  · have hl:ix.len<4:=by have:=odt c8; omega
    have h8:=odf c2
    have h11:=odf c4
    rw [beq_eq_false_iff_ne] at c6 c7
    by_cases h9:ic=9
    · subst h9
      exact off ((pkt1_req c5).trans (by rw [det hl]; rfl))
    · obtain rfl:ic=10:=by omega
      exact off ((pkt1_rep c5).trans (by rw [det hl]; rfl))
  · have hl:¬ ix.len<4:=by have:=odf c8; omega
    have hm:=enc7_le h1
    have sl:(ix.sub 0 4).len=4:=sub_len (by omega) (by omega)
    have he:((ix.sub 0 4).str.toList==(mgD mg).str.toList)=eqB (ix.sub 0 4) (mgD mg):=str_eqB (fun j hj=>bytes_at (bytes_sub hx (by omega) (by omega)) hj) (fun j hj=>bytes_at (beD_bytes _) hj)
    have h8:=odf c2
    have h11:=odf c4
    rw [beq_eq_false_iff_ne] at c6 c7
    refine holds_t_of (det ⟨by omega,by omega,by omega,by omega⟩) (holds_t_of (wrap64_ok mg) ⟨fun hq=>?_,fun hq=>⟨fun h10=>?_,fun h10=>?_⟩⟩)
    · have hq:eqB (ix.sub 0 4) (mgD mg)=true:=he.symm.trans hq
      by_cases h9:ic=9
      · subst h9
        exact off ((pkt1_req c5).trans (by rw [show eqB (ix.sub 0 4) (mgD mg)=true from hq,Bool.or_true]; rfl))
      · obtain rfl:ic=10:=by omega
        exact off ((pkt1_rep c5).trans (by rw [show eqB (ix.sub 0 4) (mgD mg)=true from hq,Bool.or_true]; rfl))
    · obtain rfl:ic=10:=eq_of_beq h10
      have hq:eqB (ix.sub 0 4) (mgD mg)=false:=he.symm.trans hq
      have P:=pkt1_rep (w:=⟨mru,mc,mt,mf,wt,ec,lo,st,id,rq,d,ct,tm,nk,mg,pr,mu,pe,ne,tk,.l [],.l []⟩) (ii:=ii) (ix:=ix) c5
      rw [def_ hl,show eqB (ix.sub 0 4) (mgD mg)=false from hq] at P
      obtain ⟨y,h1,h2⟩:=on P
      exact ⟨y,fun E v hv=>h1 E v (le_agg (leL_cons (Le.refl _) (leL_cons (Le.refl _) (leL_cons (Le.refl _) (leL_cons (Le.refl _) (leL_cons (Le.refl _) (leL_cons (Le.refl _) (leL_cons (Le.refl _) (leL_cons (Le.refl _) (leL_cons (Le.refl _) (leL_cons (Le.refl _) (leL_cons (le_int rfl) (leL_cons (Le.refl _) (leL_cons (le_nil rfl) (leL_cons (le_nil rfl) leL_nil)))))))))))))) E v hv),h2⟩
    · obtain rfl:ic=9:=by rw [beq_eq_false_iff_ne] at h10; omega
      have hq:eqB (ix.sub 0 4) (mgD mg)=false:=he.symm.trans hq
      have P:=pkt1_req (w:=⟨mru,mc,mt,mf,wt,ec,lo,st,id,rq,d,ct,tm,nk,mg,pr,mu,pe,ne,tk,.l [],.l []⟩) (ii:=ii) (ix:=ix) c5
      rw [def_ hl,show eqB (ix.sub 0 4) (mgD mg)=false from hq] at P
      have hd:decide ((4+(ix.sub 4 (Int.toNat (ix.len:Int))).len)*1≤140737488355328)=true:=by
        rw [Int.toNat_natCast,sub_len (by omega) (by omega)]
        exact det (by omega)
      exact holds_t_of (det ⟨by omega,by omega,by omega,by omega⟩) (holds_t_of (wrap64_ok mg) (holds_t_of hd (holds_t_of Y (on (P.trans F4.symm)))))
  · exact holds_t_of Y (on ((pkt1_ruc (.inl (odt c2))).trans F1.symm))
  · have:=odf c1
    have:=odf c2
    omega
end
end Go.Proofs.YtcambhbmobepjaaGreat
