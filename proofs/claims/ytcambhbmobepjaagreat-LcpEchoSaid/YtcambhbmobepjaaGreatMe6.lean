/- Me, 6: texts of this claim, one behind the other: Kr7 Kr8 Kr9 Ks1. No condition. -/
import Derived.Test.YtcambhbmobepjaaGreatMe5
namespace Go.Proofs.YtcambhbmobepjaaGreat
set_option linter.unusedSimpArgs false
set_option linter.unusedVariables false
open Go.RowKit
set_option maxRecDepth 100000
noncomputable section
def neO (g:Int):Int:=bif decide (0<g) then IntKind.wrap .i64 (0+g) else 0
abbrev opnA (a b g m p:Int):AV:=.agg [.sc true (.int .i64 9),ai 1,ai 1,.sl true opS (asksD a m) none,ai b,ai 0,ai 0,ai m,ai p,ai a,ai 0,ai (neO g)]
def FOpn:List AV→RT AV
  | [.agg [.sc false (.int .i64 a),.sc false (.int .i64 b),.sc false (.int .i64 c),.sc false (.int .i64 e),.sc false (.int .i64 f),.sc false (.int .i64 g),.sc false (.int .i64 h)]]=>need false (fitsB a b c e f g h) 334 (.ok (.tup [opnA a b g 7 9,opnA a b g 9 7,.sc true (.bool true)]))
  | _=>.bad 334
def leaG (P:Program):List (FuncId×Spec):=[(26,pureS P 26 FTm),(31,pureS P 31 FPe)]
structure leaX where
  (tks tk mru mc mt mf wt ec lo id rq:Int)
  d:D
  (ct nk pr mu ne id2 rq2:Int)
  d2:D
  (ct2 nk2 pr2 mu2 ne2:Int)
def leaL:Lw:=⟨[1,2,4,5,6,8,9],[],3,0,1000,1000⟩
def leaF (a:leaX) (i:Nat):Tm:=⟨127,[(1,.sc false (.int .u8 a.tks)),(2,.ptr 0 0),(4,.sc false (.bool false)),(5,.ptr 1 0),(6,.ptr 2 0),(8,zi a.tk),(9,zi (i:Int))],[]⟩
def leaH (a:leaX) (i:Nat):Hp:=⟨[(0,[zi a.mru,zi a.mc,zi a.mt,zi a.mf,zi a.wt,zi a.ec,zi a.lo]),(1,[zi 9,zi a.id,zi a.rq,.sl false opS a.d none,zi a.ct,zi 0,zi a.nk,zi 7,zi a.pr,zi a.mu,zi 0,zi a.ne]),(2,[zi 9,zi a.id2,zi a.rq2,.sl false opS a.d2 none,zi a.ct2,zi 0,zi a.nk2,zi 9,zi a.pr2,zi a.mu2,zi 0,zi a.ne2])],3,[],0,1000,1000⟩
def leaC:Cs:=⟨127,[(1,.int .u8),(2,.lit (.ptr 0 0)),(4,.lit (.sc false (.bool false))),(5,.lit (.ptr 1 0)),(6,.lit (.ptr 2 0)),(8,.int .i64),(9,.lit (.sc false (.int .i64 0)))],[(0,[.int .i64,.int .i64,.int .i64,.int .i64,.int .i64,.int .i64,.int .i64]),(1,[.lit (.sc false (.int .i64 9)),.int .i64,.int .i64,.sl opS,.int .i64,.lit (.sc false (.int .i64 0)),.int .i64,.lit (.sc false (.int .i64 7)),.int .i64,.int .i64,.lit (.sc false (.int .i64 0)),.int .i64]),(2,[.lit (.sc false (.int .i64 9)),.int .i64,.int .i64,.sl opS,.int .i64,.lit (.sc false (.int .i64 0)),.int .i64,.lit (.sc false (.int .i64 9)),.int .i64,.int .i64,.lit (.sc false (.int .i64 0)),.int .i64])],3,[],0,1000,1000⟩
noncomputable def leaDec (F:Tm) (h:Hp):Option (leaX×Nat):=match cdS leaC F h with
  | some [v0,v1,v2,v3,v4,v5,v6,v7,v8,v9,v10,v11,v12,v13,v14,v15,v16,v17,v18,v19,v20,v21,v22,v23,v24]=>some (⟨v0.toI,v1.toI,v2.toI,v3.toI,v4.toI,v5.toI,v6.toI,v7.toI,v8.toI,v9.toI,v10.toI,v11,v12.toI,v13.toI,v14.toI,v15.toI,v16.toI,v17.toI,v18.toI,v19,v20.toI,v21.toI,v22.toI,v23.toI,v24.toI⟩,0)
  | _=>none
theorem lea_body (tks:Int) (tk:Int) (mru:Int) (mc:Int) (mt:Int) (mf:Int) (wt:Int) (ec:Int) (lo:Int) (id:Int) (rq:Int) (d:D) (ct:Int) (nk:Int) (pr:Int) (mu:Int) (ne:Int) (id2:Int) (rq2:Int) (d2:D) (ct2:Int) (nk2:Int) (pr2:Int) (mu2:Int) (ne2:Int) (i:Int):roundT (⟨[1,2,4,5,6,8,9],[],3,0,1000,1000⟩) (evC Tryz.prog (gam (leaG Tryz.prog)) (lam ([])) 100 5 (loopAt 0 (bodyOf Tryz.prog 5)) (⟨127,[(1,.sc false (.int .u8 tks)),(2,.ptr 0 0),(4,.sc false (.bool false)),(5,.ptr 1 0),(6,.ptr 2 0),(8,zi tk),(9,zi i)],[]⟩) (⟨[(0,[zi mru,zi mc,zi mt,zi mf,zi wt,zi ec,zi lo]),(1,[zi 9,zi id,zi rq,.sl false opS d none,zi ct,zi 0,zi nk,zi 7,zi pr,zi mu,zi 0,zi ne]),(2,[zi 9,zi id2,zi rq2,.sl false opS d2 none,zi ct2,zi 0,zi nk2,zi 9,zi pr2,zi mu2,zi 0,zi ne2])],3,[],0,1000,1000⟩)) =
RT.br (decide (i<IntKind.wrap IntKind.i64 tks)) (RT.br (onB (WkV.mk mru mc mt mf wt ec lo 9 id rq d ct 0 nk 7 pr mu 0 ne (IntKind.wrap IntKind.i64 (tk+1)) (D.l []) (D.l []))&&optsB d) (RT.br (dueB ne (IntKind.wrap IntKind.i64 (tk+1))) (RT.br (decide (lo≤0)) (RT.br (onB (WkV.mk mru mc mt mf wt ec lo 9 id2 rq2 d2 ct2 0 nk2 9 pr2 mu2 0 ne2 (IntKind.wrap IntKind.i64 (tk+1)) (D.l []) (D.l []))&&optsB d2) (RT.br (dueB ne2 (IntKind.wrap IntKind.i64 (tk+1))) (RT.br (decide (lo≤0)) (RT.ok (Ex.ret,(Tm.mk 127 [(1,AV.sc false (Value.int IntKind.u8 tks)),(2,AV.ptr 0 0),(4,zb false),(5,AV.ptr 1 0),(6,AV.ptr 2 0),(8,zi (IntKind.wrap IntKind.i64 (tk+1))),(9,zi i)] []),(Hp.mk [(0,[zi mru,zi mc,zi mt,zi mf,zi wt,zi ec,zi lo]),(1,[zi 0,zi id,zi rq,zs zO d,zi ct,zi 0,zi nk,zi (mgV d (mgV d (mgV d 7))),zi pr,zi mu,zi 0,zi 0]),(2,[zi 0,zi id2,zi rq2,zs zO d2,zi ct2,zi 0,zi nk2,zi (mgV d2 (mgV d2 (mgV d2 9))),zi pr2,zi mu2,zi 0,zi 0])] 3 [] 0 1000 1000))) (RT.br (onB (WkV.mk mru mc mt mf wt ec lo 0 id rq d ct 0 nk (mgV d (mgV d (mgV d 7))) pr mu 0 0 (IntKind.wrap IntKind.i64 (tk+1)) (D.l []) (D.l []))&&(bytesB (D.kl [D.i (byI (IntKind.wrap IntKind.u64 (mgV d2 9)) 4 0),D.i (byI (IntKind.wrap IntKind.u64 (mgV d2 9)) 4 1),D.i (byI (IntKind.wrap IntKind.u64 (mgV d2 9)) 4 2),D.i (byI (IntKind.wrap IntKind.u64 (mgV d2 9)) 4 3)])&&optsB d)) (RT.br (c9 (mgV d (mgV d (mgV d 7))) 9 (numN id2) (D.kl [D.i (byI (IntKind.wrap IntKind.u64 (mgV d2 9)) 4 0),D.i (byI (IntKind.wrap IntKind.u64 (mgV d2 9)) 4 1),D.i (byI (IntKind.wrap IntKind.u64 (mgV d2 9)) 4 2),D.i (byI (IntKind.wrap IntKind.u64 (mgV d2 9)) 4 3)])) (RT.bad 333) (RT.bad 332)) (RT.bad 331))) (RT.ok (Ex.ret,(Tm.mk 127 [(1,AV.sc false (Value.int IntKind.u8 tks)),(2,AV.ptr 0 0),(4,zb false),(5,AV.ptr 1 0),(6,AV.ptr 2 0),(8,zi (IntKind.wrap IntKind.i64 (tk+1))),(9,zi i)] []),(Hp.mk [(0,[zi mru,zi mc,zi mt,zi mf,zi wt,zi ec,zi lo]),(1,[zi 0,zi id,zi rq,zs zO d,zi ct,zi 0,zi nk,zi (mgV d (mgV d (mgV d 7))),zi pr,zi mu,zi 0,zi 0]),(2,[zi 9,zi id2,zi rq2,zs zO d2,zi ct2,zi 0,zi nk2,zi (mgV d2 9),zi pr2,zi mu2,zi 0,zi ne2])] 3 [] 0 1000 1000)))) (RT.bad 329)) (RT.br (onB (WkV.mk mru mc mt mf wt ec lo 9 id2 rq2 d2 ct2 0 nk2 9 pr2 mu2 0 ne2 (IntKind.wrap IntKind.i64 (tk+1)) (D.l []) (D.l []))&&optsB d2) (RT.br (dueB ne2 (IntKind.wrap IntKind.i64 (tk+1))) (RT.br (decide (lo≤0)) (RT.br (onB (WkV.mk mru mc mt mf wt ec lo 0 id2 rq2 d2 ct2 0 nk2 (mgV d2 (mgV d2 (mgV d2 9))) pr2 mu2 0 0 (IntKind.wrap IntKind.i64 (tk+1)) (D.l []) (D.l []))&&(bytesB (D.kl [D.i (byI (IntKind.wrap IntKind.u64 (mgV d 7)) 4 0),D.i (byI (IntKind.wrap IntKind.u64 (mgV d 7)) 4 1),D.i (byI (IntKind.wrap IntKind.u64 (mgV d 7)) 4 2),D.i (byI (IntKind.wrap IntKind.u64 (mgV d 7)) 4 3)])&&optsB d2)) (RT.br (c9 (mgV d2 (mgV d2 (mgV d2 9))) 9 (numN id) (D.kl [D.i (byI (IntKind.wrap IntKind.u64 (mgV d 7)) 4 0),D.i (byI (IntKind.wrap IntKind.u64 (mgV d 7)) 4 1),D.i (byI (IntKind.wrap IntKind.u64 (mgV d 7)) 4 2),D.i (byI (IntKind.wrap IntKind.u64 (mgV d 7)) 4 3)])) (RT.bad 333) (RT.bad 332)) (RT.bad 331)) (RT.br (onB (WkV.mk mru mc mt mf wt ec lo 9 (numN id2) rq2 d2 ct2 0 nk2 (mgV d2 9) pr2 mu2 1 (IntKind.wrap IntKind.i64 (IntKind.wrap IntKind.i64 (tk+1)+ec)) (IntKind.wrap IntKind.i64 (tk+1)) (D.l []) (D.l []))&&(bytesB (D.kl [D.i (byI (IntKind.wrap IntKind.u64 (mgV d 7)) 4 0),D.i (byI (IntKind.wrap IntKind.u64 (mgV d 7)) 4 1),D.i (byI (IntKind.wrap IntKind.u64 (mgV d 7)) 4 2),D.i (byI (IntKind.wrap IntKind.u64 (mgV d 7)) 4 3)])&&optsB d2)) (RT.br (c9 (mgV d2 9) 9 (numN id) (D.kl [D.i (byI (IntKind.wrap IntKind.u64 (mgV d 7)) 4 0),D.i (byI (IntKind.wrap IntKind.u64 (mgV d 7)) 4 1),D.i (byI (IntKind.wrap IntKind.u64 (mgV d 7)) 4 2),D.i (byI (IntKind.wrap IntKind.u64 (mgV d 7)) 4 3)])) (RT.br (onB (WkV.mk mru mc mt mf wt ec lo 9 (numN id) rq d ct 0 nk (mgV d 7) pr mu 1 (IntKind.wrap IntKind.i64 (IntKind.wrap IntKind.i64 (tk+1)+ec)) (IntKind.wrap IntKind.i64 (tk+1)) (D.l []) (D.l []))&&(bytesB (D.kl [D.i (byI (IntKind.wrap IntKind.u64 (mgV d2 9)) 4 0),D.i (byI (IntKind.wrap IntKind.u64 (mgV d2 9)) 4 1),D.i (byI (IntKind.wrap IntKind.u64 (mgV d2 9)) 4 2),D.i (byI (IntKind.wrap IntKind.u64 (mgV d2 9)) 4 3)])&&optsB d)) (RT.br (c9 (mgV d 7) 9 (numN id2) (D.kl [D.i (byI (IntKind.wrap IntKind.u64 (mgV d2 9)) 4 0),D.i (byI (IntKind.wrap IntKind.u64 (mgV d2 9)) 4 1),D.i (byI (IntKind.wrap IntKind.u64 (mgV d2 9)) 4 2),D.i (byI (IntKind.wrap IntKind.u64 (mgV d2 9)) 4 3)])) (RT.br (onB (WkV.mk mru mc mt mf wt ec lo 9 (numN id2) rq2 d2 ct2 0 nk2 (mgV d2 (mgV d2 9)) pr2 mu2 1 (IntKind.wrap IntKind.i64 (IntKind.wrap IntKind.i64 (tk+1)+ec)) (IntKind.wrap IntKind.i64 (tk+1)) (D.l []) (D.l []))&&(bytesB (D.l [D.i (byI (IntKind.wrap IntKind.u64 (mgV d 7)) 4 0),D.i (byI (IntKind.wrap IntKind.u64 (mgV d 7)) 4 1),D.i (byI (IntKind.wrap IntKind.u64 (mgV d 7)) 4 2),D.i (byI (IntKind.wrap IntKind.u64 (mgV d 7)) 4 3)])&&optsB d2)) (RT.br (c9 (mgV d2 (mgV d2 9)) 10 (numN id2) (D.l [D.i (byI (IntKind.wrap IntKind.u64 (mgV d 7)) 4 0),D.i (byI (IntKind.wrap IntKind.u64 (mgV d 7)) 4 1),D.i (byI (IntKind.wrap IntKind.u64 (mgV d 7)) 4 2),D.i (byI (IntKind.wrap IntKind.u64 (mgV d 7)) 4 3)])) (RT.br (onB (WkV.mk mru mc mt mf wt ec lo 9 (numN id) rq d ct 0 nk (mgV d (mgV d 7)) pr mu 1 (IntKind.wrap IntKind.i64 (IntKind.wrap IntKind.i64 (tk+1)+ec)) (IntKind.wrap IntKind.i64 (tk+1)) (D.l []) (D.l []))&&(bytesB (D.l [D.i (byI (IntKind.wrap IntKind.u64 (mgV d2 9)) 4 0),D.i (byI (IntKind.wrap IntKind.u64 (mgV d2 9)) 4 1),D.i (byI (IntKind.wrap IntKind.u64 (mgV d2 9)) 4 2),D.i (byI (IntKind.wrap IntKind.u64 (mgV d2 9)) 4 3)])&&optsB d)) (RT.br (c9 (mgV d (mgV d 7)) 10 (numN id) (D.l [D.i (byI (IntKind.wrap IntKind.u64 (mgV d2 9)) 4 0),D.i (byI (IntKind.wrap IntKind.u64 (mgV d2 9)) 4 1),D.i (byI (IntKind.wrap IntKind.u64 (mgV d2 9)) 4 2),D.i (byI (IntKind.wrap IntKind.u64 (mgV d2 9)) 4 3)])) (RT.ok (Ex.normal,(Tm.mk 127 [(1,AV.sc false (Value.int IntKind.u8 tks)),(2,AV.ptr 0 0),(4,zb false),(5,AV.ptr 1 0),(6,AV.ptr 2 0),(8,zi (IntKind.wrap IntKind.i64 (tk+1))),(9,zi (IntKind.wrap IntKind.i64 (i+1)))] []),(Hp.mk [(0,[zi mru,zi mc,zi mt,zi mf,zi wt,zi ec,zi lo]),(1,[zi 9,zi (numN id),zi rq,zs zO d,zi ct,zi 0,zi nk,zi (mgV d (mgV d 7)),zi pr,zi mu,zi 0,zi (IntKind.wrap IntKind.i64 (IntKind.wrap IntKind.i64 (tk+1)+ec))]),(2,[zi 9,zi (numN id2),zi rq2,zs zO d2,zi ct2,zi 0,zi nk2,zi (mgV d2 (mgV d2 9)),zi pr2,zi mu2,zi 0,zi (IntKind.wrap IntKind.i64 (IntKind.wrap IntKind.i64 (tk+1)+ec))])] 3 [] 0 1000 1000))) (RT.bad 332)) (RT.bad 331)) (RT.bad 332)) (RT.bad 331)) (RT.bad 332)) (RT.bad 331)) (RT.bad 332)) (RT.bad 331))) (RT.br (onB (WkV.mk mru mc mt mf wt ec lo 9 id2 rq2 d2 ct2 0 nk2 (mgV d2 9) pr2 mu2 0 ne2 (IntKind.wrap IntKind.i64 (tk+1)) (D.l []) (D.l []))&&(bytesB (D.kl [D.i (byI (IntKind.wrap IntKind.u64 (mgV d 7)) 4 0),D.i (byI (IntKind.wrap IntKind.u64 (mgV d 7)) 4 1),D.i (byI (IntKind.wrap IntKind.u64 (mgV d 7)) 4 2),D.i (byI (IntKind.wrap IntKind.u64 (mgV d 7)) 4 3)])&&optsB d2)) (RT.br (c9 (mgV d2 9) 9 (numN id) (D.kl [D.i (byI (IntKind.wrap IntKind.u64 (mgV d 7)) 4 0),D.i (byI (IntKind.wrap IntKind.u64 (mgV d 7)) 4 1),D.i (byI (IntKind.wrap IntKind.u64 (mgV d 7)) 4 2),D.i (byI (IntKind.wrap IntKind.u64 (mgV d 7)) 4 3)])) (RT.br (onB (WkV.mk mru mc mt mf wt ec lo 9 (numN id) rq d ct 0 nk (mgV d 7) pr mu 1 (IntKind.wrap IntKind.i64 (IntKind.wrap IntKind.i64 (tk+1)+ec)) (IntKind.wrap IntKind.i64 (tk+1)) (D.l []) (D.l []))&&(bytesB (D.l [D.i (byI (IntKind.wrap IntKind.u64 (mgV d2 9)) 4 0),D.i (byI (IntKind.wrap IntKind.u64 (mgV d2 9)) 4 1),D.i (byI (IntKind.wrap IntKind.u64 (mgV d2 9)) 4 2),D.i (byI (IntKind.wrap IntKind.u64 (mgV d2 9)) 4 3)])&&optsB d)) (RT.br (c9 (mgV d 7) 10 (numN id) (D.l [D.i (byI (IntKind.wrap IntKind.u64 (mgV d2 9)) 4 0),D.i (byI (IntKind.wrap IntKind.u64 (mgV d2 9)) 4 1),D.i (byI (IntKind.wrap IntKind.u64 (mgV d2 9)) 4 2),D.i (byI (IntKind.wrap IntKind.u64 (mgV d2 9)) 4 3)])) (RT.ok (Ex.normal,(Tm.mk 127 [(1,AV.sc false (Value.int IntKind.u8 tks)),(2,AV.ptr 0 0),(4,zb false),(5,AV.ptr 1 0),(6,AV.ptr 2 0),(8,zi (IntKind.wrap IntKind.i64 (tk+1))),(9,zi (IntKind.wrap IntKind.i64 (i+1)))] []),(Hp.mk [(0,[zi mru,zi mc,zi mt,zi mf,zi wt,zi ec,zi lo]),(1,[zi 9,zi (numN id),zi rq,zs zO d,zi ct,zi 0,zi nk,zi (mgV d 7),zi pr,zi mu,zi 0,zi (IntKind.wrap IntKind.i64 (IntKind.wrap IntKind.i64 (tk+1)+ec))]),(2,[zi 9,zi id2,zi rq2,zs zO d2,zi ct2,zi 0,zi nk2,zi (mgV d2 (mgV d2 9)),zi pr2,zi mu2,zi 0,zi ne2])] 3 [] 0 1000 1000))) (RT.bad 332)) (RT.bad 331)) (RT.bad 332)) (RT.bad 331))) (RT.bad 329))) (RT.br (onB (WkV.mk mru mc mt mf wt ec lo 9 id2 rq2 d2 ct2 0 nk2 9 pr2 mu2 0 ne2 (IntKind.wrap IntKind.i64 (tk+1)) (D.l []) (D.l []))&&optsB d2) (RT.br (dueB ne2 (IntKind.wrap IntKind.i64 (tk+1))) (RT.br (decide (lo≤0)) (RT.ok (Ex.ret,(Tm.mk 127 [(1,AV.sc false (Value.int IntKind.u8 tks)),(2,AV.ptr 0 0),(4,zb false),(5,AV.ptr 1 0),(6,AV.ptr 2 0),(8,zi (IntKind.wrap IntKind.i64 (tk+1))),(9,zi i)] []),(Hp.mk [(0,[zi mru,zi mc,zi mt,zi mf,zi wt,zi ec,zi lo]),(1,[zi 9,zi id,zi rq,zs zO d,zi ct,zi 0,zi nk,zi (mgV d 7),zi pr,zi mu,zi 0,zi ne]),(2,[zi 0,zi id2,zi rq2,zs zO d2,zi ct2,zi 0,zi nk2,zi (mgV d2 (mgV d2 (mgV d2 9))),zi pr2,zi mu2,zi 0,zi 0])] 3 [] 0 1000 1000))) (RT.br (onB (WkV.mk mru mc mt mf wt ec lo 9 id rq d ct 0 nk (mgV d 7) pr mu 0 ne (IntKind.wrap IntKind.i64 (tk+1)) (D.l []) (D.l []))&&(bytesB (D.kl [D.i (byI (IntKind.wrap IntKind.u64 (mgV d2 9)) 4 0),D.i (byI (IntKind.wrap IntKind.u64 (mgV d2 9)) 4 1),D.i (byI (IntKind.wrap IntKind.u64 (mgV d2 9)) 4 2),D.i (byI (IntKind.wrap IntKind.u64 (mgV d2 9)) 4 3)])&&optsB d)) (RT.br (c9 (mgV d 7) 9 (numN id2) (D.kl [D.i (byI (IntKind.wrap IntKind.u64 (mgV d2 9)) 4 0),D.i (byI (IntKind.wrap IntKind.u64 (mgV d2 9)) 4 1),D.i (byI (IntKind.wrap IntKind.u64 (mgV d2 9)) 4 2),D.i (byI (IntKind.wrap IntKind.u64 (mgV d2 9)) 4 3)])) (RT.br (onB (WkV.mk mru mc mt mf wt ec lo 9 (numN id2) rq2 d2 ct2 0 nk2 (mgV d2 9) pr2 mu2 1 (IntKind.wrap IntKind.i64 (IntKind.wrap IntKind.i64 (tk+1)+ec)) (IntKind.wrap IntKind.i64 (tk+1)) (D.l []) (D.l []))&&(bytesB (D.l [D.i (byI (IntKind.wrap IntKind.u64 (mgV d 7)) 4 0),D.i (byI (IntKind.wrap IntKind.u64 (mgV d 7)) 4 1),D.i (byI (IntKind.wrap IntKind.u64 (mgV d 7)) 4 2),D.i (byI (IntKind.wrap IntKind.u64 (mgV d 7)) 4 3)])&&optsB d2)) (RT.br (c9 (mgV d2 9) 10 (numN id2) (D.l [D.i (byI (IntKind.wrap IntKind.u64 (mgV d 7)) 4 0),D.i (byI (IntKind.wrap IntKind.u64 (mgV d 7)) 4 1),D.i (byI (IntKind.wrap IntKind.u64 (mgV d 7)) 4 2),D.i (byI (IntKind.wrap IntKind.u64 (mgV d 7)) 4 3)])) (RT.ok (Ex.normal,(Tm.mk 127 [(1,AV.sc false (Value.int IntKind.u8 tks)),(2,AV.ptr 0 0),(4,zb false),(5,AV.ptr 1 0),(6,AV.ptr 2 0),(8,zi (IntKind.wrap IntKind.i64 (tk+1))),(9,zi (IntKind.wrap IntKind.i64 (i+1)))] []),(Hp.mk [(0,[zi mru,zi mc,zi mt,zi mf,zi wt,zi ec,zi lo]),(1,[zi 9,zi id,zi rq,zs zO d,zi ct,zi 0,zi nk,zi (mgV d (mgV d 7)),zi pr,zi mu,zi 0,zi ne]),(2,[zi 9,zi (numN id2),zi rq2,zs zO d2,zi ct2,zi 0,zi nk2,zi (mgV d2 9),zi pr2,zi mu2,zi 0,zi (IntKind.wrap IntKind.i64 (IntKind.wrap IntKind.i64 (tk+1)+ec))])] 3 [] 0 1000 1000))) (RT.bad 332)) (RT.bad 331)) (RT.bad 332)) (RT.bad 331))) (RT.ok (Ex.normal,(Tm.mk 127 [(1,AV.sc false (Value.int IntKind.u8 tks)),(2,AV.ptr 0 0),(4,zb false),(5,AV.ptr 1 0),(6,AV.ptr 2 0),(8,zi (IntKind.wrap IntKind.i64 (tk+1))),(9,zi (IntKind.wrap IntKind.i64 (i+1)))] []),(Hp.mk [(0,[zi mru,zi mc,zi mt,zi mf,zi wt,zi ec,zi lo]),(1,[zi 9,zi id,zi rq,zs zO d,zi ct,zi 0,zi nk,zi (mgV d 7),zi pr,zi mu,zi 0,zi ne]),(2,[zi 9,zi id2,zi rq2,zs zO d2,zi ct2,zi 0,zi nk2,zi (mgV d2 9),zi pr2,zi mu2,zi 0,zi ne2])] 3 [] 0 1000 1000)))) (RT.bad 329))) (RT.bad 329)) (RT.ok (Ex.exit 0,(Tm.mk 127 [(1,AV.sc false (Value.int IntKind.u8 tks)),(2,AV.ptr 0 0),(4,zb false),(5,AV.ptr 1 0),(6,AV.ptr 2 0),(8,zi tk),(9,zi i)] []),(Hp.mk [(0,[zi mru,zi mc,zi mt,zi mf,zi wt,zi ec,zi lo]),(1,[zi 9,zi id,zi rq,zs zO d,zi ct,zi 0,zi nk,zi 7,zi pr,zi mu,zi 0,zi ne]),(2,[zi 9,zi id2,zi rq2,zs zO d2,zi ct2,zi 0,zi nk2,zi 9,zi pr2,zi mu2,zi 0,zi ne2])] 3 [] 0 1000 1000))):=by rw [← fvC_eq Tryz.prog (gam (leaG Tryz.prog)) (lam ([])) false 100]; kernel_rfl
def opn_treeT (a b c e f g h:Int):RT AV :=
RT.br (newB a b c e f g h 7&&true) (RT.br (newB a b c e f g h 9&&true) (RT.br (onB (WkV.mk a b c e f g h 6 1 1 (asksD a 9) (cntN b) (IntKind.wrap IntKind.i64 (0+f)) 0 9 0 1492 0 0 0 (D.l []) (D.l []))&&(bytesB (D.l [D.t [D.i 1],D.t [D.i 4],D.i (byI (IntKind.wrap IntKind.u64 a) 2 0),D.i (byI (IntKind.wrap IntKind.u64 a) 2 1),D.t [D.i 5],D.t [D.i 6],D.i 0,D.i 0,D.i 0,D.i 7])&&optsB (asksD a 9))) (RT.br (c61 9 0 e 1 (D.l [D.t [D.i 1],D.t [D.i 4],D.i (byI (IntKind.wrap IntKind.u64 a) 2 0),D.i (byI (IntKind.wrap IntKind.u64 a) 2 1),D.t [D.i 5],D.t [D.i 6],D.i 0,D.i 0,D.i 0,D.i 7])) (RT.br (onB (WkV.mk a b c e f g h 6 1 1 (asksD a 7) (cntN b) (IntKind.wrap IntKind.i64 (0+f)) 0 7 0 1492 0 0 0 (D.l []) (D.l []))&&(bytesB (D.l [D.t [D.i 1],D.t [D.i 4],D.i (byI (IntKind.wrap IntKind.u64 a) 2 0),D.i (byI (IntKind.wrap IntKind.u64 a) 2 1),D.t [D.i 5],D.t [D.i 6],D.i 0,D.i 0,D.i 0,D.i 9])&&optsB (asksD a 7))) (RT.br (c61 7 0 e 1 (D.l [D.t [D.i 1],D.t [D.i 4],D.i (byI (IntKind.wrap IntKind.u64 a) 2 0),D.i (byI (IntKind.wrap IntKind.u64 a) 2 1),D.t [D.i 5],D.t [D.i 6],D.i 0,D.i 0,D.i 0,D.i 9])) (RT.br (onB (WkV.mk a b c e f g h 8 1 1 (asksD a 9) (cntN b) (IntKind.wrap IntKind.i64 (0+f)) 0 9 7 (brV (decO (D.l [D.t [D.i 1],D.t [D.i 4],D.i (byI (IntKind.wrap IntKind.u64 a) 2 0),D.i (byI (IntKind.wrap IntKind.u64 a) 2 1),D.t [D.i 5],D.t [D.i 6],D.i 0,D.i 0,D.i 0,D.i 7])) 1 1492) 0 0 0 (D.l []) (D.l []))&&(bytesB (D.l [D.t [D.i 1],D.t [D.i 4],D.i (byI (IntKind.wrap IntKind.u64 a) 2 0),D.i (byI (IntKind.wrap IntKind.u64 a) 2 1),D.t [D.i 5],D.t [D.i 6],D.i 0,D.i 0,D.i 0,D.i 9])&&optsB (asksD a 9))) (RT.br (c82 1 1 (asksD a 9) (D.l [D.t [D.i 1],D.t [D.i 4],D.i (byI (IntKind.wrap IntKind.u64 a) 2 0),D.i (byI (IntKind.wrap IntKind.u64 a) 2 1),D.t [D.i 5],D.t [D.i 6],D.i 0,D.i 0,D.i 0,D.i 9])) (RT.br (onB (WkV.mk a b c e f g h 8 1 1 (asksD a 7) (cntN b) (IntKind.wrap IntKind.i64 (0+f)) 0 7 9 (brV (decO (D.l [D.t [D.i 1],D.t [D.i 4],D.i (byI (IntKind.wrap IntKind.u64 a) 2 0),D.i (byI (IntKind.wrap IntKind.u64 a) 2 1),D.t [D.i 5],D.t [D.i 6],D.i 0,D.i 0,D.i 0,D.i 9])) 1 1492) 0 0 0 (D.l []) (D.l []))&&(bytesB (D.l [D.t [D.i 1],D.t [D.i 4],D.i (byI (IntKind.wrap IntKind.u64 a) 2 0),D.i (byI (IntKind.wrap IntKind.u64 a) 2 1),D.t [D.i 5],D.t [D.i 6],D.i 0,D.i 0,D.i 0,D.i 7])&&optsB (asksD a 7))) (RT.br (c82 1 1 (asksD a 7) (D.l [D.t [D.i 1],D.t [D.i 4],D.i (byI (IntKind.wrap IntKind.u64 a) 2 0),D.i (byI (IntKind.wrap IntKind.u64 a) 2 1),D.t [D.i 5],D.t [D.i 6],D.i 0,D.i 0,D.i 0,D.i 7])) (RT.ok (AV.tup [AV.agg [zk 9,zi 1,zi 1,AV.sl true zO (asksD a 7) none,zi b,zi 0,zi 0,zi 7,zi 9,zi (brV (decO (D.l [D.t [D.i 1],D.t [D.i 4],D.i (byI (IntKind.wrap IntKind.u64 a) 2 0),D.i (byI (IntKind.wrap IntKind.u64 a) 2 1),D.t [D.i 5],D.t [D.i 6],D.i 0,D.i 0,D.i 0,D.i 9])) 1 1492),zi 0,zi (bif decide (0<g) then IntKind.wrap IntKind.i64 (0+g) else 0)],AV.agg [zk 9,zi 1,zi 1,AV.sl true zO (asksD a 9) none,zi b,zi 0,zi 0,zi 9,zi 7,zi (brV (decO (D.l [D.t [D.i 1],D.t [D.i 4],D.i (byI (IntKind.wrap IntKind.u64 a) 2 0),D.i (byI (IntKind.wrap IntKind.u64 a) 2 1),D.t [D.i 5],D.t [D.i 6],D.i 0,D.i 0,D.i 0,D.i 7])) 1 1492),zi 0,zi (bif decide (0<g) then IntKind.wrap IntKind.i64 (0+g) else 0)],AV.sc true (Value.bool true)])) (RT.bad 326)) (RT.bad 324)) (RT.bad 326)) (RT.bad 324)) (RT.bad 325)) (RT.bad 324)) (RT.bad 325)) (RT.bad 324)) (RT.bad 328)) (RT.bad 328)
theorem opn_tree (a b c e f g h:Int):treeF (evF Tryz.prog (gam (lmG Tryz.prog)) (lam ([])) 100 25) [cfgA a b c e f g h]=opn_treeT a b c e f g h:=by rw [← fvF_eq Tryz.prog (gam (lmG Tryz.prog)) (lam ([])) false 100 25]; kernel_rfl
theorem leaDec_0:∀ F h x,leaDec F h=some x→∃ a,x=(a,0)∧F=leaF a 0∧h=leaH a 0:=by
  intro F h x hx
  unfold leaDec at hx
  split at hx
  · rename_i hd
    cases hx
    obtain ⟨h1,h2⟩:=cdS_ok hd
    exact ⟨_,rfl,h1,h2⟩
  · cases hx
theorem leaDec_ok:∀ F h x,leaDec F h=some x→F=leaF x.1 x.2∧h=leaH x.1 x.2:=by
  intro F h x hx
  obtain ⟨a,rfl,h1,h2⟩:=leaDec_0 F h x hx
  exact ⟨h1,h2⟩
theorem on_3t {a b c e f g h m a' n tk:Int} (G:Gd a b c e f g h m) (ht:0≤tk∧tk≤1099511627776):(onB ⟨a,b,c,e,f,g,h,6,1,1,asksD a m,cntN b,IntKind.wrap .i64 (tk+f),0,m,0,1492,0,0,tk,.l [],.l []⟩&&(bytesB (rqD a' n)&&optsB (asksD a m)))=true:=by
  have h1:=tm_rng (tk:=tk) (f:=f) ht G.hw
  have h2:=cntN_rng (i:=b) (by have:=G.hb; omega)
  rw [rq_bytes,asks_by,on_of G.hf G.hm ⟨by decide,by decide⟩ ⟨by decide,by decide⟩ (asks_sound ⟨by decide,by decide⟩ ⟨by decide,by decide⟩ ⟨by decide,by decide⟩ h2 ⟨by decide,by decide⟩ (.inl ⟨⟨by decide,by decide⟩,h1⟩)) ht]
  rfl
theorem on_7t {a b c e f g h m a' p tk:Int} (G:Gd a b c e f g h m) (ha:128≤a'∧a'≤1492) (hp:0≤p∧p≤4294967295) (ht:0≤tk∧tk≤1099511627776):(onB ⟨a,b,c,e,f,g,h,8,1,1,asksD a m,cntN b,IntKind.wrap .i64 (tk+f),0,m,p,a',0,0,tk,.l [],.l []⟩&&(bytesB (rqD a m)&&optsB (asksD a m)))=true:=by
  have h1:=tm_rng (tk:=tk) (f:=f) ht G.hw
  have h2:=cntN_rng (i:=b) (by have:=G.hb; omega)
  rw [rq_bytes,asks_by,on_of G.hf G.hm hp ha (asks_sound ⟨by decide,by decide⟩ ⟨by decide,by decide⟩ ⟨by decide,by decide⟩ h2 ⟨by decide,by decide⟩ (.inl ⟨⟨by decide,by decide⟩,h1⟩)) ht]
  rfl
theorem fits_gd {a b c e f g h m:Int} (hf:fitsB a b c e f g h=true) (hm:1≤m∧m≤4294967295):Gd a b c e f g h m:=by
  have:=(fitsB_iff _ _ _ _ _ _ _).1 hf
  exact ⟨by omega,by omega,hf,by omega,hm⟩
theorem FOpn_inv {args:List AV} {K:AV→Prop} (H:(FOpn args).holds K):∃ (a b c e f g h:Int),args=[cfgA a b c e f g h]∧fitsB a b c e f g h=true∧K (.tup [opnA a b g 7 9,opnA a b g 9 7,.sc true (.bool true)]):=by
  unfold FOpn at H
  split at H
  · rename_i a b c e f g h
    obtain ⟨hc,H⟩:=need_holds H
    exact ⟨a,b,c,e,f,g,h,rfl,hc,H⟩
  · exact H.elim
theorem rq7 (a:Int):rqD a 7=.l [.t [.i 1],.t [.i 4],.i (byI (IntKind.wrap IntKind.u64 a) 2 0),.i (byI (IntKind.wrap IntKind.u64 a) 2 1),.t [.i 5],.t [.i 6],.i 0,.i 0,.i 0,.i 7]:=by kernel_rfl
theorem rq9 (a:Int):rqD a 9=.l [.t [.i 1],.t [.i 4],.i (byI (IntKind.wrap IntKind.u64 a) 2 0),.i (byI (IntKind.wrap IntKind.u64 a) 2 1),.t [.i 5],.t [.i 6],.i 0,.i 0,.i 0,.i 9]:=by kernel_rfl
theorem opn_soundF:SoundF Tryz.prog 25 (pureS Tryz.prog 25 FOpn):=by
  refine pure_in (gs:=lmG Tryz.prog) (ls:=[]) mixed ⟨good_soundF,sta_soundF,lpm_soundF,awk_soundF,trivial⟩ trivial 25 100 fun args K ho H=>?_
  obtain ⟨a,b,c,e,f,g,h,hr,hf,H⟩:=FOpn_inv H
  rw [hr,opn_tree]
  have A:=fits_gd (m:=7) hf ⟨by decide,by decide⟩
  have B:=fits_gd (m:=9) hf ⟨by decide,by decide⟩
  have ha:=A.ha
  have t0:(0:Int)≤0∧(0:Int)≤1099511627776:=by decide
  have d1:(1:Int)≤7∧(7:Int)≤4294967295:=by decide
  have d2:(1:Int)≤9∧(9:Int)≤4294967295:=by decide
  have z1:(0:Int)≤7∧(7:Int)≤4294967295:=by decide
  have z2:(0:Int)≤9∧(9:Int)≤4294967295:=by decide
  have m7:brV (decO (rqD a 7)) 1 1492=a:=brV_1 ⟨by omega,by omega⟩
  have m9:brV (decO (rqD a 9)) 1 1492=a:=brV_1 ⟨by omega,by omega⟩
  unfold opn_treeT
  rw [← rq7 a,← rq9 a,m7,m9]
  refine holds_t_of (gd_new A) (holds_t_of (gd_new B) (holds_t_of (on_3t (a':=a) (n:=7) B t0) (holds_t_of (c61_rq ha d1 d2 (by decide)) (holds_t_of (on_3t (a':=a) (n:=9) A t0) (holds_t_of (c61_rq ha d2 d1 (by decide)) (holds_t_of (on_7t (a':=a) B ha z1 t0) (holds_t_of (c82_rq a 9) (holds_t_of (on_7t (a':=a) A ha z2 t0) (holds_t_of (c82_rq a 7) ⟨_,le_two' ?_ ?_ (Le.refl _),H⟩)))))))))
  · exact le_agg (leL_cons (Le.refl _) (leL_cons (Le.refl _) (leL_cons (Le.refl _) (leL_cons (Le.refl _) (leL_cons (Le.refl _) (leL_cons (Le.refl _) (leL_cons (Le.refl _) (leL_cons (Le.refl _) (leL_cons (Le.refl _) (leL_cons (Le.refl _) fun _ _ h=>h))))))))))
  · exact le_agg (leL_cons (Le.refl _) (leL_cons (Le.refl _) (leL_cons (Le.refl _) (leL_cons (Le.refl _) (leL_cons (Le.refl _) (leL_cons (Le.refl _) (leL_cons (Le.refl _) (leL_cons (Le.refl _) (leL_cons (Le.refl _) (leL_cons (Le.refl _) fun _ _ h=>h))))))))))
def leaA (s:leaX) (tk:Int):WkV:=⟨s.mru,s.mc,s.mt,s.mf,s.wt,s.ec,s.lo,9,s.id,s.rq,s.d,s.ct,0,s.nk,7,s.pr,s.mu,0,s.ne,tk,.l [],.l []⟩
def leaB (s:leaX) (tk:Int):WkV:=⟨s.mru,s.mc,s.mt,s.mf,s.wt,s.ec,s.lo,9,s.id2,s.rq2,s.d2,s.ct2,0,s.nk2,9,s.pr2,s.mu2,0,s.ne2,tk,.l [],.l []⟩
def leaN (s:leaX):leaX:=bif dueB s.ne (s.tk+1) then { s with id:=numN s.id,id2:=numN s.id2,ne:=s.tk+1+s.ec,ne2:=s.tk+1+s.ec,tk:=s.tk+1 } else { s with tk:=s.tk+1 }
def leaR:Nat→leaX→leaX
  | 0,s=>s
  | m+1,s=>leaR m (leaN s)
def leaK (s:leaX):Bool:=lisW (leaA s 0)&&(lisW (leaB s 0)&&((optsB s.d&&optsB s.d2)&&((mgV s.d 7==7&&mgV s.d2 9==9)&&decide (s.ne2=s.ne∧0≤s.tk∧(s.ec=0∨(s.tk<s.ne∧s.ne≤s.tk+s.ec))))))
def leaI (s:leaX) (i:Nat):Bool:=decide (s.tk=i∧0≤s.tks∧s.tks≤255∧i≤s.tks.toNat)
def leaT (y:leaX×Nat):RT Out:=need false (leaK y.1&&leaI y.1 y.2) 210 (.ok (.normal,leaF (leaR (y.1.tks.toNat - y.2) y.1) y.1.tks.toNat,leaH (leaR (y.1.tks.toNat - y.2) y.1) 0))
theorem leaK_iff (s:leaX):leaK s=true↔lisW (leaA s 0)=true∧lisW (leaB s 0)=true∧(optsB s.d=true∧optsB s.d2=true)∧(mgV s.d 7=7∧mgV s.d2 9=9)∧s.ne2=s.ne∧0≤s.tk∧(s.ec=0∨(s.tk<s.ne∧s.ne≤s.tk+s.ec)):=by
  unfold leaK
  simp only [Bool.and_eq_true,beq_iff_eq,decide_eq_true_eq]
theorem lis_echo {mru mc mt mf wt ec lo id rq:Int} {d:D} {ct nk mg pr mu pe ne tk pe' ne' tk':Int} (h:lisW ⟨mru,mc,mt,mf,wt,ec,lo,9,id,rq,d,ct,0,nk,mg,pr,mu,pe,ne,tk,.l [],.l []⟩=true) (hp:0≤pe'∧pe'≤1000) (hn:neOk ec 9 ne') :
    lisW ⟨mru,mc,mt,mf,wt,ec,lo,9,numN id,rq,d,ct,0,nk,mg,pr,mu,pe',ne',tk',.l [],.l []⟩=true:=by
  obtain ⟨h1,h2,h3,h4,h5,h6,h7⟩:=(lisW_iff _).1 h
  obtain ⟨s1,s2,s3,s4,s5,s6,s7⟩:=(soundA_iff _).1 h6
  exact (lisW_iff _).2 ⟨h1,h2,h3,h4,hp,(soundA_iff _).2 ⟨s1,numN_rng s2,s3,s4,s5,s6,s7⟩,hn⟩
theorem dueB_iff (ne tk:Int):dueB ne tk=true↔ne≠0∧ne≤tk:=by
  unfold dueB
  rw [Bool.and_eq_true,bne_iff_ne,decide_eq_true_eq]
theorem dueB_off {ne tk:Int} (h:dueB ne tk=false):ne=0∨tk<ne:=by
  by_cases h1:ne=0
  · exact .inl h1
  · by_cases h2:ne≤tk
    · rw [(dueB_iff ne tk).2 ⟨h1,h2⟩] at h; cases h
    · exact .inr (by omega)
theorem lea_keep {s:leaX} (h:leaK s=true) (ht:s.tk≤255):leaK (leaN s)=true:=by
  obtain ⟨h1,h2,h3,h4,h5,h6,h7⟩:=(leaK_iff s).1 h
  have hec:=lis_ec h1
  have hec:0≤s.ec∧s.ec≤1048576:=hec
  have hn:neOk s.ec 9 s.ne:=((lisW_iff _).1 h1).2.2.2.2.2.2
  unfold leaN
  cases hd:dueB s.ne (s.tk+1)
  · refine (leaK_iff _).2 ⟨h1,h2,h3,h4,h5,by show 0≤s.tk+1; omega,?_⟩
    show s.ec=0∨(s.tk+1<s.ne∧s.ne≤s.tk+1+s.ec)
    rcases h7 with h7 | h7
    · exact .inl h7
    · rcases dueB_off hd with e | e <;> omega
  · obtain ⟨d1,d2⟩:=(dueB_iff _ _).1 hd
    have hp:=hn.resolve_left d1
    have hn':neOk s.ec 9 (s.tk+1+s.ec):=.inr ⟨rfl,hp.2.1,by omega,by omega⟩
    exact (leaK_iff _).2 ⟨lis_echo h1 ⟨Int.le_refl _,by decide⟩ hn',lis_echo h2 ⟨Int.le_refl _,by decide⟩ hn',h3,h4,rfl,by show 0≤s.tk+1; omega,.inr ⟨by show s.tk+1<s.tk+1+s.ec; omega,Int.le_refl _⟩⟩
abbrev echL (m:Int):List D:=[.i (byI (IntKind.wrap .u64 m) 4 0),.i (byI (IntKind.wrap .u64 m) 4 1),.i (byI (IntKind.wrap .u64 m) 4 2),.i (byI (IntKind.wrap .u64 m) 4 3)]
theorem ech_bytes (m:Int):bytesB (.kl (echL m))=true∧bytesB (.l (echL m))=true:=by
  have hk:(D.kl (echL m)).toL=echL m:=by show List.take maxLen (echL m)=echL m; exact List.take_of_length_le (by unfold maxLen; simp)
  have hl:(D.l (echL m)).toL=echL m:=toL_l (by unfold maxLen; simp)
  constructor
  all_goals refine det fun i hi=>?_
  · have hi:i<4:=by unfold D.len at hi; rw [hk] at hi; exact hi
    unfold byN D.get
    rw [hk]
    match i,hi with
    | 0,_=>exact byI_rng _ 4 0
    | 1,_=>exact byI_rng _ 4 1
    | 2,_=>exact byI_rng _ 4 2
    | 3,_=>exact byI_rng _ 4 3
  · have hi:i<4:=by unfold D.len at hi; rw [hl] at hi; exact hi
    unfold byN D.get
    rw [hl]
    match i,hi with
    | 0,_=>exact byI_rng _ 4 0
    | 1,_=>exact byI_rng _ 4 1
    | 2,_=>exact byI_rng _ 4 2
    | 3,_=>exact byI_rng _ 4 3
theorem enc7_ech {c i:Int} {x:D} (hl:x.len=4) (hc:0≤c∧c≤255) (hi:0≤i∧i≤255):enc7E c i x=0:=by
  unfold enc7E
  rw [if_pos ⟨hc,hi⟩,if_neg (by omega)]
theorem c9a {i:Int} (hi:0≤i∧i≤255):c9 9 9 i (.kl (echL 7))=true:=by
  unfold c9
  rw [enc7_ech rfl (by decide) hi]
  kernel_rfl
theorem c9b {i:Int} (hi:0≤i∧i≤255):c9 7 9 i (.kl (echL 9))=true:=by
  unfold c9
  rw [enc7_ech rfl (by decide) hi]
  kernel_rfl
theorem c9c {i:Int} (hi:0≤i∧i≤255):c9 9 10 i (.l (echL 7))=true:=by
  unfold c9
  rw [enc7_ech rfl (by decide) hi]
  kernel_rfl
theorem c9d {i:Int} (hi:0≤i∧i≤255):c9 7 10 i (.l (echL 9))=true:=by
  unfold c9
  rw [enc7_ech rfl (by decide) hi]
  kernel_rfl
theorem on_two {w:WkV} {x d:D} (h:lisW w=true) (ht:0≤w.tick∧w.tick≤1099511627776) (hx:bytesB x=true) (hd:optsB d=true):(onB w&&(bytesB x&&optsB d))=true:=by
  unfold onB
  rw [h,hx,hd,det ht.1,det ht.2]; rfl
theorem on_one {w:WkV} {d:D} (h:lisW w=true) (ht:0≤w.tick∧w.tick≤1099511627776) (hd:optsB d=true):(onB w&&optsB d)=true:=by
  unfold onB
  rw [h,hd,det ht.1,det ht.2]; rfl
theorem leaG_ok:GamL Tryz.prog (leaG Tryz.prog):=⟨ltm_soundF,lpe_soundF,trivial⟩
theorem lea_loop:LamE Tryz.prog 5 0 (loopS Tryz.prog leaL leaDec leaT):=by
  refine loop_in2 (gs:=leaG Tryz.prog) (ls:=[]) mixed leaG_ok trivial _ 0 100 (by kernel_rfl) leaL (mkF:=fun y=>leaF y.1 y.2) (mkH:=fun y=>leaH y.1 0) (fun y=>y.1.tks.toNat - y.2) ?_ ?_
  · exact fun F h y hy=>leaDec_ok F h y hy
  · rintro ⟨s,i⟩ K H
    obtain ⟨hc,H⟩:=need_holds H
    rw [Bool.and_eq_true] at hc
    obtain ⟨hk,hi⟩:=hc
    obtain ⟨htk,hz,h255,hi⟩:=odt hi
    dsimp only at hk htk hz h255 hi H
    have hout:i=s.tks.toNat→Round (fun y=>leaF y.1 y.2) (fun y=>leaH y.1 0) leaT (fun y=>y.1.tks.toNat - y.2) 0 (s,i) K (.exit 0,leaF s i,leaH s 0):=by
      intro he
      have h:=H
      rw [← he,Nat.sub_self] at h
      exact h
    have hnext:i<s.tks.toNat→∀ s',leaN s=s'→Round (fun y=>leaF y.1 y.2) (fun y=>leaH y.1 0) leaT (fun y=>y.1.tks.toNat - y.2) 0 (s,i) K (.normal,leaF s' (i+1),leaH s' 0):=by
      rintro hlt _ rfl
      have e1:(leaN s).tks=s.tks:=by unfold leaN; cases dueB s.ne (s.tk+1) <;> rfl
      have e2:(leaN s).tk=s.tk+1:=by unfold leaN; cases dueB s.ne (s.tk+1) <;> rfl
      refine ⟨(leaN s,i+1),⟨rfl,rfl⟩,by show (leaN s).tks.toNat - (i+1)<s.tks.toNat - i; rw [e1]; omega,?_⟩
      unfold leaT
      refine ⟨fun _=>?_,fun hf=>absurd ?_ (Bool.eq_false_iff.1 hf)⟩
      · have h:=H
        dsimp only
        rw [e1]
        rw [show s.tks.toNat - i=(s.tks.toNat - (i+1))+1 by omega] at h
        exact h
      · dsimp only
        rw [lea_keep hk (by omega),Bool.true_and]
        exact det ⟨by rw [e2]; omega,by rw [e1]; exact hz,by rw [e1]; exact h255,by rw [e1]; omega⟩
    clear H
    obtain ⟨k1,k2,⟨k3,k4⟩,⟨k5,k6⟩,k7,k8,k9⟩:=(leaK_iff s).1 hk
    have hec:0≤s.ec∧s.ec≤1048576:=lis_ec k1
    have hlo:=(fitsB_iff _ _ _ _ _ _ _).1 ((lisW_iff _).1 k1).1
    have hlo:1≤s.lo∧s.lo≤1000:=hlo.2.2.2.2.2.2
    have hid1:0≤s.id∧s.id≤255:=((soundA_iff _).1 ((lisW_iff _).1 k1).2.2.2.2.2.1).2.1
    have hid2:0≤s.id2∧s.id2≤255:=((soundA_iff _).1 ((lisW_iff _).1 k2).2.2.2.2.2.1).2.1
    have hn:neOk s.ec 9 s.ne:=((lisW_iff _).1 k1).2.2.2.2.2.2
    have hN:∀ b,dueB s.ne (s.tk+1)=b→leaN s=bif b then { s with id:=numN s.id,id2:=numN s.id2,ne:=s.tk+1+s.ec,ne2:=s.tk+1+s.ec,tk:=s.tk+1 } else { s with tk:=s.tk+1 }:=by
      rintro _ rfl; rfl
    obtain ⟨tks,tk,mru,mc,mt,mf,wt,ec,lo,id,rq,d,ct,nk,pr,mu,ne,id2,rq2,d2,ct2,nk2,pr2,mu2,ne2⟩:=s
    dsimp only at hk htk hz h255 hi hout hnext k1 k2 k3 k4 k5 k6 k7 k8 k9 hec hlo hid1 hid2 hn hN
    subst k7
    show (roundT leaL (evC _ _ _ _ _ _ (leaF ⟨tks,tk,mru,mc,mt,mf,wt,ec,lo,id,rq,d,ct,nk,pr,mu,ne2,id2,rq2,d2,ct2,nk2,pr2,mu2,ne2⟩ i) (leaH ⟨tks,tk,mru,mc,mt,mf,wt,ec,lo,id,rq,d,ct,nk,pr,mu,ne2,id2,rq2,d2,ct2,nk2,pr2,mu2,ne2⟩ 0))).holds _
    unfold leaL leaF leaH
    rw [lea_body]
    have w1:IntKind.wrap .i64 (tk+1)=tk+1:=i64_id ⟨by omega,by omega⟩
    have w2:IntKind.wrap .i64 tks=tks:=i64_id ⟨by omega,by omega⟩
    have w3:IntKind.wrap .i64 (tk+1+ec)=tk+1+ec:=i64_id ⟨by omega,by omega⟩
    have w4:IntKind.wrap .i64 ((i:Int)+1)=((i+1:Nat):Int):=i64_id ⟨by omega,by omega⟩
    simp only [k5,k6,w1,w2,w3,w4]
    have tt:0≤tk+1∧tk+1≤1099511627776:=by omega
    refine ⟨fun h1=>?_,fun h1=>hout ?_⟩
    rotate_left
    · have:=odf h1; omega
    have h1:=odt h1
    have hlt:i<tks.toNat:=by omega
    refine holds_t_of (on_one (w:=⟨mru,mc,mt,mf,wt,ec,lo,9,id,rq,d,ct,0,nk,7,pr,mu,0,ne2,tk+1,.l [],.l []⟩) k1 tt k3) ⟨fun hd=>⟨fun hl=>?_,fun hl=>?_⟩,fun hd=>?_⟩
    · have:=odt hl; omega
    · obtain ⟨d1,d2'⟩:=(dueB_iff _ _).1 hd
      have hp:=hn.resolve_left d1
      have hn':neOk ec 9 (tk+1+ec):=.inr ⟨rfl,hp.2.1,by omega,by omega⟩
      have p1:(0:Int)≤1∧(1:Int)≤1000:=by decide
      refine holds_t_of (on_one (w:=⟨mru,mc,mt,mf,wt,ec,lo,9,id2,rq2,d2,ct2,0,nk2,9,pr2,mu2,0,ne2,tk+1,.l [],.l []⟩) k2 tt k4) ⟨fun _=>⟨fun hl2=>?_,fun _=>?_⟩,fun hd2=>?_⟩
      · have:=odt hl2; omega
      · refine holds_t_of (on_two (lis_echo (tk':=tk+1) k2 p1 hn') tt (ech_bytes 7).1 k4) (holds_t_of (c9a (numN_rng hid1)) (holds_t_of (on_two (lis_echo (tk':=tk+1) k1 p1 hn') tt (ech_bytes 9).1 k3) (holds_t_of (c9b (numN_rng hid2)) ?_)))
        refine holds_t_of (on_two (lis_echo (tk':=tk+1) k2 p1 hn') tt (ech_bytes 7).2 k4) (holds_t_of (c9c (numN_rng hid2)) (holds_t_of (on_two (lis_echo (tk':=tk+1) k1 p1 hn') tt (ech_bytes 9).2 k3) (holds_t_of (c9d (numN_rng hid1)) ?_)))
        exact hnext hlt _ (hN true hd)
      · rw [hd] at hd2; cases hd2
    · refine holds_t_of (on_one (w:=⟨mru,mc,mt,mf,wt,ec,lo,9,id2,rq2,d2,ct2,0,nk2,9,pr2,mu2,0,ne2,tk+1,.l [],.l []⟩) k2 tt k4) ⟨fun hd2=>?_,fun _=>?_⟩
      · rw [hd] at hd2; cases hd2
      · exact hnext hlt _ (hN false hd)
def lebG (P:Program):List (FuncId×Spec):=[(26,pureS P 26 FTm)]
structure lebX where
  (tk mru mc mt mf wt ec lo id rq:Int)
  d:D
  (ct nk pr mu pe ne id2 rq2:Int)
  d2:D
  (ct2 nk2 pr2 mu2 ne2:Int)
def lebL:Lw:=⟨[2,5,8,16,17],[],3,0,2000,2000⟩
def lebF (a:lebX) (i:Nat):Tm:=⟨127,[(2,.ptr 0 0),(5,.ptr 1 0),(8,zi a.tk),(16,.sc false (.bool false)),(17,zi (i:Int))],[]⟩
def lebH (a:lebX) (i:Nat):Hp:=⟨[(0,[zi a.mru,zi a.mc,zi a.mt,zi a.mf,zi a.wt,zi a.ec,zi a.lo]),(1,[zi 9,zi a.id,zi a.rq,.sl false opS a.d none,zi a.ct,zi 0,zi a.nk,zi 7,zi a.pr,zi a.mu,zi a.pe,zi a.ne]),(2,[zi 9,zi a.id2,zi a.rq2,.sl false opS a.d2 none,zi a.ct2,zi 0,zi a.nk2,zi 9,zi a.pr2,zi a.mu2,zi 0,zi a.ne2])],3,[],0,2000,2000⟩
def lebC:Cs:=⟨127,[(2,.lit (.ptr 0 0)),(5,.lit (.ptr 1 0)),(8,.int .i64),(16,.lit (.sc false (.bool false))),(17,.lit (.sc false (.int .i64 0)))],[(0,[.int .i64,.int .i64,.int .i64,.int .i64,.int .i64,.int .i64,.int .i64]),(1,[.lit (.sc false (.int .i64 9)),.int .i64,.int .i64,.sl opS,.int .i64,.lit (.sc false (.int .i64 0)),.int .i64,.lit (.sc false (.int .i64 7)),.int .i64,.int .i64,.int .i64,.int .i64]),(2,[.lit (.sc false (.int .i64 9)),.int .i64,.int .i64,.sl opS,.int .i64,.lit (.sc false (.int .i64 0)),.int .i64,.lit (.sc false (.int .i64 9)),.int .i64,.int .i64,.lit (.sc false (.int .i64 0)),.int .i64])],3,[],0,2000,2000⟩
noncomputable def lebDec (F:Tm) (h:Hp):Option (lebX×Nat):=match cdS lebC F h with
  | some [v0,v1,v2,v3,v4,v5,v6,v7,v8,v9,v10,v11,v12,v13,v14,v15,v16,v17,v18,v19,v20,v21,v22,v23,v24]=>some (⟨v0.toI,v1.toI,v2.toI,v3.toI,v4.toI,v5.toI,v6.toI,v7.toI,v8.toI,v9.toI,v10,v11.toI,v12.toI,v13.toI,v14.toI,v15.toI,v16.toI,v17.toI,v18.toI,v19,v20.toI,v21.toI,v22.toI,v23.toI,v24.toI⟩,0)
  | _=>none
theorem leb_body (tk:Int) (mru:Int) (mc:Int) (mt:Int) (mf:Int) (wt:Int) (ec:Int) (lo:Int) (id:Int) (rq:Int) (d:D) (ct:Int) (nk:Int) (pr:Int) (mu:Int) (pe:Int) (ne:Int) (id2:Int) (rq2:Int) (d2:D) (ct2:Int) (nk2:Int) (pr2:Int) (mu2:Int) (ne2:Int) (i:Int):roundT (⟨[2,5,8,16,17],[],3,0,2000,2000⟩) (evC Tryz.prog (gam (lebG Tryz.prog)) (lam ([])) 100 5 (loopAt 2 (bodyOf Tryz.prog 5)) (⟨127,[(2,.ptr 0 0),(5,.ptr 1 0),(8,zi tk),(16,.sc false (.bool false)),(17,zi i)],[]⟩) (⟨[(0,[zi mru,zi mc,zi mt,zi mf,zi wt,zi ec,zi lo]),(1,[zi 9,zi id,zi rq,.sl false opS d none,zi ct,zi 0,zi nk,zi 7,zi pr,zi mu,zi pe,zi ne]),(2,[zi 9,zi id2,zi rq2,.sl false opS d2 none,zi ct2,zi 0,zi nk2,zi 9,zi pr2,zi mu2,zi 0,zi ne2])],3,[],0,2000,2000⟩)) =
RT.br (decide (i<IntKind.wrap IntKind.i64 (IntKind.wrap IntKind.i64 (lo+2)*ec))) (RT.br true (RT.br (onB (WkV.mk mru mc mt mf wt ec lo 9 id rq d ct 0 nk 7 pr mu pe ne (IntKind.wrap IntKind.i64 (tk+1)) (D.l []) (D.l []))&&optsB d) (RT.br (dueB ne (IntKind.wrap IntKind.i64 (tk+1))) (RT.br (decide (lo≤pe)) (RT.br false (RT.ok (Ex.normal,(Tm.mk 127 [(2,AV.ptr 0 0),(5,AV.ptr 1 0),(8,zi (IntKind.wrap IntKind.i64 (tk+1))),(16,zb true),(17,zi (IntKind.wrap IntKind.i64 (i+1)))] []),(Hp.mk [(0,[zi mru,zi mc,zi mt,zi mf,zi wt,zi ec,zi lo]),(1,[zi 0,zi id,zi rq,zs zO d,zi ct,zi 0,zi nk,zi (mgV d (mgV d (mgV d 7))),zi pr,zi mu,zi 0,zi 0]),(2,[zi 9,zi id2,zi rq2,zs zO d2,zi ct2,zi 0,zi nk2,zi 9,zi pr2,zi mu2,zi 0,zi ne2])] 3 [] 0 2000 2000))) (RT.br true (RT.ok (Ex.normal,(Tm.mk 127 [(2,AV.ptr 0 0),(5,AV.ptr 1 0),(8,zi (IntKind.wrap IntKind.i64 (tk+1))),(16,zb true),(17,zi (IntKind.wrap IntKind.i64 (i+1)))] []),(Hp.mk [(0,[zi mru,zi mc,zi mt,zi mf,zi wt,zi ec,zi lo]),(1,[zi 0,zi id,zi rq,zs zO d,zi ct,zi 0,zi nk,zi (mgV d (mgV d (mgV d 7))),zi pr,zi mu,zi 0,zi 0]),(2,[zi 9,zi id2,zi rq2,zs zO d2,zi ct2,zi 0,zi nk2,zi 9,zi pr2,zi mu2,zi 0,zi ne2])] 3 [] 0 2000 2000))) (RT.ok (Ex.normal,(Tm.mk 127 [(2,AV.ptr 0 0),(5,AV.ptr 1 0),(8,zi (IntKind.wrap IntKind.i64 (tk+1))),(16,zb false),(17,zi (IntKind.wrap IntKind.i64 (i+1)))] []),(Hp.mk [(0,[zi mru,zi mc,zi mt,zi mf,zi wt,zi ec,zi lo]),(1,[zi 0,zi id,zi rq,zs zO d,zi ct,zi 0,zi nk,zi (mgV d (mgV d (mgV d 7))),zi pr,zi mu,zi 0,zi 0]),(2,[zi 9,zi id2,zi rq2,zs zO d2,zi ct2,zi 0,zi nk2,zi 9,zi pr2,zi mu2,zi 0,zi ne2])] 3 [] 0 2000 2000))))) (RT.ok (Ex.normal,(Tm.mk 127 [(2,AV.ptr 0 0),(5,AV.ptr 1 0),(8,zi (IntKind.wrap IntKind.i64 (tk+1))),(16,zb false),(17,zi (IntKind.wrap IntKind.i64 (i+1)))] []),(Hp.mk [(0,[zi mru,zi mc,zi mt,zi mf,zi wt,zi ec,zi lo]),(1,[zi 9,zi (numN id),zi rq,zs zO d,zi ct,zi 0,zi nk,zi (mgV d 7),zi pr,zi mu,zi (IntKind.wrap IntKind.i64 (pe+1)),zi (IntKind.wrap IntKind.i64 (IntKind.wrap IntKind.i64 (tk+1)+ec))]),(2,[zi 9,zi id2,zi rq2,zs zO d2,zi ct2,zi 0,zi nk2,zi 9,zi pr2,zi mu2,zi 0,zi ne2])] 3 [] 0 2000 2000)))) (RT.ok (Ex.normal,(Tm.mk 127 [(2,AV.ptr 0 0),(5,AV.ptr 1 0),(8,zi (IntKind.wrap IntKind.i64 (tk+1))),(16,zb false),(17,zi (IntKind.wrap IntKind.i64 (i+1)))] []),(Hp.mk [(0,[zi mru,zi mc,zi mt,zi mf,zi wt,zi ec,zi lo]),(1,[zi 9,zi id,zi rq,zs zO d,zi ct,zi 0,zi nk,zi (mgV d 7),zi pr,zi mu,zi pe,zi ne]),(2,[zi 9,zi id2,zi rq2,zs zO d2,zi ct2,zi 0,zi nk2,zi 9,zi pr2,zi mu2,zi 0,zi ne2])] 3 [] 0 2000 2000)))) (RT.bad 329)) (RT.ok (Ex.exit 2,(Tm.mk 127 [(2,AV.ptr 0 0),(5,AV.ptr 1 0),(8,zi tk),(16,zb false),(17,zi i)] []),(Hp.mk [(0,[zi mru,zi mc,zi mt,zi mf,zi wt,zi ec,zi lo]),(1,[zi 9,zi id,zi rq,zs zO d,zi ct,zi 0,zi nk,zi 7,zi pr,zi mu,zi pe,zi ne]),(2,[zi 9,zi id2,zi rq2,zs zO d2,zi ct2,zi 0,zi nk2,zi 9,zi pr2,zi mu2,zi 0,zi ne2])] 3 [] 0 2000 2000)))) (RT.ok (Ex.exit 2,(Tm.mk 127 [(2,AV.ptr 0 0),(5,AV.ptr 1 0),(8,zi tk),(16,zb false),(17,zi i)] []),(Hp.mk [(0,[zi mru,zi mc,zi mt,zi mf,zi wt,zi ec,zi lo]),(1,[zi 9,zi id,zi rq,zs zO d,zi ct,zi 0,zi nk,zi 7,zi pr,zi mu,zi pe,zi ne]),(2,[zi 9,zi id2,zi rq2,zs zO d2,zi ct2,zi 0,zi nk2,zi 9,zi pr2,zi mu2,zi 0,zi ne2])] 3 [] 0 2000 2000))):=by rw [← fvC_eq Tryz.prog (gam (lebG Tryz.prog)) (lam ([])) false 100]; kernel_rfl
structure ledX where
  (tk mru mc mt mf wt ec lo id rq:Int)
  d:D
  (ct nk pr mu id2 rq2:Int)
  d2:D
  (ct2 nk2 pr2 mu2 ne2:Int)
def ledF (a:ledX) (i:Nat):Tm:=⟨127,[(2,.ptr 0 0),(5,.ptr 1 0),(8,zi a.tk),(16,.sc false (.bool true)),(17,zi (i:Int))],[]⟩
def ledH (a:ledX) (i:Nat):Hp:=⟨[(0,[zi a.mru,zi a.mc,zi a.mt,zi a.mf,zi a.wt,zi a.ec,zi a.lo]),(1,[zi 0,zi a.id,zi a.rq,.sl false opS a.d none,zi a.ct,zi 0,zi a.nk,zi 7,zi a.pr,zi a.mu,zi 0,zi 0]),(2,[zi 9,zi a.id2,zi a.rq2,.sl false opS a.d2 none,zi a.ct2,zi 0,zi a.nk2,zi 9,zi a.pr2,zi a.mu2,zi 0,zi a.ne2])],3,[],0,2000,2000⟩
theorem led_body (tk:Int) (mru:Int) (mc:Int) (mt:Int) (mf:Int) (wt:Int) (ec:Int) (lo:Int) (id:Int) (rq:Int) (d:D) (ct:Int) (nk:Int) (pr:Int) (mu:Int) (id2:Int) (rq2:Int) (d2:D) (ct2:Int) (nk2:Int) (pr2:Int) (mu2:Int) (ne2:Int) (i:Int):roundT (⟨[2,5,8,16,17],[],3,0,2000,2000⟩) (evC Tryz.prog (gam (lebG Tryz.prog)) (lam ([])) 100 5 (loopAt 2 (bodyOf Tryz.prog 5)) (⟨127,[(2,.ptr 0 0),(5,.ptr 1 0),(8,zi tk),(16,.sc false (.bool true)),(17,zi i)],[]⟩) (⟨[(0,[zi mru,zi mc,zi mt,zi mf,zi wt,zi ec,zi lo]),(1,[zi 0,zi id,zi rq,.sl false opS d none,zi ct,zi 0,zi nk,zi 7,zi pr,zi mu,zi 0,zi 0]),(2,[zi 9,zi id2,zi rq2,.sl false opS d2 none,zi ct2,zi 0,zi nk2,zi 9,zi pr2,zi mu2,zi 0,zi ne2])],3,[],0,2000,2000⟩)) =
RT.br (decide (i<IntKind.wrap IntKind.i64 (IntKind.wrap IntKind.i64 (lo+2)*ec))) (RT.br false (RT.br (onB (WkV.mk mru mc mt mf wt ec lo 0 id rq d ct 0 nk 7 pr mu 0 0 (IntKind.wrap IntKind.i64 (tk+1)) (D.l []) (D.l []))&&optsB d) (RT.bad 330) (RT.bad 329)) (RT.ok (Ex.exit 2,(Tm.mk 127 [(2,AV.ptr 0 0),(5,AV.ptr 1 0),(8,zi tk),(16,zb true),(17,zi i)] []),(Hp.mk [(0,[zi mru,zi mc,zi mt,zi mf,zi wt,zi ec,zi lo]),(1,[zi 0,zi id,zi rq,zs zO d,zi ct,zi 0,zi nk,zi 7,zi pr,zi mu,zi 0,zi 0]),(2,[zi 9,zi id2,zi rq2,zs zO d2,zi ct2,zi 0,zi nk2,zi 9,zi pr2,zi mu2,zi 0,zi ne2])] 3 [] 0 2000 2000)))) (RT.ok (Ex.exit 2,(Tm.mk 127 [(2,AV.ptr 0 0),(5,AV.ptr 1 0),(8,zi tk),(16,zb true),(17,zi i)] []),(Hp.mk [(0,[zi mru,zi mc,zi mt,zi mf,zi wt,zi ec,zi lo]),(1,[zi 0,zi id,zi rq,zs zO d,zi ct,zi 0,zi nk,zi 7,zi pr,zi mu,zi 0,zi 0]),(2,[zi 9,zi id2,zi rq2,zs zO d2,zi ct2,zi 0,zi nk2,zi 9,zi pr2,zi mu2,zi 0,zi ne2])] 3 [] 0 2000 2000))):=by rw [← fvC_eq Tryz.prog (gam (lebG Tryz.prog)) (lam ([])) false 100]; kernel_rfl
def lebW (s:lebX) (tk:Int):WkV:=⟨s.mru,s.mc,s.mt,s.mf,s.wt,s.ec,s.lo,9,s.id,s.rq,s.d,s.ct,0,s.nk,7,s.pr,s.mu,s.pe,s.ne,tk,.l [],.l []⟩
def lft (s:lebX):Int:=(s.ne - s.tk)+(s.lo - s.pe)*s.ec
def lebN (s:lebX):lebX:=bif dueB s.ne (s.tk+1) then { s with id:=numN s.id,pe:=s.pe+1,ne:=s.tk+1+s.ec,tk:=s.tk+1 } else { s with tk:=s.tk+1 }
def lebD (s:lebX):Bool:=dueB s.ne (s.tk+1)&&decide (s.lo≤s.pe)
def ledO (s:lebX):ledX:=⟨s.tk+1,s.mru,s.mc,s.mt,s.mf,s.wt,s.ec,s.lo,s.id,s.rq,s.d,s.ct,s.nk,s.pr,s.mu,s.id2,s.rq2,s.d2,s.ct2,s.nk2,s.pr2,s.mu2,s.ne2⟩
def lebR:Nat→lebX→Nat→ledX×Nat
  | 0,s,i=>(ledO s,i)
  | m+1,s,i=>bif lebD s then (ledO s,i+1) else lebR m (lebN s) (i+1)
def lebK (s:lebX):Bool:=lisW (lebW s 0)&&(optsB s.d&&(mgV s.d 7==7&&decide (0≤s.tk∧0<s.ec∧s.tk<s.ne∧s.ne≤s.tk+s.ec∧s.pe≤s.lo)))
def lebT:(lebX×Nat) ⊕ (ledX×Nat)→RT Out
  | .inl (s,i)=>need false (lebK s&&decide (s.tk+lft s≤1099511627776∧(i:Int)+lft s≤(s.lo+2)*s.ec)) 210 (.ok (.normal,ledF (lebR (lft s).toNat s i).1 (lebR (lft s).toNat s i).2,ledH (lebR (lft s).toNat s i).1 0))
  | .inr (s,i)=>.ok (.normal,ledF s i,ledH s 0)
def lebDec2 (F:Tm) (h:Hp):Option ((lebX×Nat) ⊕ (ledX×Nat)):=match lebDec F h with | some x=>some (.inl x) | none=>none
def lebLs (P:Program):List (FuncId×Nat×BSpec):=[(5,0,loopS P leaL leaDec leaT),(5,2,loopS P lebL lebDec2 lebT)]
theorem lebDec_0:∀ F h x,lebDec F h=some x→∃ a,x=(a,0)∧F=lebF a 0∧h=lebH a 0:=by
  intro F h x hx
  unfold lebDec at hx
  split at hx
  · rename_i hd
    cases hx
    obtain ⟨h1,h2⟩:=cdS_ok hd
    exact ⟨_,rfl,h1,h2⟩
  · cases hx
theorem lebDec_ok:∀ F h x,lebDec F h=some x→F=lebF x.1 x.2∧h=lebH x.1 x.2:=by
  intro F h x hx
  obtain ⟨a,rfl,h1,h2⟩:=lebDec_0 F h x hx
  exact ⟨h1,h2⟩
def lebF2:(lebX×Nat) ⊕ (ledX×Nat)→Tm
  | .inl (s,i)=>lebF s i
  | .inr (s,i)=>ledF s i
def lebH2:(lebX×Nat) ⊕ (ledX×Nat)→Hp
  | .inl (s,_)=>lebH s 0
  | .inr (s,_)=>ledH s 0
def lebM:(lebX×Nat) ⊕ (ledX×Nat)→Nat
  | .inl (s,_)=>(lft s).toNat+1
  | .inr _=>0
theorem lebK_iff (s:lebX):lebK s=true↔lisW (lebW s 0)=true∧optsB s.d=true∧mgV s.d 7=7∧0≤s.tk∧0<s.ec∧s.tk<s.ne∧s.ne≤s.tk+s.ec∧s.pe≤s.lo:=by
  unfold lebK
  simp only [Bool.and_eq_true,beq_iff_eq,decide_eq_true_eq]
theorem lft_stay {s:lebX} (h:dueB s.ne (s.tk+1)=false):lft (lebN s)=lft s - 1:=by
  unfold lebN
  rw [h]
  show (s.ne - (s.tk+1))+(s.lo - s.pe)*s.ec=(s.ne - s.tk)+(s.lo - s.pe)*s.ec - 1
  omega
theorem lft_echo {s:lebX} (h:dueB s.ne (s.tk+1)=true) (ht:s.tk<s.ne):lft (lebN s)=lft s - 1:=by
  obtain ⟨_,h2⟩:=(dueB_iff _ _).1 h
  unfold lebN
  rw [h]
  show (s.tk+1+s.ec - (s.tk+1))+(s.lo - (s.pe+1))*s.ec=(s.ne - s.tk)+(s.lo - s.pe)*s.ec - 1
  have e:(s.lo - (s.pe+1))*s.ec=(s.lo - s.pe)*s.ec - s.ec:=by
    rw [show s.lo - (s.pe+1)=(s.lo - s.pe) - 1 by omega,Int.sub_mul,Int.one_mul]
  omega
theorem lft_pos {s:lebX} (h1:s.tk<s.ne) (h2:s.pe≤s.lo) (h3:0<s.ec):1≤lft s:=by
  have:0≤(s.lo - s.pe)*s.ec:=Int.mul_nonneg (by omega) (by omega)
  unfold lft
  omega
theorem leb_keep {s:lebX} (h:lebK s=true) (hd:lebD s=false) (ht:s.tk+lft s≤1099511627776):lebK (lebN s)=true∧lft (lebN s)=lft s - 1∧(lebN s).tk=s.tk+1:=by
  obtain ⟨h1,h2,h3,h4,h5,h6,h7,h8⟩:=(lebK_iff s).1 h
  have hp:=lft_pos h6 h8 h5
  have hec:0≤s.ec∧s.ec≤1048576:=lis_ec h1
  have hf:=(fitsB_iff _ _ _ _ _ _ _).1 ((lisW_iff _).1 h1).1
  have hlo:1≤s.lo∧s.lo≤1000:=hf.2.2.2.2.2.2
  have hpe:0≤s.pe∧s.pe≤1000:=((lisW_iff _).1 h1).2.2.2.2.1
  cases hu:dueB s.ne (s.tk+1)
  · refine ⟨?_,lft_stay hu,by unfold lebN; rw [hu]; rfl⟩
    unfold lebN
    rw [hu]
    have:=dueB_off hu
    exact (lebK_iff _).2 ⟨h1,h2,h3,by show 0≤s.tk+1; omega,h5,by show s.tk+1<s.ne; omega,by show s.ne≤s.tk+1+s.ec; omega,h8⟩
  · refine ⟨?_,lft_echo hu h6,by unfold lebN; rw [hu]; rfl⟩
    unfold lebD at hd
    rw [hu,Bool.true_and] at hd
    have hl:=odf hd
    unfold lebN
    rw [hu]
    exact (lebK_iff _).2 ⟨lis_echo h1 (show 0≤s.pe+1∧s.pe+1≤1000 by omega) (show neOk s.ec 9 (s.tk+1+s.ec) from .inr ⟨rfl,h5,by omega,by omega⟩),h2,h3,by show 0≤s.tk+1; omega,h5,by show s.tk+1<s.tk+1+s.ec; omega,Int.le_refl _,by show s.pe+1≤s.lo; omega⟩
theorem lebG_ok:GamL Tryz.prog (lebG Tryz.prog):=⟨ltm_soundF,trivial⟩
theorem leb_loop:LamE Tryz.prog 5 2 (loopS Tryz.prog lebL lebDec2 lebT):=by
  refine loop_in2 (gs:=lebG Tryz.prog) (ls:=[]) mixed lebG_ok trivial _ 2 100 (by kernel_rfl) lebL (mkF:=lebF2) (mkH:=lebH2) lebM ?_ ?_
  · intro F h y hy
    unfold lebDec2 at hy
    split at hy
    · rename_i hd
      cases hy
      exact lebDec_ok F h _ hd
    · cases hy
  · rintro (⟨s,i⟩ | ⟨s,i⟩) K H
    rotate_left
    · obtain ⟨tk,mru,mc,mt,mf,wt,ec,lo,id,rq,d,ct,nk,pr,mu,id2,rq2,d2,ct2,nk2,pr2,mu2,ne2⟩:=s
      have hout:Round lebF2 lebH2 lebT lebM 2 (.inr (⟨tk,mru,mc,mt,mf,wt,ec,lo,id,rq,d,ct,nk,pr,mu,id2,rq2,d2,ct2,nk2,pr2,mu2,ne2⟩,i)) K (.exit 2,ledF ⟨tk,mru,mc,mt,mf,wt,ec,lo,id,rq,d,ct,nk,pr,mu,id2,rq2,d2,ct2,nk2,pr2,mu2,ne2⟩ i,ledH ⟨tk,mru,mc,mt,mf,wt,ec,lo,id,rq,d,ct,nk,pr,mu,id2,rq2,d2,ct2,nk2,pr2,mu2,ne2⟩ 0):=H
      show (roundT lebL (evC _ _ _ _ _ _ (ledF ⟨tk,mru,mc,mt,mf,wt,ec,lo,id,rq,d,ct,nk,pr,mu,id2,rq2,d2,ct2,nk2,pr2,mu2,ne2⟩ i) (ledH ⟨tk,mru,mc,mt,mf,wt,ec,lo,id,rq,d,ct,nk,pr,mu,id2,rq2,d2,ct2,nk2,pr2,mu2,ne2⟩ 0))).holds _
      unfold lebL ledF ledH
      rw [led_body]
      exact ⟨fun _=>⟨fun h=>by (cases h),fun _=>hout⟩,fun _=>hout⟩
    · obtain ⟨hc,H⟩:=need_holds H
      rw [Bool.and_eq_true] at hc
      obtain ⟨hk,hi⟩:=hc
      obtain ⟨ht,hi⟩:=odt hi
      obtain ⟨k1,k2,k3,k4,k5,k6,k7,k8⟩:=(lebK_iff s).1 hk
      have hp:=lft_pos k6 k8 k5
      have hec:0≤s.ec∧s.ec≤1048576:=lis_ec k1
      have hf:=(fitsB_iff _ _ _ _ _ _ _).1 ((lisW_iff _).1 k1).1
      have hlo:1≤s.lo∧s.lo≤1000:=hf.2.2.2.2.2.2
      have hpe:0≤s.pe∧s.pe≤1000:=((lisW_iff _).1 k1).2.2.2.2.1
      obtain ⟨m,hm⟩:∃ m,(lft s).toNat=m+1:=⟨(lft s).toNat - 1,by omega⟩
      have hend:lebD s=true→Round lebF2 lebH2 lebT lebM 2 (.inl (s,i)) K (.normal,ledF (ledO s) (i+1),ledH (ledO s) 0):=by
        intro hd
        refine ⟨.inr (ledO s,i+1),⟨rfl,rfl⟩,Nat.succ_pos _,?_⟩
        have h:=H
        have e:lebR (lft s).toNat s i=(ledO s,i+1):=by rw [hm]; unfold lebR; rw [hd]; rfl
        rw [e] at h
        exact h
      have hnext:lebD s=false→∀ s',lebN s=s'→Round lebF2 lebH2 lebT lebM 2 (.inl (s,i)) K (.normal,lebF s' (i+1),lebH s' 0):=by
        rintro hd _ rfl
        obtain ⟨q1,q2,q3⟩:=leb_keep hk hd ht
        refine ⟨.inl (lebN s,i+1),⟨rfl,rfl⟩,by show (lft (lebN s)).toNat+1<(lft s).toNat+1; rw [q2]; omega,?_⟩
        unfold lebT
        have qe:(lebN s).ec=s.ec∧(lebN s).lo=s.lo:=by unfold lebN; cases dueB s.ne (s.tk+1) <;> exact ⟨rfl,rfl⟩
        refine ⟨fun _=>?_,fun hf=>absurd ?_ (Bool.eq_false_iff.1 hf)⟩
        · have h:=H
          have e:lebR (lft s).toNat s i=lebR (lft (lebN s)).toNat (lebN s) (i+1):=by
            rw [show (lft s).toNat=(lft (lebN s)).toNat+1 by omega]
            show (bif lebD s then _ else _)=_
            rw [hd]; rfl
          rw [e] at h
          exact h
        · rw [q1,Bool.true_and,q2,q3,qe.1,qe.2]
          exact det ⟨by omega,by omega⟩
      clear H
      have hbd:(s.lo+2)*s.ec≤1002*1048576:=Int.mul_le_mul (by omega) hec.2 hec.1 (by decide)
      have hb0:0≤(s.lo+2)*s.ec:=Int.mul_nonneg (by omega) hec.1
      have hD:∀ b1 b2,dueB s.ne (s.tk+1)=b1→decide (s.lo≤s.pe)=b2→lebD s=(b1&&b2):=by rintro _ _ rfl rfl; rfl
      have hN:∀ b,dueB s.ne (s.tk+1)=b→lebN s=bif b then { s with id:=numN s.id,pe:=s.pe+1,ne:=s.tk+1+s.ec,tk:=s.tk+1 } else { s with tk:=s.tk+1 }:=by
        rintro _ rfl; rfl
      obtain ⟨tk,mru,mc,mt,mf,wt,ec,lo,id,rq,d,ct,nk,pr,mu,pe,ne,id2,rq2,d2,ct2,nk2,pr2,mu2,ne2⟩:=s
      dsimp only at hend hnext k1 k2 k3 k4 k5 k6 k7 k8 hec hlo hpe hbd hb0 hD hN hi ht
      show (roundT lebL (evC _ _ _ _ _ _ (lebF ⟨tk,mru,mc,mt,mf,wt,ec,lo,id,rq,d,ct,nk,pr,mu,pe,ne,id2,rq2,d2,ct2,nk2,pr2,mu2,ne2⟩ i) (lebH ⟨tk,mru,mc,mt,mf,wt,ec,lo,id,rq,d,ct,nk,pr,mu,pe,ne,id2,rq2,d2,ct2,nk2,pr2,mu2,ne2⟩ 0))).holds _
      unfold lebL lebF lebH
      rw [leb_body]
      have w1:IntKind.wrap .i64 (tk+1)=tk+1:=i64_id ⟨by omega,by omega⟩
      have w2:IntKind.wrap .i64 (lo+2)=lo+2:=i64_id ⟨by omega,by omega⟩
      have w3:IntKind.wrap .i64 (tk+1+ec)=tk+1+ec:=i64_id ⟨by omega,by omega⟩
      have w4:IntKind.wrap .i64 ((i:Int)+1)=((i+1:Nat):Int):=i64_id ⟨by omega,by omega⟩
      have w5:IntKind.wrap .i64 ((lo+2)*ec)=(lo+2)*ec:=i64_id ⟨hb0,by omega⟩
      have w6:IntKind.wrap .i64 (pe+1)=pe+1:=i64_id ⟨by omega,by omega⟩
      simp only [k3,w1,w2,w3,w4,w5,w6]
      have tt:0≤tk+1∧tk+1≤1099511627776:=by omega
      refine ⟨fun h1=>?_,fun h1=>absurd (show (i:Int)<(lo+2)*ec by omega) (odf h1)⟩
      refine holds_t (holds_t_of (on_one (w:=⟨mru,mc,mt,mf,wt,ec,lo,9,id,rq,d,ct,0,nk,7,pr,mu,pe,ne,tk+1,.l [],.l []⟩) k1 tt k2) ⟨fun hd=>⟨fun hl=>⟨fun h=>by (cases h),fun _=>holds_t (hend (hD true true hd hl))⟩,fun hl=>hnext (hD true false hd hl) _ (hN true hd)⟩,fun hd=>hnext (hD false _ hd rfl) _ (hN false hd)⟩)
def leG (P:Program):List (FuncId×Spec):=[(22,pureS P 22 FGd),(25,pureS P 25 FOpn),(18,pureS P 18 FNextL),(21,pureS P 21 (Fone mAwkK mAwkR))]
def echo_treeT (a b c e f g h k:Int):RT AV :=
let w_0:=leaR (Int.toNat k - 0) (leaX.mk k 0 (gd 128 1365 a) (gd 1 9 b) (gd 1 4 c) (gd 2 5 e) (gd 1 9 f) (gd0 12 g) (gd 1 4 h) 1 1 (asksD (gd 128 1365 a) 7) (gd 1 9 b) 0 9 (gd 128 1365 a) (neO (gd0 12 g)) 1 1 (asksD (gd 128 1365 a) 9) (gd 1 9 b) 0 7 (gd 128 1365 a) (neO (gd0 12 g))); RT.br (fitsB (gd 128 1365 a) (gd 1 9 b) (gd 1 4 c) (gd 2 5 e) (gd 1 9 f) (gd0 12 g) (gd 1 4 h)) (RT.br (leaK (leaX.mk k 0 (gd 128 1365 a) (gd 1 9 b) (gd 1 4 c) (gd 2 5 e) (gd 1 9 f) (gd0 12 g) (gd 1 4 h) 1 1 (asksD (gd 128 1365 a) 7) (gd 1 9 b) 0 9 (gd 128 1365 a) (neO (gd0 12 g)) 1 1 (asksD (gd 128 1365 a) 9) (gd 1 9 b) 0 7 (gd 128 1365 a) (neO (gd0 12 g)))&&leaI (leaX.mk k 0 (gd 128 1365 a) (gd 1 9 b) (gd 1 4 c) (gd 2 5 e) (gd 1 9 f) (gd0 12 g) (gd 1 4 h) 1 1 (asksD (gd 128 1365 a) 7) (gd 1 9 b) 0 9 (gd 128 1365 a) (neO (gd0 12 g)) 1 1 (asksD (gd 128 1365 a) 9) (gd 1 9 b) 0 7 (gd 128 1365 a) (neO (gd0 12 g))) 0) (RT.br (leaX.ec w_0==0) (RT.br (nextI 0 w_0.ne==0) (RT.ok (AV.sc true (Value.bool true))) (RT.ok (AV.sc true (Value.bool false)))) (RT.br (lebK (lebX.mk w_0.tk w_0.mru w_0.mc w_0.mt w_0.mf w_0.wt w_0.ec w_0.lo w_0.id w_0.rq w_0.d w_0.ct w_0.nk w_0.pr w_0.mu 0 w_0.ne w_0.id2 w_0.rq2 w_0.d2 w_0.ct2 w_0.nk2 w_0.pr2 w_0.mu2 w_0.ne2)&&decide (leaX.tk w_0+lft (lebX.mk w_0.tk w_0.mru w_0.mc w_0.mt w_0.mf w_0.wt w_0.ec w_0.lo w_0.id w_0.rq w_0.d w_0.ct w_0.nk w_0.pr w_0.mu 0 w_0.ne w_0.id2 w_0.rq2 w_0.d2 w_0.ct2 w_0.nk2 w_0.pr2 w_0.mu2 w_0.ne2)≤1099511627776∧0+lft (lebX.mk w_0.tk w_0.mru w_0.mc w_0.mt w_0.mf w_0.wt w_0.ec w_0.lo w_0.id w_0.rq w_0.d w_0.ct w_0.nk w_0.pr w_0.mu 0 w_0.ne w_0.id2 w_0.rq2 w_0.d2 w_0.ct2 w_0.nk2 w_0.pr2 w_0.mu2 w_0.ne2)≤(leaX.lo w_0+2)*leaX.ec w_0)) (RT.br true (RT.br true (RT.br true (RT.ok (AV.sc true (Value.bool true))) (RT.ok (AV.sc true (Value.bool false)))) (RT.ok (AV.sc true (Value.bool false)))) (RT.ok (AV.sc true (Value.bool false)))) (RT.bad 210))) (RT.bad 210)) (RT.bad 334)
theorem echo_tree (a b c e f g h k:Int):treeF (evF Tryz.prog (gam (leG Tryz.prog)) (lam (lebLs Tryz.prog)) 100 5) [cfgA a b c e f g h,.sc false (.int .u8 k)]=echo_treeT a b c e f g h k:=by rw [← fvF_eq Tryz.prog (gam (leG Tryz.prog)) (lam (lebLs Tryz.prog)) false 100 5]; kernel_rfl
theorem leaN_conf (s:leaX):(leaN s).ec=s.ec∧(leaN s).lo=s.lo∧(leaN s).tk=s.tk+1:=by
  unfold leaN
  cases dueB s.ne (s.tk+1) <;> exact ⟨rfl,rfl,rfl⟩
theorem leaR_keep:∀ (m:Nat) (s:leaX),leaK s=true→s.tk+m≤256→leaK (leaR m s)=true∧(leaR m s).tk=s.tk+m∧(leaR m s).ec=s.ec∧(leaR m s).lo=s.lo
  | 0,s,h,_=>⟨h,by show s.tk=s.tk+0; omega,rfl,rfl⟩
  | m+1,s,h,ht=>by
    obtain ⟨c1,c2,c3⟩:=leaN_conf s
    obtain ⟨h1,h2,h3,h4⟩:=leaR_keep m (leaN s) (lea_keep h (by omega)) (by rw [c3]; omega)
    exact ⟨h1,by show (leaR m (leaN s)).tk=_; rw [h2,c3]; omega,h3.trans c1,h4.trans c2⟩
theorem neO_rng {g:Int} (h:0≤g∧g≤1048576):(g=0∧neO g=0)∨(0<g∧neO g=g):=by
  unfold neO
  by_cases h0:0<g
  · rw [det h0,cond_true,i64_id ⟨by omega,by omega⟩]
    exact .inr ⟨h0,by omega⟩
  · rw [def_ h0]
    exact .inl ⟨by omega,rfl⟩
theorem open_sound {a b m:Int} (hb:1≤b∧b≤1000):soundA ⟨9,1,1,asksD a m,b,0,0⟩=true :=
  asks_sound ⟨by decide,by decide⟩ ⟨by decide,by decide⟩ ⟨by decide,by decide⟩ ⟨by omega,hb.2⟩ ⟨by decide,by decide⟩ (.inr ⟨by decide,rfl⟩)
theorem echo_true (a b c e f g h k:Int) (hk:0≤k∧k≤255) :
    Tru (treeF (evF Tryz.prog (gam (leG Tryz.prog)) (lam (lebLs Tryz.prog)) 100 5) [cfgA a b c e f g h,.sc false (.int .u8 k)]):=by
  rw [echo_tree]
  constructor
  have hL:Le (.sc true (.bool true)) (.sc false (.bool true)):=le_bool rfl
  have G:=gd_fits (a:=a) (b:=b) (c:=c) (e:=e) (f:=f) (g:=g) (h:=h) (m:=7) ⟨by decide,by decide⟩
  unfold echo_treeT
  have hg:=gd0_rng (md:=12) (x:=g) ⟨by decide,by decide⟩
  have hh:=gd_rng (lo:=1) (md:=4) (x:=h) ⟨by decide,by decide⟩ ⟨by decide,by decide⟩
  generalize gd 128 1365 a=a at G ⊢
  generalize gd 1 9 b=b at G ⊢
  generalize gd 1 4 c=c at G ⊢
  generalize gd 2 5 e=e at G ⊢
  generalize gd 1 9 f=f at G ⊢
  generalize gd0 12 g=g at G hg ⊢
  generalize gd 1 4 h=h at G hh ⊢
  have hn:=neO_rng (g:=g) ⟨by omega,by omega⟩
  have ha:=G.ha
  have L:∀ m p,(1≤m∧m≤4294967295)→(0≤p∧p≤4294967295)→lisW ⟨a,b,c,e,f,g,h,9,1,1,asksD a m,b,0,0,m,p,a,0,neO g,0,.l [],.l []⟩=true:=fun m p hm hp =>
    (lisW_iff _).2 ⟨G.hf,hm,hp,ha,⟨Int.le_refl _,(show (0:Int)≤1000 by decide)⟩,open_sound G.hb,by
      rcases hn with ⟨h1,h2⟩ | ⟨h1,h2⟩
      · exact .inl h2
      · exact .inr ⟨rfl,h1,by show 1≤neO g; omega,by show neO g≤1099512676352; omega⟩⟩
  have K0:leaK ⟨k,0,a,b,c,e,f,g,h,1,1,asksD a 7,b,0,9,a,neO g,1,1,asksD a 9,b,0,7,a,neO g⟩=true :=
    (leaK_iff _).2 ⟨L 7 9 ⟨by decide,by decide⟩ ⟨by decide,by decide⟩,L 9 7 ⟨by decide,by decide⟩ ⟨by decide,by decide⟩,⟨asks_by a 7,asks_by a 9⟩,⟨mg_own ⟨by decide,by decide⟩,mg_own ⟨by decide,by decide⟩⟩,rfl,Int.le_refl _,by
      show g=0∨((0:Int)<neO g∧neO g≤0+g)
      omega⟩
  have I0:leaI ⟨k,0,a,b,c,e,f,g,h,1,1,asksD a 7,b,0,9,a,neO g,1,1,asksD a 9,b,0,7,a,neO g⟩ 0=true:=det ⟨rfl,hk.1,hk.2,Nat.zero_le _⟩
  obtain ⟨K1,t1,e1,l1⟩:=leaR_keep (k.toNat - 0) _ K0 (by show (0:Int)+((k.toNat - 0:Nat):Int)≤256; omega)
  extract_lets w0
  have K1:leaK w0=true:=K1
  have t1:w0.tk=0+((k.toNat - 0:Nat):Int):=t1
  have e1:w0.ec=g:=e1
  have l1:w0.lo=h:=l1
  clear_value w0
  obtain ⟨k1,k2,⟨k3,k4⟩,⟨k5,k6⟩,k7,k8,k9⟩:=(leaK_iff w0).1 K1
  have hne:neOk w0.ec 9 w0.ne:=((lisW_iff _).1 k1).2.2.2.2.2.2
  refine holds_t_of G.hf (holds_t_of (by rw [K0,I0]; rfl) ⟨fun h0=>?_,fun h0=>?_⟩)
  · have h0:w0.ec=0:=eq_of_beq h0
    have hz:w0.ne=0:=by
      rcases hne with h | ⟨_,h,_⟩
      · exact h
      · omega
    have hN:(nextI 0 w0.ne==0)=true:=by rw [hz]; rfl
    exact holds_t_of hN hL
  · rw [beq_eq_false_iff_ne] at h0
    have h9:=k9.resolve_left h0
    have hec:0<w0.ec:=by omega
    have K2:lebK ⟨w0.tk,w0.mru,w0.mc,w0.mt,w0.mf,w0.wt,w0.ec,w0.lo,w0.id,w0.rq,w0.d,w0.ct,w0.nk,w0.pr,w0.mu,0,w0.ne,w0.id2,w0.rq2,w0.d2,w0.ct2,w0.nk2,w0.pr2,w0.mu2,w0.ne2⟩=true :=
      (lebK_iff _).2 ⟨k1,k3,k5,k8,hec,h9.1,h9.2,by show (0:Int)≤w0.lo; omega⟩
    have hl:lft ⟨w0.tk,w0.mru,w0.mc,w0.mt,w0.mf,w0.wt,w0.ec,w0.lo,w0.id,w0.rq,w0.d,w0.ct,w0.nk,w0.pr,w0.mu,0,w0.ne,w0.id2,w0.rq2,w0.d2,w0.ct2,w0.nk2,w0.pr2,w0.mu2,w0.ne2⟩=(w0.ne - w0.tk)+(w0.lo - 0)*w0.ec:=rfl
    have hm1:(w0.lo - 0)*w0.ec≤10*20:=Int.mul_le_mul (by omega) (by omega) (by omega) (by decide)
    have hm2:(w0.lo+2)*w0.ec=w0.lo*w0.ec+2*w0.ec:=Int.add_mul _ _ _
    have hm3:(w0.lo - 0)*w0.ec=w0.lo*w0.ec:=by rw [Int.sub_zero]
    refine holds_t_of ?_ (holds_t (holds_t (holds_t hL)))
    rw [K2,Bool.true_and,hl]
    exact det ⟨by omega,by omega⟩
theorem echo_soundF:SoundF Tryz.prog 5 (evF Tryz.prog (gam (leG Tryz.prog)) (lam (lebLs Tryz.prog)) 100 5) :=
  evF_ok mixed (gam_ok (l:=leG Tryz.prog) ⟨good_soundF,opn_soundF,lnext_soundF,awk_soundF,trivial⟩) (lam_ok (l:=lebLs Tryz.prog) ⟨lea_loop,leb_loop,trivial⟩) 100 _
theorem echo_any {A:List AV} {a b c e f g h k:Int} (hA:A=[cfgA a b c e f g h,.sc false (.int .u8 k)]) (hk:0≤k∧k≤255) :
    Tru (treeF (evF Tryz.prog (gam (leG Tryz.prog)) (lam (lebLs Tryz.prog)) 100 5) A):=by
  subst hA
  exact echo_true a b c e f g h k hk
theorem u8_rng {m:Int} (h:IntKind.u8.min≤m∧m≤IntKind.u8.max):0≤m∧m≤255:=by
  have e1:IntKind.u8.min=0:=by decide
  have e2:IntKind.u8.max=255:=by decide
  omega
theorem echo_join (x0_0 x0_1 x0_2 x0_3 x0_4 x0_5 x0_6 x1_0:D) (_:wfL [.int .i64,.int .i64,.int .i64,.int .i64,.int .i64,.int .i64,.int .i64] [x0_0,x0_1,x0_2,x0_3,x0_4,x0_5,x0_6]) (g1:wfL [.int .u8] [x1_0]) :
    Tru (treeF (evF Tryz.prog (gam (leG Tryz.prog)) (lam (lebLs Tryz.prog)) 100 5) [.agg (avL [.int .i64,.int .i64,.int .i64,.int .i64,.int .i64,.int .i64,.int .i64] [x0_0,x0_1,x0_2,x0_3,x0_4,x0_5,x0_6]),leaf false (.int .u8) x1_0]) :=
  echo_any (show ([.agg (avL [.int .i64,.int .i64,.int .i64,.int .i64,.int .i64,.int .i64,.int .i64] [x0_0,x0_1,x0_2,x0_3,x0_4,x0_5,x0_6]),leaf false (.int .u8) x1_0]:List AV)=[cfgA x0_0.toI x0_1.toI x0_2.toI x0_3.toI x0_4.toI x0_5.toI x0_6.toI,.sc false (.int .u8 x1_0.toI)] from rfl) (u8_rng g1.1)
end
end Go.Proofs.YtcambhbmobepjaaGreat
