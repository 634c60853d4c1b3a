/- Mm, 4: texts of this claim, one behind the other: Kj5 Kj6 Kj7 Kt1 Kj8 Kj9 Kk1 Kk2 Kk3 Kk4 Kl1 Kl2 Kl3 EvT EvX Km1 Km2 Km3 Km4 Km5 EvV Km6 Km7 Km8 Km9 Kn1 Kn2 Kn3 EvW. No condition. -/
import Derived.Test.YtbgmclbcjdbcmaaGreatMm3
namespace Go.Proofs.YtbgmclbcjdbcmaaGreat
set_option linter.unusedSimpArgs false
set_option linter.unusedVariables false
open Go.RowKit
set_option maxRecDepth 100000
noncomputable section
abbrev ctS:List Sh:=[.int .i64,.int .i64,.sl [.int .u8]]
def strL:List (FuncId×Nat×BSpec):=[(264,2000,badB)]
def doG (P:Program):List (FuncId×Spec):=(116,pureS P 116 FHas) :: (288,pureS P 288 FRej7) :: (162,pureS P 162 FCloneB) :: encG P
structure DoX where
  r0:D
  (mc0 mt0 mf0 wt0 st0 id0 rq0:Int)
  d0:D
  (ct0 tm0 nk0 ic0 ii0:Int)
  ix0:D
  (ac0 ax0:Int)
  ad0:D
  s0:Int
  did0:D
structure DoC where
  r:D
  (mc mt mf wt s:Int)
  d:D
  (ic ii:Int)
  ix:D
  (ac ax:Int)
  ad:D
  tk:Int
  (didr did:D)
structure DoV where
  (id rq ct tm nk:Int)
  out:D
def doL:Lw:=⟨[12,13,14,15,16,18,19,56,57,58],[(true,5,20, 85)],6,1,1000,1000⟩
def doF (x:DoX) (c:DoC) (n i:Int):Tm:=⟨82,[(12,.ptr 4 0),(13,.sc false (.slice none 0 0)),(14,.sc false (.slice none 0 0)),(15,zi x.s0),(16,.sl false [.int .i64] x.did0 none),(18,.ptr 5 0),(19,.fn (.func 207) [.ptr 5 0] []),(56,.sl false [.int .i64] c.did none),(57,ai n),(58,ai i)],[]⟩
def doH (x:DoX) (c:DoC) (v:DoV):Hp:=⟨[(0,[.sl false [.int .i64,.int .i64,.int .i64,.int .i64,.int .i64,.int .i64,.bool] x.r0 none,zi x.mc0,zi x.mt0,zi x.mf0,zi x.wt0]),(1,[zi x.st0,zi x.id0,zi x.rq0,.sl false [.int .i64,.sl [.int .u8]] x.d0 none,zi x.ct0,zi x.tm0,zi x.nk0]),(2,[zi x.ic0,zi x.ii0,.sl false [.int .u8] x.ix0 none]),(3,[zi x.ac0,zi x.ax0,.sl false [.int .u8] x.ad0 none]),(4,[zi 0,zi 0,zi 0,.sc false (.slice none 0 0),zi 0,zi 0,zi 0]),(5,[.sl false [.int .i64,.int .i64,.int .i64,.int .i64,.int .i64,.int .i64,.bool] c.r none,zi c.mc,zi c.mt,zi c.mf,zi c.wt,zi c.s,zi v.id,zi v.rq,.sl false [.int .i64,.sl [.int .u8]] c.d none,zi v.ct,zi v.tm,zi v.nk,zi c.ic,zi c.ii,.sl false [.int .u8] c.ix none,zi c.ac,zi c.ax,.sl false [.int .u8] c.ad none,zi c.tk,.sl false [.int .i64] c.didr none,.sl false [.int .i64,.int .i64,.sl [.int .u8]] v.out (some (0,1000))])],6,[(0,1000, 85)],1,1001,1000⟩
def nDec:AV→Option Int
  | .sc false (.int .i64 x)=>some x
  | _=>none
def aDec:AV→Option D
  | .sl false [.int .i64] d none=>some d
  | _=>none
def oDec:AV→Option Unit
  | .sl false [.int .i64,.int .i64,.sl [.int .u8]] (.l []) (some (0,1000))=>some ()
  | _=>none
def cfDec:List AV→Option (D×Int×Int×Int×Int)
  | [.sl false [.int .i64,.int .i64,.int .i64,.int .i64,.int .i64,.int .i64,.bool] r none,.sc false (.int .i64 a),.sc false (.int .i64 b),.sc false (.int .i64 c),.sc false (.int .i64 d)]=>some (r,a,b,c,d)
  | _=>none
def auDec:List AV→Option (Int×Int×Int×D×Int×Int×Int)
  | [.sc false (.int .i64 st),.sc false (.int .i64 id),.sc false (.int .i64 rq),.sl false [.int .i64,.sl [.int .u8]] d none,.sc false (.int .i64 ct),.sc false (.int .i64 tm),.sc false (.int .i64 nk)]=>some (st,id,rq,d,ct,tm,nk)
  | _=>none
def ctDec:List AV→Option (Int×Int×D)
  | [.sc false (.int .i64 c),.sc false (.int .i64 i),.sl false [.int .u8] x none]=>some (c,i,x)
  | _=>none
def zDec:List AV→Option Unit
  | [.sc false (.int .i64 0),.sc false (.int .i64 0),.sc false (.int .i64 0),.sc false (.slice none 0 0),.sc false (.int .i64 0),.sc false (.int .i64 0),.sc false (.int .i64 0)]=>some ()
  | _=>none
def tmDec:Tm→Option (Int×D×D×Int)
  | ⟨82,[(12,.ptr 4 0),(13,.sc false (.slice none 0 0)),(14,.sc false (.slice none 0 0)),(15,c15),(16,c16),(18,.ptr 5 0),(19,.fn (.func 207) [.ptr 5 0] []),(56,c56),(57,c57),(58,.sc false (.int .i64 0))],[]⟩ =>
    (nDec c15).bind fun s0=>(aDec c16).bind fun did0=>(aDec c56).bind fun did=>(nDec c57).bind fun n=>some (s0,did0,did,n)
  | _=>none
def ruDec:List AV→Option ((D×Int×Int×Int×Int)×(Int×Int×Int×D×Int×Int×Int)×(Int×Int×D)×(Int×Int×D)×Int×D)
  | [c0,c1,c2,c3,c4,c5,c6,c7,c8,c9,c10,c11,c12,c13,c14,c15,c16,c17,c18,c19,c20] =>
    (cfDec [c0,c1,c2,c3,c4]).bind fun a=>(auDec [c5,c6,c7,c8,c9,c10,c11]).bind fun b=>(ctDec [c12,c13,c14]).bind fun c=>(ctDec [c15,c16,c17]).bind fun d=>(nDec c18).bind fun e=>(aDec c19).bind fun f=>(oDec c20).bind fun _=>some (a,b,c,d,e,f)
  | _=>none
def hpDec:Hp→Option ((D×Int×Int×Int×Int)×(Int×Int×Int×D×Int×Int×Int)×(Int×Int×D)×(Int×Int×D)×((D×Int×Int×Int×Int)×(Int×Int×Int×D×Int×Int×Int)×(Int×Int×D)×(Int×Int×D)×Int×D))
  | ⟨[(0,o0),(1,o1),(2,o2),(3,o3),(4,o4),(5,o5)],6,[(0,1000, 85)],1,1001,1000⟩ =>
    (cfDec o0).bind fun a=>(auDec o1).bind fun b=>(ctDec o2).bind fun c=>(ctDec o3).bind fun d=>(zDec o4).bind fun _=>(ruDec o5).bind fun e=>some (a,b,c,d,e)
  | _=>none
def doDec (F:Tm) (h:Hp):Option (DoX×DoC×DoV×Int×Nat):=(tmDec F).bind fun t=>(hpDec h).bind fun y=>some
  (⟨y.1.1,y.1.2.1,y.1.2.2.1,y.1.2.2.2.1,y.1.2.2.2.2,y.2.1.1,y.2.1.2.1,y.2.1.2.2.1,y.2.1.2.2.2.1,y.2.1.2.2.2.2.1,y.2.1.2.2.2.2.2.1,y.2.1.2.2.2.2.2.2,y.2.2.1.1,y.2.2.1.2.1,y.2.2.1.2.2,y.2.2.2.1.1,y.2.2.2.1.2.1,y.2.2.2.1.2.2,t.1,t.2.1⟩,
   ⟨y.2.2.2.2.1.1,y.2.2.2.2.1.2.1,y.2.2.2.2.1.2.2.1,y.2.2.2.2.1.2.2.2.1,y.2.2.2.2.1.2.2.2.2,y.2.2.2.2.2.1.1,y.2.2.2.2.2.1.2.2.2.1,y.2.2.2.2.2.2.1.1,y.2.2.2.2.2.2.1.2.1,y.2.2.2.2.2.2.1.2.2,y.2.2.2.2.2.2.2.1.1,y.2.2.2.2.2.2.2.1.2.1,y.2.2.2.2.2.2.2.1.2.2,y.2.2.2.2.2.2.2.2.1,y.2.2.2.2.2.2.2.2.2,t.2.2.1⟩,
   ⟨y.2.2.2.2.2.1.2.1,y.2.2.2.2.2.1.2.2.1,y.2.2.2.2.2.1.2.2.2.2.1,y.2.2.2.2.2.1.2.2.2.2.2.1,y.2.2.2.2.2.1.2.2.2.2.2.2,.l []⟩,t.2.2.2,0)
def numN (id:Int):Int:=Int.tmod (IntKind.wrap .i64 (id+1)) 256
def cntN (ct:Int):Int:=imax (IntKind.wrap .i64 (ct - 1)) 0
def putO (v:D) (a b:D) (x:D):D:=v.app (.l [.t [a,b,x]])
def actF (c:DoC) (a:Int) (v:DoV):DoV :=
  bif a==5 then ⟨v.id,v.rq,bif hasA c.didr 10 then c.mt else c.mc,v.tm,v.nk,v.out⟩
  else bif a==6 then ⟨v.id,v.rq,0,IntKind.wrap .i64 (c.tk+c.wt),v.nk,v.out⟩
  else bif a==7 then ⟨numN v.id,numN v.id,cntN v.ct,IntKind.wrap .i64 (c.tk+c.wt),v.nk,putO v.out (.ki 1) (.i (numN v.id)) (encO c.d)⟩
  else bif a==8 then ⟨v.id,v.rq,v.ct,v.tm,0,putO v.out (.i c.ac) (.i c.ax) c.ad⟩
  else bif a==9 then ⟨v.id,v.rq,v.ct,v.tm,bif c.ac==3 then imin (IntKind.wrap .i64 (v.nk+1)) 1000 else v.nk,putO v.out (.i c.ac) (.i c.ax) c.ad⟩
  else bif a==10 then ⟨numN v.id,v.rq,cntN v.ct,IntKind.wrap .i64 (c.tk+c.wt),v.nk,putO v.out (.ki 5) (.i (numN v.id)) (.kl [])⟩
  else bif a==11 then ⟨v.id,v.rq,v.ct,v.tm,v.nk,putO v.out (.ki 6) (.i c.ii) (.kl [])⟩
  else bif a==12 then ⟨numN v.id,v.rq,v.ct,v.tm,v.nk,bif rej7E c.ic c.ii c.ix (numN v.id)==0 then putO v.out (.i (rej7C (rej7E c.ic c.ii c.ix (numN v.id)) 7)) (.i (rej7C (rej7E c.ic c.ii c.ix (numN v.id)) (numN v.id))) (rej7D c.ic c.ii c.ix (numN v.id)) else v.out⟩
  else bif a==13 then ⟨v.id,v.rq,v.ct,v.tm,v.nk,putO v.out (.i c.ac) (.i c.ax) c.ad⟩
  else v
def actsF (c:DoC) (did:D):Nat→Nat→DoV→DoV
  | 0,_,v=>v
  | m+1,i,v=>actsF c did m (i+1) (actF c ((did.get i).cell 0).toI v)
def doT (y:DoX×DoC×DoV×Int×Nat):RT Out:=need false (decide (y.2.2.2.1=(y.2.1.did.len:Int)∧y.2.2.2.2≤y.2.1.did.len∧y.2.1.did.len≤8∧y.2.2.1.out.len≤y.2.2.2.2)) 210 (.ok (.normal,doF y.1 y.2.1 y.2.2.2.1 y.2.1.did.len,doH y.1 y.2.1 (actsF y.2.1 y.2.1.did (y.2.1.did.len - y.2.2.2.2) y.2.2.2.2 y.2.2.1)))
def doLs (P:Program):List (FuncId×Nat×BSpec):=(164,0,loopS P doL doDec doT) :: strL
abbrev do_body_1 (r0:D) (mc0 mt0 mf0 wt0 st0 id0 rq0:Int) (d0:D) (ct0 tm0 nk0 ic0 ii0:Int) (ix0:D) (ac0 ax0:Int) (ad0:D) (s0:Int) (did0 r:D) (mc mt mf wt s:Int) (d:D) (ic ii:Int) (ix:D) (ac ax:Int) (ad:D) (tk:Int) (didr did:D) (id rq ct tm nk:Int) (out:D) (n i:Int):=RT.all (RT.br (rej7E ic ii ix (Int.tmod (IntKind.wrap IntKind.i64 (id+1)) 256)==0) (RT.br (decide ((D.len out+1)*40≤140737488355328)) (RT.ok (Ex.normal,(Tm.mk 82 [(12,AV.ptr 4 0),(13,zy),(14,zy),(15,zi s0),(16,zs zN did0),(18,AV.ptr 5 0),(19,AV.fn (Fn.func 207) [AV.ptr 5 0] []),(56,zs zN did),(57,zi n),(58,zi (IntKind.wrap IntKind.i64 (i+1)))] []),(Hp.mk [(0,[zs zR r0,zi mc0,zi mt0,zi mf0,zi wt0]),(1,[zi st0,zi id0,zi rq0,zs zO d0,zi ct0,zi tm0,zi nk0]),(2,[zi ic0,zi ii0,zs zU ix0]),(3,[zi ac0,zi ax0,zs zU ad0]),(4,[zi 0,zi 0,zi 0,zy,zi 0,zi 0,zi 0]),(5,[zs zR r,zi mc,zi mt,zi mf,zi wt,zi s,zi (Int.tmod (IntKind.wrap IntKind.i64 (id+1)) 256),zi rq,zs zO d,zi ct,zi tm,zi nk,zi ic,zi ii,zs zU ix,zi ac,zi ax,zs zU ad,zi tk,zs zN didr,AV.sl false zC (D.app out (D.l [D.t [D.i (rej7C (rej7E ic ii ix (Int.tmod (IntKind.wrap IntKind.i64 (id+1)) 256)) 7),D.i (rej7C (rej7E ic ii ix (Int.tmod (IntKind.wrap IntKind.i64 (id+1)) 256)) (Int.tmod (IntKind.wrap IntKind.i64 (id+1)) 256)),rej7D ic ii ix (Int.tmod (IntKind.wrap IntKind.i64 (id+1)) 256)]])) (some (0,1000))])] 6 [(0,1000, 85)] 1 1001 1000))) (RT.bad 70)) (RT.ok (Ex.normal,(Tm.mk 82 [(12,AV.ptr 4 0),(13,zy),(14,zy),(15,zi s0),(16,zs zN did0),(18,AV.ptr 5 0),(19,AV.fn (Fn.func 207) [AV.ptr 5 0] []),(56,zs zN did),(57,zi n),(58,zi (IntKind.wrap IntKind.i64 (i+1)))] []),(Hp.mk [(0,[zs zR r0,zi mc0,zi mt0,zi mf0,zi wt0]),(1,[zi st0,zi id0,zi rq0,zs zO d0,zi ct0,zi tm0,zi nk0]),(2,[zi ic0,zi ii0,zs zU ix0]),(3,[zi ac0,zi ax0,zs zU ad0]),(4,[zi 0,zi 0,zi 0,zy,zi 0,zi 0,zi 0]),(5,[zs zR r,zi mc,zi mt,zi mf,zi wt,zi s,zi (Int.tmod (IntKind.wrap IntKind.i64 (id+1)) 256),zi rq,zs zO d,zi ct,zi tm,zi nk,zi ic,zi ii,zs zU ix,zi ac,zi ax,zs zU ad,zi tk,zs zN didr,AV.sl false zC out (some (0,1000))])] 6 [(0,1000, 85)] 1 1001 1000)))) (RT.br (rej7E ic ii ix (Int.tmod (IntKind.wrap IntKind.i64 (id+1)) 256)==0) (RT.br (decide ((D.len out+1)*40≤140737488355328)) (RT.ok (Ex.normal,(Tm.mk 82 [(12,AV.ptr 4 0),(13,zy),(14,zy),(15,zi s0),(16,zs zN did0),(18,AV.ptr 5 0),(19,AV.fn (Fn.func 207) [AV.ptr 5 0] []),(56,zs zN did),(57,zi n),(58,zi (IntKind.wrap IntKind.i64 (i+1)))] []),(Hp.mk [(0,[zs zR r0,zi mc0,zi mt0,zi mf0,zi wt0]),(1,[zi st0,zi id0,zi rq0,zs zO d0,zi ct0,zi tm0,zi nk0]),(2,[zi ic0,zi ii0,zs zU ix0]),(3,[zi ac0,zi ax0,zs zU ad0]),(4,[zi 0,zi 0,zi 0,zy,zi 0,zi 0,zi 0]),(5,[zs zR r,zi mc,zi mt,zi mf,zi wt,zi s,zi (Int.tmod (IntKind.wrap IntKind.i64 (id+1)) 256),zi rq,zs zO d,zi ct,zi tm,zi nk,zi ic,zi ii,zs zU ix,zi ac,zi ax,zs zU ad,zi tk,zs zN didr,AV.sl false zC (D.app out (D.l [D.t [D.i (rej7C (rej7E ic ii ix (Int.tmod (IntKind.wrap IntKind.i64 (id+1)) 256)) 7),D.i (rej7C (rej7E ic ii ix (Int.tmod (IntKind.wrap IntKind.i64 (id+1)) 256)) (Int.tmod (IntKind.wrap IntKind.i64 (id+1)) 256)),rej7D ic ii ix (Int.tmod (IntKind.wrap IntKind.i64 (id+1)) 256)]])) (some (0,1000))])] 6 [(0,1000, 85)] 1 1001 1000))) (RT.bad 70)) (RT.ok (Ex.normal,(Tm.mk 82 [(12,AV.ptr 4 0),(13,zy),(14,zy),(15,zi s0),(16,zs zN did0),(18,AV.ptr 5 0),(19,AV.fn (Fn.func 207) [AV.ptr 5 0] []),(56,zs zN did),(57,zi n),(58,zi (IntKind.wrap IntKind.i64 (i+1)))] []),(Hp.mk [(0,[zs zR r0,zi mc0,zi mt0,zi mf0,zi wt0]),(1,[zi st0,zi id0,zi rq0,zs zO d0,zi ct0,zi tm0,zi nk0]),(2,[zi ic0,zi ii0,zs zU ix0]),(3,[zi ac0,zi ax0,zs zU ad0]),(4,[zi 0,zi 0,zi 0,zy,zi 0,zi 0,zi 0]),(5,[zs zR r,zi mc,zi mt,zi mf,zi wt,zi s,zi (Int.tmod (IntKind.wrap IntKind.i64 (id+1)) 256),zi rq,zs zO d,zi ct,zi tm,zi nk,zi ic,zi ii,zs zU ix,zi ac,zi ax,zs zU ad,zi tk,zs zN didr,AV.sl false zC out (some (0,1000))])] 6 [(0,1000, 85)] 1 1001 1000))))
abbrev do_body_2 (r0:D) (mc0 mt0 mf0 wt0 st0 id0 rq0:Int) (d0:D) (ct0 tm0 nk0 ic0 ii0:Int) (ix0:D) (ac0 ax0:Int) (ad0:D) (s0:Int) (did0 r:D) (mc mt mf wt s:Int) (d:D) (ic ii:Int) (ix:D) (ac ax:Int) (ad:D) (tk:Int) (didr did:D) (id rq ct tm nk:Int) (out:D) (n i:Int):=RT.br true (RT.br (rej7E ic ii ix (Int.tmod (IntKind.wrap IntKind.i64 (id+1)) 256)==0) (RT.br (decide ((D.len out+1)*40≤140737488355328)) (RT.ok (Ex.normal,(Tm.mk 82 [(12,AV.ptr 4 0),(13,zy),(14,zy),(15,zi s0),(16,zs zN did0),(18,AV.ptr 5 0),(19,AV.fn (Fn.func 207) [AV.ptr 5 0] []),(56,zs zN did),(57,zi n),(58,zi (IntKind.wrap IntKind.i64 (i+1)))] []),(Hp.mk [(0,[zs zR r0,zi mc0,zi mt0,zi mf0,zi wt0]),(1,[zi st0,zi id0,zi rq0,zs zO d0,zi ct0,zi tm0,zi nk0]),(2,[zi ic0,zi ii0,zs zU ix0]),(3,[zi ac0,zi ax0,zs zU ad0]),(4,[zi 0,zi 0,zi 0,zy,zi 0,zi 0,zi 0]),(5,[zs zR r,zi mc,zi mt,zi mf,zi wt,zi s,zi (Int.tmod (IntKind.wrap IntKind.i64 (id+1)) 256),zi rq,zs zO d,zi ct,zi tm,zi nk,zi ic,zi ii,zs zU ix,zi ac,zi ax,zs zU ad,zi tk,zs zN didr,AV.sl false zC (D.app out (D.l [D.t [D.i (rej7C (rej7E ic ii ix (Int.tmod (IntKind.wrap IntKind.i64 (id+1)) 256)) 7),D.i (rej7C (rej7E ic ii ix (Int.tmod (IntKind.wrap IntKind.i64 (id+1)) 256)) (Int.tmod (IntKind.wrap IntKind.i64 (id+1)) 256)),rej7D ic ii ix (Int.tmod (IntKind.wrap IntKind.i64 (id+1)) 256)]])) (some (0,1000))])] 6 [(0,1000, 85)] 1 1001 1000))) (RT.bad 70)) (RT.ok (Ex.normal,(Tm.mk 82 [(12,AV.ptr 4 0),(13,zy),(14,zy),(15,zi s0),(16,zs zN did0),(18,AV.ptr 5 0),(19,AV.fn (Fn.func 207) [AV.ptr 5 0] []),(56,zs zN did),(57,zi n),(58,zi (IntKind.wrap IntKind.i64 (i+1)))] []),(Hp.mk [(0,[zs zR r0,zi mc0,zi mt0,zi mf0,zi wt0]),(1,[zi st0,zi id0,zi rq0,zs zO d0,zi ct0,zi tm0,zi nk0]),(2,[zi ic0,zi ii0,zs zU ix0]),(3,[zi ac0,zi ax0,zs zU ad0]),(4,[zi 0,zi 0,zi 0,zy,zi 0,zi 0,zi 0]),(5,[zs zR r,zi mc,zi mt,zi mf,zi wt,zi s,zi (Int.tmod (IntKind.wrap IntKind.i64 (id+1)) 256),zi rq,zs zO d,zi ct,zi tm,zi nk,zi ic,zi ii,zs zU ix,zi ac,zi ax,zs zU ad,zi tk,zs zN didr,AV.sl false zC out (some (0,1000))])] 6 [(0,1000, 85)] 1 1001 1000)))) (RT.bad 21)
abbrev do_body_3 (r0:D) (mc0 mt0 mf0 wt0 st0 id0 rq0:Int) (d0:D) (ct0 tm0 nk0 ic0 ii0:Int) (ix0:D) (ac0 ax0:Int) (ad0:D) (s0:Int) (did0 r:D) (mc mt mf wt s:Int) (d:D) (ic ii:Int) (ix:D) (ac ax:Int) (ad:D) (tk:Int) (didr did:D) (id rq ct tm nk:Int) (out:D) (n i:Int):=RT.ok (Ex.normal,(Tm.mk 82 [(12,AV.ptr 4 0),(13,zy),(14,zy),(15,zi s0),(16,zs zN did0),(18,AV.ptr 5 0),(19,AV.fn (Fn.func 207) [AV.ptr 5 0] []),(56,zs zN did),(57,zi n),(58,zi (IntKind.wrap IntKind.i64 (i+1)))] []),(Hp.mk [(0,[zs zR r0,zi mc0,zi mt0,zi mf0,zi wt0]),(1,[zi st0,zi id0,zi rq0,zs zO d0,zi ct0,zi tm0,zi nk0]),(2,[zi ic0,zi ii0,zs zU ix0]),(3,[zi ac0,zi ax0,zs zU ad0]),(4,[zi 0,zi 0,zi 0,zy,zi 0,zi 0,zi 0]),(5,[zs zR r,zi mc,zi mt,zi mf,zi wt,zi s,zi id,zi rq,zs zO d,zi ct,zi tm,zi nk,zi ic,zi ii,zs zU ix,zi ac,zi ax,zs zU ad,zi tk,zs zN didr,AV.sl false zC (D.app out (D.l [D.t [D.i ac,D.i ax,ad]])) (some (0,1000))])] 6 [(0,1000, 85)] 1 1001 1000))
theorem do_body (r0:D) (mc0 mt0 mf0 wt0 st0 id0 rq0:Int) (d0:D) (ct0 tm0 nk0 ic0 ii0:Int) (ix0:D) (ac0 ax0:Int) (ad0:D) (s0:Int) (did0 r:D) (mc mt mf wt s:Int) (d:D) (ic ii:Int) (ix:D) (ac ax:Int) (ad:D) (tk:Int) (didr did:D) (id rq ct tm nk:Int) (out:D) (n i:Int):roundT (doL) (evC Tryz.prog (gam (doG Tryz.prog)) (lam (strL)) 100 164 (loopAt 0 (bodyOf Tryz.prog 164)) (doF ⟨r0,mc0,mt0,mf0,wt0,st0,id0,rq0,d0,ct0,tm0,nk0,ic0,ii0,ix0,ac0,ax0,ad0,s0,did0⟩ ⟨r,mc,mt,mf,wt,s,d,ic,ii,ix,ac,ax,ad,tk,didr,did⟩ n i) (doH ⟨r0,mc0,mt0,mf0,wt0,st0,id0,rq0,d0,ct0,tm0,nk0,ic0,ii0,ix0,ac0,ax0,ad0,s0,did0⟩ ⟨r,mc,mt,mf,wt,s,d,ic,ii,ix,ac,ax,ad,tk,didr,did⟩ ⟨id,rq,ct,tm,nk,out⟩)) =
RT.br (decide (i<n)) (RT.br (decide (0≤i∧i<(↑(D.len did):Int))) (RT.br (D.toI (D.cell (D.get did (Int.toNat i)) 0)==5) (RT.br (hasA didr 10) (RT.ok (Ex.normal,(Tm.mk 82 [(12,AV.ptr 4 0),(13,zy),(14,zy),(15,zi s0),(16,zs zN did0),(18,AV.ptr 5 0),(19,AV.fn (Fn.func 207) [AV.ptr 5 0] []),(56,zs zN did),(57,zi n),(58,zi (IntKind.wrap IntKind.i64 (i+1)))] []),(Hp.mk [(0,[zs zR r0,zi mc0,zi mt0,zi mf0,zi wt0]),(1,[zi st0,zi id0,zi rq0,zs zO d0,zi ct0,zi tm0,zi nk0]),(2,[zi ic0,zi ii0,zs zU ix0]),(3,[zi ac0,zi ax0,zs zU ad0]),(4,[zi 0,zi 0,zi 0,zy,zi 0,zi 0,zi 0]),(5,[zs zR r,zi mc,zi mt,zi mf,zi wt,zi s,zi id,zi rq,zs zO d,zi mt,zi tm,zi nk,zi ic,zi ii,zs zU ix,zi ac,zi ax,zs zU ad,zi tk,zs zN didr,AV.sl false zC out (some (0,1000))])] 6 [(0,1000, 85)] 1 1001 1000))) (RT.ok (Ex.normal,(Tm.mk 82 [(12,AV.ptr 4 0),(13,zy),(14,zy),(15,zi s0),(16,zs zN did0),(18,AV.ptr 5 0),(19,AV.fn (Fn.func 207) [AV.ptr 5 0] []),(56,zs zN did),(57,zi n),(58,zi (IntKind.wrap IntKind.i64 (i+1)))] []),(Hp.mk [(0,[zs zR r0,zi mc0,zi mt0,zi mf0,zi wt0]),(1,[zi st0,zi id0,zi rq0,zs zO d0,zi ct0,zi tm0,zi nk0]),(2,[zi ic0,zi ii0,zs zU ix0]),(3,[zi ac0,zi ax0,zs zU ad0]),(4,[zi 0,zi 0,zi 0,zy,zi 0,zi 0,zi 0]),(5,[zs zR r,zi mc,zi mt,zi mf,zi wt,zi s,zi id,zi rq,zs zO d,zi mc,zi tm,zi nk,zi ic,zi ii,zs zU ix,zi ac,zi ax,zs zU ad,zi tk,zs zN didr,AV.sl false zC out (some (0,1000))])] 6 [(0,1000, 85)] 1 1001 1000)))) (RT.br (D.toI (D.cell (D.get did (Int.toNat i)) 0)==6) (RT.ok (Ex.normal,(Tm.mk 82 [(12,AV.ptr 4 0),(13,zy),(14,zy),(15,zi s0),(16,zs zN did0),(18,AV.ptr 5 0),(19,AV.fn (Fn.func 207) [AV.ptr 5 0] []),(56,zs zN did),(57,zi n),(58,zi (IntKind.wrap IntKind.i64 (i+1)))] []),(Hp.mk [(0,[zs zR r0,zi mc0,zi mt0,zi mf0,zi wt0]),(1,[zi st0,zi id0,zi rq0,zs zO d0,zi ct0,zi tm0,zi nk0]),(2,[zi ic0,zi ii0,zs zU ix0]),(3,[zi ac0,zi ax0,zs zU ad0]),(4,[zi 0,zi 0,zi 0,zy,zi 0,zi 0,zi 0]),(5,[zs zR r,zi mc,zi mt,zi mf,zi wt,zi s,zi id,zi rq,zs zO d,zi 0,zi (IntKind.wrap IntKind.i64 (tk+wt)),zi nk,zi ic,zi ii,zs zU ix,zi ac,zi ax,zs zU ad,zi tk,zs zN didr,AV.sl false zC out (some (0,1000))])] 6 [(0,1000, 85)] 1 1001 1000))) (RT.br (D.toI (D.cell (D.get did (Int.toNat i)) 0)==7) (RT.br true (RT.br (decide ((D.len out+1)*40≤140737488355328)) (RT.ok (Ex.normal,(Tm.mk 82 [(12,AV.ptr 4 0),(13,zy),(14,zy),(15,zi s0),(16,zs zN did0),(18,AV.ptr 5 0),(19,AV.fn (Fn.func 207) [AV.ptr 5 0] []),(56,zs zN did),(57,zi n),(58,zi (IntKind.wrap IntKind.i64 (i+1)))] []),(Hp.mk [(0,[zs zR r0,zi mc0,zi mt0,zi mf0,zi wt0]),(1,[zi st0,zi id0,zi rq0,zs zO d0,zi ct0,zi tm0,zi nk0]),(2,[zi ic0,zi ii0,zs zU ix0]),(3,[zi ac0,zi ax0,zs zU ad0]),(4,[zi 0,zi 0,zi 0,zy,zi 0,zi 0,zi 0]),(5,[zs zR r,zi mc,zi mt,zi mf,zi wt,zi s,zi (Int.tmod (IntKind.wrap IntKind.i64 (id+1)) 256),zi (Int.tmod (IntKind.wrap IntKind.i64 (id+1)) 256),zs zO d,zi (imax (IntKind.wrap IntKind.i64 (ct - 1)) 0),zi (IntKind.wrap IntKind.i64 (tk+wt)),zi nk,zi ic,zi ii,zs zU ix,zi ac,zi ax,zs zU ad,zi tk,zs zN didr,AV.sl false zC (D.app out (D.l [D.t [D.ki 1,D.i (Int.tmod (IntKind.wrap IntKind.i64 (id+1)) 256),encO d]])) (some (0,1000))])] 6 [(0,1000, 85)] 1 1001 1000))) (RT.bad 70)) (RT.bad 21)) (RT.br (D.toI (D.cell (D.get did (Int.toNat i)) 0)==8) (RT.br (decide ((D.len out+1)*40≤140737488355328)) (RT.ok (Ex.normal,(Tm.mk 82 [(12,AV.ptr 4 0),(13,zy),(14,zy),(15,zi s0),(16,zs zN did0),(18,AV.ptr 5 0),(19,AV.fn (Fn.func 207) [AV.ptr 5 0] []),(56,zs zN did),(57,zi n),(58,zi (IntKind.wrap IntKind.i64 (i+1)))] []),(Hp.mk [(0,[zs zR r0,zi mc0,zi mt0,zi mf0,zi wt0]),(1,[zi st0,zi id0,zi rq0,zs zO d0,zi ct0,zi tm0,zi nk0]),(2,[zi ic0,zi ii0,zs zU ix0]),(3,[zi ac0,zi ax0,zs zU ad0]),(4,[zi 0,zi 0,zi 0,zy,zi 0,zi 0,zi 0]),(5,[zs zR r,zi mc,zi mt,zi mf,zi wt,zi s,zi id,zi rq,zs zO d,zi ct,zi tm,zi 0,zi ic,zi ii,zs zU ix,zi ac,zi ax,zs zU ad,zi tk,zs zN didr,AV.sl false zC (D.app out (D.l [D.t [D.i ac,D.i ax,ad]])) (some (0,1000))])] 6 [(0,1000, 85)] 1 1001 1000))) (RT.bad 70)) (RT.br (D.toI (D.cell (D.get did (Int.toNat i)) 0)==9) (RT.br (decide ((D.len out+1)*40≤140737488355328)) (RT.br (ac==3) (RT.ok (Ex.normal,(Tm.mk 82 [(12,AV.ptr 4 0),(13,zy),(14,zy),(15,zi s0),(16,zs zN did0),(18,AV.ptr 5 0),(19,AV.fn (Fn.func 207) [AV.ptr 5 0] []),(56,zs zN did),(57,zi n),(58,zi (IntKind.wrap IntKind.i64 (i+1)))] []),(Hp.mk [(0,[zs zR r0,zi mc0,zi mt0,zi mf0,zi wt0]),(1,[zi st0,zi id0,zi rq0,zs zO d0,zi ct0,zi tm0,zi nk0]),(2,[zi ic0,zi ii0,zs zU ix0]),(3,[zi ac0,zi ax0,zs zU ad0]),(4,[zi 0,zi 0,zi 0,zy,zi 0,zi 0,zi 0]),(5,[zs zR r,zi mc,zi mt,zi mf,zi wt,zi s,zi id,zi rq,zs zO d,zi ct,zi tm,zi (imin (IntKind.wrap IntKind.i64 (nk+1)) 1000),zi ic,zi ii,zs zU ix,zi ac,zi ax,zs zU ad,zi tk,zs zN didr,AV.sl false zC (D.app out (D.l [D.t [D.i ac,D.i ax,ad]])) (some (0,1000))])] 6 [(0,1000, 85)] 1 1001 1000))) (do_body_3 r0 mc0 mt0 mf0 wt0 st0 id0 rq0 d0 ct0 tm0 nk0 ic0 ii0 ix0 ac0 ax0 ad0 s0 did0 r mc mt mf wt s d ic ii ix ac ax ad tk didr did id rq ct tm nk out n i)) (RT.bad 70)) (RT.br (D.toI (D.cell (D.get did (Int.toNat i)) 0)==10) (RT.br true (RT.br (decide ((D.len out+1)*40≤140737488355328)) (RT.ok (Ex.normal,(Tm.mk 82 [(12,AV.ptr 4 0),(13,zy),(14,zy),(15,zi s0),(16,zs zN did0),(18,AV.ptr 5 0),(19,AV.fn (Fn.func 207) [AV.ptr 5 0] []),(56,zs zN did),(57,zi n),(58,zi (IntKind.wrap IntKind.i64 (i+1)))] []),(Hp.mk [(0,[zs zR r0,zi mc0,zi mt0,zi mf0,zi wt0]),(1,[zi st0,zi id0,zi rq0,zs zO d0,zi ct0,zi tm0,zi nk0]),(2,[zi ic0,zi ii0,zs zU ix0]),(3,[zi ac0,zi ax0,zs zU ad0]),(4,[zi 0,zi 0,zi 0,zy,zi 0,zi 0,zi 0]),(5,[zs zR r,zi mc,zi mt,zi mf,zi wt,zi s,zi (Int.tmod (IntKind.wrap IntKind.i64 (id+1)) 256),zi rq,zs zO d,zi (imax (IntKind.wrap IntKind.i64 (ct - 1)) 0),zi (IntKind.wrap IntKind.i64 (tk+wt)),zi nk,zi ic,zi ii,zs zU ix,zi ac,zi ax,zs zU ad,zi tk,zs zN didr,AV.sl false zC (D.app out (D.l [D.t [D.ki 5,D.i (Int.tmod (IntKind.wrap IntKind.i64 (id+1)) 256),D.kl []]])) (some (0,1000))])] 6 [(0,1000, 85)] 1 1001 1000))) (RT.bad 70)) (RT.bad 21)) (RT.br (D.toI (D.cell (D.get did (Int.toNat i)) 0)==11) (RT.br (decide ((D.len out+1)*40≤140737488355328)) (RT.ok (Ex.normal,(Tm.mk 82 [(12,AV.ptr 4 0),(13,zy),(14,zy),(15,zi s0),(16,zs zN did0),(18,AV.ptr 5 0),(19,AV.fn (Fn.func 207) [AV.ptr 5 0] []),(56,zs zN did),(57,zi n),(58,zi (IntKind.wrap IntKind.i64 (i+1)))] []),(Hp.mk [(0,[zs zR r0,zi mc0,zi mt0,zi mf0,zi wt0]),(1,[zi st0,zi id0,zi rq0,zs zO d0,zi ct0,zi tm0,zi nk0]),(2,[zi ic0,zi ii0,zs zU ix0]),(3,[zi ac0,zi ax0,zs zU ad0]),(4,[zi 0,zi 0,zi 0,zy,zi 0,zi 0,zi 0]),(5,[zs zR r,zi mc,zi mt,zi mf,zi wt,zi s,zi id,zi rq,zs zO d,zi ct,zi tm,zi nk,zi ic,zi ii,zs zU ix,zi ac,zi ax,zs zU ad,zi tk,zs zN didr,AV.sl false zC (D.app out (D.l [D.t [D.ki 6,D.i ii,D.kl []]])) (some (0,1000))])] 6 [(0,1000, 85)] 1 1001 1000))) (RT.bad 70)) (RT.br (D.toI (D.cell (D.get did (Int.toNat i)) 0)==12) (RT.all (RT.all (RT.br true (do_body_1 r0 mc0 mt0 mf0 wt0 st0 id0 rq0 d0 ct0 tm0 nk0 ic0 ii0 ix0 ac0 ax0 ad0 s0 did0 r mc mt mf wt s d ic ii ix ac ax ad tk didr did id rq ct tm nk out n i) (RT.bad 21)) (do_body_2 r0 mc0 mt0 mf0 wt0 st0 id0 rq0 d0 ct0 tm0 nk0 ic0 ii0 ix0 ac0 ax0 ad0 s0 did0 r mc mt mf wt s d ic ii ix ac ax ad tk didr did id rq ct tm nk out n i)) (RT.all (RT.br true (RT.all (do_body_1 r0 mc0 mt0 mf0 wt0 st0 id0 rq0 d0 ct0 tm0 nk0 ic0 ii0 ix0 ac0 ax0 ad0 s0 did0 r mc mt mf wt s d ic ii ix ac ax ad tk didr did id rq ct tm nk out n i) (RT.br (rej7E ic ii ix (Int.tmod (IntKind.wrap IntKind.i64 (id+1)) 256)==0) (RT.br (decide ((D.len out+1)*40≤140737488355328)) (RT.ok (Ex.normal,(Tm.mk 82 [(12,AV.ptr 4 0),(13,zy),(14,zy),(15,zi s0),(16,zs zN did0),(18,AV.ptr 5 0),(19,AV.fn (Fn.func 207) [AV.ptr 5 0] []),(56,zs zN did),(57,zi n),(58,zi (IntKind.wrap IntKind.i64 (i+1)))] []),(Hp.mk [(0,[zs zR r0,zi mc0,zi mt0,zi mf0,zi wt0]),(1,[zi st0,zi id0,zi rq0,zs zO d0,zi ct0,zi tm0,zi nk0]),(2,[zi ic0,zi ii0,zs zU ix0]),(3,[zi ac0,zi ax0,zs zU ad0]),(4,[zi 0,zi 0,zi 0,zy,zi 0,zi 0,zi 0]),(5,[zs zR r,zi mc,zi mt,zi mf,zi wt,zi s,zi (Int.tmod (IntKind.wrap IntKind.i64 (id+1)) 256),zi rq,zs zO d,zi ct,zi tm,zi nk,zi ic,zi ii,zs zU ix,zi ac,zi ax,zs zU ad,zi tk,zs zN didr,AV.sl false zC (D.app out (D.l [D.t [D.i (rej7C (rej7E ic ii ix (Int.tmod (IntKind.wrap IntKind.i64 (id+1)) 256)) 7),D.i (rej7C (rej7E ic ii ix (Int.tmod (IntKind.wrap IntKind.i64 (id+1)) 256)) (Int.tmod (IntKind.wrap IntKind.i64 (id+1)) 256)),rej7D ic ii ix (Int.tmod (IntKind.wrap IntKind.i64 (id+1)) 256)]])) (some (0,1000))])] 6 [(0,1000, 85)] 1 1001 1000))) (RT.bad 70)) (RT.ok (Ex.normal,(Tm.mk 82 [(12,AV.ptr 4 0),(13,zy),(14,zy),(15,zi s0),(16,zs zN did0),(18,AV.ptr 5 0),(19,AV.fn (Fn.func 207) [AV.ptr 5 0] []),(56,zs zN did),(57,zi n),(58,zi (IntKind.wrap IntKind.i64 (i+1)))] []),(Hp.mk [(0,[zs zR r0,zi mc0,zi mt0,zi mf0,zi wt0]),(1,[zi st0,zi id0,zi rq0,zs zO d0,zi ct0,zi tm0,zi nk0]),(2,[zi ic0,zi ii0,zs zU ix0]),(3,[zi ac0,zi ax0,zs zU ad0]),(4,[zi 0,zi 0,zi 0,zy,zi 0,zi 0,zi 0]),(5,[zs zR r,zi mc,zi mt,zi mf,zi wt,zi s,zi (Int.tmod (IntKind.wrap IntKind.i64 (id+1)) 256),zi rq,zs zO d,zi ct,zi tm,zi nk,zi ic,zi ii,zs zU ix,zi ac,zi ax,zs zU ad,zi tk,zs zN didr,AV.sl false zC out (some (0,1000))])] 6 [(0,1000, 85)] 1 1001 1000))))) (RT.bad 21)) (RT.all (do_body_2 r0 mc0 mt0 mf0 wt0 st0 id0 rq0 d0 ct0 tm0 nk0 ic0 ii0 ix0 ac0 ax0 ad0 s0 did0 r mc mt mf wt s d ic ii ix ac ax ad tk didr did id rq ct tm nk out n i) (do_body_2 r0 mc0 mt0 mf0 wt0 st0 id0 rq0 d0 ct0 tm0 nk0 ic0 ii0 ix0 ac0 ax0 ad0 s0 did0 r mc mt mf wt s d ic ii ix ac ax ad tk didr did id rq ct tm nk out n i)))) (RT.br (D.toI (D.cell (D.get did (Int.toNat i)) 0)==13) (RT.br (decide ((D.len out+1)*40≤140737488355328)) (do_body_3 r0 mc0 mt0 mf0 wt0 st0 id0 rq0 d0 ct0 tm0 nk0 ic0 ii0 ix0 ac0 ax0 ad0 s0 did0 r mc mt mf wt s d ic ii ix ac ax ad tk didr did id rq ct tm nk out n i) (RT.bad 70)) (RT.ok (Ex.normal,(Tm.mk 82 [(12,AV.ptr 4 0),(13,zy),(14,zy),(15,zi s0),(16,zs zN did0),(18,AV.ptr 5 0),(19,AV.fn (Fn.func 207) [AV.ptr 5 0] []),(56,zs zN did),(57,zi n),(58,zi (IntKind.wrap IntKind.i64 (i+1)))] []),(Hp.mk [(0,[zs zR r0,zi mc0,zi mt0,zi mf0,zi wt0]),(1,[zi st0,zi id0,zi rq0,zs zO d0,zi ct0,zi tm0,zi nk0]),(2,[zi ic0,zi ii0,zs zU ix0]),(3,[zi ac0,zi ax0,zs zU ad0]),(4,[zi 0,zi 0,zi 0,zy,zi 0,zi 0,zi 0]),(5,[zs zR r,zi mc,zi mt,zi mf,zi wt,zi s,zi id,zi rq,zs zO d,zi ct,zi tm,zi nk,zi ic,zi ii,zs zU ix,zi ac,zi ax,zs zU ad,zi tk,zs zN didr,AV.sl false zC out (some (0,1000))])] 6 [(0,1000, 85)] 1 1001 1000)))))))))))) (RT.bad 42)) (RT.ok (Ex.exit 0,(Tm.mk 82 [(12,AV.ptr 4 0),(13,zy),(14,zy),(15,zi s0),(16,zs zN did0),(18,AV.ptr 5 0),(19,AV.fn (Fn.func 207) [AV.ptr 5 0] []),(56,zs zN did),(57,zi n),(58,zi i)] []),(Hp.mk [(0,[zs zR r0,zi mc0,zi mt0,zi mf0,zi wt0]),(1,[zi st0,zi id0,zi rq0,zs zO d0,zi ct0,zi tm0,zi nk0]),(2,[zi ic0,zi ii0,zs zU ix0]),(3,[zi ac0,zi ax0,zs zU ad0]),(4,[zi 0,zi 0,zi 0,zy,zi 0,zi 0,zi 0]),(5,[zs zR r,zi mc,zi mt,zi mf,zi wt,zi s,zi id,zi rq,zs zO d,zi ct,zi tm,zi nk,zi ic,zi ii,zs zU ix,zi ac,zi ax,zs zU ad,zi tk,zs zN didr,AV.sl false zC out (some (0,1000))])] 6 [(0,1000, 85)] 1 1001 1000))):=by rw [← fvC_eq Tryz.prog (gam (doG Tryz.prog)) (lam (strL)) false 100]; kernel_rfl
theorem strL_ok:LamL Tryz.prog strL:=⟨fun _ _ _ _ _ _ _ _ H=>H.elim,trivial⟩
theorem doG_ok:GamL Tryz.prog (doG Tryz.prog):=⟨con_soundF,rej7_soundF,cloneb_soundF,encG_ok⟩
theorem putO_len {o a b x:D} (h:o.len≤8):(putO o a b x).len=o.len+1:=by
  have h1:(D.l [D.t [a,b,x]]).len=1:=by unfold D.len; rw [toL_l (show [D.t [a,b,x]].length≤maxLen by unfold maxLen; simp)]; rfl
  unfold putO
  rw [app_len (by rw [h1]; unfold maxLen; omega),h1]
theorem actF_len {c:DoC} {a:Int} {v:DoV} (h:v.out.len≤8):(actF c a v).out.len≤v.out.len+1:=by
  have p:∀ a b x,(putO v.out a b x).len≤v.out.len+1:=fun a b x=>by rw [putO_len h]; omega
  unfold actF
  cases a==5 <;> cases a==6 <;> cases a==7 <;> cases a==8 <;> cases a==9 <;> cases a==10 <;> cases a==11 <;> cases a==12 <;> cases a==13 <;> simp only [cond_true,cond_false] <;> first | exact p _ _ _ | exact Nat.le_succ _ | (cases rej7E c.ic c.ii c.ix (numN v.id)==0 <;> simp only [cond_true,cond_false] <;> first | exact p _ _ _ | exact Nat.le_succ _)
theorem nDec_eq {a:AV} {x:Int} (h:nDec a=some x):a=ai x:=by
  unfold nDec at h; split at h
  · cases h; rfl
  · cases h
theorem aDec_eq {a:AV} {x:D} (h:aDec a=some x):a=asl acS x:=by
  unfold aDec at h; split at h
  · cases h; rfl
  · cases h
theorem oDec_eq {a:AV} {x:Unit} (h:oDec a=some x):a=.sl false ctS (.l []) (some (0,1000)):=by
  unfold oDec at h; split at h
  · rfl
  · cases h
theorem cfDec_eq {l:List AV} {y:D×Int×Int×Int×Int} (h:cfDec l=some y):l=[asl rlS y.1,ai y.2.1,ai y.2.2.1,ai y.2.2.2.1,ai y.2.2.2.2]:=by
  unfold cfDec at h; split at h
  · cases h; rfl
  · cases h
theorem auDec_eq {l:List AV} {y:Int×Int×Int×D×Int×Int×Int} (h:auDec l=some y):l=[ai y.1,ai y.2.1,ai y.2.2.1,asl opS y.2.2.2.1,ai y.2.2.2.2.1,ai y.2.2.2.2.2.1,ai y.2.2.2.2.2.2]:=by
  unfold auDec at h; split at h
  · cases h; rfl
  · cases h
theorem ctDec_eq {l:List AV} {y:Int×Int×D} (h:ctDec l=some y):l=[ai y.1,ai y.2.1,asl byS y.2.2]:=by
  unfold ctDec at h; split at h
  · cases h; rfl
  · cases h
theorem zDec_eq {l:List AV} {y:Unit} (h:zDec l=some y):l=[.sc false (.int .i64 0),.sc false (.int .i64 0),.sc false (.int .i64 0),.sc false (.slice none 0 0),.sc false (.int .i64 0),.sc false (.int .i64 0),.sc false (.int .i64 0)]:=by
  unfold zDec at h; split at h
  · rfl
  · cases h
theorem doDec_eq {F:Tm} {h:Hp} {y:DoX×DoC×DoV×Int×Nat} (H:doDec F h=some y):F=doF y.1 y.2.1 y.2.2.2.1 y.2.2.2.2∧h=doH y.1 y.2.1 y.2.2.1:=by
  unfold doDec at H
  obtain ⟨t,ht,H⟩:=Option.bind_eq_some_iff.1 H
  obtain ⟨z,hz,H⟩:=Option.bind_eq_some_iff.1 H
  cases H
  constructor
  · unfold tmDec at ht
    split at ht
    · obtain ⟨s0,e0,ht⟩:=Option.bind_eq_some_iff.1 ht
      obtain ⟨d0,e1,ht⟩:=Option.bind_eq_some_iff.1 ht
      obtain ⟨d1,e2,ht⟩:=Option.bind_eq_some_iff.1 ht
      obtain ⟨n,e3,ht⟩:=Option.bind_eq_some_iff.1 ht
      cases ht
      rw [nDec_eq e0,aDec_eq e1,aDec_eq e2,nDec_eq e3]
      rfl
    · cases ht
  · unfold hpDec at hz
    split at hz
    · obtain ⟨a,e0,hz⟩:=Option.bind_eq_some_iff.1 hz
      obtain ⟨b,e1,hz⟩:=Option.bind_eq_some_iff.1 hz
      obtain ⟨c,e2,hz⟩:=Option.bind_eq_some_iff.1 hz
      obtain ⟨d,e3,hz⟩:=Option.bind_eq_some_iff.1 hz
      obtain ⟨u,e4,hz⟩:=Option.bind_eq_some_iff.1 hz
      obtain ⟨r,e5,hz⟩:=Option.bind_eq_some_iff.1 hz
      cases hz
      rw [cfDec_eq e0,auDec_eq e1,ctDec_eq e2,ctDec_eq e3,zDec_eq e4]
      unfold ruDec at e5
      split at e5
      · obtain ⟨a',f0,e5⟩:=Option.bind_eq_some_iff.1 e5
        obtain ⟨b',f1,e5⟩:=Option.bind_eq_some_iff.1 e5
        obtain ⟨c',f2,e5⟩:=Option.bind_eq_some_iff.1 e5
        obtain ⟨d',f3,e5⟩:=Option.bind_eq_some_iff.1 e5
        obtain ⟨e',f4,e5⟩:=Option.bind_eq_some_iff.1 e5
        obtain ⟨g',f5,e5⟩:=Option.bind_eq_some_iff.1 e5
        obtain ⟨u',f6,e5⟩:=Option.bind_eq_some_iff.1 e5
        cases e5
        have g0:=cfDec_eq f0
        have g1:=auDec_eq f1
        have g2:=ctDec_eq f2
        have g3:=ctDec_eq f3
        simp only [List.cons.injEq,and_true] at g0 g1 g2 g3
        obtain ⟨rfl,rfl,rfl,rfl,rfl⟩:=g0
        obtain ⟨rfl,rfl,rfl,rfl,rfl,rfl,rfl⟩:=g1
        obtain ⟨rfl,rfl,rfl⟩:=g2
        obtain ⟨rfl,rfl,rfl⟩:=g3
        rw [nDec_eq f4,aDec_eq f5,oDec_eq f6]
        rfl
      · cases e5
    · cases hz
set_option maxHeartbeats 2000000 in
theorem do_loop:LamE Tryz.prog 164 0 (loopS Tryz.prog doL doDec doT):=by
  refine loop_in2 (gs:=doG Tryz.prog) (ls:=strL) mixed doG_ok strL_ok _ 0 100 (by kernel_rfl) doL (mkF:=fun y=>doF y.1 y.2.1 y.2.2.2.1 y.2.2.2.2) (mkH:=fun y=>doH y.1 y.2.1 y.2.2.1) (fun y=>y.2.1.did.len - y.2.2.2.2) ?_ ?_
  · exact fun F h y hy=>doDec_eq hy
  · rintro ⟨X,C,V,n,i⟩ K H
    obtain ⟨hc,H⟩:=need_holds H
    obtain ⟨hn,hi,h8,ho⟩:=odt hc
    dsimp only at hn hi h8 ho
    subst hn
    have hm:=C.did.len_le
    have hout:i=C.did.len→Round (fun y=>doF y.1 y.2.1 y.2.2.2.1 y.2.2.2.2) (fun y=>doH y.1 y.2.1 y.2.2.1) doT (fun y=>y.2.1.did.len - y.2.2.2.2) 0 (X,C,V,(C.did.len:Int),i) K (.exit 0,doF X C C.did.len C.did.len,doH X C V):=by
      intro he
      have h:=H
      dsimp only at h
      rw [he,Nat.sub_self] at h
      exact h
    have hnext:i<C.did.len→∀ v',actF C ((C.did.get i).cell 0).toI V=v'→Round (fun y=>doF y.1 y.2.1 y.2.2.2.1 y.2.2.2.2) (fun y=>doH y.1 y.2.1 y.2.2.1) doT (fun y=>y.2.1.did.len - y.2.2.2.2) 0 (X,C,V,(C.did.len:Int),i) K (.normal,doF X C C.did.len (IntKind.wrap .i64 ((i:Int)+1)),doH X C v'):=by
      intro hlt v' hv
      subst hv
      refine ⟨(X,C,actF C ((C.did.get i).cell 0).toI V,(C.did.len:Int),i+1),⟨?_,rfl⟩,by show C.did.len - (i+1)<C.did.len - i; omega,?_⟩
      · rw [wrap_succ hlt hm]
      · unfold doT
        refine ⟨fun _=>?_,fun hf=>absurd ?_ (odf hf)⟩
        · have h:=H
          dsimp only at h ⊢
          rw [show C.did.len - i=(C.did.len - (i+1))+1 by omega] at h
          exact h
        · dsimp only
          have:=actF_len (c:=C) (a:=((C.did.get i).cell 0).toI) (v:=V) (by omega)
          exact ⟨rfl,by omega,h8,by omega⟩
    clear H
    obtain ⟨r0,mc0,mt0,mf0,wt0,st0,id0,rq0,d0,ct0,tm0,nk0,ic0,ii0,ix0,ac0,ax0,ad0,s0,did0⟩:=X
    obtain ⟨r,mc,mt,mf,wt,s,d,ic,ii,ix,ac,ax,ad,tk,didr,did⟩:=C
    obtain ⟨id,rq,ct,tm,nk,out⟩:=V
    dsimp only at hi h8 ho hm hout hnext hc
    show (roundT doL (evC _ _ _ _ _ _ (doF ⟨r0,mc0,mt0,mf0,wt0,st0,id0,rq0,d0,ct0,tm0,nk0,ic0,ii0,ix0,ac0,ax0,ad0,s0,did0⟩ ⟨r,mc,mt,mf,wt,s,d,ic,ii,ix,ac,ax,ad,tk,didr,did⟩ (did.len:Int) i) (doH ⟨r0,mc0,mt0,mf0,wt0,st0,id0,rq0,d0,ct0,tm0,nk0,ic0,ii0,ix0,ac0,ax0,ad0,s0,did0⟩ ⟨r,mc,mt,mf,wt,s,d,ic,ii,ix,ac,ax,ad,tk,didr,did⟩ ⟨id,rq,ct,tm,nk,out⟩))).holds _
    rw [do_body]
    simp only [Int.toNat_natCast]
    have room:(out.len+1)*40≤140737488355328:=by omega
    refine ⟨fun h1=>⟨fun h2=>?_,fun h2=>absurd ⟨by omega,odt h1⟩ (odf h2)⟩,fun h1=>?_⟩
    · have lf:=@(hnext (by have:=odt h1; omega))
      clear hnext hout
      refine ⟨fun h5=>⟨fun hh=>?_,fun hh=>?_⟩,fun h5=>⟨fun h6=>?_,fun h6=>⟨fun h7=>⟨fun _=>⟨fun _=>?_,fun h=>absurd room (odf h)⟩,fun h=>by cases h⟩,fun h7=>⟨fun h8=>⟨fun _=>?_,fun h=>absurd room (odf h)⟩,fun h8=>⟨fun h9=>⟨fun _=>⟨fun hh=>?_,fun hh=>?_⟩,fun h=>absurd room (odf h)⟩,fun h9=>⟨fun h10=>⟨fun _=>⟨fun _=>?_,fun h=>absurd room (odf h)⟩,fun h=>by cases h⟩,fun h10=>⟨fun h11=>⟨fun _=>?_,fun h=>absurd room (odf h)⟩,fun h11=>⟨fun h12=>?_,fun h12=>⟨fun h13=>⟨fun _=>?_,fun h=>absurd room (odf h)⟩,fun h13=>?_⟩⟩⟩⟩⟩⟩⟩⟩⟩
      · exact lf _ (by simp only [actF,h5,hh,cond_true]; rfl)
      · exact lf _ (by simp only [actF,h5,hh,cond_true,cond_false]; rfl)
      · exact lf _ (by simp only [actF,h5,h6,cond_true,cond_false]; rfl)
      · exact lf _ (by simp only [actF,h5,h6,h7,cond_true,cond_false]; rfl)
      · exact lf _ (by simp only [actF,h5,h6,h7,h8,cond_true,cond_false]; rfl)
      · exact lf _ (by simp only [actF,h5,h6,h7,h8,h9,hh,cond_true,cond_false]; rfl)
      · exact lf _ (by simp only [actF,h5,h6,h7,h8,h9,hh,cond_true,cond_false]; rfl)
      · exact lf _ (by simp only [actF,h5,h6,h7,h8,h9,h10,cond_true,cond_false]; rfl)
      · exact lf _ (by simp only [actF,h5,h6,h7,h8,h9,h10,h11,cond_true,cond_false]; rfl)
      · have s1:=fun hr:(rej7E ic ii ix (Int.tmod (IntKind.wrap IntKind.i64 (id+1)) 256)==0)=true=>lf _ (by simp only [actF,numN,h5,h6,h7,h8,h9,h10,h11,h12,hr,cond_true,cond_false]; rfl)
        have s2:=fun hr:(rej7E ic ii ix (Int.tmod (IntKind.wrap IntKind.i64 (id+1)) 256)==0)=false=>lf _ (by simp only [actF,numN,h5,h6,h7,h8,h9,h10,h11,h12,hr,cond_true,cond_false]; rfl)
        clear lf
        repeat' (first | refine And.intro (fun hq=>?_) (fun hq=>?_) | refine And.intro ?_ ?_)
        all_goals first | exact s1 (by assumption) | exact s2 (by assumption) | exact absurd room (odf (by assumption)) | (exfalso; contradiction)
      · exact lf _ (by simp only [actF,h5,h6,h7,h8,h9,h10,h11,h12,h13,cond_true,cond_false]; rfl)
      · exact lf _ (by simp only [actF,h5,h6,h7,h8,h9,h10,h11,h12,h13,cond_false]; rfl)
    · obtain rfl:i=did.len:=by have:=odf h1; omega
      exact hout rfl
abbrev ctlA (c i:Int) (x:D):AV:=.agg [ai c,ai i,asl byS x]
def mayG (P:Program):List (FuncId×Spec):=[(156,pureS P 156 FCopied),(157,pureS P 157 FSet),(158,pureS P 158 FSound)]
def mayB (m g mc mt mf wt st id rq:Int) (d:D) (ct tm nk tk:Int):Bool:=setB m g mc mt mf wt&&(soundB st id rq d ct tm nk&&inB tk 0 1099511627776)
def FMay:List AV→RT AV
  | [.agg [.sl false [.int .i64,.int .i64,.int .i64,.int .i64,.int .i64,.int .i64,.bool] r none,.sc false (.int .i64 mc),.sc false (.int .i64 mt),.sc false (.int .i64 mf),.sc false (.int .i64 wt)],
     .agg [.sc false (.int .i64 st),.sc false (.int .i64 id),.sc false (.int .i64 rq),.sl false [.int .i64,.sl [.int .u8]] d none,.sc false (.int .i64 ct),.sc false (.int .i64 tm),.sc false (.int .i64 nk)],.sc false (.int .i64 tk)]=>need false (isRl r) 272 (.ok (ab (mayB (rlM r) (rlG r) mc mt mf wt st id rq d ct tm nk tk)))
  | _=>.bad 272
def FAs:List AV→RT AV
  | [.agg [.sc false (.int .i64 st),.sc false (.int .i64 id),.sc false (.int .i64 rq),.sl false [.int .i64,.sl [.int .u8]] d none,.sc false (.int .i64 ct),.sc false (.int .i64 tm),.sc false (.int .i64 nk)]]=>.ok (autA st id rq d ct tm nk)
  | _=>.bad 273
theorem holds_t {α:Type} {x y:RT α} {Q:α→Prop} (h:x.holds Q):(RT.br true x y).holds Q:=⟨fun _=>h,fun h=>by cases h⟩
theorem mayG_ok:GamL Tryz.prog (mayG Tryz.prog):=⟨copied_soundF,set_soundF,sou_soundF,trivial⟩
theorem as_tree (st id rq:Int) (d:D) (ct tm nk:Int):treeF (evF Tryz.prog (gam (mayG Tryz.prog)) (lam ([])) 100 167) [autA st id rq d ct tm nk] =
RT.ok (AV.agg [zi st,zi id,zi rq,zs zO d,zi ct,zi tm,zi nk]):=by rw [← fvF_eq Tryz.prog (gam (mayG Tryz.prog)) (lam ([])) false 100 167]; kernel_rfl
theorem may_tree (r:D) (mc mt mf wt st id rq:Int) (d:D) (ct tm nk tk:Int):treeF (evF Tryz.prog (gam (mayG Tryz.prog)) (lam ([])) 100 181) [.agg [asl rlS r,ai mc,ai mt,ai mf,ai wt],autA st id rq d ct tm nk,ai tk] =
RT.br (isRl r) (RT.br (setB (rlM r) (rlG r) mc mt mf wt) (RT.br (soundB st id rq d ct tm nk) (RT.br (decide (0≤tk)) (RT.ok (zb (decide (tk≤1099511627776)))) (RT.ok (AV.sc true (Value.bool false)))) (RT.ok (AV.sc true (Value.bool false)))) (RT.ok (AV.sc true (Value.bool false)))) (RT.bad 207):=by rw [← fvF_eq Tryz.prog (gam (mayG Tryz.prog)) (lam ([])) false 100 181]; kernel_rfl
theorem may_soundF:SoundF Tryz.prog 181 (pureS Tryz.prog 181 FMay):=by
  refine pure_in (gs:=mayG Tryz.prog) (ls:=[]) mixed mayG_ok trivial 181 100 fun args K ho H=>?_
  unfold FMay at H
  split at H
  · rename_i r mc mt mf wt st id rq d ct tm nk tk
    obtain ⟨hr,H⟩:=need_holds H
    rw [may_tree,hr]
    simp only [RT.holds]
    repeat' refine And.intro (fun _=>?_) (fun _=>?_)
    all_goals first | exact ⟨_,le_bool (by simp_all [mayB,inB] <;> omega),H⟩ | contradiction
  · exact H.elim
theorem as_soundF:SoundF Tryz.prog 167 (pureS Tryz.prog 167 FAs):=by
  refine pure_in (gs:=mayG Tryz.prog) (ls:=[]) mixed mayG_ok trivial 167 100 fun args K ho H=>?_
  unfold FAs at H
  split at H
  · rw [as_tree]
    exact ⟨_,Le.refl _,H⟩
  · exact H.elim
def d7N (b:D):Int:=256*byN b 2+byN b 3
def d7B (b:D):Bool:=decide (4≤b.len)&&decide (4≤d7N b∧d7N b≤b.len)
def d7C (b:D):Int:=bif d7B b then byN b 0 else 0
def d7I (b:D):Int:=bif d7B b then byN b 1 else 0
def d7X (b:D):D:=bif d7B b then b.sub 4 (d7N b).toNat else .l []
def FDec7:List AV→RT AV
  | [.sl false [.int .u8] b none]=>need false (bytesB b) 342 (.ok (.tup [.agg [ai (d7C b),ai (d7I b),asl byS (d7X b)],ai (bif d7B b then 0 else 71)]))
  | _=>.bad 342
def FEncK:List AV→RT AV
  | [.agg [.sc false (.int .i64 c),.sc false (.int .i64 i),.sl false [.int .u8] d none]]=>need false (enc7E c i d==0) 343 (.ok (.tup [.sl true byS (enc7B c i d) none,.sc true (.int .i64 0)]))
  | _=>.bad 343
def FDecK:List AV→RT AV
  | [.sl false [.int .u8] b none]=>need false (bytesB b&&d7B b) 344 (.ok (.tup [.agg [.sc true (.int .i64 (byN b 0)),.sc true (.int .i64 (byN b 1)),.sl true byS (b.sub 4 (d7N b).toNat) none],.sc true (.int .i64 0)]))
  | _=>.bad 344
def FJoinK:List AV→RT AV
  | [.agg [.sc false (.int .i64 p),.sl false [.int .u8] d none]]=>need false (join7E p d==0) 345 (.ok (.tup [asl byS (join7D p d),.sc true (.int .i64 0)]))
  | _=>.bad 345
theorem de7_tree (b:D):treeF (evF Tryz.prog (gam ([])) (lam ([])) 100 69) [asl byS b] =
RT.br (decide ((↑(D.len b):Int)<4)) (RT.ok (AV.tup [AV.agg [zk 0,zk 0,zz],zk 71])) (RT.br (decide ((0:Int)≤0∧0<(↑(D.len b):Int))) (RT.br (decide ((0:Int)≤1∧1<(↑(D.len b):Int))) (RT.br (decide ((0:Int)≤2∧2<(↑(D.len b):Int))) (RT.br true (RT.br (decide ((0:Int)≤3∧3<(↑(D.len b):Int))) (RT.br (decide (IntKind.wrap IntKind.i64 (↑(BitVec.toNat (BitVec.ofInt (IntKind.bits IntKind.i64) (IntKind.wrap IntKind.i64 (IntKind.wrap IntKind.i64 (↑(BitVec.toNat (BitVec.ofInt (IntKind.bits IntKind.i64) (Int.ofNat 0) ||| BitVec.ofInt (IntKind.bits IntKind.i64) (IntKind.wrap IntKind.i64 (D.toI (D.cell (D.get b (Int.toNat (Int.ofNat (Nat.succ 1)))) 0))))):Int)*2 ^ min (Int.toNat 8) (IntKind.bits IntKind.i64))) ||| BitVec.ofInt (IntKind.bits IntKind.i64) (IntKind.wrap IntKind.i64 (D.toI (D.cell (D.get b (Int.toNat (Int.ofNat (Nat.succ 2)))) 0))))):Int)<4)) (RT.ok (AV.tup [AV.agg [zk 0,zk 0,zz],zk 71])) (RT.br (decide ((↑(D.len b):Int)<IntKind.wrap IntKind.i64 (↑(BitVec.toNat (BitVec.ofInt (IntKind.bits IntKind.i64) (IntKind.wrap IntKind.i64 (IntKind.wrap IntKind.i64 (↑(BitVec.toNat (BitVec.ofInt (IntKind.bits IntKind.i64) (Int.ofNat 0) ||| BitVec.ofInt (IntKind.bits IntKind.i64) (IntKind.wrap IntKind.i64 (D.toI (D.cell (D.get b (Int.toNat (Int.ofNat (Nat.succ 1)))) 0))))):Int)*2 ^ min (Int.toNat 8) (IntKind.bits IntKind.i64))) ||| BitVec.ofInt (IntKind.bits IntKind.i64) (IntKind.wrap IntKind.i64 (D.toI (D.cell (D.get b (Int.toNat (Int.ofNat (Nat.succ 2)))) 0))))):Int))) (RT.ok (AV.tup [AV.agg [zk 0,zk 0,zz],zk 71])) (RT.br (decide ((0:Int)≤4∧4≤IntKind.wrap IntKind.i64 (↑(BitVec.toNat (BitVec.ofInt (IntKind.bits IntKind.i64) (IntKind.wrap IntKind.i64 (IntKind.wrap IntKind.i64 (↑(BitVec.toNat (BitVec.ofInt (IntKind.bits IntKind.i64) (Int.ofNat 0) ||| BitVec.ofInt (IntKind.bits IntKind.i64) (IntKind.wrap IntKind.i64 (D.toI (D.cell (D.get b (Int.toNat (Int.ofNat (Nat.succ 1)))) 0))))):Int)*2 ^ min (Int.toNat 8) (IntKind.bits IntKind.i64))) ||| BitVec.ofInt (IntKind.bits IntKind.i64) (IntKind.wrap IntKind.i64 (D.toI (D.cell (D.get b (Int.toNat (Int.ofNat (Nat.succ 2)))) 0))))):Int)∧IntKind.wrap IntKind.i64 (↑(BitVec.toNat (BitVec.ofInt (IntKind.bits IntKind.i64) (IntKind.wrap IntKind.i64 (IntKind.wrap IntKind.i64 (↑(BitVec.toNat (BitVec.ofInt (IntKind.bits IntKind.i64) (Int.ofNat 0) ||| BitVec.ofInt (IntKind.bits IntKind.i64) (IntKind.wrap IntKind.i64 (D.toI (D.cell (D.get b (Int.toNat (Int.ofNat (Nat.succ 1)))) 0))))):Int)*2 ^ min (Int.toNat 8) (IntKind.bits IntKind.i64))) ||| BitVec.ofInt (IntKind.bits IntKind.i64) (IntKind.wrap IntKind.i64 (D.toI (D.cell (D.get b (Int.toNat (Int.ofNat (Nat.succ 2)))) 0))))):Int)≤IntKind.wrap IntKind.i64 (↑(BitVec.toNat (BitVec.ofInt (IntKind.bits IntKind.i64) (IntKind.wrap IntKind.i64 (IntKind.wrap IntKind.i64 (↑(BitVec.toNat (BitVec.ofInt (IntKind.bits IntKind.i64) (Int.ofNat 0) ||| BitVec.ofInt (IntKind.bits IntKind.i64) (IntKind.wrap IntKind.i64 (D.toI (D.cell (D.get b (Int.toNat (Int.ofNat (Nat.succ 1)))) 0))))):Int)*2 ^ min (Int.toNat 8) (IntKind.bits IntKind.i64))) ||| BitVec.ofInt (IntKind.bits IntKind.i64) (IntKind.wrap IntKind.i64 (D.toI (D.cell (D.get b (Int.toNat (Int.ofNat (Nat.succ 2)))) 0))))):Int)∧IntKind.wrap IntKind.i64 (↑(BitVec.toNat (BitVec.ofInt (IntKind.bits IntKind.i64) (IntKind.wrap IntKind.i64 (IntKind.wrap IntKind.i64 (↑(BitVec.toNat (BitVec.ofInt (IntKind.bits IntKind.i64) (Int.ofNat 0) ||| BitVec.ofInt (IntKind.bits IntKind.i64) (IntKind.wrap IntKind.i64 (D.toI (D.cell (D.get b (Int.toNat (Int.ofNat (Nat.succ 1)))) 0))))):Int)*2 ^ min (Int.toNat 8) (IntKind.bits IntKind.i64))) ||| BitVec.ofInt (IntKind.bits IntKind.i64) (IntKind.wrap IntKind.i64 (D.toI (D.cell (D.get b (Int.toNat (Int.ofNat (Nat.succ 2)))) 0))))):Int)≤(↑(D.len b):Int))) (RT.ok (AV.tup [AV.agg [zi (IntKind.wrap IntKind.i64 (↑(BitVec.toNat (BitVec.ofInt (IntKind.bits IntKind.i64) (Int.ofNat 0) ||| BitVec.ofInt (IntKind.bits IntKind.i64) (IntKind.wrap IntKind.i64 (D.toI (D.cell (D.get b (Int.toNat (Int.ofNat 0))) 0))))):Int)),zi (IntKind.wrap IntKind.i64 (↑(BitVec.toNat (BitVec.ofInt (IntKind.bits IntKind.i64) (Int.ofNat 0) ||| BitVec.ofInt (IntKind.bits IntKind.i64) (IntKind.wrap IntKind.i64 (D.toI (D.cell (D.get b (Int.toNat (Int.ofNat (Nat.succ 0)))) 0))))):Int)),zs zU (D.app (D.l []) (D.sub b 4 (Int.toNat (IntKind.wrap IntKind.i64 (↑(BitVec.toNat (BitVec.ofInt (IntKind.bits IntKind.i64) (IntKind.wrap IntKind.i64 (IntKind.wrap IntKind.i64 (↑(BitVec.toNat (BitVec.ofInt (IntKind.bits IntKind.i64) (Int.ofNat 0) ||| BitVec.ofInt (IntKind.bits IntKind.i64) (IntKind.wrap IntKind.i64 (D.toI (D.cell (D.get b (Int.toNat (Int.ofNat (Nat.succ 1)))) 0))))):Int)*2 ^ min (Int.toNat 8) (IntKind.bits IntKind.i64))) ||| BitVec.ofInt (IntKind.bits IntKind.i64) (IntKind.wrap IntKind.i64 (D.toI (D.cell (D.get b (Int.toNat (Int.ofNat (Nat.succ 2)))) 0))))):Int)))))],zk 0])) (RT.bad 37)))) (RT.bad 42)) (RT.bad 25)) (RT.bad 42)) (RT.bad 42)) (RT.bad 42)):=by rw [← fvF_eq Tryz.prog (gam ([])) (lam ([])) false 100 69]; kernel_rfl
theorem rde7_tree (b:D):treeF (evF Tryz.prog (gam ([])) (lam ([])) 100 34) [asl byS b] =
RT.br (decide ((↑(D.len b):Int)<4)) (RT.ok (AV.tup [AV.agg [zk 0,zk 0,zz],zk 71])) (RT.br (decide ((0:Int)≤2∧2<(↑(D.len b):Int))) (RT.br (decide ((0:Int)≤3∧3<(↑(D.len b):Int))) (RT.br (decide (IntKind.wrap IntKind.i64 (IntKind.wrap IntKind.i64 (256*IntKind.wrap IntKind.i64 (D.toI (D.cell (D.get b 2) 0)))+IntKind.wrap IntKind.i64 (D.toI (D.cell (D.get b 3) 0)))<4)) (RT.ok (AV.tup [AV.agg [zk 0,zk 0,zz],zk 71])) (RT.br (decide ((↑(D.len b):Int)<IntKind.wrap IntKind.i64 (IntKind.wrap IntKind.i64 (256*IntKind.wrap IntKind.i64 (D.toI (D.cell (D.get b 2) 0)))+IntKind.wrap IntKind.i64 (D.toI (D.cell (D.get b 3) 0))))) (RT.ok (AV.tup [AV.agg [zk 0,zk 0,zz],zk 71])) (RT.br (decide ((0:Int)≤0∧0<(↑(D.len b):Int))) (RT.br (decide ((0:Int)≤1∧1<(↑(D.len b):Int))) (RT.br (decide ((0:Int)≤4∧4≤IntKind.wrap IntKind.i64 (IntKind.wrap IntKind.i64 (256*IntKind.wrap IntKind.i64 (D.toI (D.cell (D.get b 2) 0)))+IntKind.wrap IntKind.i64 (D.toI (D.cell (D.get b 3) 0)))∧IntKind.wrap IntKind.i64 (IntKind.wrap IntKind.i64 (256*IntKind.wrap IntKind.i64 (D.toI (D.cell (D.get b 2) 0)))+IntKind.wrap IntKind.i64 (D.toI (D.cell (D.get b 3) 0)))≤(↑(D.len b):Int)∧(↑(D.len b):Int)≤(↑(D.len b):Int))) (RT.ok (AV.tup [AV.agg [zi (IntKind.wrap IntKind.i64 (D.toI (D.cell (D.get b 0) 0))),zi (IntKind.wrap IntKind.i64 (D.toI (D.cell (D.get b 1) 0))),zs zU (D.app (D.l []) (D.sub b 4 (Int.toNat (IntKind.wrap IntKind.i64 (IntKind.wrap IntKind.i64 (256*IntKind.wrap IntKind.i64 (D.toI (D.cell (D.get b 2) 0)))+IntKind.wrap IntKind.i64 (D.toI (D.cell (D.get b 3) 0)))))))],zk 0])) (RT.bad 37)) (RT.bad 42)) (RT.bad 42)))) (RT.bad 42)) (RT.bad 42)):=by rw [← fvF_eq Tryz.prog (gam ([])) (lam ([])) false 100 34]; kernel_rfl
theorem le_app0 {kn kn':Bool} {es:List Sh} {x:D}:Le (.sl kn es (D.app (.l []) x) none) (.sl kn' es x none):=by
  have e:(D.app (.l []) x).toL=x.toL:=by
    unfold D.app
    rw [show (D.l []).toL=[] from toL_l (Nat.zero_le _),List.nil_append]
    exact toL_l x.len_le
  exact le_sl (by unfold D.len; rw [e]) fun i _=>by unfold D.get; rw [e]; exact eqEl_refl _ _ _
theorem or_one {x:Int} (h:0≤x∧x<256):IntKind.wrap IntKind.i64 (↑(BitVec.toNat (BitVec.ofInt (IntKind.bits IntKind.i64) (Int.ofNat 0) ||| BitVec.ofInt (IntKind.bits IntKind.i64) (IntKind.wrap IntKind.i64 x))):Int)=x:=by
  obtain ⟨a,rfl⟩:=Int.eq_ofNat_of_zero_le h.1
  have ha:a<256:=by omega
  rw [i64_id (n:=(a:Int)) (by omega)]
  show IntKind.wrap IntKind.i64 (↑(BitVec.toNat (BitVec.ofInt 64 (0:Int) ||| BitVec.ofInt 64 (a:Int))):Int)=_
  rw [BitVec.toNat_or,BitVec.toNat_ofInt,BitVec.toNat_ofInt]
  have e1:((0:Int) % ((2 ^ 64:Nat):Int)).toNat=0:=by decide
  have e2:((a:Int) % ((2 ^ 64:Nat):Int)).toNat=a:=by omega
  rw [e1,e2,Nat.zero_or,i64_id (by omega)]
theorem or_two {x y:Int} (hx:0≤x∧x<256) (hy:0≤y∧y<256):IntKind.wrap IntKind.i64 (↑(BitVec.toNat (BitVec.ofInt (IntKind.bits IntKind.i64) (IntKind.wrap IntKind.i64 (x*2 ^ min (Int.toNat 8) (IntKind.bits IntKind.i64))) ||| BitVec.ofInt (IntKind.bits IntKind.i64) (IntKind.wrap IntKind.i64 y))):Int)=256*x+y:=by
  obtain ⟨a,rfl⟩:=Int.eq_ofNat_of_zero_le hx.1
  obtain ⟨c,rfl⟩:=Int.eq_ofNat_of_zero_le hy.1
  have hm:(2:Int) ^ min (Int.toNat 8) (IntKind.bits IntKind.i64)=256:=by decide
  rw [hm,i64_id (n:=(c:Int)) (by omega),i64_id (n:=(a:Int)*256) (by omega)]
  show IntKind.wrap IntKind.i64 (↑(BitVec.toNat (BitVec.ofInt 64 ((a:Int)*256) ||| BitVec.ofInt 64 (c:Int))):Int)=_
  rw [BitVec.toNat_or,BitVec.toNat_ofInt,BitVec.toNat_ofInt]
  have e1:(((a:Int)*256) % ((2 ^ 64:Nat):Int)).toNat=2 ^ 8*a:=by omega
  have e2:((c:Int) % ((2 ^ 64:Nat):Int)).toNat=c:=by omega
  rw [e1,e2,← Nat.two_pow_add_eq_or_of_lt (by omega),i64_id (by omega)]
  omega
theorem dec7_soundF:SoundF Tryz.prog 69 (pureS Tryz.prog 69 FDec7):=by
  refine pure_in (gs:=[]) (ls:=[]) mixed trivial trivial 69 100 fun args K ho H=>?_
  unfold FDec7 at H
  split at H
  · rename_i b
    obtain ⟨hc,H⟩:=need_holds H
    rw [de7_tree]
    have hb:∀ i,i<b.len→0≤byN b i∧byN b i<256:=odt hc
    have hl:=b.len_le
    have A:∀ v,d7B b=v→K (.tup [.agg [ai (bif v then byN b 0 else 0),ai (bif v then byN b 1 else 0),asl byS (bif v then b.sub 4 (d7N b).toNat else .l [])],ai (bif v then 0 else 71)]):=by rintro _ rfl; exact H
    have no:d7B b=false→∃ y,Le (.tup [.agg [.sc true (.int .i64 0),.sc true (.int .i64 0),.sc true (.slice none 0 0)],.sc true (.int .i64 71)]) y∧K y:=fun h=>⟨_,le_two (le_agg (leL_cons (le_int rfl) (leL_cons (le_int rfl) (leL_cons (le_nil rfl) fun _ _ h=>h)))) (le_int rfl),A false h⟩
    refine ⟨fun h1=>no ?_,fun h1=>?_⟩
    · unfold d7B; rw [Bool.and_eq_false_iff]; left; exact def_ (by have:=odt h1; omega)
    have h4:4≤b.len:=by have:=odf h1; omega
    have o0:=or_one (hb 0 (by omega))
    have o1:=or_one (hb 1 (by omega))
    have o2:=or_one (hb 2 (by omega))
    have o3:=or_two (hb 2 (by omega)) (hb 3 (by omega))
    unfold byN at o0 o1 o2 o3
    rw [show Int.toNat (Int.ofNat 0)=0 from rfl,show Int.toNat (Int.ofNat (Nat.succ 0))=1 from rfl,show Int.toNat (Int.ofNat (Nat.succ 1))=2 from rfl,show Int.toNat (Int.ofNat (Nat.succ 2))=3 from rfl,o0,o1,o2,o3]
    have hN:256*D.toI (D.cell (D.get b 2) 0)+D.toI (D.cell (D.get b 3) 0)=d7N b:=rfl
    rw [hN]
    refine holds_tt (det (by omega)) (holds_tt (det (by omega)) (holds_tt (det (by omega)) (holds_t (holds_tt (det (by omega)) ⟨fun h2=>no ?_,fun h2=>⟨fun h3=>no ?_,fun h3=>?_⟩⟩))))
    · unfold d7B; rw [Bool.and_eq_false_iff]; right; exact def_ (by have:=odt h2; omega)
    · unfold d7B; rw [Bool.and_eq_false_iff]; right; exact def_ (by have:=odt h3; omega)
    · have h2:=odf h2
      have h3:=odf h3
      exact holds_tt (det (by omega)) ⟨_,le_two (le_agg (leL_cons (Le.refl _) (leL_cons (Le.refl _) (leL_cons le_app0 fun _ _ h=>h)))) (le_int rfl),A true (by unfold d7B; rw [det h4,det ⟨by omega,by omega⟩]; rfl)⟩
  · exact H.elim
theorem rdec7_soundF:SoundF Tryz.prog 34 (pureS Tryz.prog 34 FDec7):=by
  refine pure_in (gs:=[]) (ls:=[]) mixed trivial trivial 34 100 fun args K ho H=>?_
  unfold FDec7 at H
  split at H
  · rename_i b
    obtain ⟨hc,H⟩:=need_holds H
    rw [rde7_tree]
    have hb:∀ i,i<b.len→0≤byN b i∧byN b i<256:=odt hc
    have hl:=b.len_le
    have A:∀ v,d7B b=v→K (.tup [.agg [ai (bif v then byN b 0 else 0),ai (bif v then byN b 1 else 0),asl byS (bif v then b.sub 4 (d7N b).toNat else .l [])],ai (bif v then 0 else 71)]):=by rintro _ rfl; exact H
    have no:d7B b=false→∃ y,Le (.tup [.agg [.sc true (.int .i64 0),.sc true (.int .i64 0),.sc true (.slice none 0 0)],.sc true (.int .i64 71)]) y∧K y:=fun h=>⟨_,le_two (le_agg (leL_cons (le_int rfl) (leL_cons (le_int rfl) (leL_cons (le_nil rfl) fun _ _ h=>h)))) (le_int rfl),A false h⟩
    refine ⟨fun h1=>no ?_,fun h1=>?_⟩
    · unfold d7B; rw [Bool.and_eq_false_iff]; left; exact def_ (by have:=odt h1; omega)
    have h4:4≤b.len:=by have:=odf h1; omega
    have b0:=hb 0 (by omega)
    have b1:=hb 1 (by omega)
    have b2:=hb 2 (by omega)
    have b3:=hb 3 (by omega)
    unfold byN at b0 b1 b2 b3
    rw [i64_id (n:=D.toI (D.cell (D.get b 0) 0)) (by omega),i64_id (n:=D.toI (D.cell (D.get b 1) 0)) (by omega),i64_id (n:=D.toI (D.cell (D.get b 2) 0)) (by omega),i64_id (n:=D.toI (D.cell (D.get b 3) 0)) (by omega),i64_id (n:=256*D.toI (D.cell (D.get b 2) 0)) (by omega),i64_id (n:=256*D.toI (D.cell (D.get b 2) 0)+D.toI (D.cell (D.get b 3) 0)) (by omega)]
    have hN:256*D.toI (D.cell (D.get b 2) 0)+D.toI (D.cell (D.get b 3) 0)=d7N b:=rfl
    rw [hN]
    refine holds_tt (det (by omega)) (holds_tt (det (by omega)) ⟨fun h2=>no ?_,fun h2=>⟨fun h3=>no ?_,fun h3=>?_⟩⟩)
    · unfold d7B; rw [Bool.and_eq_false_iff]; right; exact def_ (by have:=odt h2; omega)
    · unfold d7B; rw [Bool.and_eq_false_iff]; right; exact def_ (by have:=odt h3; omega)
    · have h2:=odf h2
      have h3:=odf h3
      exact holds_tt (det (by omega)) (holds_tt (det (by omega)) (holds_tt (det (by omega)) ⟨_,le_two (le_agg (leL_cons (Le.refl _) (leL_cons (Le.refl _) (leL_cons le_app0 fun _ _ h=>h)))) (le_int rfl),A true (by unfold d7B; rw [det h4,det ⟨by omega,by omega⟩]; rfl)⟩))
  · exact H.elim
def dooG (P:Program):List (FuncId×Spec):=(167,pureS P 167 FAs) :: (181,pureS P 181 FMay) :: (183,pureS P 183 FStep) :: doG P
theorem dooG_ok:GamL Tryz.prog (dooG Tryz.prog):=⟨as_soundF,may_soundF,step_soundF,doG_ok⟩
theorem doLs_ok:LamL Tryz.prog (doLs Tryz.prog):=⟨do_loop,strL_ok⟩
abbrev doo_treeT_1 (r:D) (mc mt mf wt st id rq:Int) (d:D) (ct tm nk e ic ii:Int) (ix:D) (ac ax:Int) (ad:D) (tk:Int):=RT.br (rfcN st e==4) (RT.ok (AV.tup [AV.agg [zi (rfcN st e),zi (DoV.id (actsF (DoC.mk r mc mt mf wt (rfcN st e) d ic ii ix ac ax ad tk (rfcD st e) (rfcD st e)) (rfcD st e) (D.len (rfcD st e) - 0) 0 (DoV.mk id rq ct tm nk (D.l [])))),zi (DoV.rq (actsF (DoC.mk r mc mt mf wt (rfcN st e) d ic ii ix ac ax ad tk (rfcD st e) (rfcD st e)) (rfcD st e) (D.len (rfcD st e) - 0) 0 (DoV.mk id rq ct tm nk (D.l [])))),zs zO d,zi (DoV.ct (actsF (DoC.mk r mc mt mf wt (rfcN st e) d ic ii ix ac ax ad tk (rfcD st e) (rfcD st e)) (rfcD st e) (D.len (rfcD st e) - 0) 0 (DoV.mk id rq ct tm nk (D.l [])))),zi (DoV.tm (actsF (DoC.mk r mc mt mf wt (rfcN st e) d ic ii ix ac ax ad tk (rfcD st e) (rfcD st e)) (rfcD st e) (D.len (rfcD st e) - 0) 0 (DoV.mk id rq ct tm nk (D.l [])))),zi (DoV.nk (actsF (DoC.mk r mc mt mf wt (rfcN st e) d ic ii ix ac ax ad tk (rfcD st e) (rfcD st e)) (rfcD st e) (D.len (rfcD st e) - 0) 0 (DoV.mk id rq ct tm nk (D.l []))))],zs zC (DoV.out (actsF (DoC.mk r mc mt mf wt (rfcN st e) d ic ii ix ac ax ad tk (rfcD st e) (rfcD st e)) (rfcD st e) (D.len (rfcD st e) - 0) 0 (DoV.mk id rq ct tm nk (D.l [])))),zs zN (rfcD st e)])) (RT.br (!rfcN st e==5) (RT.ok (AV.tup [AV.agg [zi (rfcN st e),zi (DoV.id (actsF (DoC.mk r mc mt mf wt (rfcN st e) d ic ii ix ac ax ad tk (rfcD st e) (rfcD st e)) (rfcD st e) (D.len (rfcD st e) - 0) 0 (DoV.mk id rq ct tm nk (D.l [])))),zi (DoV.rq (actsF (DoC.mk r mc mt mf wt (rfcN st e) d ic ii ix ac ax ad tk (rfcD st e) (rfcD st e)) (rfcD st e) (D.len (rfcD st e) - 0) 0 (DoV.mk id rq ct tm nk (D.l [])))),zs zO d,zi (DoV.ct (actsF (DoC.mk r mc mt mf wt (rfcN st e) d ic ii ix ac ax ad tk (rfcD st e) (rfcD st e)) (rfcD st e) (D.len (rfcD st e) - 0) 0 (DoV.mk id rq ct tm nk (D.l [])))),zk 0,zi (DoV.nk (actsF (DoC.mk r mc mt mf wt (rfcN st e) d ic ii ix ac ax ad tk (rfcD st e) (rfcD st e)) (rfcD st e) (D.len (rfcD st e) - 0) 0 (DoV.mk id rq ct tm nk (D.l []))))],zs zC (DoV.out (actsF (DoC.mk r mc mt mf wt (rfcN st e) d ic ii ix ac ax ad tk (rfcD st e) (rfcD st e)) (rfcD st e) (D.len (rfcD st e) - 0) 0 (DoV.mk id rq ct tm nk (D.l [])))),zs zN (rfcD st e)])) (RT.ok (AV.tup [AV.agg [zi (rfcN st e),zi (DoV.id (actsF (DoC.mk r mc mt mf wt (rfcN st e) d ic ii ix ac ax ad tk (rfcD st e) (rfcD st e)) (rfcD st e) (D.len (rfcD st e) - 0) 0 (DoV.mk id rq ct tm nk (D.l [])))),zi (DoV.rq (actsF (DoC.mk r mc mt mf wt (rfcN st e) d ic ii ix ac ax ad tk (rfcD st e) (rfcD st e)) (rfcD st e) (D.len (rfcD st e) - 0) 0 (DoV.mk id rq ct tm nk (D.l [])))),zs zO d,zi (DoV.ct (actsF (DoC.mk r mc mt mf wt (rfcN st e) d ic ii ix ac ax ad tk (rfcD st e) (rfcD st e)) (rfcD st e) (D.len (rfcD st e) - 0) 0 (DoV.mk id rq ct tm nk (D.l [])))),zi (DoV.tm (actsF (DoC.mk r mc mt mf wt (rfcN st e) d ic ii ix ac ax ad tk (rfcD st e) (rfcD st e)) (rfcD st e) (D.len (rfcD st e) - 0) 0 (DoV.mk id rq ct tm nk (D.l [])))),zi (DoV.nk (actsF (DoC.mk r mc mt mf wt (rfcN st e) d ic ii ix ac ax ad tk (rfcD st e) (rfcD st e)) (rfcD st e) (D.len (rfcD st e) - 0) 0 (DoV.mk id rq ct tm nk (D.l []))))],zs zC (DoV.out (actsF (DoC.mk r mc mt mf wt (rfcN st e) d ic ii ix ac ax ad tk (rfcD st e) (rfcD st e)) (rfcD st e) (D.len (rfcD st e) - 0) 0 (DoV.mk id rq ct tm nk (D.l [])))),zs zN (rfcD st e)])))
def doo_treeT (r:D) (mc mt mf wt st id rq:Int) (d:D) (ct tm nk e ic ii:Int) (ix:D) (ac ax:Int) (ad:D) (tk:Int):RT AV :=
RT.br (isRl r) (RT.br (!mayB (rlM r) (rlG r) mc mt mf wt st id rq d ct tm nk tk) (RT.ok (AV.tup [AV.agg [zi st,zi id,zi rq,zs zO d,zi ct,zi tm,zi nk],zz,zz])) (RT.br (rfcE st e != 0) (RT.ok (AV.tup [AV.agg [zi st,zi id,zi rq,zs zO d,zi ct,zi tm,zi nk],zz,zz])) (RT.br (decide ((↑(D.len (rfcD st e)):Int)=(↑(D.len (rfcD st e)):Int)∧0≤D.len (rfcD st e)∧D.len (rfcD st e)≤8∧(0:Nat)≤0)) (RT.br (decide (6≤rfcN st e)) (RT.br (decide (rfcN st e≤8)) (RT.ok (AV.tup [AV.agg [zi (rfcN st e),zi (DoV.id (actsF (DoC.mk r mc mt mf wt (rfcN st e) d ic ii ix ac ax ad tk (rfcD st e) (rfcD st e)) (rfcD st e) (D.len (rfcD st e) - 0) 0 (DoV.mk id rq ct tm nk (D.l [])))),zi (DoV.rq (actsF (DoC.mk r mc mt mf wt (rfcN st e) d ic ii ix ac ax ad tk (rfcD st e) (rfcD st e)) (rfcD st e) (D.len (rfcD st e) - 0) 0 (DoV.mk id rq ct tm nk (D.l [])))),zs zO d,zi (DoV.ct (actsF (DoC.mk r mc mt mf wt (rfcN st e) d ic ii ix ac ax ad tk (rfcD st e) (rfcD st e)) (rfcD st e) (D.len (rfcD st e) - 0) 0 (DoV.mk id rq ct tm nk (D.l [])))),zi (DoV.tm (actsF (DoC.mk r mc mt mf wt (rfcN st e) d ic ii ix ac ax ad tk (rfcD st e) (rfcD st e)) (rfcD st e) (D.len (rfcD st e) - 0) 0 (DoV.mk id rq ct tm nk (D.l [])))),zi (DoV.nk (actsF (DoC.mk r mc mt mf wt (rfcN st e) d ic ii ix ac ax ad tk (rfcD st e) (rfcD st e)) (rfcD st e) (D.len (rfcD st e) - 0) 0 (DoV.mk id rq ct tm nk (D.l []))))],zs zC (DoV.out (actsF (DoC.mk r mc mt mf wt (rfcN st e) d ic ii ix ac ax ad tk (rfcD st e) (rfcD st e)) (rfcD st e) (D.len (rfcD st e) - 0) 0 (DoV.mk id rq ct tm nk (D.l [])))),zs zN (rfcD st e)])) (doo_treeT_1 r mc mt mf wt st id rq d ct tm nk e ic ii ix ac ax ad tk)) (doo_treeT_1 r mc mt mf wt st id rq d ct tm nk e ic ii ix ac ax ad tk)) (RT.bad 210)))) (RT.bad 272)
theorem doo_tree (r:D) (mc mt mf wt st id rq:Int) (d:D) (ct tm nk e ic ii:Int) (ix:D) (ac ax:Int) (ad:D) (tk:Int):treeF (evF Tryz.prog (gam (dooG Tryz.prog)) (lam (doLs Tryz.prog)) 100 164) [.agg [asl rlS r,ai mc,ai mt,ai mf,ai wt],autA st id rq d ct tm nk,ai e,ctlA ic ii ix,ctlA ac ax ad,ai tk]=doo_treeT r mc mt mf wt st id rq d ct tm nk e ic ii ix ac ax ad tk:=by rw [← fvF_eq Tryz.prog (gam (dooG Tryz.prog)) (lam (doLs Tryz.prog)) false 100 164]; kernel_rfl
structure AuV where
  (st id rq:Int)
  d:D
  (ct tm nk:Int)
structure DoneV where
  a:AuV
  (out did:D)
abbrev auvA (a:AuV):AV:=autA a.st a.id a.rq a.d a.ct a.tm a.nk
abbrev doneA (w:DoneV):AV:=.tup [auvA w.a,asl ctS w.out,asl acS w.did]
def tmdB (s:Int):Bool:=decide (4≤s∧s≤8)
def doK (_ _ mc mt mf wt st e:Int) (d:D) (ic ii:Int) (ix:D) (ac ax:Int) (ad:D) (tk:Int):DoC:=⟨.l [],mc,mt,mf,wt,rfcN st e,d,ic,ii,ix,ac,ax,ad,tk,rfcD st e,rfcD st e⟩
def doR (m g mc mt mf wt:Int) (a:AuV) (e ic ii:Int) (ix:D) (ac ax:Int) (ad:D) (tk:Int):DoV:=actsF (doK m g mc mt mf wt a.st e a.d ic ii ix ac ax ad tk) (rfcD a.st e) (rfcD a.st e).len 0 ⟨a.id,a.rq,a.ct,a.tm,a.nk,.l []⟩
def doB (m g mc mt mf wt:Int) (a:AuV) (e tk:Int):Bool:=mayB m g mc mt mf wt a.st a.id a.rq a.d a.ct a.tm a.nk tk&&rfcE a.st e==0
def doW (m g mc mt mf wt:Int) (a:AuV) (e ic ii:Int) (ix:D) (ac ax:Int) (ad:D) (tk:Int):DoneV :=
  bif doB m g mc mt mf wt a e tk then
    ⟨⟨rfcN a.st e,(doR m g mc mt mf wt a e ic ii ix ac ax ad tk).id,(doR m g mc mt mf wt a e ic ii ix ac ax ad tk).rq,a.d,(doR m g mc mt mf wt a e ic ii ix ac ax ad tk).ct,bif tmdB (rfcN a.st e) then (doR m g mc mt mf wt a e ic ii ix ac ax ad tk).tm else 0,(doR m g mc mt mf wt a e ic ii ix ac ax ad tk).nk⟩,(doR m g mc mt mf wt a e ic ii ix ac ax ad tk).out,rfcD a.st e⟩
  else ⟨a,.l [],.l []⟩
def FDo:List AV→RT AV
  | [.agg [.sl false [.int .i64,.int .i64,.int .i64,.int .i64,.int .i64,.int .i64,.bool] r none,.sc false (.int .i64 mc),.sc false (.int .i64 mt),.sc false (.int .i64 mf),.sc false (.int .i64 wt)],
     .agg [.sc false (.int .i64 st),.sc false (.int .i64 id),.sc false (.int .i64 rq),.sl false [.int .i64,.sl [.int .u8]] d none,.sc false (.int .i64 ct),.sc false (.int .i64 tm),.sc false (.int .i64 nk)],.sc false (.int .i64 e),
     .agg [.sc false (.int .i64 ic),.sc false (.int .i64 ii),.sl false [.int .u8] ix none],.agg [.sc false (.int .i64 ac),.sc false (.int .i64 ax),.sl false [.int .u8] ad none],.sc false (.int .i64 tk)]=>need false (isRl r) 274 (.ok (doneA (doW (rlM r) (rlG r) mc mt mf wt ⟨st,id,rq,d,ct,tm,nk⟩ e ic ii ix ac ax ad tk)))
  | _=>.bad 274
theorem rfc_short:(rfcT.all fun row=>row.all fun o=>match o with | some p=>decide (p.1.length≤3) | none=>true)=true:=by kernel_rfl
theorem rfcX_len {st e:Int} {p:List Int×Int} (h:rfcX st e=some p):p.1.length≤3:=by
  unfold rfcX at h
  cases hb:rfcB st e
  · rw [hb] at h; cases h
  · rw [hb,cond_true] at h
    rw [List.getD_eq_getElem?_getD,List.getD_eq_getElem?_getD] at h
    cases hr:rfcT[e.toNat - 1]? with
    | none=>rw [hr] at h; simp at h
    | some row =>
      rw [hr,Option.getD_some] at h
      cases ho:row[st.toNat]? with
      | none=>rw [ho] at h; simp at h
      | some o =>
        rw [ho,Option.getD_some] at h
        subst h
        have:=List.all_eq_true.1 (List.all_eq_true.1 rfc_short row (List.mem_of_getElem? hr)) _ (List.mem_of_getElem? ho)
        simpa using this
theorem rfcD_len (st e:Int):(rfcD st e).len≤3:=by
  unfold rfcD
  cases h:rfcX st e with
  | none=>simp [D.len,D.toL,D.raw]
  | some p =>
    have:=rfcX_len h
    unfold D.len
    rw [toL_l (by rw [List.length_map]; unfold maxLen; omega),List.length_map]
    exact this
theorem acts_r {r:D} {m g mc mt mf wt st e:Int} {d:D} {ic ii:Int} {ix:D} {ac ax:Int} {ad:D} {tk:Int} {did:D}:∀ {n i v},actsF ⟨r,mc,mt,mf,wt,rfcN st e,d,ic,ii,ix,ac,ax,ad,tk,rfcD st e,rfcD st e⟩ did n i v=actsF (doK m g mc mt mf wt st e d ic ii ix ac ax ad tk) did n i v
  | 0,_,_=>rfl
  | n+1,_,v=>by
    show actsF _ did n _ (actF _ _ v)=actsF _ did n _ (actF _ _ v)
    rw [acts_r (m:=m) (g:=g)]; rfl
theorem doW_off {m g mc mt mf wt:Int} {a:AuV} {e ic ii:Int} {ix:D} {ac ax:Int} {ad:D} {tk:Int} (h:doB m g mc mt mf wt a e tk=false):doW m g mc mt mf wt a e ic ii ix ac ax ad tk=⟨a,.l [],.l []⟩:=by
  unfold doW; rw [h]; rfl
theorem doW_on {m g mc mt mf wt:Int} {a:AuV} {e ic ii:Int} {ix:D} {ac ax:Int} {ad:D} {tk:Int} (h:doB m g mc mt mf wt a e tk=true):doW m g mc mt mf wt a e ic ii ix ac ax ad tk=⟨⟨rfcN a.st e,(doR m g mc mt mf wt a e ic ii ix ac ax ad tk).id,(doR m g mc mt mf wt a e ic ii ix ac ax ad tk).rq,a.d,(doR m g mc mt mf wt a e ic ii ix ac ax ad tk).ct,bif tmdB (rfcN a.st e) then (doR m g mc mt mf wt a e ic ii ix ac ax ad tk).tm else 0,(doR m g mc mt mf wt a e ic ii ix ac ax ad tk).nk⟩,(doR m g mc mt mf wt a e ic ii ix ac ax ad tk).out,rfcD a.st e⟩:=by
  unfold doW; rw [h]; rfl
theorem le_two' {a b c a' b' c':AV} (h1:Le a a') (h2:Le b b') (h3:Le c c'):Le (.tup [a,b,c]) (.tup [a',b',c']):=le_tup (leL_cons h1 (leL_cons h2 (leL_cons h3 leL_nil)))
theorem le_off {a:AuV} {kn kn':Bool}:Le (.tup [auvA a,.sc kn (.slice none 0 0),.sc kn' (.slice none 0 0)]) (doneA ⟨a,.l [],.l []⟩):=le_two' (Le.refl _) (le_nil nil_len) (le_nil nil_len)
theorem FDo_inv {args:List AV} {K:AV→Prop} (H:(FDo args).holds K):∃ r mc mt mf wt st id rq d ct tm nk e ic ii ix ac ax ad tk,args=[.agg [asl rlS r,ai mc,ai mt,ai mf,ai wt],autA st id rq d ct tm nk,ai e,ctlA ic ii ix,ctlA ac ax ad,ai tk]∧isRl r=true∧K (doneA (doW (rlM r) (rlG r) mc mt mf wt ⟨st,id,rq,d,ct,tm,nk⟩ e ic ii ix ac ax ad tk)):=by
  unfold FDo at H
  split at H
  · rename_i r mc mt mf wt st id rq d ct tm nk e ic ii ix ac ax ad tk
    obtain ⟨hr,H⟩:=need_holds H
    exact ⟨r,mc,mt,mf,wt,st,id,rq,d,ct,tm,nk,e,ic,ii,ix,ac,ax,ad,tk,rfl,hr,H⟩
  · exact H.elim
set_option maxHeartbeats 1000000 in
theorem do_soundF:SoundF Tryz.prog 164 (pureS Tryz.prog 164 FDo):=by
  refine pure_in (gs:=dooG Tryz.prog) (ls:=doLs Tryz.prog) mixed dooG_ok doLs_ok 164 100 fun args K ho H=>?_
  obtain ⟨r,mc,mt,mf,wt,st,id,rq,d,ct,tm,nk,e,ic,ii,ix,ac,ax,ad,tk,hA,hr,H⟩:=FDo_inv H
  · · rw [hA,doo_tree]
      unfold doo_treeT doo_treeT_1
      rw [hr,acts_r (r:=r) (m:=rlM r) (g:=rlG r)]
      refine holds_t ?_
      generalize rlM r=m at H ⊢
      generalize rlG r=g at H ⊢
      have off:doB m g mc mt mf wt ⟨st,id,rq,d,ct,tm,nk⟩ e tk=false→∃ y,Le (.tup [auvA ⟨st,id,rq,d,ct,tm,nk⟩,.sc true (.slice none 0 0),.sc true (.slice none 0 0)]) y∧K y:=fun h=>by
        rw [doW_off h] at H
        exact ⟨_,le_off,H⟩
      refine ⟨fun h1=>off ?_,fun h1=>⟨fun h2=>off ?_,fun h2=>⟨fun _=>?_,fun h=>absurd ⟨rfl,Nat.zero_le _,by have:=rfcD_len st e; omega,Nat.le_refl _⟩ (odf h)⟩⟩⟩
      · unfold doB; rw [Bool.and_eq_false_iff]; exact Or.inl (by simpa using h1)
      · unfold doB; rw [Bool.and_eq_false_iff]; exact Or.inr (by simpa using h2)
      have hb:doB m g mc mt mf wt ⟨st,id,rq,d,ct,tm,nk⟩ e tk=true:=by
        unfold doB; rw [Bool.and_eq_true]; exact ⟨by simpa using h1,by simpa using h2⟩
      clear off
      rw [doW_on hb] at H
      have on:tmdB (rfcN st e)=true→∃ y,Le (doneA ⟨⟨rfcN st e,(doR m g mc mt mf wt ⟨st,id,rq,d,ct,tm,nk⟩ e ic ii ix ac ax ad tk).id,(doR m g mc mt mf wt ⟨st,id,rq,d,ct,tm,nk⟩ e ic ii ix ac ax ad tk).rq,d,(doR m g mc mt mf wt ⟨st,id,rq,d,ct,tm,nk⟩ e ic ii ix ac ax ad tk).ct,(doR m g mc mt mf wt ⟨st,id,rq,d,ct,tm,nk⟩ e ic ii ix ac ax ad tk).tm,(doR m g mc mt mf wt ⟨st,id,rq,d,ct,tm,nk⟩ e ic ii ix ac ax ad tk).nk⟩,(doR m g mc mt mf wt ⟨st,id,rq,d,ct,tm,nk⟩ e ic ii ix ac ax ad tk).out,rfcD st e⟩) y∧K y:=fun ht=>by
        rw [ht] at H
        exact ⟨_,Le.refl _,H⟩
      have no:tmdB (rfcN st e)=false→∃ y,Le (.tup [.agg [ai (rfcN st e),ai (doR m g mc mt mf wt ⟨st,id,rq,d,ct,tm,nk⟩ e ic ii ix ac ax ad tk).id,ai (doR m g mc mt mf wt ⟨st,id,rq,d,ct,tm,nk⟩ e ic ii ix ac ax ad tk).rq,asl opS d,ai (doR m g mc mt mf wt ⟨st,id,rq,d,ct,tm,nk⟩ e ic ii ix ac ax ad tk).ct,.sc true (.int .i64 0),ai (doR m g mc mt mf wt ⟨st,id,rq,d,ct,tm,nk⟩ e ic ii ix ac ax ad tk).nk],asl ctS (doR m g mc mt mf wt ⟨st,id,rq,d,ct,tm,nk⟩ e ic ii ix ac ax ad tk).out,asl acS (rfcD st e)]) y∧K y:=fun ht=>by
        rw [ht] at H
        exact ⟨_,le_two' (le_agg (leL_cons (Le.refl _) (leL_cons (Le.refl _) (leL_cons (Le.refl _) (leL_cons (Le.refl _) (leL_cons (Le.refl _) (leL_cons (le_int rfl) fun _ _ h=>h))))))) (Le.refl _) (Le.refl _),H⟩
      clear H
      unfold tmdB at on no
      refine ⟨fun h3=>⟨fun h4=>on ?_,fun h4=>⟨fun h5=>on ?_,fun h5=>⟨fun h6=>no ?_,fun h6=>on ?_⟩⟩⟩,fun h3=>⟨fun h5=>on ?_,fun h5=>⟨fun h6=>no ?_,fun h6=>on ?_⟩⟩⟩
      all_goals simp only [decide_eq_true_eq,decide_eq_false_iff_not,Bool.not_eq_true',Bool.not_eq_false',beq_iff_eq,beq_eq_false_iff_ne] at *
      all_goals omega
structure RdX where
  r0:D
  (mc0 mt0 mf0 wt0 st0 id0 rq0:Int)
  d0:D
  (ct0 tm0 nk0 s0:Int)
structure RdC where
  r:D
  (mc mt mf wt s:Int)
  d:D
  (ic ii:Int)
  ix:D
  (ac ax:Int)
  ad:D
  tk:Int
  did:D
def RdC.c (y:RdC):DoC:=⟨y.r,y.mc,y.mt,y.mf,y.wt,y.s,y.d,y.ic,y.ii,y.ix,y.ac,y.ax,y.ad,y.tk,y.did,y.did⟩
def neT (d:D) (x:Int) (i:Nat):Bool:=((d.get i).cell 0).toI != x
def hasT (d:D) (x:Int):Bool:=!okFrom (neT d x) d.len 0
def plaI (d:D) (x:Int):Int:=bif okFrom (neT d x) d.len 0 then -1 else ((badFrom (neT d x) d.len 0:Nat):Int)
abbrev plaC:AV:=.fn (.func 294) [] [.ptr 0 0]
def plaH (x:Int):Hp:=⟨[(0,[ai x])],1,[],0,1000,1000⟩
def plaL:Lw:=⟨[0,1,4,7,8],[],1,0,1000,1000⟩
def plaF (a:D×Int×Int) (i:Nat):Tm:=⟨19,[(0,asl opS a.1),(1,plaC),(4,ai 0),(7,ai a.2.2),(8,ai i)],[]⟩
def plaR (a:D×Int×Int) (i:Nat):Tm:=⟨19,[(0,asl opS a.1),(1,plaC),(4,ai i),(7,ai a.2.2),(8,ai i)],[]⟩
def plaDec (F:Tm) (h:Hp):Option ((D×Int×Int)×Nat):=match F,h with
  | ⟨19,[(0,.sl false [.int .i64,.sl [.int .u8]] d none),(1,.fn (.func 294) [] [.ptr 0 0]),(4,.sc false (.int .i64 0)),(7,.sc false (.int .i64 n)),(8,.sc false (.int .i64 0))],[]⟩,⟨[(0,[.sc false (.int .i64 x)])],1,[],0,1000,1000⟩=>some ((d,x,n),0)
  | _,_=>none
def plaT:(D×Int×Int)×Nat→RT Out:=searchT (fun a=>a.1.len) (fun a=>neT a.1 a.2.1) (fun a=>decide (a.2.2=(a.1.len:Int))) plaF plaR (fun a=>plaH a.2.1) .ret
def plaLs (P:Program):List (FuncId×Nat×BSpec):=[(293,0,loopS P plaL plaDec plaT)]
def FPla:List AV→RT AV
  | [.sl false [.int .i64,.sl [.int .u8]] d none,.sc false (.int .i64 x)]=>.ok (ai (plaI d x))
  | _=>.bad 276
theorem pla_body (d:D) (x n i:Int):roundT (⟨[0,1,4,7,8],[],1,0,1000,1000⟩) (evC Tryz.prog (gam ([])) (lam ([])) 100 293 (loopAt 0 (bodyOf Tryz.prog 293)) (⟨19,[(0,asl opS d),(1,plaC),(4,ai 0),(7,ai n),(8,ai i)],[]⟩) (⟨[(0,[ai x])],1,[],0,1000,1000⟩)) =
RT.br (decide (i<n)) (RT.br (decide (0≤i∧i<(↑(D.len d):Int))) (RT.br (D.toI (D.cell (D.get d (Int.toNat i)) 0)==x) (RT.ok (Ex.ret,(Tm.mk 19 [(0,zs zO d),(1,AV.fn (Fn.func 294) [] [AV.ptr 0 0]),(4,zi i),(7,zi n),(8,zi i)] []),(Hp.mk [(0,[zi x])] 1 [] 0 1000 1000))) (RT.ok (Ex.normal,(Tm.mk 19 [(0,zs zO d),(1,AV.fn (Fn.func 294) [] [AV.ptr 0 0]),(4,zi 0),(7,zi n),(8,zi (IntKind.wrap IntKind.i64 (i+1)))] []),(Hp.mk [(0,[zi x])] 1 [] 0 1000 1000)))) (RT.bad 42)) (RT.ok (Ex.exit 0,(Tm.mk 19 [(0,zs zO d),(1,AV.fn (Fn.func 294) [] [AV.ptr 0 0]),(4,zi 0),(7,zi n),(8,zi i)] []),(Hp.mk [(0,[zi x])] 1 [] 0 1000 1000))):=by rw [← fvC_eq Tryz.prog (gam ([])) (lam ([])) false 100]; kernel_rfl
theorem pla_loop:LamE Tryz.prog 293 0 (loopS Tryz.prog plaL plaDec plaT):=by
  refine search_loop (gs:=[]) (ls:=[]) mixed trivial trivial _ 0 100 (by kernel_rfl) plaL (by intro h; cases h) (by intro h; cases h) ?_ ?_
  · intro F h x hx
    unfold plaDec at hx
    split at hx
    · cases hx; exact ⟨rfl,rfl⟩
    · cases hx
  · rintro ⟨d,x,n⟩ i K hn hi H1 H2 H3
    obtain rfl:n=(d.len:Int):=odt hn
    dsimp only at hi H1 H2 H3
    have hm:=d.len_le
    show (roundT plaL (evC _ _ _ _ _ _ (plaF (d,x,d.len) i) (plaH x))).holds _
    unfold plaL plaF plaH
    rw [pla_body]
    simp only [Int.toNat_natCast]
    refine ⟨fun h1=>⟨fun h2=>⟨fun h3=>?_,fun h3=>?_⟩,fun h2=>?_⟩,fun h1=>?_⟩
    all_goals simp only [decide_eq_true_eq,decide_eq_false_iff_not] at *
    · refine H2 (by omega) ?_
      unfold neT; rw [bne_eq_false_iff_eq]; exact eq_of_beq h3
    · rw [wrap_succ (by omega) hm]
      refine H1 (by omega) ?_
      unfold neT; rw [bne,h3]; rfl
    · omega
    · obtain rfl:i=d.len:=by omega
      exact H3 rfl
theorem plaLs_ok:LamL Tryz.prog (plaLs Tryz.prog):=⟨pla_loop,trivial⟩
theorem pla_tree (d:D) (x:Int):treeF (evF Tryz.prog (gam ([])) (lam (plaLs Tryz.prog)) 100 270) [asl opS d,ai x] =
RT.br (decide ((↑(D.len d):Int)=(↑(D.len d):Int))&&true) (RT.br (okFrom (neT d x) (D.len d - 0) 0) (RT.ok (zk (-1))) (RT.ok (zi (↑(badFrom (neT d x) (D.len d - 0) 0):Int)))) (RT.bad 210):=by rw [← fvF_eq Tryz.prog (gam ([])) (lam (plaLs Tryz.prog)) false 100 270]; kernel_rfl
theorem pla_soundF:SoundF Tryz.prog 270 (pureS Tryz.prog 270 FPla):=by
  refine pure_in (gs:=[]) (ls:=plaLs Tryz.prog) mixed trivial plaLs_ok 270 100 fun args K ho H=>?_
  unfold FPla at H
  split at H
  · rename_i d x
    rw [pla_tree]
    refine ⟨fun _=>⟨fun h=>⟨_,le_int ?_,H⟩,fun h=>⟨_,le_int ?_,H⟩⟩,fun h=>by simp at h⟩
    · unfold plaI; rw [show okFrom (neT d x) d.len 0=true from h]; rfl
    · unfold plaI; rw [show okFrom (neT d x) d.len 0=false from h]; rfl
  · exact H.elim
theorem plaI_has (d:D) (x:Int):decide (0≤plaI d x)=hasT d x:=by
  unfold plaI hasT
  cases okFrom (neT d x) d.len 0
  · exact det (Int.natCast_nonneg _)
  · rfl
abbrev optA (t:Int) (x:D):AV:=.agg [ai t,asl byS x]
abbrev rulA (t s k l h g:Int) (b:Bool):AV:=.agg [ai t,ai s,ai k,ai l,ai h,ai g,ab b]
def FOwnO:List AV→RT AV
  | [.agg [.sc false (.int .i64 t),.sl false [.int .u8] x none]]=>.ok (optA t x)
  | _=>.bad 278
def FGood:List AV→RT AV
  | [.agg [.sc false (.int .i64 t),.sc false (.int .i64 s),.sc false (.int .i64 _),.sc false (.int .i64 _),.sc false (.int .i64 _),.sc false (.int .i64 g),.sc false (.bool _)]]=>need false (decide ((0≤g∧g<4294967296)∧1≤s∧s≤8)) 279 (.ok (optA t (beD g s)))
  | _=>.bad 279
theorem owo_tree (t:Int) (x:D):treeF (evF Tryz.prog (gam (cloneG Tryz.prog)) (lam ([])) 100 269) [optA t x] =
RT.ok (AV.agg [zi t,zs zU x]):=by rw [← fvF_eq Tryz.prog (gam (cloneG Tryz.prog)) (lam ([])) false 100 269]; kernel_rfl
theorem goo_tree (t s k l h g:Int) (b:Bool):treeF (evF Tryz.prog (gam (putG Tryz.prog)) (lam ([])) 100 268) [rulA t s k l h g b] =
RT.br (decide ((0≤IntKind.wrap IntKind.u64 g∧IntKind.wrap IntKind.u64 g<18446744073709551616)∧1≤s∧s≤8)) (RT.ok (AV.agg [zi t,AV.sl true zU (beD (IntKind.wrap IntKind.u64 g) s) none])) (RT.bad 240):=by rw [← fvF_eq Tryz.prog (gam (putG Tryz.prog)) (lam ([])) false 100 268]; kernel_rfl
theorem owo_soundF:SoundF Tryz.prog 269 (pureS Tryz.prog 269 FOwnO):=by
  refine pure_in (gs:=cloneG Tryz.prog) (ls:=[]) mixed cloneG_ok trivial 269 100 fun args K ho H=>?_
  unfold FOwnO at H
  split at H
  · rw [owo_tree]
    exact ⟨_,Le.refl _,H⟩
  · exact H.elim
theorem goo_soundF:SoundF Tryz.prog 268 (pureS Tryz.prog 268 FGood):=by
  refine pure_in (gs:=putG Tryz.prog) (ls:=[]) mixed putG_ok trivial 268 100 fun args K ho H=>?_
  unfold FGood at H
  split at H
  · rename_i t s k l h g b
    obtain ⟨hc,H⟩:=need_holds H
    obtain ⟨h0,h1⟩:=odt hc
    rw [goo_tree]
    have e:IntKind.wrap .u64 g=g:=by
      show g % 18446744073709551616=g
      omega
    rw [e]
    exact ⟨fun _=>⟨_,le_agg (leL_cons (Le.refl _) (leL_cons (le_sl rfl fun i _=>eqEl_refl _ _ _) leL_nil)),H⟩,fun hf=>absurd ⟨⟨h0.1,by omega⟩,h1⟩ (odf hf)⟩
  · exact H.elim
def byR (n:Int):Prop:=0≤n∧n<256
instance (n:Int):Decidable (byR n):=by unfold byR; infer_instance
def numB (x:D):Int:=if x.len=2 then 256*byA x 0+byA x 1 else 256*(256*(256*byA x 0+byA x 1)+byA x 2)+byA x 3
def FNum:List AV→RT AV
  | [.agg [.sc false (.int .i64 _),.sl false [.int .u8] x none]]=>need false (decide ((x.len=2∧byR (byA x 0)∧byR (byA x 1))∨(x.len=4∧byR (byA x 0)∧byR (byA x 1)∧byR (byA x 2)∧byR (byA x 3)))) 280 (.ok (ai (numB x)))
  | _=>.bad 280
theorem nu2_tree (t a b:Int):treeF (evF Tryz.prog (gam ([])) (lam ([])) 100 292) [.agg [ai t,.sl true byS (.l [.i a,.i b]) none]] =
RT.br true (RT.ok (zi (IntKind.wrap IntKind.i64 (IntKind.wrap IntKind.u64 (↑(BitVec.toNat (BitVec.ofInt (IntKind.bits IntKind.u64) (IntKind.wrap IntKind.u64 (IntKind.wrap IntKind.u64 (↑(BitVec.toNat (BitVec.ofInt (IntKind.bits IntKind.u64) (Int.ofNat 0) ||| BitVec.ofInt (IntKind.bits IntKind.u64) (IntKind.wrap IntKind.u64 (D.toI (D.cell (D.get (D.l [D.i a,D.i b]) (Int.toNat (Int.ofNat 0))) 0))))):Int)*2 ^ min (Int.toNat 8) (IntKind.bits IntKind.u64))) ||| BitVec.ofInt (IntKind.bits IntKind.u64) (IntKind.wrap IntKind.u64 (D.toI (D.cell (D.get (D.l [D.i a,D.i b]) (Int.toNat (Int.ofNat (Nat.succ 0)))) 0))))):Int))))) (RT.bad 25):=by rw [← fvF_eq Tryz.prog (gam ([])) (lam ([])) false 100 292]; kernel_rfl
theorem nu4_tree (t a b c d:Int):treeF (evF Tryz.prog (gam ([])) (lam ([])) 100 292) [.agg [ai t,.sl true byS (.l [.i a,.i b,.i c,.i d]) none]] =
RT.br true (RT.br true (RT.br true (RT.ok (zi (IntKind.wrap IntKind.i64 (IntKind.wrap IntKind.u64 (↑(BitVec.toNat (BitVec.ofInt (IntKind.bits IntKind.u64) (IntKind.wrap IntKind.u64 (IntKind.wrap IntKind.u64 (↑(BitVec.toNat (BitVec.ofInt (IntKind.bits IntKind.u64) (IntKind.wrap IntKind.u64 (IntKind.wrap IntKind.u64 (↑(BitVec.toNat (BitVec.ofInt (IntKind.bits IntKind.u64) (IntKind.wrap IntKind.u64 (IntKind.wrap IntKind.u64 (↑(BitVec.toNat (BitVec.ofInt (IntKind.bits IntKind.u64) (Int.ofNat 0) ||| BitVec.ofInt (IntKind.bits IntKind.u64) (IntKind.wrap IntKind.u64 (D.toI (D.cell (D.get (D.l [D.i a,D.i b,D.i c,D.i d]) (Int.toNat (Int.ofNat 0))) 0))))):Int)*2 ^ min (Int.toNat 8) (IntKind.bits IntKind.u64))) ||| BitVec.ofInt (IntKind.bits IntKind.u64) (IntKind.wrap IntKind.u64 (D.toI (D.cell (D.get (D.l [D.i a,D.i b,D.i c,D.i d]) (Int.toNat (Int.ofNat (Nat.succ 0)))) 0))))):Int)*2 ^ min (Int.toNat 8) (IntKind.bits IntKind.u64))) ||| BitVec.ofInt (IntKind.bits IntKind.u64) (IntKind.wrap IntKind.u64 (D.toI (D.cell (D.get (D.l [D.i a,D.i b,D.i c,D.i d]) (Int.toNat (Int.ofNat (Nat.succ 1)))) 0))))):Int)*2 ^ min (Int.toNat 8) (IntKind.bits IntKind.u64))) ||| BitVec.ofInt (IntKind.bits IntKind.u64) (IntKind.wrap IntKind.u64 (D.toI (D.cell (D.get (D.l [D.i a,D.i b,D.i c,D.i d]) (Int.toNat (Int.ofNat (Nat.succ 2)))) 0))))):Int))))) (RT.bad 25)) (RT.bad 25)) (RT.bad 25):=by rw [← fvF_eq Tryz.prog (gam ([])) (lam ([])) false 100 292]; kernel_rfl
def orS (x y:Int):Int:=IntKind.wrap IntKind.u64 (↑(BitVec.toNat (BitVec.ofInt (IntKind.bits IntKind.u64) (IntKind.wrap IntKind.u64 (x*2 ^ min (Int.toNat 8) (IntKind.bits IntKind.u64))) ||| BitVec.ofInt (IntKind.bits IntKind.u64) (IntKind.wrap IntKind.u64 y))):Int)
theorem orS_eq {x y:Int} (hx:0≤x∧x<16777216) (hy:0≤y∧y<256):orS x y=256*x+y:=by
  obtain ⟨a,rfl⟩:=Int.eq_ofNat_of_zero_le hx.1
  obtain ⟨b,rfl⟩:=Int.eq_ofNat_of_zero_le hy.1
  have hw:∀ n:Nat,n<18446744073709551616→IntKind.wrap IntKind.u64 (n:Int)=(n:Int):=fun n hn=>by
    show (n:Int) % 18446744073709551616=n
    omega
  have ho:∀ p q:Nat,p<72057594037927936→q<256→BitVec.toNat (BitVec.ofInt (IntKind.bits IntKind.u64) ((p*256:Nat):Int) ||| BitVec.ofInt (IntKind.bits IntKind.u64) (q:Int))=256*p+q:=fun p q hp hq=>by
    have:=u64_or_byte p q hp hq
    rw [hw q (by omega)] at this
    unfold bits at this
    rw [show ((p:Int)*256)=((p*256:Nat):Int) by simp] at this
    have h3:∀ z:Nat,z<18446744073709551616→IntKind.u64.wrap (z:Int)=((256*p+q:Nat):Int)→z=256*p+q:=fun z hz h=>by
      rw [hw z hz] at h; exact Int.ofNat.inj h
    exact h3 _ (BitVec.isLt _) this
  have hm:min (Int.toNat 8) (IntKind.bits IntKind.u64)=8:=by decide
  unfold orS
  rw [hm,show ((a:Int)*2 ^ 8)=((a*256:Nat):Int) by simp,hw (a*256) (by omega),hw b (by omega),ho a b (by omega) (by omega),hw _ (by omega)]
  omega
theorem orZ_eq {y:Int} (hy:0≤y∧y<256):IntKind.wrap IntKind.u64 (↑(BitVec.toNat (BitVec.ofInt (IntKind.bits IntKind.u64) (Int.ofNat 0) ||| BitVec.ofInt (IntKind.bits IntKind.u64) (IntKind.wrap IntKind.u64 y))):Int)=y:=by
  have h:=orS_eq (x:=0) ⟨by omega,by omega⟩ hy
  rw [Int.mul_zero,Int.zero_add] at h
  exact h
theorem nu2_val {a b:Int} (ha:byR a) (hb:byR b):IntKind.wrap .i64 (orS (IntKind.wrap IntKind.u64 (↑(BitVec.toNat (BitVec.ofInt (IntKind.bits IntKind.u64) (Int.ofNat 0) ||| BitVec.ofInt (IntKind.bits IntKind.u64) (IntKind.wrap IntKind.u64 a))):Int)) b)=256*a+b:=by
  unfold byR at ha hb
  rw [orZ_eq ha,orS_eq ⟨ha.1,by omega⟩ hb,i64_id ⟨by omega,by omega⟩]
theorem nu4_val {a b c d:Int} (ha:byR a) (hb:byR b) (hc:byR c) (hd:byR d):IntKind.wrap .i64 (orS (orS (orS (IntKind.wrap IntKind.u64 (↑(BitVec.toNat (BitVec.ofInt (IntKind.bits IntKind.u64) (Int.ofNat 0) ||| BitVec.ofInt (IntKind.bits IntKind.u64) (IntKind.wrap IntKind.u64 a))):Int)) b) c) d)=256*(256*(256*a+b)+c)+d:=by
  unfold byR at ha hb hc hd
  rw [orZ_eq ha,orS_eq ⟨ha.1,by omega⟩ hb,orS_eq ⟨by omega,by omega⟩ hc,orS_eq ⟨by omega,by omega⟩ hd,i64_id ⟨by omega,by omega⟩]
theorem two_le {x:D} (h:x.len=2) {kn kn':Bool}:Le (.sl kn byS x none) (.sl kn' byS (.l [.i (byA x 0),.i (byA x 1)]) none):=by
  have hl:(D.l [.i (byA x 0),.i (byA x 1)]).toL=[.i (byA x 0),.i (byA x 1)]:=toL_l (by unfold maxLen; simp)
  refine le_sl (by unfold D.len at h ⊢; rw [hl,h]; rfl) fun i hi=>?_
  rw [show (D.l [.i (byA x 0),.i (byA x 1)]).get i=[D.i (byA x 0),D.i (byA x 1)].getD i .n from by unfold D.get; rw [hl]]
  have hi:i<2:=by omega
  match i,hi with
  | 0,_=>exact ⟨rfl,trivial⟩
  | 1,_=>exact ⟨rfl,trivial⟩
theorem four_le {x:D} (h:x.len=4) {kn kn':Bool}:Le (.sl kn byS x none) (.sl kn' byS (.l [.i (byA x 0),.i (byA x 1),.i (byA x 2),.i (byA x 3)]) none):=by
  have hl:(D.l [.i (byA x 0),.i (byA x 1),.i (byA x 2),.i (byA x 3)]).toL=[.i (byA x 0),.i (byA x 1),.i (byA x 2),.i (byA x 3)]:=toL_l (by unfold maxLen; simp)
  refine le_sl (by unfold D.len at h ⊢; rw [hl,h]; rfl) fun i hi=>?_
  rw [show (D.l [.i (byA x 0),.i (byA x 1),.i (byA x 2),.i (byA x 3)]).get i=[D.i (byA x 0),D.i (byA x 1),D.i (byA x 2),D.i (byA x 3)].getD i .n from by unfold D.get; rw [hl]]
  have hi:i<4:=by omega
  match i,hi with
  | 0,_=>exact ⟨rfl,trivial⟩
  | 1,_=>exact ⟨rfl,trivial⟩
  | 2,_=>exact ⟨rfl,trivial⟩
  | 3,_=>exact ⟨rfl,trivial⟩
theorem num_soundF:SoundF Tryz.prog 292 (pureS Tryz.prog 292 FNum):=by
  refine pure_by (gs:=[]) (ls:=[]) mixed trivial trivial 292 100 fun args K ho H=>?_
  unfold FNum at H
  split at H
  · rename_i t x
    obtain ⟨hc,H⟩:=need_holds H
    rcases odt hc with ⟨h,b0,b1⟩ | ⟨h,b0,b1,b2,b3⟩
    · refine ⟨_,leL_cons (le_agg (leL_cons (Le.refl _) (leL_cons (two_le (kn':=true) h) leL_nil))) leL_nil,?_⟩
      rw [nu2_tree]
      refine ⟨fun _=>⟨_,le_int ((nu2_val b0 b1).trans ?_),H⟩,fun h=>by cases h⟩
      unfold numB; rw [if_pos h]
    · refine ⟨_,leL_cons (le_agg (leL_cons (Le.refl _) (leL_cons (four_le (kn':=true) h) leL_nil))) leL_nil,?_⟩
      rw [nu4_tree]
      refine ⟨fun _=>⟨fun _=>⟨fun _=>⟨_,le_int ((nu4_val b0 b1 b2 b3).trans ?_),H⟩,fun h=>by cases h⟩,fun h=>by cases h⟩,fun h=>by cases h⟩
      unfold numB; rw [if_neg (by omega)]
  · exact H.elim
end
end Go.Proofs.YtbgmclbcjdbcmaaGreat
namespace Go.Proofs.YtbgmclbcjdbcmaaGreat
set_option linter.unusedSimpArgs false
set_option linter.unusedVariables false
open Go.RowKit
set_option maxRecDepth 10000
noncomputable section
def ptrsL:List AV→List Nat→List Nat
  | [],acc=>acc
  | .ptr o _ :: r,acc=>bif acc.contains o then ptrsL r acc else ptrsL r (acc ++ [o])
  | _ :: r,acc=>ptrsL r acc
theorem ptrsL_nodup:∀ (l:List AV) (acc:List Nat),acc.Nodup→(ptrsL l acc).Nodup
  | [],_,h=>h
  | .ptr o _ :: r,acc,h=>by
    show (bif acc.contains o then ptrsL r acc else ptrsL r (acc ++ [o])).Nodup
    cases hc:acc.contains o
    · refine ptrsL_nodup r (acc ++ [o]) ?_
      rw [List.nodup_append]
      refine ⟨h,by simp,fun a ha b hb=>?_⟩
      obtain rfl:=List.mem_singleton.1 hb
      rintro rfl
      rw [List.contains_iff_mem.2 ha] at hc; cases hc
    · exact ptrsL_nodup r acc h
  | .any :: r,acc,h=>ptrsL_nodup r acc h
  | .sc _ _ :: r,acc,h=>ptrsL_nodup r acc h
  | .sl _ _ _ _ :: r,acc,h=>ptrsL_nodup r acc h
  | .mp _ :: r,acc,h=>ptrsL_nodup r acc h
  | .ep _ _ _ _ :: r,acc,h=>ptrsL_nodup r acc h
  | .fn _ _ _ :: r,acc,h=>ptrsL_nodup r acc h
  | .agg _ :: r,acc,h=>ptrsL_nodup r acc h
  | .tup _ :: r,acc,h=>ptrsL_nodup r acc h
  | .rsl _ _ _ _ :: r,acc,h=>ptrsL_nodup r acc h
  | .rp _ _ _ _ _ :: r,acc,h=>ptrsL_nodup r acc h
  | .rw _ _ :: r,acc,h=>ptrsL_nodup r acc h
def objS (sp:Spec):Spec:=fun args h=>bif (ptrsL args []).all (fun o=>(lookO o h.ob).isSome) then
  (sp (renL (ptrsL args []) [] 0 h.gn args) (h.ren (ptrsL args []) [] 0 0)).bind fun x=>.ok (bak (ptrsL args []) [] h.nv h.ng 0 x.2.gn x.1,h.bak (ptrsL args []) [] 0 x.2) else .bad 290
theorem objS_ok {P:Program} {f:FuncId} {sp:Spec} (hs:SoundF P f sp):SoundF P f (objS sp):=by
  intro args h K H w0 G E w vals I hr
  unfold objS at H
  cases hc:(ptrsL args []).all (fun o=>(lookO o h.ob).isSome)
  · rw [hc] at H; exact H.elim
  rw [hc] at H
  simp only [cond_true] at H
  rw [RT.holds_bind] at H
  have hnd:(ptrsL args []).Nodup:=ptrsL_nodup _ _ .nil
  generalize ptrsL args []=os at hc H hnd
  have hol:∀ o ∈ os,E.live o:=fun o ho=>(I.live o).2 (List.all_eq_true.1 hc o ho)
  have I2:=(I.ren (os:=os) (ks:=[]) (g0:=0) hnd .nil (by simp) 0).top
  have hr2:=ren_relL (os:=os) (ks:=[]) (g0:=0) I _ _ hr
  refine (hs _ _ _ H w _ _ w vals I2 hr2).mono ?_
  rintro e w' ⟨r,h',v,E',hK,rfl,S,hv⟩
  have S3:=Inv.bak (mk:=0) I hnd hol .nil (by simp) (Nat.le_refl _) (Nat.zero_le _) S
  have hv3:=bak_rel (h':=h') S.inv S.ext (mk:=0) .nil (by simp) (Nat.zero_le _) (Nat.le_refl _) hol h.ng r v hv
  rw [I.m] at hv3
  exact ⟨_,_,v,_,hK,rfl,S3,hv3⟩
def fitB (p:Nat) (h:Hp):Bool:=Nat.ble h.nx p&&Nat.beq h.nv 0&&Nat.ble h.ng 1000&&Nat.blt (h.ep+h.ob.length) 1000
def treeO (p:Nat) (sp:Spec) (args:List AV) (h:Hp):RT (AV×Hp):=(sp args h).bind fun x=>.ok (ren (List.range p) [] 1000 x.2.gn x.1,x.2.can p 0 1000 1000)
theorem obj_in {P:Program} {gs:List (FuncId×Spec)} {ls:List (FuncId×Nat×BSpec)} (hm:Fit P) (hΓ:GamL P gs) (hΛ:LamL P ls) (f n p:Nat) {F:Spec} (hF:∀ args h K,(F args h).holds K→fitB p h=true∧(treeO p (evF P (gam gs) (lam ls) n f) args h).holds fun x=>∃ y,Le x.1 y∧K (y,x.2)):SoundF P f F:=by
  intro args h K H w0 G E w vals I hr
  obtain ⟨hb,h1⟩:=hF args h K H
  unfold treeO at h1
  rw [RT.holds_bind] at h1
  unfold fitB at hb
  simp only [Bool.and_eq_true] at hb
  obtain ⟨⟨⟨b1,b2⟩,b3⟩,b4⟩:=hb
  have b1:=Nat.le_of_ble_eq_true b1
  have b2:=Nat.eq_of_beq_eq_true b2
  have b3:=Nat.le_of_ble_eq_true b3
  have b4:=Nat.lt_of_lt_of_le (Nat.lt_succ_self _) (Nat.le_of_ble_eq_true b4)
  refine (evF_ok hm (gam_ok hΓ) (lam_ok hΛ) n f _ _ _ h1 w0 G E w vals I hr).mono ?_
  rintro e w' ⟨r,h',v,E',⟨y,hy,hK⟩,rfl,S,hv⟩
  have Sc:=can_step S I (p:=p) (q:=0) (N:=1000) (ep:=1000) b1 (by omega) (Nat.zero_le _) b3 (fun o _=>by unfold ver; have:=cnt_le o h.ob; omega)
  exact ⟨y,_,v,_,hK,rfl,Sc,hy _ _ (ren_rel (os:=List.range p) (ks:=List.range 0) (g0:=1000) S.inv _ _ hv)⟩
def foldT {α:Type} (n:α→Nat) (okk:α→Bool) (mkF:α→Nat→Tm) (mkH:α→Nat→Hp) (x:α×Nat):RT Out :=
  need false (okk x.1&&decide (x.2≤n x.1)) 210 (.ok (.normal,mkF x.1 (n x.1),mkH x.1 (n x.1)))
theorem fold_loop {P:Program} {gs:List (FuncId×Spec)} {ls:List (FuncId×Nat×BSpec)} {α:Type} (hm:Fit P) (hΓ:GamL P gs) (hΛ:LamL P ls) (f id n:Nat) (hl:isLoop id (bodyOf P f)=true) (L:Lw)
    {len:α→Nat} {okk:α→Bool} {mkF:α→Nat→Tm} {mkH:α→Nat→Hp} {dec:Tm→Hp→Option (α×Nat)}
    (hdec:∀ F h x,dec F h=some x→F=mkF x.1 x.2∧h=mkH x.1 x.2)
    (hround:∀ a i (K:Out→Prop),okk a=true→i≤len a→(i<len a→K (.normal,mkF a (i+1),mkH a (i+1)))→(i=len a→K (.exit id,mkF a (len a),mkH a (len a))) →
      (roundT L (evC P (gam gs) (lam ls) n f (loopAt id (bodyOf P f)) (mkF a i) (mkH a i))).holds K) :
    LamE P f id (loopS P L dec (foldT len okk mkF mkH)):=by
  refine loop_in2 hm hΓ hΛ f id n hl L (mkF:=fun x=>mkF x.1 x.2) (mkH:=fun x=>mkH x.1 x.2) (fun x=>len x.1 - x.2) hdec ?_
  rintro ⟨a,i⟩ K H
  obtain ⟨hc,H⟩:=need_holds H
  simp only [Bool.and_eq_true,decide_eq_true_eq] at hc
  obtain ⟨hok,hi⟩:=hc
  refine hround a i _ hok hi ?_ ?_
  · intro hlt
    refine ⟨(a,i+1),⟨rfl,rfl⟩,by show len a - (i+1)<len a - i; omega,?_⟩
    refine ⟨fun _=>H,fun hf=>?_⟩
    simp only [hok,Bool.true_and,decide_eq_false_iff_not] at hf
    exact absurd (show i+1≤len a by omega) hf
  · intro _
    unfold Round
    simp only [if_pos rfl]
    exact H
def filD (p:Nat→Bool) (f:Nat→D) (n:Nat):D:=.l (((List.range n).filter p).map f)
theorem filD_len_le (p:Nat→Bool) (f:Nat→D) (n:Nat):(filD p f n).len≤n:=by
  unfold D.len D.toL filD D.raw
  refine Nat.le_trans (List.length_take_le' _ _) ?_
  rw [List.length_map]
  refine Nat.le_trans (List.length_filter_le _ _) ?_
  rw [List.length_range]; exact Nat.le_refl _
theorem filD_toL {p:Nat→Bool} {f:Nat→D} {n:Nat} (h:n≤maxLen):(filD p f n).toL=((List.range n).filter p).map f:=by
  refine toL_l ?_
  rw [List.length_map]
  refine Nat.le_trans (List.length_filter_le _ _) ?_
  rw [List.length_range]; exact h
theorem filD_on {p:Nat→Bool} {f:Nat→D} {n:Nat} (h:n≤maxLen) (hp:p n=true):(filD p f n).app (.l [f n])=filD p f (n+1):=by
  unfold D.app
  rw [filD_toL h,toL_l (show [f n].length≤maxLen by simp; unfold maxLen; omega)]
  unfold filD
  rw [List.range_succ,List.filter_append,List.map_append]
  simp [hp]
theorem filD_off {p:Nat→Bool} {f:Nat→D} {n:Nat} (hp:p n=false):filD p f (n+1)=filD p f n:=by
  unfold filD
  rw [List.range_succ,List.filter_append]
  simp [hp]
end
end Go.Proofs.YtbgmclbcjdbcmaaGreat
namespace Go.Proofs.YtbgmclbcjdbcmaaGreat
set_option linter.unusedSimpArgs false
set_option linter.unusedVariables false
open Go.RowKit
set_option maxRecDepth 10000
noncomputable section
inductive Cd where
  | int (k:IntKind) | bool | str | sl (es:List Sh) | tp (es:List Sh) (k g:Nat) | nw (es:List Sh) (k g:Nat) | lit (a:AV) | agg (l:List Cd) | rs (o m:Nat) | row (es:List Sh)
def lqV:Value→Value→Bool
  | .int k a,.int k' b=>decide (k=k')&&a==b
  | .bool a,.bool b=>a==b
  | .slice none n m,.slice none n' m'=>Nat.beq n n'&&Nat.beq m m'
  | .nilFunc,.nilFunc=>true
  | _,_=>false
theorem lqV_eq:∀ (a b:Value),lqV a b=true→a=b:=by
  intro a b h
  unfold lqV at h
  split at h
  · rw [Bool.and_eq_true] at h; rw [of_decide_eq_true h.1,eq_of_beq h.2]
  · rw [eq_of_beq h]
  · rw [Bool.and_eq_true] at h; rw [Nat.eq_of_beq_eq_true h.1,Nat.eq_of_beq_eq_true h.2]
  · rfl
  · cases h
mutual
def lqA:AV→AV→Bool
  | .ptr o f,.ptr o' f'=>Nat.beq o o'&&Nat.beq f f'
  | .sc k v,.sc k' v'=>(k==k')&&lqV v v'
  | .fn (.func f) a c,.fn (.func f') a' c'=>Nat.beq f f'&&(lqAL a a'&&lqAL c c')
  | _,_=>false
def lqAL:List AV→List AV→Bool
  | [],[]=>true
  | x :: xs,y :: ys=>lqA x y&&lqAL xs ys
  | _,_=>false
end
mutual
theorem lqA_eq:∀ (a b:AV),lqA a b=true→a=b
  | .ptr o f,.ptr o' f',h=>by
    simp only [lqA,Bool.and_eq_true] at h
    rw [Nat.eq_of_beq_eq_true h.1,Nat.eq_of_beq_eq_true h.2]
  | .sc k v,.sc k' v',h=>by
    simp only [lqA,Bool.and_eq_true] at h
    rw [eq_of_beq h.1,lqV_eq _ _ h.2]
  | .fn (.func f) a c,.fn (.func f') a' c',h=>by
    simp only [lqA,Bool.and_eq_true] at h
    rw [Nat.eq_of_beq_eq_true h.1,lqAL_eq a a' h.2.1,lqAL_eq c c' h.2.2]
  | .any,_,h | .sl _ _ _ _,_,h | .mp _,_,h | .ep _ _ _ _,_,h | .agg _,_,h | .tup _,_,h | .rsl _ _ _ _,_,h | .rp _ _ _ _ _,_,h | .rw _ _,_,h=>by simp [lqA] at h
  | .ptr _ _,.any,h | .ptr _ _,.sc _ _,h | .ptr _ _,.sl _ _ _ _,h | .ptr _ _,.mp _,h | .ptr _ _,.ep _ _ _ _,h | .ptr _ _,.fn _ _ _,h | .ptr _ _,.agg _,h | .ptr _ _,.tup _,h | .ptr _ _,.rsl _ _ _ _,h | .ptr _ _,.rp _ _ _ _ _,h | .ptr _ _,.rw _ _,h=>by simp [lqA] at h
  | .sc _ _,.any,h | .sc _ _,.ptr _ _,h | .sc _ _,.sl _ _ _ _,h | .sc _ _,.mp _,h | .sc _ _,.ep _ _ _ _,h | .sc _ _,.fn _ _ _,h | .sc _ _,.agg _,h | .sc _ _,.tup _,h | .sc _ _,.rsl _ _ _ _,h | .sc _ _,.rp _ _ _ _ _,h | .sc _ _,.rw _ _,h=>by simp [lqA] at h
  | .fn x _ _,y,h=>by
    unfold lqA at h
    split at h
    · rename_i heq; cases heq
    · rename_i heq; cases heq
    · rename_i f a c f' a' c' heq1
      cases heq1
      simp only [Bool.and_eq_true] at h
      rw [Nat.eq_of_beq_eq_true h.1,lqAL_eq _ _ h.2.1,lqAL_eq _ _ h.2.2]
    · cases h
theorem lqAL_eq:∀ (a b:List AV),lqAL a b=true→a=b
  | [],[],_=>rfl
  | x :: xs,y :: ys,h=>by
    simp only [lqAL,Bool.and_eq_true] at h
    rw [lqA_eq x y h.1,lqAL_eq xs ys h.2]
  | [],_ :: _,h | _ :: _,[],h=>by simp [lqAL] at h
end
def g_int (k:IntKind) (x:AV):Option (List D):=match x with | .sc false (.int k' n)=>bif decide (k=k') then some [.i n] else none | _=>none
def w_int (k:IntKind) (ds:List D):AV×List D:=(.sc false (.int k (ds.headD .n).toI),ds.tail)
theorem g_int_ok (k:IntKind) {x:AV} {ds:List D} (h:g_int k x=some ds) (r:List D):w_int k (ds ++ r)=(x,r):=by
  unfold g_int at h
  split at h
  · rename_i k' n
    cases hk:decide (k=k')
    · rw [hk] at h; cases h
    · rw [hk] at h; cases h
      rw [of_decide_eq_true hk]; rfl
  · cases h
def g_bool  (x:AV):Option (List D):=match x with | .sc false (.bool b)=>some [.b b] | _=>none
def w_bool  (ds:List D):AV×List D:=(.sc false (.bool (ds.headD .n).toB),ds.tail)
theorem g_bool_ok  {x:AV} {ds:List D} (h:g_bool  x=some ds) (r:List D):w_bool  (ds ++ r)=(x,r):=by
  unfold g_bool at h
  split at h
  · cases h; rfl
  · cases h
def g_str  (x:AV):Option (List D):=match x with | .sc false (.string s)=>some [.s s] | _=>none
def w_str  (ds:List D):AV×List D:=(.sc false (.string (ds.headD .n).toS),ds.tail)
theorem g_str_ok  {x:AV} {ds:List D} (h:g_str  x=some ds) (r:List D):w_str  (ds ++ r)=(x,r):=by
  unfold g_str at h
  split at h
  · cases h; rfl
  · cases h
def g_sl (es:List Sh) (x:AV):Option (List D):=match x with | .sl false es' d none=>bif Sh.eqsL es' es then some [d] else none | _=>none
def w_sl (es:List Sh) (ds:List D):AV×List D:=(.sl false es (ds.headD .n) none,ds.tail)
theorem g_sl_ok (es:List Sh) {x:AV} {ds:List D} (h:g_sl es x=some ds) (r:List D):w_sl es (ds ++ r)=(x,r):=by
  unfold g_sl at h
  split at h
  · rename_i es' d
    cases hk:Sh.eqsL es' es
    · rw [hk] at h; cases h
    · rw [hk] at h; cases h
      rw [Sh.eqsL_eq _ _ hk]; rfl
  · cases h
def g_tp (es:List Sh) (k g:Nat) (x:AV):Option (List D):=match x with | .sl false es' d (some (k',g'))=>bif Sh.eqsL es' es&&(Nat.beq k' k&&Nat.beq g' g) then some [d] else none | _=>none
def w_tp (es:List Sh) (k g:Nat) (ds:List D):AV×List D:=(.sl false es (ds.headD .n) (some (k,g)),ds.tail)
theorem g_tp_ok (es:List Sh) (k g:Nat) {x:AV} {ds:List D} (h:g_tp es k g x=some ds) (r:List D):w_tp es k g (ds ++ r)=(x,r):=by
  unfold g_tp at h
  split at h
  · rename_i es' d k' g'
    cases hk:Sh.eqsL es' es&&(Nat.beq k' k&&Nat.beq g' g)
    · rw [hk] at h; cases h
    · rw [hk] at h; cases h
      simp only [Bool.and_eq_true] at hk; rw [Sh.eqsL_eq _ _ hk.1,Nat.eq_of_beq_eq_true hk.2.1,Nat.eq_of_beq_eq_true hk.2.2]; rfl
  · cases h
def g_nw (es:List Sh) (k g:Nat) (x:AV):Option (List D):=match x with | .sl false es' (.l []) (some (k',g'))=>bif Sh.eqsL es' es&&(Nat.beq k' k&&Nat.beq g' g) then some [] else none | _=>none
def w_nw (es:List Sh) (k g:Nat) (ds:List D):AV×List D:=(.sl false es (.l []) (some (k,g)),ds)
theorem g_nw_ok (es:List Sh) (k g:Nat) {x:AV} {ds:List D} (h:g_nw es k g x=some ds) (r:List D):w_nw es k g (ds ++ r)=(x,r):=by
  unfold g_nw at h
  split at h
  · rename_i es' k' g'
    cases hk:Sh.eqsL es' es&&(Nat.beq k' k&&Nat.beq g' g)
    · rw [hk] at h; cases h
    · rw [hk] at h; cases h
      simp only [Bool.and_eq_true] at hk; rw [Sh.eqsL_eq _ _ hk.1,Nat.eq_of_beq_eq_true hk.2.1,Nat.eq_of_beq_eq_true hk.2.2]; rfl
  · cases h
def g_rs (o m:Nat) (x:AV):Option (List D):=match x with | .rsl false o' m' n=>bif Nat.beq o' o&&Nat.beq m' m then some [.i (Int.ofNat n)] else none | _=>none
def w_rs (o m:Nat) (ds:List D):AV×List D:=(.rsl false o m (ds.headD .n).toI.toNat,ds.tail)
theorem g_rs_ok (o m:Nat) {x:AV} {ds:List D} (h:g_rs o m x=some ds) (r:List D):w_rs o m (ds ++ r)=(x,r):=by
  unfold g_rs at h
  split at h
  · rename_i o' m' n
    cases hk:Nat.beq o' o&&Nat.beq m' m
    · rw [hk] at h; cases h
    · rw [hk] at h; cases h
      simp only [Bool.and_eq_true] at hk; rw [Nat.eq_of_beq_eq_true hk.1,Nat.eq_of_beq_eq_true hk.2]; rfl
  · cases h
def g_row (es:List Sh) (x:AV):Option (List D):=match x with | .rw es' d=>bif Sh.eqsL es' es then some [d] else none | _=>none
def w_row (es:List Sh) (ds:List D):AV×List D:=(.rw es (ds.headD .n),ds.tail)
theorem g_row_ok (es:List Sh) {x:AV} {ds:List D} (h:g_row es x=some ds) (r:List D):w_row es (ds ++ r)=(x,r):=by
  unfold g_row at h
  split at h
  · rename_i es' d
    cases hk:Sh.eqsL es' es
    · rw [hk] at h; cases h
    · rw [hk] at h; cases h
      rw [Sh.eqsL_eq _ _ hk]; rfl
  · cases h
mutual
def cdA:Cd→AV→Option (List D)
  | .int k,x=>g_int k x
  | .bool ,x=>g_bool  x
  | .str ,x=>g_str  x
  | .sl es,x=>g_sl es x
  | .tp es k g,x=>g_tp es k g x
  | .nw es k g,x=>g_nw es k g x
  | .rs o m,x=>g_rs o m x
  | .row es,x=>g_row es x
  | .lit a,x=>bif lqA x a then some [] else none
  | .agg l,x=>match x with | .agg xs=>cdAL l xs | _=>none
def cdAL:List Cd→List AV→Option (List D)
  | [],[]=>some []
  | c :: cs,x :: xs=>match cdA c x,cdAL cs xs with | some a,some b=>some (a ++ b) | _,_=>none
  | _,_=>none
end
mutual
def ceA:Cd→List D→AV×List D
  | .int k,ds=>w_int k ds
  | .bool ,ds=>w_bool  ds
  | .str ,ds=>w_str  ds
  | .sl es,ds=>w_sl es ds
  | .tp es k g,ds=>w_tp es k g ds
  | .nw es k g,ds=>w_nw es k g ds
  | .rs o m,ds=>w_rs o m ds
  | .row es,ds=>w_row es ds
  | .lit a,ds=>(a,ds)
  | .agg l,ds=>(.agg (ceAL l ds).1,(ceAL l ds).2)
def ceAL:List Cd→List D→List AV×List D
  | [],ds=>([],ds)
  | c :: cs,ds=>((ceA c ds).1 :: (ceAL cs (ceA c ds).2).1,(ceAL cs (ceA c ds).2).2)
end
mutual
theorem cdA_ok:∀ (c:Cd) (x:AV) (ds:List D),cdA c x=some ds→∀ r,ceA c (ds ++ r)=(x,r)
  | .int k,x,ds,h,r=>by simp only [cdA] at h; simp only [ceA]; exact g_int_ok _ h r
  | .bool ,x,ds,h,r=>by simp only [cdA] at h; simp only [ceA]; exact g_bool_ok  h r
  | .str ,x,ds,h,r=>by simp only [cdA] at h; simp only [ceA]; exact g_str_ok  h r
  | .sl es,x,ds,h,r=>by simp only [cdA] at h; simp only [ceA]; exact g_sl_ok _ h r
  | .tp es k g,x,ds,h,r=>by simp only [cdA] at h; simp only [ceA]; exact g_tp_ok _ _ _ h r
  | .nw es k g,x,ds,h,r=>by simp only [cdA] at h; simp only [ceA]; exact g_nw_ok _ _ _ h r
  | .rs o m,x,ds,h,r=>by simp only [cdA] at h; simp only [ceA]; exact g_rs_ok _ _ h r
  | .row es,x,ds,h,r=>by simp only [cdA] at h; simp only [ceA]; exact g_row_ok _ h r
  | .lit a,x,ds,h,r=>by
    simp only [cdA] at h
    cases he:lqA x a
    · rw [he] at h; cases h
    · rw [he] at h; cases h; rw [lqA_eq _ _ he]; rfl
  | .agg l,.agg xs,ds,h,r=>by
    simp only [cdA] at h
    simp only [ceA]
    rw [cdAL_ok l xs ds h r]
  | .agg _,.any,_,h,_ | .agg _,.sc _ _,_,h,_ | .agg _,.sl _ _ _ _,_,h,_ | .agg _,.ptr _ _,_,h,_ | .agg _,.mp _,_,h,_ | .agg _,.ep _ _ _ _,_,h,_ | .agg _,.fn _ _ _,_,h,_ | .agg _,.tup _,_,h,_ | .agg _,.rsl _ _ _ _,_,h,_ | .agg _,.rp _ _ _ _ _,_,h,_ | .agg _,.rw _ _,_,h,_=>by simp [cdA] at h
theorem cdAL_ok:∀ (cs:List Cd) (xs:List AV) (ds:List D),cdAL cs xs=some ds→∀ r,ceAL cs (ds ++ r)=(xs,r)
  | [],[],ds,h,r=>by simp only [cdAL] at h; cases h; rfl
  | c :: cs,x :: xs,ds,h,r=>by
    simp only [cdAL] at h
    split at h
    · rename_i a b h1 h2
      cases h
      simp only [ceAL]
      rw [List.append_assoc,cdA_ok c x a h1 (b ++ r)]
      simp only
      rw [cdAL_ok cs xs b h2 r]
    · cases h
  | [],_ :: _,_,h,_ | _ :: _,[],_,h,_=>by simp [cdAL] at h
end
structure Cs where
  nt:Nat
  tm:List (Nat×Cd)
  ob:List (Nat×List Cd)
  nx:Nat
  gn:List (Nat×Nat×TypeId)
  nv:Nat
  ng:Nat
  ep:Nat
def lqG:List (Nat×Nat×TypeId)→List (Nat×Nat×TypeId)→Bool
  | [],[]=>true
  | (a,b,c) :: r,(a',b',c') :: r'=>Nat.beq a a'&&(Nat.beq b b'&&(Nat.beq c c'&&lqG r r'))
  | _,_=>false
theorem lqG_eq:∀ (a b:List (Nat×Nat×TypeId)),lqG a b=true→a=b
  | [],[],_=>rfl
  | (a,b,c) :: r,(a',b',c') :: r',h=>by
    simp only [lqG,Bool.and_eq_true] at h
    rw [Nat.eq_of_beq_eq_true h.1,Nat.eq_of_beq_eq_true h.2.1,Nat.eq_of_beq_eq_true h.2.2.1,lqG_eq r r' h.2.2.2]
  | [],_ :: _,h | _ :: _,[],h=>by simp [lqG] at h
def cdM:List (Nat×Cd)→List (Nat×AV)→Option (List D)
  | [],[]=>some []
  | (k,c) :: cs,(k',x) :: xs=>bif Nat.beq k' k then (match cdA c x,cdM cs xs with | some a,some b=>some (a ++ b) | _,_=>none) else none
  | _,_=>none
def cdO:List (Nat×List Cd)→List (Nat×List AV)→Option (List D)
  | [],[]=>some []
  | (k,c) :: cs,(k',x) :: xs=>bif Nat.beq k' k then (match cdAL c x,cdO cs xs with | some a,some b=>some (a ++ b) | _,_=>none) else none
  | _,_=>none
def ceM:List (Nat×Cd)→List D→List (Nat×AV)×List D
  | [],ds=>([],ds)
  | (k,c) :: cs,ds=>((k,(ceA c ds).1) :: (ceM cs (ceA c ds).2).1,(ceM cs (ceA c ds).2).2)
def ceO:List (Nat×List Cd)→List D→List (Nat×List AV)×List D
  | [],ds=>([],ds)
  | (k,c) :: cs,ds=>((k,(ceAL c ds).1) :: (ceO cs (ceAL c ds).2).1,(ceO cs (ceAL c ds).2).2)
theorem cdM_ok:∀ (cs:List (Nat×Cd)) (xs:List (Nat×AV)) (ds:List D),cdM cs xs=some ds→∀ r,ceM cs (ds ++ r)=(xs,r)
  | [],[],ds,h,r=>by simp only [cdM] at h; cases h; rfl
  | (k,c) :: cs,(k',x) :: xs,ds,h,r=>by
    simp only [cdM] at h
    cases hk:Nat.beq k' k
    · rw [hk] at h; cases h
    · rw [hk,cond_true] at h
      split at h
      · rename_i a b h1 h2
        cases h
        simp only [ceM]
        rw [List.append_assoc,cdA_ok c x a h1 (b ++ r)]
        simp only
        rw [cdM_ok cs xs b h2 r,Nat.eq_of_beq_eq_true hk]
      · cases h
  | [],_ :: _,_,h,_ | _ :: _,[],_,h,_=>by simp [cdM] at h
theorem cdO_ok:∀ (cs:List (Nat×List Cd)) (xs:List (Nat×List AV)) (ds:List D),cdO cs xs=some ds→∀ r,ceO cs (ds ++ r)=(xs,r)
  | [],[],ds,h,r=>by simp only [cdO] at h; cases h; rfl
  | (k,c) :: cs,(k',x) :: xs,ds,h,r=>by
    simp only [cdO] at h
    cases hk:Nat.beq k' k
    · rw [hk] at h; cases h
    · rw [hk,cond_true] at h
      split at h
      · rename_i a b h1 h2
        cases h
        simp only [ceO]
        rw [List.append_assoc,cdAL_ok c x a h1 (b ++ r)]
        simp only
        rw [cdO_ok cs xs b h2 r,Nat.eq_of_beq_eq_true hk]
      · cases h
  | [],_ :: _,_,h,_ | _ :: _,[],_,h,_=>by simp [cdO] at h
def cdS (c:Cs) (F:Tm) (h:Hp):Option (List D) :=
  bif (Nat.beq F.nt c.nt&&F.df.isEmpty)&&(Nat.beq h.nx c.nx&&(lqG h.gn c.gn&&(Nat.beq h.nv c.nv&&(Nat.beq h.ng c.ng&&Nat.beq h.ep c.ep)))) then
    (match cdM c.tm F.tm,cdO c.ob h.ob with | some a,some b=>some (a ++ b) | _,_=>none) else none
def ceF (c:Cs) (ds:List D):Tm:=⟨c.nt,(ceM c.tm ds).1,[]⟩
def ceH (c:Cs) (ds:List D):Hp:=⟨(ceO c.ob (ceM c.tm ds).2).1,c.nx,c.gn,c.nv,c.ng,c.ep⟩
theorem cdS_ok {c:Cs} {F:Tm} {h:Hp} {ds:List D} (hd:cdS c F h=some ds):F=ceF c ds∧h=ceH c ds:=by
  unfold cdS at hd
  cases hb:(Nat.beq F.nt c.nt&&F.df.isEmpty)&&(Nat.beq h.nx c.nx&&(lqG h.gn c.gn&&(Nat.beq h.nv c.nv&&(Nat.beq h.ng c.ng&&Nat.beq h.ep c.ep))))
  · rw [hb] at hd; cases hd
  rw [hb,cond_true] at hd
  simp only [Bool.and_eq_true] at hb
  obtain ⟨⟨h1,h2⟩,h3,h4,h5,h6,h7⟩:=hb
  split at hd
  · rename_i a b ha hb
    cases hd
    have e1:=cdM_ok _ _ _ ha b
    have e2:=cdO_ok _ _ _ hb []
    rw [List.append_nil] at e2
    unfold ceF ceH
    rw [e1]
    simp only
    rw [e2]
    obtain ⟨nt,tm,df⟩:=F
    obtain ⟨ob,nx,gn,nv,ng,ep⟩:=h
    simp only at h1 h2 h3 h4 h5 h6 h7
    rw [Nat.eq_of_beq_eq_true h1,List.isEmpty_iff.1 h2,Nat.eq_of_beq_eq_true h3,lqG_eq _ _ h4,Nat.eq_of_beq_eq_true h5,Nat.eq_of_beq_eq_true h6,Nat.eq_of_beq_eq_true h7]
    exact ⟨rfl,rfl⟩
  · cases hd
def cdH (c:Cs) (h:Hp):Option (List D):=cdS c ⟨c.nt,[],[]⟩ h
end
end Go.Proofs.YtbgmclbcjdbcmaaGreat
namespace Go.Proofs.YtbgmclbcjdbcmaaGreat
set_option linter.unusedSimpArgs false
set_option linter.unusedVariables false
open Go.RowKit
set_option maxRecDepth 100000
noncomputable section
def takB (kd lo hi gd n:Int):Bool:=if kd=1 then true else if kd=2 then decide (lo≤n∧n≤hi) else if kd=3 then n==gd else if kd=4 then n != lo else false
def FTak:List AV→RT AV
  | [.agg [.sc false (.int .i64 _),.sc false (.int .i64 _),.sc false (.int .i64 k),.sc false (.int .i64 l),.sc false (.int .i64 h),.sc false (.int .i64 g),.sc false (.bool _)],.sc false (.int .i64 n)]=>.ok (ab (takB k l h g n))
  | _=>.bad 281
def rnoT (r:D) (t s:Int) (k:Nat):Bool:=!(((r.get k).cell 0).toI==t&&((r.get k).cell 1).toI==s)
def ruleI (r:D) (t s:Int):Int:=bif okFrom (rnoT r t s) r.len 0 then -1 else ((badFrom (rnoT r t s) r.len 0:Nat):Int)
structure ixrX where
  r:D
  n:Int
  r0:D
  t:Int
  x:D
def ixrL:Lw:=⟨[0,1,4,7,8],[],2,0,1000,1000⟩
def ixrF (a:ixrX) (i:Nat):Tm:=⟨19,[(0,.sl false rlS a.r none),(1,.fn (.func 291) [] [.ptr 1 0]),(4,zi 0),(7,zi a.n),(8,zi (i:Int))],[]⟩
def ixrH (a:ixrX) (i:Nat):Hp:=⟨[(0,[.sl false rlS a.r0 none]),(1,[zi a.t,.sl false byS a.x none])],2,[],0,1000,1000⟩
def ixrC:Cs:=⟨19,[(0,.sl rlS),(1,.lit (.fn (.func 291) [] [.ptr 1 0])),(4,.lit (.sc false (.int .i64 0))),(7,.int .i64),(8,.lit (.sc false (.int .i64 0)))],[(0,[.sl rlS]),(1,[.int .i64,.sl byS])],2,[],0,1000,1000⟩
noncomputable def ixrDec (F:Tm) (h:Hp):Option (ixrX×Nat):=match cdS ixrC F h with
  | some [v0,v1,v2,v3,v4]=>some (⟨v0,v1.toI,v2,v3.toI,v4⟩,0)
  | _=>none
theorem ixr_body (r:D) (n:Int) (r0:D) (t:Int) (x:D) (i:Int):roundT (⟨[0,1,4,7,8],[],2,0,1000,1000⟩) (evC Tryz.prog (gam ([])) (lam ([])) 100 290 (loopAt 0 (bodyOf Tryz.prog 290)) (⟨19,[(0,.sl false rlS r none),(1,.fn (.func 291) [] [.ptr 1 0]),(4,zi 0),(7,zi n),(8,zi i)],[]⟩) (⟨[(0,[.sl false rlS r0 none]),(1,[zi t,.sl false byS x none])],2,[],0,1000,1000⟩)) =
RT.br (decide (i<n)) (RT.br (decide (0≤i∧i<(↑(D.len r):Int))) (RT.br (D.toI (D.cell (D.get r (Int.toNat i)) 0)==t) (RT.br (D.toI (D.cell (D.get r (Int.toNat i)) 1)==(↑(D.len x):Int)) (RT.ok (Ex.ret,(Tm.mk 19 [(0,zs zR r),(1,AV.fn (Fn.func 291) [] [AV.ptr 1 0]),(4,zi i),(7,zi n),(8,zi i)] []),(Hp.mk [(0,[zs zR r0]),(1,[zi t,zs zU x])] 2 [] 0 1000 1000))) (RT.ok (Ex.normal,(Tm.mk 19 [(0,zs zR r),(1,AV.fn (Fn.func 291) [] [AV.ptr 1 0]),(4,zi 0),(7,zi n),(8,zi (IntKind.wrap IntKind.i64 (i+1)))] []),(Hp.mk [(0,[zs zR r0]),(1,[zi t,zs zU x])] 2 [] 0 1000 1000)))) (RT.ok (Ex.normal,(Tm.mk 19 [(0,zs zR r),(1,AV.fn (Fn.func 291) [] [AV.ptr 1 0]),(4,zi 0),(7,zi n),(8,zi (IntKind.wrap IntKind.i64 (i+1)))] []),(Hp.mk [(0,[zs zR r0]),(1,[zi t,zs zU x])] 2 [] 0 1000 1000)))) (RT.bad 42)) (RT.ok (Ex.exit 0,(Tm.mk 19 [(0,zs zR r),(1,AV.fn (Fn.func 291) [] [AV.ptr 1 0]),(4,zi 0),(7,zi n),(8,zi i)] []),(Hp.mk [(0,[zs zR r0]),(1,[zi t,zs zU x])] 2 [] 0 1000 1000))):=by rw [← fvC_eq Tryz.prog (gam ([])) (lam ([])) false 100]; kernel_rfl
structure rruX where
  r:D
  t:Int
  x:D
def ixrR (a:ixrX) (i:Nat):Tm:=⟨19,[(0,asl rlS a.r),(1,.fn (.func 291) [] [.ptr 1 0]),(4,ai i),(7,ai a.n),(8,ai i)],[]⟩
def ixrT:ixrX×Nat→RT Out:=searchT (fun a=>a.r.len) (fun a=>rnoT a.r a.t a.x.len) (fun a=>decide (a.n=(a.r.len:Int))) ixrF ixrR (fun a=>ixrH a 0) .ret
def ixrLs (P:Program):List (FuncId×Nat×BSpec):=[(290,0,loopS P ixrL ixrDec ixrT)]
def so1S:Spec:=fun args h=>match args,h with
  | [.agg [.sc false (.int .i64 t),.sl false [.int .u8] x none],.ptr 0 0],⟨[(0,[.sl false [.int .i64,.int .i64,.int .i64,.int .i64,.int .i64,.int .i64,.bool] r none])],1,[],0,0,0⟩=>.ok (ai (ruleI r t x.len),⟨[(0,[asl rlS r])],1,[],0,1000,1000⟩)
  | _,_=>.bad 283
theorem ixrDec_0:∀ F h x,ixrDec F h=some x→∃ a,x=(a,0)∧F=ixrF a 0∧h=ixrH a 0:=by
  intro F h x hx
  unfold ixrDec at hx
  split at hx
  · rename_i hd
    cases hx
    obtain ⟨h1,h2⟩:=cdS_ok hd
    exact ⟨_,rfl,h1,h2⟩
  · cases hx
theorem ixrDec_ok:∀ F h x,ixrDec F h=some x→F=ixrF x.1 x.2∧h=ixrH x.1 x.2:=by
  intro F h x hx
  obtain ⟨a,rfl,h1,h2⟩:=ixrDec_0 F h x hx
  exact ⟨h1,h2⟩
theorem tak_tree (t s k l h g:Int) (b:Bool) (n:Int):treeF (evF Tryz.prog (gam ([])) (lam ([])) 100 256) [rulA t s k l h g b,ai n] =
RT.br (k==1) (RT.ok (AV.sc true (Value.bool true))) (RT.br (k==2) (RT.br (decide (l≤n)) (RT.ok (zb (decide (n≤h)))) (RT.ok (AV.sc true (Value.bool false)))) (RT.br (k==3) (RT.ok (zb (n==g))) (RT.br (k==4) (RT.ok (zb (n != l))) (RT.ok (AV.sc true (Value.bool false)))))):=by rw [← fvF_eq Tryz.prog (gam ([])) (lam ([])) false 100 256]; kernel_rfl
theorem so1_tree (r:D) (t:Int) (x:D):treeO 1 (evF Tryz.prog (gam []) (lam (ixrLs Tryz.prog)) 100 289) [optA t x,.ptr 0 0] ⟨[(0,[asl rlS r])],1,[],0,0,0⟩ =
RT.br (decide ((↑(D.len r):Int)=(↑(D.len r):Int))&&true) (RT.br (okFrom (rnoT r (D.toI (D.i t)) (↑(D.len x):Int)) (D.len r - 0) 0) (RT.ok (zk (-1),(Hp.mk [(0,[zs zR r])] 1 [] 0 1000 1000))) (RT.ok (zi (↑(badFrom (rnoT r (D.toI (D.i t)) (↑(D.len x):Int)) (D.len r - 0) 0):Int),(Hp.mk [(0,[zs zR r])] 1 [] 0 1000 1000)))) (RT.bad 210):=by kernel_rfl
theorem ixr_loop:LamE Tryz.prog 290 0 (loopS Tryz.prog ixrL ixrDec ixrT):=by
  refine search_loop (gs:=[]) (ls:=[]) mixed trivial trivial _ 0 100 (by kernel_rfl) ixrL (by intro h; cases h) (by intro h; cases h) (fun F h x hx=>ixrDec_ok F h x hx) ?_
  rintro ⟨r,n,r0,t,x⟩ i K hn hi H1 H2 H3
  obtain rfl:n=(r.len:Int):=odt hn
  dsimp only at hi H1 H2 H3
  have hm:=r.len_le
  show (roundT ixrL (evC _ _ _ _ _ _ (ixrF ⟨r,r.len,r0,t,x⟩ i) (ixrH ⟨r,r.len,r0,t,x⟩ 0))).holds _
  unfold ixrL ixrF ixrH
  rw [ixr_body]
  simp only [Int.toNat_natCast]
  refine ⟨fun h1=>⟨fun h2=>⟨fun h3=>⟨fun h4=>?_,fun h4=>?_⟩,fun h3=>?_⟩,fun h2=>?_⟩,fun h1=>?_⟩
  all_goals simp only [decide_eq_true_eq,decide_eq_false_iff_not] at *
  · refine H2 (by omega) ?_
    unfold rnoT; rw [h3,h4]; rfl
  · rw [wrap_succ (by omega) hm]
    refine H1 (by omega) ?_
    unfold rnoT; rw [h3,h4]; rfl
  · rw [wrap_succ (by omega) hm]
    refine H1 (by omega) ?_
    unfold rnoT; rw [h3]; rfl
  · omega
  · obtain rfl:i=r.len:=by omega
    exact H3 rfl
theorem ixrLs_ok:LamL Tryz.prog (ixrLs Tryz.prog):=⟨ixr_loop,trivial⟩
theorem so1_soundF:SoundF Tryz.prog 289 so1S:=by
  refine obj_in (gs:=[]) (ls:=ixrLs Tryz.prog) mixed trivial ixrLs_ok 289 100 1 fun args h K H=>?_
  unfold so1S at H
  split at H
  · rename_i t x r
    refine ⟨rfl,?_⟩
    rw [so1_tree]
    refine ⟨fun _=>⟨fun h=>⟨_,le_int ?_,H⟩,fun h=>⟨_,le_int ?_,H⟩⟩,fun h=>by simp at h⟩
    · unfold ruleI; rw [show okFrom (rnoT r t x.len) r.len 0=true from h]; rfl
    · unfold ruleI; rw [show okFrom (rnoT r t x.len) r.len 0=false from h]; rfl
  · exact H.elim
theorem tak_soundF:SoundF Tryz.prog 256 (pureS Tryz.prog 256 FTak):=by
  refine pure_in (gs:=[]) (ls:=[]) mixed trivial trivial 256 100 fun args K ho H=>?_
  unfold FTak at H
  split at H
  · rename_i t s k l h g b n
    rw [tak_tree]
    simp only [RT.holds]
    repeat' refine And.intro (fun _=>?_) (fun _=>?_)
    all_goals exact ⟨_,le_bool (by simp_all [takB] <;> omega),H⟩
  · exact H.elim
def rI (r:D) (k j:Nat):Int:=((r.get k).cell j).toI
def rMust (r:D) (k:Nat):Bool:=((r.get k).cell 6).toB
def rulK (r e:D) (i:Nat):Nat:=(ruleI r (optT e i) (optB e i).len).toNat
def oddB (r d e:D) (i:Nat):Bool:=decide (ruleI r (optT e i) (optB e i).len<0)||hasT (d.sub 0 i) (optT e i)
def notB (r e:D) (i:Nat):Bool:=!takB (rI r (rulK r e i) 2) (rI r (rulK r e i) 3) (rI r (rulK r e i) 4) (rI r (rulK r e i) 5) (numB (optB e i))
def bdB (r d e:D) (i:Nat):Bool:=!oddB r d e i&&notB r e i
def rulE (r:D) (k:Nat):D:=.t [.i (rI r k 0),.i (rI r k 1),.i (rI r k 2),.i (rI r k 3),.i (rI r k 4),.i (rI r k 5),.b (rMust r k)]
def lackB (r d:D) (k:Nat):Bool:=rMust r k&&decide (plaI d (rI r k 0)<0)
def sorG (P:Program):List (FuncId×Spec):=[(289,objS so1S),(270,pureS P 270 FPla),(269,pureS P 269 FOwnO),(292,pureS P 292 FNum),(256,pureS P 256 FTak)]
def rszB (r:D):Bool:=decide (∀ k,k<r.len→rI r k 1=2∨rI r k 1=4)
def optsB (e:D):Bool:=decide (∀ i,i<e.len→∀ j,j<(optB e i).len→byR (byA (optB e i) j))
structure srtX where
  (d e:D)
  n:Int
  r:D
def srtL:Lw:=⟨[1,2,4,5,6,13,14,15],[(true,2,0, 52),(true,2,1, 52),(true,2,2, 211)],3,3,1000,1000⟩
def srtF (a:srtX) (i:Nat) (g0:D) (g1:D) (g2:D):Tm:=⟨91,[(1,.sl false opS a.d none),(2,.ptr 0 0),(4,.ptr 1 0),(5,.ptr 2 0),(6,.fn (.func 289) [] [.ptr 0 0]),(13,.sl false opS a.e none),(14,zi a.n),(15,zi (i:Int))],[]⟩
def srtH (a:srtX) (i:Nat) (g0:D) (g1:D) (g2:D):Hp:=⟨[(0,[.sl false rlS a.r none]),(1,[.sc false (.slice none 0 0),.sc false (.slice none 0 0),.sc false (.slice none 0 0),.sc false (.slice none 0 0)]),(2,[.sl false opS g0 (some (0,1000)),.sl false opS g1 (some (1,1001)),.sl false rlS g2 (some (2,1002)),.sc false (.slice none 0 0)])],3,[(0,1000, 52),(1,1001, 52),(2,1002, 211)],3,1003,1000⟩
def srtC:Cs:=⟨91,[(1,.sl opS),(2,.lit (.ptr 0 0)),(4,.lit (.ptr 1 0)),(5,.lit (.ptr 2 0)),(6,.lit (.fn (.func 289) [] [.ptr 0 0])),(13,.sl opS),(14,.int .i64),(15,.lit (.sc false (.int .i64 0)))],[(0,[.sl rlS]),(1,[.lit (.sc false (.slice none 0 0)),.lit (.sc false (.slice none 0 0)),.lit (.sc false (.slice none 0 0)),.lit (.sc false (.slice none 0 0))]),(2,[.nw opS 0 1000,.nw opS 1 1001,.nw rlS 2 1002,.lit (.sc false (.slice none 0 0))])],3,[(0,1000, 52),(1,1001, 52),(2,1002, 211)],3,1003,1000⟩
noncomputable def srtDec (F:Tm) (h:Hp):Option (srtX×Nat):=match cdS srtC F h with
  | some [v0,v1,v2,v3]=>some (⟨v0,v1,v2.toI,v3⟩,0)
  | _=>none
theorem srt_body (d:D) (e:D) (n:Int) (r:D) (i:Int) (g0:D) (g1:D) (g2:D):roundT (⟨[1,2,4,5,6,13,14,15],[(true,2,0, 52),(true,2,1, 52),(true,2,2, 211)],3,3,1000,1000⟩) (evC Tryz.prog (gam (sorG Tryz.prog)) (lam ([])) 100 267 (loopAt 0 (bodyOf Tryz.prog 267)) (⟨91,[(1,.sl false opS d none),(2,.ptr 0 0),(4,.ptr 1 0),(5,.ptr 2 0),(6,.fn (.func 289) [] [.ptr 0 0]),(13,.sl false opS e none),(14,zi n),(15,zi i)],[]⟩) (⟨[(0,[.sl false rlS r none]),(1,[.sc false (.slice none 0 0),.sc false (.slice none 0 0),.sc false (.slice none 0 0),.sc false (.slice none 0 0)]),(2,[.sl false opS g0 (some (0,1000)),.sl false opS g1 (some (1,1001)),.sl false rlS g2 (some (2,1002)),.sc false (.slice none 0 0)])],3,[(0,1000, 52),(1,1001, 52),(2,1002, 211)],3,1003,1000⟩)) =
RT.br (decide (i<n)) (RT.br (decide (0≤i∧i<(↑(D.len e):Int))) (RT.br (decide (ruleI r (D.toI (D.cell (D.get e (Int.toNat i)) 0)) (↑(D.len (D.cell (D.get e (Int.toNat i)) 1)):Int)<0)) (RT.br (decide ((D.len g0+1)*32≤140737488355328)) (RT.ok (Ex.normal,(Tm.mk 91 [(1,zs zO d),(2,AV.ptr 0 0),(4,AV.ptr 1 0),(5,AV.ptr 2 0),(6,AV.fn (Fn.func 289) [] [AV.ptr 0 0]),(13,zs zO e),(14,zi n),(15,zi (IntKind.wrap IntKind.i64 (i+1)))] []),(Hp.mk [(0,[zs zR r]),(1,[zy,zy,zy,zy]),(2,[AV.sl false zO (D.app g0 (D.l [D.t [D.i (D.toI (D.cell (D.get e (Int.toNat i)) 0)),D.cell (D.get e (Int.toNat i)) 1]])) (some (0,1000)),AV.sl false zO g1 (some (1,1001)),AV.sl false zR g2 (some (2,1002)),zy])] 3 [(0,1000, 52),(1,1001, 52),(2,1002, 211)] 3 1003 1000))) (RT.bad 70)) (RT.br (decide ((0:Int)≤0∧0≤i∧i≤(↑(D.len d):Int)∧(↑(D.len d):Int)≤(↑(D.len d):Int))) (RT.br (decide (0≤plaI (D.sub d 0 (Int.toNat i)) (D.toI (D.cell (D.get e (Int.toNat i)) 0)))) (RT.br (decide ((D.len g0+1)*32≤140737488355328)) (RT.ok (Ex.normal,(Tm.mk 91 [(1,zs zO d),(2,AV.ptr 0 0),(4,AV.ptr 1 0),(5,AV.ptr 2 0),(6,AV.fn (Fn.func 289) [] [AV.ptr 0 0]),(13,zs zO e),(14,zi n),(15,zi (IntKind.wrap IntKind.i64 (i+1)))] []),(Hp.mk [(0,[zs zR r]),(1,[zy,zy,zy,zy]),(2,[AV.sl false zO (D.app g0 (D.l [D.t [D.i (D.toI (D.cell (D.get e (Int.toNat i)) 0)),D.cell (D.get e (Int.toNat i)) 1]])) (some (0,1000)),AV.sl false zO g1 (some (1,1001)),AV.sl false zR g2 (some (2,1002)),zy])] 3 [(0,1000, 52),(1,1001, 52),(2,1002, 211)] 3 1003 1000))) (RT.bad 70)) (RT.br (decide (0≤ruleI r (D.toI (D.cell (D.get e (Int.toNat i)) 0)) (↑(D.len (D.cell (D.get e (Int.toNat i)) 1)):Int)∧ruleI r (D.toI (D.cell (D.get e (Int.toNat i)) 0)) (↑(D.len (D.cell (D.get e (Int.toNat i)) 1)):Int)<(↑(D.len r):Int))) (RT.br (decide (D.len (D.cell (D.get e (Int.toNat i)) 1)=2∧byR (D.toI (D.cell (D.get (D.cell (D.get e (Int.toNat i)) 1) 0) 0))∧byR (D.toI (D.cell (D.get (D.cell (D.get e (Int.toNat i)) 1) 1) 0))∨D.len (D.cell (D.get e (Int.toNat i)) 1)=4∧byR (D.toI (D.cell (D.get (D.cell (D.get e (Int.toNat i)) 1) 0) 0))∧byR (D.toI (D.cell (D.get (D.cell (D.get e (Int.toNat i)) 1) 1) 0))∧byR (D.toI (D.cell (D.get (D.cell (D.get e (Int.toNat i)) 1) 2) 0))∧byR (D.toI (D.cell (D.get (D.cell (D.get e (Int.toNat i)) 1) 3) 0)))) (RT.br (!takB (D.toI (D.cell (D.get r (Int.toNat (ruleI r (D.toI (D.cell (D.get e (Int.toNat i)) 0)) (↑(D.len (D.cell (D.get e (Int.toNat i)) 1)):Int)))) 2)) (D.toI (D.cell (D.get r (Int.toNat (ruleI r (D.toI (D.cell (D.get e (Int.toNat i)) 0)) (↑(D.len (D.cell (D.get e (Int.toNat i)) 1)):Int)))) 3)) (D.toI (D.cell (D.get r (Int.toNat (ruleI r (D.toI (D.cell (D.get e (Int.toNat i)) 0)) (↑(D.len (D.cell (D.get e (Int.toNat i)) 1)):Int)))) 4)) (D.toI (D.cell (D.get r (Int.toNat (ruleI r (D.toI (D.cell (D.get e (Int.toNat i)) 0)) (↑(D.len (D.cell (D.get e (Int.toNat i)) 1)):Int)))) 5)) (numB (D.cell (D.get e (Int.toNat i)) 1))) (RT.br (decide ((D.len g1+1)*32≤140737488355328)) (RT.br (decide (0≤ruleI r (D.toI (D.cell (D.get e (Int.toNat i)) 0)) (↑(D.len (D.cell (D.get e (Int.toNat i)) 1)):Int)∧ruleI r (D.toI (D.cell (D.get e (Int.toNat i)) 0)) (↑(D.len (D.cell (D.get e (Int.toNat i)) 1)):Int)<(↑(D.len r):Int))) (RT.br (decide ((D.len g2+1)*56≤140737488355328)) (RT.ok (Ex.normal,(Tm.mk 91 [(1,zs zO d),(2,AV.ptr 0 0),(4,AV.ptr 1 0),(5,AV.ptr 2 0),(6,AV.fn (Fn.func 289) [] [AV.ptr 0 0]),(13,zs zO e),(14,zi n),(15,zi (IntKind.wrap IntKind.i64 (i+1)))] []),(Hp.mk [(0,[zs zR r]),(1,[zy,zy,zy,zy]),(2,[AV.sl false zO g0 (some (0,1000)),AV.sl false zO (D.app g1 (D.l [D.t [D.i (D.toI (D.cell (D.get e (Int.toNat i)) 0)),D.cell (D.get e (Int.toNat i)) 1]])) (some (1,1001)),AV.sl false zR (D.app g2 (D.l [D.t [D.i (D.toI (D.cell (D.get r (Int.toNat (ruleI r (D.toI (D.cell (D.get e (Int.toNat i)) 0)) (↑(D.len (D.cell (D.get e (Int.toNat i)) 1)):Int)))) 0)),D.i (D.toI (D.cell (D.get r (Int.toNat (ruleI r (D.toI (D.cell (D.get e (Int.toNat i)) 0)) (↑(D.len (D.cell (D.get e (Int.toNat i)) 1)):Int)))) 1)),D.i (D.toI (D.cell (D.get r (Int.toNat (ruleI r (D.toI (D.cell (D.get e (Int.toNat i)) 0)) (↑(D.len (D.cell (D.get e (Int.toNat i)) 1)):Int)))) 2)),D.i (D.toI (D.cell (D.get r (Int.toNat (ruleI r (D.toI (D.cell (D.get e (Int.toNat i)) 0)) (↑(D.len (D.cell (D.get e (Int.toNat i)) 1)):Int)))) 3)),D.i (D.toI (D.cell (D.get r (Int.toNat (ruleI r (D.toI (D.cell (D.get e (Int.toNat i)) 0)) (↑(D.len (D.cell (D.get e (Int.toNat i)) 1)):Int)))) 4)),D.i (D.toI (D.cell (D.get r (Int.toNat (ruleI r (D.toI (D.cell (D.get e (Int.toNat i)) 0)) (↑(D.len (D.cell (D.get e (Int.toNat i)) 1)):Int)))) 5)),D.b (D.toB (D.cell (D.get r (Int.toNat (ruleI r (D.toI (D.cell (D.get e (Int.toNat i)) 0)) (↑(D.len (D.cell (D.get e (Int.toNat i)) 1)):Int)))) 6))]])) (some (2,1002)),zy])] 3 [(0,1000, 52),(1,1001, 52),(2,1002, 211)] 3 1003 1000))) (RT.bad 70)) (RT.bad 42)) (RT.bad 70)) (RT.ok (Ex.normal,(Tm.mk 91 [(1,zs zO d),(2,AV.ptr 0 0),(4,AV.ptr 1 0),(5,AV.ptr 2 0),(6,AV.fn (Fn.func 289) [] [AV.ptr 0 0]),(13,zs zO e),(14,zi n),(15,zi (IntKind.wrap IntKind.i64 (i+1)))] []),(Hp.mk [(0,[zs zR r]),(1,[zy,zy,zy,zy]),(2,[AV.sl false zO g0 (some (0,1000)),AV.sl false zO g1 (some (1,1001)),AV.sl false zR g2 (some (2,1002)),zy])] 3 [(0,1000, 52),(1,1001, 52),(2,1002, 211)] 3 1003 1000)))) (RT.bad 280)) (RT.bad 42))) (RT.bad 37))) (RT.bad 42)) (RT.ok (Ex.exit 0,(Tm.mk 91 [(1,zs zO d),(2,AV.ptr 0 0),(4,AV.ptr 1 0),(5,AV.ptr 2 0),(6,AV.fn (Fn.func 289) [] [AV.ptr 0 0]),(13,zs zO e),(14,zi n),(15,zi i)] []),(Hp.mk [(0,[zs zR r]),(1,[zy,zy,zy,zy]),(2,[AV.sl false zO g0 (some (0,1000)),AV.sl false zO g1 (some (1,1001)),AV.sl false zR g2 (some (2,1002)),zy])] 3 [(0,1000, 52),(1,1001, 52),(2,1002, 211)] 3 1003 1000))):=by rw [← fvC_eq Tryz.prog (gam (sorG Tryz.prog)) (lam ([])) false 100]; kernel_rfl
structure sr3X where
  (d r:D)
  n:Int
  (r0 b0 b1 b2:D)
def sr3L:Lw:=⟨[1,4,5,68,69,70],[(true,2,3, 211)],3,4,2000,2000⟩
def sr3F (a:sr3X) (i:Nat) (g3:D):Tm:=⟨91,[(1,.sl false opS a.d none),(4,.ptr 1 0),(5,.ptr 2 0),(68,.sl false rlS a.r none),(69,zi a.n),(70,zi (i:Int))],[]⟩
def sr3H (a:sr3X) (i:Nat) (g3:D):Hp:=⟨[(0,[.sl false rlS a.r0 none]),(1,[.sc false (.slice none 0 0),.sc false (.slice none 0 0),.sc false (.slice none 0 0),.sc false (.slice none 0 0)]),(2,[.sl false opS a.b0 (some (0,2000)),.sl false opS a.b1 (some (1,2001)),.sl false rlS a.b2 (some (2,2002)),.sl false rlS g3 (some (3,2003))])],3,[(0,2000, 52),(1,2001, 52),(2,2002, 211),(3,2003, 211)],4,2004,2000⟩
def sr3C:Cs:=⟨91,[(1,.sl opS),(4,.lit (.ptr 1 0)),(5,.lit (.ptr 2 0)),(68,.sl rlS),(69,.int .i64),(70,.lit (.sc false (.int .i64 0)))],[(0,[.sl rlS]),(1,[.lit (.sc false (.slice none 0 0)),.lit (.sc false (.slice none 0 0)),.lit (.sc false (.slice none 0 0)),.lit (.sc false (.slice none 0 0))]),(2,[.tp opS 0 2000,.tp opS 1 2001,.tp rlS 2 2002,.nw rlS 3 2003])],3,[(0,2000, 52),(1,2001, 52),(2,2002, 211),(3,2003, 211)],4,2004,2000⟩
noncomputable def sr3Dec (F:Tm) (h:Hp):Option (sr3X×Nat):=match cdS sr3C F h with
  | some [v0,v1,v2,v3,v4,v5,v6]=>some (⟨v0,v1,v2.toI,v3,v4,v5,v6⟩,0)
  | _=>none
theorem sr3_body (d:D) (r:D) (n:Int) (r0:D) (b0:D) (b1:D) (b2:D) (i:Int) (g3:D):roundT (⟨[1,4,5,68,69,70],[(true,2,3, 211)],3,4,2000,2000⟩) (evC Tryz.prog (gam (sorG Tryz.prog)) (lam ([])) 100 267 (loopAt 3 (bodyOf Tryz.prog 267)) (⟨91,[(1,.sl false opS d none),(4,.ptr 1 0),(5,.ptr 2 0),(68,.sl false rlS r none),(69,zi n),(70,zi i)],[]⟩) (⟨[(0,[.sl false rlS r0 none]),(1,[.sc false (.slice none 0 0),.sc false (.slice none 0 0),.sc false (.slice none 0 0),.sc false (.slice none 0 0)]),(2,[.sl false opS b0 (some (0,2000)),.sl false opS b1 (some (1,2001)),.sl false rlS b2 (some (2,2002)),.sl false rlS g3 (some (3,2003))])],3,[(0,2000, 52),(1,2001, 52),(2,2002, 211),(3,2003, 211)],4,2004,2000⟩)) =
RT.br (decide (i<n)) (RT.br (decide (0≤i∧i<(↑(D.len r):Int))) (RT.br (D.toB (D.cell (D.get r (Int.toNat i)) 6)) (RT.br (decide (plaI d (D.toI (D.cell (D.get r (Int.toNat i)) 0))<0)) (RT.br (decide ((D.len g3+1)*56≤140737488355328)) (RT.ok (Ex.normal,(Tm.mk 91 [(1,zs zO d),(4,AV.ptr 1 0),(5,AV.ptr 2 0),(68,zs zR r),(69,zi n),(70,zi (IntKind.wrap IntKind.i64 (i+1)))] []),(Hp.mk [(0,[zs zR r0]),(1,[zy,zy,zy,zy]),(2,[AV.sl false zO b0 (some (0,2000)),AV.sl false zO b1 (some (1,2001)),AV.sl false zR b2 (some (2,2002)),AV.sl false zR (D.app g3 (D.l [D.t [D.i (D.toI (D.cell (D.get r (Int.toNat i)) 0)),D.i (D.toI (D.cell (D.get r (Int.toNat i)) 1)),D.i (D.toI (D.cell (D.get r (Int.toNat i)) 2)),D.i (D.toI (D.cell (D.get r (Int.toNat i)) 3)),D.i (D.toI (D.cell (D.get r (Int.toNat i)) 4)),D.i (D.toI (D.cell (D.get r (Int.toNat i)) 5)),D.b (D.toB (D.cell (D.get r (Int.toNat i)) 6))]])) (some (3,2003))])] 3 [(0,2000, 52),(1,2001, 52),(2,2002, 211),(3,2003, 211)] 4 2004 2000))) (RT.bad 70)) (RT.ok (Ex.normal,(Tm.mk 91 [(1,zs zO d),(4,AV.ptr 1 0),(5,AV.ptr 2 0),(68,zs zR r),(69,zi n),(70,zi (IntKind.wrap IntKind.i64 (i+1)))] []),(Hp.mk [(0,[zs zR r0]),(1,[zy,zy,zy,zy]),(2,[AV.sl false zO b0 (some (0,2000)),AV.sl false zO b1 (some (1,2001)),AV.sl false zR b2 (some (2,2002)),AV.sl false zR g3 (some (3,2003))])] 3 [(0,2000, 52),(1,2001, 52),(2,2002, 211),(3,2003, 211)] 4 2004 2000)))) (RT.ok (Ex.normal,(Tm.mk 91 [(1,zs zO d),(4,AV.ptr 1 0),(5,AV.ptr 2 0),(68,zs zR r),(69,zi n),(70,zi (IntKind.wrap IntKind.i64 (i+1)))] []),(Hp.mk [(0,[zs zR r0]),(1,[zy,zy,zy,zy]),(2,[AV.sl false zO b0 (some (0,2000)),AV.sl false zO b1 (some (1,2001)),AV.sl false zR b2 (some (2,2002)),AV.sl false zR g3 (some (3,2003))])] 3 [(0,2000, 52),(1,2001, 52),(2,2002, 211),(3,2003, 211)] 4 2004 2000)))) (RT.bad 42)) (RT.ok (Ex.exit 3,(Tm.mk 91 [(1,zs zO d),(4,AV.ptr 1 0),(5,AV.ptr 2 0),(68,zs zR r),(69,zi n),(70,zi i)] []),(Hp.mk [(0,[zs zR r0]),(1,[zy,zy,zy,zy]),(2,[AV.sl false zO b0 (some (0,2000)),AV.sl false zO b1 (some (1,2001)),AV.sl false zR b2 (some (2,2002)),AV.sl false zR g3 (some (3,2003))])] 3 [(0,2000, 52),(1,2001, 52),(2,2002, 211),(3,2003, 211)] 4 2004 2000))):=by rw [← fvC_eq Tryz.prog (gam (sorG Tryz.prog)) (lam ([])) false 100]; kernel_rfl
def srtO0 (a:srtX) (i:Nat):D:=filD (oddB a.r a.d a.e) (copE a.e) i
def srtO1 (a:srtX) (i:Nat):D:=filD (bdB a.r a.d a.e) (copE a.e) i
def srtO2 (a:srtX) (i:Nat):D:=filD (bdB a.r a.d a.e) (fun j=>rulE a.r (rulK a.r a.e j)) i
def srtOk (a:srtX):Bool:=decide (a.n=(a.e.len:Int)∧a.d.len=a.e.len∧a.e.len*56≤room)&&(rszB a.r&&optsB a.e)
def srtT:srtX×Nat→RT Out:=foldT (fun a=>a.e.len) srtOk (fun a i=>srtF a i (srtO0 a i) (srtO1 a i) (srtO2 a i)) (fun a i=>srtH a i (srtO0 a i) (srtO1 a i) (srtO2 a i))
def sr3O (a:sr3X) (i:Nat):D:=filD (lackB a.r a.d) (rulE a.r) i
def sr3T:sr3X×Nat→RT Out:=foldT (fun a=>a.r.len) (fun a=>decide (a.n=(a.r.len:Int)∧a.r.len*56≤room)) (fun a i=>sr3F a i (sr3O a i)) (fun a i=>sr3H a i (sr3O a i))
def sorLs (P:Program):List (FuncId×Nat×BSpec):=[(267,0,loopS P srtL srtDec srtT),(267,3,loopS P sr3L sr3Dec sr3T)]
theorem srtDec_0:∀ F h x,srtDec F h=some x→∃ a,x=(a,0)∧F=srtF a 0 (.l []) (.l []) (.l [])∧h=srtH a 0 (.l []) (.l []) (.l []):=by
  intro F h x hx
  unfold srtDec at hx
  split at hx
  · rename_i hd
    cases hx
    obtain ⟨h1,h2⟩:=cdS_ok hd
    exact ⟨_,rfl,h1,h2⟩
  · cases hx
theorem sr3Dec_0:∀ F h x,sr3Dec F h=some x→∃ a,x=(a,0)∧F=sr3F a 0 (.l [])∧h=sr3H a 0 (.l []):=by
  intro F h x hx
  unfold sr3Dec at hx
  split at hx
  · rename_i hd
    cases hx
    obtain ⟨h1,h2⟩:=cdS_ok hd
    exact ⟨_,rfl,h1,h2⟩
  · cases hx
theorem sorG_ok:GamL Tryz.prog (sorG Tryz.prog):=⟨objS_ok so1_soundF,pla_soundF,owo_soundF,num_soundF,tak_soundF,trivial⟩
theorem badFrom_at {p:Nat→Bool}:∀ {n i:Nat},okFrom p n i=false→i≤badFrom p n i∧badFrom p n i<i+n∧p (badFrom p n i)=false
  | 0,i,h=>by simp [okFrom] at h
  | n+1,i,h=>by
    cases hp:p i
    · rw [badFrom_here hp]; exact ⟨Nat.le_refl _,by omega,hp⟩
    · rw [badFrom_cons hp]
      simp only [okFrom,hp,Bool.true_and] at h
      obtain ⟨a,b,c⟩:=badFrom_at h
      exact ⟨by omega,by omega,c⟩
theorem ruleI_at {r:D} {t s:Int} (h:0≤ruleI r t s):(ruleI r t s).toNat<r.len∧rI r (ruleI r t s).toNat 0=t∧rI r (ruleI r t s).toNat 1=s:=by
  unfold ruleI at h ⊢
  cases ho:okFrom (rnoT r t s) r.len 0
  · simp only [cond_false,Int.toNat_natCast]
    obtain ⟨_,h2,h3⟩:=badFrom_at ho
    generalize badFrom (rnoT r t s) r.len 0=k at h2 h3
    unfold rnoT at h3
    rw [Bool.not_eq_false',Bool.and_eq_true] at h3
    exact ⟨by omega,eq_of_beq h3.1,eq_of_beq h3.2⟩
  · rw [ho,cond_true] at h; omega
theorem srt_loop:LamE Tryz.prog 267 0 (loopS Tryz.prog srtL srtDec srtT):=by
  refine fold_loop (gs:=sorG Tryz.prog) (ls:=[]) mixed sorG_ok trivial _ 0 100 (by kernel_rfl) srtL (fun F h x hx=>?_) ?_
  · obtain ⟨a,rfl,h1,h2⟩:=srtDec_0 F h x hx
    exact ⟨h1,h2⟩
  rintro ⟨d,e,n,r⟩ i K hok hi H1 H2
  unfold srtOk at hok
  simp only [Bool.and_eq_true,decide_eq_true_eq] at hok
  obtain ⟨⟨rfl,hde,hrm⟩,hrs,hob⟩:=hok
  dsimp only at hi H1 H2 hde hrm hrs hob
  have hm:=e.len_le
  have hrs:=odt hrs
  have hob:=odt hob
  have go:∀ x0 x1 x2,i<e.len→filD (oddB r d e) (copE e) (i+1)=x0→filD (bdB r d e) (copE e) (i+1)=x1→filD (bdB r d e) (fun j=>rulE r (rulK r e j)) (i+1)=x2→K (.normal,srtF ⟨d,e,e.len,r⟩ (i+1) x0 x1 x2,srtH ⟨d,e,e.len,r⟩ (i+1) x0 x1 x2):=by
    rintro _ _ _ hlt rfl rfl rfl; exact H1 hlt
  have l0:=filD_len_le (oddB r d e) (copE e) i
  have l1:=filD_len_le (bdB r d e) (copE e) i
  have l2:=filD_len_le (bdB r d e) (fun j=>rulE r (rulK r e j)) i
  show (roundT srtL (evC _ _ _ _ _ _ (srtF ⟨d,e,e.len,r⟩ i (filD (oddB r d e) (copE e) i) (filD (bdB r d e) (copE e) i) (filD (bdB r d e) (fun j=>rulE r (rulK r e j)) i)) (srtH ⟨d,e,e.len,r⟩ i (filD (oddB r d e) (copE e) i) (filD (bdB r d e) (copE e) i) (filD (bdB r d e) (fun j=>rulE r (rulK r e j)) i)))).holds _
  unfold srtL srtF srtH
  rw [srt_body]
  simp only [Int.toNat_natCast]
  unfold room at hrm
  refine ⟨fun h1=>?_,fun h1=>?_⟩
  rotate_left
  · obtain rfl:i=e.len:=by have:=odf h1; omega
    exact H2 rfl
  have hlt:i<e.len:=by have:=odt h1; omega
  rw [wrap_succ hlt hm]
  clear H1 H2
  refine ⟨fun _=>⟨fun h3=>⟨fun _=>?_,fun h=>?_⟩,fun h3=>⟨fun _=>⟨fun h4=>⟨fun _=>?_,fun h=>?_⟩,fun h4=>⟨fun h5=>⟨fun _=>⟨fun h6=>⟨fun _=>⟨fun _=>⟨fun _=>?_,fun h=>?_⟩,fun h=>?_⟩,fun h=>?_⟩,fun h6=>?_⟩,fun h=>?_⟩,fun h=>?_⟩⟩,fun h=>?_⟩⟩,fun h=>?_⟩
  · have ho:oddB r d e i=true:=by unfold oddB; rw [Bool.or_eq_true]; exact .inl h3
    have hb:bdB r d e i=false:=by unfold bdB; rw [ho]; rfl
    exact go _ _ _ hlt (filD_on (f:=copE e) (by omega) ho).symm (filD_off hb) (filD_off hb)
  · have:=odf h; omega
  · have ho:oddB r d e i=true:=by unfold oddB; rw [Bool.or_eq_true,← plaI_has]; exact .inr h4
    have hb:bdB r d e i=false:=by unfold bdB; rw [ho]; rfl
    exact go _ _ _ hlt (filD_on (f:=copE e) (by omega) ho).symm (filD_off hb) (filD_off hb)
  · have:=odf h; omega
  · have ho:oddB r d e i=false:=by unfold oddB; rw [Bool.or_eq_false_iff,← plaI_has]; exact ⟨h3,h4⟩
    have hb:bdB r d e i=true:=by unfold bdB; rw [ho]; exact h6
    exact go _ _ _ hlt (filD_off ho) (filD_on (f:=copE e) (by omega) hb).symm (filD_on (f:=fun j=>rulE r (rulK r e j)) (by omega) hb).symm
  · have:=odf h; omega
  · rw [h] at h5; cases h5
  · have:=odf h; omega
  · have ho:oddB r d e i=false:=by unfold oddB; rw [Bool.or_eq_false_iff,← plaI_has]; exact ⟨h3,h4⟩
    have hb:bdB r d e i=false:=by unfold bdB; rw [ho]; exact h6
    exact go _ _ _ hlt (filD_off ho) (filD_off hb) (filD_off hb)
  · have h5:=(odt h5).1
    obtain ⟨k1,k2,k3⟩:=ruleI_at h5
    refine absurd ?_ (odf h)
    have hl:(optB e i).len=2∨(optB e i).len=4:=by
      have k4:rI r _ 1=((optB e i).len:Int):=k3
      rcases hrs _ k1 with h7 | h7 <;> rw [k4] at h7
      · left; omega
      · right; omega
    have hq:=hob i hlt
    rcases hl with hl | hl
    · exact .inl ⟨hl,hq 0 (by omega),hq 1 (by omega)⟩
    · exact .inr ⟨hl,hq 0 (by omega),hq 1 (by omega),hq 2 (by omega),hq 3 (by omega)⟩
  · have h3:=odf h3
    have h5:0≤ruleI r (optT e i) (optB e i).len:=by
      have:¬ ruleI r (optT e i) (optB e i).len<0:=h3
      omega
    obtain ⟨k1,_⟩:=ruleI_at h5
    refine absurd ⟨h5,?_⟩ (odf h)
    show ruleI r (optT e i) (optB e i).len<(r.len:Int)
    omega
  · have:=odf h; omega
  · have:=odf h; omega
theorem sr3_loop:LamE Tryz.prog 267 3 (loopS Tryz.prog sr3L sr3Dec sr3T):=by
  refine fold_loop (gs:=sorG Tryz.prog) (ls:=[]) mixed sorG_ok trivial _ 3 100 (by kernel_rfl) sr3L (fun F h x hx=>?_) ?_
  · obtain ⟨a,rfl,h1,h2⟩:=sr3Dec_0 F h x hx
    exact ⟨h1,h2⟩
  rintro ⟨d,r,n,r0,b0,b1,b2⟩ i K hok hi H1 H2
  have hok:=odt hok
  dsimp only at hok hi H1 H2
  obtain ⟨rfl,hrm⟩:=hok
  have hm:=r.len_le
  have go:∀ x0,i<r.len→filD (lackB r d) (rulE r) (i+1)=x0→K (.normal,sr3F ⟨d,r,r.len,r0,b0,b1,b2⟩ (i+1) x0,sr3H ⟨d,r,r.len,r0,b0,b1,b2⟩ (i+1) x0):=by
    rintro _ hlt rfl; exact H1 hlt
  have l0:=filD_len_le (lackB r d) (rulE r) i
  show (roundT sr3L (evC _ _ _ _ _ _ (sr3F ⟨d,r,r.len,r0,b0,b1,b2⟩ i (filD (lackB r d) (rulE r) i)) (sr3H ⟨d,r,r.len,r0,b0,b1,b2⟩ i (filD (lackB r d) (rulE r) i)))).holds _
  unfold sr3L sr3F sr3H
  rw [sr3_body]
  simp only [Int.toNat_natCast]
  unfold room at hrm
  refine ⟨fun h1=>?_,fun h1=>?_⟩
  rotate_left
  · obtain rfl:i=r.len:=by have:=odf h1; omega
    exact H2 rfl
  have hlt:i<r.len:=by have:=odt h1; omega
  rw [wrap_succ hlt hm]
  clear H1 H2
  refine ⟨fun _=>⟨fun h3=>⟨fun h4=>⟨fun _=>?_,fun h=>?_⟩,fun h4=>?_⟩,fun h3=>?_⟩,fun h=>?_⟩
  · exact go _ hlt (filD_on (p:=lackB r d) (f:=rulE r) (by omega) (by unfold lackB rMust; rw [h3]; exact h4)).symm
  · have:=odf h; omega
  · exact go _ hlt (filD_off (by unfold lackB rMust; rw [h3]; exact h4))
  · exact go _ hlt (filD_off (by unfold lackB rMust; rw [h3]; rfl))
  · have:=odf h; omega
theorem sorLs_ok:LamL Tryz.prog (sorLs Tryz.prog):=⟨srt_loop,sr3_loop,trivial⟩
def oddL (r d:D):D:=filD (oddB r d d) (copE d) d.len
def bdL (r d:D):D:=filD (bdB r d d) (copE d) d.len
def bdR (r d:D):D:=filD (bdB r d d) (fun j=>rulE r (rulK r d j)) d.len
def lackL (r d:D):D:=filD (lackB r d) (rulE r) r.len
def sorN (r d:D):Bool:=decide (d.len*56≤room∧r.len*56≤room)&&(rszB r&&optsB d)
def sorA (r d:D):AV:=.agg [asl opS (oddL r d),asl opS (bdL r d),asl rlS (bdR r d),asl rlS (lackL r d)]
def FSort:List AV→RT AV
  | [.sl false [.int .i64,.int .i64,.int .i64,.int .i64,.int .i64,.int .i64,.bool] r none,.sl false [.int .i64,.sl [.int .u8]] d none]=>need false (sorN r d) 284 (.ok (sorA r d))
  | _=>.bad 284
def gooC (e:D):D:=.t [.i (e.cell 0).toI,beD (e.cell 5).toI (e.cell 1).toI]
def gooE (q:D) (k:Nat):D:=gooC (q.get k)
def rgdB (q:D):Bool:=decide (∀ k,k<q.len→(0≤rI q k 5∧rI q k 5<4294967296)∧1≤rI q k 1∧rI q k 1≤8)
def grow (b:D) (p:Nat→Bool) (f:Nat→D):Nat→D
  | 0=>b
  | i+1=>bif p i then (grow b p f i).app (.l [f i]) else grow b p f i
def yes (_:Nat):Bool:=true
def golG (P:Program):List (FuncId×Spec):=[(268,pureS P 268 FGood),(269,pureS P 269 FOwnO)]
structure owsX where
  d:D
  n:Int
def owsL:Lw:=⟨[3,6,7,8],[(false,3,0, 52)],0,1,1000,1000⟩
def owsF (a:owsX) (i:Nat) (g0:D):Tm:=⟨19,[(3,.sl false opS g0 (some (0,1000))),(6,.sl false opS a.d none),(7,zi a.n),(8,zi (i:Int))],[]⟩
def owsH (a:owsX) (i:Nat) (g0:D):Hp:=⟨[],0,[(0,1000, 52)],1,1001,1000⟩
def owsC:Cs:=⟨19,[(3,.nw opS 0 1000),(6,.sl opS),(7,.int .i64),(8,.lit (.sc false (.int .i64 0)))],[],0,[(0,1000, 52)],1,1001,1000⟩
noncomputable def owsDec (F:Tm) (h:Hp):Option (owsX×Nat):=match cdS owsC F h with
  | some [v0,v1]=>some (⟨v0,v1.toI⟩,0)
  | _=>none
theorem ows_body (d:D) (n:Int) (i:Int) (g0:D):roundT (⟨[3,6,7,8],[(false,3,0, 52)],0,1,1000,1000⟩) (evC Tryz.prog (gam (golG Tryz.prog)) (lam ([])) 100 229 (loopAt 0 (bodyOf Tryz.prog 229)) (⟨19,[(3,.sl false opS g0 (some (0,1000))),(6,.sl false opS d none),(7,zi n),(8,zi i)],[]⟩) (⟨[],0,[(0,1000, 52)],1,1001,1000⟩)) =
RT.br (decide (i<n)) (RT.br (decide (0≤i∧i<(↑(D.len d):Int))) (RT.br (decide ((D.len g0+1)*32≤140737488355328)) (RT.ok (Ex.normal,(Tm.mk 19 [(3,AV.sl false zO (D.app g0 (D.l [D.t [D.i (D.toI (D.cell (D.get d (Int.toNat i)) 0)),D.cell (D.get d (Int.toNat i)) 1]])) (some (0,1000))),(6,zs zO d),(7,zi n),(8,zi (IntKind.wrap IntKind.i64 (i+1)))] []),(Hp.mk [] 0 [(0,1000, 52)] 1 1001 1000))) (RT.bad 70)) (RT.bad 42)) (RT.ok (Ex.exit 0,(Tm.mk 19 [(3,AV.sl false zO g0 (some (0,1000))),(6,zs zO d),(7,zi n),(8,zi i)] []),(Hp.mk [] 0 [(0,1000, 52)] 1 1001 1000))):=by rw [← fvC_eq Tryz.prog (gam (golG Tryz.prog)) (lam ([])) false 100]; kernel_rfl
structure anbX where
  d:D
  (nk mo:Int)
  q:D
  n:Int
  (s0 s1 s2 s3:D)
def anbL:Lw:=⟨[1,2,3,10,11,26,27,28],[(false,11,0, 52)],1,1,1000,1000⟩
def anbF (a:anbX) (i:Nat) (g0:D):Tm:=⟨81,[(1,.sl false opS a.d none),(2,zi a.nk),(3,zi a.mo),(10,.ptr 0 0),(11,.sl false opS g0 (some (0,1000))),(26,.sl false rlS a.q none),(27,zi a.n),(28,zi (i:Int))],[]⟩
def anbH (a:anbX) (i:Nat) (g0:D):Hp:=⟨[(0,[.sl false opS a.s0 none,.sl false opS a.s1 none,.sl false rlS a.s2 none,.sl false rlS a.s3 none])],1,[(0,1000, 52)],1,1001,1000⟩
def anbC:Cs:=⟨81,[(1,.sl opS),(2,.int .i64),(3,.int .i64),(10,.lit (.ptr 0 0)),(11,.nw opS 0 1000),(26,.sl rlS),(27,.int .i64),(28,.lit (.sc false (.int .i64 0)))],[(0,[.sl opS,.sl opS,.sl rlS,.sl rlS])],1,[(0,1000, 52)],1,1001,1000⟩
noncomputable def anbDec (F:Tm) (h:Hp):Option (anbX×Nat):=match cdS anbC F h with
  | some [v0,v1,v2,v3,v4,v5,v6,v7,v8]=>some (⟨v0,v1.toI,v2.toI,v3,v4.toI,v5,v6,v7,v8⟩,0)
  | _=>none
theorem anb_body (d:D) (nk:Int) (mo:Int) (q:D) (n:Int) (s0:D) (s1:D) (s2:D) (s3:D) (i:Int) (g0:D):roundT (⟨[1,2,3,10,11,26,27,28],[(false,11,0, 52)],1,1,1000,1000⟩) (evC Tryz.prog (gam (golG Tryz.prog)) (lam ([])) 100 228 (loopAt 0 (bodyOf Tryz.prog 228)) (⟨81,[(1,.sl false opS d none),(2,zi nk),(3,zi mo),(10,.ptr 0 0),(11,.sl false opS g0 (some (0,1000))),(26,.sl false rlS q none),(27,zi n),(28,zi i)],[]⟩) (⟨[(0,[.sl false opS s0 none,.sl false opS s1 none,.sl false rlS s2 none,.sl false rlS s3 none])],1,[(0,1000, 52)],1,1001,1000⟩)) =
RT.br (decide (i<n)) (RT.br (decide (0≤i∧i<(↑(D.len q):Int))) (RT.br (decide ((0≤D.toI (D.cell (D.get q (Int.toNat i)) 5)∧D.toI (D.cell (D.get q (Int.toNat i)) 5)<4294967296)∧1≤D.toI (D.cell (D.get q (Int.toNat i)) 1)∧D.toI (D.cell (D.get q (Int.toNat i)) 1)≤8)) (RT.br (decide ((D.len g0+1)*32≤140737488355328)) (RT.ok (Ex.normal,(Tm.mk 81 [(1,zs zO d),(2,zi nk),(3,zi mo),(10,AV.ptr 0 0),(11,AV.sl false zO (D.app g0 (D.l [D.t [D.i (D.toI (D.cell (D.get q (Int.toNat i)) 0)),beD (D.toI (D.cell (D.get q (Int.toNat i)) 5)) (D.toI (D.cell (D.get q (Int.toNat i)) 1))]])) (some (0,1000))),(26,zs zR q),(27,zi n),(28,zi (IntKind.wrap IntKind.i64 (i+1)))] []),(Hp.mk [(0,[zs zO s0,zs zO s1,zs zR s2,zs zR s3])] 1 [(0,1000, 52)] 1 1001 1000))) (RT.bad 70)) (RT.bad 279)) (RT.bad 42)) (RT.ok (Ex.exit 0,(Tm.mk 81 [(1,zs zO d),(2,zi nk),(3,zi mo),(10,AV.ptr 0 0),(11,AV.sl false zO g0 (some (0,1000))),(26,zs zR q),(27,zi n),(28,zi i)] []),(Hp.mk [(0,[zs zO s0,zs zO s1,zs zR s2,zs zR s3])] 1 [(0,1000, 52)] 1 1001 1000))):=by rw [← fvC_eq Tryz.prog (gam (golG Tryz.prog)) (lam ([])) false 100]; kernel_rfl
structure an2X where
  (d b q:D)
  n:Int
  (s0 s1 s2 s3:D)
def an2L:Lw:=⟨[1,10,11,48,49,50],[(false,11,0, 52)],1,1,2000,2000⟩
def an2F (a:an2X) (i:Nat) (g0:D):Tm:=⟨81,[(1,.sl false opS a.d none),(10,.ptr 0 0),(11,.sl false opS g0 (some (0,2000))),(48,.sl false rlS a.q none),(49,zi a.n),(50,zi (i:Int))],[]⟩
def an2H (a:an2X) (i:Nat) (g0:D):Hp:=⟨[(0,[.sl false opS a.s0 none,.sl false opS a.s1 none,.sl false rlS a.s2 none,.sl false rlS a.s3 none])],1,[(0,2000, 52)],1,2001,2000⟩
def an2C:Cs:=⟨81,[(1,.sl opS),(10,.lit (.ptr 0 0)),(11,.tp opS 0 2000),(48,.sl rlS),(49,.int .i64),(50,.lit (.sc false (.int .i64 0)))],[(0,[.sl opS,.sl opS,.sl rlS,.sl rlS])],1,[(0,2000, 52)],1,2001,2000⟩
noncomputable def an2Dec (F:Tm) (h:Hp):Option (an2X×Nat):=match cdS an2C F h with
  | some [v0,v1,v2,v3,v4,v5,v6,v7]=>some (⟨v0,v1,v2,v3.toI,v4,v5,v6,v7⟩,0)
  | _=>none
theorem an2_body (d:D) (q:D) (n:Int) (s0:D) (s1:D) (s2:D) (s3:D) (i:Int) (g0:D):roundT (⟨[1,10,11,48,49,50],[(false,11,0, 52)],1,1,2000,2000⟩) (evC Tryz.prog (gam (golG Tryz.prog)) (lam ([])) 100 228 (loopAt 2 (bodyOf Tryz.prog 228)) (⟨81,[(1,.sl false opS d none),(10,.ptr 0 0),(11,.sl false opS g0 (some (0,2000))),(48,.sl false rlS q none),(49,zi n),(50,zi i)],[]⟩) (⟨[(0,[.sl false opS s0 none,.sl false opS s1 none,.sl false rlS s2 none,.sl false rlS s3 none])],1,[(0,2000, 52)],1,2001,2000⟩)) =
RT.br (decide (i<n)) (RT.br (decide (0≤i∧i<(↑(D.len q):Int))) (RT.br (decide ((0≤D.toI (D.cell (D.get q (Int.toNat i)) 5)∧D.toI (D.cell (D.get q (Int.toNat i)) 5)<4294967296)∧1≤D.toI (D.cell (D.get q (Int.toNat i)) 1)∧D.toI (D.cell (D.get q (Int.toNat i)) 1)≤8)) (RT.br (decide ((D.len g0+1)*32≤140737488355328)) (RT.ok (Ex.normal,(Tm.mk 81 [(1,zs zO d),(10,AV.ptr 0 0),(11,AV.sl false zO (D.app g0 (D.l [D.t [D.i (D.toI (D.cell (D.get q (Int.toNat i)) 0)),beD (D.toI (D.cell (D.get q (Int.toNat i)) 5)) (D.toI (D.cell (D.get q (Int.toNat i)) 1))]])) (some (0,2000))),(48,zs zR q),(49,zi n),(50,zi (IntKind.wrap IntKind.i64 (i+1)))] []),(Hp.mk [(0,[zs zO s0,zs zO s1,zs zR s2,zs zR s3])] 1 [(0,2000, 52)] 1 2001 2000))) (RT.bad 70)) (RT.bad 279)) (RT.bad 42)) (RT.ok (Ex.exit 2,(Tm.mk 81 [(1,zs zO d),(10,AV.ptr 0 0),(11,AV.sl false zO g0 (some (0,2000))),(48,zs zR q),(49,zi n),(50,zi i)] []),(Hp.mk [(0,[zs zO s0,zs zO s1,zs zR s2,zs zR s3])] 1 [(0,2000, 52)] 1 2001 2000))):=by rw [← fvC_eq Tryz.prog (gam (golG Tryz.prog)) (lam ([])) false 100]; kernel_rfl
def owsT:owsX×Nat→RT Out:=foldT (fun a=>a.d.len) (fun a=>decide (a.n=(a.d.len:Int)∧a.d.len*32≤room)) (fun a i=>owsF a i (tabD (copE a.d) i)) (fun a i=>owsH a i (tabD (copE a.d) i))
def anbT:anbX×Nat→RT Out:=foldT (fun a=>a.q.len) (fun a=>decide (a.n=(a.q.len:Int)∧a.q.len*56≤room)&&rgdB a.q) (fun a i=>anbF a i (tabD (gooE a.q) i)) (fun a i=>anbH a i (tabD (gooE a.q) i))
def an2T:an2X×Nat→RT Out:=foldT (fun a=>a.q.len) (fun a=>decide (a.n=(a.q.len:Int)∧(a.b.len+a.q.len)*32≤room)&&rgdB a.q) (fun a i=>an2F a i (grow a.b yes (gooE a.q) i)) (fun a i=>an2H a i (grow a.b yes (gooE a.q) i))
def owsLs (P:Program):List (FuncId×Nat×BSpec):=[(229,0,loopS P owsL owsDec owsT)]
def ansLs (P:Program):List (FuncId×Nat×BSpec):=[(228,0,loopS P anbL anbDec anbT),(228,2,loopS P an2L an2Dec an2T)]
def FOwns:List AV→RT AV
  | [.sl false [.int .i64,.sl [.int .u8]] d none]=>need false (decide (d.len*32≤room)) 286 (.ok (asl opS d))
  | _=>.bad 286
theorem owsDec_0:∀ F h x,owsDec F h=some x→∃ a,x=(a,0)∧F=owsF a 0 (.l [])∧h=owsH a 0 (.l []):=by
  intro F h x hx
  unfold owsDec at hx
  split at hx
  · rename_i hd
    cases hx
    obtain ⟨h1,h2⟩:=cdS_ok hd
    exact ⟨_,rfl,h1,h2⟩
  · cases hx
theorem anbDec_0:∀ F h x,anbDec F h=some x→∃ a,x=(a,0)∧F=anbF a 0 (.l [])∧h=anbH a 0 (.l []):=by
  intro F h x hx
  unfold anbDec at hx
  split at hx
  · rename_i hd
    cases hx
    obtain ⟨h1,h2⟩:=cdS_ok hd
    exact ⟨_,rfl,h1,h2⟩
  · cases hx
theorem an2Dec_0:∀ F h x,an2Dec F h=some x→∃ a,x=(a,0)∧F=an2F a 0 a.b∧h=an2H a 0 a.b:=by
  intro F h x hx
  unfold an2Dec at hx
  split at hx
  · rename_i hd
    cases hx
    obtain ⟨h1,h2⟩:=cdS_ok hd
    exact ⟨_,rfl,h1,h2⟩
  · cases hx
theorem golG_ok:GamL Tryz.prog (golG Tryz.prog):=⟨goo_soundF,owo_soundF,trivial⟩
theorem grow_len (b:D) (p:Nat→Bool) (f:Nat→D):∀ n,(grow b p f n).len≤b.len+n
  | 0=>Nat.le_refl _
  | n+1=>by
    have ih:=grow_len b p f n
    show (bif p n then _ else _:D).len≤_
    cases p n
    · simp only [cond_false]; omega
    · simp only [cond_true]
      have:((grow b p f n).app (.l [f n])).len≤(grow b p f n).len+1:=by
        unfold D.app D.len D.toL D.raw
        refine Nat.le_trans (List.length_take_le' _ _) ?_
        rw [List.length_append]
        have:=List.length_take_le' maxLen [f n]
        simp only [List.length_cons,List.length_nil] at this
        exact Nat.add_le_add_left this _
      omega
theorem rgdB_at {q:D} {i:Nat} (h:rgdB q=true) (hi:i<q.len):(0≤rI q i 5∧rI q i 5<4294967296)∧1≤rI q i 1∧rI q i 1≤8:=odt h i hi
theorem ows_loop:LamE Tryz.prog 229 0 (loopS Tryz.prog owsL owsDec owsT):=by
  refine fold_loop (gs:=golG Tryz.prog) (ls:=[]) mixed golG_ok trivial _ 0 100 (by kernel_rfl) owsL (fun F h x hx=>by obtain ⟨a,rfl,h1,h2⟩:=owsDec_0 F h x hx; exact ⟨h1,h2⟩) ?_
  rintro ⟨d,n⟩ i K hok hi H1 H2
  dsimp only at hok hi H1 H2
  have hm:=d.len_le
  obtain ⟨rfl,hrm⟩:=odt hok
  have l0:=tabD_len (f:=copE d) (n:=i) (by omega)
  unfold room at hrm
  have go:∀ x0,i<d.len→tabD (copE d) (i+1)=x0→K (.normal,owsF ⟨d,d.len⟩ (i+1) x0,owsH ⟨d,d.len⟩ (i+1) x0):=by
    intro x0 hlt; rintro rfl; exact H1 hlt
  show (roundT owsL (evC _ _ _ _ _ _ (owsF ⟨d,d.len⟩ i (tabD (copE d) i)) (owsH ⟨d,d.len⟩ i (tabD (copE d) i)))).holds _
  unfold owsL owsF owsH
  rw [ows_body]
  simp only [Int.toNat_natCast]
  refine ⟨fun h1=>?_,fun h1=>?_⟩
  rotate_left
  · obtain rfl:i=d.len:=by have:=odf h1; omega
    exact H2 rfl
  have hlt:i<d.len:=by have:=odt h1; omega
  rw [wrap_succ hlt hm]
  clear H1 H2
  refine ⟨fun _=>⟨fun _=>?_,fun h=>?_⟩,fun h=>?_⟩
  · exact go _ hlt (tabD_succ (f:=copE d) (n:=i) (by omega)).symm
  · have:=odf h; omega
  · have:=odf h; omega
theorem anb_loop:LamE Tryz.prog 228 0 (loopS Tryz.prog anbL anbDec anbT):=by
  refine fold_loop (gs:=golG Tryz.prog) (ls:=[]) mixed golG_ok trivial _ 0 100 (by kernel_rfl) anbL (fun F h x hx=>by obtain ⟨a,rfl,h1,h2⟩:=anbDec_0 F h x hx; exact ⟨h1,h2⟩) ?_
  rintro ⟨d,nk,mo,q,n,s0,s1,s2,s3⟩ i K hok hi H1 H2
  dsimp only at hok hi H1 H2
  have hm:=q.len_le
  rw [Bool.and_eq_true] at hok
  obtain ⟨hok,hrg⟩:=hok
  obtain ⟨rfl,hrm⟩:=odt hok
  have l0:=tabD_len (f:=gooE q) (n:=i) (by have:=q.len_le; omega)
  unfold room at hrm
  have go:∀ x0,i<q.len→tabD (gooE q) (i+1)=x0→K (.normal,anbF ⟨d,nk,mo,q,q.len,s0,s1,s2,s3⟩ (i+1) x0,anbH ⟨d,nk,mo,q,q.len,s0,s1,s2,s3⟩ (i+1) x0):=by
    intro x0 hlt; rintro rfl; exact H1 hlt
  show (roundT anbL (evC _ _ _ _ _ _ (anbF ⟨d,nk,mo,q,q.len,s0,s1,s2,s3⟩ i (tabD (gooE q) i)) (anbH ⟨d,nk,mo,q,q.len,s0,s1,s2,s3⟩ i (tabD (gooE q) i)))).holds _
  unfold anbL anbF anbH
  rw [anb_body]
  simp only [Int.toNat_natCast]
  refine ⟨fun h1=>?_,fun h1=>?_⟩
  rotate_left
  · obtain rfl:i=q.len:=by have:=odf h1; omega
    exact H2 rfl
  have hlt:i<q.len:=by have:=odt h1; omega
  rw [wrap_succ hlt hm]
  clear H1 H2
  refine ⟨fun _=>⟨fun _=>⟨fun _=>?_,fun h=>?_⟩,fun h=>?_⟩,fun h=>?_⟩
  · exact go _ hlt (tabD_succ (f:=gooE q) (n:=i) (by omega)).symm
  · have:=odf h; omega
  · exact absurd (rgdB_at hrg hlt) (odf h)
  · have:=odf h; omega
theorem an2_loop:LamE Tryz.prog 228 2 (loopS Tryz.prog an2L an2Dec an2T):=by
  refine fold_loop (gs:=golG Tryz.prog) (ls:=[]) mixed golG_ok trivial _ 2 100 (by kernel_rfl) an2L (fun F h x hx=>by obtain ⟨a,rfl,h1,h2⟩:=an2Dec_0 F h x hx; exact ⟨h1,h2⟩) ?_
  rintro ⟨d,b,q,n,s0,s1,s2,s3⟩ i K hok hi H1 H2
  dsimp only at hok hi H1 H2
  have hm:=q.len_le
  rw [Bool.and_eq_true] at hok
  obtain ⟨hok,hrg⟩:=hok
  obtain ⟨rfl,hrm⟩:=odt hok
  have l0:=grow_len b yes (gooE q) i
  unfold room at hrm
  have go:∀ x0,i<q.len→grow b yes (gooE q) (i+1)=x0→K (.normal,an2F ⟨d,b,q,q.len,s0,s1,s2,s3⟩ (i+1) x0,an2H ⟨d,b,q,q.len,s0,s1,s2,s3⟩ (i+1) x0):=by
    intro x0 hlt; rintro rfl; exact H1 hlt
  show (roundT an2L (evC _ _ _ _ _ _ (an2F ⟨d,b,q,q.len,s0,s1,s2,s3⟩ i (grow b yes (gooE q) i)) (an2H ⟨d,b,q,q.len,s0,s1,s2,s3⟩ i (grow b yes (gooE q) i)))).holds _
  unfold an2L an2F an2H
  rw [an2_body]
  simp only [Int.toNat_natCast]
  refine ⟨fun h1=>?_,fun h1=>?_⟩
  rotate_left
  · obtain rfl:i=q.len:=by have:=odf h1; omega
    exact H2 rfl
  have hlt:i<q.len:=by have:=odt h1; omega
  rw [wrap_succ hlt hm]
  clear H1 H2
  refine ⟨fun _=>⟨fun _=>⟨fun _=>?_,fun h=>?_⟩,fun h=>?_⟩,fun h=>?_⟩
  · exact go _ hlt rfl
  · have:=odf h; omega
  · exact absurd (rgdB_at hrg hlt) (odf h)
  · have:=odf h; omega
theorem owsLs_ok:LamL Tryz.prog (owsLs Tryz.prog):=⟨ows_loop,trivial⟩
theorem ansLs_ok:LamL Tryz.prog (ansLs Tryz.prog):=⟨anb_loop,an2_loop,trivial⟩
theorem sor_tree (r d:D):treeF (evF Tryz.prog (gam (sorG Tryz.prog)) (lam (sorLs Tryz.prog)) 100 267) [asl rlS r,asl opS d] =
RT.br (decide ((↑(D.len d):Int)=(↑(D.len d):Int)∧D.len d=D.len d∧D.len d*56≤140737488355328)&&(rszB r&&optsB d)&&true) (RT.br (decide ((↑(D.len r):Int)=(↑(D.len r):Int)∧D.len r*56≤140737488355328)&&true) (RT.ok (AV.agg [zs zO (filD (oddB r d d) (copE d) (D.len d)),zs zO (filD (bdB r d d) (copE d) (D.len d)),zs zR (filD (bdB r d d) (fun j=>rulE r (rulK r d j)) (D.len d)),zs zR (filD (lackB r d) (rulE r) (D.len r))])) (RT.bad 210)) (RT.bad 210):=by rw [← fvF_eq Tryz.prog (gam (sorG Tryz.prog)) (lam (sorLs Tryz.prog)) false 100 267]; kernel_rfl
theorem ows_tree (d:D):treeF (evF Tryz.prog (gam (golG Tryz.prog)) (lam (owsLs Tryz.prog)) 100 229) [asl opS d] =
RT.br (decide ((↑(D.len d):Int)=(↑(D.len d):Int)∧D.len d*32≤140737488355328)&&true) (RT.ok (zs zO (tabD (copE d) (D.len d)))) (RT.bad 210):=by rw [← fvF_eq Tryz.prog (gam (golG Tryz.prog)) (lam (owsLs Tryz.prog)) false 100 229]; kernel_rfl
theorem FSort_inv {args:List AV} {K:AV→Prop} (H:(FSort args).holds K):∃ r d,args=[asl rlS r,asl opS d]∧sorN r d=true∧K (sorA r d):=by
  unfold FSort at H
  split at H
  · rename_i r d
    obtain ⟨hc,H⟩:=need_holds H
    exact ⟨r,d,rfl,hc,H⟩
  · exact H.elim
theorem sor_soundF:SoundF Tryz.prog 267 (pureS Tryz.prog 267 FSort):=by
  refine pure_in (gs:=sorG Tryz.prog) (ls:=sorLs Tryz.prog) mixed sorG_ok sorLs_ok 267 100 fun args K ho H=>?_
  obtain ⟨r,d,hr,hc,H⟩:=FSort_inv H
  rw [hr,sor_tree]
  unfold sorN at hc
  rw [Bool.and_eq_true] at hc
  obtain ⟨hc,hb⟩:=hc
  obtain ⟨h0,h1⟩:=odt hc
  unfold room at h0 h1
  refine ⟨fun _=>⟨fun _=>⟨_,Le.refl _,H⟩,fun h=>?_⟩,fun h=>?_⟩
  · rw [Bool.and_true] at h; exact absurd ⟨rfl,h1⟩ (odf h)
  · rw [hb,Bool.and_true,Bool.and_true] at h; exact absurd ⟨rfl,rfl,h0⟩ (odf h)
theorem FOwns_inv {args:List AV} {K:AV→Prop} (H:(FOwns args).holds K):∃ d,args=[asl opS d]∧d.len*32≤140737488355328∧K (asl opS d):=by
  unfold FOwns at H
  split at H
  · rename_i d
    obtain ⟨hc,H⟩:=need_holds H
    exact ⟨d,rfl,odt hc,H⟩
  · exact H.elim
theorem ows_soundF:SoundF Tryz.prog 229 (pureS Tryz.prog 229 FOwns):=by
  refine pure_in (gs:=golG Tryz.prog) (ls:=owsLs Tryz.prog) mixed golG_ok owsLs_ok 229 100 fun args K ho H=>?_
  obtain ⟨d,hr,hc,H⟩:=FOwns_inv H
  rw [hr,ows_tree]
  refine ⟨fun _=>⟨_,le_cop d,H⟩,fun h=>?_⟩
  rw [Bool.and_true] at h
  exact absurd ⟨rfl,hc⟩ (odf h)
structure ra0X where
  (r d:D)
  (nk mo:Int)
structure ra2X where
  (r d:D)
  (nk mo:Int)
  (b1 b2:D)
def okR (r:D):Bool:=rulesB (rlM r) (rlG r)
def answG (P:Program):List (FuncId×Spec):=[(203,pureS P 203 FChk),(267,pureS P 267 FSort),(229,pureS P 229 FOwns)]
def nakL (r d:D):D:=grow (filD (bdB r d d) (fun j=>gooE r (rulK r d j)) d.len) (lackB r d) (gooE r) r.len
def ansC (r d:D) (nk mo:Int):Int:=bif okR r then (if 0<(oddL r d).len then 4 else if (nakL r d).len=0 then 2 else if mo≤nk∧0<(bdL r d).len then 4 else 3) else 0
def ansO (r d:D) (nk mo:Int):D:=bif okR r then (if 0<(oddL r d).len then oddL r d else if (nakL r d).len=0 then d else if mo≤nk∧0<(bdL r d).len then bdL r d else nakL r d) else .l []
def ansN (r d:D):Bool:=isRl r&&(decide ((d.len+16)*56≤140737488355328)&&optsB d)
def FAns:List AV→RT AV
  | [.sl false [.int .i64,.int .i64,.int .i64,.int .i64,.int .i64,.int .i64,.bool] r none,.sl false [.int .i64,.sl [.int .u8]] d none,.sc false (.int .i64 nk),.sc false (.int .i64 mo)]=>need false (ansN r d) 285 (.ok (.tup [ai (ansC r d nk mo),asl opS (ansO r d nk mo)]))
  | _=>.bad 285
theorem FAns_inv {args:List AV} {K:AV→Prop} (H:(FAns args).holds K):∃ r d nk mo,args=[asl rlS r,asl opS d,ai nk,ai mo]∧ansN r d=true∧K (.tup [ai (ansC r d nk mo),asl opS (ansO r d nk mo)]):=by
  unfold FAns at H
  split at H
  · rename_i r d nk mo
    obtain ⟨hc,H⟩:=need_holds H
    exact ⟨r,d,nk,mo,rfl,hc,H⟩
  · exact H.elim
theorem filD_get {p:Nat→Bool} {f:Nat→D} {n k:Nat} (hn:n≤maxLen) (hk:k<(filD p f n).len):∃ j,j<n∧p j=true∧(filD p f n).get k=f j:=by
  unfold D.len at hk
  unfold D.get
  rw [filD_toL hn] at hk ⊢
  rw [List.length_map] at hk
  refine ⟨((List.range n).filter p)[k],?_,?_,?_⟩
  · have:=List.getElem_mem hk
    rw [List.mem_filter,List.mem_range] at this
    exact this.1
  · have:=List.getElem_mem hk
    rw [List.mem_filter] at this
    exact this.2
  · rw [List.getD_eq_getElem?_getD,List.getElem?_map,List.getElem?_eq_getElem hk]; rfl
theorem filD_len2 {p:Nat→Bool} {f g:Nat→D} {n:Nat} (hn:n≤maxLen):(filD p f n).len=(filD p g n).len:=by
  unfold D.len; rw [filD_toL hn,filD_toL hn,List.length_map,List.length_map]
theorem filD_nil {p:Nat→Bool} {f:Nat→D} {n:Nat} (hn:n≤maxLen) (h:(filD p f n).len=0):filD p f n=.l []:=by
  have h1:((List.range n).filter p).map f=[]:=by
    have h2:(filD p f n).toL.length=0:=h
    rw [filD_toL hn] at h2
    exact List.eq_nil_of_length_eq_zero h2
  unfold filD; rw [h1]
theorem map_get (G:D→D) (q:D):(List.range q.len).map (fun k=>G (q.get k))=q.toL.map G:=by
  unfold D.len D.get
  refine List.ext_getElem (by simp) fun i h1 h2=>?_
  simp only [List.length_map,List.length_range] at h1
  simp [h1]
theorem tab_fil {p:Nat→Bool} {f:Nat→D} {n:Nat} (G:D→D) (hn:n≤maxLen):tabD (fun k=>G ((filD p f n).get k)) (filD p f n).len=filD p (fun j=>G (f j)) n:=by
  unfold tabD
  rw [map_get,filD_toL hn,List.map_map]
  rfl
theorem grow_fold (b:D) (p:Nat→Bool) (f:Nat→D):∀ n,grow b p f n=((List.range n).filter p).foldl (fun acc i=>acc.app (.l [f i])) b
  | 0=>rfl
  | n+1=>by
    show (bif p n then _ else _:D)=_
    rw [List.range_succ,List.filter_append,List.foldl_append,← grow_fold b p f n]
    cases h:p n <;> simp [h]
theorem grow_fil {p:Nat→Bool} {f:Nat→D} {n:Nat} (G:D→D) (b:D) (hn:n≤maxLen):grow b yes (fun k=>G ((filD p f n).get k)) (filD p f n).len=grow b p (fun j=>G (f j)) n:=by
  rw [grow_fold,grow_fold]
  have h1:(List.range (filD p f n).len).filter yes=List.range (filD p f n).len:=List.filter_eq_self.2 fun _ _=>rfl
  rw [h1]
  have h2:∀ (l:List Nat) (h:Nat→D) (b:D),l.foldl (fun acc i=>acc.app (.l [h i])) b=(l.map h).foldl (fun acc e=>acc.app (.l [e])) b:=fun l h b=>by rw [List.foldl_map]
  rw [h2,h2,map_get,filD_toL hn,List.map_map]
  rfl
theorem app_len1 {b:D} {x:D} (h:b.len<maxLen):(b.app (.l [x])).len=b.len+1:=by
  have e:(D.l [x]).toL=[x]:=toL_l (by unfold maxLen; simp)
  unfold D.app
  rw [e]
  unfold D.len at h ⊢
  rw [toL_l (by rw [List.length_append,List.length_cons,List.length_nil]; omega),List.length_append]; rfl
theorem grow_ge (b:D) (p:Nat→Bool) (f:Nat→D):∀ n,b.len+n≤maxLen→b.len≤(grow b p f n).len
  | 0,_=>Nat.le_refl _
  | n+1,h=>by
    have ih:=grow_ge b p f n (by omega)
    have l:=grow_len b p f n
    show _≤(bif p n then _ else _:D).len
    cases p n
    · exact ih
    · rw [cond_true,app_len1 (by omega)]; omega
theorem raw2 {r x y:D} (h:r.raw=[x,y]):r.len=2∧r.get 0=x∧r.get 1=y:=by
  have hl:r.toL=[x,y]:=by unfold D.toL; rw [h]; exact List.take_of_length_le (by unfold maxLen; simp)
  refine ⟨?_,?_,?_⟩
  · unfold D.len; rw [hl]; rfl
  · unfold D.get; rw [hl]; rfl
  · unfold D.get; rw [hl]; rfl
theorem raw1 {r x:D} (h:r.raw=[x]):r.len=1∧r.get 0=x:=by
  have hl:r.toL=[x]:=by unfold D.toL; rw [h]; exact List.take_of_length_le (by unfold maxLen; simp)
  refine ⟨?_,?_⟩
  · unfold D.len; rw [hl]; rfl
  · unfold D.get; rw [hl]; rfl
theorem rl_len {r:D} (h:isRl r=true):r.len≤2∧rszB r=true∧(okR r=true→rgdB r=true):=by
  cases h1:rlOf r with
  | some p =>
    obtain ⟨m,g⟩:=p
    have hk:okR r=rulesB m.toI g.toI:=by unfold okR; rw [(rl_of h1).2.1,(rl_of h1).2.2]
    rw [hk]
    unfold rlOf at h1
    split at h1
    · rename_i m' g' hd
      cases h1
      obtain ⟨h2,g0,g1⟩:=raw2 hd
      refine ⟨by omega,det fun k hk=>?_,fun ho=>det fun k hk=>?_⟩
      · rw [h2] at hk
        match k,hk with
        | 0,_=>left; unfold rI; rw [g0]; rfl
        | 1,_=>right; unfold rI; rw [g1]; rfl
      · rw [h2] at hk
        have ho:=odt ho
        match k,hk with
        | 0,_=>unfold rI; rw [g0]; exact ⟨⟨by decide,by decide⟩,by decide,by decide⟩
        | 1,_=>unfold rI; rw [g1]; exact ⟨⟨ho.2.2.1,ho.2.2.2.1⟩,(show (1:Int)≤4 by decide),(show (4:Int)≤8 by decide)⟩
    · cases h1
  | none =>
    cases h2:ipOf r with
    | some g =>
      have hk:okR r=decide (0≤g.toI∧g.toI<4294967296):=by
        unfold okR rlM rlG rxOf
        rw [h1]; dsimp only; rw [h2]; exact rules_fk _
      rw [hk]
      unfold ipOf at h2
      split at h2
      · rename_i g' hd
        cases h2
        obtain ⟨h2,g0⟩:=raw1 hd
        refine ⟨by omega,det fun k hk=>?_,fun ho=>det fun k hk=>?_⟩
        · rw [h2] at hk
          match k,hk with
          | 0,_=>right; unfold rI; rw [g0]; rfl
        · rw [h2] at hk
          have ho:=odt ho
          match k,hk with
          | 0,_=>unfold rI; rw [g0]; exact ⟨⟨ho.1,ho.2⟩,(show (1:Int)≤4 by decide),(show (4:Int)≤8 by decide)⟩
      · cases h2
    | none =>
      cases h3:anOf r
      · unfold isRl rxOf at h
        rw [h1] at h; dsimp only at h; rw [h2] at h; dsimp only at h; rw [h3] at h; cases h
      unfold anOf at h3
      split at h3
      · rename_i hd
        obtain ⟨h2,g0⟩:=raw1 hd
        refine ⟨by omega,det fun k hk=>?_,fun ho=>det fun k hk=>?_⟩
        · rw [h2] at hk
          match k,hk with
          | 0,_=>right; unfold rI; rw [g0]; rfl
        · rw [h2] at hk
          match k,hk with
          | 0,_=>unfold rI; rw [g0]; exact ⟨⟨(show (0:Int)≤0 by decide),(show (0:Int)<4294967296 by decide)⟩,(show (1:Int)≤4 by decide),(show (4:Int)≤8 by decide)⟩
      · cases h3
theorem rgd_fil {r:D} {p:Nat→Bool} {s:Nat→Nat} {n:Nat} (hn:n≤maxLen) (hr:rgdB r=true) (h:∀ j,j<n→p j=true→s j<r.len):rgdB (filD p (fun j=>rulE r (s j)) n)=true:=by
  refine det fun k hk=>?_
  obtain ⟨j,hj,hp,he⟩:=filD_get hn hk
  unfold rI
  rw [he]
  exact rgdB_at hr (h j hj hp)
section
variable {r d:D} {nk mo:Int} (ho:okR r=true)
include ho
theorem ans4 (h:0<(oddL r d).len):ansC r d nk mo=4∧ansO r d nk mo=oddL r d:=by unfold ansC ansO; rw [ho]; simp [h]
theorem ans2 (h:¬ 0<(oddL r d).len) (h2:(nakL r d).len=0):ansC r d nk mo=2∧ansO r d nk mo=d:=by unfold ansC ansO; rw [ho]; simp [h,h2]
theorem ansB (h:¬ 0<(oddL r d).len) (h2:(nakL r d).len≠0) (h3:mo≤nk) (h4:0<(bdL r d).len):ansC r d nk mo=4∧ansO r d nk mo=bdL r d:=by unfold ansC ansO; rw [ho]; simp [h,h2,h3,h4]
theorem ans3 (h:¬ 0<(oddL r d).len) (h2:(nakL r d).len≠0) (h3:¬ (mo≤nk∧0<(bdL r d).len)):ansC r d nk mo=3∧ansO r d nk mo=nakL r d:=by unfold ansC ansO; rw [ho]; simp only [cond_true,if_neg h,if_neg h2,if_neg h3,and_self]
end
theorem ans0 {r d:D} {nk mo:Int} (ho:okR r=false):ansC r d nk mo=0∧(ansO r d nk mo).len=0:=by unfold ansC ansO; rw [ho]; exact ⟨rfl,rfl⟩
theorem answG_ok:GamL Tryz.prog (answG Tryz.prog):=⟨chk_soundF,sor_soundF,ows_soundF,trivial⟩
theorem ans_tree (r d:D) (nk mo:Int):treeF (evF Tryz.prog (gam (answG Tryz.prog)) (lam (ansLs Tryz.prog)) 100 228) [asl rlS r,asl opS d,ai nk,ai mo] =
RT.br (isRl r) (RT.br (errIf (rulesB (rlM r) (rlG r)) 150 != 0) (RT.ok (AV.tup [zk 0,zz])) (RT.br (sorN r d) (RT.br (decide (nk<mo)) (RT.br (decide ((↑(D.len (bdR r d)):Int)=(↑(D.len (bdR r d)):Int)∧D.len (bdR r d)*56≤140737488355328)&&rgdB (bdR r d)&&true) (RT.br (decide (nk<mo)) (RT.br (decide ((↑(D.len (lackL r d)):Int)=(↑(D.len (lackL r d)):Int)∧(D.len (tabD (gooE (bdR r d)) (D.len (bdR r d)))+D.len (lackL r d))*32≤140737488355328)&&rgdB (lackL r d)&&true) (RT.br (decide (0<(↑(D.len (oddL r d)):Int))) (RT.ok (AV.tup [zk 4,zs zO (oddL r d)])) (RT.br (decide (0<(↑(D.len (grow (tabD (gooE (bdR r d)) (D.len (bdR r d))) yes (gooE (lackL r d)) (D.len (lackL r d)))):Int))) (RT.ok (AV.tup [zk 3,zs zO (grow (tabD (gooE (bdR r d)) (D.len (bdR r d))) yes (gooE (lackL r d)) (D.len (lackL r d)))])) (RT.br (decide (0<(↑(D.len (bdL r d)):Int))) (RT.ok (AV.tup [zk 4,zs zO (bdL r d)])) (RT.br (decide (D.len d*32≤140737488355328)) (RT.ok (AV.tup [zk 2,zs zO d])) (RT.bad 286))))) (RT.bad 210)) (RT.br ((↑(D.len (bdL r d)):Int)==0) (RT.br (decide ((↑(D.len (lackL r d)):Int)=(↑(D.len (lackL r d)):Int)∧(D.len (tabD (gooE (bdR r d)) (D.len (bdR r d)))+D.len (lackL r d))*32≤140737488355328)&&rgdB (lackL r d)&&true) (RT.br (decide (0<(↑(D.len (oddL r d)):Int))) (RT.ok (AV.tup [zk 4,zs zO (oddL r d)])) (RT.br (decide (0<(↑(D.len (grow (tabD (gooE (bdR r d)) (D.len (bdR r d))) yes (gooE (lackL r d)) (D.len (lackL r d)))):Int))) (RT.ok (AV.tup [zk 3,zs zO (grow (tabD (gooE (bdR r d)) (D.len (bdR r d))) yes (gooE (lackL r d)) (D.len (lackL r d)))])) (RT.br (decide (0<(↑(D.len (bdL r d)):Int))) (RT.ok (AV.tup [zk 4,zs zO (bdL r d)])) (RT.br (decide (D.len d*32≤140737488355328)) (RT.ok (AV.tup [zk 2,zs zO d])) (RT.bad 286))))) (RT.bad 210)) (RT.br (decide (0<(↑(D.len (oddL r d)):Int))) (RT.ok (AV.tup [zk 4,zs zO (oddL r d)])) (RT.br (decide (0<(↑(D.len (tabD (gooE (bdR r d)) (D.len (bdR r d)))):Int))) (RT.ok (AV.tup [zk 3,zs zO (tabD (gooE (bdR r d)) (D.len (bdR r d)))])) (RT.br (decide (0<(↑(D.len (bdL r d)):Int))) (RT.ok (AV.tup [zk 4,zs zO (bdL r d)])) (RT.br (decide (D.len d*32≤140737488355328)) (RT.ok (AV.tup [zk 2,zs zO d])) (RT.bad 286))))))) (RT.bad 210)) (RT.br (decide (nk<mo)) (RT.br (decide ((↑(D.len (lackL r d)):Int)=(↑(D.len (lackL r d)):Int)∧(0+D.len (lackL r d))*32≤140737488355328)&&rgdB (lackL r d)&&true) (RT.br (decide (0<(↑(D.len (oddL r d)):Int))) (RT.ok (AV.tup [zk 4,zs zO (oddL r d)])) (RT.br (decide (0<(↑(D.len (grow (D.l []) yes (gooE (lackL r d)) (D.len (lackL r d)))):Int))) (RT.ok (AV.tup [zk 3,zs zO (grow (D.l []) yes (gooE (lackL r d)) (D.len (lackL r d)))])) (RT.br (decide (0<(↑(D.len (bdL r d)):Int))) (RT.ok (AV.tup [zk 4,zs zO (bdL r d)])) (RT.br (decide (D.len d*32≤140737488355328)) (RT.ok (AV.tup [zk 2,zs zO d])) (RT.bad 286))))) (RT.bad 210)) (RT.br ((↑(D.len (bdL r d)):Int)==0) (RT.br (decide ((↑(D.len (lackL r d)):Int)=(↑(D.len (lackL r d)):Int)∧(0+D.len (lackL r d))*32≤140737488355328)&&rgdB (lackL r d)&&true) (RT.br (decide (0<(↑(D.len (oddL r d)):Int))) (RT.ok (AV.tup [zk 4,zs zO (oddL r d)])) (RT.br (decide (0<(↑(D.len (grow (D.l []) yes (gooE (lackL r d)) (D.len (lackL r d)))):Int))) (RT.ok (AV.tup [zk 3,zs zO (grow (D.l []) yes (gooE (lackL r d)) (D.len (lackL r d)))])) (RT.br (decide (0<(↑(D.len (bdL r d)):Int))) (RT.ok (AV.tup [zk 4,zs zO (bdL r d)])) (RT.br (decide (D.len d*32≤140737488355328)) (RT.ok (AV.tup [zk 2,zs zO d])) (RT.bad 286))))) (RT.bad 210)) (RT.br (decide (0<(↑(D.len (oddL r d)):Int))) (RT.ok (AV.tup [zk 4,zs zO (oddL r d)])) (RT.br (decide (0<(↑(D.len (bdL r d)):Int))) (RT.ok (AV.tup [zk 4,zs zO (bdL r d)])) (RT.br (decide (D.len d*32≤140737488355328)) (RT.ok (AV.tup [zk 2,zs zO d])) (RT.bad 286))))))) (RT.bad 284))) (RT.bad 207):=by rw [← fvF_eq Tryz.prog (gam (answG Tryz.prog)) (lam (ansLs Tryz.prog)) false 100 228]; kernel_rfl
theorem rulK_lt {r d:D} {j:Nat} (h:bdB r d d j=true):rulK r d j<r.len:=by
  unfold bdB at h
  rw [Bool.and_eq_true,Bool.not_eq_true'] at h
  have h1:=h.1
  unfold oddB at h1
  rw [Bool.or_eq_false_iff] at h1
  have:=odf h1.1
  exact (ruleI_at (by omega)).1
theorem ans_soundF:SoundF Tryz.prog 228 (pureS Tryz.prog 228 FAns):=by
  refine pure_in (gs:=answG Tryz.prog) (ls:=ansLs Tryz.prog) mixed answG_ok ansLs_ok 228 100 fun args K ho H=>?_
  obtain ⟨r,d,nk,mo,hr,hc,H⟩:=FAns_inv H
  rw [hr,ans_tree]
  unfold ansN at hc
  simp only [Bool.and_eq_true,decide_eq_true_eq] at hc
  obtain ⟨hrl,hsz,hob⟩:=hc
  obtain ⟨h2,hrs,hrg⟩:=rl_len hrl
  have hdm:=d.len_le
  have hrm:r.len≤maxLen:=r.len_le
  have A:∀ c o,ansC r d nk mo=c∧ansO r d nk mo=o→K (.tup [ai c,asl opS o]):=by rintro c o ⟨rfl,rfl⟩; exact H
  have s1:d.len*56≤140737488355328:=by omega
  have s2:r.len*56≤140737488355328:=by omega
  have hN:sorN r d=true:=by unfold sorN room; rw [hrs,hob,Bool.and_true,Bool.and_true]; exact det ⟨s1,s2⟩
  have hn:(errIf (rulesB (rlM r) (rlG r)) 150 != 0)=!okR r:=errIf_nz (by decide)
  rw [hrl,hN,hn]
  refine holds_t ?_
  cases hok:okR r
  · exact holds_t ⟨_,le_two (le_int (ans0 hok).1.symm) (le_nil (ans0 hok).2),H⟩
  have hrg:=hrg hok
  refine ⟨fun h=>(by cases h),fun _=>holds_t ?_⟩
  have lb:(bdR r d).len≤d.len:=filD_len_le _ _ _
  have ll:(lackL r d).len≤r.len:=filD_len_le _ _ _
  have E1:tabD (gooE (bdR r d)) (bdR r d).len=filD (bdB r d d) (fun j=>gooE r (rulK r d j)) d.len:=tab_fil gooC hdm
  have E2:∀ b,grow b yes (gooE (lackL r d)) (lackL r d).len=grow b (lackB r d) (gooE r) r.len:=fun b=>grow_fil gooC b hrm
  have l1:(filD (bdB r d d) (fun j=>gooE r (rulK r d j)) d.len).len=(bdL r d).len:=filD_len2 hdm
  have lbl:(bdL r d).len≤d.len:=filD_len_le _ _ _
  have hge:(bdL r d).len≤(nakL r d).len:=by
    rw [← l1]; exact grow_ge _ _ _ _ (by rw [l1]; unfold maxLen; omega)
  have E3:(bdL r d).len=0→filD (bdB r d d) (fun j=>gooE r (rulK r d j)) d.len=.l []:=fun h0=>filD_nil hdm (l1.trans h0)
  have g1:rgdB (bdR r d)=true:=rgd_fil hdm hrg fun j _ hp=>rulK_lt hp
  have g2:rgdB (lackL r d)=true:=rgd_fil (s:=fun k=>k) hrm hrg fun j hj _=>hj
  have c1:decide (((bdR r d).len:Int)=((bdR r d).len:Int)∧(bdR r d).len*56≤140737488355328)=true:=det ⟨rfl,by omega⟩
  have c2:∀ b,b≤d.len→decide (((lackL r d).len:Int)=((lackL r d).len:Int)∧(b+(lackL r d).len)*32≤140737488355328)=true:=fun b hb=>det ⟨rfl,by omega⟩
  have c3:decide (d.len*32≤140737488355328)=true:=det (by omega)
  have lt:(tabD (gooE (bdR r d)) (bdR r d).len).len≤d.len:=by rw [E1,l1]; exact lbl
  rw [g1,g2,c1,c3,c2 _ lt,c2 0 (Nat.zero_le _)]
  simp only [E1,E2]
  have hnk:grow (filD (bdB r d d) (fun j=>gooE r (rulK r d j)) d.len) (lackB r d) (gooE r) r.len=nakL r d:=rfl
  have fin:∀ Z:RT AV,(¬ (mo≤nk∧0<(bdL r d).len))→(RT.br (decide (0<((oddL r d).len:Int))) (RT.ok (.tup [.sc true (.int .i64 4),.sl false opS (oddL r d) none])) (RT.br (decide (0<((nakL r d).len:Int))) (RT.ok (.tup [.sc true (.int .i64 3),.sl false opS (nakL r d) none])) (RT.br (decide (0<((bdL r d).len:Int))) (RT.ok (.tup [.sc true (.int .i64 4),.sl false opS (bdL r d) none])) (RT.br true (RT.ok (.tup [.sc true (.int .i64 2),.sl false opS d none])) Z)))).holds fun r=>∃ y,Le r y∧K y:=fun Z hb=>by
    refine ⟨fun h=>⟨_,le_two (le_int rfl) (Le.refl _),A _ _ (ans4 hok ?_)⟩,fun h=>⟨fun h'=>⟨_,le_two (le_int rfl) (Le.refl _),A _ _ (ans3 hok ?_ ?_ hb)⟩,fun h'=>⟨fun h''=>?_,fun _=>holds_t ⟨_,le_two (le_int rfl) (Le.refl _),A _ _ (ans2 hok ?_ ?_)⟩⟩⟩⟩
    · have:=odt h; omega
    · have:=odf h; omega
    · have:=odt h'; omega
    · have:=odf h'; have:=odt h''; omega
    · have:=odf h; omega
    · have:=odf h'; omega
  refine ⟨fun h=>holds_t ⟨fun _=>holds_t (fin _ (by have:=odt h; omega)),fun h'=>(by rw [h] at h'; cases h')⟩,fun h=>⟨fun h'=>(by rw [h] at h'; cases h'),fun _=>⟨fun h0=>?_,fun h0=>?_⟩⟩⟩
  · have h0:=eq_of_beq h0
    have hnk0:grow (.l []) (lackB r d) (gooE r) r.len=nakL r d:=by rw [← hnk,E3 (by omega)]
    rw [hnk0]
    exact holds_t (fin _ (by omega))
  · have h:=odf h
    have h0:((bdL r d).len:Int)≠0:=fun e=>by rw [e] at h0; cases h0
    refine ⟨fun h'=>⟨_,le_two (le_int rfl) (Le.refl _),A _ _ (ans4 hok (by have:=odt h'; omega))⟩,fun h'=>⟨fun h''=>⟨_,le_two (le_int rfl) (Le.refl _),A _ _ (ansB hok (by have:=odf h'; omega) (by omega) (by omega) (by omega))⟩,fun h''=>by have:=odf h''; omega⟩⟩
end
end Go.Proofs.YtbgmclbcjdbcmaaGreat
namespace Go.Proofs.YtbgmclbcjdbcmaaGreat
set_option linter.unusedSimpArgs false
set_option linter.unusedVariables false
open Go.RowKit
set_option maxRecDepth 10000
noncomputable section
section
variable {P:Program} {E:Env} {h:Hp} {w w0 w':World} {G:Nat→Prop}
def Env.freshX (E:Env) (w w':World) (X:Nat):Env:={ E with Z:=fun b j=>if b<w.heap.size then E.Z b j else if b=X then none else w'.cell? ⟨b,j,none⟩ }
theorem Inv.freshX (I:Inv P w0 G E h w) (hb:Below w.heap.size w w') (X:Nat):Stepd P w0 G E h w (E.freshX w w' X) h w':=by
  have hZ:∀ b j v,E.Z b j=some v→(E.freshX w w' X).Z b j=some v:=fun b j v hz=>by
    show (if b<w.heap.size then E.Z b j else _)=_
    rw [if_pos (cell_lt (I.z b j v hz))]; exact hz
  have hext:Ext E (E.freshX w w' X):=⟨fun _ h=>h,fun _ _=>rfl,hZ,Nat.le_refl _,Nat.le_refl _,fun _ _=>.inl ⟨rfl,rfl⟩⟩
  have same:∀ b,b<w.heap.size→w'.heap[b]?=w.heap[b]?:=fun b h=>hb.block b h
  refine ⟨hext,⟨I.kpt.then (Kpt.of_below hb fun _=>False) (fun _ h=>h.elim),I.m,I.ng,I.gn,I.gnlt,I.live,I.nx,fun o cs hcs=>?_,I.own,I.inj,fun b j v hz=>?_,fun o j hlo=>?_,fun k hk=>?_,I.vinj⟩,fun o hlo=>⟨Nat.le_refl _,fun _=>same _ (I.live_lt hlo)⟩,fun b j v hz=>?_⟩
  · obtain ⟨vs,t,g1,g2,g3⟩:=I.ob o cs hcs
    exact ⟨vs,t,(same _ (Array.getElem?_eq_some_iff.1 g1).1).trans g1,RelL.mono hext _ _ g2,g3⟩
  · have hz':(if b<w.heap.size then E.Z b j else if b=X then none else w'.cell? ⟨b,j,none⟩)=some v:=hz
    split at hz'
    · rename_i hlt
      rw [cell_same (same b hlt)]; exact I.z b j v hz'
    · split at hz'
      · cases hz'
      · exact hz'
  · show (if E.β o<w.heap.size then E.Z (E.β o) j else _)=none
    rw [if_pos (I.live_lt hlo)]; exact I.zob o j hlo
  · obtain ⟨sz,n,xs,g1,g2,g3,g4⟩:=I.vec k hk
    refine ⟨sz,n,xs,g1,owns_same g2 fun b hb'=>same b (owns_lt g2 hb'),g3,fun b hb'=>⟨(g4 b hb').1,(g4 b hb').2.1,fun j=>?_⟩⟩
    show (if b<w.heap.size then E.Z b j else _)=_
    rw [if_pos (owns_lt g2 hb')]; exact (g4 b hb').2.2 j
  · have hz':(if b<w.heap.size then E.Z b j else if b=X then none else w'.cell? ⟨b,j,none⟩)=some v:=hz
    split at hz'
    · exact .inl hz'
    · exact .inr (.inl (Nat.le_trans I.kpt.size (by omega)))
theorem newO_gen {cs:List AV} {vs:List Value} {t:Obj} (I:Inv P w0 G E h w) {g:Nat} (hblk:w.heap[g]?=some t) (hr:RelL E cs vs) (h1:ObOk t vs) (hn:∀ o,E.live o→E.β o≠g) (hz:∀ j,E.Z g j=none) (hw:w0.heap.size≤g) (hv:∀ k,k<h.nv→(E.vc k).ownBlock≠some g) :
    ∃ E',Stepd P w0 G E h w E' (newA cs h).2 w∧E'.live h.nx∧E'.β h.nx=g∧E'.Z=E.Z:=by
  have hnl:¬ E.live h.nx:=fun hl=>by have:=I.nx _ hl; omega
  have hext:Ext E { E with β:=fun o=>if o=h.nx then g else E.β o,live:=fun o=>E.live o∨o=h.nx } :=
    ⟨fun o ho=>.inl ho,fun o ho=>if_neg fun e:o=h.nx=>hnl (e ▸ ho),fun _ _ _ hz=>hz,Nat.le_refl _,Nat.le_refl _,fun _ _=>.inl ⟨rfl,rfl⟩⟩
  refine ⟨_,⟨hext,⟨I.kpt,I.m,I.ng,I.gn,I.gnlt,fun p=>?_,fun p hp=>?_,fun p cp hp=>?_,fun p hp=>?_,fun p q hp hq=>?_,I.z,fun p j hp=>?_,fun k hkn=>?_,I.vinj⟩,fun p hp=>?_,fun _ _ _ hz=>.inl hz⟩,.inr rfl,by simp,rfl⟩
  · simp only [newA,lookO_cons]
    split
    · rename_i e; subst e; simp
    · rename_i e
      rw [← I.live p]
      exact ⟨fun hh=>hh.resolve_right fun e'=>e e'.symm,.inl⟩
  · rcases hp with hp | rfl
    · have:=I.nx p hp; simp only [newA]; omega
    · simp only [newA]; omega
  · simp only [newA,lookO_cons] at hp
    split at hp
    · rename_i e; subst e; cases hp
      exact ⟨vs,t,by simp only [if_pos]; exact hblk,RelL.mono hext _ _ hr,h1⟩
    · rename_i e
      obtain ⟨us,t',g1,g2,g3⟩:=I.ob p cp hp
      refine ⟨us,t',?_,RelL.mono hext _ _ g2,g3⟩
      simp only [if_neg (fun e':p=h.nx=>e (Eq.symm e'))]
      exact g1
  · rcases hp with hp | rfl
    · simp only [if_neg (fun e:p=h.nx=>hnl (e ▸ hp))]; exact I.own p hp
    · simp only [if_pos]; exact .inl hw
  · intro e
    by_cases ep:p=h.nx <;> by_cases eq:q=h.nx
    · rw [ep,eq]
    · simp only [ep,eq,if_pos,if_neg,not_false_eq_true] at e
      exact absurd e.symm (hn q (hq.resolve_right eq))
    · simp only [ep,eq,if_pos,if_neg,not_false_eq_true] at e
      exact absurd e (hn p (hp.resolve_right ep))
    · simp only [if_neg ep,if_neg eq] at e
      exact I.inj p q (hp.resolve_right ep) (hq.resolve_right eq) e
  · by_cases ep:p=h.nx
    · simp only [if_pos ep]; exact hz j
    · simp only [if_neg ep]; exact I.zob p j (hp.resolve_right ep)
  · obtain ⟨sz,n,xs,g1,g2,g3,g4⟩:=I.vec k hkn
    refine ⟨sz,n,xs,g1,g2,g3,fun b hb'=>⟨(g4 b hb').1,fun o ho=>?_,(g4 b hb').2.2⟩⟩
    by_cases ep:o=h.nx
    · simp only [if_pos ep]; exact fun e=>hv k hkn (by rw [hb',e])
    · simp only [if_neg ep]; exact (g4 b hb').2.1 o (ho.resolve_right ep)
  · have:p≠h.nx:=fun e=>hnl (e ▸ hp)
    simp only [ver,newA,cnt_cons,if_neg (fun e:h.nx=p=>this (Eq.symm e))]
    exact ⟨Nat.le_refl _,fun _=>trivial⟩
theorem opt_row {E':Env} {h':Hp} {G':Nat→Prop} (I:Inv P w0 G E h w) (hbel:Below w.heap.size w w') (I':Inv P w G' E' h' w') (hG:∀ b,¬ G' b) (hZ:∀ b j v,E'.Z b j=some v→E.Z b j=some v∨w.heap.size≤b)
    {kn kn2:Bool} {d:D} {k g:Nat} {e:TypeId} {v:Value} (hv:Rel E' (.sl kn [.int .i64,.sl [.int .u8]] d (some (k,g))) v) (hk:k<h'.nv) (hl:lookG k h'.gn=some (g,e)) (hsz:sizeT P e=some 2) (hne:d.len≠0) :
    ∃ E2,Stepd P w0 G E h w E2 (newA [.rw [.int .i64,.sl [.int .u8]] d] h).2 w'∧Rel E2 (.rsl kn2 h.nx 2 d.len) v:=by
  obtain ⟨⟨hbd,ad,cap,rfl,hlc,hcm,hcn,hel⟩,_,_,htip⟩:=hv
  have hgk:=I'.gn k hk
  rw [hl] at hgk
  have hg1:E'.gn k=g:=(Prod.mk.inj (Option.some.inj hgk)).1.symm
  have hve:E'.ve k=e:=(Prod.mk.inj (Option.some.inj hgk)).2.symm
  have hvk:=htip hg1
  obtain ⟨sz,n,xs,s1,s2,s3,s4⟩:=I'.vec k hk
  rw [hve,hsz] at s1
  cases s1
  rw [← hvk] at s2 s4
  rcases s2.2 with ⟨h0,_⟩ | ⟨b,cap',cur,hv',_,hblk,hnc,hcm',hcs,htk⟩
  · have:d.len=0:=by injection h0
    exact absurd this hne
  have e1:ad=some ⟨b,0,none⟩:=by injection hv'
  have e2:d.len=n:=by injection hv'
  subst e1; subst e2
  obtain ⟨hb1,_,hb3⟩:=s4 b rfl
  have hbs:w.heap.size≤b:=hb1.resolve_right (hG b)
  obtain ⟨b',o,hbo,hel⟩:=hel hne
  have e3:b'=b∧o=0:=by injection hbo with hbo; injection hbo with h1 h2; exact ⟨h1.symm,h2.symm⟩
  obtain ⟨rfl,rfl⟩:=e3
  have hxl:xs.length=d.len*2:=s2.1
  have no8:∀ j u,E'.Z b' j=some u→∀ m,u≠.int .u8 m:=fun j u hu m=>by
    have hj:j<xs.length:=by
      rw [hb3 j] at hu
      exact (List.getElem?_eq_some_iff.1 hu).1
    obtain ⟨⟨v1,z1,l1⟩,⟨v2,z2,l2⟩,_⟩:=hel (j / 2) (by omega)
    have l1:v1=.int .i64 _:=l1
    obtain ⟨_,a2,c2,l2,_⟩:=l2
    rcases Nat.mod_two_eq_zero_or_one j with hm | hm
    · rw [show 0+j / 2 * [Sh.int .i64,.sl [.int .u8]].length=j by show 0+j / 2*2=j; omega,hu] at z1
      cases z1; rw [l1]; intro h; injection h with h; cases h
    · rw [show 0+j / 2 * [Sh.int .i64,.sl [.int .u8]].length+1=j by show 0+j / 2*2+1=j; omega,hu] at z2
      cases z2; rw [l2]; intro h; cases h
  have S1:=I.freshX hbel b'
  have mono:∀ q j u,q≠b'→E'.Z q j=some u→(E.freshX w w' b').Z q j=some u:=fun q j u hq hu=>by
    show (if q<w.heap.size then E.Z q j else if q=b' then none else w'.cell? ⟨q,j,none⟩)=some u
    by_cases hlt:q<w.heap.size
    · rw [if_pos hlt]; rcases hZ q j u hu with h | h
      · exact h
      · omega
    · rw [if_neg hlt,if_neg hq]; exact I'.z q j u hu
  have inner:∀ x y,LF E'.Z (.sl [.int .u8]) x y→LF (E.freshX w w' b').Z (.sl [.int .u8]) x y:=by
    rintro x y ⟨q0,ad,cp,q1,q2,q3,q4,q5⟩
    refine ⟨q0,ad,cp,q1,q2,q3,q4,fun hn=>?_⟩
    obtain ⟨c,p,q6,q7⟩:=q5 hn
    refine ⟨c,p,q6,fun i hi=>?_⟩
    obtain ⟨⟨u,z,lu⟩,_⟩:=q7 i hi
    refine ⟨⟨u,mono _ _ _ (fun hc=>?_) z,lu⟩,trivial⟩
    subst hc
    exact no8 _ _ z _ lu
  have cell:∀ j u,E'.Z b' j=some u→cur[j]?=some u:=fun j u hu=>by
    have h3:=I'.z _ _ _ hu
    have hblk2:w'.heap[b']?=some (.cells cur.toList.toArray (E'.ve k) (0,0)):=by simpa using hblk
    rw [cell_of_row w' _ j _ _ _ hblk2] at h3
    simpa using h3
  have hre:∀ i,i<d.len→RE (E.freshX w w' b').Z [.int .i64,.sl [.int .u8]] cur (i*2) (d.get i) 0:=fun i hi=>by
    obtain ⟨⟨v1,z1,l1⟩,⟨v2,z2,l2⟩,_⟩:=hel i hi
    rw [show 0+i * [Sh.int .i64,.sl [.int .u8]].length=i*2 by show 0+i*2=i*2; omega] at z1 z2
    exact ⟨⟨v1,cell _ _ z1,l1⟩,⟨v2,cell _ _ z2,inner _ _ l2⟩,trivial⟩
  obtain ⟨E2,S2,hlv,hβ,_⟩:=newO_gen (t:=.cells cur (E'.ve k) (0,0)) (cs:=[.rw [.int .i64,.sl [.int .u8]] d]) (vs:=[.agg cur]) S1.inv hblk ⟨_,[],rfl,⟨hbd,cur,rfl,hre⟩,rfl⟩ (.inr (.inr ⟨cur,_,rfl,rfl⟩))
    (fun o ho=>by have:=I.live_lt ho; show E.β o≠b'; omega) (fun j=>by show (if b'<w.heap.size then E.Z b' j else if b'=b' then none else _)=none; rw [if_neg (by omega),if_pos rfl]) (Nat.le_trans I.kpt.size hbs) (fun q hq e=>by
      obtain ⟨_,_,_,_,q2,_⟩:=I.vec q hq
      have:=owns_lt q2 e
      omega)
  exact ⟨E2,S1.trans S2,hlv,_,cap,rfl,hlc,hcm,(fun h=>by cases h),fun _=>by rw [hβ]⟩
end
end
end Go.Proofs.YtbgmclbcjdbcmaaGreat
namespace Go.Proofs.YtbgmclbcjdbcmaaGreat
set_option linter.unusedSimpArgs false
set_option linter.unusedVariables false
open Go.RowKit
set_option maxRecDepth 100000
noncomputable section
def eqBy (x y:D) (i:Nat):Bool:=byA x i==byA y i
def eqB (x y:D):Bool:=decide (x.len=y.len)&&okFrom (eqBy x y) x.len 0
structure seqX where
  (x y:D)
  n:Int
def seqL:Lw:=⟨[0,1,4,12,13],[],0,0,1000,1000⟩
def seqF (a:seqX) (i:Nat):Tm:=⟨26,[(0,.sl false byS a.x none),(1,.sl false byS a.y none),(4,.sc false (.bool false)),(12,zi a.n),(13,zi (i:Int))],[]⟩
def seqH (a:seqX) (i:Nat):Hp:=⟨[],0,[],0,1000,1000⟩
def seqC:Cs:=⟨26,[(0,.sl byS),(1,.sl byS),(4,.lit (.sc false (.bool false))),(12,.int .i64),(13,.lit (.sc false (.int .i64 0)))],[],0,[],0,1000,1000⟩
noncomputable def seqDec (F:Tm) (h:Hp):Option (seqX×Nat):=match cdS seqC F h with
  | some [v0,v1,v2]=>some (⟨v0,v1,v2.toI⟩,0)
  | _=>none
theorem seq_body (x:D) (y:D) (n:Int) (i:Int):roundT (⟨[0,1,4,12,13],[],0,0,1000,1000⟩) (evC Tryz.prog (gam ([])) (lam ([])) 100 271 (loopAt 0 (bodyOf Tryz.prog 271)) (⟨26,[(0,.sl false byS x none),(1,.sl false byS y none),(4,.sc false (.bool false)),(12,zi n),(13,zi i)],[]⟩) (⟨[],0,[],0,1000,1000⟩)) =
RT.br (decide (i<n)) (RT.br (decide (0≤i∧i<(↑(D.len x):Int))) (RT.br (decide (0≤i∧i<(↑(D.len y):Int))) (RT.br (D.toI (D.cell (D.get x (Int.toNat i)) 0) != D.toI (D.cell (D.get y (Int.toNat i)) 0)) (RT.ok (Ex.ret,(Tm.mk 26 [(0,zs zU x),(1,zs zU y),(4,zb false),(12,zi n),(13,zi i)] []),(Hp.mk [] 0 [] 0 1000 1000))) (RT.ok (Ex.normal,(Tm.mk 26 [(0,zs zU x),(1,zs zU y),(4,zb false),(12,zi n),(13,zi (IntKind.wrap IntKind.i64 (i+1)))] []),(Hp.mk [] 0 [] 0 1000 1000)))) (RT.bad 42)) (RT.bad 42)) (RT.ok (Ex.exit 0,(Tm.mk 26 [(0,zs zU x),(1,zs zU y),(4,zb false),(12,zi n),(13,zi i)] []),(Hp.mk [] 0 [] 0 1000 1000))):=by rw [← fvC_eq Tryz.prog (gam ([])) (lam ([])) false 100]; kernel_rfl
def seqT:seqX×Nat→RT Out:=searchT (fun a=>a.x.len) (fun a=>eqBy a.x a.y) (fun a=>decide (a.n=(a.x.len:Int)∧a.x.len=a.y.len)) seqF seqF (fun a=>seqH a 0) .ret
def seqLs (P:Program):List (FuncId×Nat×BSpec):=[(271,0,loopS P seqL seqDec seqT)]
def FEqB:List AV→RT AV
  | [.sl false [.int .u8] x none,.sl false [.int .u8] y none]=>.ok (ab (eqB x y))
  | _=>.bad 288
def owsRowS:Spec:=fun args h=>match args with
  | [.sl kn es d _]=>bif Sh.eqsL es opS then need false (decide (d.len*32≤140737488355328)) 287 (brk kn (decide (d.len=0)) (.ok (.sl true opS (.l []) none,h)) (.ok (.rsl kn h.nx 2 (tabD (copE d) d.len).len,(newA [.rw opS (tabD (copE d) d.len)] h).2))) else .bad 214
  | _=>.bad 215
def nkE (l c:D) (i:Nat):D:=.t [(c.get i).cell 0,optB l (plaI l (optT c i)).toNat]
def nkR (l d:D):Nat→D
  | 0=>d
  | i+1=>bif decide (0≤plaI l (optT (nkR l d i) i)) then (nkR l d i).setE i (nkE l (nkR l d i) i) else nkR l d i
def nakG (P:Program):List (FuncId×Spec):=[(162,pureS P 162 FCloneB),(270,pureS P 270 FPla),(229,owsRowS)]
structure nklX where
  l:D
  (m m1:Nat)
  n:Int
  d:D
def nklL:Lw:=⟨[1,5,11,12,13],[],1,0,1000,1000⟩
def nklF (a:nklX) (i:Nat) (g9:D):Tm:=⟨36,[(1,.sl false opS a.l none),(5,.rsl false 0 2 a.m),(11,.rsl false 0 2 a.m1),(12,zi a.n),(13,zi (i:Int))],[]⟩
def nklH (a:nklX) (i:Nat) (g9:D):Hp:=⟨[(0,[.rw opS g9])],1,[],0,1000,1000⟩
def nklC:Cs:=⟨36,[(1,.sl opS),(5,.rs 0 2),(11,.rs 0 2),(12,.int .i64),(13,.lit (.sc false (.int .i64 0)))],[(0,[.row opS])],1,[],0,1000,1000⟩
noncomputable def nklDec (F:Tm) (h:Hp):Option (nklX×Nat):=match cdS nklC F h with
  | some [v0,v1,v2,v3,v4]=>some (⟨v0,v1.toI.toNat,v2.toI.toNat,v3.toI,v4⟩,0)
  | _=>none
theorem nkl_body (l:D) (m:Nat) (m1:Nat) (n:Int) (i:Int) (g9:D):roundT (⟨[1,5,11,12,13],[],1,0,1000,1000⟩) (evC Tryz.prog (gam (nakG Tryz.prog)) (lam ([])) 100 230 (loopAt 0 (bodyOf Tryz.prog 230)) (⟨36,[(1,.sl false opS l none),(5,.rsl false 0 2 m),(11,.rsl false 0 2 m1),(12,zi n),(13,zi i)],[]⟩) (⟨[(0,[.rw opS g9])],1,[],0,1000,1000⟩)) =
RT.br (decide (i<n)) (RT.br (decide (0≤i∧i<(↑m1:Int))) (RT.br (decide (Int.toNat i<D.len g9)) (RT.br (decide (0≤plaI l (D.toI (D.cell (D.get g9 (Int.toNat i)) 0)))) (RT.br (decide (0≤plaI l (D.toI (D.cell (D.get g9 (Int.toNat i)) 0))∧plaI l (D.toI (D.cell (D.get g9 (Int.toNat i)) 0))<(↑(D.len l):Int))) (RT.br (decide (0≤i∧i<(↑m:Int))) (RT.br (decide (Int.toNat i<D.len g9)) (RT.ok (Ex.normal,(Tm.mk 36 [(1,zs zO l),(5,AV.rsl false 0 2 m),(11,AV.rsl false 0 2 m1),(12,zi n),(13,zi (IntKind.wrap IntKind.i64 (i+1)))] []),(Hp.mk [(0,[AV.rw zO (D.setE g9 (Int.toNat i) (D.t [D.cell (D.get g9 (Int.toNat i)) 0,D.cell (D.get l (Int.toNat (plaI l (D.toI (D.cell (D.get g9 (Int.toNat i)) 0))))) 1]))])] 1 [] 0 1000 1000))) (RT.bad 175)) (RT.bad 179)) (RT.bad 42)) (RT.ok (Ex.normal,(Tm.mk 36 [(1,zs zO l),(5,AV.rsl false 0 2 m),(11,AV.rsl false 0 2 m1),(12,zi n),(13,zi (IntKind.wrap IntKind.i64 (i+1)))] []),(Hp.mk [(0,[AV.rw zO g9])] 1 [] 0 1000 1000)))) (RT.bad 170)) (RT.bad 179)) (RT.ok (Ex.exit 0,(Tm.mk 36 [(1,zs zO l),(5,AV.rsl false 0 2 m),(11,AV.rsl false 0 2 m1),(12,zi n),(13,zi i)] []),(Hp.mk [(0,[AV.rw zO g9])] 1 [] 0 1000 1000))):=by rw [← fvC_eq Tryz.prog (gam (nakG Tryz.prog)) (lam ([])) false 100]; kernel_rfl
def nklT:nklX×Nat→RT Out:=foldT (fun a=>a.d.len) (fun a=>decide (a.n=(a.d.len:Int)∧a.m=a.d.len∧a.m1=a.d.len)) (fun a i=>nklF a i (nkR a.l a.d i)) (fun a i=>nklH a i (nkR a.l a.d i))
def nakLs (P:Program):List (FuncId×Nat×BSpec):=[(230,0,altB (knT 12) (runB P (nakG P) 100 230 0) (loopS P nklL nklDec nklT))]
def nkV (ask l:D) (i:Nat):D:=.t [.i (optT ask i),bif decide (0≤plaI l (optT ask i)) then optB l (plaI l (optT ask i)).toNat else optB ask i]
def nkD (ask l:D):D:=tabD (nkV ask l) ask.len
def FNak:List AV→RT AV
  | [.sl false [.int .i64,.sl [.int .u8]] d none,.sl false [.int .i64,.sl [.int .u8]] l none]=>need false (decide (d.len*32≤140737488355328)) 289 (.ok (asl opS (nkD d l)))
  | _=>.bad 289
theorem seqDec_0:∀ F h x,seqDec F h=some x→∃ a,x=(a,0)∧F=seqF a 0∧h=seqH a 0:=by
  intro F h x hx
  unfold seqDec at hx
  split at hx
  · rename_i hd
    cases hx
    obtain ⟨h1,h2⟩:=cdS_ok hd
    exact ⟨_,rfl,h1,h2⟩
  · cases hx
theorem seqDec_ok:∀ F h x,seqDec F h=some x→F=seqF x.1 x.2∧h=seqH x.1 x.2:=by
  intro F h x hx
  obtain ⟨a,rfl,h1,h2⟩:=seqDec_0 F h x hx
  exact ⟨h1,h2⟩
theorem nklDec_0:∀ F h x,nklDec F h=some x→∃ a,x=(a,0)∧F=nklF a 0 a.d∧h=nklH a 0 a.d:=by
  intro F h x hx
  unfold nklDec at hx
  split at hx
  · rename_i hd
    cases hx
    obtain ⟨h1,h2⟩:=cdS_ok hd
    exact ⟨_,rfl,h1,h2⟩
  · cases hx
theorem seq_loop:LamE Tryz.prog 271 0 (loopS Tryz.prog seqL seqDec seqT):=by
  refine search_loop (gs:=[]) (ls:=[]) mixed trivial trivial _ 0 100 (by kernel_rfl) seqL (by intro h; cases h) (by intro h; cases h) (fun F h x hx=>seqDec_ok F h x hx) ?_
  rintro ⟨x,y,n⟩ i K hn hi H1 H2 H3
  obtain ⟨rfl,hxy⟩:n=(x.len:Int)∧x.len=y.len:=odt hn
  dsimp only at hi H1 H2 H3
  have hm:=x.len_le
  show (roundT seqL (evC _ _ _ _ _ _ (seqF ⟨x,y,x.len⟩ i) (seqH ⟨x,y,x.len⟩ 0))).holds _
  unfold seqL seqF seqH
  rw [seq_body]
  simp only [Int.toNat_natCast]
  refine ⟨fun h1=>⟨fun h2=>⟨fun h3=>⟨fun h4=>?_,fun h4=>?_⟩,fun h3=>?_⟩,fun h2=>?_⟩,fun h1=>?_⟩
  all_goals simp only [decide_eq_true_eq,decide_eq_false_iff_not] at h1
  · refine H2 (by omega) ?_
    unfold eqBy; rw [← Bool.not_eq_true',← bne]; exact h4
  · rw [wrap_succ (by omega) hm]
    refine H1 (by omega) ?_
    unfold eqBy; rw [bne,Bool.not_eq_false'] at h4; exact h4
  · have:=odf h3; omega
  · have:=odf h2; omega
  · obtain rfl:i=x.len:=by omega
    exact H3 rfl
theorem seqLs_ok:LamL Tryz.prog (seqLs Tryz.prog):=⟨seq_loop,trivial⟩
theorem ows_raw (d:D):evF Tryz.prog (gam (golG Tryz.prog)) (lam (owsLs Tryz.prog)) 100 229 [asl opS d] hp0 =
RT.br (decide ((↑(D.len d):Int)=(↑(D.len d):Int)∧D.len d*32≤140737488355328)&&true) (RT.ok (AV.sl false zO (tabD (copE d) (D.len d)) (some (0,1000)),(Hp.mk [] 0 [(0,1000, 52)] 1 1001 1000))) (RT.bad 210):=by kernel_rfl
theorem seq_tree (x y:D):treeF (evF Tryz.prog (gam ([])) (lam (seqLs Tryz.prog)) 100 271) [asl byS x,asl byS y] =
RT.br ((↑(D.len x):Int) != (↑(D.len y):Int)) (RT.ok (AV.sc true (Value.bool false))) (RT.br (decide ((↑(D.len x):Int)=(↑(D.len x):Int)∧D.len x=D.len y)&&true) (RT.br (okFrom (eqBy x y) (D.len x - 0) 0) (RT.ok (AV.sc true (Value.bool true))) (RT.ok (zb false))) (RT.bad 210)):=by rw [← fvF_eq Tryz.prog (gam ([])) (lam (seqLs Tryz.prog)) false 100 271]; kernel_rfl
theorem seq_soundF:SoundF Tryz.prog 271 (pureS Tryz.prog 271 FEqB):=by
  refine pure_in (gs:=[]) (ls:=seqLs Tryz.prog) mixed trivial seqLs_ok 271 100 fun args K ho H=>?_
  unfold FEqB at H
  split at H
  · rename_i x y
    rw [seq_tree]
    have hxy:((x.len:Int) != (y.len:Int))=false→x.len=y.len:=fun h=>by
      rw [bne,Bool.not_eq_false'] at h
      have:=eq_of_beq h
      omega
    refine ⟨fun h=>⟨_,le_bool ?_,H⟩,fun h=>⟨fun _=>⟨fun h2=>⟨_,le_bool ?_,H⟩,fun h2=>⟨_,le_bool ?_,H⟩⟩,fun h3=>?_⟩⟩
    · unfold eqB; rw [def_ (by rw [bne_iff_ne] at h; omega)]; rfl
    all_goals have h1:x.len=y.len:=hxy h
    · unfold eqB; rw [det h1,show okFrom (eqBy x y) x.len 0=true from h2]; rfl
    · unfold eqB; rw [det h1,show okFrom (eqBy x y) x.len 0=false from h2]; rfl
    · rw [Bool.and_true] at h3
      exact absurd ⟨rfl,h1⟩ (odf h3)
  · exact H.elim
theorem owsRow_soundF:SoundF Tryz.prog 229 owsRowS:=by
  intro args h K H w0 G E w vals I hr
  unfold owsRowS at H
  split at H
  rotate_left
  · exact H.elim
  rename_i kn es d tip
  cases hes:Sh.eqsL es opS
  · rw [hes] at H; exact H.elim
  rw [hes,cond_true] at H
  obtain rfl:=Sh.eqsL_eq _ _ hes
  obtain ⟨hsz,H⟩:=need_holds H
  have hsz:=odt hsz
  obtain ⟨v0,vs',rfl,⟨hl,_⟩,h3⟩:=hr
  have I2:=(I.ren (os:=[]) (ks:=[]) (g0:=0) .nil .nil (by simp) 0).top
  have hr2:RelL (E.ren [] [] 0) [asl opS d] (v0 :: vs'):=⟨v0,vs',rfl,⟨hl,trivial⟩,h3⟩
  have hd:(decide ((d.len:Int)=(d.len:Int)∧d.len*32≤140737488355328)&&true)=true:=by rw [Bool.and_true]; exact det ⟨rfl,hsz⟩
  refine (evF_ok mixed (gam_ok golG_ok) (lam_ok owsLs_ok) 100 229 [asl opS d] hp0 (fun x=>x=(.sl false opS (tabD (copE d) d.len) (some (0,1000)),⟨[],0,[(0,1000, 52)],1,1001,1000⟩)) ?_ w _ _ w (v0 :: vs') I2 hr2).mono ?_
  · rw [ows_raw,hd]
    exact holds_t rfl
  rintro e w' ⟨r,h',v,E',hK,rfl,S,hv⟩
  have hK1:=congrArg Prod.fst hK
  have hK2:=congrArg Prod.snd hK
  dsimp only at hK1 hK2
  subst hK1; subst hK2
  have hno:∀ b,¬ (E.ren [] [] 0).mine b:=by
    rintro b (⟨o,⟨p,hp,_⟩,_⟩ | ⟨k,hk,_⟩)
    · simp at hp
    · simp [Env.ren] at hk
  have hbel:Below w.heap.size w w':=S.inv.kpt.below fun k hk=>absurd hk (hno k)
  have hzn:∀ b j u,E'.Z b j=some u→E.Z b j=some u∨w.heap.size≤b:=fun b j u hz=>by
    rcases S.zn b j u hz with h | h | h
    · exact .inl h
    · exact .inr h
    · exact absurd h (hno b)
  have hlen:(tabD (copE d) d.len).len=d.len:=tabD_len d.len_le
  rcases brk_holds H with ⟨h0,H⟩ | ⟨h0,H⟩
  · have h0:=odt h0
    refine ⟨_,h,v,_,H,rfl,I.fresh hbel,?_⟩
    obtain ⟨⟨hbd,ad,cap,rfl,hlc,hcm,hcn,_⟩,_⟩:=hv
    rw [hlen,h0]
    exact ⟨⟨by show 0*_≤_; rw [Nat.zero_mul]; exact Nat.zero_le _,ad,cap,rfl,Nat.zero_le _,hcm,hcn,fun hn=>absurd rfl hn⟩,trivial⟩
  · have h0:=odf h0
    obtain ⟨E2,S2,hv2⟩:=opt_row (kn2:=kn) I hbel S.inv hno hzn hv (Nat.lt_succ_self 0) rfl (by kernel_rfl) (by rw [hlen]; exact h0)
    exact ⟨_,_,v,E2,H,rfl,S2,hv2⟩
theorem nakG_ok:GamL Tryz.prog (nakG Tryz.prog):=⟨cloneb_soundF,pla_soundF,owsRow_soundF,trivial⟩
theorem nkR_len (l d:D):∀ i,(nkR l d i).len=d.len
  | 0=>rfl
  | i+1=>by
    show (bif _ then _ else _:D).len=_
    cases decide (0≤plaI l (optT (nkR l d i) i))
    · exact nkR_len l d i
    · rw [cond_true,setE_len]; exact nkR_len l d i
theorem plaI_lt {l:D} {t:Int} (h:0≤plaI l t):(plaI l t).toNat<l.len∧plaI l t<l.len:=by
  unfold plaI at h ⊢
  cases ho:okFrom (neT l t) l.len 0
  · obtain ⟨_,h2,_⟩:=badFrom_at ho
    simp only [cond_false,Int.toNat_natCast]
    exact ⟨by omega,by omega⟩
  · rw [ho,cond_true] at h; omega
theorem nkl_loop:LamE Tryz.prog 230 0 (loopS Tryz.prog nklL nklDec nklT):=by
  refine fold_loop (gs:=nakG Tryz.prog) (ls:=[]) mixed nakG_ok trivial _ 0 100 (by kernel_rfl) nklL (fun F h x hx=>by obtain ⟨a,rfl,h1,h2⟩:=nklDec_0 F h x hx; exact ⟨h1,h2⟩) ?_
  rintro ⟨l,m,m1,n,d⟩ i K hok hi H1 H2
  dsimp only at hok hi H1 H2
  have hm:=d.len_le
  obtain ⟨rfl,rfl,rfl⟩:=odt hok
  have l0:=nkR_len l d i
  have go:∀ x0,i<d.len→nkR l d (i+1)=x0→K (.normal,nklF ⟨l,d.len,d.len,d.len,d⟩ (i+1) x0,nklH ⟨l,d.len,d.len,d.len,d⟩ (i+1) x0):=by
    intro x0 hlt; rintro rfl; exact H1 hlt
  show (roundT nklL (evC _ _ _ _ _ _ (nklF ⟨l,d.len,d.len,d.len,d⟩ i (nkR l d i)) (nklH ⟨l,d.len,d.len,d.len,d⟩ i (nkR l d i)))).holds _
  unfold nklL nklF nklH
  rw [nkl_body]
  simp only [Int.toNat_natCast]
  refine ⟨fun h1=>?_,fun h1=>?_⟩
  rotate_left
  · obtain rfl:i=d.len:=by have:=odf h1; omega
    exact H2 rfl
  have hlt:i<d.len:=by have:=odt h1; omega
  rw [wrap_succ hlt hm]
  clear H1 H2
  have hI:decide (0≤(i:Int)∧(i:Int)<(d.len:Int))=true:=det ⟨by omega,by omega⟩
  have hJ:decide (i<(nkR l d i).len)=true:=det (by omega)
  rw [hI,hJ]
  refine holds_t (holds_t ⟨fun h=>⟨fun _=>holds_t (holds_t ?_),fun h'=>?_⟩,fun h=>?_⟩)
  · refine go _ hlt ?_
    show (bif decide (0≤plaI l (optT (nkR l d i) i)) then _ else _:D)=_
    rw [show decide (0≤plaI l (optT (nkR l d i) i))=true from h]; rfl
  · have h:=odt h
    exact absurd ⟨h,(plaI_lt h).2⟩ (odf h')
  · refine go _ hlt ?_
    show (bif decide (0≤plaI l (optT (nkR l d i) i)) then _ else _:D)=_
    rw [show decide (0≤plaI l (optT (nkR l d i) i))=false from h]; rfl
theorem nakLs_ok:LamL Tryz.prog (nakLs Tryz.prog):=⟨altB_ok (runB_ok mixed nakG_ok _ 0 100 (by kernel_rfl)) nkl_loop,trivial⟩
theorem nak_tree (d l:D):treeR (evF Tryz.prog (gam (nakG Tryz.prog)) (lam (nakLs Tryz.prog)) 100 230) [asl opS d,asl opS l] =
RT.br (decide (D.len d*32≤140737488355328)) (RT.br (decide (D.len d=0)) (RT.ok (AV.sl true zO (D.l []) none)) (RT.br (decide ((↑(D.len (tabD (copE d) (D.len d))):Int)=(↑(D.len (tabD (copE d) (D.len d))):Int)∧Int.toNat (Int.ofNat (D.len (tabD (copE d) (D.len d))))=D.len (tabD (copE d) (D.len d))∧Int.toNat (Int.ofNat (D.len (tabD (copE d) (D.len d))))=D.len (tabD (copE d) (D.len d)))&&true) (RT.br (decide (Int.toNat (Int.ofNat (D.len (tabD (copE d) (D.len d))))=D.len (nkR l (tabD (copE d) (D.len d)) (D.len (tabD (copE d) (D.len d)))))) (RT.ok (zs zO (nkR l (tabD (copE d) (D.len d)) (D.len (tabD (copE d) (D.len d)))))) (RT.bad 213)) (RT.bad 210))) (RT.bad 287):=by rw [← fvF_eq Tryz.prog (gam (nakG Tryz.prog)) (lam (nakLs Tryz.prog)) false 100 230]; kernel_rfl
theorem holds_t_of {α:Type} {b:Bool} {x y:RT α} {Q:α→Prop} (hb:b=true) (h:x.holds Q):(RT.br b x y).holds Q:=⟨fun _=>h,fun h=>by rw [hb] at h; cases h⟩
theorem FNak_inv {args:List AV} {K:AV→Prop} (H:(FNak args).holds K):∃ d l,args=[asl opS d,asl opS l]∧d.len*32≤140737488355328∧K (asl opS (nkD d l)):=by
  unfold FNak at H
  split at H
  · rename_i d l
    obtain ⟨hc,H⟩:=need_holds H
    exact ⟨d,l,rfl,odt hc,H⟩
  · exact H.elim
theorem nkR_at (l d:D):∀ i,i≤d.len→∀ q,optT (nkR l d i) q=optT d q∧optB (nkR l d i) q=bif decide (q<i∧0≤plaI l (optT d q)) then optB l (plaI l (optT d q)).toNat else optB d q
  | 0,_,q=>⟨rfl,by rw [def_ (by omega)]; rfl⟩
  | i+1,h,q=>by
    have ih:=nkR_at l d i (by omega)
    have hT:optT (nkR l d i) i=optT d i:=(ih i).1
    cases hc:decide (0≤plaI l (optT (nkR l d i) i))
    · have e:nkR l d (i+1)=nkR l d i:=by
        show (bif decide (0≤plaI l (optT (nkR l d i) i)) then _ else _:D)=_
        rw [hc]; rfl
      rw [e]
      refine ⟨(ih q).1,(ih q).2.trans ?_⟩
      have hc:=odf hc
      rw [hT] at hc
      have:decide (q<i∧0≤plaI l (optT d q))=decide (q<i+1∧0≤plaI l (optT d q)):=by
        rw [decide_eq_decide]
        constructor
        · rintro ⟨a,b⟩; exact ⟨by omega,b⟩
        · rintro ⟨a,b⟩
          refine ⟨?_,b⟩
          rcases Nat.lt_or_ge q i with h | h
          · exact h
          · obtain rfl:q=i:=by omega
            exact absurd b hc
      rw [this]
    · have e:nkR l d (i+1)=(nkR l d i).setE i (nkE l (nkR l d i) i):=by
        show (bif decide (0≤plaI l (optT (nkR l d i) i)) then _ else _:D)=_
        rw [hc]; rfl
      have hc:=odt hc
      rw [hT] at hc
      unfold optT optB
      rw [e,setE_get (by rw [nkR_len]; omega)]
      by_cases hq:q=i
      · subst hq
        rw [if_pos rfl,det ⟨Nat.lt_succ_self q,hc⟩]
        exact ⟨hT,by show optB l (plaI l (optT (nkR l d q) q)).toNat=_; rw [hT]; rfl⟩
      · rw [if_neg hq]
        refine ⟨(ih q).1,(ih q).2.trans ?_⟩
        have:decide (q<i∧0≤plaI l (optT d q))=decide (q<i+1∧0≤plaI l (optT d q)):=by
          rw [decide_eq_decide]
          constructor
          · rintro ⟨a,b⟩; exact ⟨by omega,b⟩
          · rintro ⟨a,b⟩; exact ⟨by omega,b⟩
        rw [this]
        rfl
theorem optT_cop (d:D) {q:Nat} (hq:q<d.len):optT (tabD (copE d) d.len) q=optT d q∧optB (tabD (copE d) d.len) q=optB d q:=by
  unfold optT optB
  rw [tabD_get d.len_le hq]
  exact ⟨rfl,rfl⟩
theorem nak_soundF:SoundF Tryz.prog 230 (pureS Tryz.prog 230 FNak):=by
  refine pure_row (gs:=nakG Tryz.prog) (ls:=nakLs Tryz.prog) mixed nakG_ok nakLs_ok 230 100 fun args K ho H=>?_
  obtain ⟨d,l,hr,hc,H⟩:=FNak_inv H
  rw [hr,nak_tree]
  have hl:(nkD d l).len=d.len:=tabD_len d.len_le
  have ht:(tabD (copE d) d.len).len=d.len:=tabD_len d.len_le
  rw [nkR_len,ht,det hc]
  refine holds_t ⟨fun h=>⟨_,le_sl ?_ ?_,H⟩,fun h=>⟨fun _=>holds_t_of (det rfl) ⟨_,le_sl ?_ ?_,H⟩,fun h=>?_⟩⟩
  · rw [hl,odt h]; rfl
  · intro i hi
    exact absurd hi (Nat.not_lt_zero i)
  · rw [nkR_len,ht,hl]
  · intro i hi
    rw [nkR_len,ht] at hi
    have hV:(nkD d l).get i=nkV d l i:=tabD_get d.len_le hi
    obtain ⟨a,b⟩:=nkR_at l (tabD (copE d) d.len) d.len (by omega) i
    obtain ⟨c,e⟩:=optT_cop d hi
    rw [c] at a b
    rw [e] at b
    rw [hV]
    refine ⟨a,b.trans ?_,trivial⟩
    have:decide (i<d.len∧0≤plaI l (optT d i))=decide (0≤plaI l (optT d i)):=by
      rw [decide_eq_decide]; exact ⟨fun h=>h.2,fun h=>⟨hi,h⟩⟩
    rw [this]
    rfl
  · rw [Bool.and_true] at h
    exact absurd ⟨rfl,rfl,rfl⟩ (odf h)
def mtB (ask:D) (i:Nat) (q:D):Bool:=decide (0<q.len)&&(optT ask i==optT q 0&&eqB (optB ask i) (optB q 0))
def lAt (ask l:D):Nat→D
  | 0=>l
  | i+1=>bif mtB ask i (lAt ask l i) then (lAt ask l i).sub 1 (lAt ask l i).len else lAt ask l i
def mtK (ask l:D) (i k:Nat):Bool:=decide (k<l.len)&&(optT l k==optT ask i&&eqB (optB ask i) (optB l k))
def kAt (ask l:D):Nat→Nat
  | 0=>0
  | i+1=>bif mtK ask l i (kAt ask l i) then kAt ask l i+1 else kAt ask l i
def rejG (P:Program):List (FuncId×Spec):=[(271,pureS P 271 FEqB),(269,pureS P 269 FOwnO)]
structure rjlX where
  (l ask:D)
  n:Int
def rjlL:Lw:=⟨[1,6,9,10,11],[(false,6,0, 52)],0,1,1000,1000⟩
def rjlF (a:rjlX) (i:Nat) (g0:D) (g8:D):Tm:=⟨48,[(1,.sl false opS g8 none),(6,.sl false opS g0 (some (0,1000))),(9,.sl false opS a.ask none),(10,zi a.n),(11,zi (i:Int))],[]⟩
def rjlH (a:rjlX) (i:Nat) (g0:D) (g8:D):Hp:=⟨[],0,[(0,1000, 52)],1,1001,1000⟩
def rjlC:Cs:=⟨48,[(1,.sl opS),(6,.nw opS 0 1000),(9,.sl opS),(10,.int .i64),(11,.lit (.sc false (.int .i64 0)))],[],0,[(0,1000, 52)],1,1001,1000⟩
noncomputable def rjlDec (F:Tm) (h:Hp):Option (rjlX×Nat):=match cdS rjlC F h with
  | some [v0,v1,v2]=>some (⟨v0,v1,v2.toI⟩,0)
  | _=>none
theorem rjl_body (ask:D) (n:Int) (i:Int) (g0:D) (g8:D):roundT (⟨[1,6,9,10,11],[(false,6,0, 52)],0,1,1000,1000⟩) (evC Tryz.prog (gam (rejG Tryz.prog)) (lam ([])) 100 231 (loopAt 0 (bodyOf Tryz.prog 231)) (⟨48,[(1,.sl false opS g8 none),(6,.sl false opS g0 (some (0,1000))),(9,.sl false opS ask none),(10,zi n),(11,zi i)],[]⟩) (⟨[],0,[(0,1000, 52)],1,1001,1000⟩)) =
RT.br (decide (i<n)) (RT.br (decide (0≤i∧i<(↑(D.len ask):Int))) (RT.br (decide (0<(↑(D.len g8):Int))) (RT.br (decide ((0:Int)≤0∧0<(↑(D.len g8):Int))) (RT.br (D.toI (D.cell (D.get ask (Int.toNat i)) 0)==D.toI (D.cell (D.get g8 0) 0)) (RT.br (decide ((0:Int)≤0∧0<(↑(D.len g8):Int))) (RT.br (eqB (D.cell (D.get ask (Int.toNat i)) 1) (D.cell (D.get g8 0) 1)) (RT.br (decide ((0:Int)≤1∧1≤(↑(D.len g8):Int)∧(↑(D.len g8):Int)≤(↑(D.len g8):Int)∧(↑(D.len g8):Int)≤(↑(D.len g8):Int))) (RT.ok (Ex.normal,(Tm.mk 48 [(1,zs zO (D.sub g8 1 (Int.toNat (↑(D.len g8):Int)))),(6,AV.sl false zO g0 (some (0,1000))),(9,zs zO ask),(10,zi n),(11,zi (IntKind.wrap IntKind.i64 (i+1)))] []),(Hp.mk [] 0 [(0,1000, 52)] 1 1001 1000))) (RT.bad 37)) (RT.br (decide ((D.len g0+1)*32≤140737488355328)) (RT.ok (Ex.normal,(Tm.mk 48 [(1,zs zO g8),(6,AV.sl false zO (D.app g0 (D.l [D.t [D.i (D.toI (D.cell (D.get ask (Int.toNat i)) 0)),D.cell (D.get ask (Int.toNat i)) 1]])) (some (0,1000))),(9,zs zO ask),(10,zi n),(11,zi (IntKind.wrap IntKind.i64 (i+1)))] []),(Hp.mk [] 0 [(0,1000, 52)] 1 1001 1000))) (RT.bad 70))) (RT.bad 42)) (RT.br (decide ((D.len g0+1)*32≤140737488355328)) (RT.ok (Ex.normal,(Tm.mk 48 [(1,zs zO g8),(6,AV.sl false zO (D.app g0 (D.l [D.t [D.i (D.toI (D.cell (D.get ask (Int.toNat i)) 0)),D.cell (D.get ask (Int.toNat i)) 1]])) (some (0,1000))),(9,zs zO ask),(10,zi n),(11,zi (IntKind.wrap IntKind.i64 (i+1)))] []),(Hp.mk [] 0 [(0,1000, 52)] 1 1001 1000))) (RT.bad 70))) (RT.bad 42)) (RT.br (decide ((D.len g0+1)*32≤140737488355328)) (RT.ok (Ex.normal,(Tm.mk 48 [(1,zs zO g8),(6,AV.sl false zO (D.app g0 (D.l [D.t [D.i (D.toI (D.cell (D.get ask (Int.toNat i)) 0)),D.cell (D.get ask (Int.toNat i)) 1]])) (some (0,1000))),(9,zs zO ask),(10,zi n),(11,zi (IntKind.wrap IntKind.i64 (i+1)))] []),(Hp.mk [] 0 [(0,1000, 52)] 1 1001 1000))) (RT.bad 70))) (RT.bad 42)) (RT.ok (Ex.exit 0,(Tm.mk 48 [(1,zs zO g8),(6,AV.sl false zO g0 (some (0,1000))),(9,zs zO ask),(10,zi n),(11,zi i)] []),(Hp.mk [] 0 [(0,1000, 52)] 1 1001 1000))):=by rw [← fvC_eq Tryz.prog (gam (rejG Tryz.prog)) (lam ([])) false 100]; kernel_rfl
structure rr4X where
  (ask l:D)
structure rn2X where
  (ask l b:D)
  (j kk t:Int)
  x:D
def rjlT:rjlX×Nat→RT Out:=foldT (fun a=>a.ask.len) (fun a=>decide (a.n=(a.ask.len:Int)∧a.ask.len*32≤room)) (fun a i=>rjlF a i (filD (fun j=>!mtB a.ask j (lAt a.ask a.l j)) (copE a.ask) i) (lAt a.ask a.l i)) (fun a i=>rjlH a i (filD (fun j=>!mtB a.ask j (lAt a.ask a.l j)) (copE a.ask) i) (lAt a.ask a.l i))
def rejLs (P:Program):List (FuncId×Nat×BSpec):=[(231,0,loopS P rjlL rjlDec rjlT)]
theorem rjlDec_0:∀ F h x,rjlDec F h=some x→∃ a,x=(a,0)∧F=rjlF a 0 (.l []) a.l∧h=rjlH a 0 (.l []) a.l:=by
  intro F h x hx
  unfold rjlDec at hx
  split at hx
  · rename_i hd
    cases hx
    obtain ⟨h1,h2⟩:=cdS_ok hd
    exact ⟨_,rfl,h1,h2⟩
  · cases hx
theorem rejG_ok:GamL Tryz.prog (rejG Tryz.prog):=⟨seq_soundF,owo_soundF,trivial⟩
theorem lAt_succ (ask l:D) (i:Nat):lAt ask l (i+1)=bif mtB ask i (lAt ask l i) then (lAt ask l i).sub 1 (lAt ask l i).len else lAt ask l i:=rfl
theorem kAt_succ (ask l:D) (i:Nat):kAt ask l (i+1)=bif mtK ask l i (kAt ask l i) then kAt ask l i+1 else kAt ask l i:=rfl
theorem kAt_le (ask l:D):∀ i,kAt ask l i≤l.len∧kAt ask l i≤i
  | 0=>⟨Nat.zero_le _,Nat.le_refl _⟩
  | i+1=>by
    have ⟨h1,h2⟩:=kAt_le ask l i
    rw [kAt_succ]
    cases hc:mtK ask l i (kAt ask l i)
    · exact ⟨h1,by simp only [cond_false]; omega⟩
    · unfold mtK at hc
      rw [Bool.and_eq_true] at hc
      have:=odt hc.1
      exact ⟨by simp only [cond_true]; omega,by simp only [cond_true]; omega⟩
theorem rjl_loop:LamE Tryz.prog 231 0 (loopS Tryz.prog rjlL rjlDec rjlT):=by
  refine fold_loop (gs:=rejG Tryz.prog) (ls:=[]) mixed rejG_ok trivial _ 0 100 (by kernel_rfl) rjlL (fun F h x hx=>by obtain ⟨a,rfl,h1,h2⟩:=rjlDec_0 F h x hx; exact ⟨h1,h2⟩) ?_
  rintro ⟨l,ask,n⟩ i K hok hi H1 H2
  dsimp only at hok hi H1 H2
  have hm:=ask.len_le
  obtain ⟨rfl,hrm⟩:=odt hok
  unfold room at hrm
  have l0:=filD_len_le (fun j=>!mtB ask j (lAt ask l j)) (copE ask) i
  have go:∀ x0 x1,i<ask.len→filD (fun j=>!mtB ask j (lAt ask l j)) (copE ask) (i+1)=x0→lAt ask l (i+1)=x1→K (.normal,rjlF ⟨l,ask,ask.len⟩ (i+1) x0 x1,rjlH ⟨l,ask,ask.len⟩ (i+1) x0 x1):=by
    intro x0 x1 hlt; rintro rfl rfl; exact H1 hlt
  show (roundT rjlL (evC _ _ _ _ _ _ (rjlF ⟨l,ask,ask.len⟩ i (filD (fun j=>!mtB ask j (lAt ask l j)) (copE ask) i) (lAt ask l i)) (rjlH ⟨l,ask,ask.len⟩ i (filD (fun j=>!mtB ask j (lAt ask l j)) (copE ask) i) (lAt ask l i)))).holds _
  unfold rjlL rjlF rjlH
  rw [rjl_body]
  simp only [Int.toNat_natCast]
  refine ⟨fun h1=>?_,fun h1=>?_⟩
  rotate_left
  · obtain rfl:i=ask.len:=by have:=odf h1; omega
    exact H2 rfl
  have hlt:i<ask.len:=by have:=odt h1; omega
  rw [wrap_succ hlt hm]
  clear H1 H2
  have hI:decide (0≤(i:Int)∧(i:Int)<(ask.len:Int))=true:=det ⟨by omega,by omega⟩
  have sz0:decide (((filD (fun j=>!mtB ask j (lAt ask l j)) (copE ask) i).len+1)*32≤140737488355328)=true:=det (by omega)
  rw [hI,sz0]
  have off:mtB ask i (lAt ask l i)=false→K (.normal,rjlF ⟨l,ask,ask.len⟩ (i+1) ((filD (fun j=>!mtB ask j (lAt ask l j)) (copE ask) i).app (.l [copE ask i])) (lAt ask l i),rjlH ⟨l,ask,ask.len⟩ (i+1) ((filD (fun j=>!mtB ask j (lAt ask l j)) (copE ask) i).app (.l [copE ask i])) (lAt ask l i)):=fun h=>by
    refine go _ _ hlt (filD_on (p:=fun j=>!mtB ask j (lAt ask l j)) (f:=copE ask) (by omega) (by show (!mtB ask i (lAt ask l i))=true; rw [h]; rfl)).symm ?_
    rw [lAt_succ,h]; rfl
  refine holds_t ⟨fun h2=>⟨fun _=>⟨fun h3=>⟨fun _=>⟨fun h4=>⟨fun _=>?_,fun h=>?_⟩,fun h4=>holds_t (off ?_)⟩,fun h=>?_⟩,fun h3=>holds_t (off ?_)⟩,fun h=>?_⟩,fun h2=>holds_t (off ?_)⟩
  · have hm:mtB ask i (lAt ask l i)=true:=by
      unfold mtB
      rw [Bool.and_eq_true,Bool.and_eq_true]
      exact ⟨det (by have:=odt h2; omega),h3,h4⟩
    refine go _ _ hlt (filD_off (p:=fun j=>!mtB ask j (lAt ask l j)) (by show (!mtB ask i (lAt ask l i))=false; rw [hm]; rfl)) ?_
    rw [lAt_succ,hm,cond_true]
  · have:=odt h2
    have:=odf h
    omega
  · unfold mtB; rw [Bool.and_eq_false_iff,Bool.and_eq_false_iff]; exact .inr (.inr h4)
  · have:=odt h2
    have:=odf h
    omega
  · unfold mtB; rw [Bool.and_eq_false_iff,Bool.and_eq_false_iff]; exact .inr (.inl h3)
  · have:=odt h2
    have:=odf h
    omega
  · unfold mtB; rw [Bool.and_eq_false_iff]; exact .inl (def_ (by have:=odf h2; omega))
theorem rejLs_ok:LamL Tryz.prog (rejLs Tryz.prog):=⟨rjl_loop,trivial⟩
structure rn0X where
  (ask l:D)
def rjO (ask l:D):D:=filD (fun j=>!mtK ask l j (kAt ask l j)) (copE ask) ask.len
def rjB (ask l:D):Bool:=decide (l.len≤kAt ask l ask.len)
def FRj:List AV→RT AV
  | [.sl false [.int .i64,.sl [.int .u8]] d none,.sl false [.int .i64,.sl [.int .u8]] l none]=>need false (decide (d.len*32≤140737488355328)) 292 (.ok (.tup [asl opS (rjO d l),ab (rjB d l)]))
  | _=>.bad 292
def lrnB (ask:D) (c:Int) (l:D):Bool:=!(decide (l.len=0))&&(c==3||(c==4&&rjB ask l))
def lrnO (ask:D) (c:Int) (l:D):D:=bif lrnB ask c l then (bif c==3 then nkD ask l else rjO ask l) else ask
def lrnN (ask l:D):Bool:=decide (ask.len*32≤140737488355328)&&(optsB ask&&optsB l)
def FLrn:List AV→RT AV
  | [.sl false [.int .i64,.sl [.int .u8]] d none,.sc false (.int .i64 c),.sl false [.int .i64,.sl [.int .u8]] l none]=>need false (lrnN d l) 293 (.ok (.tup [asl opS (lrnO d c l),ab (lrnB d c l)]))
  | _=>.bad 293
def lrnG (P:Program):List (FuncId×Spec):=[(229,pureS P 229 FOwns),(230,pureS P 230 FNak),(231,pureS P 231 FRj)]
theorem lAt_at (ask l:D):∀ i,(lAt ask l i).len=l.len - kAt ask l i∧(∀ q,q<l.len - kAt ask l i→(lAt ask l i).get q=l.get (kAt ask l i+q))∧mtB ask i (lAt ask l i)=mtK ask l i (kAt ask l i)
  | 0=>⟨rfl,fun q _=>by rw [show kAt ask l 0+q=q from Nat.zero_add q]; rfl,by
      unfold mtB mtK
      show (decide (0<l.len)&&(optT ask 0==optT l 0&&_))=(decide (0<l.len)&&(optT l 0==optT ask 0&&_))
      rw [Bool.beq_comm (a:=optT ask 0)]; rfl⟩
  | i+1=>by
    obtain ⟨h1,h2,h3⟩:=lAt_at ask l i
    have key:(lAt ask l (i+1)).len=l.len - kAt ask l (i+1)∧(∀ q,q<l.len - kAt ask l (i+1)→(lAt ask l (i+1)).get q=l.get (kAt ask l (i+1)+q)):=by
      rw [lAt_succ,kAt_succ,h3]
      cases hc:mtK ask l i (kAt ask l i)
      · exact ⟨h1,h2⟩
      · have hk:kAt ask l i<l.len:=by
          unfold mtK at hc
          rw [Bool.and_eq_true] at hc
          exact odt hc.1
        simp only [cond_true]
        refine ⟨by rw [sub_len (by omega) (Nat.le_refl _)]; omega,fun q hq=>?_⟩
        rw [sub_get (by omega),h2 _ (by omega)]
        congr 1; omega
    obtain ⟨k1,k2⟩:=key
    refine ⟨k1,k2,?_⟩
    unfold mtB mtK
    rw [k1]
    by_cases hk:kAt ask l (i+1)<l.len
    · rw [det (show 0<l.len - kAt ask l (i+1) by omega),det hk]
      have:=k2 0 (by omega)
      unfold optT optB
      rw [this,Bool.beq_comm (a:=((ask.get (i+1)).cell 0).toI)]
      rfl
    · rw [def_ (show ¬ 0<l.len - kAt ask l (i+1) by omega),def_ hk]; rfl
theorem rjj_tree (ask l:D):treeF (evF Tryz.prog (gam (rejG Tryz.prog)) (lam (rejLs Tryz.prog)) 100 231) [asl opS ask,asl opS l] =
RT.br (decide ((↑(D.len ask):Int)=(↑(D.len ask):Int)∧D.len ask*32≤140737488355328)&&true) (RT.ok (AV.tup [zs zO (filD (fun j=>!mtB ask j (lAt ask l j)) (copE ask) (D.len ask)),zb ((↑(D.len (lAt ask l (D.len ask))):Int)==0)])) (RT.bad 210):=by rw [← fvF_eq Tryz.prog (gam (rejG Tryz.prog)) (lam (rejLs Tryz.prog)) false 100 231]; kernel_rfl
theorem lrn_tree (ask:D) (c:Int) (l:D):treeF (evF Tryz.prog (gam (lrnG Tryz.prog)) (lam ([])) 100 212) [asl opS ask,ai c,asl opS l] =
RT.br ((↑(D.len l):Int)==0) (RT.br (decide (D.len ask*32≤140737488355328)) (RT.ok (AV.tup [zs zO ask,AV.sc true (Value.bool false)])) (RT.bad 286)) (RT.br (c==3) (RT.br (decide (D.len ask*32≤140737488355328)) (RT.ok (AV.tup [zs zO (nkD ask l),AV.sc true (Value.bool true)])) (RT.bad 289)) (RT.br (c==4) (RT.br (decide (D.len ask*32≤140737488355328)) (RT.br (rjB ask l) (RT.ok (AV.tup [zs zO (rjO ask l),AV.sc true (Value.bool true)])) (RT.br (decide (D.len ask*32≤140737488355328)) (RT.ok (AV.tup [zs zO ask,AV.sc true (Value.bool false)])) (RT.bad 286))) (RT.bad 292)) (RT.br (decide (D.len ask*32≤140737488355328)) (RT.ok (AV.tup [zs zO ask,AV.sc true (Value.bool false)])) (RT.bad 286)))):=by rw [← fvF_eq Tryz.prog (gam (lrnG Tryz.prog)) (lam ([])) false 100 212]; kernel_rfl
theorem FRj_inv {args:List AV} {K:AV→Prop} (H:(FRj args).holds K):∃ d l,args=[asl opS d,asl opS l]∧d.len*32≤140737488355328∧K (.tup [asl opS (rjO d l),ab (rjB d l)]):=by
  unfold FRj at H
  split at H
  · rename_i d l
    obtain ⟨hc,H⟩:=need_holds H
    exact ⟨d,l,rfl,odt hc,H⟩
  · exact H.elim
theorem rjj_soundF:SoundF Tryz.prog 231 (pureS Tryz.prog 231 FRj):=by
  refine pure_in (gs:=rejG Tryz.prog) (ls:=rejLs Tryz.prog) mixed rejG_ok rejLs_ok 231 100 fun args K ho H=>?_
  obtain ⟨ask,l,hr,hc,H⟩:=FRj_inv H
  rw [hr,rjj_tree]
  have hf:(fun j=>!mtB ask j (lAt ask l j))=fun j=>!mtK ask l j (kAt ask l j):=funext fun j=>by rw [(lAt_at ask l j).2.2]
  rw [hf,(lAt_at ask l ask.len).1]
  refine holds_t_of (by rw [Bool.and_true]; exact det ⟨rfl,hc⟩) ⟨_,le_two (Le.refl _) (le_bool ?_),H⟩
  have:=(kAt_le ask l ask.len).1
  unfold rjB
  rw [Bool.eq_iff_iff,beq_iff_eq,decide_eq_true_eq]
  omega
theorem lrnG_ok:GamL Tryz.prog (lrnG Tryz.prog):=⟨ows_soundF,nak_soundF,rjj_soundF,trivial⟩
theorem FLrn_inv {args:List AV} {K:AV→Prop} (H:(FLrn args).holds K):∃ d c l,args=[asl opS d,ai c,asl opS l]∧lrnN d l=true∧K (.tup [asl opS (lrnO d c l),ab (lrnB d c l)]):=by
  unfold FLrn at H
  split at H
  · rename_i d c l
    obtain ⟨hc,H⟩:=need_holds H
    exact ⟨d,c,l,rfl,hc,H⟩
  · exact H.elim
theorem lrn0 {d l:D} {c:Int} (h:((l.len:Int)==0)=true):lrnO d c l=d∧lrnB d c l=false:=by
  have h:=eq_of_beq h
  have e:lrnB d c l=false:=by unfold lrnB; rw [det (by omega)]; rfl
  exact ⟨by unfold lrnO; rw [e]; rfl,e⟩
section
variable {d l:D} {c:Int} (h:((l.len:Int)==0)=false)
include h
theorem lrnZ:lrnB d c l=(c==3||(c==4&&rjB d l)):=by
  have:¬ l.len=0:=fun e=>by rw [e] at h; cases h
  unfold lrnB; rw [def_ this]; rfl
theorem lrn3 (h3:(c==3)=true):lrnO d c l=nkD d l∧lrnB d c l=true:=by
  have e:lrnB d c l=true:=by rw [lrnZ h,h3]; rfl
  exact ⟨by unfold lrnO; rw [e,h3]; rfl,e⟩
theorem lrn4 (h3:(c==3)=false) (h4:(c==4)=true) (hr:rjB d l=true):lrnO d c l=rjO d l∧lrnB d c l=true:=by
  have e:lrnB d c l=true:=by rw [lrnZ h,h3,h4,hr]; rfl
  exact ⟨by unfold lrnO; rw [e,h3]; rfl,e⟩
theorem lrnX (h3:(c==3)=false) (h4:(c==4)=false∨rjB d l=false):lrnO d c l=d∧lrnB d c l=false:=by
  have e:lrnB d c l=false:=by
    rw [lrnZ h,h3]
    rcases h4 with h4 | h4 <;> rw [h4] <;> simp
  exact ⟨by unfold lrnO; rw [e]; rfl,e⟩
end
theorem lrn_soundF:SoundF Tryz.prog 212 (pureS Tryz.prog 212 FLrn):=by
  refine pure_in (gs:=lrnG Tryz.prog) (ls:=[]) mixed lrnG_ok trivial 212 100 fun args K ho H=>?_
  obtain ⟨ask,c,l,hr,hc,H⟩:=FLrn_inv H
  rw [hr,lrn_tree]
  have A:∀ o b,lrnO ask c l=o∧lrnB ask c l=b→K (.tup [asl opS o,ab b]):=by rintro o b ⟨rfl,rfl⟩; exact H
  unfold lrnN at hc
  rw [Bool.and_eq_true] at hc
  rw [hc.1]
  refine ⟨fun h=>holds_t ⟨_,le_two (Le.refl _) (le_bool rfl),A _ _ (lrn0 h)⟩,fun h=>⟨fun h3=>holds_t ⟨_,le_two (Le.refl _) (le_bool rfl),A _ _ (lrn3 h h3)⟩,fun h3=>⟨fun h4=>holds_t ⟨fun h5=>⟨_,le_two (Le.refl _) (le_bool rfl),A _ _ (lrn4 h h3 h4 h5)⟩,fun h5=>holds_t ⟨_,le_two (Le.refl _) (le_bool rfl),A _ _ (lrnX h h3 (.inr h5))⟩⟩,fun h4=>holds_t ⟨_,le_two (Le.refl _) (le_bool rfl),A _ _ (lrnX h h3 (.inl h4))⟩⟩⟩⟩
structure rdeX where
  b:D
structure rdeY where
  b:D
  (m k:Nat)
  ol:D
def pktG (P:Program):List (FuncId×Spec):=[(121,pureS P 121 FEnc7),(181,pureS P 181 FMay),(167,pureS P 167 FAs),(177,pureS P 177 FDec),(228,pureS P 228 FAns),(155,pureS P 155 FEnc),(212,pureS P 212 FLrn),(183,pureS P 183 FStep),(164,pureS P 164 FDo)]
def stayV (a:AuV):DoneV:=⟨a,.l [],.l []⟩
abbrev b0I (ix:D):Int:=((ix.get 0).cell 0).toI
def pkW (r:D) (mc mt mf wt:Int) (a:AuV) (ic ii:Int) (ix:D) (tk:Int):DoneV :=
  bif !(decide (1≤ic)&&decide (ic≤7)) then stayV a else bif enc7E ic ii ix != 0 then stayV a else bif !mayB (rlM r) (rlG r) mc mt mf wt a.st a.id a.rq a.d a.ct a.tm a.nk tk then stayV a else
  bif ic==1 then (bif decE ix != 0 then stayV a else bif encE (ansO r (decO ix) a.nk mf) != 0 then stayV a else doW (rlM r) (rlG r) mc mt mf wt a (bif ansC r (decO ix) a.nk mf==2 then 7 else 8) ic ii ix (ansC r (decO ix) a.nk mf) ii (encO (ansO r (decO ix) a.nk mf)) tk) else
  bif ic==2 then (bif ii==a.rq then (bif ix.str.toList==(encO a.d).str.toList then doW (rlM r) (rlG r) mc mt mf wt a 9 ic ii ix 0 0 (.l []) tk else stayV a) else stayV a) else
  bif ic==3||ic==4 then (bif ii != a.rq then stayV a else bif decE ix != 0 then stayV a else bif lrnB a.d ic (decO ix) then (bif encE (lrnO a.d ic (decO ix))==0 then (bif rfcE a.st 10 != 0 then stayV a else doW (rlM r) (rlG r) mc mt mf wt ⟨a.st,a.id,a.rq,lrnO a.d ic (decO ix),a.ct,a.tm,a.nk⟩ 10 ic ii ix 0 0 (.l []) tk) else stayV a) else stayV a) else
  bif ic==5 then doW (rlM r) (rlG r) mc mt mf wt a 11 ic ii ix 0 0 (.l []) tk else
  bif ic==6 then doW (rlM r) (rlG r) mc mt mf wt a 12 ic ii ix 0 0 (.l []) tk else
  bif (ix.len:Int)==0 then stayV a else bif decide (1≤b0I ix)&&decide (b0I ix≤7) then doW (rlM r) (rlG r) mc mt mf wt a 15 ic ii ix 0 0 (.l []) tk else doW (rlM r) (rlG r) mc mt mf wt a 14 ic ii ix 0 0 (.l []) tk
abbrev pkA (w:DoneV) (b:Bool):AV:=.tup [auvA w.a,asl ctS w.out,asl acS w.did,ab b]
def pkN (r d ix:D):Bool:=isRl r&&(bytesB ix&&optsB d)
def FPkt:List AV→RT AV
  | [.agg [.sl false [.int .i64,.int .i64,.int .i64,.int .i64,.int .i64,.int .i64,.bool] r none,.sc false (.int .i64 mc),.sc false (.int .i64 mt),.sc false (.int .i64 mf),.sc false (.int .i64 wt)],
     .agg [.sc false (.int .i64 st),.sc false (.int .i64 id),.sc false (.int .i64 rq),.sl false [.int .i64,.sl [.int .u8]] d none,.sc false (.int .i64 ct),.sc false (.int .i64 tm),.sc false (.int .i64 nk)],
     .agg [.sc false (.int .i64 ic),.sc false (.int .i64 ii),.sl false [.int .u8] ix none],.sc false (.int .i64 tk)]=>need false (pkN r d ix) 294 (.ok (pkA (pkW r mc mt mf wt ⟨st,id,rq,d,ct,tm,nk⟩ ic ii ix tk) (decide (1≤ic)&&decide (ic≤7))))
  | _=>.bad 294
abbrev pkt_treeT_1 (r:D) (mc mt mf wt st id rq:Int) (d:D) (ct tm nk ic ii:Int) (ix:D) (tk:Int):=RT.br (bytesB ix) (RT.br (ii != rq) (RT.ok (AV.tup [AV.agg [zi st,zi id,zi rq,zs zO d,zi ct,zi tm,zi nk],zz,zz,AV.sc true (Value.bool true)])) (RT.br (decE ix != 0) (RT.ok (AV.tup [AV.agg [zi st,zi id,zi rq,zs zO d,zi ct,zi tm,zi nk],zz,zz,AV.sc true (Value.bool true)])) (RT.br (lrnN d (decO ix)) (RT.br (lrnB d ic (decO ix)) (RT.br (encE (lrnO d ic (decO ix))==0) (RT.br (rfcE st 10 != 0) (RT.ok (AV.tup [AV.agg [zi st,zi id,zi rq,zs zO d,zi ct,zi tm,zi nk],zz,zz,AV.sc true (Value.bool true)])) (RT.br (isRl r) (RT.ok (AV.tup [AV.agg [zi (AuV.st (DoneV.a (doW (rlM r) (rlG r) mc mt mf wt (AuV.mk st id rq (lrnO d ic (decO ix)) ct tm nk) 10 ic ii ix 0 0 (D.l []) tk))),zi (AuV.id (DoneV.a (doW (rlM r) (rlG r) mc mt mf wt (AuV.mk st id rq (lrnO d ic (decO ix)) ct tm nk) 10 ic ii ix 0 0 (D.l []) tk))),zi (AuV.rq (DoneV.a (doW (rlM r) (rlG r) mc mt mf wt (AuV.mk st id rq (lrnO d ic (decO ix)) ct tm nk) 10 ic ii ix 0 0 (D.l []) tk))),zs zO (AuV.d (DoneV.a (doW (rlM r) (rlG r) mc mt mf wt (AuV.mk st id rq (lrnO d ic (decO ix)) ct tm nk) 10 ic ii ix 0 0 (D.l []) tk))),zi (AuV.ct (DoneV.a (doW (rlM r) (rlG r) mc mt mf wt (AuV.mk st id rq (lrnO d ic (decO ix)) ct tm nk) 10 ic ii ix 0 0 (D.l []) tk))),zi (AuV.tm (DoneV.a (doW (rlM r) (rlG r) mc mt mf wt (AuV.mk st id rq (lrnO d ic (decO ix)) ct tm nk) 10 ic ii ix 0 0 (D.l []) tk))),zi (AuV.nk (DoneV.a (doW (rlM r) (rlG r) mc mt mf wt (AuV.mk st id rq (lrnO d ic (decO ix)) ct tm nk) 10 ic ii ix 0 0 (D.l []) tk)))],zs zC (DoneV.out (doW (rlM r) (rlG r) mc mt mf wt (AuV.mk st id rq (lrnO d ic (decO ix)) ct tm nk) 10 ic ii ix 0 0 (D.l []) tk)),zs zN (DoneV.did (doW (rlM r) (rlG r) mc mt mf wt (AuV.mk st id rq (lrnO d ic (decO ix)) ct tm nk) 10 ic ii ix 0 0 (D.l []) tk)),AV.sc true (Value.bool true)])) (RT.bad 274))) (RT.ok (AV.tup [AV.agg [zi st,zi id,zi rq,zs zO d,zi ct,zi tm,zi nk],zz,zz,AV.sc true (Value.bool true)]))) (RT.ok (AV.tup [AV.agg [zi st,zi id,zi rq,zs zO d,zi ct,zi tm,zi nk],zz,zz,AV.sc true (Value.bool true)]))) (RT.bad 293)))) (RT.bad 251)
abbrev pkt_treeT_2 (r:D) (mc mt mf wt st id rq:Int) (d:D) (ct tm nk ic ii:Int) (ix:D) (tk:Int):=RT.br (isRl r) (RT.ok (AV.tup [AV.agg [zi (AuV.st (DoneV.a (doW (rlM r) (rlG r) mc mt mf wt (AuV.mk st id rq d ct tm nk) 14 ic ii ix 0 0 (D.l []) tk))),zi (AuV.id (DoneV.a (doW (rlM r) (rlG r) mc mt mf wt (AuV.mk st id rq d ct tm nk) 14 ic ii ix 0 0 (D.l []) tk))),zi (AuV.rq (DoneV.a (doW (rlM r) (rlG r) mc mt mf wt (AuV.mk st id rq d ct tm nk) 14 ic ii ix 0 0 (D.l []) tk))),zs zO (AuV.d (DoneV.a (doW (rlM r) (rlG r) mc mt mf wt (AuV.mk st id rq d ct tm nk) 14 ic ii ix 0 0 (D.l []) tk))),zi (AuV.ct (DoneV.a (doW (rlM r) (rlG r) mc mt mf wt (AuV.mk st id rq d ct tm nk) 14 ic ii ix 0 0 (D.l []) tk))),zi (AuV.tm (DoneV.a (doW (rlM r) (rlG r) mc mt mf wt (AuV.mk st id rq d ct tm nk) 14 ic ii ix 0 0 (D.l []) tk))),zi (AuV.nk (DoneV.a (doW (rlM r) (rlG r) mc mt mf wt (AuV.mk st id rq d ct tm nk) 14 ic ii ix 0 0 (D.l []) tk)))],zs zC (DoneV.out (doW (rlM r) (rlG r) mc mt mf wt (AuV.mk st id rq d ct tm nk) 14 ic ii ix 0 0 (D.l []) tk)),zs zN (DoneV.did (doW (rlM r) (rlG r) mc mt mf wt (AuV.mk st id rq d ct tm nk) 14 ic ii ix 0 0 (D.l []) tk)),AV.sc true (Value.bool true)])) (RT.bad 274)
abbrev pkt_treeT_3 (st id rq:Int) (d:D) (ct tm nk:Int):=RT.ok (AV.tup [AV.agg [zi st,zi id,zi rq,zs zO d,zi ct,zi tm,zi nk],zz,zz,AV.sc true (Value.bool false)])
abbrev pkt_treeT_4 (st id rq:Int) (d:D) (ct tm nk:Int):=RT.ok (AV.tup [AV.agg [zi st,zi id,zi rq,zs zO d,zi ct,zi tm,zi nk],zz,zz,AV.sc true (Value.bool true)])
def pkt_treeT (r:D) (mc mt mf wt st id rq:Int) (d:D) (ct tm nk ic ii:Int) (ix:D) (tk:Int):RT AV :=
RT.br (decide (1≤ic)) (RT.br (!decide (ic≤7)) (pkt_treeT_3 st id rq d ct tm nk) (RT.br (enc7E ic ii ix != 0) (pkt_treeT_4 st id rq d ct tm nk) (RT.br (isRl r) (RT.br (!mayB (rlM r) (rlG r) mc mt mf wt st id rq d ct tm nk tk) (pkt_treeT_4 st id rq d ct tm nk) (RT.br (ic==1) (RT.br (bytesB ix) (RT.br (decE ix != 0) (pkt_treeT_4 st id rq d ct tm nk) (RT.br (ansN r (decO ix)) (RT.br (encE (ansO r (decO ix) nk mf) != 0) (pkt_treeT_4 st id rq d ct tm nk) (RT.br (ansC r (decO ix) nk mf==2) (RT.br (isRl r) (RT.ok (AV.tup [AV.agg [zi (AuV.st (DoneV.a (doW (rlM r) (rlG r) mc mt mf wt (AuV.mk st id rq d ct tm nk) 7 ic ii ix (ansC r (decO ix) nk mf) ii (encO (ansO r (decO ix) nk mf)) tk))),zi (AuV.id (DoneV.a (doW (rlM r) (rlG r) mc mt mf wt (AuV.mk st id rq d ct tm nk) 7 ic ii ix (ansC r (decO ix) nk mf) ii (encO (ansO r (decO ix) nk mf)) tk))),zi (AuV.rq (DoneV.a (doW (rlM r) (rlG r) mc mt mf wt (AuV.mk st id rq d ct tm nk) 7 ic ii ix (ansC r (decO ix) nk mf) ii (encO (ansO r (decO ix) nk mf)) tk))),zs zO (AuV.d (DoneV.a (doW (rlM r) (rlG r) mc mt mf wt (AuV.mk st id rq d ct tm nk) 7 ic ii ix (ansC r (decO ix) nk mf) ii (encO (ansO r (decO ix) nk mf)) tk))),zi (AuV.ct (DoneV.a (doW (rlM r) (rlG r) mc mt mf wt (AuV.mk st id rq d ct tm nk) 7 ic ii ix (ansC r (decO ix) nk mf) ii (encO (ansO r (decO ix) nk mf)) tk))),zi (AuV.tm (DoneV.a (doW (rlM r) (rlG r) mc mt mf wt (AuV.mk st id rq d ct tm nk) 7 ic ii ix (ansC r (decO ix) nk mf) ii (encO (ansO r (decO ix) nk mf)) tk))),zi (AuV.nk (DoneV.a (doW (rlM r) (rlG r) mc mt mf wt (AuV.mk st id rq d ct tm nk) 7 ic ii ix (ansC r (decO ix) nk mf) ii (encO (ansO r (decO ix) nk mf)) tk)))],zs zC (DoneV.out (doW (rlM r) (rlG r) mc mt mf wt (AuV.mk st id rq d ct tm nk) 7 ic ii ix (ansC r (decO ix) nk mf) ii (encO (ansO r (decO ix) nk mf)) tk)),zs zN (DoneV.did (doW (rlM r) (rlG r) mc mt mf wt (AuV.mk st id rq d ct tm nk) 7 ic ii ix (ansC r (decO ix) nk mf) ii (encO (ansO r (decO ix) nk mf)) tk)),AV.sc true (Value.bool true)])) (RT.bad 274)) (RT.br (isRl r) (RT.ok (AV.tup [AV.agg [zi (AuV.st (DoneV.a (doW (rlM r) (rlG r) mc mt mf wt (AuV.mk st id rq d ct tm nk) 8 ic ii ix (ansC r (decO ix) nk mf) ii (encO (ansO r (decO ix) nk mf)) tk))),zi (AuV.id (DoneV.a (doW (rlM r) (rlG r) mc mt mf wt (AuV.mk st id rq d ct tm nk) 8 ic ii ix (ansC r (decO ix) nk mf) ii (encO (ansO r (decO ix) nk mf)) tk))),zi (AuV.rq (DoneV.a (doW (rlM r) (rlG r) mc mt mf wt (AuV.mk st id rq d ct tm nk) 8 ic ii ix (ansC r (decO ix) nk mf) ii (encO (ansO r (decO ix) nk mf)) tk))),zs zO (AuV.d (DoneV.a (doW (rlM r) (rlG r) mc mt mf wt (AuV.mk st id rq d ct tm nk) 8 ic ii ix (ansC r (decO ix) nk mf) ii (encO (ansO r (decO ix) nk mf)) tk))),zi (AuV.ct (DoneV.a (doW (rlM r) (rlG r) mc mt mf wt (AuV.mk st id rq d ct tm nk) 8 ic ii ix (ansC r (decO ix) nk mf) ii (encO (ansO r (decO ix) nk mf)) tk))),zi (AuV.tm (DoneV.a (doW (rlM r) (rlG r) mc mt mf wt (AuV.mk st id rq d ct tm nk) 8 ic ii ix (ansC r (decO ix) nk mf) ii (encO (ansO r (decO ix) nk mf)) tk))),zi (AuV.nk (DoneV.a (doW (rlM r) (rlG r) mc mt mf wt (AuV.mk st id rq d ct tm nk) 8 ic ii ix (ansC r (decO ix) nk mf) ii (encO (ansO r (decO ix) nk mf)) tk)))],zs zC (DoneV.out (doW (rlM r) (rlG r) mc mt mf wt (AuV.mk st id rq d ct tm nk) 8 ic ii ix (ansC r (decO ix) nk mf) ii (encO (ansO r (decO ix) nk mf)) tk)),zs zN (DoneV.did (doW (rlM r) (rlG r) mc mt mf wt (AuV.mk st id rq d ct tm nk) 8 ic ii ix (ansC r (decO ix) nk mf) ii (encO (ansO r (decO ix) nk mf)) tk)),AV.sc true (Value.bool true)])) (RT.bad 274)))) (RT.bad 285))) (RT.bad 251)) (RT.br (ic==2) (RT.br (ii==rq) (RT.br (ByteArray.toList (D.str ix)==ByteArray.toList (D.str (encO d))) (RT.br (isRl r) (RT.ok (AV.tup [AV.agg [zi (AuV.st (DoneV.a (doW (rlM r) (rlG r) mc mt mf wt (AuV.mk st id rq d ct tm nk) 9 ic ii ix 0 0 (D.l []) tk))),zi (AuV.id (DoneV.a (doW (rlM r) (rlG r) mc mt mf wt (AuV.mk st id rq d ct tm nk) 9 ic ii ix 0 0 (D.l []) tk))),zi (AuV.rq (DoneV.a (doW (rlM r) (rlG r) mc mt mf wt (AuV.mk st id rq d ct tm nk) 9 ic ii ix 0 0 (D.l []) tk))),zs zO (AuV.d (DoneV.a (doW (rlM r) (rlG r) mc mt mf wt (AuV.mk st id rq d ct tm nk) 9 ic ii ix 0 0 (D.l []) tk))),zi (AuV.ct (DoneV.a (doW (rlM r) (rlG r) mc mt mf wt (AuV.mk st id rq d ct tm nk) 9 ic ii ix 0 0 (D.l []) tk))),zi (AuV.tm (DoneV.a (doW (rlM r) (rlG r) mc mt mf wt (AuV.mk st id rq d ct tm nk) 9 ic ii ix 0 0 (D.l []) tk))),zi (AuV.nk (DoneV.a (doW (rlM r) (rlG r) mc mt mf wt (AuV.mk st id rq d ct tm nk) 9 ic ii ix 0 0 (D.l []) tk)))],zs zC (DoneV.out (doW (rlM r) (rlG r) mc mt mf wt (AuV.mk st id rq d ct tm nk) 9 ic ii ix 0 0 (D.l []) tk)),zs zN (DoneV.did (doW (rlM r) (rlG r) mc mt mf wt (AuV.mk st id rq d ct tm nk) 9 ic ii ix 0 0 (D.l []) tk)),AV.sc true (Value.bool true)])) (RT.bad 274)) (pkt_treeT_4 st id rq d ct tm nk)) (pkt_treeT_4 st id rq d ct tm nk)) (RT.br (ic==3) (pkt_treeT_1 r mc mt mf wt st id rq d ct tm nk ic ii ix tk) (RT.br (ic==4) (pkt_treeT_1 r mc mt mf wt st id rq d ct tm nk ic ii ix tk) (RT.br (ic==5) (RT.br (isRl r) (RT.ok (AV.tup [AV.agg [zi (AuV.st (DoneV.a (doW (rlM r) (rlG r) mc mt mf wt (AuV.mk st id rq d ct tm nk) 11 ic ii ix 0 0 (D.l []) tk))),zi (AuV.id (DoneV.a (doW (rlM r) (rlG r) mc mt mf wt (AuV.mk st id rq d ct tm nk) 11 ic ii ix 0 0 (D.l []) tk))),zi (AuV.rq (DoneV.a (doW (rlM r) (rlG r) mc mt mf wt (AuV.mk st id rq d ct tm nk) 11 ic ii ix 0 0 (D.l []) tk))),zs zO (AuV.d (DoneV.a (doW (rlM r) (rlG r) mc mt mf wt (AuV.mk st id rq d ct tm nk) 11 ic ii ix 0 0 (D.l []) tk))),zi (AuV.ct (DoneV.a (doW (rlM r) (rlG r) mc mt mf wt (AuV.mk st id rq d ct tm nk) 11 ic ii ix 0 0 (D.l []) tk))),zi (AuV.tm (DoneV.a (doW (rlM r) (rlG r) mc mt mf wt (AuV.mk st id rq d ct tm nk) 11 ic ii ix 0 0 (D.l []) tk))),zi (AuV.nk (DoneV.a (doW (rlM r) (rlG r) mc mt mf wt (AuV.mk st id rq d ct tm nk) 11 ic ii ix 0 0 (D.l []) tk)))],zs zC (DoneV.out (doW (rlM r) (rlG r) mc mt mf wt (AuV.mk st id rq d ct tm nk) 11 ic ii ix 0 0 (D.l []) tk)),zs zN (DoneV.did (doW (rlM r) (rlG r) mc mt mf wt (AuV.mk st id rq d ct tm nk) 11 ic ii ix 0 0 (D.l []) tk)),AV.sc true (Value.bool true)])) (RT.bad 274)) (RT.br (ic==6) (RT.br (isRl r) (RT.ok (AV.tup [AV.agg [zi (AuV.st (DoneV.a (doW (rlM r) (rlG r) mc mt mf wt (AuV.mk st id rq d ct tm nk) 12 ic ii ix 0 0 (D.l []) tk))),zi (AuV.id (DoneV.a (doW (rlM r) (rlG r) mc mt mf wt (AuV.mk st id rq d ct tm nk) 12 ic ii ix 0 0 (D.l []) tk))),zi (AuV.rq (DoneV.a (doW (rlM r) (rlG r) mc mt mf wt (AuV.mk st id rq d ct tm nk) 12 ic ii ix 0 0 (D.l []) tk))),zs zO (AuV.d (DoneV.a (doW (rlM r) (rlG r) mc mt mf wt (AuV.mk st id rq d ct tm nk) 12 ic ii ix 0 0 (D.l []) tk))),zi (AuV.ct (DoneV.a (doW (rlM r) (rlG r) mc mt mf wt (AuV.mk st id rq d ct tm nk) 12 ic ii ix 0 0 (D.l []) tk))),zi (AuV.tm (DoneV.a (doW (rlM r) (rlG r) mc mt mf wt (AuV.mk st id rq d ct tm nk) 12 ic ii ix 0 0 (D.l []) tk))),zi (AuV.nk (DoneV.a (doW (rlM r) (rlG r) mc mt mf wt (AuV.mk st id rq d ct tm nk) 12 ic ii ix 0 0 (D.l []) tk)))],zs zC (DoneV.out (doW (rlM r) (rlG r) mc mt mf wt (AuV.mk st id rq d ct tm nk) 12 ic ii ix 0 0 (D.l []) tk)),zs zN (DoneV.did (doW (rlM r) (rlG r) mc mt mf wt (AuV.mk st id rq d ct tm nk) 12 ic ii ix 0 0 (D.l []) tk)),AV.sc true (Value.bool true)])) (RT.bad 274)) (RT.br (ic==7) (RT.br ((↑(D.len ix):Int)==0) (pkt_treeT_4 st id rq d ct tm nk) (RT.br (decide ((0:Int)≤0∧0<(↑(D.len ix):Int))) (RT.br (decide (1≤IntKind.wrap IntKind.i64 (D.toI (D.cell (D.get ix 0) 0)))) (RT.br (decide (IntKind.wrap IntKind.i64 (D.toI (D.cell (D.get ix 0) 0))≤7)) (RT.br (isRl r) (RT.ok (AV.tup [AV.agg [zi (AuV.st (DoneV.a (doW (rlM r) (rlG r) mc mt mf wt (AuV.mk st id rq d ct tm nk) 15 ic ii ix 0 0 (D.l []) tk))),zi (AuV.id (DoneV.a (doW (rlM r) (rlG r) mc mt mf wt (AuV.mk st id rq d ct tm nk) 15 ic ii ix 0 0 (D.l []) tk))),zi (AuV.rq (DoneV.a (doW (rlM r) (rlG r) mc mt mf wt (AuV.mk st id rq d ct tm nk) 15 ic ii ix 0 0 (D.l []) tk))),zs zO (AuV.d (DoneV.a (doW (rlM r) (rlG r) mc mt mf wt (AuV.mk st id rq d ct tm nk) 15 ic ii ix 0 0 (D.l []) tk))),zi (AuV.ct (DoneV.a (doW (rlM r) (rlG r) mc mt mf wt (AuV.mk st id rq d ct tm nk) 15 ic ii ix 0 0 (D.l []) tk))),zi (AuV.tm (DoneV.a (doW (rlM r) (rlG r) mc mt mf wt (AuV.mk st id rq d ct tm nk) 15 ic ii ix 0 0 (D.l []) tk))),zi (AuV.nk (DoneV.a (doW (rlM r) (rlG r) mc mt mf wt (AuV.mk st id rq d ct tm nk) 15 ic ii ix 0 0 (D.l []) tk)))],zs zC (DoneV.out (doW (rlM r) (rlG r) mc mt mf wt (AuV.mk st id rq d ct tm nk) 15 ic ii ix 0 0 (D.l []) tk)),zs zN (DoneV.did (doW (rlM r) (rlG r) mc mt mf wt (AuV.mk st id rq d ct tm nk) 15 ic ii ix 0 0 (D.l []) tk)),AV.sc true (Value.bool true)])) (RT.bad 274)) (pkt_treeT_2 r mc mt mf wt st id rq d ct tm nk ic ii ix tk)) (pkt_treeT_2 r mc mt mf wt st id rq d ct tm nk ic ii ix tk)) (RT.bad 42))) (pkt_treeT_4 st id rq d ct tm nk))))))))) (RT.bad 272)))) (pkt_treeT_3 st id rq d ct tm nk)
theorem pkt_tree (r:D) (mc mt mf wt st id rq:Int) (d:D) (ct tm nk ic ii:Int) (ix:D) (tk:Int):treeF (evF Tryz.prog (gam (pktG Tryz.prog)) (lam ([])) 100 134) [.agg [asl rlS r,ai mc,ai mt,ai mf,ai wt],autA st id rq d ct tm nk,ctlA ic ii ix,ai tk]=pkt_treeT r mc mt mf wt st id rq d ct tm nk ic ii ix tk:=by rw [← fvF_eq Tryz.prog (gam (pktG Tryz.prog)) (lam ([])) false 100 134]; kernel_rfl
theorem pktG_ok:GamL Tryz.prog (pktG Tryz.prog):=⟨enc7_soundF,may_soundF,as_soundF,dec_soundF,ans_soundF,encode_soundF,lrn_soundF,step_soundF,do_soundF,trivial⟩
theorem opts_snoc {ol:D} {x:D} (hl:ol.len<maxLen) (h:optsB ol=true) (hx:bytesB (x.cell 1)=true):optsB (ol.app (.l [x]))=true:=by
  have e:(D.l [x]).toL=[x]:=toL_l (by unfold maxLen; simp)
  have ht:(ol.app (.l [x])).toL=ol.toL ++ [x]:=by
    unfold D.app
    rw [e]
    exact toL_l (by rw [List.length_append,List.length_cons,List.length_nil]; unfold D.len at hl; omega)
  have hn:(ol.app (.l [x])).len=ol.len+1:=app_len1 hl
  have h:=odt h
  refine det fun i hi=>?_
  rw [hn] at hi
  by_cases hlt:i<ol.len
  · have eg:(ol.app (.l [x])).get i=ol.get i:=by
      unfold D.get
      rw [ht,List.getD_eq_getElem?_getD,List.getD_eq_getElem?_getD,List.getElem?_append_left hlt]
    have:=h i hlt
    unfold optB at this ⊢
    rw [eg]; exact this
  · have eg:(ol.app (.l [x])).get i=x:=by
      unfold D.get
      rw [ht,List.getD_eq_getElem?_getD,List.getElem?_append_right (by unfold D.len at hlt; omega)]
      have:i - ol.toL.length=0:=by unfold D.len at hi; omega
      rw [this]; rfl
    unfold optB
    rw [eg]
    intro j hj
    exact bytes_at hx hj
theorem decF_ok:∀ (m:Nat) (d ol:D),bytesB d=true→ol.len≤64→optsB ol=true→(decF m d ol).2.len≤64∧optsB (decF m d ol).2=true
  | 0,_,_,_,h1,h2=>⟨h1,h2⟩
  | m+1,d,ol,hb,h1,h2=>by
    unfold decF
    by_cases h0:d.len=0
    · rw [if_pos h0]; exact ⟨h1,h2⟩
    rw [if_neg h0]
    cases hg:badO d
    · rw [if_neg (by simp)]
      by_cases h3:ol.len=64
      · rw [if_pos h3]; exact ⟨h1,h2⟩
      · rw [if_neg h3]
        obtain ⟨g1,g2,g3,g4⟩:=good_of hb hg h0
        refine decF_ok m _ _ (bytes_sub hb (by show (byN d 1).toNat≤((d.len:Int)).toNat; omega) (by show ((d.len:Int)).toNat≤_; omega)) ?_ (opts_snoc (by unfold maxLen; omega) h2 (bytes_sub hb (by omega) (by omega)))
        rw [app_len1 (by unfold maxLen; omega)]; omega
    · rw [if_pos rfl]; exact ⟨h1,h2⟩
theorem decO_fit {d:D} (hb:bytesB d=true):(decO d).len≤64∧optsB (decO d)=true:=by
  have h0:optsB (.l [])=true:=det fun i hi=>absurd hi (Nat.not_lt_zero i)
  unfold decO
  split
  · exact decF_ok _ _ _ hb (Nat.zero_le _) h0
  · exact ⟨Nat.zero_le _,h0⟩
theorem ansN_dec {r ix:D} (hr:isRl r=true) (hb:bytesB ix=true):ansN r (decO ix)=true:=by
  obtain ⟨h1,h2⟩:=decO_fit hb
  unfold ansN
  rw [hr,h2,Bool.and_true]
  exact det (by omega)
theorem lrnN_dec {d ix:D} (hd:d.len*32≤140737488355328) (ho:optsB d=true) (hb:bytesB ix=true):lrnN d (decO ix)=true:=by
  unfold lrnN
  rw [ho,(decO_fit hb).2,det hd]; rfl
theorem FPkt_inv {args:List AV} {K:AV→Prop} (H:(FPkt args).holds K):∃ r mc mt mf wt st id rq d ct tm nk ic ii ix tk,args=[.agg [asl rlS r,ai mc,ai mt,ai mf,ai wt],autA st id rq d ct tm nk,ctlA ic ii ix,ai tk]∧pkN r d ix=true∧K (pkA (pkW r mc mt mf wt ⟨st,id,rq,d,ct,tm,nk⟩ ic ii ix tk) (decide (1≤ic)&&decide (ic≤7))):=by
  unfold FPkt at H
  split at H
  · rename_i r mc mt mf wt st id rq d ct tm nk ic ii ix tk
    obtain ⟨hc,H⟩:=need_holds H
    exact ⟨r,mc,mt,mf,wt,st,id,rq,d,ct,tm,nk,ic,ii,ix,tk,rfl,hc,H⟩
  · exact H.elim
theorem le_stay {st id rq:Int} {d:D} {ct tm nk:Int} {b:Bool} {kn:Bool}:Le (.tup [.agg [.sc false (.int .i64 st),.sc false (.int .i64 id),.sc false (.int .i64 rq),.sl false opS d none,.sc false (.int .i64 ct),.sc false (.int .i64 tm),.sc false (.int .i64 nk)],.sc true (.slice none 0 0),.sc true (.slice none 0 0),.sc kn (.bool b)]) (pkA (stayV ⟨st,id,rq,d,ct,tm,nk⟩) b) :=
  fun E v ⟨vs,h1,h2⟩=>⟨vs,h1,leL_cons (Le.refl _) (leL_cons (le_nil rfl) (leL_cons (le_nil rfl) (leL_cons (le_bool rfl) leL_nil))) E _ h2⟩
theorem le_went {w:DoneV} {kn:Bool} {b:Bool}:Le (.tup [.agg [.sc false (.int .i64 w.a.st),.sc false (.int .i64 w.a.id),.sc false (.int .i64 w.a.rq),.sl false opS w.a.d none,.sc false (.int .i64 w.a.ct),.sc false (.int .i64 w.a.tm),.sc false (.int .i64 w.a.nk)],.sl false ctS w.out none,.sl false acS w.did none,.sc kn (.bool b)]) (pkA w b) :=
  fun E v ⟨vs,h1,h2⟩=>⟨vs,h1,leL_cons (Le.refl _) (leL_cons (Le.refl _) (leL_cons (Le.refl _) (leL_cons (le_bool rfl) leL_nil))) E _ h2⟩
theorem b0_wrap {ix:D} (h:bytesB ix=true):IntKind.wrap .i64 (D.toI (D.cell (D.get ix 0) 0))=D.toI (D.cell (D.get ix 0) 0):=by
  by_cases h0:ix.len=0
  · have:ix.get 0=.n:=by
      unfold D.get
      unfold D.len at h0
      rw [List.eq_nil_of_length_eq_zero h0]; rfl
    rw [this]; rfl
  · have hb:=bytes_at h (show 0<ix.len by omega)
    unfold byN at hb
    exact i64_id ⟨hb.1,by omega⟩
theorem pkt_soundF:SoundF Tryz.prog 134 (pureS Tryz.prog 134 FPkt):=by
  refine pure_in (gs:=pktG Tryz.prog) (ls:=[]) mixed pktG_ok trivial 134 100 fun args K ho H=>?_
  obtain ⟨r,mc,mt,mf,wt,st,id,rq,d,ct,tm,nk,ic,ii,ix,tk,hr,hc,H⟩:=FPkt_inv H
  rw [hr] at ho
  rw [hr,pkt_tree]
  have hsz:d.len*32≤140737488355328:=ho.2.1.2.2.2.1.1
  unfold pkN at hc
  simp only [Bool.and_eq_true] at hc
  obtain ⟨hrl,hix,hod⟩:=hc
  have hA:=ansN_dec hrl hix
  have hL:=lrnN_dec hsz hod hix
  have P:∀ w b,pkW r mc mt mf wt ⟨st,id,rq,d,ct,tm,nk⟩ ic ii ix tk=w→(decide (1≤ic)&&decide (ic≤7))=b→K (pkA w b):=by rintro w b rfl rfl; exact H
  unfold pkW at P
  dsimp only at P
  clear H ho hr hsz
  unfold pkt_treeT pkt_treeT_1 pkt_treeT_2 pkt_treeT_3 pkt_treeT_4
  rw [hrl,hix,hA,hL,b0_wrap hix]
  simp only [RT.holds]
  repeat' refine And.intro (fun _=>?_) (fun _=>?_)
  all_goals first
    | contradiction
    | (refine ⟨_,le_stay,P _ _ ?_ ?_⟩ <;> (clear P; (try simp only [bne,Bool.not_eq_true',Bool.not_eq_false'] at *); simp only [bne,b0I,Bool.cond_self, *,cond_true,cond_false,Bool.not_true,Bool.not_false,Bool.and_true,Bool.true_and,Bool.and_false,Bool.false_and,Bool.or_true,Bool.true_or,Bool.or_false,Bool.false_or]); done)
    | (refine ⟨_,le_went,P _ _ ?_ ?_⟩ <;> (clear P; (try simp only [bne,Bool.not_eq_true',Bool.not_eq_false'] at *); simp only [bne,b0I,Bool.cond_self, *,cond_true,cond_false,Bool.not_true,Bool.not_false,Bool.and_true,Bool.true_and,Bool.and_false,Bool.false_and,Bool.or_true,Bool.true_or,Bool.or_false,Bool.false_or]); done)
    | (exfalso; clear P; simp only [bne,Bool.not_eq_true',Bool.not_eq_false',decide_eq_true_eq,decide_eq_false_iff_not,beq_iff_eq,beq_eq_false_iff_ne] at *; omega)
end
end Go.Proofs.YtbgmclbcjdbcmaaGreat
namespace Go.Proofs.YtbgmclbcjdbcmaaGreat
set_option linter.unusedSimpArgs false
set_option linter.unusedVariables false
open Go.RowKit
set_option maxRecDepth 10000
noncomputable section
def tipsA (nv:Nat):List AV→List Nat→List Nat
  | [],acc=>acc
  | .sl _ _ _ (some (k,_)) :: r,acc=>bif acc.contains k||!(Nat.blt k nv) then tipsA nv r acc else tipsA nv r (acc ++ [k])
  | _ :: r,acc=>tipsA nv r acc
theorem tipsA_ok (nv:Nat):∀ (l:List AV) (acc:List Nat),(acc.Nodup∧∀ k ∈ acc,k<nv)→(tipsA nv l acc).Nodup∧∀ k ∈ tipsA nv l acc,k<nv
  | [],_,h=>h
  | .sl kn es d tip :: r,acc,h=>by
    cases tip with
    | none=>exact tipsA_ok nv r acc h
    | some kg =>
      obtain ⟨k,g⟩:=kg
      show (bif acc.contains k||!(Nat.blt k nv) then tipsA nv r acc else tipsA nv r (acc ++ [k])).Nodup∧∀ q ∈ (bif acc.contains k||!(Nat.blt k nv) then tipsA nv r acc else tipsA nv r (acc ++ [k])),q<nv
      cases hc:acc.contains k||!(Nat.blt k nv)
      · rw [Bool.or_eq_false_iff] at hc
        have hlt:k<nv:=by
          have:=hc.2
          rw [Bool.not_eq_false'] at this
          exact Nat.le_of_ble_eq_true this
        refine tipsA_ok nv r (acc ++ [k]) ⟨?_,fun q hq=>?_⟩
        · rw [List.nodup_append]
          refine ⟨h.1,by simp,fun a ha b hb=>?_⟩
          obtain rfl:=List.mem_singleton.1 hb
          rintro rfl
          rw [List.contains_iff_mem.2 ha] at hc; cases hc.1
        · rcases List.mem_append.1 hq with hq | hq
          · exact h.2 q hq
          · rw [List.mem_singleton.1 hq]; exact hlt
      · exact tipsA_ok nv r acc h
  | .any :: r,acc,h=>tipsA_ok nv r acc h
  | .sc _ _ :: r,acc,h=>tipsA_ok nv r acc h
  | .ptr _ _ :: r,acc,h=>tipsA_ok nv r acc h
  | .mp _ :: r,acc,h=>tipsA_ok nv r acc h
  | .ep _ _ _ _ :: r,acc,h=>tipsA_ok nv r acc h
  | .fn _ _ _ :: r,acc,h=>tipsA_ok nv r acc h
  | .agg _ :: r,acc,h=>tipsA_ok nv r acc h
  | .tup _ :: r,acc,h=>tipsA_ok nv r acc h
  | .rsl _ _ _ _ :: r,acc,h=>tipsA_ok nv r acc h
  | .rp _ _ _ _ _ :: r,acc,h=>tipsA_ok nv r acc h
  | .rw _ _ :: r,acc,h=>tipsA_ok nv r acc h
def tipsO (h:Hp) (os:List Nat):List Nat:=tipsA h.nv ((os.map fun o=>match lookO o h.ob with | some cs=>cs | none=>[]).flatten) []
theorem ver_dul (o:Nat) (h:Hp):ver o h.dul=ver o h:=by unfold ver Hp.dul; simp only; rw [cnt_dul]
def objT (sp:Spec):Spec:=fun args h=>bif (ptrsL args []).all (fun o=>(lookO o h.ob).isSome) then
  (sp (dullL (renL (ptrsL args []) (tipsO h (ptrsL args [])) 0 h.gn args)) ((h.ren (ptrsL args []) (tipsO h (ptrsL args [])) 0 0).dul)).bind fun x=>bif Nat.ble (tipsO h (ptrsL args [])).length x.2.nv then .ok (bak (ptrsL args []) (tipsO h (ptrsL args [])) h.nv h.ng (tipsO h (ptrsL args [])).length x.2.gn x.1,h.bak (ptrsL args []) (tipsO h (ptrsL args [])) (tipsO h (ptrsL args [])).length x.2) else .bad 295 else .bad 290
theorem objT_ok {P:Program} {f:FuncId} {sp:Spec} (hs:SoundF P f sp):SoundF P f (objT sp):=by
  intro args h K H w0 G E w vals I hr
  unfold objT at H
  cases hc:(ptrsL args []).all (fun o=>(lookO o h.ob).isSome)
  · rw [hc] at H; exact H.elim
  rw [hc] at H
  simp only [cond_true] at H
  rw [RT.holds_bind] at H
  have hnd:(ptrsL args []).Nodup:=ptrsL_nodup _ _ .nil
  generalize ptrsL args []=os at hc H hnd
  have hks:(tipsO h os).Nodup∧∀ k ∈ tipsO h os,k<h.nv:=tipsA_ok _ _ _ ⟨.nil,fun k hk=>by cases hk⟩
  generalize tipsO h os=ks at H hks
  have hol:∀ o ∈ os,E.live o:=fun o ho=>(I.live o).2 (List.all_eq_true.1 hc o ho)
  have I2:=((I.ren (os:=os) (ks:=ks) (g0:=0) hnd hks.1 hks.2 0).dul).top
  have hr2:=dull_relL _ _ (ren_relL (os:=os) (ks:=ks) (g0:=0) I _ _ hr)
  refine (hs _ _ _ H w _ _ w vals I2 hr2).mono ?_
  rintro e w' ⟨r,h',v,E',hK,rfl,S0,hv⟩
  have S:Stepd P w (E.ren os ks 0).mine (E.ren os ks 0) (h.ren os ks 0 0) w E' h' w':=⟨S0.ext,S0.inv,fun o ho=>by have:=S0.un o ho; rwa [ver_dul] at this,S0.zn⟩
  dsimp only at hK
  cases hm:Nat.ble ks.length h'.nv
  · rw [hm] at hK; exact hK.elim
  rw [hm] at hK
  have hm:=Nat.le_of_ble_eq_true hm
  have hkm:∀ k ∈ ks,k<E.m:=fun k hk=>by rw [I.m]; exact hks.2 k hk
  have hmk:ks.length≤E'.m:=by rw [S.inv.m]; exact hm
  have S3:=Inv.bak (mk:=ks.length) I hnd hol hks.1 hkm (Nat.le_refl _) hmk S
  have hv3:=bak_rel (h':=h') S.inv S.ext (mk:=ks.length) hks.1 hkm hmk (Nat.le_refl _) hol h.ng r v hv
  rw [I.m] at hv3
  exact ⟨_,_,v,_,hK,rfl,S3,hv3⟩
def fitQ (p q:Nat) (h:Hp):Bool:=Nat.ble h.nx p&&Nat.ble h.nv q&&Nat.ble h.ng 1000&&Nat.blt (h.ep+h.ob.length) 1000
def treeQ (p q:Nat) (sp:Spec) (args:List AV) (h:Hp):RT (AV×Hp):=(sp args h).bind fun x=>bif Nat.ble q x.2.nv then .ok (ren (List.range p) (List.range q) 1000 x.2.gn x.1,x.2.can p q 1000 1000) else .bad 296
theorem obj_in2 {P:Program} {gs:List (FuncId×Spec)} {ls:List (FuncId×Nat×BSpec)} (hm:Fit P) (hΓ:GamL P gs) (hΛ:LamL P ls) (f n p q:Nat) {F:Spec} (hF:∀ args h K,(F args h).holds K→fitQ p q h=true∧(treeQ p q (evF P (gam gs) (lam ls) n f) args h).holds fun x=>∃ y,Le x.1 y∧K (y,x.2)):SoundF P f F:=by
  intro args h K H w0 G E w vals I hr
  obtain ⟨hb,h1⟩:=hF args h K H
  unfold treeQ at h1
  rw [RT.holds_bind] at h1
  unfold fitQ at hb
  simp only [Bool.and_eq_true] at hb
  obtain ⟨⟨⟨b1,b2⟩,b3⟩,b4⟩:=hb
  have b1:=Nat.le_of_ble_eq_true b1
  have b2:=Nat.le_of_ble_eq_true b2
  have b3:=Nat.le_of_ble_eq_true b3
  have b4:=Nat.lt_of_lt_of_le (Nat.lt_succ_self _) (Nat.le_of_ble_eq_true b4)
  refine (evF_ok hm (gam_ok hΓ) (lam_ok hΛ) n f _ _ _ h1 w0 G E w vals I hr).mono ?_
  rintro e w' ⟨r,h',v,E',hK,rfl,S,hv⟩
  dsimp only at hK
  cases hq:Nat.ble q h'.nv
  · rw [hq] at hK; exact hK.elim
  rw [hq] at hK
  obtain ⟨y,hy,hK⟩:=hK
  have hq:=Nat.le_of_ble_eq_true hq
  have Sc:=can_step S I (p:=p) (q:=q) (N:=1000) (ep:=1000) b1 b2 hq b3 (fun o _=>by unfold ver; have:=cnt_le o h.ob; omega)
  exact ⟨y,_,v,_,hK,rfl,Sc,hy _ _ (ren_rel (os:=List.range p) (ks:=List.range q) (g0:=1000) S.inv _ _ hv)⟩
end
end Go.Proofs.YtbgmclbcjdbcmaaGreat
