/- Mr, 5: texts of this claim, one behind the other: Km4 Km5 EvV Km6 Km7 Km8 Km9 Kn1 Kn2 Kn3 EvW Kn4 Kn5 Kn6. No condition. -/
import Derived.Test.YtcambhbmobepjaaGreatMr4
namespace Go.Proofs.YtcambhbmobepjaaGreat
set_option linter.unusedSimpArgs false
set_option linter.unusedVariables false
open Go.RowKit
set_option maxRecDepth 100000
noncomputable section
theorem FSort_inv {args:List AV} {K:AV→Prop} (H:(FSort args).holds K):∃ r d,args=[asl rlS r,asl opS d]∧sorN r d=true∧K (sorA r d):=by
  unfold FSort at H
  split at H
  · rename_i r d
    obtain ⟨hc,H⟩:=need_holds H
    exact ⟨r,d,rfl,hc,H⟩
  · exact H.elim
theorem sor_soundF:SoundF Tryz.prog 211 (pureS Tryz.prog 211 FSort):=by
  refine pure_in (gs:=sorG Tryz.prog) (ls:=sorLs Tryz.prog) mixed sorG_ok sorLs_ok 211 100 fun args K ho H=>?_
  obtain ⟨r,d,hr,hc,H⟩:=FSort_inv H
  rw [hr,sor_tree]
  unfold sorN at hc
  rw [Bool.and_eq_true] at hc
  obtain ⟨hc,hb⟩:=hc
  obtain ⟨h0,h1⟩:=odt hc
  unfold room at h0 h1
  refine ⟨fun _=>⟨fun _=>⟨_,Le.refl _,H⟩,fun h=>?_⟩,fun h=>?_⟩
  · rw [Bool.and_true] at h; exact absurd ⟨rfl,h1⟩ (odf h)
  · rw [hb,Bool.and_true,Bool.and_true] at h; exact absurd ⟨rfl,rfl,h0⟩ (odf h)
theorem FOwns_inv {args:List AV} {K:AV→Prop} (H:(FOwns args).holds K):∃ d,args=[asl opS d]∧d.len*32≤140737488355328∧K (asl opS d):=by
  unfold FOwns at H
  split at H
  · rename_i d
    obtain ⟨hc,H⟩:=need_holds H
    exact ⟨d,rfl,odt hc,H⟩
  · exact H.elim
theorem ows_soundF:SoundF Tryz.prog 185 (pureS Tryz.prog 185 FOwns):=by
  refine pure_in (gs:=golG Tryz.prog) (ls:=owsLs Tryz.prog) mixed golG_ok owsLs_ok 185 100 fun args K ho H=>?_
  obtain ⟨d,hr,hc,H⟩:=FOwns_inv H
  rw [hr,ows_tree]
  refine ⟨fun _=>⟨_,le_cop d,H⟩,fun h=>?_⟩
  rw [Bool.and_true] at h
  exact absurd ⟨rfl,hc⟩ (odf h)
def ranG (P:Program):List (FuncId×Spec):=[(217,pureS P 217 FRul),(218,pureS P 218 FHasT),(219,pureS P 219 FNum),(145,pureS P 145 FTak),(220,pureS P 220 FGood)]
structure ra0X where
  (r d:D)
  (nk mo:Int)
def ra0L:Lw:=⟨[0,1,2,3,10,11,12,13],[(false,10,0, 92),(false,11,0, 92),(false,12,0, 92)],0,3,1000,1000⟩
def ra0F (a:ra0X) (i:Nat) (g0:D) (g1:D) (g2:D):Tm:=⟨124,[(0,.sl false rlS a.r none),(1,.sl false opS a.d none),(2,zi a.nk),(3,zi a.mo),(10,.sl false opS g0 (some (0,1000))),(11,.sl false opS g1 (some (1,1001))),(12,.sl false opS g2 (some (2,1002))),(13,zi (i:Int))],[]⟩
def ra0H (a:ra0X) (i:Nat) (g0:D) (g1:D) (g2:D):Hp:=⟨[],0,[(0,1000, 92),(1,1001, 92),(2,1002, 92)],3,1003,1000⟩
def ra0C:Cs:=⟨124,[(0,.sl rlS),(1,.sl opS),(2,.int .i64),(3,.int .i64),(10,.nw opS 0 1000),(11,.nw opS 1 1001),(12,.nw opS 2 1002),(13,.lit (.sc false (.int .i64 0)))],[],0,[(0,1000, 92),(1,1001, 92),(2,1002, 92)],3,1003,1000⟩
noncomputable def ra0Dec (F:Tm) (h:Hp):Option (ra0X×Nat):=match cdS ra0C F h with
  | some [v0,v1,v2,v3]=>some (⟨v0,v1,v2.toI,v3.toI⟩,0)
  | _=>none
theorem ra0_body (r:D) (d:D) (nk:Int) (mo:Int) (i:Int) (g0:D) (g1:D) (g2:D):roundT (⟨[0,1,2,3,10,11,12,13],[(false,10,0, 92),(false,11,0, 92),(false,12,0, 92)],0,3,1000,1000⟩) (evC Tryz.prog (gam (ranG Tryz.prog)) (lam ([])) 100 193 (loopAt 0 (bodyOf Tryz.prog 193)) (⟨124,[(0,.sl false rlS r none),(1,.sl false opS d none),(2,zi nk),(3,zi mo),(10,.sl false opS g0 (some (0,1000))),(11,.sl false opS g1 (some (1,1001))),(12,.sl false opS g2 (some (2,1002))),(13,zi i)],[]⟩) (⟨[],0,[(0,1000, 92),(1,1001, 92),(2,1002, 92)],3,1003,1000⟩)) =
RT.br (decide (i<(↑(D.len d):Int))) (RT.br (decide (0≤i∧i<(↑(D.len d):Int))) (RT.br (decide (ruleI r (D.toI (D.cell (D.get d (Int.toNat i)) 0)) (↑(D.len (D.cell (D.get d (Int.toNat i)) 1)):Int)<0)) (RT.br (decide (0≤i∧i<(↑(D.len d):Int))) (RT.br (decide ((D.len g0+1)*32≤140737488355328)) (RT.ok (Ex.normal,(Tm.mk 124 [(0,zs zR r),(1,zs zO d),(2,zi nk),(3,zi mo),(10,AV.sl false zO (D.app g0 (D.l [D.t [D.i (D.toI (D.cell (D.get d (Int.toNat i)) 0)),D.cell (D.get d (Int.toNat i)) 1]])) (some (0,1000))),(11,AV.sl false zO g1 (some (1,1001))),(12,AV.sl false zO g2 (some (2,1002))),(13,zi (IntKind.wrap IntKind.i64 (i+1)))] []),(Hp.mk [] 0 [(0,1000,92),(1,1001,92),(2,1002,92)] 3 1003 1000))) (RT.bad 70)) (RT.bad 42)) (RT.br (decide ((0:Int)≤0∧0≤i∧i≤(↑(D.len d):Int)∧(↑(D.len d):Int)≤(↑(D.len d):Int))) (RT.br (decide (0≤i∧i<(↑(D.len d):Int))) (RT.br (hasT (D.sub d 0 (Int.toNat i)) (D.toI (D.cell (D.get d (Int.toNat i)) 0))) (RT.br (decide (0≤i∧i<(↑(D.len d):Int))) (RT.br (decide ((D.len g0+1)*32≤140737488355328)) (RT.ok (Ex.normal,(Tm.mk 124 [(0,zs zR r),(1,zs zO d),(2,zi nk),(3,zi mo),(10,AV.sl false zO (D.app g0 (D.l [D.t [D.i (D.toI (D.cell (D.get d (Int.toNat i)) 0)),D.cell (D.get d (Int.toNat i)) 1]])) (some (0,1000))),(11,AV.sl false zO g1 (some (1,1001))),(12,AV.sl false zO g2 (some (2,1002))),(13,zi (IntKind.wrap IntKind.i64 (i+1)))] []),(Hp.mk [] 0 [(0,1000,92),(1,1001,92),(2,1002,92)] 3 1003 1000))) (RT.bad 70)) (RT.bad 42)) (RT.br (decide (0≤ruleI r (D.toI (D.cell (D.get d (Int.toNat i)) 0)) (↑(D.len (D.cell (D.get d (Int.toNat i)) 1)):Int)∧ruleI r (D.toI (D.cell (D.get d (Int.toNat i)) 0)) (↑(D.len (D.cell (D.get d (Int.toNat i)) 1)):Int)<(↑(D.len r):Int))) (RT.br (decide (0≤i∧i<(↑(D.len d):Int))) (RT.br (decide (D.len (D.cell (D.get d (Int.toNat i)) 1)=2∧byR (D.toI (D.cell (D.get (D.cell (D.get d (Int.toNat i)) 1) 0) 0))∧byR (D.toI (D.cell (D.get (D.cell (D.get d (Int.toNat i)) 1) 1) 0))∨D.len (D.cell (D.get d (Int.toNat i)) 1)=4∧byR (D.toI (D.cell (D.get (D.cell (D.get d (Int.toNat i)) 1) 0) 0))∧byR (D.toI (D.cell (D.get (D.cell (D.get d (Int.toNat i)) 1) 1) 0))∧byR (D.toI (D.cell (D.get (D.cell (D.get d (Int.toNat i)) 1) 2) 0))∧byR (D.toI (D.cell (D.get (D.cell (D.get d (Int.toNat i)) 1) 3) 0)))) (RT.br (!takB (D.toI (D.cell (D.get r (Int.toNat (ruleI r (D.toI (D.cell (D.get d (Int.toNat i)) 0)) (↑(D.len (D.cell (D.get d (Int.toNat i)) 1)):Int)))) 2)) (D.toI (D.cell (D.get r (Int.toNat (ruleI r (D.toI (D.cell (D.get d (Int.toNat i)) 0)) (↑(D.len (D.cell (D.get d (Int.toNat i)) 1)):Int)))) 3)) (D.toI (D.cell (D.get r (Int.toNat (ruleI r (D.toI (D.cell (D.get d (Int.toNat i)) 0)) (↑(D.len (D.cell (D.get d (Int.toNat i)) 1)):Int)))) 4)) (D.toI (D.cell (D.get r (Int.toNat (ruleI r (D.toI (D.cell (D.get d (Int.toNat i)) 0)) (↑(D.len (D.cell (D.get d (Int.toNat i)) 1)):Int)))) 5)) (numB (D.cell (D.get d (Int.toNat i)) 1))) (RT.br (decide (0≤i∧i<(↑(D.len d):Int))) (RT.br (decide ((D.len g1+1)*32≤140737488355328)) (RT.br (decide (0≤ruleI r (D.toI (D.cell (D.get d (Int.toNat i)) 0)) (↑(D.len (D.cell (D.get d (Int.toNat i)) 1)):Int)∧ruleI r (D.toI (D.cell (D.get d (Int.toNat i)) 0)) (↑(D.len (D.cell (D.get d (Int.toNat i)) 1)):Int)<(↑(D.len r):Int))) (RT.br (decide ((0≤D.toI (D.cell (D.get r (Int.toNat (ruleI r (D.toI (D.cell (D.get d (Int.toNat i)) 0)) (↑(D.len (D.cell (D.get d (Int.toNat i)) 1)):Int)))) 5)∧D.toI (D.cell (D.get r (Int.toNat (ruleI r (D.toI (D.cell (D.get d (Int.toNat i)) 0)) (↑(D.len (D.cell (D.get d (Int.toNat i)) 1)):Int)))) 5)<4294967296)∧1≤D.toI (D.cell (D.get r (Int.toNat (ruleI r (D.toI (D.cell (D.get d (Int.toNat i)) 0)) (↑(D.len (D.cell (D.get d (Int.toNat i)) 1)):Int)))) 1)∧D.toI (D.cell (D.get r (Int.toNat (ruleI r (D.toI (D.cell (D.get d (Int.toNat i)) 0)) (↑(D.len (D.cell (D.get d (Int.toNat i)) 1)):Int)))) 1)≤8)) (RT.br (decide ((D.len g2+1)*32≤140737488355328)) (RT.ok (Ex.normal,(Tm.mk 124 [(0,zs zR r),(1,zs zO d),(2,zi nk),(3,zi mo),(10,AV.sl false zO g0 (some (0,1000))),(11,AV.sl false zO (D.app g1 (D.l [D.t [D.i (D.toI (D.cell (D.get d (Int.toNat i)) 0)),D.cell (D.get d (Int.toNat i)) 1]])) (some (1,1001))),(12,AV.sl false zO (D.app g2 (D.l [D.t [D.i (D.toI (D.cell (D.get r (Int.toNat (ruleI r (D.toI (D.cell (D.get d (Int.toNat i)) 0)) (↑(D.len (D.cell (D.get d (Int.toNat i)) 1)):Int)))) 0)),beD (D.toI (D.cell (D.get r (Int.toNat (ruleI r (D.toI (D.cell (D.get d (Int.toNat i)) 0)) (↑(D.len (D.cell (D.get d (Int.toNat i)) 1)):Int)))) 5)) (D.toI (D.cell (D.get r (Int.toNat (ruleI r (D.toI (D.cell (D.get d (Int.toNat i)) 0)) (↑(D.len (D.cell (D.get d (Int.toNat i)) 1)):Int)))) 1))]])) (some (2,1002))),(13,zi (IntKind.wrap IntKind.i64 (i+1)))] []),(Hp.mk [] 0 [(0,1000,92),(1,1001,92),(2,1002,92)] 3 1003 1000))) (RT.bad 70)) (RT.bad 279)) (RT.bad 42)) (RT.bad 70)) (RT.bad 42)) (RT.ok (Ex.normal,(Tm.mk 124 [(0,zs zR r),(1,zs zO d),(2,zi nk),(3,zi mo),(10,AV.sl false zO g0 (some (0,1000))),(11,AV.sl false zO g1 (some (1,1001))),(12,AV.sl false zO g2 (some (2,1002))),(13,zi (IntKind.wrap IntKind.i64 (i+1)))] []),(Hp.mk [] 0 [(0,1000,92),(1,1001,92),(2,1002,92)] 3 1003 1000)))) (RT.bad 280)) (RT.bad 42)) (RT.bad 42))) (RT.bad 42)) (RT.bad 37))) (RT.bad 42)) (RT.ok (Ex.exit 0,(Tm.mk 124 [(0,zs zR r),(1,zs zO d),(2,zi nk),(3,zi mo),(10,AV.sl false zO g0 (some (0,1000))),(11,AV.sl false zO g1 (some (1,1001))),(12,AV.sl false zO g2 (some (2,1002))),(13,zi i)] []),(Hp.mk [] 0 [(0,1000,92),(1,1001,92),(2,1002,92)] 3 1003 1000))):=by rw [← fvC_eq Tryz.prog (gam (ranG Tryz.prog)) (lam ([])) false 100]; kernel_rfl
structure ra2X where
  (r d:D)
  (nk mo:Int)
  (b1 b2:D)
def ra2L:Lw:=⟨[0,1,2,3,11,12,15],[(false,12,0, 92)],0,3,2000,2000⟩
def ra2F (a:ra2X) (i:Nat) (g2:D):Tm:=⟨124,[(0,.sl false rlS a.r none),(1,.sl false opS a.d none),(2,zi a.nk),(3,zi a.mo),(11,.sl false opS a.b1 (some (1,2001))),(12,.sl false opS g2 (some (2,2002))),(15,zi (i:Int))],[]⟩
def ra2H (a:ra2X) (i:Nat) (g2:D):Hp:=⟨[],0,[(0,2000, 92),(1,2001, 92),(2,2002, 92)],3,2003,2000⟩
def ra2C:Cs:=⟨124,[(0,.sl rlS),(1,.sl opS),(2,.int .i64),(3,.int .i64),(11,.tp opS 1 2001),(12,.tp opS 2 2002),(15,.lit (.sc false (.int .i64 0)))],[],0,[(0,2000, 92),(1,2001, 92),(2,2002, 92)],3,2003,2000⟩
noncomputable def ra2Dec (F:Tm) (h:Hp):Option (ra2X×Nat):=match cdS ra2C F h with
  | some [v0,v1,v2,v3,v4,v5]=>some (⟨v0,v1,v2.toI,v3.toI,v4,v5⟩,0)
  | _=>none
theorem ra2_body (r:D) (d:D) (nk:Int) (mo:Int) (b1:D) (i:Int) (g2:D):roundT (⟨[0,1,2,3,11,12,15],[(false,12,0, 92)],0,3,2000,2000⟩) (evC Tryz.prog (gam (ranG Tryz.prog)) (lam ([])) 100 193 (loopAt 2 (bodyOf Tryz.prog 193)) (⟨124,[(0,.sl false rlS r none),(1,.sl false opS d none),(2,zi nk),(3,zi mo),(11,.sl false opS b1 (some (1,2001))),(12,.sl false opS g2 (some (2,2002))),(15,zi i)],[]⟩) (⟨[],0,[(0,2000, 92),(1,2001, 92),(2,2002, 92)],3,2003,2000⟩)) =
RT.br (decide (i<(↑(D.len r):Int))) (RT.br (decide (0≤i∧i<(↑(D.len r):Int))) (RT.br (D.toB (D.cell (D.get r (Int.toNat i)) 6)) (RT.br (decide (0≤i∧i<(↑(D.len r):Int))) (RT.br (!hasT d (D.toI (D.cell (D.get r (Int.toNat i)) 0))) (RT.br (decide (0≤i∧i<(↑(D.len r):Int))) (RT.br (decide ((0≤D.toI (D.cell (D.get r (Int.toNat i)) 5)∧D.toI (D.cell (D.get r (Int.toNat i)) 5)<4294967296)∧1≤D.toI (D.cell (D.get r (Int.toNat i)) 1)∧D.toI (D.cell (D.get r (Int.toNat i)) 1)≤8)) (RT.br (decide ((D.len g2+1)*32≤140737488355328)) (RT.ok (Ex.normal,(Tm.mk 124 [(0,zs zR r),(1,zs zO d),(2,zi nk),(3,zi mo),(11,AV.sl false zO b1 (some (1,2001))),(12,AV.sl false zO (D.app g2 (D.l [D.t [D.i (D.toI (D.cell (D.get r (Int.toNat i)) 0)),beD (D.toI (D.cell (D.get r (Int.toNat i)) 5)) (D.toI (D.cell (D.get r (Int.toNat i)) 1))]])) (some (2,2002))),(15,zi (IntKind.wrap IntKind.i64 (i+1)))] []),(Hp.mk [] 0 [(0,2000,92),(1,2001,92),(2,2002,92)] 3 2003 2000))) (RT.bad 70)) (RT.bad 279)) (RT.bad 42)) (RT.ok (Ex.normal,(Tm.mk 124 [(0,zs zR r),(1,zs zO d),(2,zi nk),(3,zi mo),(11,AV.sl false zO b1 (some (1,2001))),(12,AV.sl false zO g2 (some (2,2002))),(15,zi (IntKind.wrap IntKind.i64 (i+1)))] []),(Hp.mk [] 0 [(0,2000,92),(1,2001,92),(2,2002,92)] 3 2003 2000)))) (RT.bad 42)) (RT.ok (Ex.normal,(Tm.mk 124 [(0,zs zR r),(1,zs zO d),(2,zi nk),(3,zi mo),(11,AV.sl false zO b1 (some (1,2001))),(12,AV.sl false zO g2 (some (2,2002))),(15,zi (IntKind.wrap IntKind.i64 (i+1)))] []),(Hp.mk [] 0 [(0,2000,92),(1,2001,92),(2,2002,92)] 3 2003 2000)))) (RT.bad 42)) (RT.ok (Ex.exit 2,(Tm.mk 124 [(0,zs zR r),(1,zs zO d),(2,zi nk),(3,zi mo),(11,AV.sl false zO b1 (some (1,2001))),(12,AV.sl false zO g2 (some (2,2002))),(15,zi i)] []),(Hp.mk [] 0 [(0,2000,92),(1,2001,92),(2,2002,92)] 3 2003 2000))):=by rw [← fvC_eq Tryz.prog (gam (ranG Tryz.prog)) (lam ([])) false 100]; kernel_rfl
def ra0Ok (a:ra0X):Bool:=decide (a.d.len*56≤room)&&((rszB a.r&&optsB a.d)&&rgdB a.r)
def ra0O0 (a:ra0X) (i:Nat):D:=filD (oddB a.r a.d a.d) (copE a.d) i
def ra0O1 (a:ra0X) (i:Nat):D:=filD (bdB a.r a.d a.d) (copE a.d) i
def ra0O2 (a:ra0X) (i:Nat):D:=filD (bdB a.r a.d a.d) (fun j=>gooE a.r (rulK a.r a.d j)) i
def ra0T:ra0X×Nat→RT Out:=foldT (fun a=>a.d.len) ra0Ok (fun a i=>ra0F a i (ra0O0 a i) (ra0O1 a i) (ra0O2 a i)) (fun a i=>ra0H a i (ra0O0 a i) (ra0O1 a i) (ra0O2 a i))
def ra2T:ra2X×Nat→RT Out:=foldT (fun a=>a.r.len) (fun a=>decide ((a.b2.len+a.r.len)*32≤room)&&rgdB a.r) (fun a i=>ra2F a i (grow a.b2 (lackB a.r a.d) (gooE a.r) i)) (fun a i=>ra2H a i (grow a.b2 (lackB a.r a.d) (gooE a.r) i))
def ranLs (P:Program):List (FuncId×Nat×BSpec):=[(193,0,loopS P ra0L ra0Dec ra0T),(193,2,loopS P ra2L ra2Dec ra2T)]
theorem ranG_ok:GamL Tryz.prog (ranG Tryz.prog):=⟨rru_soundF,rht_soundF,rnu_soundF,rtk_soundF,rgo_soundF,trivial⟩
theorem holds_t {α:Type} {x y:RT α} {Q:α→Prop} (h:x.holds Q):(RT.br true x y).holds Q:=⟨fun _=>h,fun h=>by cases h⟩
theorem plaI_no (d:D) (x:Int):decide (plaI d x<0)=!hasT d x:=by
  rw [← plaI_has]
  by_cases h:plaI d x<0
  · rw [det h,def_ (show ¬ 0≤plaI d x by omega)]; rfl
  · rw [def_ h,det (show 0≤plaI d x by omega)]; rfl
theorem ra0Dec_0:∀ F h x,ra0Dec F h=some x→∃ a,x=(a,0)∧F=ra0F a 0 (.l []) (.l []) (.l [])∧h=ra0H a 0 (.l []) (.l []) (.l []):=by
  intro F h x hx
  unfold ra0Dec at hx
  split at hx
  · rename_i hd
    cases hx
    obtain ⟨h1,h2⟩:=cdS_ok hd
    exact ⟨_,rfl,h1,h2⟩
  · cases hx
theorem ra2Dec_0:∀ F h x,ra2Dec F h=some x→∃ a,x=(a,0)∧F=ra2F a 0 a.b2∧h=ra2H a 0 a.b2:=by
  intro F h x hx
  unfold ra2Dec at hx
  split at hx
  · rename_i hd
    cases hx
    obtain ⟨h1,h2⟩:=cdS_ok hd
    exact ⟨_,rfl,h1,h2⟩
  · cases hx
theorem ra0_loop:LamE Tryz.prog 193 0 (loopS Tryz.prog ra0L ra0Dec ra0T):=by
  refine fold_loop (gs:=ranG Tryz.prog) (ls:=[]) mixed ranG_ok trivial _ 0 100 (by kernel_rfl) ra0L (fun F h x hx=>by obtain ⟨a,rfl,h1,h2⟩:=ra0Dec_0 F h x hx; exact ⟨h1,h2⟩) ?_
  rintro ⟨r,d,nk,mo⟩ i K hok hi H1 H2
  dsimp only at hok hi H1 H2
  have hm:=d.len_le
  unfold ra0Ok at hok
  simp only [Bool.and_eq_true,decide_eq_true_eq] at hok
  obtain ⟨hrm,⟨hrs,hob⟩,hrg⟩:=hok
  unfold room at hrm
  have hrs:=odt hrs
  have hob:=odt hob
  have l0:=filD_len_le (oddB r d d) (copE d) i
  have l1:=filD_len_le (bdB r d d) (copE d) i
  have l2:=filD_len_le (bdB r d d) (fun j=>gooE r (rulK r d j)) i
  have go:∀ x0 x1 x2,i<d.len→filD (oddB r d d) (copE d) (i+1)=x0→filD (bdB r d d) (copE d) (i+1)=x1→filD (bdB r d d) (fun j=>gooE r (rulK r d j)) (i+1)=x2→K (.normal,ra0F ⟨r,d,nk,mo⟩ (i+1) x0 x1 x2,ra0H ⟨r,d,nk,mo⟩ (i+1) x0 x1 x2):=by
    intro x0 x1 x2 hlt; rintro rfl rfl rfl; exact H1 hlt
  show (roundT ra0L (evC _ _ _ _ _ _ (ra0F ⟨r,d,nk,mo⟩ i (filD (oddB r d d) (copE d) i) (filD (bdB r d d) (copE d) i) (filD (bdB r d d) (fun j=>gooE r (rulK r d j)) i)) (ra0H ⟨r,d,nk,mo⟩ i (filD (oddB r d d) (copE d) i) (filD (bdB r d d) (copE d) i) (filD (bdB r d d) (fun j=>gooE r (rulK r d j)) i)))).holds _
  unfold ra0L ra0F ra0H
  rw [ra0_body]
  simp only [Int.toNat_natCast]
  refine ⟨fun h1=>?_,fun h1=>?_⟩
  rotate_left
  · obtain rfl:i=d.len:=by have:=odf h1; omega
    exact H2 rfl
  have hlt:i<d.len:=by have:=odt h1; omega
  rw [wrap_succ hlt hm]
  clear H1 H2
  have hI:decide (0≤(i:Int)∧(i:Int)<(d.len:Int))=true:=det ⟨by omega,by omega⟩
  have sz0:decide (((filD (oddB r d d) (copE d) i).len+1)*32≤140737488355328)=true:=det (by omega)
  have sz1:decide (((filD (bdB r d d) (copE d) i).len+1)*32≤140737488355328)=true:=det (by omega)
  have sz2:decide (((filD (bdB r d d) (fun j=>gooE r (rulK r d j)) i).len+1)*32≤140737488355328)=true:=det (by omega)
  rw [hI,sz0,sz1,sz2]
  refine holds_t ⟨fun h3=>holds_t (holds_t ?_),fun h3=>⟨fun _=>holds_t ⟨fun h4=>holds_t (holds_t ?_),fun h4=>⟨fun h5=>holds_t ⟨fun _=>⟨fun h6=>holds_t (holds_t ⟨fun _=>⟨fun _=>holds_t ?_,fun h=>?_⟩,fun h=>?_⟩),fun h6=>?_⟩,fun h=>?_⟩,fun h=>?_⟩⟩,fun h=>?_⟩⟩
  · have ho:oddB r d d i=true:=by unfold oddB; rw [Bool.or_eq_true]; exact .inl h3
    have hb:bdB r d d i=false:=by unfold bdB; rw [ho]; rfl
    exact go _ _ _ hlt (filD_on (f:=copE d) (by omega) ho).symm (filD_off hb) (filD_off hb)
  · have ho:oddB r d d i=true:=by unfold oddB; rw [Bool.or_eq_true]; exact .inr h4
    have hb:bdB r d d i=false:=by unfold bdB; rw [ho]; rfl
    exact go _ _ _ hlt (filD_on (f:=copE d) (by omega) ho).symm (filD_off hb) (filD_off hb)
  · have ho:oddB r d d i=false:=by unfold oddB; rw [Bool.or_eq_false_iff]; exact ⟨h3,h4⟩
    have hb:bdB r d d i=true:=by unfold bdB; rw [ho]; exact h6
    exact go _ _ _ hlt (filD_off ho) (filD_on (f:=copE d) (by omega) hb).symm (filD_on (f:=fun j=>gooE r (rulK r d j)) (by omega) hb).symm
  · exact absurd (rgdB_at hrg (ruleI_at (odt h5).1).1) (odf h)
  · rw [h] at h5; cases h5
  · have ho:oddB r d d i=false:=by unfold oddB; rw [Bool.or_eq_false_iff]; exact ⟨h3,h4⟩
    have hb:bdB r d d i=false:=by unfold bdB; rw [ho]; exact h6
    exact go _ _ _ hlt (filD_off ho) (filD_off hb) (filD_off hb)
  · have h5:=(odt h5).1
    obtain ⟨k1,k2,k3⟩:=ruleI_at h5
    refine absurd ?_ (odf h)
    have hl:(optB d i).len=2∨(optB d i).len=4:=by
      have k4:rI r _ 1=((optB d i).len:Int):=k3
      rcases hrs _ k1 with h7 | h7 <;> rw [k4] at h7
      · left; omega
      · right; omega
    have hq:=hob i hlt
    rcases hl with hl | hl
    · exact .inl ⟨hl,hq 0 (by omega),hq 1 (by omega)⟩
    · exact .inr ⟨hl,hq 0 (by omega),hq 1 (by omega),hq 2 (by omega),hq 3 (by omega)⟩
  · have h3:=odf h3
    have h5:0≤ruleI r (optT d i) (optB d i).len:=by
      have:¬ ruleI r (optT d i) (optB d i).len<0:=h3
      omega
    obtain ⟨k1,_⟩:=ruleI_at h5
    refine absurd ⟨h5,?_⟩ (odf h)
    show ruleI r (optT d i) (optB d i).len<(r.len:Int)
    omega
  · have:=odf h; omega
theorem ra2_loop:LamE Tryz.prog 193 2 (loopS Tryz.prog ra2L ra2Dec ra2T):=by
  refine fold_loop (gs:=ranG Tryz.prog) (ls:=[]) mixed ranG_ok trivial _ 2 100 (by kernel_rfl) ra2L (fun F h x hx=>by obtain ⟨a,rfl,h1,h2⟩:=ra2Dec_0 F h x hx; exact ⟨h1,h2⟩) ?_
  rintro ⟨r,d,nk,mo,b1,b2⟩ i K hok hi H1 H2
  dsimp only at hok hi H1 H2
  have hm:=r.len_le
  simp only [Bool.and_eq_true,decide_eq_true_eq] at hok
  obtain ⟨hrm,hrg⟩:=hok
  have l0:=grow_len b2 (lackB r d) (gooE r) i
  unfold room at hrm
  have go:∀ x0,i<r.len→grow b2 (lackB r d) (gooE r) (i+1)=x0→K (.normal,ra2F ⟨r,d,nk,mo,b1,b2⟩ (i+1) x0,ra2H ⟨r,d,nk,mo,b1,b2⟩ (i+1) x0):=by
    intro x0 hlt; rintro rfl; exact H1 hlt
  show (roundT ra2L (evC _ _ _ _ _ _ (ra2F ⟨r,d,nk,mo,b1,b2⟩ i (grow b2 (lackB r d) (gooE r) i)) (ra2H ⟨r,d,nk,mo,b1,b2⟩ i (grow b2 (lackB r d) (gooE r) i)))).holds _
  unfold ra2L ra2F ra2H
  rw [ra2_body]
  simp only [Int.toNat_natCast]
  refine ⟨fun h1=>?_,fun h1=>?_⟩
  rotate_left
  · obtain rfl:i=r.len:=by have:=odf h1; omega
    exact H2 rfl
  have hlt:i<r.len:=by have:=odt h1; omega
  rw [wrap_succ hlt hm]
  clear H1 H2
  have hI:decide (0≤(i:Int)∧(i:Int)<(r.len:Int))=true:=det ⟨by omega,by omega⟩
  have sz0:decide (((grow b2 (lackB r d) (gooE r) i).len+1)*32≤140737488355328)=true:=det (by omega)
  rw [hI,sz0]
  have on:lackB r d i=true→grow b2 (lackB r d) (gooE r) (i+1)=(grow b2 (lackB r d) (gooE r) i).app (.l [gooE r i]):=fun h=>by
    show (bif lackB r d i then _ else _:D)=_
    rw [h]; rfl
  have off:lackB r d i=false→grow b2 (lackB r d) (gooE r) (i+1)=grow b2 (lackB r d) (gooE r) i:=fun h=>by
    show (bif lackB r d i then _ else _:D)=_
    rw [h]; rfl
  refine holds_t ⟨fun h3=>holds_t ⟨fun h4=>holds_t ⟨fun _=>holds_t ?_,fun h=>?_⟩,fun h4=>?_⟩,fun h3=>?_⟩
  · exact go _ hlt (on (by unfold lackB rMust; rw [plaI_no,h3]; exact h4))
  · exact absurd (rgdB_at hrg hlt) (odf h)
  · exact go _ hlt (off (by unfold lackB rMust; rw [plaI_no,h3]; exact h4))
  · exact go _ hlt (off (by unfold lackB rMust; rw [h3]; rfl))
theorem ranLs_ok:LamL Tryz.prog (ranLs Tryz.prog):=⟨ra0_loop,ra2_loop,trivial⟩
def isRl (r:D):Bool:=(rlOf r).isSome
def okR (r:D):Bool:=match rlOf r with | some (m,g)=>rulesB m.toI g.toI | none=>false
def FChkR:List AV→RT AV
  | [.sl false [.int .i64,.int .i64,.int .i64,.int .i64,.int .i64,.int .i64,.bool] r none]=>need false (isRl r) 207 (.ok (ai (errIf (okR r) 150)))
  | _=>.bad 207
def FAreR:List AV→RT AV
  | [.sl false [.int .i64,.int .i64,.int .i64,.int .i64,.int .i64,.int .i64,.bool] r none]=>need false (isRl r) 207 (.ok (ab (okR r)))
  | _=>.bad 207
def answG (P:Program):List (FuncId×Spec):=[(118,pureS P 118 FChkR),(211,pureS P 211 FSort),(185,pureS P 185 FOwns)]
def rnswG (P:Program):List (FuncId×Spec):=(85,pureS P 85 FAreR) :: ranG P
def nakL (r d:D):D:=grow (filD (bdB r d d) (fun j=>gooE r (rulK r d j)) d.len) (lackB r d) (gooE r) r.len
def ansC (r d:D) (nk mo:Int):Int:=bif okR r then (if 0<(oddL r d).len then 4 else if (nakL r d).len=0 then 2 else if mo≤nk∧0<(bdL r d).len then 4 else 3) else 0
def ansO (r d:D) (nk mo:Int):D:=bif okR r then (if 0<(oddL r d).len then oddL r d else if (nakL r d).len=0 then d else if mo≤nk∧0<(bdL r d).len then bdL r d else nakL r d) else .l []
def ansN (r d:D):Bool:=isRl r&&(decide ((d.len+16)*56≤140737488355328)&&optsB d)
def FAns:List AV→RT AV
  | [.sl false [.int .i64,.int .i64,.int .i64,.int .i64,.int .i64,.int .i64,.bool] r none,.sl false [.int .i64,.sl [.int .u8]] d none,.sc false (.int .i64 nk),.sc false (.int .i64 mo)]=>need false (ansN r d) 285 (.ok (.tup [ai (ansC r d nk mo),asl opS (ansO r d nk mo)]))
  | _=>.bad 285
theorem FAns_inv {args:List AV} {K:AV→Prop} (H:(FAns args).holds K):∃ r d nk mo,args=[asl rlS r,asl opS d,ai nk,ai mo]∧ansN r d=true∧K (.tup [ai (ansC r d nk mo),asl opS (ansO r d nk mo)]):=by
  unfold FAns at H
  split at H
  · rename_i r d nk mo
    obtain ⟨hc,H⟩:=need_holds H
    exact ⟨r,d,nk,mo,rfl,hc,H⟩
  · exact H.elim
theorem filD_get {p:Nat→Bool} {f:Nat→D} {n k:Nat} (hn:n≤maxLen) (hk:k<(filD p f n).len):∃ j,j<n∧p j=true∧(filD p f n).get k=f j:=by
  unfold D.len at hk
  unfold D.get
  rw [filD_toL hn] at hk ⊢
  rw [List.length_map] at hk
  refine ⟨((List.range n).filter p)[k],?_,?_,?_⟩
  · have:=List.getElem_mem hk
    rw [List.mem_filter,List.mem_range] at this
    exact this.1
  · have:=List.getElem_mem hk
    rw [List.mem_filter] at this
    exact this.2
  · rw [List.getD_eq_getElem?_getD,List.getElem?_map,List.getElem?_eq_getElem hk]; rfl
theorem filD_len2 {p:Nat→Bool} {f g:Nat→D} {n:Nat} (hn:n≤maxLen):(filD p f n).len=(filD p g n).len:=by
  unfold D.len; rw [filD_toL hn,filD_toL hn,List.length_map,List.length_map]
theorem filD_nil {p:Nat→Bool} {f:Nat→D} {n:Nat} (hn:n≤maxLen) (h:(filD p f n).len=0):filD p f n=.l []:=by
  have h1:((List.range n).filter p).map f=[]:=by
    have h2:(filD p f n).toL.length=0:=h
    rw [filD_toL hn] at h2
    exact List.eq_nil_of_length_eq_zero h2
  unfold filD; rw [h1]
theorem map_get (G:D→D) (q:D):(List.range q.len).map (fun k=>G (q.get k))=q.toL.map G:=by
  unfold D.len D.get
  refine List.ext_getElem (by simp) fun i h1 h2=>?_
  simp only [List.length_map,List.length_range] at h1
  simp [h1]
theorem tab_fil {p:Nat→Bool} {f:Nat→D} {n:Nat} (G:D→D) (hn:n≤maxLen):tabD (fun k=>G ((filD p f n).get k)) (filD p f n).len=filD p (fun j=>G (f j)) n:=by
  unfold tabD
  rw [map_get,filD_toL hn,List.map_map]
  rfl
theorem grow_fold (b:D) (p:Nat→Bool) (f:Nat→D):∀ n,grow b p f n=((List.range n).filter p).foldl (fun acc i=>acc.app (.l [f i])) b
  | 0=>rfl
  | n+1=>by
    show (bif p n then _ else _:D)=_
    rw [List.range_succ,List.filter_append,List.foldl_append,← grow_fold b p f n]
    cases h:p n <;> simp [h]
theorem grow_fil {p:Nat→Bool} {f:Nat→D} {n:Nat} (G:D→D) (b:D) (hn:n≤maxLen):grow b yes (fun k=>G ((filD p f n).get k)) (filD p f n).len=grow b p (fun j=>G (f j)) n:=by
  rw [grow_fold,grow_fold]
  have h1:(List.range (filD p f n).len).filter yes=List.range (filD p f n).len:=List.filter_eq_self.2 fun _ _=>rfl
  rw [h1]
  have h2:∀ (l:List Nat) (h:Nat→D) (b:D),l.foldl (fun acc i=>acc.app (.l [h i])) b=(l.map h).foldl (fun acc e=>acc.app (.l [e])) b:=fun l h b=>by rw [List.foldl_map]
  rw [h2,h2,map_get,filD_toL hn,List.map_map]
  rfl
theorem app_len1 {b:D} {x:D} (h:b.len<maxLen):(b.app (.l [x])).len=b.len+1:=by
  have e:(D.l [x]).toL=[x]:=toL_l (by unfold maxLen; simp)
  unfold D.app
  rw [e]
  unfold D.len at h ⊢
  rw [toL_l (by rw [List.length_append,List.length_cons,List.length_nil]; omega),List.length_append]; rfl
theorem grow_ge (b:D) (p:Nat→Bool) (f:Nat→D):∀ n,b.len+n≤maxLen→b.len≤(grow b p f n).len
  | 0,_=>Nat.le_refl _
  | n+1,h=>by
    have ih:=grow_ge b p f n (by omega)
    have l:=grow_len b p f n
    show _≤(bif p n then _ else _:D).len
    cases p n
    · exact ih
    · rw [cond_true,app_len1 (by omega)]; omega
theorem rl_len {r:D} (h:isRl r=true):r.len=2∧rszB r=true∧(okR r=true→rgdB r=true):=by
  unfold isRl at h
  cases hr:rlOf r with
  | none=>rw [hr] at h; cases h
  | some p =>
    obtain ⟨m,g⟩:=p
    have hk:okR r=rulesB m.toI g.toI:=by unfold okR; rw [hr]
    rw [hk]
    unfold rlOf at hr
    split at hr
    · rename_i m' g' hd
      cases hr
      have hl:r.toL=[.t [.ki 1,.ki 2,.ki 2,.ki 128,.ki 1492,.ki 1492,.kb false],.t [.ki 5,.ki 4,.ki 4,m,.ki 0,g,.kb false]]:=by
        unfold D.toL; rw [hd]; exact List.take_of_length_le (by unfold maxLen; simp)
      have h2:r.len=2:=by unfold D.len; rw [hl]; rfl
      have g0:r.get 0=.t [.ki 1,.ki 2,.ki 2,.ki 128,.ki 1492,.ki 1492,.kb false]:=by unfold D.get; rw [hl]; rfl
      have g1:r.get 1=.t [.ki 5,.ki 4,.ki 4,m,.ki 0,g,.kb false]:=by unfold D.get; rw [hl]; rfl
      refine ⟨h2,det fun k hk=>?_,fun ho=>det fun k hk=>?_⟩
      · rw [h2] at hk
        match k,hk with
        | 0,_=>left; unfold rI; rw [g0]; rfl
        | 1,_=>right; unfold rI; rw [g1]; rfl
      · rw [h2] at hk
        have ho:=odt ho
        match k,hk with
        | 0,_=>unfold rI; rw [g0]; exact ⟨⟨by decide,by decide⟩,by decide,by decide⟩
        | 1,_=>unfold rI; rw [g1]; exact ⟨⟨ho.2.2.1,ho.2.2.2.1⟩,(show (1:Int)≤4 by decide),(show (4:Int)≤8 by decide)⟩
    · cases hr
theorem rgd_fil {r:D} {p:Nat→Bool} {s:Nat→Nat} {n:Nat} (hn:n≤maxLen) (hr:rgdB r=true) (h:∀ j,j<n→p j=true→s j<r.len):rgdB (filD p (fun j=>rulE r (s j)) n)=true:=by
  refine det fun k hk=>?_
  obtain ⟨j,hj,hp,he⟩:=filD_get hn hk
  unfold rI
  rw [he]
  exact rgdB_at hr (h j hj hp)
section
variable {r d:D} {nk mo:Int} (ho:okR r=true)
include ho
theorem ans4 (h:0<(oddL r d).len):ansC r d nk mo=4∧ansO r d nk mo=oddL r d:=by unfold ansC ansO; rw [ho]; simp [h]
theorem ans2 (h:¬ 0<(oddL r d).len) (h2:(nakL r d).len=0):ansC r d nk mo=2∧ansO r d nk mo=d:=by unfold ansC ansO; rw [ho]; simp [h,h2]
theorem ansB (h:¬ 0<(oddL r d).len) (h2:(nakL r d).len≠0) (h3:mo≤nk) (h4:0<(bdL r d).len):ansC r d nk mo=4∧ansO r d nk mo=bdL r d:=by unfold ansC ansO; rw [ho]; simp [h,h2,h3,h4]
theorem ans3 (h:¬ 0<(oddL r d).len) (h2:(nakL r d).len≠0) (h3:¬ (mo≤nk∧0<(bdL r d).len)):ansC r d nk mo=3∧ansO r d nk mo=nakL r d:=by unfold ansC ansO; rw [ho]; simp only [cond_true,if_neg h,if_neg h2,if_neg h3,and_self]
end
theorem ans0 {r d:D} {nk mo:Int} (ho:okR r=false):ansC r d nk mo=0∧(ansO r d nk mo).len=0:=by unfold ansC ansO; rw [ho]; exact ⟨rfl,rfl⟩
theorem pure_mono {P:Program} {f:FuncId} {F F':List AV→RT AV} (h:SoundF P f (pureS P f F)) (hF:∀ args K,(F' args).holds K→(F args).holds K):SoundF P f (pureS P f F'):=by
  intro args hp K H
  refine h args hp K ?_
  unfold pureS at H ⊢
  rw [RT.holds_bind] at H ⊢
  exact hF _ _ H
theorem chkR_soundF:SoundF Tryz.prog 118 (pureS Tryz.prog 118 FChkR):=by
  refine pure_mono chk_soundF fun args K H=>?_
  unfold FChkR at H
  split at H
  · rename_i r
    obtain ⟨hc,H⟩:=need_holds H
    unfold isRl at hc
    unfold okR at H
    unfold FChk
    cases hr:rlOf r with
    | none=>rw [hr] at hc; cases hc
    | some p=>rw [hr] at H; dsimp only; rw [hr]; exact H
  · exact H.elim
theorem areR_soundF:SoundF Tryz.prog 85 (pureS Tryz.prog 85 FAreR):=by
  refine pure_mono are_soundF fun args K H=>?_
  unfold FAreR at H
  split at H
  · rename_i r
    obtain ⟨hc,H⟩:=need_holds H
    unfold isRl at hc
    unfold okR at H
    unfold FAre
    cases hr:rlOf r with
    | none=>rw [hr] at hc; cases hc
    | some p=>rw [hr] at H; dsimp only; rw [hr]; exact H
  · exact H.elim
theorem answG_ok:GamL Tryz.prog (answG Tryz.prog):=⟨chkR_soundF,sor_soundF,ows_soundF,trivial⟩
theorem rnswG_ok:GamL Tryz.prog (rnswG Tryz.prog):=⟨areR_soundF,ranG_ok⟩
theorem ans_tree (r d:D) (nk mo:Int):treeF (evF Tryz.prog (gam (answG Tryz.prog)) (lam (ansLs Tryz.prog)) 100 184) [asl rlS r,asl opS d,ai nk,ai mo] =
RT.br (isRl r) (RT.br (errIf (okR r) 150 != 0) (RT.ok (AV.tup [zk 0,zz])) (RT.br (sorN r d) (RT.br (decide (nk<mo)) (RT.br (decide ((↑(D.len (bdR r d)):Int)=(↑(D.len (bdR r d)):Int)∧D.len (bdR r d)*56≤140737488355328)&&rgdB (bdR r d)&&true) (RT.br (decide (nk<mo)) (RT.br (decide ((↑(D.len (lackL r d)):Int)=(↑(D.len (lackL r d)):Int)∧(D.len (tabD (gooE (bdR r d)) (D.len (bdR r d)))+D.len (lackL r d))*32≤140737488355328)&&rgdB (lackL r d)&&true) (RT.br (decide (0<(↑(D.len (oddL r d)):Int))) (RT.ok (AV.tup [zk 4,zs zO (oddL r d)])) (RT.br (decide (0<(↑(D.len (grow (tabD (gooE (bdR r d)) (D.len (bdR r d))) yes (gooE (lackL r d)) (D.len (lackL r d)))):Int))) (RT.ok (AV.tup [zk 3,zs zO (grow (tabD (gooE (bdR r d)) (D.len (bdR r d))) yes (gooE (lackL r d)) (D.len (lackL r d)))])) (RT.br (decide (0<(↑(D.len (bdL r d)):Int))) (RT.ok (AV.tup [zk 4,zs zO (bdL r d)])) (RT.br (decide (D.len d*32≤140737488355328)) (RT.ok (AV.tup [zk 2,zs zO d])) (RT.bad 286))))) (RT.bad 210)) (RT.br ((↑(D.len (bdL r d)):Int)==0) (RT.br (decide ((↑(D.len (lackL r d)):Int)=(↑(D.len (lackL r d)):Int)∧(D.len (tabD (gooE (bdR r d)) (D.len (bdR r d)))+D.len (lackL r d))*32≤140737488355328)&&rgdB (lackL r d)&&true) (RT.br (decide (0<(↑(D.len (oddL r d)):Int))) (RT.ok (AV.tup [zk 4,zs zO (oddL r d)])) (RT.br (decide (0<(↑(D.len (grow (tabD (gooE (bdR r d)) (D.len (bdR r d))) yes (gooE (lackL r d)) (D.len (lackL r d)))):Int))) (RT.ok (AV.tup [zk 3,zs zO (grow (tabD (gooE (bdR r d)) (D.len (bdR r d))) yes (gooE (lackL r d)) (D.len (lackL r d)))])) (RT.br (decide (0<(↑(D.len (bdL r d)):Int))) (RT.ok (AV.tup [zk 4,zs zO (bdL r d)])) (RT.br (decide (D.len d*32≤140737488355328)) (RT.ok (AV.tup [zk 2,zs zO d])) (RT.bad 286))))) (RT.bad 210)) (RT.br (decide (0<(↑(D.len (oddL r d)):Int))) (RT.ok (AV.tup [zk 4,zs zO (oddL r d)])) (RT.br (decide (0<(↑(D.len (tabD (gooE (bdR r d)) (D.len (bdR r d)))):Int))) (RT.ok (AV.tup [zk 3,zs zO (tabD (gooE (bdR r d)) (D.len (bdR r d)))])) (RT.br (decide (0<(↑(D.len (bdL r d)):Int))) (RT.ok (AV.tup [zk 4,zs zO (bdL r d)])) (RT.br (decide (D.len d*32≤140737488355328)) (RT.ok (AV.tup [zk 2,zs zO d])) (RT.bad 286))))))) (RT.bad 210)) (RT.br (decide (nk<mo)) (RT.br (decide ((↑(D.len (lackL r d)):Int)=(↑(D.len (lackL r d)):Int)∧(0+D.len (lackL r d))*32≤140737488355328)&&rgdB (lackL r d)&&true) (RT.br (decide (0<(↑(D.len (oddL r d)):Int))) (RT.ok (AV.tup [zk 4,zs zO (oddL r d)])) (RT.br (decide (0<(↑(D.len (grow (D.l []) yes (gooE (lackL r d)) (D.len (lackL r d)))):Int))) (RT.ok (AV.tup [zk 3,zs zO (grow (D.l []) yes (gooE (lackL r d)) (D.len (lackL r d)))])) (RT.br (decide (0<(↑(D.len (bdL r d)):Int))) (RT.ok (AV.tup [zk 4,zs zO (bdL r d)])) (RT.br (decide (D.len d*32≤140737488355328)) (RT.ok (AV.tup [zk 2,zs zO d])) (RT.bad 286))))) (RT.bad 210)) (RT.br ((↑(D.len (bdL r d)):Int)==0) (RT.br (decide ((↑(D.len (lackL r d)):Int)=(↑(D.len (lackL r d)):Int)∧(0+D.len (lackL r d))*32≤140737488355328)&&rgdB (lackL r d)&&true) (RT.br (decide (0<(↑(D.len (oddL r d)):Int))) (RT.ok (AV.tup [zk 4,zs zO (oddL r d)])) (RT.br (decide (0<(↑(D.len (grow (D.l []) yes (gooE (lackL r d)) (D.len (lackL r d)))):Int))) (RT.ok (AV.tup [zk 3,zs zO (grow (D.l []) yes (gooE (lackL r d)) (D.len (lackL r d)))])) (RT.br (decide (0<(↑(D.len (bdL r d)):Int))) (RT.ok (AV.tup [zk 4,zs zO (bdL r d)])) (RT.br (decide (D.len d*32≤140737488355328)) (RT.ok (AV.tup [zk 2,zs zO d])) (RT.bad 286))))) (RT.bad 210)) (RT.br (decide (0<(↑(D.len (oddL r d)):Int))) (RT.ok (AV.tup [zk 4,zs zO (oddL r d)])) (RT.br (decide (0<(↑(D.len (bdL r d)):Int))) (RT.ok (AV.tup [zk 4,zs zO (bdL r d)])) (RT.br (decide (D.len d*32≤140737488355328)) (RT.ok (AV.tup [zk 2,zs zO d])) (RT.bad 286))))))) (RT.bad 284))) (RT.bad 207):=by rw [← fvF_eq Tryz.prog (gam (answG Tryz.prog)) (lam (ansLs Tryz.prog)) false 100 184]; kernel_rfl
theorem ran_tree (r d:D) (nk mo:Int):treeF (evF Tryz.prog (gam (rnswG Tryz.prog)) (lam (ranLs Tryz.prog)) 100 193) [asl rlS r,asl opS d,ai nk,ai mo] =
RT.br (isRl r) (RT.br (!okR r) (RT.ok (AV.tup [zk 0,zz])) (RT.br (ra0Ok (ra0X.mk r d nk mo)&&true) (RT.br (decide (0<(↑(D.len (filD (oddB r d d) (copE d) (D.len d))):Int))) (RT.ok (AV.tup [zk 4,zs zO (filD (oddB r d d) (copE d) (D.len d))])) (RT.br (decide ((D.len (filD (bdB r d d) (fun j=>gooE r (rulK r d j)) (D.len d))+D.len r)*32≤140737488355328)&&rgdB r&&true) (RT.br ((↑(D.len (grow (filD (bdB r d d) (fun j=>gooE r (rulK r d j)) (D.len d)) (lackB r d) (gooE r) (D.len r))):Int)==0) (RT.ok (AV.tup [zk 2,zs zO d])) (RT.br (decide (mo≤nk)) (RT.br (decide (0<(↑(D.len (filD (bdB r d d) (copE d) (D.len d))):Int))) (RT.ok (AV.tup [zk 4,zs zO (filD (bdB r d d) (copE d) (D.len d))])) (RT.ok (AV.tup [zk 3,zs zO (grow (filD (bdB r d d) (fun j=>gooE r (rulK r d j)) (D.len d)) (lackB r d) (gooE r) (D.len r))]))) (RT.ok (AV.tup [zk 3,zs zO (grow (filD (bdB r d d) (fun j=>gooE r (rulK r d j)) (D.len d)) (lackB r d) (gooE r) (D.len r))])))) (RT.bad 210))) (RT.bad 210))) (RT.bad 207):=by rw [← fvF_eq Tryz.prog (gam (rnswG Tryz.prog)) (lam (ranLs Tryz.prog)) false 100 193]; kernel_rfl
theorem rulK_lt {r d:D} {j:Nat} (h:bdB r d d j=true):rulK r d j<r.len:=by
  unfold bdB at h
  rw [Bool.and_eq_true,Bool.not_eq_true'] at h
  have h1:=h.1
  unfold oddB at h1
  rw [Bool.or_eq_false_iff] at h1
  have:=odf h1.1
  exact (ruleI_at (by omega)).1
theorem ans_soundF:SoundF Tryz.prog 184 (pureS Tryz.prog 184 FAns):=by
  refine pure_in (gs:=answG Tryz.prog) (ls:=ansLs Tryz.prog) mixed answG_ok ansLs_ok 184 100 fun args K ho H=>?_
  obtain ⟨r,d,nk,mo,hr,hc,H⟩:=FAns_inv H
  rw [hr,ans_tree]
  unfold ansN at hc
  simp only [Bool.and_eq_true,decide_eq_true_eq] at hc
  obtain ⟨hrl,hsz,hob⟩:=hc
  obtain ⟨h2,hrs,hrg⟩:=rl_len hrl
  have hdm:=d.len_le
  have hrm:r.len≤maxLen:=r.len_le
  have A:∀ c o,ansC r d nk mo=c∧ansO r d nk mo=o→K (.tup [ai c,asl opS o]):=by rintro c o ⟨rfl,rfl⟩; exact H
  have s1:d.len*56≤140737488355328:=by omega
  have s2:r.len*56≤140737488355328:=by rw [h2]; decide
  have hN:sorN r d=true:=by unfold sorN room; rw [hrs,hob,Bool.and_true,Bool.and_true]; exact det ⟨s1,s2⟩
  have hn:(errIf (okR r) 150 != 0)=!okR r:=errIf_nz (by decide)
  rw [hrl,hN,hn]
  refine holds_t ?_
  cases hok:okR r
  · exact holds_t ⟨_,le_two (le_int (ans0 hok).1.symm) (le_nil (ans0 hok).2),H⟩
  have hrg:=hrg hok
  refine ⟨fun h=>(by cases h),fun _=>holds_t ?_⟩
  have lb:(bdR r d).len≤d.len:=filD_len_le _ _ _
  have ll:(lackL r d).len≤r.len:=filD_len_le _ _ _
  have E1:tabD (gooE (bdR r d)) (bdR r d).len=filD (bdB r d d) (fun j=>gooE r (rulK r d j)) d.len:=tab_fil gooC hdm
  have E2:∀ b,grow b yes (gooE (lackL r d)) (lackL r d).len=grow b (lackB r d) (gooE r) r.len:=fun b=>grow_fil gooC b hrm
  have l1:(filD (bdB r d d) (fun j=>gooE r (rulK r d j)) d.len).len=(bdL r d).len:=filD_len2 hdm
  have lbl:(bdL r d).len≤d.len:=filD_len_le _ _ _
  have hge:(bdL r d).len≤(nakL r d).len:=by
    rw [← l1]; exact grow_ge _ _ _ _ (by rw [l1]; unfold maxLen; omega)
  have E3:(bdL r d).len=0→filD (bdB r d d) (fun j=>gooE r (rulK r d j)) d.len=.l []:=fun h0=>filD_nil hdm (l1.trans h0)
  have g1:rgdB (bdR r d)=true:=rgd_fil hdm hrg fun j _ hp=>rulK_lt hp
  have g2:rgdB (lackL r d)=true:=rgd_fil (s:=fun k=>k) hrm hrg fun j hj _=>hj
  have c1:decide (((bdR r d).len:Int)=((bdR r d).len:Int)∧(bdR r d).len*56≤140737488355328)=true:=det ⟨rfl,by omega⟩
  have c2:∀ b,b≤d.len→decide (((lackL r d).len:Int)=((lackL r d).len:Int)∧(b+(lackL r d).len)*32≤140737488355328)=true:=fun b hb=>det ⟨rfl,by omega⟩
  have c3:decide (d.len*32≤140737488355328)=true:=det (by omega)
  have lt:(tabD (gooE (bdR r d)) (bdR r d).len).len≤d.len:=by rw [E1,l1]; exact lbl
  rw [g1,g2,c1,c3,c2 _ lt,c2 0 (Nat.zero_le _)]
  simp only [E1,E2]
  have hnk:grow (filD (bdB r d d) (fun j=>gooE r (rulK r d j)) d.len) (lackB r d) (gooE r) r.len=nakL r d:=rfl
  have fin:∀ Z:RT AV,(¬ (mo≤nk∧0<(bdL r d).len))→(RT.br (decide (0<((oddL r d).len:Int))) (RT.ok (.tup [.sc true (.int .i64 4),.sl false opS (oddL r d) none])) (RT.br (decide (0<((nakL r d).len:Int))) (RT.ok (.tup [.sc true (.int .i64 3),.sl false opS (nakL r d) none])) (RT.br (decide (0<((bdL r d).len:Int))) (RT.ok (.tup [.sc true (.int .i64 4),.sl false opS (bdL r d) none])) (RT.br true (RT.ok (.tup [.sc true (.int .i64 2),.sl false opS d none])) Z)))).holds fun r=>∃ y,Le r y∧K y:=fun Z hb=>by
    refine ⟨fun h=>⟨_,le_two (le_int rfl) (Le.refl _),A _ _ (ans4 hok ?_)⟩,fun h=>⟨fun h'=>⟨_,le_two (le_int rfl) (Le.refl _),A _ _ (ans3 hok ?_ ?_ hb)⟩,fun h'=>⟨fun h''=>?_,fun _=>holds_t ⟨_,le_two (le_int rfl) (Le.refl _),A _ _ (ans2 hok ?_ ?_)⟩⟩⟩⟩
    · have:=odt h; omega
    · have:=odf h; omega
    · have:=odt h'; omega
    · have:=odf h'; have:=odt h''; omega
    · have:=odf h; omega
    · have:=odf h'; omega
  refine ⟨fun h=>holds_t ⟨fun _=>holds_t (fin _ (by have:=odt h; omega)),fun h'=>(by rw [h] at h'; cases h')⟩,fun h=>⟨fun h'=>(by rw [h] at h'; cases h'),fun _=>⟨fun h0=>?_,fun h0=>?_⟩⟩⟩
  · have h0:=eq_of_beq h0
    have hnk0:grow (.l []) (lackB r d) (gooE r) r.len=nakL r d:=by rw [← hnk,E3 (by omega)]
    rw [hnk0]
    exact holds_t (fin _ (by omega))
  · have h:=odf h
    have h0:((bdL r d).len:Int)≠0:=fun e=>by rw [e] at h0; cases h0
    refine ⟨fun h'=>⟨_,le_two (le_int rfl) (Le.refl _),A _ _ (ans4 hok (by have:=odt h'; omega))⟩,fun h'=>⟨fun h''=>⟨_,le_two (le_int rfl) (Le.refl _),A _ _ (ansB hok (by have:=odf h'; omega) (by omega) (by omega) (by omega))⟩,fun h''=>by have:=odf h''; omega⟩⟩
theorem ran_soundF:SoundF Tryz.prog 193 (pureS Tryz.prog 193 FAns):=by
  refine pure_in (gs:=rnswG Tryz.prog) (ls:=ranLs Tryz.prog) mixed rnswG_ok ranLs_ok 193 100 fun args K ho H=>?_
  obtain ⟨r,d,nk,mo,hr,hc,H⟩:=FAns_inv H
  rw [hr,ran_tree]
  unfold ansN at hc
  simp only [Bool.and_eq_true,decide_eq_true_eq] at hc
  obtain ⟨hrl,hsz,hob⟩:=hc
  obtain ⟨h2,hrs,hrg⟩:=rl_len hrl
  have hdm:=d.len_le
  have A:∀ c o,ansC r d nk mo=c∧ansO r d nk mo=o→K (.tup [ai c,asl opS o]):=by rintro c o ⟨rfl,rfl⟩; exact H
  rw [hrl]
  refine holds_t ?_
  cases hok:okR r
  · exact holds_t ⟨_,le_two (le_int (ans0 hok).1.symm) (le_nil (ans0 hok).2),H⟩
  have hrg:=hrg hok
  have s1:d.len*56≤140737488355328:=by omega
  have hO:ra0Ok ⟨r,d,nk,mo⟩=true:=by unfold ra0Ok room; rw [hrs,hob,hrg]; simp only [Bool.and_true]; exact det s1
  have hne:∀ x:Int,(x==0)=false→x≠0:=fun x h e=>by rw [e] at h; cases h
  rw [hO,hrg]
  have l1:(filD (bdB r d d) (fun j=>gooE r (rulK r d j)) d.len).len=(bdL r d).len:=filD_len2 hdm
  have lbl:(bdL r d).len≤d.len:=filD_len_le _ _ _
  have hge:(bdL r d).len≤(nakL r d).len:=by
    rw [← l1]; exact grow_ge _ _ _ _ (by rw [l1]; unfold maxLen; omega)
  have c1:decide (((filD (bdB r d d) (fun j=>gooE r (rulK r d j)) d.len).len+r.len)*32≤140737488355328)=true:=det (by rw [l1]; omega)
  rw [c1]
  refine ⟨fun h=>(by cases h),fun _=>holds_t ⟨fun h=>?_,fun h=>holds_t ⟨fun h0=>?_,fun h0=>⟨fun h3=>⟨fun h4=>?_,fun h4=>?_⟩,fun h3=>?_⟩⟩⟩⟩
  · exact ⟨_,le_two (le_int rfl) (Le.refl _),A _ _ (ans4 hok (by have:=odt h; unfold oddL; omega))⟩
  all_goals have h:¬ 0<(oddL r d).len:=by have:=odf h; unfold oddL; omega
  · have h0:((nakL r d).len:Int)=0:=eq_of_beq h0
    exact ⟨_,le_two (le_int rfl) (Le.refl _),A _ _ (ans2 hok h (by omega))⟩
  all_goals have h0:((nakL r d).len:Int)≠0:=hne _ h0
  · exact ⟨_,le_two (le_int rfl) (Le.refl _),A _ _ (ansB hok h (by omega) (odt h3) (by have:=odt h4; unfold bdL; omega))⟩
  · exact ⟨_,le_two (le_int rfl) (Le.refl _),A _ _ (ans3 hok h (by omega) (by have:=odf h4; unfold bdL; omega))⟩
  · exact ⟨_,le_two (le_int rfl) (Le.refl _),A _ _ (ans3 hok h (by omega) (by have:=odf h3; omega))⟩
end
end Go.Proofs.YtcambhbmobepjaaGreat
namespace Go.Proofs.YtcambhbmobepjaaGreat
set_option linter.unusedSimpArgs false
set_option linter.unusedVariables false
open Go.RowKit
set_option maxRecDepth 10000
noncomputable section
section
variable {P:Program} {E:Env} {h:Hp} {w w0 w':World} {G:Nat→Prop}
def Env.freshX (E:Env) (w w':World) (X:Nat):Env:={ E with Z:=fun b j=>if b<w.heap.size then E.Z b j else if b=X then none else w'.cell? ⟨b,j,none⟩ }
theorem Inv.freshX (I:Inv P w0 G E h w) (hb:Below w.heap.size w w') (X:Nat):Stepd P w0 G E h w (E.freshX w w' X) h w':=by
  have hZ:∀ b j v,E.Z b j=some v→(E.freshX w w' X).Z b j=some v:=fun b j v hz=>by
    show (if b<w.heap.size then E.Z b j else _)=_
    rw [if_pos (cell_lt (I.z b j v hz))]; exact hz
  have hext:Ext E (E.freshX w w' X):=⟨fun _ h=>h,fun _ _=>rfl,hZ,Nat.le_refl _,Nat.le_refl _,fun _ _=>.inl ⟨rfl,rfl⟩⟩
  have same:∀ b,b<w.heap.size→w'.heap[b]?=w.heap[b]?:=fun b h=>hb.block b h
  refine ⟨hext,⟨I.kpt.then (Kpt.of_below hb fun _=>False) (fun _ h=>h.elim),I.m,I.ng,I.gn,I.gnlt,I.live,I.nx,fun o cs hcs=>?_,I.own,I.inj,fun b j v hz=>?_,fun o j hlo=>?_,fun k hk=>?_,I.vinj⟩,fun o hlo=>⟨Nat.le_refl _,fun _=>same _ (I.live_lt hlo)⟩,fun b j v hz=>?_⟩
  · obtain ⟨vs,t,g1,g2,g3⟩:=I.ob o cs hcs
    exact ⟨vs,t,(same _ (Array.getElem?_eq_some_iff.1 g1).1).trans g1,RelL.mono hext _ _ g2,g3⟩
  · have hz':(if b<w.heap.size then E.Z b j else if b=X then none else w'.cell? ⟨b,j,none⟩)=some v:=hz
    split at hz'
    · rename_i hlt
      rw [cell_same (same b hlt)]; exact I.z b j v hz'
    · split at hz'
      · cases hz'
      · exact hz'
  · show (if E.β o<w.heap.size then E.Z (E.β o) j else _)=none
    rw [if_pos (I.live_lt hlo)]; exact I.zob o j hlo
  · obtain ⟨sz,n,xs,g1,g2,g3,g4⟩:=I.vec k hk
    refine ⟨sz,n,xs,g1,owns_same g2 fun b hb'=>same b (owns_lt g2 hb'),g3,fun b hb'=>⟨(g4 b hb').1,(g4 b hb').2.1,fun j=>?_⟩⟩
    show (if b<w.heap.size then E.Z b j else _)=_
    rw [if_pos (owns_lt g2 hb')]; exact (g4 b hb').2.2 j
  · have hz':(if b<w.heap.size then E.Z b j else if b=X then none else w'.cell? ⟨b,j,none⟩)=some v:=hz
    split at hz'
    · exact .inl hz'
    · exact .inr (.inl (Nat.le_trans I.kpt.size (by omega)))
theorem newO_gen {cs:List AV} {vs:List Value} {t:Obj} (I:Inv P w0 G E h w) {g:Nat} (hblk:w.heap[g]?=some t) (hr:RelL E cs vs) (h1:ObOk t vs) (hn:∀ o,E.live o→E.β o≠g) (hz:∀ j,E.Z g j=none) (hw:w0.heap.size≤g) (hv:∀ k,k<h.nv→(E.vc k).ownBlock≠some g) :
    ∃ E',Stepd P w0 G E h w E' (newA cs h).2 w∧E'.live h.nx∧E'.β h.nx=g∧E'.Z=E.Z:=by
  have hnl:¬ E.live h.nx:=fun hl=>by have:=I.nx _ hl; omega
  have hext:Ext E { E with β:=fun o=>if o=h.nx then g else E.β o,live:=fun o=>E.live o∨o=h.nx } :=
    ⟨fun o ho=>.inl ho,fun o ho=>if_neg fun e:o=h.nx=>hnl (e ▸ ho),fun _ _ _ hz=>hz,Nat.le_refl _,Nat.le_refl _,fun _ _=>.inl ⟨rfl,rfl⟩⟩
  refine ⟨_,⟨hext,⟨I.kpt,I.m,I.ng,I.gn,I.gnlt,fun p=>?_,fun p hp=>?_,fun p cp hp=>?_,fun p hp=>?_,fun p q hp hq=>?_,I.z,fun p j hp=>?_,fun k hkn=>?_,I.vinj⟩,fun p hp=>?_,fun _ _ _ hz=>.inl hz⟩,.inr rfl,by simp,rfl⟩
  · simp only [newA,lookO_cons]
    split
    · rename_i e; subst e; simp
    · rename_i e
      rw [← I.live p]
      exact ⟨fun hh=>hh.resolve_right fun e'=>e e'.symm,.inl⟩
  · rcases hp with hp | rfl
    · have:=I.nx p hp; simp only [newA]; omega
    · simp only [newA]; omega
  · simp only [newA,lookO_cons] at hp
    split at hp
    · rename_i e; subst e; cases hp
      exact ⟨vs,t,by simp only [if_pos]; exact hblk,RelL.mono hext _ _ hr,h1⟩
    · rename_i e
      obtain ⟨us,t',g1,g2,g3⟩:=I.ob p cp hp
      refine ⟨us,t',?_,RelL.mono hext _ _ g2,g3⟩
      simp only [if_neg (fun e':p=h.nx=>e (Eq.symm e'))]
      exact g1
  · rcases hp with hp | rfl
    · simp only [if_neg (fun e:p=h.nx=>hnl (e ▸ hp))]; exact I.own p hp
    · simp only [if_pos]; exact .inl hw
  · intro e
    by_cases ep:p=h.nx <;> by_cases eq:q=h.nx
    · rw [ep,eq]
    · simp only [ep,eq,if_pos,if_neg,not_false_eq_true] at e
      exact absurd e.symm (hn q (hq.resolve_right eq))
    · simp only [ep,eq,if_pos,if_neg,not_false_eq_true] at e
      exact absurd e (hn p (hp.resolve_right ep))
    · simp only [if_neg ep,if_neg eq] at e
      exact I.inj p q (hp.resolve_right ep) (hq.resolve_right eq) e
  · by_cases ep:p=h.nx
    · simp only [if_pos ep]; exact hz j
    · simp only [if_neg ep]; exact I.zob p j (hp.resolve_right ep)
  · obtain ⟨sz,n,xs,g1,g2,g3,g4⟩:=I.vec k hkn
    refine ⟨sz,n,xs,g1,g2,g3,fun b hb'=>⟨(g4 b hb').1,fun o ho=>?_,(g4 b hb').2.2⟩⟩
    by_cases ep:o=h.nx
    · simp only [if_pos ep]; exact fun e=>hv k hkn (by rw [hb',e])
    · simp only [if_neg ep]; exact (g4 b hb').2.1 o (ho.resolve_right ep)
  · have:p≠h.nx:=fun e=>hnl (e ▸ hp)
    simp only [ver,newA,cnt_cons,if_neg (fun e:h.nx=p=>this (Eq.symm e))]
    exact ⟨Nat.le_refl _,fun _=>trivial⟩
theorem opt_row {E':Env} {h':Hp} {G':Nat→Prop} (I:Inv P w0 G E h w) (hbel:Below w.heap.size w w') (I':Inv P w G' E' h' w') (hG:∀ b,¬ G' b) (hZ:∀ b j v,E'.Z b j=some v→E.Z b j=some v∨w.heap.size≤b)
    {kn kn2:Bool} {d:D} {k g:Nat} {e:TypeId} {v:Value} (hv:Rel E' (.sl kn [.int .i64,.sl [.int .u8]] d (some (k,g))) v) (hk:k<h'.nv) (hl:lookG k h'.gn=some (g,e)) (hsz:sizeT P e=some 2) (hne:d.len≠0) :
    ∃ E2,Stepd P w0 G E h w E2 (newA [.rw [.int .i64,.sl [.int .u8]] d] h).2 w'∧Rel E2 (.rsl kn2 h.nx 2 d.len) v:=by
  obtain ⟨⟨hbd,ad,cap,rfl,hlc,hcm,hcn,hel⟩,_,_,htip⟩:=hv
  have hgk:=I'.gn k hk
  rw [hl] at hgk
  have hg1:E'.gn k=g:=(Prod.mk.inj (Option.some.inj hgk)).1.symm
  have hve:E'.ve k=e:=(Prod.mk.inj (Option.some.inj hgk)).2.symm
  have hvk:=htip hg1
  obtain ⟨sz,n,xs,s1,s2,s3,s4⟩:=I'.vec k hk
  rw [hve,hsz] at s1
  cases s1
  rw [← hvk] at s2 s4
  rcases s2.2 with ⟨h0,_⟩ | ⟨b,cap',cur,hv',_,hblk,hnc,hcm',hcs,htk⟩
  · have:d.len=0:=by injection h0
    exact absurd this hne
  have e1:ad=some ⟨b,0,none⟩:=by injection hv'
  have e2:d.len=n:=by injection hv'
  subst e1; subst e2
  obtain ⟨hb1,_,hb3⟩:=s4 b rfl
  have hbs:w.heap.size≤b:=hb1.resolve_right (hG b)
  obtain ⟨b',o,hbo,hel⟩:=hel hne
  have e3:b'=b∧o=0:=by injection hbo with hbo; injection hbo with h1 h2; exact ⟨h1.symm,h2.symm⟩
  obtain ⟨rfl,rfl⟩:=e3
  have hxl:xs.length=d.len*2:=s2.1
  have no8:∀ j u,E'.Z b' j=some u→∀ m,u≠.int .u8 m:=fun j u hu m=>by
    have hj:j<xs.length:=by
      rw [hb3 j] at hu
      exact (List.getElem?_eq_some_iff.1 hu).1
    obtain ⟨⟨v1,z1,l1⟩,⟨v2,z2,l2⟩,_⟩:=hel (j / 2) (by omega)
    have l1:v1=.int .i64 _:=l1
    obtain ⟨_,a2,c2,l2,_⟩:=l2
    rcases Nat.mod_two_eq_zero_or_one j with hm | hm
    · rw [show 0+j / 2 * [Sh.int .i64,.sl [.int .u8]].length=j by show 0+j / 2*2=j; omega,hu] at z1
      cases z1; rw [l1]; intro h; injection h with h; cases h
    · rw [show 0+j / 2 * [Sh.int .i64,.sl [.int .u8]].length+1=j by show 0+j / 2*2+1=j; omega,hu] at z2
      cases z2; rw [l2]; intro h; cases h
  have S1:=I.freshX hbel b'
  have mono:∀ q j u,q≠b'→E'.Z q j=some u→(E.freshX w w' b').Z q j=some u:=fun q j u hq hu=>by
    show (if q<w.heap.size then E.Z q j else if q=b' then none else w'.cell? ⟨q,j,none⟩)=some u
    by_cases hlt:q<w.heap.size
    · rw [if_pos hlt]; rcases hZ q j u hu with h | h
      · exact h
      · omega
    · rw [if_neg hlt,if_neg hq]; exact I'.z q j u hu
  have inner:∀ x y,LF E'.Z (.sl [.int .u8]) x y→LF (E.freshX w w' b').Z (.sl [.int .u8]) x y:=by
    rintro x y ⟨q0,ad,cp,q1,q2,q3,q4,q5⟩
    refine ⟨q0,ad,cp,q1,q2,q3,q4,fun hn=>?_⟩
    obtain ⟨c,p,q6,q7⟩:=q5 hn
    refine ⟨c,p,q6,fun i hi=>?_⟩
    obtain ⟨⟨u,z,lu⟩,_⟩:=q7 i hi
    refine ⟨⟨u,mono _ _ _ (fun hc=>?_) z,lu⟩,trivial⟩
    subst hc
    exact no8 _ _ z _ lu
  have cell:∀ j u,E'.Z b' j=some u→cur[j]?=some u:=fun j u hu=>by
    have h3:=I'.z _ _ _ hu
    have hblk2:w'.heap[b']?=some (.cells cur.toList.toArray (E'.ve k) (0,0)):=by simpa using hblk
    rw [cell_of_row w' _ j _ _ _ hblk2] at h3
    simpa using h3
  have hre:∀ i,i<d.len→RE (E.freshX w w' b').Z [.int .i64,.sl [.int .u8]] cur (i*2) (d.get i) 0:=fun i hi=>by
    obtain ⟨⟨v1,z1,l1⟩,⟨v2,z2,l2⟩,_⟩:=hel i hi
    rw [show 0+i * [Sh.int .i64,.sl [.int .u8]].length=i*2 by show 0+i*2=i*2; omega] at z1 z2
    exact ⟨⟨v1,cell _ _ z1,l1⟩,⟨v2,cell _ _ z2,inner _ _ l2⟩,trivial⟩
  obtain ⟨E2,S2,hlv,hβ,_⟩:=newO_gen (t:=.cells cur (E'.ve k) (0,0)) (cs:=[.rw [.int .i64,.sl [.int .u8]] d]) (vs:=[.agg cur]) S1.inv hblk ⟨_,[],rfl,⟨hbd,cur,rfl,hre⟩,rfl⟩ (.inr (.inr ⟨cur,_,rfl,rfl⟩))
    (fun o ho=>by have:=I.live_lt ho; show E.β o≠b'; omega) (fun j=>by show (if b'<w.heap.size then E.Z b' j else if b'=b' then none else _)=none; rw [if_neg (by omega),if_pos rfl]) (Nat.le_trans I.kpt.size hbs) (fun q hq e=>by
      obtain ⟨_,_,_,_,q2,_⟩:=I.vec q hq
      have:=owns_lt q2 e
      omega)
  exact ⟨E2,S1.trans S2,hlv,_,cap,rfl,hlc,hcm,(fun h=>by cases h),fun _=>by rw [hβ]⟩
end
end
end Go.Proofs.YtcambhbmobepjaaGreat
namespace Go.Proofs.YtcambhbmobepjaaGreat
set_option linter.unusedSimpArgs false
set_option linter.unusedVariables false
open Go.RowKit
set_option maxRecDepth 100000
noncomputable section
def eqBy (x y:D) (i:Nat):Bool:=byA x i==byA y i
def eqB (x y:D):Bool:=decide (x.len=y.len)&&okFrom (eqBy x y) x.len 0
structure seqX where
  (x y:D)
  n:Int
def seqL:Lw:=⟨[0,1,4,12,13],[],0,0,1000,1000⟩
def seqF (a:seqX) (i:Nat):Tm:=⟨26,[(0,.sl false byS a.x none),(1,.sl false byS a.y none),(4,.sc false (.bool false)),(12,zi a.n),(13,zi (i:Int))],[]⟩
def seqH (a:seqX) (i:Nat):Hp:=⟨[],0,[],0,1000,1000⟩
def seqC:Cs:=⟨26,[(0,.sl byS),(1,.sl byS),(4,.lit (.sc false (.bool false))),(12,.int .i64),(13,.lit (.sc false (.int .i64 0)))],[],0,[],0,1000,1000⟩
noncomputable def seqDec (F:Tm) (h:Hp):Option (seqX×Nat):=match cdS seqC F h with
  | some [v0,v1,v2]=>some (⟨v0,v1,v2.toI⟩,0)
  | _=>none
theorem seq_body (x:D) (y:D) (n:Int) (i:Int):roundT (⟨[0,1,4,12,13],[],0,0,1000,1000⟩) (evC Tryz.prog (gam ([])) (lam ([])) 100 215 (loopAt 0 (bodyOf Tryz.prog 215)) (⟨26,[(0,.sl false byS x none),(1,.sl false byS y none),(4,.sc false (.bool false)),(12,zi n),(13,zi i)],[]⟩) (⟨[],0,[],0,1000,1000⟩)) =
RT.br (decide (i<n)) (RT.br (decide (0≤i∧i<(↑(D.len x):Int))) (RT.br (decide (0≤i∧i<(↑(D.len y):Int))) (RT.br (D.toI (D.cell (D.get x (Int.toNat i)) 0) != D.toI (D.cell (D.get y (Int.toNat i)) 0)) (RT.ok (Ex.ret,(Tm.mk 26 [(0,zs zU x),(1,zs zU y),(4,zb false),(12,zi n),(13,zi i)] []),(Hp.mk [] 0 [] 0 1000 1000))) (RT.ok (Ex.normal,(Tm.mk 26 [(0,zs zU x),(1,zs zU y),(4,zb false),(12,zi n),(13,zi (IntKind.wrap IntKind.i64 (i+1)))] []),(Hp.mk [] 0 [] 0 1000 1000)))) (RT.bad 42)) (RT.bad 42)) (RT.ok (Ex.exit 0,(Tm.mk 26 [(0,zs zU x),(1,zs zU y),(4,zb false),(12,zi n),(13,zi i)] []),(Hp.mk [] 0 [] 0 1000 1000))):=by rw [← fvC_eq Tryz.prog (gam ([])) (lam ([])) false 100]; kernel_rfl
def seqT:seqX×Nat→RT Out:=searchT (fun a=>a.x.len) (fun a=>eqBy a.x a.y) (fun a=>decide (a.n=(a.x.len:Int)∧a.x.len=a.y.len)) seqF seqF (fun a=>seqH a 0) .ret
def seqLs (P:Program):List (FuncId×Nat×BSpec):=[(215,0,loopS P seqL seqDec seqT)]
def FEqB:List AV→RT AV
  | [.sl false [.int .u8] x none,.sl false [.int .u8] y none]=>.ok (ab (eqB x y))
  | _=>.bad 288
def owsRowS:Spec:=fun args h=>match args with
  | [.sl kn es d _]=>bif Sh.eqsL es opS then need false (decide (d.len*32≤140737488355328)) 287 (brk kn (decide (d.len=0)) (.ok (.sl true opS (.l []) none,h)) (.ok (.rsl kn h.nx 2 (tabD (copE d) d.len).len,(newA [.rw opS (tabD (copE d) d.len)] h).2))) else .bad 214
  | _=>.bad 215
def nkE (l c:D) (i:Nat):D:=.t [(c.get i).cell 0,optB l (plaI l (optT c i)).toNat]
def nkR (l d:D):Nat→D
  | 0=>d
  | i+1=>bif decide (0≤plaI l (optT (nkR l d i) i)) then (nkR l d i).setE i (nkE l (nkR l d i) i) else nkR l d i
def nakG (P:Program):List (FuncId×Spec):=[(98,pureS P 98 FCloneB),(214,pureS P 214 FPla),(185,owsRowS)]
structure nklX where
  l:D
  (m m1:Nat)
  n:Int
  d:D
def nklL:Lw:=⟨[1,5,11,12,13],[],1,0,1000,1000⟩
def nklF (a:nklX) (i:Nat) (g9:D):Tm:=⟨36,[(1,.sl false opS a.l none),(5,.rsl false 0 2 a.m),(11,.rsl false 0 2 a.m1),(12,zi a.n),(13,zi (i:Int))],[]⟩
def nklH (a:nklX) (i:Nat) (g9:D):Hp:=⟨[(0,[.rw opS g9])],1,[],0,1000,1000⟩
def nklC:Cs:=⟨36,[(1,.sl opS),(5,.rs 0 2),(11,.rs 0 2),(12,.int .i64),(13,.lit (.sc false (.int .i64 0)))],[(0,[.row opS])],1,[],0,1000,1000⟩
noncomputable def nklDec (F:Tm) (h:Hp):Option (nklX×Nat):=match cdS nklC F h with
  | some [v0,v1,v2,v3,v4]=>some (⟨v0,v1.toI.toNat,v2.toI.toNat,v3.toI,v4⟩,0)
  | _=>none
theorem nkl_body (l:D) (m:Nat) (m1:Nat) (n:Int) (i:Int) (g9:D):roundT (⟨[1,5,11,12,13],[],1,0,1000,1000⟩) (evC Tryz.prog (gam (nakG Tryz.prog)) (lam ([])) 100 186 (loopAt 0 (bodyOf Tryz.prog 186)) (⟨36,[(1,.sl false opS l none),(5,.rsl false 0 2 m),(11,.rsl false 0 2 m1),(12,zi n),(13,zi i)],[]⟩) (⟨[(0,[.rw opS g9])],1,[],0,1000,1000⟩)) =
RT.br (decide (i<n)) (RT.br (decide (0≤i∧i<(↑m1:Int))) (RT.br (decide (Int.toNat i<D.len g9)) (RT.br (decide (0≤plaI l (D.toI (D.cell (D.get g9 (Int.toNat i)) 0)))) (RT.br (decide (0≤plaI l (D.toI (D.cell (D.get g9 (Int.toNat i)) 0))∧plaI l (D.toI (D.cell (D.get g9 (Int.toNat i)) 0))<(↑(D.len l):Int))) (RT.br (decide (0≤i∧i<(↑m:Int))) (RT.br (decide (Int.toNat i<D.len g9)) (RT.ok (Ex.normal,(Tm.mk 36 [(1,zs zO l),(5,AV.rsl false 0 2 m),(11,AV.rsl false 0 2 m1),(12,zi n),(13,zi (IntKind.wrap IntKind.i64 (i+1)))] []),(Hp.mk [(0,[AV.rw zO (D.setE g9 (Int.toNat i) (D.t [D.cell (D.get g9 (Int.toNat i)) 0,D.cell (D.get l (Int.toNat (plaI l (D.toI (D.cell (D.get g9 (Int.toNat i)) 0))))) 1]))])] 1 [] 0 1000 1000))) (RT.bad 175)) (RT.bad 179)) (RT.bad 42)) (RT.ok (Ex.normal,(Tm.mk 36 [(1,zs zO l),(5,AV.rsl false 0 2 m),(11,AV.rsl false 0 2 m1),(12,zi n),(13,zi (IntKind.wrap IntKind.i64 (i+1)))] []),(Hp.mk [(0,[AV.rw zO g9])] 1 [] 0 1000 1000)))) (RT.bad 170)) (RT.bad 179)) (RT.ok (Ex.exit 0,(Tm.mk 36 [(1,zs zO l),(5,AV.rsl false 0 2 m),(11,AV.rsl false 0 2 m1),(12,zi n),(13,zi i)] []),(Hp.mk [(0,[AV.rw zO g9])] 1 [] 0 1000 1000))):=by rw [← fvC_eq Tryz.prog (gam (nakG Tryz.prog)) (lam ([])) false 100]; kernel_rfl
def nklT:nklX×Nat→RT Out:=foldT (fun a=>a.d.len) (fun a=>decide (a.n=(a.d.len:Int)∧a.m=a.d.len∧a.m1=a.d.len)) (fun a i=>nklF a i (nkR a.l a.d i)) (fun a i=>nklH a i (nkR a.l a.d i))
def nakLs (P:Program):List (FuncId×Nat×BSpec):=[(186,0,altB (knT 12) (runB P (nakG P) 100 186 0) (loopS P nklL nklDec nklT))]
def nkV (ask l:D) (i:Nat):D:=.t [.i (optT ask i),bif decide (0≤plaI l (optT ask i)) then optB l (plaI l (optT ask i)).toNat else optB ask i]
def nkD (ask l:D):D:=tabD (nkV ask l) ask.len
def FNak:List AV→RT AV
  | [.sl false [.int .i64,.sl [.int .u8]] d none,.sl false [.int .i64,.sl [.int .u8]] l none]=>need false (decide (d.len*32≤140737488355328)) 289 (.ok (asl opS (nkD d l)))
  | _=>.bad 289
theorem seqDec_0:∀ F h x,seqDec F h=some x→∃ a,x=(a,0)∧F=seqF a 0∧h=seqH a 0:=by
  intro F h x hx
  unfold seqDec at hx
  split at hx
  · rename_i hd
    cases hx
    obtain ⟨h1,h2⟩:=cdS_ok hd
    exact ⟨_,rfl,h1,h2⟩
  · cases hx
theorem seqDec_ok:∀ F h x,seqDec F h=some x→F=seqF x.1 x.2∧h=seqH x.1 x.2:=by
  intro F h x hx
  obtain ⟨a,rfl,h1,h2⟩:=seqDec_0 F h x hx
  exact ⟨h1,h2⟩
theorem nklDec_0:∀ F h x,nklDec F h=some x→∃ a,x=(a,0)∧F=nklF a 0 a.d∧h=nklH a 0 a.d:=by
  intro F h x hx
  unfold nklDec at hx
  split at hx
  · rename_i hd
    cases hx
    obtain ⟨h1,h2⟩:=cdS_ok hd
    exact ⟨_,rfl,h1,h2⟩
  · cases hx
theorem seq_loop:LamE Tryz.prog 215 0 (loopS Tryz.prog seqL seqDec seqT):=by
  refine search_loop (gs:=[]) (ls:=[]) mixed trivial trivial _ 0 100 (by kernel_rfl) seqL (by intro h; cases h) (by intro h; cases h) (fun F h x hx=>seqDec_ok F h x hx) ?_
  rintro ⟨x,y,n⟩ i K hn hi H1 H2 H3
  obtain ⟨rfl,hxy⟩:n=(x.len:Int)∧x.len=y.len:=odt hn
  dsimp only at hi H1 H2 H3
  have hm:=x.len_le
  show (roundT seqL (evC _ _ _ _ _ _ (seqF ⟨x,y,x.len⟩ i) (seqH ⟨x,y,x.len⟩ 0))).holds _
  unfold seqL seqF seqH
  rw [seq_body]
  simp only [Int.toNat_natCast]
  refine ⟨fun h1=>⟨fun h2=>⟨fun h3=>⟨fun h4=>?_,fun h4=>?_⟩,fun h3=>?_⟩,fun h2=>?_⟩,fun h1=>?_⟩
  all_goals simp only [decide_eq_true_eq,decide_eq_false_iff_not] at h1
  · refine H2 (by omega) ?_
    unfold eqBy; rw [← Bool.not_eq_true',← bne]; exact h4
  · rw [wrap_succ (by omega) hm]
    refine H1 (by omega) ?_
    unfold eqBy; rw [bne,Bool.not_eq_false'] at h4; exact h4
  · have:=odf h3; omega
  · have:=odf h2; omega
  · obtain rfl:i=x.len:=by omega
    exact H3 rfl
theorem seqLs_ok:LamL Tryz.prog (seqLs Tryz.prog):=⟨seq_loop,trivial⟩
theorem ows_raw (d:D):evF Tryz.prog (gam (golG Tryz.prog)) (lam (owsLs Tryz.prog)) 100 185 [asl opS d] hp0 =
RT.br (decide ((↑(D.len d):Int)=(↑(D.len d):Int)∧D.len d*32≤140737488355328)&&true) (RT.ok (AV.sl false zO (tabD (copE d) (D.len d)) (some (0,1000)),(Hp.mk [] 0 [(0,1000,92)] 1 1001 1000))) (RT.bad 210):=by kernel_rfl
theorem seq_tree (x y:D):treeF (evF Tryz.prog (gam ([])) (lam (seqLs Tryz.prog)) 100 215) [asl byS x,asl byS y] =
RT.br ((↑(D.len x):Int) != (↑(D.len y):Int)) (RT.ok (AV.sc true (Value.bool false))) (RT.br (decide ((↑(D.len x):Int)=(↑(D.len x):Int)∧D.len x=D.len y)&&true) (RT.br (okFrom (eqBy x y) (D.len x - 0) 0) (RT.ok (AV.sc true (Value.bool true))) (RT.ok (zb false))) (RT.bad 210)):=by rw [← fvF_eq Tryz.prog (gam ([])) (lam (seqLs Tryz.prog)) false 100 215]; kernel_rfl
theorem seq_soundF:SoundF Tryz.prog 215 (pureS Tryz.prog 215 FEqB):=by
  refine pure_in (gs:=[]) (ls:=seqLs Tryz.prog) mixed trivial seqLs_ok 215 100 fun args K ho H=>?_
  unfold FEqB at H
  split at H
  · rename_i x y
    rw [seq_tree]
    have hxy:((x.len:Int) != (y.len:Int))=false→x.len=y.len:=fun h=>by
      rw [bne,Bool.not_eq_false'] at h
      have:=eq_of_beq h
      omega
    refine ⟨fun h=>⟨_,le_bool ?_,H⟩,fun h=>⟨fun _=>⟨fun h2=>⟨_,le_bool ?_,H⟩,fun h2=>⟨_,le_bool ?_,H⟩⟩,fun h3=>?_⟩⟩
    · unfold eqB; rw [def_ (by rw [bne_iff_ne] at h; omega)]; rfl
    all_goals have h1:x.len=y.len:=hxy h
    · unfold eqB; rw [det h1,show okFrom (eqBy x y) x.len 0=true from h2]; rfl
    · unfold eqB; rw [det h1,show okFrom (eqBy x y) x.len 0=false from h2]; rfl
    · rw [Bool.and_true] at h3
      exact absurd ⟨rfl,h1⟩ (odf h3)
  · exact H.elim
theorem owsRow_soundF:SoundF Tryz.prog 185 owsRowS:=by
  intro args h K H w0 G E w vals I hr
  unfold owsRowS at H
  split at H
  rotate_left
  · exact H.elim
  rename_i kn es d tip
  cases hes:Sh.eqsL es opS
  · rw [hes] at H; exact H.elim
  rw [hes,cond_true] at H
  obtain rfl:=Sh.eqsL_eq _ _ hes
  obtain ⟨hsz,H⟩:=need_holds H
  have hsz:=odt hsz
  obtain ⟨v0,vs',rfl,⟨hl,_⟩,h3⟩:=hr
  have I2:=(I.ren (os:=[]) (ks:=[]) (g0:=0) .nil .nil (by simp) 0).top
  have hr2:RelL (E.ren [] [] 0) [asl opS d] (v0 :: vs'):=⟨v0,vs',rfl,⟨hl,trivial⟩,h3⟩
  have hd:(decide ((d.len:Int)=(d.len:Int)∧d.len*32≤140737488355328)&&true)=true:=by rw [Bool.and_true]; exact det ⟨rfl,hsz⟩
  refine (evF_ok mixed (gam_ok golG_ok) (lam_ok owsLs_ok) 100 185 [asl opS d] hp0 (fun x=>x=(.sl false opS (tabD (copE d) d.len) (some (0,1000)),⟨[],0,[(0,1000, 92)],1,1001,1000⟩)) ?_ w _ _ w (v0 :: vs') I2 hr2).mono ?_
  · rw [ows_raw,hd]
    exact holds_t rfl
  rintro e w' ⟨r,h',v,E',hK,rfl,S,hv⟩
  have hK1:=congrArg Prod.fst hK
  have hK2:=congrArg Prod.snd hK
  dsimp only at hK1 hK2
  subst hK1; subst hK2
  have hno:∀ b,¬ (E.ren [] [] 0).mine b:=by
    rintro b (⟨o,⟨p,hp,_⟩,_⟩ | ⟨k,hk,_⟩)
    · simp at hp
    · simp [Env.ren] at hk
  have hbel:Below w.heap.size w w':=S.inv.kpt.below fun k hk=>absurd hk (hno k)
  have hzn:∀ b j u,E'.Z b j=some u→E.Z b j=some u∨w.heap.size≤b:=fun b j u hz=>by
    rcases S.zn b j u hz with h | h | h
    · exact .inl h
    · exact .inr h
    · exact absurd h (hno b)
  have hlen:(tabD (copE d) d.len).len=d.len:=tabD_len d.len_le
  rcases brk_holds H with ⟨h0,H⟩ | ⟨h0,H⟩
  · have h0:=odt h0
    refine ⟨_,h,v,_,H,rfl,I.fresh hbel,?_⟩
    obtain ⟨⟨hbd,ad,cap,rfl,hlc,hcm,hcn,_⟩,_⟩:=hv
    rw [hlen,h0]
    exact ⟨⟨by show 0*_≤_; rw [Nat.zero_mul]; exact Nat.zero_le _,ad,cap,rfl,Nat.zero_le _,hcm,hcn,fun hn=>absurd rfl hn⟩,trivial⟩
  · have h0:=odf h0
    obtain ⟨E2,S2,hv2⟩:=opt_row (kn2:=kn) I hbel S.inv hno hzn hv (Nat.lt_succ_self 0) rfl (by kernel_rfl) (by rw [hlen]; exact h0)
    exact ⟨_,_,v,E2,H,rfl,S2,hv2⟩
theorem nakG_ok:GamL Tryz.prog (nakG Tryz.prog):=⟨cloneb_soundF,pla_soundF,owsRow_soundF,trivial⟩
theorem nkR_len (l d:D):∀ i,(nkR l d i).len=d.len
  | 0=>rfl
  | i+1=>by
    show (bif _ then _ else _:D).len=_
    cases decide (0≤plaI l (optT (nkR l d i) i))
    · exact nkR_len l d i
    · rw [cond_true,setE_len]; exact nkR_len l d i
theorem plaI_lt {l:D} {t:Int} (h:0≤plaI l t):(plaI l t).toNat<l.len∧plaI l t<l.len:=by
  unfold plaI at h ⊢
  cases ho:okFrom (neT l t) l.len 0
  · obtain ⟨_,h2,_⟩:=badFrom_at ho
    simp only [cond_false,Int.toNat_natCast]
    exact ⟨by omega,by omega⟩
  · rw [ho,cond_true] at h; omega
theorem nkl_loop:LamE Tryz.prog 186 0 (loopS Tryz.prog nklL nklDec nklT):=by
  refine fold_loop (gs:=nakG Tryz.prog) (ls:=[]) mixed nakG_ok trivial _ 0 100 (by kernel_rfl) nklL (fun F h x hx=>by obtain ⟨a,rfl,h1,h2⟩:=nklDec_0 F h x hx; exact ⟨h1,h2⟩) ?_
  rintro ⟨l,m,m1,n,d⟩ i K hok hi H1 H2
  dsimp only at hok hi H1 H2
  have hm:=d.len_le
  obtain ⟨rfl,rfl,rfl⟩:=odt hok
  have l0:=nkR_len l d i
  have go:∀ x0,i<d.len→nkR l d (i+1)=x0→K (.normal,nklF ⟨l,d.len,d.len,d.len,d⟩ (i+1) x0,nklH ⟨l,d.len,d.len,d.len,d⟩ (i+1) x0):=by
    intro x0 hlt; rintro rfl; exact H1 hlt
  show (roundT nklL (evC _ _ _ _ _ _ (nklF ⟨l,d.len,d.len,d.len,d⟩ i (nkR l d i)) (nklH ⟨l,d.len,d.len,d.len,d⟩ i (nkR l d i)))).holds _
  unfold nklL nklF nklH
  rw [nkl_body]
  simp only [Int.toNat_natCast]
  refine ⟨fun h1=>?_,fun h1=>?_⟩
  rotate_left
  · obtain rfl:i=d.len:=by have:=odf h1; omega
    exact H2 rfl
  have hlt:i<d.len:=by have:=odt h1; omega
  rw [wrap_succ hlt hm]
  clear H1 H2
  have hI:decide (0≤(i:Int)∧(i:Int)<(d.len:Int))=true:=det ⟨by omega,by omega⟩
  have hJ:decide (i<(nkR l d i).len)=true:=det (by omega)
  rw [hI,hJ]
  refine holds_t (holds_t ⟨fun h=>⟨fun _=>holds_t (holds_t ?_),fun h'=>?_⟩,fun h=>?_⟩)
  · refine go _ hlt ?_
    show (bif decide (0≤plaI l (optT (nkR l d i) i)) then _ else _:D)=_
    rw [show decide (0≤plaI l (optT (nkR l d i) i))=true from h]; rfl
  · have h:=odt h
    exact absurd ⟨h,(plaI_lt h).2⟩ (odf h')
  · refine go _ hlt ?_
    show (bif decide (0≤plaI l (optT (nkR l d i) i)) then _ else _:D)=_
    rw [show decide (0≤plaI l (optT (nkR l d i) i))=false from h]; rfl
theorem nakLs_ok:LamL Tryz.prog (nakLs Tryz.prog):=⟨altB_ok (runB_ok mixed nakG_ok _ 0 100 (by kernel_rfl)) nkl_loop,trivial⟩
theorem nak_tree (d l:D):treeR (evF Tryz.prog (gam (nakG Tryz.prog)) (lam (nakLs Tryz.prog)) 100 186) [asl opS d,asl opS l] =
RT.br (decide (D.len d*32≤140737488355328)) (RT.br (decide (D.len d=0)) (RT.ok (AV.sl true zO (D.l []) none)) (RT.br (decide ((↑(D.len (tabD (copE d) (D.len d))):Int)=(↑(D.len (tabD (copE d) (D.len d))):Int)∧Int.toNat (Int.ofNat (D.len (tabD (copE d) (D.len d))))=D.len (tabD (copE d) (D.len d))∧Int.toNat (Int.ofNat (D.len (tabD (copE d) (D.len d))))=D.len (tabD (copE d) (D.len d)))&&true) (RT.br (decide (Int.toNat (Int.ofNat (D.len (tabD (copE d) (D.len d))))=D.len (nkR l (tabD (copE d) (D.len d)) (D.len (tabD (copE d) (D.len d)))))) (RT.ok (zs zO (nkR l (tabD (copE d) (D.len d)) (D.len (tabD (copE d) (D.len d)))))) (RT.bad 213)) (RT.bad 210))) (RT.bad 287):=by rw [← fvF_eq Tryz.prog (gam (nakG Tryz.prog)) (lam (nakLs Tryz.prog)) false 100 186]; kernel_rfl
theorem holds_t_of {α:Type} {b:Bool} {x y:RT α} {Q:α→Prop} (hb:b=true) (h:x.holds Q):(RT.br b x y).holds Q:=⟨fun _=>h,fun h=>by rw [hb] at h; cases h⟩
theorem FNak_inv {args:List AV} {K:AV→Prop} (H:(FNak args).holds K):∃ d l,args=[asl opS d,asl opS l]∧d.len*32≤140737488355328∧K (asl opS (nkD d l)):=by
  unfold FNak at H
  split at H
  · rename_i d l
    obtain ⟨hc,H⟩:=need_holds H
    exact ⟨d,l,rfl,odt hc,H⟩
  · exact H.elim
theorem nkR_at (l d:D):∀ i,i≤d.len→∀ q,optT (nkR l d i) q=optT d q∧optB (nkR l d i) q=bif decide (q<i∧0≤plaI l (optT d q)) then optB l (plaI l (optT d q)).toNat else optB d q
  | 0,_,q=>⟨rfl,by rw [def_ (by omega)]; rfl⟩
  | i+1,h,q=>by
    have ih:=nkR_at l d i (by omega)
    have hT:optT (nkR l d i) i=optT d i:=(ih i).1
    cases hc:decide (0≤plaI l (optT (nkR l d i) i))
    · have e:nkR l d (i+1)=nkR l d i:=by
        show (bif decide (0≤plaI l (optT (nkR l d i) i)) then _ else _:D)=_
        rw [hc]; rfl
      rw [e]
      refine ⟨(ih q).1,(ih q).2.trans ?_⟩
      have hc:=odf hc
      rw [hT] at hc
      have:decide (q<i∧0≤plaI l (optT d q))=decide (q<i+1∧0≤plaI l (optT d q)):=by
        rw [decide_eq_decide]
        constructor
        · rintro ⟨a,b⟩; exact ⟨by omega,b⟩
        · rintro ⟨a,b⟩
          refine ⟨?_,b⟩
          rcases Nat.lt_or_ge q i with h | h
          · exact h
          · obtain rfl:q=i:=by omega
            exact absurd b hc
      rw [this]
    · have e:nkR l d (i+1)=(nkR l d i).setE i (nkE l (nkR l d i) i):=by
        show (bif decide (0≤plaI l (optT (nkR l d i) i)) then _ else _:D)=_
        rw [hc]; rfl
      have hc:=odt hc
      rw [hT] at hc
      unfold optT optB
      rw [e,setE_get (by rw [nkR_len]; omega)]
      by_cases hq:q=i
      · subst hq
        rw [if_pos rfl,det ⟨Nat.lt_succ_self q,hc⟩]
        exact ⟨hT,by show optB l (plaI l (optT (nkR l d q) q)).toNat=_; rw [hT]; rfl⟩
      · rw [if_neg hq]
        refine ⟨(ih q).1,(ih q).2.trans ?_⟩
        have:decide (q<i∧0≤plaI l (optT d q))=decide (q<i+1∧0≤plaI l (optT d q)):=by
          rw [decide_eq_decide]
          constructor
          · rintro ⟨a,b⟩; exact ⟨by omega,b⟩
          · rintro ⟨a,b⟩; exact ⟨by omega,b⟩
        rw [this]
        rfl
theorem optT_cop (d:D) {q:Nat} (hq:q<d.len):optT (tabD (copE d) d.len) q=optT d q∧optB (tabD (copE d) d.len) q=optB d q:=by
  unfold optT optB
  rw [tabD_get d.len_le hq]
  exact ⟨rfl,rfl⟩
theorem nak_soundF:SoundF Tryz.prog 186 (pureS Tryz.prog 186 FNak):=by
  refine pure_row (gs:=nakG Tryz.prog) (ls:=nakLs Tryz.prog) mixed nakG_ok nakLs_ok 186 100 fun args K ho H=>?_
  obtain ⟨d,l,hr,hc,H⟩:=FNak_inv H
  rw [hr,nak_tree]
  have hl:(nkD d l).len=d.len:=tabD_len d.len_le
  have ht:(tabD (copE d) d.len).len=d.len:=tabD_len d.len_le
  rw [nkR_len,ht,det hc]
  refine holds_t ⟨fun h=>⟨_,le_sl ?_ ?_,H⟩,fun h=>⟨fun _=>holds_t_of (det rfl) ⟨_,le_sl ?_ ?_,H⟩,fun h=>?_⟩⟩
  · rw [hl,odt h]; rfl
  · intro i hi
    exact absurd hi (Nat.not_lt_zero i)
  · rw [nkR_len,ht,hl]
  · intro i hi
    rw [nkR_len,ht] at hi
    have hV:(nkD d l).get i=nkV d l i:=tabD_get d.len_le hi
    obtain ⟨a,b⟩:=nkR_at l (tabD (copE d) d.len) d.len (by omega) i
    obtain ⟨c,e⟩:=optT_cop d hi
    rw [c] at a b
    rw [e] at b
    rw [hV]
    refine ⟨a,b.trans ?_,trivial⟩
    have:decide (i<d.len∧0≤plaI l (optT d i))=decide (0≤plaI l (optT d i)):=by
      rw [decide_eq_decide]; exact ⟨fun h=>h.2,fun h=>⟨hi,h⟩⟩
    rw [this]
    rfl
  · rw [Bool.and_true] at h
    exact absurd ⟨rfl,rfl,rfl⟩ (odf h)
def mtB (ask:D) (i:Nat) (q:D):Bool:=decide (0<q.len)&&(optT ask i==optT q 0&&eqB (optB ask i) (optB q 0))
def lAt (ask l:D):Nat→D
  | 0=>l
  | i+1=>bif mtB ask i (lAt ask l i) then (lAt ask l i).sub 1 (lAt ask l i).len else lAt ask l i
def mtK (ask l:D) (i k:Nat):Bool:=decide (k<l.len)&&(optT l k==optT ask i&&eqB (optB ask i) (optB l k))
def kAt (ask l:D):Nat→Nat
  | 0=>0
  | i+1=>bif mtK ask l i (kAt ask l i) then kAt ask l i+1 else kAt ask l i
def kAz (ask l:D) (i:Nat):Int:=(kAt ask l i:Nat)
def bkD (l:D) (t:Int) (x:D):Nat→D
  | 0=>x
  | m+1=>bif optT l (l.len - 1 - m)==t then optB l (l.len - 1 - m) else bkD l t x m
def kDn (k:Int):Nat→Int
  | 0=>k
  | i+1=>kDn k i - 1
def nilG (_:Program):List (FuncId×Spec):=[]
def rejG (P:Program):List (FuncId×Spec):=[(215,pureS P 215 FEqB),(213,pureS P 213 FOwnO)]
structure rjlX where
  (l ask:D)
  n:Int
def rjlL:Lw:=⟨[1,6,9,10,11],[(false,6,0, 92)],0,1,1000,1000⟩
def rjlF (a:rjlX) (i:Nat) (g0:D) (g8:D):Tm:=⟨48,[(1,.sl false opS g8 none),(6,.sl false opS g0 (some (0,1000))),(9,.sl false opS a.ask none),(10,zi a.n),(11,zi (i:Int))],[]⟩
def rjlH (a:rjlX) (i:Nat) (g0:D) (g8:D):Hp:=⟨[],0,[(0,1000, 92)],1,1001,1000⟩
def rjlC:Cs:=⟨48,[(1,.sl opS),(6,.nw opS 0 1000),(9,.sl opS),(10,.int .i64),(11,.lit (.sc false (.int .i64 0)))],[],0,[(0,1000, 92)],1,1001,1000⟩
noncomputable def rjlDec (F:Tm) (h:Hp):Option (rjlX×Nat):=match cdS rjlC F h with
  | some [v0,v1,v2]=>some (⟨v0,v1,v2.toI⟩,0)
  | _=>none
theorem rjl_body (ask:D) (n:Int) (i:Int) (g0:D) (g8:D):roundT (⟨[1,6,9,10,11],[(false,6,0, 92)],0,1,1000,1000⟩) (evC Tryz.prog (gam (rejG Tryz.prog)) (lam ([])) 100 187 (loopAt 0 (bodyOf Tryz.prog 187)) (⟨48,[(1,.sl false opS g8 none),(6,.sl false opS g0 (some (0,1000))),(9,.sl false opS ask none),(10,zi n),(11,zi i)],[]⟩) (⟨[],0,[(0,1000, 92)],1,1001,1000⟩)) =
RT.br (decide (i<n)) (RT.br (decide (0≤i∧i<(↑(D.len ask):Int))) (RT.br (decide (0<(↑(D.len g8):Int))) (RT.br (decide ((0:Int)≤0∧0<(↑(D.len g8):Int))) (RT.br (D.toI (D.cell (D.get ask (Int.toNat i)) 0)==D.toI (D.cell (D.get g8 0) 0)) (RT.br (decide ((0:Int)≤0∧0<(↑(D.len g8):Int))) (RT.br (eqB (D.cell (D.get ask (Int.toNat i)) 1) (D.cell (D.get g8 0) 1)) (RT.br (decide ((0:Int)≤1∧1≤(↑(D.len g8):Int)∧(↑(D.len g8):Int)≤(↑(D.len g8):Int)∧(↑(D.len g8):Int)≤(↑(D.len g8):Int))) (RT.ok (Ex.normal,(Tm.mk 48 [(1,zs zO (D.sub g8 1 (Int.toNat (↑(D.len g8):Int)))),(6,AV.sl false zO g0 (some (0,1000))),(9,zs zO ask),(10,zi n),(11,zi (IntKind.wrap IntKind.i64 (i+1)))] []),(Hp.mk [] 0 [(0,1000,92)] 1 1001 1000))) (RT.bad 37)) (RT.br (decide ((D.len g0+1)*32≤140737488355328)) (RT.ok (Ex.normal,(Tm.mk 48 [(1,zs zO g8),(6,AV.sl false zO (D.app g0 (D.l [D.t [D.i (D.toI (D.cell (D.get ask (Int.toNat i)) 0)),D.cell (D.get ask (Int.toNat i)) 1]])) (some (0,1000))),(9,zs zO ask),(10,zi n),(11,zi (IntKind.wrap IntKind.i64 (i+1)))] []),(Hp.mk [] 0 [(0,1000,92)] 1 1001 1000))) (RT.bad 70))) (RT.bad 42)) (RT.br (decide ((D.len g0+1)*32≤140737488355328)) (RT.ok (Ex.normal,(Tm.mk 48 [(1,zs zO g8),(6,AV.sl false zO (D.app g0 (D.l [D.t [D.i (D.toI (D.cell (D.get ask (Int.toNat i)) 0)),D.cell (D.get ask (Int.toNat i)) 1]])) (some (0,1000))),(9,zs zO ask),(10,zi n),(11,zi (IntKind.wrap IntKind.i64 (i+1)))] []),(Hp.mk [] 0 [(0,1000,92)] 1 1001 1000))) (RT.bad 70))) (RT.bad 42)) (RT.br (decide ((D.len g0+1)*32≤140737488355328)) (RT.ok (Ex.normal,(Tm.mk 48 [(1,zs zO g8),(6,AV.sl false zO (D.app g0 (D.l [D.t [D.i (D.toI (D.cell (D.get ask (Int.toNat i)) 0)),D.cell (D.get ask (Int.toNat i)) 1]])) (some (0,1000))),(9,zs zO ask),(10,zi n),(11,zi (IntKind.wrap IntKind.i64 (i+1)))] []),(Hp.mk [] 0 [(0,1000,92)] 1 1001 1000))) (RT.bad 70))) (RT.bad 42)) (RT.ok (Ex.exit 0,(Tm.mk 48 [(1,zs zO g8),(6,AV.sl false zO g0 (some (0,1000))),(9,zs zO ask),(10,zi n),(11,zi i)] []),(Hp.mk [] 0 [(0,1000,92)] 1 1001 1000))):=by rw [← fvC_eq Tryz.prog (gam (rejG Tryz.prog)) (lam ([])) false 100]; kernel_rfl
structure rr4X where
  (ask l:D)
def rr4L:Lw:=⟨[0,2,8,12,13],[(false,8,0, 92)],0,1,1000,1000⟩
def rr4F (a:rr4X) (i:Nat) (g0:D) (g7:Int):Tm:=⟨117,[(0,.sl false opS a.ask none),(2,.sl false opS a.l none),(8,.sl false opS g0 (some (0,1000))),(12,zi g7),(13,zi (i:Int))],[]⟩
def rr4H (a:rr4X) (i:Nat) (g0:D) (g7:Int):Hp:=⟨[],0,[(0,1000, 92)],1,1001,1000⟩
def rr4C:Cs:=⟨117,[(0,.sl opS),(2,.sl opS),(8,.nw opS 0 1000),(12,.lit (.sc false (.int .i64 0))),(13,.lit (.sc false (.int .i64 0)))],[],0,[(0,1000, 92)],1,1001,1000⟩
noncomputable def rr4Dec (F:Tm) (h:Hp):Option (rr4X×Nat):=match cdS rr4C F h with
  | some [v0,v1]=>some (⟨v0,v1⟩,0)
  | _=>none
theorem rr4_body (ask:D) (l:D) (i:Int) (g0:D) (g7:Int):roundT (⟨[0,2,8,12,13],[(false,8,0, 92)],0,1,1000,1000⟩) (evC Tryz.prog (gam (nilG Tryz.prog)) (lam ([])) 100 194 (loopAt 4 (bodyOf Tryz.prog 194)) (⟨117,[(0,.sl false opS ask none),(2,.sl false opS l none),(8,.sl false opS g0 (some (0,1000))),(12,zi g7),(13,zi i)],[]⟩) (⟨[],0,[(0,1000, 92)],1,1001,1000⟩)) =
RT.br (decide (i<(↑(D.len ask):Int))) (RT.br (decide (g7<(↑(D.len l):Int))) (RT.br (decide (0≤g7∧g7<(↑(D.len l):Int))) (RT.br (decide (0≤i∧i<(↑(D.len ask):Int))) (RT.br (D.toI (D.cell (D.get l (Int.toNat g7)) 0)==D.toI (D.cell (D.get ask (Int.toNat i)) 0)) (RT.br (decide (0≤g7∧g7<(↑(D.len l):Int))) (RT.br (decide (0≤i∧i<(↑(D.len ask):Int))) (RT.br (ByteArray.toList (D.str (D.cell (D.get l (Int.toNat g7)) (Nat.succ 0)))==ByteArray.toList (D.str (D.cell (D.get ask (Int.toNat i)) (Nat.succ 0)))) (RT.ok (Ex.normal,(Tm.mk 117 [(0,zs zO ask),(2,zs zO l),(8,AV.sl false zO g0 (some (0,1000))),(12,zi (IntKind.wrap IntKind.i64 (g7+1))),(13,zi (IntKind.wrap IntKind.i64 (i+1)))] []),(Hp.mk [] 0 [(0,1000,92)] 1 1001 1000))) (RT.br (decide (0≤i∧i<(↑(D.len ask):Int))) (RT.br (decide ((D.len g0+1)*32≤140737488355328)) (RT.ok (Ex.normal,(Tm.mk 117 [(0,zs zO ask),(2,zs zO l),(8,AV.sl false zO (D.app g0 (D.l [D.t [D.i (D.toI (D.cell (D.get ask (Int.toNat i)) 0)),D.cell (D.get ask (Int.toNat i)) 1]])) (some (0,1000))),(12,zi g7),(13,zi (IntKind.wrap IntKind.i64 (i+1)))] []),(Hp.mk [] 0 [(0,1000,92)] 1 1001 1000))) (RT.bad 70)) (RT.bad 42))) (RT.bad 42)) (RT.bad 42)) (RT.br (decide (0≤i∧i<(↑(D.len ask):Int))) (RT.br (decide ((D.len g0+1)*32≤140737488355328)) (RT.ok (Ex.normal,(Tm.mk 117 [(0,zs zO ask),(2,zs zO l),(8,AV.sl false zO (D.app g0 (D.l [D.t [D.i (D.toI (D.cell (D.get ask (Int.toNat i)) 0)),D.cell (D.get ask (Int.toNat i)) 1]])) (some (0,1000))),(12,zi g7),(13,zi (IntKind.wrap IntKind.i64 (i+1)))] []),(Hp.mk [] 0 [(0,1000,92)] 1 1001 1000))) (RT.bad 70)) (RT.bad 42))) (RT.bad 42)) (RT.bad 42)) (RT.br (decide (0≤i∧i<(↑(D.len ask):Int))) (RT.br (decide ((D.len g0+1)*32≤140737488355328)) (RT.ok (Ex.normal,(Tm.mk 117 [(0,zs zO ask),(2,zs zO l),(8,AV.sl false zO (D.app g0 (D.l [D.t [D.i (D.toI (D.cell (D.get ask (Int.toNat i)) 0)),D.cell (D.get ask (Int.toNat i)) 1]])) (some (0,1000))),(12,zi g7),(13,zi (IntKind.wrap IntKind.i64 (i+1)))] []),(Hp.mk [] 0 [(0,1000,92)] 1 1001 1000))) (RT.bad 70)) (RT.bad 42))) (RT.ok (Ex.exit 4,(Tm.mk 117 [(0,zs zO ask),(2,zs zO l),(8,AV.sl false zO g0 (some (0,1000))),(12,zi g7),(13,zi i)] []),(Hp.mk [] 0 [(0,1000,92)] 1 1001 1000))):=by rw [← fvC_eq Tryz.prog (gam (nilG Tryz.prog)) (lam ([])) false 100]; kernel_rfl
structure rn2X where
  (ask l b:D)
  (j kk t:Int)
  x:D
def rn2L:Lw:=⟨[0,2,8,9,10,11],[],1,1,2000,2000⟩
def rn2F (a:rn2X) (i:Nat) (g9:D):Tm:=⟨117,[(0,.sl false opS a.ask none),(2,.sl false opS a.l none),(8,.sl false opS a.b (some (0,2000))),(9,zi a.j),(10,.ptr 0 0),(11,zi (kDn a.kk i))],[]⟩
def rn2H (a:rn2X) (i:Nat) (g9:D):Hp:=⟨[(0,[zi a.t,.sl false byS g9 none])],1,[(0,2000, 92)],1,2001,2000⟩
def rn2C:Cs:=⟨117,[(0,.sl opS),(2,.sl opS),(8,.tp opS 0 2000),(9,.int .i64),(10,.lit (.ptr 0 0)),(11,.int .i64)],[(0,[.int .i64,.sl byS])],1,[(0,2000, 92)],1,2001,2000⟩
noncomputable def rn2Dec (F:Tm) (h:Hp):Option (rn2X×Nat):=match cdS rn2C F h with
  | some [v0,v1,v2,v3,v4,v5,v6]=>some (⟨v0,v1,v2,v3.toI,v4.toI,v5.toI,v6⟩,0)
  | _=>none
theorem rn2_body (ask:D) (l:D) (b:D) (j:Int) (t:Int) (i:Int) (g9:D):roundT (⟨[0,2,8,9,10,11],[],1,1,2000,2000⟩) (evC Tryz.prog (gam (nilG Tryz.prog)) (lam ([])) 100 194 (loopAt 2 (bodyOf Tryz.prog 194)) (⟨117,[(0,.sl false opS ask none),(2,.sl false opS l none),(8,.sl false opS b (some (0,2000))),(9,zi j),(10,.ptr 0 0),(11,zi i)],[]⟩) (⟨[(0,[zi t,.sl false byS g9 none])],1,[(0,2000, 92)],1,2001,2000⟩)) =
RT.br (decide (0≤i)) (RT.br (decide (0≤i∧i<(↑(D.len l):Int))) (RT.br (D.toI (D.cell (D.get l (Int.toNat i)) 0)==t) (RT.br (decide (0≤i∧i<(↑(D.len l):Int))) (RT.ok (Ex.normal,(Tm.mk 117 [(0,zs zO ask),(2,zs zO l),(8,AV.sl false zO b (some (0,2000))),(9,zi j),(10,AV.ptr 0 0),(11,zi (IntKind.wrap IntKind.i64 (i - 1)))] []),(Hp.mk [(0,[zi t,zs zU (D.cell (D.get l (Int.toNat i)) 1)])] 1 [(0,2000,92)] 1 2001 2000))) (RT.bad 42)) (RT.ok (Ex.normal,(Tm.mk 117 [(0,zs zO ask),(2,zs zO l),(8,AV.sl false zO b (some (0,2000))),(9,zi j),(10,AV.ptr 0 0),(11,zi (IntKind.wrap IntKind.i64 (i - 1)))] []),(Hp.mk [(0,[zi t,zs zU g9])] 1 [(0,2000,92)] 1 2001 2000)))) (RT.bad 42)) (RT.ok (Ex.exit 2,(Tm.mk 117 [(0,zs zO ask),(2,zs zO l),(8,AV.sl false zO b (some (0,2000))),(9,zi j),(10,AV.ptr 0 0),(11,zi i)] []),(Hp.mk [(0,[zi t,zs zU g9])] 1 [(0,2000,92)] 1 2001 2000))):=by rw [← fvC_eq Tryz.prog (gam (nilG Tryz.prog)) (lam ([])) false 100]; kernel_rfl
def rjlT:rjlX×Nat→RT Out:=foldT (fun a=>a.ask.len) (fun a=>decide (a.n=(a.ask.len:Int)∧a.ask.len*32≤room)) (fun a i=>rjlF a i (filD (fun j=>!mtB a.ask j (lAt a.ask a.l j)) (copE a.ask) i) (lAt a.ask a.l i)) (fun a i=>rjlH a i (filD (fun j=>!mtB a.ask j (lAt a.ask a.l j)) (copE a.ask) i) (lAt a.ask a.l i))
def rr4T:rr4X×Nat→RT Out:=foldT (fun a=>a.ask.len) (fun a=>decide (a.ask.len*32≤room)&&(optsB a.ask&&optsB a.l)) (fun a i=>rr4F a i (filD (fun j=>!mtK a.ask a.l j (kAt a.ask a.l j)) (copE a.ask) i) (kAz a.ask a.l i)) (fun a i=>rr4H a i (filD (fun j=>!mtK a.ask a.l j (kAt a.ask a.l j)) (copE a.ask) i) (kAz a.ask a.l i))
def rn2T:rn2X×Nat→RT Out:=foldT (fun a=>a.l.len) (fun a=>decide (a.kk=(a.l.len:Int) - 1)) (fun a i=>rn2F a i (bkD a.l a.t a.x i)) (fun a i=>rn2H a i (bkD a.l a.t a.x i))
def rejLs (P:Program):List (FuncId×Nat×BSpec):=[(187,0,loopS P rjlL rjlDec rjlT)]
def rn2Ls (P:Program):List (FuncId×Nat×BSpec):=[(194,2,loopS P rn2L rn2Dec rn2T)]
theorem rjlDec_0:∀ F h x,rjlDec F h=some x→∃ a,x=(a,0)∧F=rjlF a 0 (.l []) a.l∧h=rjlH a 0 (.l []) a.l:=by
  intro F h x hx
  unfold rjlDec at hx
  split at hx
  · rename_i hd
    cases hx
    obtain ⟨h1,h2⟩:=cdS_ok hd
    exact ⟨_,rfl,h1,h2⟩
  · cases hx
theorem rr4Dec_0:∀ F h x,rr4Dec F h=some x→∃ a,x=(a,0)∧F=rr4F a 0 (.l []) 0∧h=rr4H a 0 (.l []) 0:=by
  intro F h x hx
  unfold rr4Dec at hx
  split at hx
  · rename_i hd
    cases hx
    obtain ⟨h1,h2⟩:=cdS_ok hd
    exact ⟨_,rfl,h1,h2⟩
  · cases hx
theorem rn2Dec_0:∀ F h x,rn2Dec F h=some x→∃ a,x=(a,0)∧F=rn2F a 0 a.x∧h=rn2H a 0 a.x:=by
  intro F h x hx
  unfold rn2Dec at hx
  split at hx
  · rename_i hd
    cases hx
    obtain ⟨h1,h2⟩:=cdS_ok hd
    exact ⟨_,rfl,h1,h2⟩
  · cases hx
theorem rejG_ok:GamL Tryz.prog (rejG Tryz.prog):=⟨seq_soundF,owo_soundF,trivial⟩
theorem nilG_ok:GamL Tryz.prog (nilG Tryz.prog):=trivial
theorem str_toL (x:D):x.str.toList=x.toL.map fun e=>UInt8.ofNat (e.cell 0).toI.toNat:=by
  unfold D.str
  rw [ByteArray.toList_eq]
theorem toL_get {x:D} {j:Nat} (h:j<x.toL.length):x.toL[j]=x.get j:=by
  unfold D.get
  rw [List.getD_eq_getElem?_getD,List.getElem?_eq_getElem h]; rfl
theorem str_eqB {x y:D} (hx:∀ j,j<x.len→byR (byA x j)) (hy:∀ j,j<y.len→byR (byA y j)):(x.str.toList==y.str.toList)=eqB x y:=by
  rw [str_toL,str_toL,Bool.eq_iff_iff,beq_iff_eq]
  unfold eqB
  rw [Bool.and_eq_true,decide_eq_true_eq,okFrom_iff]
  constructor
  · intro h
    have hl:x.len=y.len:=by have:=congrArg List.length h; simpa [D.len] using this
    refine ⟨hl,fun j _ hj=>?_⟩
    have hj1:j<x.toL.length:=by unfold D.len at hj; omega
    have hj2:j<y.toL.length:=by unfold D.len at hl; omega
    have h1:=congrArg (fun l=>l[j]?) h
    simp only [List.getElem?_map,List.getElem?_eq_getElem hj1,List.getElem?_eq_getElem hj2,Option.map_some,Option.some.injEq] at h1
    rw [toL_get hj1,toL_get hj2] at h1
    have a:=hx j hj1
    have b:=hy j hj2
    unfold byR byA at a b
    unfold eqBy byA
    have h2:=congrArg UInt8.toNat h1
    rw [UInt8.toNat_ofNat',UInt8.toNat_ofNat'] at h2
    rw [beq_iff_eq]
    omega
  · rintro ⟨hl,h⟩
    refine List.ext_getElem (by simpa [D.len] using hl) fun j h1 h2=>?_
    simp only [List.length_map] at h1 h2
    rw [List.getElem_map,List.getElem_map,toL_get h1,toL_get h2]
    have:=h j (Nat.zero_le _) (by unfold D.len; omega)
    unfold eqBy byA at this
    rw [eq_of_beq this]
theorem eqB_comm (x y:D):eqB x y=eqB y x:=by
  unfold eqB
  rw [Bool.eq_iff_iff,Bool.and_eq_true,Bool.and_eq_true,decide_eq_true_eq,decide_eq_true_eq,okFrom_iff,okFrom_iff]
  constructor
  · rintro ⟨a,b⟩; exact ⟨a.symm,fun j h1 h2=>by have:=b j h1 (by omega); unfold eqBy at this ⊢; rw [beq_iff_eq] at this ⊢; exact this.symm⟩
  · rintro ⟨a,b⟩; exact ⟨a.symm,fun j h1 h2=>by have:=b j h1 (by omega); unfold eqBy at this ⊢; rw [beq_iff_eq] at this ⊢; exact this.symm⟩
theorem lAt_succ (ask l:D) (i:Nat):lAt ask l (i+1)=bif mtB ask i (lAt ask l i) then (lAt ask l i).sub 1 (lAt ask l i).len else lAt ask l i:=rfl
theorem kAt_succ (ask l:D) (i:Nat):kAt ask l (i+1)=bif mtK ask l i (kAt ask l i) then kAt ask l i+1 else kAt ask l i:=rfl
theorem kAt_le (ask l:D):∀ i,kAt ask l i≤l.len∧kAt ask l i≤i
  | 0=>⟨Nat.zero_le _,Nat.le_refl _⟩
  | i+1=>by
    have ⟨h1,h2⟩:=kAt_le ask l i
    rw [kAt_succ]
    cases hc:mtK ask l i (kAt ask l i)
    · exact ⟨h1,by simp only [cond_false]; omega⟩
    · unfold mtK at hc
      rw [Bool.and_eq_true] at hc
      have:=odt hc.1
      exact ⟨by simp only [cond_true]; omega,by simp only [cond_true]; omega⟩
theorem rjl_loop:LamE Tryz.prog 187 0 (loopS Tryz.prog rjlL rjlDec rjlT):=by
  refine fold_loop (gs:=rejG Tryz.prog) (ls:=[]) mixed rejG_ok trivial _ 0 100 (by kernel_rfl) rjlL (fun F h x hx=>by obtain ⟨a,rfl,h1,h2⟩:=rjlDec_0 F h x hx; exact ⟨h1,h2⟩) ?_
  rintro ⟨l,ask,n⟩ i K hok hi H1 H2
  dsimp only at hok hi H1 H2
  have hm:=ask.len_le
  obtain ⟨rfl,hrm⟩:=odt hok
  unfold room at hrm
  have l0:=filD_len_le (fun j=>!mtB ask j (lAt ask l j)) (copE ask) i
  have go:∀ x0 x1,i<ask.len→filD (fun j=>!mtB ask j (lAt ask l j)) (copE ask) (i+1)=x0→lAt ask l (i+1)=x1→K (.normal,rjlF ⟨l,ask,ask.len⟩ (i+1) x0 x1,rjlH ⟨l,ask,ask.len⟩ (i+1) x0 x1):=by
    intro x0 x1 hlt; rintro rfl rfl; exact H1 hlt
  show (roundT rjlL (evC _ _ _ _ _ _ (rjlF ⟨l,ask,ask.len⟩ i (filD (fun j=>!mtB ask j (lAt ask l j)) (copE ask) i) (lAt ask l i)) (rjlH ⟨l,ask,ask.len⟩ i (filD (fun j=>!mtB ask j (lAt ask l j)) (copE ask) i) (lAt ask l i)))).holds _
  unfold rjlL rjlF rjlH
  rw [rjl_body]
  simp only [Int.toNat_natCast]
  refine ⟨fun h1=>?_,fun h1=>?_⟩
  rotate_left
  · obtain rfl:i=ask.len:=by have:=odf h1; omega
    exact H2 rfl
  have hlt:i<ask.len:=by have:=odt h1; omega
  rw [wrap_succ hlt hm]
  clear H1 H2
  have hI:decide (0≤(i:Int)∧(i:Int)<(ask.len:Int))=true:=det ⟨by omega,by omega⟩
  have sz0:decide (((filD (fun j=>!mtB ask j (lAt ask l j)) (copE ask) i).len+1)*32≤140737488355328)=true:=det (by omega)
  rw [hI,sz0]
  have off:mtB ask i (lAt ask l i)=false→K (.normal,rjlF ⟨l,ask,ask.len⟩ (i+1) ((filD (fun j=>!mtB ask j (lAt ask l j)) (copE ask) i).app (.l [copE ask i])) (lAt ask l i),rjlH ⟨l,ask,ask.len⟩ (i+1) ((filD (fun j=>!mtB ask j (lAt ask l j)) (copE ask) i).app (.l [copE ask i])) (lAt ask l i)):=fun h=>by
    refine go _ _ hlt (filD_on (p:=fun j=>!mtB ask j (lAt ask l j)) (f:=copE ask) (by omega) (by show (!mtB ask i (lAt ask l i))=true; rw [h]; rfl)).symm ?_
    rw [lAt_succ,h]; rfl
  refine holds_t ⟨fun h2=>⟨fun _=>⟨fun h3=>⟨fun _=>⟨fun h4=>⟨fun _=>?_,fun h=>?_⟩,fun h4=>holds_t (off ?_)⟩,fun h=>?_⟩,fun h3=>holds_t (off ?_)⟩,fun h=>?_⟩,fun h2=>holds_t (off ?_)⟩
  · have hm:mtB ask i (lAt ask l i)=true:=by
      unfold mtB
      rw [Bool.and_eq_true,Bool.and_eq_true]
      exact ⟨det (by have:=odt h2; omega),h3,h4⟩
    refine go _ _ hlt (filD_off (p:=fun j=>!mtB ask j (lAt ask l j)) (by show (!mtB ask i (lAt ask l i))=false; rw [hm]; rfl)) ?_
    rw [lAt_succ,hm,cond_true]
  · have:=odt h2
    have:=odf h
    omega
  · unfold mtB; rw [Bool.and_eq_false_iff,Bool.and_eq_false_iff]; exact .inr (.inr h4)
  · have:=odt h2
    have:=odf h
    omega
  · unfold mtB; rw [Bool.and_eq_false_iff,Bool.and_eq_false_iff]; exact .inr (.inl h3)
  · have:=odt h2
    have:=odf h
    omega
  · unfold mtB; rw [Bool.and_eq_false_iff]; exact .inl (def_ (by have:=odf h2; omega))
theorem rr4_loop:LamE Tryz.prog 194 4 (loopS Tryz.prog rr4L rr4Dec rr4T):=by
  refine fold_loop (gs:=nilG Tryz.prog) (ls:=[]) mixed nilG_ok trivial _ 4 100 (by kernel_rfl) rr4L (fun F h x hx=>by obtain ⟨a,rfl,h1,h2⟩:=rr4Dec_0 F h x hx; exact ⟨h1,h2⟩) ?_
  rintro ⟨ask,l⟩ i K hok hi H1 H2
  dsimp only at hok hi H1 H2
  have hm:=ask.len_le
  simp only [Bool.and_eq_true,decide_eq_true_eq] at hok
  obtain ⟨hrm,hoa,hol⟩:=hok
  unfold room at hrm
  have l0:=filD_len_le (fun j=>!mtK ask l j (kAt ask l j)) (copE ask) i
  have hoa:=odt hoa
  have hol:=odt hol
  have go:∀ x0 x1,i<ask.len→filD (fun j=>!mtK ask l j (kAt ask l j)) (copE ask) (i+1)=x0→kAz ask l (i+1)=x1→K (.normal,rr4F ⟨ask,l⟩ (i+1) x0 x1,rr4H ⟨ask,l⟩ (i+1) x0 x1):=by
    intro x0 x1 hlt; rintro rfl rfl; exact H1 hlt
  show (roundT rr4L (evC _ _ _ _ _ _ (rr4F ⟨ask,l⟩ i (filD (fun j=>!mtK ask l j (kAt ask l j)) (copE ask) i) (kAz ask l i)) (rr4H ⟨ask,l⟩ i (filD (fun j=>!mtK ask l j (kAt ask l j)) (copE ask) i) (kAz ask l i)))).holds _
  unfold rr4L rr4F rr4H
  rw [rr4_body]
  simp only [Int.toNat_natCast]
  refine ⟨fun h1=>?_,fun h1=>?_⟩
  rotate_left
  · obtain rfl:i=ask.len:=by have:=odf h1; omega
    exact H2 rfl
  have hlt:i<ask.len:=by have:=odt h1; omega
  rw [wrap_succ hlt hm]
  clear H1 H2
  have hI:decide (0≤(i:Int)∧(i:Int)<(ask.len:Int))=true:=det ⟨by omega,by omega⟩
  have sz0:decide (((filD (fun j=>!mtK ask l j (kAt ask l j)) (copE ask) i).len+1)*32≤140737488355328)=true:=det (by omega)
  rw [hI,sz0]
  have off:mtK ask l i (kAt ask l i)=false→K (.normal,rr4F ⟨ask,l⟩ (i+1) ((filD (fun j=>!mtK ask l j (kAt ask l j)) (copE ask) i).app (.l [copE ask i])) (kAz ask l i),rr4H ⟨ask,l⟩ (i+1) ((filD (fun j=>!mtK ask l j (kAt ask l j)) (copE ask) i).app (.l [copE ask i])) (kAz ask l i)):=fun h=>by
    refine go _ _ hlt (filD_on (p:=fun j=>!mtK ask l j (kAt ask l j)) (f:=copE ask) (by omega) (by show (!mtK ask l i (kAt ask l i))=true; rw [h]; rfl)).symm ?_
    unfold kAz
    rw [kAt_succ,h]; rfl
  have hk:=kAt_le ask l i
  have hlm:=l.len_le
  have hz:kAz ask l i=((kAt ask l i:Nat):Int):=rfl
  have hzn:(kAz ask l i).toNat=kAt ask l i:=Int.toNat_natCast _
  have hK:kAz ask l i<(l.len:Int)→decide (0≤kAz ask l i∧kAz ask l i<(l.len:Int))=true:=fun h=>det ⟨by omega,h⟩
  refine ⟨fun h2=>?_,fun h2=>holds_t (holds_t (off ?_))⟩
  rotate_left
  · unfold mtK; rw [Bool.and_eq_false_iff]; exact .inl (def_ (by have:=odf h2; omega))
  have h2:=odt h2
  have hs:((D.str (optB l (kAt ask l i))).toList==(D.str (optB ask i)).toList)=eqB (optB ask i) (optB l (kAt ask l i)) :=
    (str_eqB (hol _ (by omega)) (hoa _ hlt)).trans (eqB_comm _ _)
  rw [hK h2,hzn]
  refine holds_t (holds_t ⟨fun h3=>holds_t (holds_t ⟨fun h4=>?_,fun h4=>holds_t (holds_t (off ?_))⟩),fun h3=>holds_t (holds_t (off ?_))⟩)
  · have h4:=hs.symm.trans h4
    have hm:mtK ask l i (kAt ask l i)=true:=by
      unfold mtK
      rw [Bool.and_eq_true,Bool.and_eq_true]
      exact ⟨det (by omega),h3,h4⟩
    refine go _ _ hlt (filD_off (p:=fun j=>!mtK ask l j (kAt ask l j)) (by show (!mtK ask l i (kAt ask l i))=false; rw [hm]; rfl)) ?_
    show ((kAt ask l (i+1):Nat):Int)=_
    rw [kAt_succ,hm,cond_true,hz]
    exact (wrap_succ (n:=l.len) (by omega) hlm).symm
  · have h4:=hs.symm.trans h4
    unfold mtK; rw [Bool.and_eq_false_iff,Bool.and_eq_false_iff]; exact .inr (.inr h4)
  · unfold mtK; rw [Bool.and_eq_false_iff,Bool.and_eq_false_iff]; exact .inr (.inl h3)
theorem kDn_eq (k:Int):∀ i:Nat,kDn k i=k - i
  | 0=>by show k=k - ((0:Nat):Int); omega
  | i+1=>by show kDn k i - 1=_; rw [kDn_eq k i]; omega
theorem rn2_loop:LamE Tryz.prog 194 2 (loopS Tryz.prog rn2L rn2Dec rn2T):=by
  refine fold_loop (gs:=nilG Tryz.prog) (ls:=[]) mixed nilG_ok trivial _ 2 100 (by kernel_rfl) rn2L (fun F h x hx=>by obtain ⟨a,rfl,h1,h2⟩:=rn2Dec_0 F h x hx; exact ⟨h1,h2⟩) ?_
  rintro ⟨ask,l,b,j,kk,t,x⟩ i K hok hi H1 H2
  dsimp only at hok hi H1 H2
  have hm:=l.len_le
  have hok:=odt hok
  subst hok
  have go:∀ x0,i<l.len→bkD l t x (i+1)=x0→K (.normal,rn2F ⟨ask,l,b,j,(l.len:Int) - 1,t,x⟩ (i+1) x0,rn2H ⟨ask,l,b,j,(l.len:Int) - 1,t,x⟩ (i+1) x0):=by
    intro x0 hlt; rintro rfl; exact H1 hlt
  have hkd:=kDn_eq ((l.len:Int) - 1) i
  show (roundT rn2L (evC _ _ _ _ _ _ (rn2F ⟨ask,l,b,j,(l.len:Int) - 1,t,x⟩ i (bkD l t x i)) (rn2H ⟨ask,l,b,j,(l.len:Int) - 1,t,x⟩ i (bkD l t x i)))).holds _
  unfold rn2L rn2F rn2H
  rw [rn2_body ask l b j t (kDn ((l.len:Int) - 1) i) (bkD l t x i)]
  refine ⟨fun h1=>?_,fun h1=>?_⟩
  rotate_left
  · obtain rfl:i=l.len:=by have:=odf h1; omega
    exact H2 rfl
  have h1:=odt h1
  have hlt:i<l.len:=by omega
  have hn:(kDn ((l.len:Int) - 1) i).toNat=l.len - 1 - i:=by omega
  have hw:IntKind.wrap .i64 (kDn ((l.len:Int) - 1) i - 1)=kDn ((l.len:Int) - 1) (i+1):=by
    show _=kDn ((l.len:Int) - 1) i - 1
    unfold maxLen at hm
    rw [IntWalk.i64_left]; unfold wrap64; omega
  have hI:decide (0≤kDn ((l.len:Int) - 1) i∧kDn ((l.len:Int) - 1) i<(l.len:Int))=true:=det ⟨by omega,by omega⟩
  clear H1 H2
  rw [hI,hw,hn]
  refine holds_t ⟨fun h3=>holds_t ?_,fun h3=>?_⟩
  · refine go _ hlt ?_
    show (bif optT l (l.len - 1 - i)==t then _ else _:D)=_
    rw [show (optT l (l.len - 1 - i)==t)=true from h3]; rfl
  · refine go _ hlt ?_
    show (bif optT l (l.len - 1 - i)==t then _ else _:D)=_
    rw [show (optT l (l.len - 1 - i)==t)=false from h3]; rfl
theorem rn2Ls_ok:LamL Tryz.prog (rn2Ls Tryz.prog):=⟨rn2_loop,trivial⟩
theorem rejLs_ok:LamL Tryz.prog (rejLs Tryz.prog):=⟨rjl_loop,trivial⟩
def rnV (ask l:D) (i:Nat):D:=.t [.i (optT ask i),bkD l (optT ask i) (optB ask i) l.len]
structure rn0X where
  (ask l:D)
def rn0L:Lw:=⟨[0,2,8,9],[(false,8,0, 92)],0,1,1000,1000⟩
def rn0F (a:rn0X) (i:Nat) (g0:D):Tm:=⟨117,[(0,.sl false opS a.ask none),(2,.sl false opS a.l none),(8,.sl false opS g0 (some (0,1000))),(9,zi (i:Int))],[]⟩
def rn0H (a:rn0X) (i:Nat) (g0:D):Hp:=⟨[],0,[(0,1000, 92)],1,1001,1000⟩
def rn0C:Cs:=⟨117,[(0,.sl opS),(2,.sl opS),(8,.nw opS 0 1000),(9,.lit (.sc false (.int .i64 0)))],[],0,[(0,1000, 92)],1,1001,1000⟩
noncomputable def rn0Dec (F:Tm) (h:Hp):Option (rn0X×Nat):=match cdS rn0C F h with
  | some [v0,v1]=>some (⟨v0,v1⟩,0)
  | _=>none
theorem rn0_body (ask:D) (l:D) (i:Int) (g0:D):roundT (⟨[0,2,8,9],[(false,8,0, 92)],0,1,1000,1000⟩) (evC Tryz.prog (gam (nilG Tryz.prog)) (lam (rn2Ls Tryz.prog)) 100 194 (loopAt 0 (bodyOf Tryz.prog 194)) (⟨117,[(0,.sl false opS ask none),(2,.sl false opS l none),(8,.sl false opS g0 (some (0,1000))),(9,zi i)],[]⟩) (⟨[],0,[(0,1000, 92)],1,1001,1000⟩)) =
RT.br (decide (i<(↑(D.len ask):Int))) (RT.br (decide (0≤i∧i<(↑(D.len ask):Int))) (RT.br (decide (IntKind.wrap IntKind.i64 ((↑(D.len l):Int) - 1)=(↑(D.len l):Int) - 1)&&true) (RT.br (decide ((D.len g0+1)*32≤140737488355328)) (RT.ok (Ex.normal,(Tm.mk 117 [(0,zs zO ask),(2,zs zO l),(8,AV.sl false zO (D.app g0 (D.l [D.t [D.i (D.toI (D.cell (D.get ask (Int.toNat i)) 0)),bkD l (D.toI (D.cell (D.get ask (Int.toNat i)) 0)) (D.cell (D.get ask (Int.toNat i)) 1) (D.len l)]])) (some (0,1000))),(9,zi (IntKind.wrap IntKind.i64 (i+1)))] []),(Hp.mk [] 0 [(0,1000,92)] 1 1001 1000))) (RT.bad 70)) (RT.bad 210)) (RT.bad 42)) (RT.ok (Ex.exit 0,(Tm.mk 117 [(0,zs zO ask),(2,zs zO l),(8,AV.sl false zO g0 (some (0,1000))),(9,zi i)] []),(Hp.mk [] 0 [(0,1000,92)] 1 1001 1000))):=by rw [← fvC_eq Tryz.prog (gam (nilG Tryz.prog)) (lam (rn2Ls Tryz.prog)) false 100]; kernel_rfl
def rn0T:rn0X×Nat→RT Out:=foldT (fun a=>a.ask.len) (fun a=>decide (a.ask.len*32≤room)) (fun a i=>rn0F a i (tabD (rnV a.ask a.l) i)) (fun a i=>rn0H a i (tabD (rnV a.ask a.l) i))
def rlnLs (P:Program):List (FuncId×Nat×BSpec):=[(194,0,loopS P rn0L rn0Dec rn0T),(194,4,loopS P rr4L rr4Dec rr4T)]
def rjO (ask l:D):D:=filD (fun j=>!mtK ask l j (kAt ask l j)) (copE ask) ask.len
def rjB (ask l:D):Bool:=decide (l.len≤kAt ask l ask.len)
def FRj:List AV→RT AV
  | [.sl false [.int .i64,.sl [.int .u8]] d none,.sl false [.int .i64,.sl [.int .u8]] l none]=>need false (decide (d.len*32≤140737488355328)) 292 (.ok (.tup [asl opS (rjO d l),ab (rjB d l)]))
  | _=>.bad 292
def lrnB (ask:D) (c:Int) (l:D):Bool:=!(decide (l.len=0))&&(c==3||(c==4&&rjB ask l))
def lrnO (ask:D) (c:Int) (l:D):D:=bif lrnB ask c l then (bif c==3 then nkD ask l else rjO ask l) else ask
def lrnN (ask l:D):Bool:=decide (ask.len*32≤140737488355328)&&(optsB ask&&optsB l)
def FLrn:List AV→RT AV
  | [.sl false [.int .i64,.sl [.int .u8]] d none,.sc false (.int .i64 c),.sl false [.int .i64,.sl [.int .u8]] l none]=>need false (lrnN d l) 293 (.ok (.tup [asl opS (lrnO d c l),ab (lrnB d c l)]))
  | _=>.bad 293
def lrnG (P:Program):List (FuncId×Spec):=[(185,pureS P 185 FOwns),(186,pureS P 186 FNak),(187,pureS P 187 FRj)]
theorem rn0Dec_0:∀ F h x,rn0Dec F h=some x→∃ a,x=(a,0)∧F=rn0F a 0 (.l [])∧h=rn0H a 0 (.l []):=by
  intro F h x hx
  unfold rn0Dec at hx
  split at hx
  · rename_i hd
    cases hx
    obtain ⟨h1,h2⟩:=cdS_ok hd
    exact ⟨_,rfl,h1,h2⟩
  · cases hx
theorem bkD_at (l:D) (t:Int) (x:D):∀ m,m≤l.len→bkD l t x m=bif okFrom (neT l t) m (l.len - m) then x else optB l (badFrom (neT l t) m (l.len - m))
  | 0,_=>rfl
  | m+1,h=>by
    have ih:=bkD_at l t x m (by omega)
    obtain ⟨s,hs⟩:∃ s,s=l.len - 1 - m:=⟨_,rfl⟩
    have e1:l.len - m=s+1:=by omega
    have e2:l.len - (m+1)=s:=by omega
    show (bif optT l (l.len - 1 - m)==t then optB l (l.len - 1 - m) else bkD l t x m:D)=_
    rw [ih,e1,e2,← hs]
    cases hc:optT l s==t
    · have hp:neT l t s=true:=by unfold neT; rw [bne]; exact (congrArg _ hc:(!(optT l s==t))=_)
      simp only [okFrom,hp,Bool.true_and,badFrom_cons hp,cond_false]
    · have hp:neT l t s=false:=by unfold neT; rw [bne]; exact (congrArg _ hc:(!(optT l s==t))=_)
      simp only [okFrom,hp,Bool.false_and,badFrom_here hp,cond_true,cond_false]
theorem bkD_all (l:D) (t:Int) (x:D):bkD l t x l.len=bif decide (0≤plaI l t) then optB l (plaI l t).toNat else x:=by
  rw [bkD_at l t x l.len (Nat.le_refl _),Nat.sub_self]
  unfold plaI
  cases okFrom (neT l t) l.len 0
  · simp only [cond_false,Int.toNat_natCast]
    rw [det (Int.natCast_nonneg _)]; rfl
  · rfl
theorem rnV_eq (ask l:D) (i:Nat):rnV ask l i=nkV ask l i:=by unfold rnV nkV; rw [bkD_all]
theorem lAt_at (ask l:D):∀ i,(lAt ask l i).len=l.len - kAt ask l i∧(∀ q,q<l.len - kAt ask l i→(lAt ask l i).get q=l.get (kAt ask l i+q))∧mtB ask i (lAt ask l i)=mtK ask l i (kAt ask l i)
  | 0=>⟨rfl,fun q _=>by rw [show kAt ask l 0+q=q from Nat.zero_add q]; rfl,by
      unfold mtB mtK
      show (decide (0<l.len)&&(optT ask 0==optT l 0&&_))=(decide (0<l.len)&&(optT l 0==optT ask 0&&_))
      rw [Bool.beq_comm (a:=optT ask 0)]; rfl⟩
  | i+1=>by
    obtain ⟨h1,h2,h3⟩:=lAt_at ask l i
    have key:(lAt ask l (i+1)).len=l.len - kAt ask l (i+1)∧(∀ q,q<l.len - kAt ask l (i+1)→(lAt ask l (i+1)).get q=l.get (kAt ask l (i+1)+q)):=by
      rw [lAt_succ,kAt_succ,h3]
      cases hc:mtK ask l i (kAt ask l i)
      · exact ⟨h1,h2⟩
      · have hk:kAt ask l i<l.len:=by
          unfold mtK at hc
          rw [Bool.and_eq_true] at hc
          exact odt hc.1
        simp only [cond_true]
        refine ⟨by rw [sub_len (by omega) (Nat.le_refl _)]; omega,fun q hq=>?_⟩
        rw [sub_get (by omega),h2 _ (by omega)]
        congr 1; omega
    obtain ⟨k1,k2⟩:=key
    refine ⟨k1,k2,?_⟩
    unfold mtB mtK
    rw [k1]
    by_cases hk:kAt ask l (i+1)<l.len
    · rw [det (show 0<l.len - kAt ask l (i+1) by omega),det hk]
      have:=k2 0 (by omega)
      unfold optT optB
      rw [this,Bool.beq_comm (a:=((ask.get (i+1)).cell 0).toI)]
      rfl
    · rw [def_ (show ¬ 0<l.len - kAt ask l (i+1) by omega),def_ hk]; rfl
theorem rn0_loop:LamE Tryz.prog 194 0 (loopS Tryz.prog rn0L rn0Dec rn0T):=by
  refine fold_loop (gs:=nilG Tryz.prog) (ls:=rn2Ls Tryz.prog) mixed nilG_ok rn2Ls_ok _ 0 100 (by kernel_rfl) rn0L (fun F h x hx=>by obtain ⟨a,rfl,h1,h2⟩:=rn0Dec_0 F h x hx; exact ⟨h1,h2⟩) ?_
  rintro ⟨ask,l⟩ i K hok hi H1 H2
  dsimp only at hok hi H1 H2
  have hm:=ask.len_le
  have hok:=odt hok
  unfold room at hok
  have l0:=tabD_len (f:=rnV ask l) (n:=i) (by omega)
  have go:∀ x0,i<ask.len→tabD (rnV ask l) (i+1)=x0→K (.normal,rn0F ⟨ask,l⟩ (i+1) x0,rn0H ⟨ask,l⟩ (i+1) x0):=by
    intro x0 hlt; rintro rfl; exact H1 hlt
  show (roundT rn0L (evC _ _ _ _ _ _ (rn0F ⟨ask,l⟩ i (tabD (rnV ask l) i)) (rn0H ⟨ask,l⟩ i (tabD (rnV ask l) i)))).holds _
  unfold rn0L rn0F rn0H
  rw [rn0_body]
  simp only [Int.toNat_natCast]
  refine ⟨fun h1=>?_,fun h1=>?_⟩
  rotate_left
  · obtain rfl:i=ask.len:=by have:=odf h1; omega
    exact H2 rfl
  have hlt:i<ask.len:=by have:=odt h1; omega
  rw [wrap_succ hlt hm]
  clear H1 H2
  have hI:decide (0≤(i:Int)∧(i:Int)<(ask.len:Int))=true:=det ⟨by omega,by omega⟩
  have hlm:=l.len_le
  have hw:IntKind.wrap .i64 ((l.len:Int) - 1)=(l.len:Int) - 1:=by
    unfold maxLen at hlm
    rw [IntWalk.i64_left]; unfold wrap64; omega
  rw [hI,hw]
  refine holds_t (holds_t_of (by rw [Bool.and_true]; exact det rfl) (holds_t_of (det (by omega)) ?_))
  exact go _ hlt (tabD_succ (f:=rnV ask l) (n:=i) (by omega)).symm
theorem rlnLs_ok:LamL Tryz.prog (rlnLs Tryz.prog):=⟨rn0_loop,rr4_loop,trivial⟩
theorem rjj_tree (ask l:D):treeF (evF Tryz.prog (gam (rejG Tryz.prog)) (lam (rejLs Tryz.prog)) 100 187) [asl opS ask,asl opS l] =
RT.br (decide ((↑(D.len ask):Int)=(↑(D.len ask):Int)∧D.len ask*32≤140737488355328)&&true) (RT.ok (AV.tup [zs zO (filD (fun j=>!mtB ask j (lAt ask l j)) (copE ask) (D.len ask)),zb ((↑(D.len (lAt ask l (D.len ask))):Int)==0)])) (RT.bad 210):=by rw [← fvF_eq Tryz.prog (gam (rejG Tryz.prog)) (lam (rejLs Tryz.prog)) false 100 187]; kernel_rfl
theorem lrn_tree (ask:D) (c:Int) (l:D):treeF (evF Tryz.prog (gam (lrnG Tryz.prog)) (lam ([])) 100 150) [asl opS ask,ai c,asl opS l] =
RT.br ((↑(D.len l):Int)==0) (RT.br (decide (D.len ask*32≤140737488355328)) (RT.ok (AV.tup [zs zO ask,AV.sc true (Value.bool false)])) (RT.bad 286)) (RT.br (c==3) (RT.br (decide (D.len ask*32≤140737488355328)) (RT.ok (AV.tup [zs zO (nkD ask l),AV.sc true (Value.bool true)])) (RT.bad 289)) (RT.br (c==4) (RT.br (decide (D.len ask*32≤140737488355328)) (RT.br (rjB ask l) (RT.ok (AV.tup [zs zO (rjO ask l),AV.sc true (Value.bool true)])) (RT.br (decide (D.len ask*32≤140737488355328)) (RT.ok (AV.tup [zs zO ask,AV.sc true (Value.bool false)])) (RT.bad 286))) (RT.bad 292)) (RT.br (decide (D.len ask*32≤140737488355328)) (RT.ok (AV.tup [zs zO ask,AV.sc true (Value.bool false)])) (RT.bad 286)))):=by rw [← fvF_eq Tryz.prog (gam (lrnG Tryz.prog)) (lam ([])) false 100 150]; kernel_rfl
theorem rln_tree (ask:D) (c:Int) (l:D):treeF (evF Tryz.prog (gam (nilG Tryz.prog)) (lam (rlnLs Tryz.prog)) 100 194) [asl opS ask,ai c,asl opS l] =
RT.br ((↑(D.len l):Int)==0) (RT.ok (AV.tup [zs zO ask,AV.sc true (Value.bool false)])) (RT.br (c != 3) (RT.br (c != 4) (RT.ok (AV.tup [zs zO ask,AV.sc true (Value.bool false)])) (RT.br (c==3) (RT.br (decide (D.len ask*32≤140737488355328)&&true) (RT.ok (AV.tup [zs zO (tabD (rnV ask l) (D.len ask)),AV.sc true (Value.bool true)])) (RT.bad 210)) (RT.br (decide (D.len ask*32≤140737488355328)&&(optsB ask&&optsB l)&&true) (RT.br (decide ((↑(kAt ask l (D.len ask)):Int)<(↑(D.len l):Int))) (RT.ok (AV.tup [zs zO ask,AV.sc true (Value.bool false)])) (RT.ok (AV.tup [zs zO (filD (fun j=>!mtK ask l j (kAt ask l j)) (copE ask) (D.len ask)),AV.sc true (Value.bool true)]))) (RT.bad 210)))) (RT.br (c==3) (RT.br (decide (D.len ask*32≤140737488355328)&&true) (RT.ok (AV.tup [zs zO (tabD (rnV ask l) (D.len ask)),AV.sc true (Value.bool true)])) (RT.bad 210)) (RT.br (decide (D.len ask*32≤140737488355328)&&(optsB ask&&optsB l)&&true) (RT.br (decide ((↑(kAt ask l (D.len ask)):Int)<(↑(D.len l):Int))) (RT.ok (AV.tup [zs zO ask,AV.sc true (Value.bool false)])) (RT.ok (AV.tup [zs zO (filD (fun j=>!mtK ask l j (kAt ask l j)) (copE ask) (D.len ask)),AV.sc true (Value.bool true)]))) (RT.bad 210)))):=by rw [← fvF_eq Tryz.prog (gam (nilG Tryz.prog)) (lam (rlnLs Tryz.prog)) false 100 194]; kernel_rfl
theorem FRj_inv {args:List AV} {K:AV→Prop} (H:(FRj args).holds K):∃ d l,args=[asl opS d,asl opS l]∧d.len*32≤140737488355328∧K (.tup [asl opS (rjO d l),ab (rjB d l)]):=by
  unfold FRj at H
  split at H
  · rename_i d l
    obtain ⟨hc,H⟩:=need_holds H
    exact ⟨d,l,rfl,odt hc,H⟩
  · exact H.elim
theorem rjj_soundF:SoundF Tryz.prog 187 (pureS Tryz.prog 187 FRj):=by
  refine pure_in (gs:=rejG Tryz.prog) (ls:=rejLs Tryz.prog) mixed rejG_ok rejLs_ok 187 100 fun args K ho H=>?_
  obtain ⟨ask,l,hr,hc,H⟩:=FRj_inv H
  rw [hr,rjj_tree]
  have hf:(fun j=>!mtB ask j (lAt ask l j))=fun j=>!mtK ask l j (kAt ask l j):=funext fun j=>by rw [(lAt_at ask l j).2.2]
  rw [hf,(lAt_at ask l ask.len).1]
  refine holds_t_of (by rw [Bool.and_true]; exact det ⟨rfl,hc⟩) ⟨_,le_two (Le.refl _) (le_bool ?_),H⟩
  have:=(kAt_le ask l ask.len).1
  unfold rjB
  rw [Bool.eq_iff_iff,beq_iff_eq,decide_eq_true_eq]
  omega
theorem lrnG_ok:GamL Tryz.prog (lrnG Tryz.prog):=⟨ows_soundF,nak_soundF,rjj_soundF,trivial⟩
theorem FLrn_inv {args:List AV} {K:AV→Prop} (H:(FLrn args).holds K):∃ d c l,args=[asl opS d,ai c,asl opS l]∧lrnN d l=true∧K (.tup [asl opS (lrnO d c l),ab (lrnB d c l)]):=by
  unfold FLrn at H
  split at H
  · rename_i d c l
    obtain ⟨hc,H⟩:=need_holds H
    exact ⟨d,c,l,rfl,hc,H⟩
  · exact H.elim
theorem lrn0 {d l:D} {c:Int} (h:((l.len:Int)==0)=true):lrnO d c l=d∧lrnB d c l=false:=by
  have h:=eq_of_beq h
  have e:lrnB d c l=false:=by unfold lrnB; rw [det (by omega)]; rfl
  exact ⟨by unfold lrnO; rw [e]; rfl,e⟩
section
variable {d l:D} {c:Int} (h:((l.len:Int)==0)=false)
include h
theorem lrnZ:lrnB d c l=(c==3||(c==4&&rjB d l)):=by
  have:¬ l.len=0:=fun e=>by rw [e] at h; cases h
  unfold lrnB; rw [def_ this]; rfl
theorem lrn3 (h3:(c==3)=true):lrnO d c l=nkD d l∧lrnB d c l=true:=by
  have e:lrnB d c l=true:=by rw [lrnZ h,h3]; rfl
  exact ⟨by unfold lrnO; rw [e,h3]; rfl,e⟩
theorem lrn4 (h3:(c==3)=false) (h4:(c==4)=true) (hr:rjB d l=true):lrnO d c l=rjO d l∧lrnB d c l=true:=by
  have e:lrnB d c l=true:=by rw [lrnZ h,h3,h4,hr]; rfl
  exact ⟨by unfold lrnO; rw [e,h3]; rfl,e⟩
theorem lrnX (h3:(c==3)=false) (h4:(c==4)=false∨rjB d l=false):lrnO d c l=d∧lrnB d c l=false:=by
  have e:lrnB d c l=false:=by
    rw [lrnZ h,h3]
    rcases h4 with h4 | h4 <;> rw [h4] <;> simp
  exact ⟨by unfold lrnO; rw [e]; rfl,e⟩
end
theorem lrn_soundF:SoundF Tryz.prog 150 (pureS Tryz.prog 150 FLrn):=by
  refine pure_in (gs:=lrnG Tryz.prog) (ls:=[]) mixed lrnG_ok trivial 150 100 fun args K ho H=>?_
  obtain ⟨ask,c,l,hr,hc,H⟩:=FLrn_inv H
  rw [hr,lrn_tree]
  have A:∀ o b,lrnO ask c l=o∧lrnB ask c l=b→K (.tup [asl opS o,ab b]):=by rintro o b ⟨rfl,rfl⟩; exact H
  unfold lrnN at hc
  rw [Bool.and_eq_true] at hc
  rw [hc.1]
  refine ⟨fun h=>holds_t ⟨_,le_two (Le.refl _) (le_bool rfl),A _ _ (lrn0 h)⟩,fun h=>⟨fun h3=>holds_t ⟨_,le_two (Le.refl _) (le_bool rfl),A _ _ (lrn3 h h3)⟩,fun h3=>⟨fun h4=>holds_t ⟨fun h5=>⟨_,le_two (Le.refl _) (le_bool rfl),A _ _ (lrn4 h h3 h4 h5)⟩,fun h5=>holds_t ⟨_,le_two (Le.refl _) (le_bool rfl),A _ _ (lrnX h h3 (.inr h5))⟩⟩,fun h4=>holds_t ⟨_,le_two (Le.refl _) (le_bool rfl),A _ _ (lrnX h h3 (.inl h4))⟩⟩⟩⟩
theorem rln_soundF:SoundF Tryz.prog 194 (pureS Tryz.prog 194 FLrn):=by
  refine pure_in (gs:=nilG Tryz.prog) (ls:=rlnLs Tryz.prog) mixed nilG_ok rlnLs_ok 194 100 fun args K ho H=>?_
  obtain ⟨ask,c,l,hr,hc,H⟩:=FLrn_inv H
  rw [hr,rln_tree]
  have A:∀ o b,lrnO ask c l=o∧lrnB ask c l=b→K (.tup [asl opS o,ab b]):=by rintro o b ⟨rfl,rfl⟩; exact H
  unfold lrnN at hc
  have hc1:=hc
  rw [Bool.and_eq_true] at hc1
  have hv:tabD (rnV ask l) ask.len=nkD ask l:=by unfold nkD; rw [show rnV ask l=nkV ask l from funext (rnV_eq ask l)]
  have hkl:=(kAt_le ask l ask.len).1
  rw [hc,hc1.1,hv]
  have n3:(c != 3)=!(c==3):=rfl
  have n4:(c != 4)=!(c==4):=rfl
  rw [n3,n4]
  have hT:rjB ask l=true∨rjB ask l=false:=by cases rjB ask l <;> simp
  refine ⟨fun h=>⟨_,le_two (Le.refl _) (le_bool rfl),A _ _ (lrn0 h)⟩,fun h=>?_⟩
  cases h3:c==3
  · refine holds_t ?_
    cases h4:c==4
    · exact holds_t ⟨_,le_two (Le.refl _) (le_bool rfl),A _ _ (lrnX h h3 (.inl h4))⟩
    · refine ⟨fun e=>(by cases e),fun _=>⟨fun e=>(by cases e),fun _=>holds_t ⟨fun h5=>⟨_,le_two (Le.refl _) (le_bool rfl),A _ _ (lrnX h h3 (.inr ?_))⟩,fun h5=>⟨_,le_two (Le.refl _) (le_bool rfl),A _ _ (lrn4 h h3 h4 ?_)⟩⟩⟩⟩
      · have:=odt h5
        unfold rjB; exact def_ (by omega)
      · have:=odf h5
        unfold rjB; exact det (by omega)
  · refine ⟨fun e=>(by cases e),fun _=>holds_t (holds_t ⟨_,le_two (Le.refl _) (le_bool rfl),A _ _ (lrn3 h h3)⟩)⟩
structure rdeX where
  b:D
def rdeL:Lw:=⟨[0,2,3,4,5],[(false,4,0, 92)],0,1,1000,1000⟩
def rdeF (a:rdeX) (i:Nat) (g0:D) (g7:Int):Tm:=⟨60,[(0,.sl false byS a.b none),(2,.sc false (.slice none 0 0)),(3,zi 0),(4,.sl false opS g0 (some (0,1000))),(5,zi g7)],[]⟩
def rdeH (a:rdeX) (i:Nat) (g0:D) (g7:Int):Hp:=⟨[],0,[(0,1000, 92)],1,1001,1000⟩
def rdeC:Cs:=⟨60,[(0,.sl byS),(2,.lit (.sc false (.slice none 0 0))),(3,.lit (.sc false (.int .i64 0))),(4,.nw opS 0 1000),(5,.lit (.sc false (.int .i64 0)))],[],0,[(0,1000, 92)],1,1001,1000⟩
noncomputable def rdeDec (F:Tm) (h:Hp):Option (rdeX×Nat):=match cdS rdeC F h with
  | some [v0]=>some (⟨v0⟩,0)
  | _=>none
theorem rde_body (b:D) (i:Int) (g0:D) (g7:Int):roundT (⟨[0,2,3,4,5],[(false,4,0, 92)],0,1,1000,1000⟩) (evC Tryz.prog (gam (nilG Tryz.prog)) (lam ([])) 100 137 (loopAt 0 (bodyOf Tryz.prog 137)) (⟨60,[(0,.sl false byS b none),(2,.sc false (.slice none 0 0)),(3,zi 0),(4,.sl false opS g0 (some (0,1000))),(5,zi g7)],[]⟩) (⟨[],0,[(0,1000, 92)],1,1001,1000⟩)) =
RT.br (decide (g7<(↑(D.len b):Int))) (RT.br (decide (IntKind.wrap IntKind.i64 ((↑(D.len b):Int) - g7)<2)) (RT.ok (Ex.ret,(Tm.mk 60 [(0,zs zU b),(2,zy),(3,zi 80),(4,AV.sl false zO g0 (some (0,1000))),(5,zi g7)] []),(Hp.mk [] 0 [(0,1000,92)] 1 1001 1000))) (RT.br (decide (0≤IntKind.wrap IntKind.i64 (g7+1)∧IntKind.wrap IntKind.i64 (g7+1)<(↑(D.len b):Int))) (RT.br (decide (IntKind.wrap IntKind.i64 (D.toI (D.cell (D.get b (Int.toNat (IntKind.wrap IntKind.i64 (g7+1)))) 0))<2)) (RT.ok (Ex.ret,(Tm.mk 60 [(0,zs zU b),(2,zy),(3,zi 80),(4,AV.sl false zO g0 (some (0,1000))),(5,zi g7)] []),(Hp.mk [] 0 [(0,1000,92)] 1 1001 1000))) (RT.br (decide (IntKind.wrap IntKind.i64 ((↑(D.len b):Int) - g7)<IntKind.wrap IntKind.i64 (D.toI (D.cell (D.get b (Int.toNat (IntKind.wrap IntKind.i64 (g7+1)))) 0)))) (RT.ok (Ex.ret,(Tm.mk 60 [(0,zs zU b),(2,zy),(3,zi 80),(4,AV.sl false zO g0 (some (0,1000))),(5,zi g7)] []),(Hp.mk [] 0 [(0,1000,92)] 1 1001 1000))) (RT.br ((↑(D.len g0):Int)==64) (RT.ok (Ex.ret,(Tm.mk 60 [(0,zs zU b),(2,zy),(3,zi 3),(4,AV.sl false zO g0 (some (0,1000))),(5,zi g7)] []),(Hp.mk [] 0 [(0,1000,92)] 1 1001 1000))) (RT.br (decide (0≤g7∧g7<(↑(D.len b):Int))) (RT.br (decide (0≤IntKind.wrap IntKind.i64 (g7+2)∧IntKind.wrap IntKind.i64 (g7+2)≤IntKind.wrap IntKind.i64 (g7+IntKind.wrap IntKind.i64 (D.toI (D.cell (D.get b (Int.toNat (IntKind.wrap IntKind.i64 (g7+1)))) 0)))∧IntKind.wrap IntKind.i64 (g7+IntKind.wrap IntKind.i64 (D.toI (D.cell (D.get b (Int.toNat (IntKind.wrap IntKind.i64 (g7+1)))) 0)))≤(↑(D.len b):Int)∧(↑(D.len b):Int)≤(↑(D.len b):Int))) (RT.br (decide ((D.len g0+1)*32≤140737488355328)) (RT.ok (Ex.normal,(Tm.mk 60 [(0,zs zU b),(2,zy),(3,zi 0),(4,AV.sl false zO (D.app g0 (D.l [D.t [D.i (IntKind.wrap IntKind.i64 (D.toI (D.cell (D.get b (Int.toNat g7)) 0))),D.app (D.l []) (D.sub b (Int.toNat (IntKind.wrap IntKind.i64 (g7+2))) (Int.toNat (IntKind.wrap IntKind.i64 (g7+IntKind.wrap IntKind.i64 (D.toI (D.cell (D.get b (Int.toNat (IntKind.wrap IntKind.i64 (g7+1)))) 0))))))]])) (some (0,1000))),(5,zi (IntKind.wrap IntKind.i64 (g7+IntKind.wrap IntKind.i64 (D.toI (D.cell (D.get b (Int.toNat (IntKind.wrap IntKind.i64 (g7+1)))) 0)))))] []),(Hp.mk [] 0 [(0,1000,92)] 1 1001 1000))) (RT.bad 70)) (RT.bad 37)) (RT.bad 42))))) (RT.bad 42))) (RT.ok (Ex.exit 0,(Tm.mk 60 [(0,zs zU b),(2,zy),(3,zi 0),(4,AV.sl false zO g0 (some (0,1000))),(5,zi g7)] []),(Hp.mk [] 0 [(0,1000,92)] 1 1001 1000))):=by rw [← fvC_eq Tryz.prog (gam (nilG Tryz.prog)) (lam ([])) false 100]; kernel_rfl
def rdeG:Nat→D→Nat→D→Int×D×Nat
  | 0,_,k,ol=>(0,ol,k)
  | m+1,b,k,ol=>if b.len≤k then (0,ol,k) else if b.len - k<2 then (80,ol,k) else if byN b (k+1)<2∨((b.len:Int) - k)<byN b (k+1) then (80,ol,k) else if ol.len=64 then (3,ol,k) else
      rdeG m b (k+(byN b (k+1)).toNat) (ol.app (.l [.t [.i (byN b k),D.sub b (k+2) (k+(byN b (k+1)).toNat)]]))
structure rdeY where
  b:D
  (m k:Nat)
  ol:D
def rdeMF (x:rdeY):Tm:=rdeF ⟨x.b⟩ 0 x.ol x.k
def rdeMH (x:rdeY):Hp:=rdeH ⟨x.b⟩ 0 x.ol x.k
def rdeR (b:D) (e:Int) (ol:D) (k:Nat):Tm:=⟨60,[(0,asl byS b),(2,.sc false (.slice none 0 0)),(3,ai e),(4,.sl false opS ol (some (0,1000))),(5,ai (k:Int))],[]⟩
def rdeT (x:rdeY):RT Out:=need false (decide (x.k≤x.b.len∧x.b.len - x.k≤x.m∧x.b.len≤1488∧x.ol.len≤64)&&bytesB x.b) 210
  (.br ((rdeG x.m x.b x.k x.ol).1==0) (.ok (.normal,rdeF ⟨x.b⟩ 0 (rdeG x.m x.b x.k x.ol).2.1 ((rdeG x.m x.b x.k x.ol).2.2:Nat),rdeH ⟨x.b⟩ 0 (rdeG x.m x.b x.k x.ol).2.1 ((rdeG x.m x.b x.k x.ol).2.2:Nat))) (.ok (.ret,rdeR x.b (rdeG x.m x.b x.k x.ol).1 (rdeG x.m x.b x.k x.ol).2.1 (rdeG x.m x.b x.k x.ol).2.2,rdeH ⟨x.b⟩ 0 (rdeG x.m x.b x.k x.ol).2.1 ((rdeG x.m x.b x.k x.ol).2.2:Nat))))
def rdeDe (F:Tm) (h:Hp):Option rdeY:=(rdeDec F h).map fun x=>⟨x.1.b,x.1.b.len,0,.l []⟩
def rdeLs (P:Program):List (FuncId×Nat×BSpec):=[(137,0,loopS P rdeL rdeDe rdeT)]
theorem rdeDec_0:∀ F h x,rdeDec F h=some x→∃ a,x=(a,0)∧F=rdeF a 0 (.l []) 0∧h=rdeH a 0 (.l []) 0:=by
  intro F h x hx
  unfold rdeDec at hx
  split at hx
  · rename_i hd
    cases hx
    obtain ⟨h1,h2⟩:=cdS_ok hd
    exact ⟨_,rfl,h1,h2⟩
  · cases hx
theorem rde_loop:LamE Tryz.prog 137 0 (loopS Tryz.prog rdeL rdeDe rdeT):=by
  refine loop_in2 (gs:=nilG Tryz.prog) (ls:=[]) mixed nilG_ok trivial _ 0 100 (by kernel_rfl) rdeL (mkF:=rdeMF) (mkH:=rdeMH) (fun x=>x.b.len - x.k) ?_ ?_
  · intro F h x hx
    unfold rdeDe at hx
    obtain ⟨y,hy,rfl⟩:=Option.map_eq_some_iff.1 hx
    obtain ⟨a,rfl,h1,h2⟩:=rdeDec_0 F h y hy
    exact ⟨h1,h2⟩
  rintro ⟨b,m,k,ol⟩ K H
  obtain ⟨hc,H⟩:=need_holds H
  rw [Bool.and_eq_true] at hc
  obtain ⟨hc,hb⟩:=hc
  obtain ⟨hk,hm,hl,ho⟩:k≤b.len∧b.len - k≤m∧b.len≤1488∧ol.len≤64:=odt hc
  dsimp only at H
  have hb:bytesB b=true:=hb
  show (roundT rdeL (evC _ _ _ _ _ _ (rdeF ⟨b⟩ 0 ol k) (rdeH ⟨b⟩ 0 ol k))).holds _
  unfold rdeL rdeF rdeH
  rw [rde_body b 0 ol k]
  by_cases h0:b.len≤k
  · have e:rdeG m b k ol=(0,ol,k):=by cases m <;> simp [rdeG,h0]
    rw [e] at H
    refine ⟨fun h=>?_,fun _=>H.1 rfl⟩
    have:=odt h; omega
  obtain ⟨m,rfl⟩:∃ m',m=m'+1:=⟨m - 1,by omega⟩
  have hkn:decide ((k:Int)<(b.len:Int))=true:=det (by omega)
  have e1:IntKind.wrap .i64 ((b.len:Int) - (k:Int))=(b.len:Int) - k:=i64_id ⟨by omega,by omega⟩
  rw [hkn,e1]
  refine holds_t ?_
  by_cases h2:b.len - k<2
  · have e:rdeG (m+1) b k ol=(80,ol,k):=by simp only [rdeG]; rw [if_neg h0,if_pos h2]
    rw [e] at H
    refine ⟨fun _=>H.2 rfl,fun h=>?_⟩
    have:=odf h; omega
  refine ⟨fun h=>by have:=odt h; omega,fun _=>?_⟩
  have e2:IntKind.wrap .i64 ((k:Int)+1)=((k+1:Nat):Int):=by rw [i64_id ⟨by omega,by omega⟩]; omega
  have e2':IntKind.wrap .i64 ((k:Int)+2)=((k+2:Nat):Int):=by rw [i64_id ⟨by omega,by omega⟩]; omega
  have hby:0≤byN b (k+1)∧byN b (k+1)<256:=bytes_at hb (show k+1<b.len by omega)
  have hbk:0≤byN b k∧byN b k<256:=bytes_at hb (show k<b.len by omega)
  have e3:IntKind.wrap .i64 (D.toI (D.cell (D.get b (k+1)) 0))=byN b (k+1):=i64_id ⟨hby.1,by have:=hby.2; show byN b (k+1)<_; omega⟩
  have e4:IntKind.wrap .i64 (D.toI (D.cell (D.get b k) 0))=byN b k:=i64_id ⟨hbk.1,by have:=hbk.2; show byN b k<_; omega⟩
  have e5:IntKind.wrap .i64 ((k:Int)+byN b (k+1))=((k+(byN b (k+1)).toNat:Nat):Int):=by rw [i64_id ⟨by omega,by omega⟩]; omega
  simp only [e2,e2',Int.toNat_natCast,e3,e4,e5]
  have c1:decide ((0:Int)≤((k+1:Nat):Int)∧((k+1:Nat):Int)<(b.len:Int))=true:=det ⟨by omega,by omega⟩
  rw [c1]
  refine holds_t ?_
  by_cases h3:byN b (k+1)<2∨((b.len:Int) - k)<byN b (k+1)
  · have e:rdeG (m+1) b k ol=(80,ol,k):=by simp only [rdeG]; rw [if_neg h0,if_neg h2,if_pos h3]
    rw [e] at H
    refine ⟨fun _=>H.2 rfl,fun h=>⟨fun _=>H.2 rfl,fun h'=>?_⟩⟩
    have:=odf h
    have:=odf h'
    omega
  refine ⟨fun h=>by have:=odt h; omega,fun _=>⟨fun h=>by have:=odt h; omega,fun _=>?_⟩⟩
  by_cases h4:ol.len=64
  · have e:rdeG (m+1) b k ol=(3,ol,k):=by simp only [rdeG]; rw [if_neg h0,if_neg h2,if_neg h3,if_pos h4]
    rw [e] at H
    exact ⟨fun _=>H.2 rfl,fun h=>by rw [h4] at h; cases h⟩
  refine ⟨fun h=>by have:=eq_of_beq h; omega,fun _=>?_⟩
  have e:rdeG (m+1) b k ol=rdeG m b (k+(byN b (k+1)).toNat) (ol.app (.l [.t [.i (byN b k),D.sub b (k+2) (k+(byN b (k+1)).toNat)]])):=by simp only [rdeG]; rw [if_neg h0,if_neg h2,if_neg h3,if_neg h4]
  have ha:D.app (.l []) (D.sub b (k+2) (k+(byN b (k+1)).toNat))=D.sub b (k+2) (k+(byN b (k+1)).toNat):=by
    unfold D.app
    rw [toL_sub,toL_l (Nat.zero_le _)]; rfl
  rw [ha]
  have hol:(ol.app (.l [.t [.i (byN b k),D.sub b (k+2) (k+(byN b (k+1)).toNat)]])).len=ol.len+1:=app_len1 (by unfold maxLen; omega)
  refine holds_t_of (det ⟨by omega,by omega⟩) (holds_t_of (det ⟨by omega,by omega,by omega,by omega⟩) (holds_t_of (det (by omega)) ?_))
  refine ⟨⟨b,m,k+(byN b (k+1)).toNat,ol.app (.l [.t [.i (byN b k),D.sub b (k+2) (k+(byN b (k+1)).toNat)]])⟩,⟨rfl,rfl⟩,by show b.len - (k+(byN b (k+1)).toNat)<b.len - k; omega,?_⟩
  rw [e] at H
  refine holds_t_of ?_ H
  rw [Bool.and_eq_true]
  exact ⟨det ⟨by show k+_≤b.len; omega,by show b.len - (k+_)≤m; omega,hl,by rw [hol]; omega⟩,hb⟩
theorem rdeLs_ok:LamL Tryz.prog (rdeLs Tryz.prog):=⟨rde_loop,trivial⟩
theorem rde_tree (b:D):treeF (evF Tryz.prog (gam (nilG Tryz.prog)) (lam (rdeLs Tryz.prog)) 100 137) [asl byS b] =
RT.br (decide (1488<(↑(D.len b):Int))) (RT.ok (AV.tup [zz,zk 2])) (RT.br (decide (0≤D.len b∧D.len b - 0≤D.len b∧D.len b≤1488∧(0:Nat)≤64)&&bytesB b) (RT.br ((rdeG (rdeY.m ((fun x=>(rdeY.mk (rdeX.b (Prod.fst x)) (D.len (rdeX.b (Prod.fst x))) 0 (D.l []))) ((rdeX.mk b),0))) (rdeY.b ((fun x=>(rdeY.mk (rdeX.b (Prod.fst x)) (D.len (rdeX.b (Prod.fst x))) 0 (D.l []))) ((rdeX.mk b),0))) (rdeY.k ((fun x=>(rdeY.mk (rdeX.b (Prod.fst x)) (D.len (rdeX.b (Prod.fst x))) 0 (D.l []))) ((rdeX.mk b),0))) (rdeY.ol ((fun x=>(rdeY.mk (rdeX.b (Prod.fst x)) (D.len (rdeX.b (Prod.fst x))) 0 (D.l []))) ((rdeX.mk b),0)))).1==0) (RT.ok (AV.tup [AV.sl false zO (Prod.snd (rdeG (rdeY.m ((fun x=>(rdeY.mk (rdeX.b (Prod.fst x)) (D.len (rdeX.b (Prod.fst x))) 0 (D.l []))) ((rdeX.mk b),0))) (rdeY.b ((fun x=>(rdeY.mk (rdeX.b (Prod.fst x)) (D.len (rdeX.b (Prod.fst x))) 0 (D.l []))) ((rdeX.mk b),0))) (rdeY.k ((fun x=>(rdeY.mk (rdeX.b (Prod.fst x)) (D.len (rdeX.b (Prod.fst x))) 0 (D.l []))) ((rdeX.mk b),0))) (rdeY.ol ((fun x=>(rdeY.mk (rdeX.b (Prod.fst x)) (D.len (rdeX.b (Prod.fst x))) 0 (D.l []))) ((rdeX.mk b),0))))).1 none,zk 0])) (RT.ok (AV.tup [zy,AV.sc false (Value.int IntKind.i64 (rdeG (rdeY.m ((fun x=>(rdeY.mk (rdeX.b (Prod.fst x)) (D.len (rdeX.b (Prod.fst x))) 0 (D.l []))) ((rdeX.mk b),0))) (rdeY.b ((fun x=>(rdeY.mk (rdeX.b (Prod.fst x)) (D.len (rdeX.b (Prod.fst x))) 0 (D.l []))) ((rdeX.mk b),0))) (rdeY.k ((fun x=>(rdeY.mk (rdeX.b (Prod.fst x)) (D.len (rdeX.b (Prod.fst x))) 0 (D.l []))) ((rdeX.mk b),0))) (rdeY.ol ((fun x=>(rdeY.mk (rdeX.b (Prod.fst x)) (D.len (rdeX.b (Prod.fst x))) 0 (D.l []))) ((rdeX.mk b),0)))).1)]))) (RT.bad 210)):=by rw [← fvF_eq Tryz.prog (gam (nilG Tryz.prog)) (lam (rdeLs Tryz.prog)) false 100 137]; kernel_rfl
theorem sub_sub {b:D} {k u p q:Nat} (h1:p≤q) (h2:k+q≤u) (h3:u≤b.len):(b.sub k u).sub p q=b.sub (k+p) (k+q):=by
  have e:∀ (d:D) (x y:Nat),d.sub x y=.l ((d.toL.take y).drop x):=fun _ _ _=>rfl
  rw [e (b.sub k u),e b (k+p),toL_sub]
  congr 1
  rw [List.take_drop,List.take_take,List.drop_drop,Nat.min_eq_left h2]
theorem byN_sub {b:D} {l u j:Nat} (h:l+j<u):byN (b.sub l u) j=byN b (l+j):=by
  unfold byN
  rw [sub_get h]
theorem rdeG_dec {b:D} (hb:bytesB b=true) (hl:b.len≤maxLen):∀ (m k:Nat) (d ol:D),k≤b.len→d.len=b.len - k→(∀ j,k+j<b.len→byN d j=byN b (k+j))→(∀ p q,p≤q→k+q≤b.len→d.sub p q=b.sub (k+p) (k+q))→decF m d ol=((rdeG m b k ol).1,(rdeG m b k ol).2.1)
  | 0,_,_,_,_,_,_,_=>rfl
  | m+1,k,d,ol,hk,hd,hg,hs=>by
    simp only [decF,rdeG]
    by_cases h0:b.len≤k
    · rw [if_pos h0,if_pos (by omega)]
    rw [if_neg h0,if_neg (by omega)]
    by_cases h2:b.len - k<2
    · rw [if_pos h2,if_pos (by unfold badO; exact det (.inl (by omega)))]
    rw [if_neg h2]
    have g1:=hg 1 (by omega)
    have g0:byN d 0=byN b k:=hg 0 (by omega)
    by_cases h3:byN b (k+1)<2∨((b.len:Int) - k)<byN b (k+1)
    · rw [if_pos h3,if_pos (by unfold badO; rw [g1]; exact det (.inr (h3.imp id fun h=>by omega)))]
    rw [if_neg h3,if_neg (by unfold badO; rw [g1]; exact fun h=>by have:=odt h; omega)]
    by_cases h4:ol.len=64
    · rw [if_pos h4,if_pos h4]
    rw [if_neg h4,if_neg h4]
    have hbk:=bytes_at hb (show k<b.len by omega)
    have eo:optD d=.t [.i (byN b k),D.sub b (k+2) (k+(byN b (k+1)).toNat)]:=by
      unfold optD
      rw [g0,g1,i64_id ⟨hbk.1,by omega⟩,hs _ _ (by omega) (by omega)]
    have ea:advD d=b.sub (k+(byN b (k+1)).toNat) b.len:=by
      show D.sub d (Int.toNat (byN d 1)) (Int.toNat (d.len:Int))=_
      rw [g1,Int.toNat_natCast,hs _ _ (by omega) (by omega),hd]
      congr 1; omega
    rw [eo,ea]
    refine rdeG_dec hb hl m _ _ _ (by omega) (sub_len (by omega) (Nat.le_refl _)) (fun j hj=>?_) (fun p q hp hq=>sub_sub hp hq (Nat.le_refl _))
    exact byN_sub (by omega)
theorem rdeG_dec0 {b:D} (hb:bytesB b=true):decF b.len b (.l [])=((rdeG b.len b 0 (.l [])).1,(rdeG b.len b 0 (.l [])).2.1) :=
  rdeG_dec hb b.len_le b.len 0 b (.l []) (Nat.zero_le _) rfl (fun j _=>by rw [Nat.zero_add]) (fun p q _ _=>by rw [Nat.zero_add,Nat.zero_add])
theorem FDec_inv {args:List AV} {K:AV→Prop} (H:(FDec args).holds K):∃ d,args=[asl byS d]∧bytesB d=true∧K (.tup [asl opS (decO d),ai (decE d)]):=by
  unfold FDec at H
  split at H
  · rename_i d
    obtain ⟨hc,H⟩:=need_holds H
    exact ⟨d,rfl,hc,H⟩
  · exact H.elim
theorem rdec_soundF:SoundF Tryz.prog 137 (pureS Tryz.prog 137 FDec):=by
  refine pure_in (gs:=nilG Tryz.prog) (ls:=rdeLs Tryz.prog) mixed nilG_ok rdeLs_ok 137 100 fun args K ho H=>?_
  obtain ⟨b,hr,hb,H⟩:=FDec_inv H
  rw [hr,rde_tree]
  have nil0:(D.l []).len=0:=rfl
  refine ⟨fun h=>?_,fun h=>?_⟩
  · have h:=odt h
    have e:decE b=2:=decE_long (by omega)
    refine ⟨_,le_two (le_nil ?_) (le_int e.symm),H⟩
    rw [decO_err (by rw [e]; decide)]; rfl
  have h:=odf h
  have hE:decE b=(rdeG b.len b 0 (.l [])).1:=by rw [decE_of (by omega),rdeG_dec0 hb]
  refine holds_t_of (by rw [hb,Bool.and_true]; exact det ⟨Nat.zero_le _,by omega,by omega,by decide⟩) ⟨fun h0=>⟨_,le_two ?_ (le_int ?_),H⟩,fun h0=>⟨_,le_two (le_nil ?_) (le_int ?_),H⟩⟩
  · have h0:(rdeG b.len b 0 (.l [])).1=0:=eq_of_beq h0
    have:decO b=(rdeG b.len b 0 (.l [])).2.1:=by rw [decO_ok (hE.trans h0),rdeG_dec0 hb]
    rw [this]
    exact Le.refl _
  · have h0:(rdeG b.len b 0 (.l [])).1=0:=eq_of_beq h0
    rw [hE,h0]
  · have h0:((rdeG b.len b 0 (.l [])).1==0)=false:=h0
    rw [decO_err (fun e=>by rw [← hE,e] at h0; cases h0)]; rfl
  · rw [hE]
def rlM (r:D):Int:=match rlOf r with | some (m,_)=>m.toI | none=>0
def rlG (r:D):Int:=match rlOf r with | some (_,g)=>g.toI | none=>0
def FMayR:List AV→RT AV
  | [.agg [.sl false [.int .i64,.int .i64,.int .i64,.int .i64,.int .i64,.int .i64,.bool] r none,.sc false (.int .i64 mc),.sc false (.int .i64 mt),.sc false (.int .i64 mf),.sc false (.int .i64 wt)],
     .agg [.sc false (.int .i64 st),.sc false (.int .i64 id),.sc false (.int .i64 rq),.sl false [.int .i64,.sl [.int .u8]] d none,.sc false (.int .i64 ct),.sc false (.int .i64 tm),.sc false (.int .i64 nk)],.sc false (.int .i64 tk)]=>need false (isRl r) 272 (.ok (ab (mayB (rlM r) (rlG r) mc mt mf wt st id rq d ct tm nk tk)))
  | _=>.bad 272
def FDoR:List AV→RT AV
  | [.agg [.sl false [.int .i64,.int .i64,.int .i64,.int .i64,.int .i64,.int .i64,.bool] r none,.sc false (.int .i64 mc),.sc false (.int .i64 mt),.sc false (.int .i64 mf),.sc false (.int .i64 wt)],
     .agg [.sc false (.int .i64 st),.sc false (.int .i64 id),.sc false (.int .i64 rq),.sl false [.int .i64,.sl [.int .u8]] d none,.sc false (.int .i64 ct),.sc false (.int .i64 tm),.sc false (.int .i64 nk)],.sc false (.int .i64 e),
     .agg [.sc false (.int .i64 ic),.sc false (.int .i64 ii),.sl false [.int .u8] ix none],.agg [.sc false (.int .i64 ac),.sc false (.int .i64 ax),.sl false [.int .u8] ad none],.sc false (.int .i64 tk)]=>need false (isRl r) 274 (.ok (doneA (doW (rlM r) (rlG r) mc mt mf wt ⟨st,id,rq,d,ct,tm,nk⟩ e ic ii ix ac ax ad tk)))
  | _=>.bad 274
def pktG (P:Program):List (FuncId×Spec):=[(60,pureS P 60 FEnc7),(127,pureS P 127 FMayR),(93,pureS P 93 FAs),(104,pureS P 104 FDec),(184,pureS P 184 FAns),(78,pureS P 78 FEnc),(150,pureS P 150 FLrn),(128,pureS P 128 FStep),(94,pureS P 94 FDoR)]
def rpkG (P:Program):List (FuncId×Spec):=[(30,pureS P 30 FEnc7),(152,pureS P 152 FMayR),(137,pureS P 137 FDec),(193,pureS P 193 FAns),(81,pureS P 81 FEnc),(194,pureS P 194 FLrn),(153,pureS P 153 FStep),(135,pureS P 135 FDoR)]
def stayV (a:AuV):DoneV:=⟨a,.l [],.l []⟩
abbrev b0I (ix:D):Int:=((ix.get 0).cell 0).toI
def pkW (r:D) (mc mt mf wt:Int) (a:AuV) (ic ii:Int) (ix:D) (tk:Int):DoneV :=
  bif !(decide (1≤ic)&&decide (ic≤7)) then stayV a else bif enc7E ic ii ix != 0 then stayV a else bif !mayB (rlM r) (rlG r) mc mt mf wt a.st a.id a.rq a.d a.ct a.tm a.nk tk then stayV a else
  bif ic==1 then (bif decE ix != 0 then stayV a else bif encE (ansO r (decO ix) a.nk mf) != 0 then stayV a else doW (rlM r) (rlG r) mc mt mf wt a (bif ansC r (decO ix) a.nk mf==2 then 7 else 8) ic ii ix (ansC r (decO ix) a.nk mf) ii (encO (ansO r (decO ix) a.nk mf)) tk) else
  bif ic==2 then (bif ii==a.rq then (bif ix.str.toList==(encO a.d).str.toList then doW (rlM r) (rlG r) mc mt mf wt a 9 ic ii ix 0 0 (.l []) tk else stayV a) else stayV a) else
  bif ic==3||ic==4 then (bif ii != a.rq then stayV a else bif decE ix != 0 then stayV a else bif lrnB a.d ic (decO ix) then (bif encE (lrnO a.d ic (decO ix))==0 then (bif rfcE a.st 10 != 0 then stayV a else doW (rlM r) (rlG r) mc mt mf wt ⟨a.st,a.id,a.rq,lrnO a.d ic (decO ix),a.ct,a.tm,a.nk⟩ 10 ic ii ix 0 0 (.l []) tk) else stayV a) else stayV a) else
  bif ic==5 then doW (rlM r) (rlG r) mc mt mf wt a 11 ic ii ix 0 0 (.l []) tk else
  bif ic==6 then doW (rlM r) (rlG r) mc mt mf wt a 12 ic ii ix 0 0 (.l []) tk else
  bif (ix.len:Int)==0 then stayV a else bif decide (1≤b0I ix)&&decide (b0I ix≤7) then doW (rlM r) (rlG r) mc mt mf wt a 15 ic ii ix 0 0 (.l []) tk else doW (rlM r) (rlG r) mc mt mf wt a 14 ic ii ix 0 0 (.l []) tk
abbrev pkA (w:DoneV) (b:Bool):AV:=.tup [auvA w.a,asl ctS w.out,asl acS w.did,ab b]
def pkN (r d ix:D):Bool:=isRl r&&(bytesB ix&&optsB d)
def FPkt:List AV→RT AV
  | [.agg [.sl false [.int .i64,.int .i64,.int .i64,.int .i64,.int .i64,.int .i64,.bool] r none,.sc false (.int .i64 mc),.sc false (.int .i64 mt),.sc false (.int .i64 mf),.sc false (.int .i64 wt)],
     .agg [.sc false (.int .i64 st),.sc false (.int .i64 id),.sc false (.int .i64 rq),.sl false [.int .i64,.sl [.int .u8]] d none,.sc false (.int .i64 ct),.sc false (.int .i64 tm),.sc false (.int .i64 nk)],
     .agg [.sc false (.int .i64 ic),.sc false (.int .i64 ii),.sl false [.int .u8] ix none],.sc false (.int .i64 tk)]=>need false (pkN r d ix) 294 (.ok (pkA (pkW r mc mt mf wt ⟨st,id,rq,d,ct,tm,nk⟩ ic ii ix tk) (decide (1≤ic)&&decide (ic≤7))))
  | _=>.bad 294
abbrev pkt_treeT_1 (r:D) (mc mt mf wt st id rq:Int) (d:D) (ct tm nk ic ii:Int) (ix:D) (tk:Int):=RT.br (bytesB ix) (RT.br (ii != rq) (RT.ok (AV.tup [AV.agg [zi st,zi id,zi rq,zs zO d,zi ct,zi tm,zi nk],zz,zz,AV.sc true (Value.bool true)])) (RT.br (decE ix != 0) (RT.ok (AV.tup [AV.agg [zi st,zi id,zi rq,zs zO d,zi ct,zi tm,zi nk],zz,zz,AV.sc true (Value.bool true)])) (RT.br (lrnN d (decO ix)) (RT.br (lrnB d ic (decO ix)) (RT.br (encE (lrnO d ic (decO ix))==0) (RT.br (rfcE st 10 != 0) (RT.ok (AV.tup [AV.agg [zi st,zi id,zi rq,zs zO d,zi ct,zi tm,zi nk],zz,zz,AV.sc true (Value.bool true)])) (RT.br (isRl r) (RT.ok (AV.tup [AV.agg [zi (AuV.st (DoneV.a (doW (rlM r) (rlG r) mc mt mf wt (AuV.mk st id rq (lrnO d ic (decO ix)) ct tm nk) 10 ic ii ix 0 0 (D.l []) tk))),zi (AuV.id (DoneV.a (doW (rlM r) (rlG r) mc mt mf wt (AuV.mk st id rq (lrnO d ic (decO ix)) ct tm nk) 10 ic ii ix 0 0 (D.l []) tk))),zi (AuV.rq (DoneV.a (doW (rlM r) (rlG r) mc mt mf wt (AuV.mk st id rq (lrnO d ic (decO ix)) ct tm nk) 10 ic ii ix 0 0 (D.l []) tk))),zs zO (AuV.d (DoneV.a (doW (rlM r) (rlG r) mc mt mf wt (AuV.mk st id rq (lrnO d ic (decO ix)) ct tm nk) 10 ic ii ix 0 0 (D.l []) tk))),zi (AuV.ct (DoneV.a (doW (rlM r) (rlG r) mc mt mf wt (AuV.mk st id rq (lrnO d ic (decO ix)) ct tm nk) 10 ic ii ix 0 0 (D.l []) tk))),zi (AuV.tm (DoneV.a (doW (rlM r) (rlG r) mc mt mf wt (AuV.mk st id rq (lrnO d ic (decO ix)) ct tm nk) 10 ic ii ix 0 0 (D.l []) tk))),zi (AuV.nk (DoneV.a (doW (rlM r) (rlG r) mc mt mf wt (AuV.mk st id rq (lrnO d ic (decO ix)) ct tm nk) 10 ic ii ix 0 0 (D.l []) tk)))],zs zC (DoneV.out (doW (rlM r) (rlG r) mc mt mf wt (AuV.mk st id rq (lrnO d ic (decO ix)) ct tm nk) 10 ic ii ix 0 0 (D.l []) tk)),zs zN (DoneV.did (doW (rlM r) (rlG r) mc mt mf wt (AuV.mk st id rq (lrnO d ic (decO ix)) ct tm nk) 10 ic ii ix 0 0 (D.l []) tk)),AV.sc true (Value.bool true)])) (RT.bad 274))) (RT.ok (AV.tup [AV.agg [zi st,zi id,zi rq,zs zO d,zi ct,zi tm,zi nk],zz,zz,AV.sc true (Value.bool true)]))) (RT.ok (AV.tup [AV.agg [zi st,zi id,zi rq,zs zO d,zi ct,zi tm,zi nk],zz,zz,AV.sc true (Value.bool true)]))) (RT.bad 293)))) (RT.bad 251)
abbrev pkt_treeT_2 (r:D) (mc mt mf wt st id rq:Int) (d:D) (ct tm nk ic ii:Int) (ix:D) (tk:Int):=RT.br (isRl r) (RT.ok (AV.tup [AV.agg [zi (AuV.st (DoneV.a (doW (rlM r) (rlG r) mc mt mf wt (AuV.mk st id rq d ct tm nk) 14 ic ii ix 0 0 (D.l []) tk))),zi (AuV.id (DoneV.a (doW (rlM r) (rlG r) mc mt mf wt (AuV.mk st id rq d ct tm nk) 14 ic ii ix 0 0 (D.l []) tk))),zi (AuV.rq (DoneV.a (doW (rlM r) (rlG r) mc mt mf wt (AuV.mk st id rq d ct tm nk) 14 ic ii ix 0 0 (D.l []) tk))),zs zO (AuV.d (DoneV.a (doW (rlM r) (rlG r) mc mt mf wt (AuV.mk st id rq d ct tm nk) 14 ic ii ix 0 0 (D.l []) tk))),zi (AuV.ct (DoneV.a (doW (rlM r) (rlG r) mc mt mf wt (AuV.mk st id rq d ct tm nk) 14 ic ii ix 0 0 (D.l []) tk))),zi (AuV.tm (DoneV.a (doW (rlM r) (rlG r) mc mt mf wt (AuV.mk st id rq d ct tm nk) 14 ic ii ix 0 0 (D.l []) tk))),zi (AuV.nk (DoneV.a (doW (rlM r) (rlG r) mc mt mf wt (AuV.mk st id rq d ct tm nk) 14 ic ii ix 0 0 (D.l []) tk)))],zs zC (DoneV.out (doW (rlM r) (rlG r) mc mt mf wt (AuV.mk st id rq d ct tm nk) 14 ic ii ix 0 0 (D.l []) tk)),zs zN (DoneV.did (doW (rlM r) (rlG r) mc mt mf wt (AuV.mk st id rq d ct tm nk) 14 ic ii ix 0 0 (D.l []) tk)),AV.sc true (Value.bool true)])) (RT.bad 274)
abbrev pkt_treeT_3 (st id rq:Int) (d:D) (ct tm nk:Int):=RT.ok (AV.tup [AV.agg [zi st,zi id,zi rq,zs zO d,zi ct,zi tm,zi nk],zz,zz,AV.sc true (Value.bool false)])
abbrev pkt_treeT_4 (st id rq:Int) (d:D) (ct tm nk:Int):=RT.ok (AV.tup [AV.agg [zi st,zi id,zi rq,zs zO d,zi ct,zi tm,zi nk],zz,zz,AV.sc true (Value.bool true)])
def pkt_treeT (r:D) (mc mt mf wt st id rq:Int) (d:D) (ct tm nk ic ii:Int) (ix:D) (tk:Int):RT AV :=
RT.br (decide (1≤ic)) (RT.br (!decide (ic≤7)) (pkt_treeT_3 st id rq d ct tm nk) (RT.br (enc7E ic ii ix != 0) (pkt_treeT_4 st id rq d ct tm nk) (RT.br (isRl r) (RT.br (!mayB (rlM r) (rlG r) mc mt mf wt st id rq d ct tm nk tk) (pkt_treeT_4 st id rq d ct tm nk) (RT.br (ic==1) (RT.br (bytesB ix) (RT.br (decE ix != 0) (pkt_treeT_4 st id rq d ct tm nk) (RT.br (ansN r (decO ix)) (RT.br (encE (ansO r (decO ix) nk mf) != 0) (pkt_treeT_4 st id rq d ct tm nk) (RT.br (ansC r (decO ix) nk mf==2) (RT.br (isRl r) (RT.ok (AV.tup [AV.agg [zi (AuV.st (DoneV.a (doW (rlM r) (rlG r) mc mt mf wt (AuV.mk st id rq d ct tm nk) 7 ic ii ix (ansC r (decO ix) nk mf) ii (encO (ansO r (decO ix) nk mf)) tk))),zi (AuV.id (DoneV.a (doW (rlM r) (rlG r) mc mt mf wt (AuV.mk st id rq d ct tm nk) 7 ic ii ix (ansC r (decO ix) nk mf) ii (encO (ansO r (decO ix) nk mf)) tk))),zi (AuV.rq (DoneV.a (doW (rlM r) (rlG r) mc mt mf wt (AuV.mk st id rq d ct tm nk) 7 ic ii ix (ansC r (decO ix) nk mf) ii (encO (ansO r (decO ix) nk mf)) tk))),zs zO (AuV.d (DoneV.a (doW (rlM r) (rlG r) mc mt mf wt (AuV.mk st id rq d ct tm nk) 7 ic ii ix (ansC r (decO ix) nk mf) ii (encO (ansO r (decO ix) nk mf)) tk))),zi (AuV.ct (DoneV.a (doW (rlM r) (rlG r) mc mt mf wt (AuV.mk st id rq d ct tm nk) 7 ic ii ix (ansC r (decO ix) nk mf) ii (encO (ansO r (decO ix) nk mf)) tk))),zi (AuV.tm (DoneV.a (doW (rlM r) (rlG r) mc mt mf wt (AuV.mk st id rq d ct tm nk) 7 ic ii ix (ansC r (decO ix) nk mf) ii (encO (ansO r (decO ix) nk mf)) tk))),zi (AuV.nk (DoneV.a (doW (rlM r) (rlG r) mc mt mf wt (AuV.mk st id rq d ct tm nk) 7 ic ii ix (ansC r (decO ix) nk mf) ii (encO (ansO r (decO ix) nk mf)) tk)))],zs zC (DoneV.out (doW (rlM r) (rlG r) mc mt mf wt (AuV.mk st id rq d ct tm nk) 7 ic ii ix (ansC r (decO ix) nk mf) ii (encO (ansO r (decO ix) nk mf)) tk)),zs zN (DoneV.did (doW (rlM r) (rlG r) mc mt mf wt (AuV.mk st id rq d ct tm nk) 7 ic ii ix (ansC r (decO ix) nk mf) ii (encO (ansO r (decO ix) nk mf)) tk)),AV.sc true (Value.bool true)])) (RT.bad 274)) (RT.br (isRl r) (RT.ok (AV.tup [AV.agg [zi (AuV.st (DoneV.a (doW (rlM r) (rlG r) mc mt mf wt (AuV.mk st id rq d ct tm nk) 8 ic ii ix (ansC r (decO ix) nk mf) ii (encO (ansO r (decO ix) nk mf)) tk))),zi (AuV.id (DoneV.a (doW (rlM r) (rlG r) mc mt mf wt (AuV.mk st id rq d ct tm nk) 8 ic ii ix (ansC r (decO ix) nk mf) ii (encO (ansO r (decO ix) nk mf)) tk))),zi (AuV.rq (DoneV.a (doW (rlM r) (rlG r) mc mt mf wt (AuV.mk st id rq d ct tm nk) 8 ic ii ix (ansC r (decO ix) nk mf) ii (encO (ansO r (decO ix) nk mf)) tk))),zs zO (AuV.d (DoneV.a (doW (rlM r) (rlG r) mc mt mf wt (AuV.mk st id rq d ct tm nk) 8 ic ii ix (ansC r (decO ix) nk mf) ii (encO (ansO r (decO ix) nk mf)) tk))),zi (AuV.ct (DoneV.a (doW (rlM r) (rlG r) mc mt mf wt (AuV.mk st id rq d ct tm nk) 8 ic ii ix (ansC r (decO ix) nk mf) ii (encO (ansO r (decO ix) nk mf)) tk))),zi (AuV.tm (DoneV.a (doW (rlM r) (rlG r) mc mt mf wt (AuV.mk st id rq d ct tm nk) 8 ic ii ix (ansC r (decO ix) nk mf) ii (encO (ansO r (decO ix) nk mf)) tk))),zi (AuV.nk (DoneV.a (doW (rlM r) (rlG r) mc mt mf wt (AuV.mk st id rq d ct tm nk) 8 ic ii ix (ansC r (decO ix) nk mf) ii (encO (ansO r (decO ix) nk mf)) tk)))],zs zC (DoneV.out (doW (rlM r) (rlG r) mc mt mf wt (AuV.mk st id rq d ct tm nk) 8 ic ii ix (ansC r (decO ix) nk mf) ii (encO (ansO r (decO ix) nk mf)) tk)),zs zN (DoneV.did (doW (rlM r) (rlG r) mc mt mf wt (AuV.mk st id rq d ct tm nk) 8 ic ii ix (ansC r (decO ix) nk mf) ii (encO (ansO r (decO ix) nk mf)) tk)),AV.sc true (Value.bool true)])) (RT.bad 274)))) (RT.bad 285))) (RT.bad 251)) (RT.br (ic==2) (RT.br (ii==rq) (RT.br (ByteArray.toList (D.str ix)==ByteArray.toList (D.str (encO d))) (RT.br (isRl r) (RT.ok (AV.tup [AV.agg [zi (AuV.st (DoneV.a (doW (rlM r) (rlG r) mc mt mf wt (AuV.mk st id rq d ct tm nk) 9 ic ii ix 0 0 (D.l []) tk))),zi (AuV.id (DoneV.a (doW (rlM r) (rlG r) mc mt mf wt (AuV.mk st id rq d ct tm nk) 9 ic ii ix 0 0 (D.l []) tk))),zi (AuV.rq (DoneV.a (doW (rlM r) (rlG r) mc mt mf wt (AuV.mk st id rq d ct tm nk) 9 ic ii ix 0 0 (D.l []) tk))),zs zO (AuV.d (DoneV.a (doW (rlM r) (rlG r) mc mt mf wt (AuV.mk st id rq d ct tm nk) 9 ic ii ix 0 0 (D.l []) tk))),zi (AuV.ct (DoneV.a (doW (rlM r) (rlG r) mc mt mf wt (AuV.mk st id rq d ct tm nk) 9 ic ii ix 0 0 (D.l []) tk))),zi (AuV.tm (DoneV.a (doW (rlM r) (rlG r) mc mt mf wt (AuV.mk st id rq d ct tm nk) 9 ic ii ix 0 0 (D.l []) tk))),zi (AuV.nk (DoneV.a (doW (rlM r) (rlG r) mc mt mf wt (AuV.mk st id rq d ct tm nk) 9 ic ii ix 0 0 (D.l []) tk)))],zs zC (DoneV.out (doW (rlM r) (rlG r) mc mt mf wt (AuV.mk st id rq d ct tm nk) 9 ic ii ix 0 0 (D.l []) tk)),zs zN (DoneV.did (doW (rlM r) (rlG r) mc mt mf wt (AuV.mk st id rq d ct tm nk) 9 ic ii ix 0 0 (D.l []) tk)),AV.sc true (Value.bool true)])) (RT.bad 274)) (pkt_treeT_4 st id rq d ct tm nk)) (pkt_treeT_4 st id rq d ct tm nk)) (RT.br (ic==3) (pkt_treeT_1 r mc mt mf wt st id rq d ct tm nk ic ii ix tk) (RT.br (ic==4) (pkt_treeT_1 r mc mt mf wt st id rq d ct tm nk ic ii ix tk) (RT.br (ic==5) (RT.br (isRl r) (RT.ok (AV.tup [AV.agg [zi (AuV.st (DoneV.a (doW (rlM r) (rlG r) mc mt mf wt (AuV.mk st id rq d ct tm nk) 11 ic ii ix 0 0 (D.l []) tk))),zi (AuV.id (DoneV.a (doW (rlM r) (rlG r) mc mt mf wt (AuV.mk st id rq d ct tm nk) 11 ic ii ix 0 0 (D.l []) tk))),zi (AuV.rq (DoneV.a (doW (rlM r) (rlG r) mc mt mf wt (AuV.mk st id rq d ct tm nk) 11 ic ii ix 0 0 (D.l []) tk))),zs zO (AuV.d (DoneV.a (doW (rlM r) (rlG r) mc mt mf wt (AuV.mk st id rq d ct tm nk) 11 ic ii ix 0 0 (D.l []) tk))),zi (AuV.ct (DoneV.a (doW (rlM r) (rlG r) mc mt mf wt (AuV.mk st id rq d ct tm nk) 11 ic ii ix 0 0 (D.l []) tk))),zi (AuV.tm (DoneV.a (doW (rlM r) (rlG r) mc mt mf wt (AuV.mk st id rq d ct tm nk) 11 ic ii ix 0 0 (D.l []) tk))),zi (AuV.nk (DoneV.a (doW (rlM r) (rlG r) mc mt mf wt (AuV.mk st id rq d ct tm nk) 11 ic ii ix 0 0 (D.l []) tk)))],zs zC (DoneV.out (doW (rlM r) (rlG r) mc mt mf wt (AuV.mk st id rq d ct tm nk) 11 ic ii ix 0 0 (D.l []) tk)),zs zN (DoneV.did (doW (rlM r) (rlG r) mc mt mf wt (AuV.mk st id rq d ct tm nk) 11 ic ii ix 0 0 (D.l []) tk)),AV.sc true (Value.bool true)])) (RT.bad 274)) (RT.br (ic==6) (RT.br (isRl r) (RT.ok (AV.tup [AV.agg [zi (AuV.st (DoneV.a (doW (rlM r) (rlG r) mc mt mf wt (AuV.mk st id rq d ct tm nk) 12 ic ii ix 0 0 (D.l []) tk))),zi (AuV.id (DoneV.a (doW (rlM r) (rlG r) mc mt mf wt (AuV.mk st id rq d ct tm nk) 12 ic ii ix 0 0 (D.l []) tk))),zi (AuV.rq (DoneV.a (doW (rlM r) (rlG r) mc mt mf wt (AuV.mk st id rq d ct tm nk) 12 ic ii ix 0 0 (D.l []) tk))),zs zO (AuV.d (DoneV.a (doW (rlM r) (rlG r) mc mt mf wt (AuV.mk st id rq d ct tm nk) 12 ic ii ix 0 0 (D.l []) tk))),zi (AuV.ct (DoneV.a (doW (rlM r) (rlG r) mc mt mf wt (AuV.mk st id rq d ct tm nk) 12 ic ii ix 0 0 (D.l []) tk))),zi (AuV.tm (DoneV.a (doW (rlM r) (rlG r) mc mt mf wt (AuV.mk st id rq d ct tm nk) 12 ic ii ix 0 0 (D.l []) tk))),zi (AuV.nk (DoneV.a (doW (rlM r) (rlG r) mc mt mf wt (AuV.mk st id rq d ct tm nk) 12 ic ii ix 0 0 (D.l []) tk)))],zs zC (DoneV.out (doW (rlM r) (rlG r) mc mt mf wt (AuV.mk st id rq d ct tm nk) 12 ic ii ix 0 0 (D.l []) tk)),zs zN (DoneV.did (doW (rlM r) (rlG r) mc mt mf wt (AuV.mk st id rq d ct tm nk) 12 ic ii ix 0 0 (D.l []) tk)),AV.sc true (Value.bool true)])) (RT.bad 274)) (RT.br (ic==7) (RT.br ((↑(D.len ix):Int)==0) (pkt_treeT_4 st id rq d ct tm nk) (RT.br (decide ((0:Int)≤0∧0<(↑(D.len ix):Int))) (RT.br (decide (1≤IntKind.wrap IntKind.i64 (D.toI (D.cell (D.get ix 0) 0)))) (RT.br (decide (IntKind.wrap IntKind.i64 (D.toI (D.cell (D.get ix 0) 0))≤7)) (RT.br (isRl r) (RT.ok (AV.tup [AV.agg [zi (AuV.st (DoneV.a (doW (rlM r) (rlG r) mc mt mf wt (AuV.mk st id rq d ct tm nk) 15 ic ii ix 0 0 (D.l []) tk))),zi (AuV.id (DoneV.a (doW (rlM r) (rlG r) mc mt mf wt (AuV.mk st id rq d ct tm nk) 15 ic ii ix 0 0 (D.l []) tk))),zi (AuV.rq (DoneV.a (doW (rlM r) (rlG r) mc mt mf wt (AuV.mk st id rq d ct tm nk) 15 ic ii ix 0 0 (D.l []) tk))),zs zO (AuV.d (DoneV.a (doW (rlM r) (rlG r) mc mt mf wt (AuV.mk st id rq d ct tm nk) 15 ic ii ix 0 0 (D.l []) tk))),zi (AuV.ct (DoneV.a (doW (rlM r) (rlG r) mc mt mf wt (AuV.mk st id rq d ct tm nk) 15 ic ii ix 0 0 (D.l []) tk))),zi (AuV.tm (DoneV.a (doW (rlM r) (rlG r) mc mt mf wt (AuV.mk st id rq d ct tm nk) 15 ic ii ix 0 0 (D.l []) tk))),zi (AuV.nk (DoneV.a (doW (rlM r) (rlG r) mc mt mf wt (AuV.mk st id rq d ct tm nk) 15 ic ii ix 0 0 (D.l []) tk)))],zs zC (DoneV.out (doW (rlM r) (rlG r) mc mt mf wt (AuV.mk st id rq d ct tm nk) 15 ic ii ix 0 0 (D.l []) tk)),zs zN (DoneV.did (doW (rlM r) (rlG r) mc mt mf wt (AuV.mk st id rq d ct tm nk) 15 ic ii ix 0 0 (D.l []) tk)),AV.sc true (Value.bool true)])) (RT.bad 274)) (pkt_treeT_2 r mc mt mf wt st id rq d ct tm nk ic ii ix tk)) (pkt_treeT_2 r mc mt mf wt st id rq d ct tm nk ic ii ix tk)) (RT.bad 42))) (pkt_treeT_4 st id rq d ct tm nk))))))))) (RT.bad 272)))) (pkt_treeT_3 st id rq d ct tm nk)
theorem pkt_tree (r:D) (mc mt mf wt st id rq:Int) (d:D) (ct tm nk ic ii:Int) (ix:D) (tk:Int):treeF (evF Tryz.prog (gam (pktG Tryz.prog)) (lam ([])) 100 101) [.agg [asl rlS r,ai mc,ai mt,ai mf,ai wt],autA st id rq d ct tm nk,ctlA ic ii ix,ai tk]=pkt_treeT r mc mt mf wt st id rq d ct tm nk ic ii ix tk:=by rw [← fvF_eq Tryz.prog (gam (pktG Tryz.prog)) (lam ([])) false 100 101]; kernel_rfl
abbrev rpk_treeT_1 (r:D) (mc mt mf wt st id rq:Int) (d:D) (ct tm nk ic ii:Int) (ix:D) (tk:Int):=RT.br (bytesB ix) (RT.br (ii != rq) (RT.ok (AV.tup [AV.agg [zi st,zi id,zi rq,zs zO d,zi ct,zi tm,zi nk],zz,zz,AV.sc true (Value.bool true)])) (RT.br (decE ix != 0) (RT.ok (AV.tup [AV.agg [zi st,zi id,zi rq,zs zO d,zi ct,zi tm,zi nk],zz,zz,AV.sc true (Value.bool true)])) (RT.br (lrnN d (decO ix)) (RT.br (lrnB d ic (decO ix)) (RT.br (!encE (lrnO d ic (decO ix))==0) (RT.ok (AV.tup [AV.agg [zi st,zi id,zi rq,zs zO d,zi ct,zi tm,zi nk],zz,zz,AV.sc true (Value.bool true)])) (RT.br (isRl r) (RT.br (rfcE st 10 != 0) (RT.ok (AV.tup [AV.agg [zi st,zi id,zi rq,zs zO d,zi ct,zi tm,zi nk],zs zC (DoneV.out (doW (rlM r) (rlG r) mc mt mf wt (AuV.mk st id rq (lrnO d ic (decO ix)) ct tm nk) 10 ic ii ix 0 0 (D.l []) tk)),zs zN (DoneV.did (doW (rlM r) (rlG r) mc mt mf wt (AuV.mk st id rq (lrnO d ic (decO ix)) ct tm nk) 10 ic ii ix 0 0 (D.l []) tk)),AV.sc true (Value.bool true)])) (RT.ok (AV.tup [AV.agg [zi (AuV.st (DoneV.a (doW (rlM r) (rlG r) mc mt mf wt (AuV.mk st id rq (lrnO d ic (decO ix)) ct tm nk) 10 ic ii ix 0 0 (D.l []) tk))),zi (AuV.id (DoneV.a (doW (rlM r) (rlG r) mc mt mf wt (AuV.mk st id rq (lrnO d ic (decO ix)) ct tm nk) 10 ic ii ix 0 0 (D.l []) tk))),zi (AuV.rq (DoneV.a (doW (rlM r) (rlG r) mc mt mf wt (AuV.mk st id rq (lrnO d ic (decO ix)) ct tm nk) 10 ic ii ix 0 0 (D.l []) tk))),zs zO (AuV.d (DoneV.a (doW (rlM r) (rlG r) mc mt mf wt (AuV.mk st id rq (lrnO d ic (decO ix)) ct tm nk) 10 ic ii ix 0 0 (D.l []) tk))),zi (AuV.ct (DoneV.a (doW (rlM r) (rlG r) mc mt mf wt (AuV.mk st id rq (lrnO d ic (decO ix)) ct tm nk) 10 ic ii ix 0 0 (D.l []) tk))),zi (AuV.tm (DoneV.a (doW (rlM r) (rlG r) mc mt mf wt (AuV.mk st id rq (lrnO d ic (decO ix)) ct tm nk) 10 ic ii ix 0 0 (D.l []) tk))),zi (AuV.nk (DoneV.a (doW (rlM r) (rlG r) mc mt mf wt (AuV.mk st id rq (lrnO d ic (decO ix)) ct tm nk) 10 ic ii ix 0 0 (D.l []) tk)))],zs zC (DoneV.out (doW (rlM r) (rlG r) mc mt mf wt (AuV.mk st id rq (lrnO d ic (decO ix)) ct tm nk) 10 ic ii ix 0 0 (D.l []) tk)),zs zN (DoneV.did (doW (rlM r) (rlG r) mc mt mf wt (AuV.mk st id rq (lrnO d ic (decO ix)) ct tm nk) 10 ic ii ix 0 0 (D.l []) tk)),AV.sc true (Value.bool true)]))) (RT.bad 274))) (RT.ok (AV.tup [AV.agg [zi st,zi id,zi rq,zs zO d,zi ct,zi tm,zi nk],zz,zz,AV.sc true (Value.bool true)]))) (RT.bad 293)))) (RT.bad 251)
abbrev rpk_treeT_2 (r:D) (mc mt mf wt st id rq:Int) (d:D) (ct tm nk ic ii:Int) (ix:D) (tk:Int):=RT.br (isRl r) (RT.br (rfcE st 14 != 0) (RT.ok (AV.tup [AV.agg [zi st,zi id,zi rq,zs zO d,zi ct,zi tm,zi nk],zs zC (DoneV.out (doW (rlM r) (rlG r) mc mt mf wt (AuV.mk st id rq d ct tm nk) 14 ic ii ix 0 0 (D.l []) tk)),zs zN (DoneV.did (doW (rlM r) (rlG r) mc mt mf wt (AuV.mk st id rq d ct tm nk) 14 ic ii ix 0 0 (D.l []) tk)),AV.sc true (Value.bool true)])) (RT.ok (AV.tup [AV.agg [zi (AuV.st (DoneV.a (doW (rlM r) (rlG r) mc mt mf wt (AuV.mk st id rq d ct tm nk) 14 ic ii ix 0 0 (D.l []) tk))),zi (AuV.id (DoneV.a (doW (rlM r) (rlG r) mc mt mf wt (AuV.mk st id rq d ct tm nk) 14 ic ii ix 0 0 (D.l []) tk))),zi (AuV.rq (DoneV.a (doW (rlM r) (rlG r) mc mt mf wt (AuV.mk st id rq d ct tm nk) 14 ic ii ix 0 0 (D.l []) tk))),zs zO (AuV.d (DoneV.a (doW (rlM r) (rlG r) mc mt mf wt (AuV.mk st id rq d ct tm nk) 14 ic ii ix 0 0 (D.l []) tk))),zi (AuV.ct (DoneV.a (doW (rlM r) (rlG r) mc mt mf wt (AuV.mk st id rq d ct tm nk) 14 ic ii ix 0 0 (D.l []) tk))),zi (AuV.tm (DoneV.a (doW (rlM r) (rlG r) mc mt mf wt (AuV.mk st id rq d ct tm nk) 14 ic ii ix 0 0 (D.l []) tk))),zi (AuV.nk (DoneV.a (doW (rlM r) (rlG r) mc mt mf wt (AuV.mk st id rq d ct tm nk) 14 ic ii ix 0 0 (D.l []) tk)))],zs zC (DoneV.out (doW (rlM r) (rlG r) mc mt mf wt (AuV.mk st id rq d ct tm nk) 14 ic ii ix 0 0 (D.l []) tk)),zs zN (DoneV.did (doW (rlM r) (rlG r) mc mt mf wt (AuV.mk st id rq d ct tm nk) 14 ic ii ix 0 0 (D.l []) tk)),AV.sc true (Value.bool true)]))) (RT.bad 274)
abbrev rpk_treeT_3 (st id rq:Int) (d:D) (ct tm nk:Int):=RT.ok (AV.tup [AV.agg [zi st,zi id,zi rq,zs zO d,zi ct,zi tm,zi nk],zz,zz,AV.sc true (Value.bool false)])
abbrev rpk_treeT_4 (st id rq:Int) (d:D) (ct tm nk:Int):=RT.ok (AV.tup [AV.agg [zi st,zi id,zi rq,zs zO d,zi ct,zi tm,zi nk],zz,zz,AV.sc true (Value.bool true)])
def rpk_treeT (r:D) (mc mt mf wt st id rq:Int) (d:D) (ct tm nk ic ii:Int) (ix:D) (tk:Int):RT AV :=
RT.br (decide (ic<1)) (rpk_treeT_3 st id rq d ct tm nk) (RT.br (decide (7<ic)) (rpk_treeT_3 st id rq d ct tm nk) (RT.br (isRl r) (RT.br (!mayB (rlM r) (rlG r) mc mt mf wt st id rq d ct tm nk tk) (rpk_treeT_4 st id rq d ct tm nk) (RT.br (enc7E ic ii ix != 0) (rpk_treeT_4 st id rq d ct tm nk) (RT.br (ic==1) (RT.br (bytesB ix) (RT.br (decE ix != 0) (rpk_treeT_4 st id rq d ct tm nk) (RT.br (ansN r (decO ix)) (RT.br (ansC r (decO ix) nk mf==2) (RT.br (!encE (ansO r (decO ix) nk mf)==0) (rpk_treeT_4 st id rq d ct tm nk) (RT.br (isRl r) (RT.br (rfcE st 7 != 0) (RT.ok (AV.tup [AV.agg [zi st,zi id,zi rq,zs zO d,zi ct,zi tm,zi nk],zs zC (DoneV.out (doW (rlM r) (rlG r) mc mt mf wt (AuV.mk st id rq d ct tm nk) 7 ic ii ix (ansC r (decO ix) nk mf) ii (encO (ansO r (decO ix) nk mf)) tk)),zs zN (DoneV.did (doW (rlM r) (rlG r) mc mt mf wt (AuV.mk st id rq d ct tm nk) 7 ic ii ix (ansC r (decO ix) nk mf) ii (encO (ansO r (decO ix) nk mf)) tk)),AV.sc true (Value.bool true)])) (RT.ok (AV.tup [AV.agg [zi (AuV.st (DoneV.a (doW (rlM r) (rlG r) mc mt mf wt (AuV.mk st id rq d ct tm nk) 7 ic ii ix (ansC r (decO ix) nk mf) ii (encO (ansO r (decO ix) nk mf)) tk))),zi (AuV.id (DoneV.a (doW (rlM r) (rlG r) mc mt mf wt (AuV.mk st id rq d ct tm nk) 7 ic ii ix (ansC r (decO ix) nk mf) ii (encO (ansO r (decO ix) nk mf)) tk))),zi (AuV.rq (DoneV.a (doW (rlM r) (rlG r) mc mt mf wt (AuV.mk st id rq d ct tm nk) 7 ic ii ix (ansC r (decO ix) nk mf) ii (encO (ansO r (decO ix) nk mf)) tk))),zs zO (AuV.d (DoneV.a (doW (rlM r) (rlG r) mc mt mf wt (AuV.mk st id rq d ct tm nk) 7 ic ii ix (ansC r (decO ix) nk mf) ii (encO (ansO r (decO ix) nk mf)) tk))),zi (AuV.ct (DoneV.a (doW (rlM r) (rlG r) mc mt mf wt (AuV.mk st id rq d ct tm nk) 7 ic ii ix (ansC r (decO ix) nk mf) ii (encO (ansO r (decO ix) nk mf)) tk))),zi (AuV.tm (DoneV.a (doW (rlM r) (rlG r) mc mt mf wt (AuV.mk st id rq d ct tm nk) 7 ic ii ix (ansC r (decO ix) nk mf) ii (encO (ansO r (decO ix) nk mf)) tk))),zi (AuV.nk (DoneV.a (doW (rlM r) (rlG r) mc mt mf wt (AuV.mk st id rq d ct tm nk) 7 ic ii ix (ansC r (decO ix) nk mf) ii (encO (ansO r (decO ix) nk mf)) tk)))],zs zC (DoneV.out (doW (rlM r) (rlG r) mc mt mf wt (AuV.mk st id rq d ct tm nk) 7 ic ii ix (ansC r (decO ix) nk mf) ii (encO (ansO r (decO ix) nk mf)) tk)),zs zN (DoneV.did (doW (rlM r) (rlG r) mc mt mf wt (AuV.mk st id rq d ct tm nk) 7 ic ii ix (ansC r (decO ix) nk mf) ii (encO (ansO r (decO ix) nk mf)) tk)),AV.sc true (Value.bool true)]))) (RT.bad 274))) (RT.br (!encE (ansO r (decO ix) nk mf)==0) (rpk_treeT_4 st id rq d ct tm nk) (RT.br (isRl r) (RT.br (rfcE st 8 != 0) (RT.ok (AV.tup [AV.agg [zi st,zi id,zi rq,zs zO d,zi ct,zi tm,zi nk],zs zC (DoneV.out (doW (rlM r) (rlG r) mc mt mf wt (AuV.mk st id rq d ct tm nk) 8 ic ii ix (ansC r (decO ix) nk mf) ii (encO (ansO r (decO ix) nk mf)) tk)),zs zN (DoneV.did (doW (rlM r) (rlG r) mc mt mf wt (AuV.mk st id rq d ct tm nk) 8 ic ii ix (ansC r (decO ix) nk mf) ii (encO (ansO r (decO ix) nk mf)) tk)),AV.sc true (Value.bool true)])) (RT.ok (AV.tup [AV.agg [zi (AuV.st (DoneV.a (doW (rlM r) (rlG r) mc mt mf wt (AuV.mk st id rq d ct tm nk) 8 ic ii ix (ansC r (decO ix) nk mf) ii (encO (ansO r (decO ix) nk mf)) tk))),zi (AuV.id (DoneV.a (doW (rlM r) (rlG r) mc mt mf wt (AuV.mk st id rq d ct tm nk) 8 ic ii ix (ansC r (decO ix) nk mf) ii (encO (ansO r (decO ix) nk mf)) tk))),zi (AuV.rq (DoneV.a (doW (rlM r) (rlG r) mc mt mf wt (AuV.mk st id rq d ct tm nk) 8 ic ii ix (ansC r (decO ix) nk mf) ii (encO (ansO r (decO ix) nk mf)) tk))),zs zO (AuV.d (DoneV.a (doW (rlM r) (rlG r) mc mt mf wt (AuV.mk st id rq d ct tm nk) 8 ic ii ix (ansC r (decO ix) nk mf) ii (encO (ansO r (decO ix) nk mf)) tk))),zi (AuV.ct (DoneV.a (doW (rlM r) (rlG r) mc mt mf wt (AuV.mk st id rq d ct tm nk) 8 ic ii ix (ansC r (decO ix) nk mf) ii (encO (ansO r (decO ix) nk mf)) tk))),zi (AuV.tm (DoneV.a (doW (rlM r) (rlG r) mc mt mf wt (AuV.mk st id rq d ct tm nk) 8 ic ii ix (ansC r (decO ix) nk mf) ii (encO (ansO r (decO ix) nk mf)) tk))),zi (AuV.nk (DoneV.a (doW (rlM r) (rlG r) mc mt mf wt (AuV.mk st id rq d ct tm nk) 8 ic ii ix (ansC r (decO ix) nk mf) ii (encO (ansO r (decO ix) nk mf)) tk)))],zs zC (DoneV.out (doW (rlM r) (rlG r) mc mt mf wt (AuV.mk st id rq d ct tm nk) 8 ic ii ix (ansC r (decO ix) nk mf) ii (encO (ansO r (decO ix) nk mf)) tk)),zs zN (DoneV.did (doW (rlM r) (rlG r) mc mt mf wt (AuV.mk st id rq d ct tm nk) 8 ic ii ix (ansC r (decO ix) nk mf) ii (encO (ansO r (decO ix) nk mf)) tk)),AV.sc true (Value.bool true)]))) (RT.bad 274)))) (RT.bad 285))) (RT.bad 251)) (RT.br (ic==2) (RT.br (ii==rq) (RT.br (!ByteArray.toList (D.str ix)==ByteArray.toList (D.str (encO d))) (rpk_treeT_4 st id rq d ct tm nk) (RT.br (isRl r) (RT.br (rfcE st 9 != 0) (RT.ok (AV.tup [AV.agg [zi st,zi id,zi rq,zs zO d,zi ct,zi tm,zi nk],zs zC (DoneV.out (doW (rlM r) (rlG r) mc mt mf wt (AuV.mk st id rq d ct tm nk) 9 ic ii ix 0 0 (D.l []) tk)),zs zN (DoneV.did (doW (rlM r) (rlG r) mc mt mf wt (AuV.mk st id rq d ct tm nk) 9 ic ii ix 0 0 (D.l []) tk)),AV.sc true (Value.bool true)])) (RT.ok (AV.tup [AV.agg [zi (AuV.st (DoneV.a (doW (rlM r) (rlG r) mc mt mf wt (AuV.mk st id rq d ct tm nk) 9 ic ii ix 0 0 (D.l []) tk))),zi (AuV.id (DoneV.a (doW (rlM r) (rlG r) mc mt mf wt (AuV.mk st id rq d ct tm nk) 9 ic ii ix 0 0 (D.l []) tk))),zi (AuV.rq (DoneV.a (doW (rlM r) (rlG r) mc mt mf wt (AuV.mk st id rq d ct tm nk) 9 ic ii ix 0 0 (D.l []) tk))),zs zO (AuV.d (DoneV.a (doW (rlM r) (rlG r) mc mt mf wt (AuV.mk st id rq d ct tm nk) 9 ic ii ix 0 0 (D.l []) tk))),zi (AuV.ct (DoneV.a (doW (rlM r) (rlG r) mc mt mf wt (AuV.mk st id rq d ct tm nk) 9 ic ii ix 0 0 (D.l []) tk))),zi (AuV.tm (DoneV.a (doW (rlM r) (rlG r) mc mt mf wt (AuV.mk st id rq d ct tm nk) 9 ic ii ix 0 0 (D.l []) tk))),zi (AuV.nk (DoneV.a (doW (rlM r) (rlG r) mc mt mf wt (AuV.mk st id rq d ct tm nk) 9 ic ii ix 0 0 (D.l []) tk)))],zs zC (DoneV.out (doW (rlM r) (rlG r) mc mt mf wt (AuV.mk st id rq d ct tm nk) 9 ic ii ix 0 0 (D.l []) tk)),zs zN (DoneV.did (doW (rlM r) (rlG r) mc mt mf wt (AuV.mk st id rq d ct tm nk) 9 ic ii ix 0 0 (D.l []) tk)),AV.sc true (Value.bool true)]))) (RT.bad 274))) (rpk_treeT_4 st id rq d ct tm nk)) (RT.br (ic==3) (rpk_treeT_1 r mc mt mf wt st id rq d ct tm nk ic ii ix tk) (RT.br (ic==4) (rpk_treeT_1 r mc mt mf wt st id rq d ct tm nk ic ii ix tk) (RT.br (ic==5) (RT.br (isRl r) (RT.br (rfcE st 11 != 0) (RT.ok (AV.tup [AV.agg [zi st,zi id,zi rq,zs zO d,zi ct,zi tm,zi nk],zs zC (DoneV.out (doW (rlM r) (rlG r) mc mt mf wt (AuV.mk st id rq d ct tm nk) 11 ic ii ix 0 0 (D.l []) tk)),zs zN (DoneV.did (doW (rlM r) (rlG r) mc mt mf wt (AuV.mk st id rq d ct tm nk) 11 ic ii ix 0 0 (D.l []) tk)),AV.sc true (Value.bool true)])) (RT.ok (AV.tup [AV.agg [zi (AuV.st (DoneV.a (doW (rlM r) (rlG r) mc mt mf wt (AuV.mk st id rq d ct tm nk) 11 ic ii ix 0 0 (D.l []) tk))),zi (AuV.id (DoneV.a (doW (rlM r) (rlG r) mc mt mf wt (AuV.mk st id rq d ct tm nk) 11 ic ii ix 0 0 (D.l []) tk))),zi (AuV.rq (DoneV.a (doW (rlM r) (rlG r) mc mt mf wt (AuV.mk st id rq d ct tm nk) 11 ic ii ix 0 0 (D.l []) tk))),zs zO (AuV.d (DoneV.a (doW (rlM r) (rlG r) mc mt mf wt (AuV.mk st id rq d ct tm nk) 11 ic ii ix 0 0 (D.l []) tk))),zi (AuV.ct (DoneV.a (doW (rlM r) (rlG r) mc mt mf wt (AuV.mk st id rq d ct tm nk) 11 ic ii ix 0 0 (D.l []) tk))),zi (AuV.tm (DoneV.a (doW (rlM r) (rlG r) mc mt mf wt (AuV.mk st id rq d ct tm nk) 11 ic ii ix 0 0 (D.l []) tk))),zi (AuV.nk (DoneV.a (doW (rlM r) (rlG r) mc mt mf wt (AuV.mk st id rq d ct tm nk) 11 ic ii ix 0 0 (D.l []) tk)))],zs zC (DoneV.out (doW (rlM r) (rlG r) mc mt mf wt (AuV.mk st id rq d ct tm nk) 11 ic ii ix 0 0 (D.l []) tk)),zs zN (DoneV.did (doW (rlM r) (rlG r) mc mt mf wt (AuV.mk st id rq d ct tm nk) 11 ic ii ix 0 0 (D.l []) tk)),AV.sc true (Value.bool true)]))) (RT.bad 274)) (RT.br (ic==6) (RT.br (isRl r) (RT.br (rfcE st 12 != 0) (RT.ok (AV.tup [AV.agg [zi st,zi id,zi rq,zs zO d,zi ct,zi tm,zi nk],zs zC (DoneV.out (doW (rlM r) (rlG r) mc mt mf wt (AuV.mk st id rq d ct tm nk) 12 ic ii ix 0 0 (D.l []) tk)),zs zN (DoneV.did (doW (rlM r) (rlG r) mc mt mf wt (AuV.mk st id rq d ct tm nk) 12 ic ii ix 0 0 (D.l []) tk)),AV.sc true (Value.bool true)])) (RT.ok (AV.tup [AV.agg [zi (AuV.st (DoneV.a (doW (rlM r) (rlG r) mc mt mf wt (AuV.mk st id rq d ct tm nk) 12 ic ii ix 0 0 (D.l []) tk))),zi (AuV.id (DoneV.a (doW (rlM r) (rlG r) mc mt mf wt (AuV.mk st id rq d ct tm nk) 12 ic ii ix 0 0 (D.l []) tk))),zi (AuV.rq (DoneV.a (doW (rlM r) (rlG r) mc mt mf wt (AuV.mk st id rq d ct tm nk) 12 ic ii ix 0 0 (D.l []) tk))),zs zO (AuV.d (DoneV.a (doW (rlM r) (rlG r) mc mt mf wt (AuV.mk st id rq d ct tm nk) 12 ic ii ix 0 0 (D.l []) tk))),zi (AuV.ct (DoneV.a (doW (rlM r) (rlG r) mc mt mf wt (AuV.mk st id rq d ct tm nk) 12 ic ii ix 0 0 (D.l []) tk))),zi (AuV.tm (DoneV.a (doW (rlM r) (rlG r) mc mt mf wt (AuV.mk st id rq d ct tm nk) 12 ic ii ix 0 0 (D.l []) tk))),zi (AuV.nk (DoneV.a (doW (rlM r) (rlG r) mc mt mf wt (AuV.mk st id rq d ct tm nk) 12 ic ii ix 0 0 (D.l []) tk)))],zs zC (DoneV.out (doW (rlM r) (rlG r) mc mt mf wt (AuV.mk st id rq d ct tm nk) 12 ic ii ix 0 0 (D.l []) tk)),zs zN (DoneV.did (doW (rlM r) (rlG r) mc mt mf wt (AuV.mk st id rq d ct tm nk) 12 ic ii ix 0 0 (D.l []) tk)),AV.sc true (Value.bool true)]))) (RT.bad 274)) (RT.br ((↑(D.len ix):Int)==0) (rpk_treeT_4 st id rq d ct tm nk) (RT.br (decide ((0:Int)≤0∧0<(↑(D.len ix):Int))) (RT.br (decide (1≤D.toI (D.cell (D.get ix 0) 0))) (RT.br (decide ((0:Int)≤0∧0<(↑(D.len ix):Int))) (RT.br (decide (D.toI (D.cell (D.get ix 0) 0)≤7)) (RT.br (isRl r) (RT.br (rfcE st 15 != 0) (RT.ok (AV.tup [AV.agg [zi st,zi id,zi rq,zs zO d,zi ct,zi tm,zi nk],zs zC (DoneV.out (doW (rlM r) (rlG r) mc mt mf wt (AuV.mk st id rq d ct tm nk) 15 ic ii ix 0 0 (D.l []) tk)),zs zN (DoneV.did (doW (rlM r) (rlG r) mc mt mf wt (AuV.mk st id rq d ct tm nk) 15 ic ii ix 0 0 (D.l []) tk)),AV.sc true (Value.bool true)])) (RT.ok (AV.tup [AV.agg [zi (AuV.st (DoneV.a (doW (rlM r) (rlG r) mc mt mf wt (AuV.mk st id rq d ct tm nk) 15 ic ii ix 0 0 (D.l []) tk))),zi (AuV.id (DoneV.a (doW (rlM r) (rlG r) mc mt mf wt (AuV.mk st id rq d ct tm nk) 15 ic ii ix 0 0 (D.l []) tk))),zi (AuV.rq (DoneV.a (doW (rlM r) (rlG r) mc mt mf wt (AuV.mk st id rq d ct tm nk) 15 ic ii ix 0 0 (D.l []) tk))),zs zO (AuV.d (DoneV.a (doW (rlM r) (rlG r) mc mt mf wt (AuV.mk st id rq d ct tm nk) 15 ic ii ix 0 0 (D.l []) tk))),zi (AuV.ct (DoneV.a (doW (rlM r) (rlG r) mc mt mf wt (AuV.mk st id rq d ct tm nk) 15 ic ii ix 0 0 (D.l []) tk))),zi (AuV.tm (DoneV.a (doW (rlM r) (rlG r) mc mt mf wt (AuV.mk st id rq d ct tm nk) 15 ic ii ix 0 0 (D.l []) tk))),zi (AuV.nk (DoneV.a (doW (rlM r) (rlG r) mc mt mf wt (AuV.mk st id rq d ct tm nk) 15 ic ii ix 0 0 (D.l []) tk)))],zs zC (DoneV.out (doW (rlM r) (rlG r) mc mt mf wt (AuV.mk st id rq d ct tm nk) 15 ic ii ix 0 0 (D.l []) tk)),zs zN (DoneV.did (doW (rlM r) (rlG r) mc mt mf wt (AuV.mk st id rq d ct tm nk) 15 ic ii ix 0 0 (D.l []) tk)),AV.sc true (Value.bool true)]))) (RT.bad 274)) (rpk_treeT_2 r mc mt mf wt st id rq d ct tm nk ic ii ix tk)) (RT.bad 42)) (rpk_treeT_2 r mc mt mf wt st id rq d ct tm nk ic ii ix tk)) (RT.bad 42))))))))))) (RT.bad 272)))
theorem rpk_tree (r:D) (mc mt mf wt st id rq:Int) (d:D) (ct tm nk ic ii:Int) (ix:D) (tk:Int):treeF (evF Tryz.prog (gam (rpkG Tryz.prog)) (lam ([])) 100 136) [.agg [asl rlS r,ai mc,ai mt,ai mf,ai wt],autA st id rq d ct tm nk,ctlA ic ii ix,ai tk]=rpk_treeT r mc mt mf wt st id rq d ct tm nk ic ii ix tk:=by rw [← fvF_eq Tryz.prog (gam (rpkG Tryz.prog)) (lam ([])) false 100 136]; kernel_rfl
theorem mayR_of {f:FuncId} (h:SoundF Tryz.prog f (pureS Tryz.prog f FMay)):SoundF Tryz.prog f (pureS Tryz.prog f FMayR):=by
  refine pure_mono h fun args K H=>?_
  unfold FMayR at H
  split at H
  · rename_i r mc mt mf wt st id rq d ct tm nk tk
    obtain ⟨hc,H⟩:=need_holds H
    unfold isRl at hc
    unfold rlM rlG at H
    unfold FMay
    cases hr:rlOf r with
    | none=>rw [hr] at hc; cases hc
    | some p=>rw [hr] at H; dsimp only; rw [hr]; exact H
  · exact H.elim
theorem doR_of {f:FuncId} (h:SoundF Tryz.prog f (pureS Tryz.prog f FDo)):SoundF Tryz.prog f (pureS Tryz.prog f FDoR):=by
  refine pure_mono h fun args K H=>?_
  unfold FDoR at H
  split at H
  · rename_i r mc mt mf wt st id rq d ct tm nk e ic ii ix ac ax ad tk
    obtain ⟨hc,H⟩:=need_holds H
    unfold isRl at hc
    unfold rlM rlG at H
    unfold FDo
    cases hr:rlOf r with
    | none=>rw [hr] at hc; cases hc
    | some p=>rw [hr] at H; dsimp only; rw [hr]; exact H
  · exact H.elim
theorem pktG_ok:GamL Tryz.prog (pktG Tryz.prog):=⟨enc7_soundF,mayR_of may_soundF,as_soundF,dec_soundF,ans_soundF,encode_soundF,lrn_soundF,step_soundF,doR_of do_soundF,trivial⟩
theorem rpkG_ok:GamL Tryz.prog (rpkG Tryz.prog):=⟨renc7_soundF,mayR_of fin_soundF,rdec_soundF,ran_soundF,rencode_soundF,rln_soundF,rstep_soundF,doR_of rdo_soundF,trivial⟩
theorem opts_snoc {ol:D} {x:D} (hl:ol.len<maxLen) (h:optsB ol=true) (hx:bytesB (x.cell 1)=true):optsB (ol.app (.l [x]))=true:=by
  have e:(D.l [x]).toL=[x]:=toL_l (by unfold maxLen; simp)
  have ht:(ol.app (.l [x])).toL=ol.toL ++ [x]:=by
    unfold D.app
    rw [e]
    exact toL_l (by rw [List.length_append,List.length_cons,List.length_nil]; unfold D.len at hl; omega)
  have hn:(ol.app (.l [x])).len=ol.len+1:=app_len1 hl
  have h:=odt h
  refine det fun i hi=>?_
  rw [hn] at hi
  by_cases hlt:i<ol.len
  · have eg:(ol.app (.l [x])).get i=ol.get i:=by
      unfold D.get
      rw [ht,List.getD_eq_getElem?_getD,List.getD_eq_getElem?_getD,List.getElem?_append_left hlt]
    have:=h i hlt
    unfold optB at this ⊢
    rw [eg]; exact this
  · have eg:(ol.app (.l [x])).get i=x:=by
      unfold D.get
      rw [ht,List.getD_eq_getElem?_getD,List.getElem?_append_right (by unfold D.len at hlt; omega)]
      have:i - ol.toL.length=0:=by unfold D.len at hi; omega
      rw [this]; rfl
    unfold optB
    rw [eg]
    intro j hj
    exact bytes_at hx hj
theorem decF_ok:∀ (m:Nat) (d ol:D),bytesB d=true→ol.len≤64→optsB ol=true→(decF m d ol).2.len≤64∧optsB (decF m d ol).2=true
  | 0,_,_,_,h1,h2=>⟨h1,h2⟩
  | m+1,d,ol,hb,h1,h2=>by
    unfold decF
    by_cases h0:d.len=0
    · rw [if_pos h0]; exact ⟨h1,h2⟩
    rw [if_neg h0]
    cases hg:badO d
    · rw [if_neg (by simp)]
      by_cases h3:ol.len=64
      · rw [if_pos h3]; exact ⟨h1,h2⟩
      · rw [if_neg h3]
        obtain ⟨g1,g2,g3,g4⟩:=good_of hb hg h0
        refine decF_ok m _ _ (bytes_sub hb (by show (byN d 1).toNat≤((d.len:Int)).toNat; omega) (by show ((d.len:Int)).toNat≤_; omega)) ?_ (opts_snoc (by unfold maxLen; omega) h2 (bytes_sub hb (by omega) (by omega)))
        rw [app_len1 (by unfold maxLen; omega)]; omega
    · rw [if_pos rfl]; exact ⟨h1,h2⟩
theorem decO_fit {d:D} (hb:bytesB d=true):(decO d).len≤64∧optsB (decO d)=true:=by
  have h0:optsB (.l [])=true:=det fun i hi=>absurd hi (Nat.not_lt_zero i)
  unfold decO
  split
  · exact decF_ok _ _ _ hb (Nat.zero_le _) h0
  · exact ⟨Nat.zero_le _,h0⟩
theorem ansN_dec {r ix:D} (hr:isRl r=true) (hb:bytesB ix=true):ansN r (decO ix)=true:=by
  obtain ⟨h1,h2⟩:=decO_fit hb
  unfold ansN
  rw [hr,h2,Bool.and_true]
  exact det (by omega)
theorem lrnN_dec {d ix:D} (hd:d.len*32≤140737488355328) (ho:optsB d=true) (hb:bytesB ix=true):lrnN d (decO ix)=true:=by
  unfold lrnN
  rw [ho,(decO_fit hb).2,det hd]; rfl
theorem FPkt_inv {args:List AV} {K:AV→Prop} (H:(FPkt args).holds K):∃ r mc mt mf wt st id rq d ct tm nk ic ii ix tk,args=[.agg [asl rlS r,ai mc,ai mt,ai mf,ai wt],autA st id rq d ct tm nk,ctlA ic ii ix,ai tk]∧pkN r d ix=true∧K (pkA (pkW r mc mt mf wt ⟨st,id,rq,d,ct,tm,nk⟩ ic ii ix tk) (decide (1≤ic)&&decide (ic≤7))):=by
  unfold FPkt at H
  split at H
  · rename_i r mc mt mf wt st id rq d ct tm nk ic ii ix tk
    obtain ⟨hc,H⟩:=need_holds H
    exact ⟨r,mc,mt,mf,wt,st,id,rq,d,ct,tm,nk,ic,ii,ix,tk,rfl,hc,H⟩
  · exact H.elim
theorem le_stay {st id rq:Int} {d:D} {ct tm nk:Int} {b:Bool} {kn:Bool}:Le (.tup [.agg [.sc false (.int .i64 st),.sc false (.int .i64 id),.sc false (.int .i64 rq),.sl false opS d none,.sc false (.int .i64 ct),.sc false (.int .i64 tm),.sc false (.int .i64 nk)],.sc true (.slice none 0 0),.sc true (.slice none 0 0),.sc kn (.bool b)]) (pkA (stayV ⟨st,id,rq,d,ct,tm,nk⟩) b) :=
  fun E v ⟨vs,h1,h2⟩=>⟨vs,h1,leL_cons (Le.refl _) (leL_cons (le_nil rfl) (leL_cons (le_nil rfl) (leL_cons (le_bool rfl) leL_nil))) E _ h2⟩
theorem le_went {w:DoneV} {kn:Bool} {b:Bool}:Le (.tup [.agg [.sc false (.int .i64 w.a.st),.sc false (.int .i64 w.a.id),.sc false (.int .i64 w.a.rq),.sl false opS w.a.d none,.sc false (.int .i64 w.a.ct),.sc false (.int .i64 w.a.tm),.sc false (.int .i64 w.a.nk)],.sl false ctS w.out none,.sl false acS w.did none,.sc kn (.bool b)]) (pkA w b) :=
  fun E v ⟨vs,h1,h2⟩=>⟨vs,h1,leL_cons (Le.refl _) (leL_cons (Le.refl _) (leL_cons (Le.refl _) (leL_cons (le_bool rfl) leL_nil))) E _ h2⟩
theorem doW_nz {m g mc mt mf wt:Int} {a:AuV} {e ic ii:Int} {ix:D} {ac ax:Int} {ad:D} {tk:Int} (h:(rfcE a.st e==0)=false):doW m g mc mt mf wt a e ic ii ix ac ax ad tk=stayV a :=
  doW_off (by unfold doB; rw [h,Bool.and_false])
theorem le_offX {st id rq:Int} {d:D} {ct tm nk:Int} {w:DoneV} {b:Bool} {kn:Bool} (h1:w.out=.l []) (h2:w.did=.l []):Le (.tup [.agg [.sc false (.int .i64 st),.sc false (.int .i64 id),.sc false (.int .i64 rq),.sl false opS d none,.sc false (.int .i64 ct),.sc false (.int .i64 tm),.sc false (.int .i64 nk)],.sl false ctS w.out none,.sl false acS w.did none,.sc kn (.bool b)]) (pkA (stayV ⟨st,id,rq,d,ct,tm,nk⟩) b):=by
  rw [h1,h2]
  exact fun E v ⟨vs,h1,h2⟩=>⟨vs,h1,leL_cons (Le.refl _) (leL_cons (Le.refl _) (leL_cons (Le.refl _) (leL_cons (le_bool rfl) leL_nil))) E _ h2⟩
theorem b0_wrap {ix:D} (h:bytesB ix=true):IntKind.wrap .i64 (D.toI (D.cell (D.get ix 0) 0))=D.toI (D.cell (D.get ix 0) 0):=by
  by_cases h0:ix.len=0
  · have:ix.get 0=.n:=by
      unfold D.get
      unfold D.len at h0
      rw [List.eq_nil_of_length_eq_zero h0]; rfl
    rw [this]; rfl
  · have hb:=bytes_at h (show 0<ix.len by omega)
    unfold byN at hb
    exact i64_id ⟨hb.1,by omega⟩
theorem pkt_soundF:SoundF Tryz.prog 101 (pureS Tryz.prog 101 FPkt):=by
  refine pure_in (gs:=pktG Tryz.prog) (ls:=[]) mixed pktG_ok trivial 101 100 fun args K ho H=>?_
  obtain ⟨r,mc,mt,mf,wt,st,id,rq,d,ct,tm,nk,ic,ii,ix,tk,hr,hc,H⟩:=FPkt_inv H
  rw [hr] at ho
  rw [hr,pkt_tree]
  have hsz:d.len*32≤140737488355328:=ho.2.1.2.2.2.1.1
  unfold pkN at hc
  simp only [Bool.and_eq_true] at hc
  obtain ⟨hrl,hix,hod⟩:=hc
  have hA:=ansN_dec hrl hix
  have hL:=lrnN_dec hsz hod hix
  have P:∀ w b,pkW r mc mt mf wt ⟨st,id,rq,d,ct,tm,nk⟩ ic ii ix tk=w→(decide (1≤ic)&&decide (ic≤7))=b→K (pkA w b):=by rintro w b rfl rfl; exact H
  unfold pkW at P
  dsimp only at P
  clear H ho hr hsz
  unfold pkt_treeT pkt_treeT_1 pkt_treeT_2 pkt_treeT_3 pkt_treeT_4
  rw [hrl,hix,hA,hL,b0_wrap hix]
  simp only [RT.holds]
  repeat' refine And.intro (fun _=>?_) (fun _=>?_)
  all_goals first
    | contradiction
    | (refine ⟨_,le_stay,P _ _ ?_ ?_⟩ <;> (clear P; (try simp only [bne,Bool.not_eq_true',Bool.not_eq_false'] at *); simp only [bne,b0I,Bool.cond_self, *,cond_true,cond_false,Bool.not_true,Bool.not_false,Bool.and_true,Bool.true_and,Bool.and_false,Bool.false_and,Bool.or_true,Bool.true_or,Bool.or_false,Bool.false_or]); done)
    | (refine ⟨_,le_went,P _ _ ?_ ?_⟩ <;> (clear P; (try simp only [bne,Bool.not_eq_true',Bool.not_eq_false'] at *); simp only [bne,b0I,Bool.cond_self, *,cond_true,cond_false,Bool.not_true,Bool.not_false,Bool.and_true,Bool.true_and,Bool.and_false,Bool.false_and,Bool.or_true,Bool.true_or,Bool.or_false,Bool.false_or]); done)
    | (exfalso; clear P; simp only [bne,Bool.not_eq_true',Bool.not_eq_false',decide_eq_true_eq,decide_eq_false_iff_not,beq_iff_eq,beq_eq_false_iff_ne] at *; omega)
theorem rpk_soundF:SoundF Tryz.prog 136 (pureS Tryz.prog 136 FPkt):=by
  refine pure_in (gs:=rpkG Tryz.prog) (ls:=[]) mixed rpkG_ok trivial 136 100 fun args K ho H=>?_
  obtain ⟨r,mc,mt,mf,wt,st,id,rq,d,ct,tm,nk,ic,ii,ix,tk,hr,hc,H⟩:=FPkt_inv H
  rw [hr] at ho
  rw [hr,rpk_tree]
  have hsz:d.len*32≤140737488355328:=ho.2.1.2.2.2.1.1
  unfold pkN at hc
  simp only [Bool.and_eq_true] at hc
  obtain ⟨hrl,hix,hod⟩:=hc
  have hA:=ansN_dec hrl hix
  have hL:=lrnN_dec hsz hod hix
  have P:∀ w b,pkW r mc mt mf wt ⟨st,id,rq,d,ct,tm,nk⟩ ic ii ix tk=w→(decide (1≤ic)&&decide (ic≤7))=b→K (pkA w b):=by rintro w b rfl rfl; exact H
  unfold pkW at P
  dsimp only at P
  clear H ho hr hsz
  unfold rpk_treeT rpk_treeT_1 rpk_treeT_2 rpk_treeT_3 rpk_treeT_4
  have c1:decide (ic<1)=!decide (1≤ic):=by by_cases h:ic<1 <;> simp [h] <;> omega
  have c7:decide (7<ic)=!decide (ic≤7):=by by_cases h:7<ic <;> simp [h] <;> omega
  rw [hrl,hix,hA,hL,c1,c7]
  clear c1 c7
  simp only [RT.holds]
  repeat' refine And.intro (fun _=>?_) (fun _=>?_)
  all_goals (try simp only [bne,Bool.not_eq_true',Bool.not_eq_false'] at *)
  all_goals first
    | contradiction
    | (refine ⟨_,le_stay,P _ _ ?_ ?_⟩ <;> (clear P; simp only [bne,b0I,Bool.cond_self, *,cond_true,cond_false,Bool.not_true,Bool.not_false,Bool.and_true,Bool.true_and,Bool.and_false,Bool.false_and,Bool.or_true,Bool.true_or,Bool.or_false,Bool.false_or]); done)
    | (refine ⟨_,le_went,P _ _ ?_ ?_⟩ <;> (clear P; simp only [bne,b0I,Bool.cond_self, *,cond_true,cond_false,Bool.not_true,Bool.not_false,Bool.and_true,Bool.true_and,Bool.and_false,Bool.false_and,Bool.or_true,Bool.true_or,Bool.or_false,Bool.false_or]); done)
    | (refine ⟨_,le_offX (by rw [doW_nz (by assumption)]; rfl) (by rw [doW_nz (by assumption)]; rfl),P _ _ ?_ ?_⟩ <;> (first | ((clear P; simp only [bne,b0I,Bool.cond_self, *,cond_true,cond_false,Bool.not_true,Bool.not_false,Bool.and_true,Bool.true_and,Bool.and_false,Bool.false_and,Bool.or_true,Bool.true_or,Bool.or_false,Bool.false_or]); done) | ((clear P; simp only [bne,b0I,Bool.cond_self, *,cond_true,cond_false,Bool.not_true,Bool.not_false,Bool.and_true,Bool.true_and,Bool.and_false,Bool.false_and,Bool.or_true,Bool.true_or,Bool.or_false,Bool.false_or]); exact doW_nz (by assumption))); done)
    | (exfalso; clear P; simp only [decide_eq_true_eq,decide_eq_false_iff_not,beq_iff_eq,beq_eq_false_iff_ne] at *; omega)
end
end Go.Proofs.YtcambhbmobepjaaGreat
namespace Go.Proofs.YtcambhbmobepjaaGreat
set_option linter.unusedSimpArgs false
set_option linter.unusedVariables false
open Go.RowKit
set_option maxRecDepth 10000
noncomputable section
def tipsA (nv:Nat):List AV→List Nat→List Nat
  | [],acc=>acc
  | .sl _ _ _ (some (k,_)) :: r,acc=>bif acc.contains k||!(Nat.blt k nv) then tipsA nv r acc else tipsA nv r (acc ++ [k])
  | _ :: r,acc=>tipsA nv r acc
theorem tipsA_ok (nv:Nat):∀ (l:List AV) (acc:List Nat),(acc.Nodup∧∀ k ∈ acc,k<nv)→(tipsA nv l acc).Nodup∧∀ k ∈ tipsA nv l acc,k<nv
  | [],_,h=>h
  | .sl kn es d tip :: r,acc,h=>by
    cases tip with
    | none=>exact tipsA_ok nv r acc h
    | some kg =>
      obtain ⟨k,g⟩:=kg
      show (bif acc.contains k||!(Nat.blt k nv) then tipsA nv r acc else tipsA nv r (acc ++ [k])).Nodup∧∀ q ∈ (bif acc.contains k||!(Nat.blt k nv) then tipsA nv r acc else tipsA nv r (acc ++ [k])),q<nv
      cases hc:acc.contains k||!(Nat.blt k nv)
      · rw [Bool.or_eq_false_iff] at hc
        have hlt:k<nv:=by
          have:=hc.2
          rw [Bool.not_eq_false'] at this
          exact Nat.le_of_ble_eq_true this
        refine tipsA_ok nv r (acc ++ [k]) ⟨?_,fun q hq=>?_⟩
        · rw [List.nodup_append]
          refine ⟨h.1,by simp,fun a ha b hb=>?_⟩
          obtain rfl:=List.mem_singleton.1 hb
          rintro rfl
          rw [List.contains_iff_mem.2 ha] at hc; cases hc.1
        · rcases List.mem_append.1 hq with hq | hq
          · exact h.2 q hq
          · rw [List.mem_singleton.1 hq]; exact hlt
      · exact tipsA_ok nv r acc h
  | .any :: r,acc,h=>tipsA_ok nv r acc h
  | .sc _ _ :: r,acc,h=>tipsA_ok nv r acc h
  | .ptr _ _ :: r,acc,h=>tipsA_ok nv r acc h
  | .mp _ :: r,acc,h=>tipsA_ok nv r acc h
  | .ep _ _ _ _ :: r,acc,h=>tipsA_ok nv r acc h
  | .fn _ _ _ :: r,acc,h=>tipsA_ok nv r acc h
  | .agg _ :: r,acc,h=>tipsA_ok nv r acc h
  | .tup _ :: r,acc,h=>tipsA_ok nv r acc h
  | .rsl _ _ _ _ :: r,acc,h=>tipsA_ok nv r acc h
  | .rp _ _ _ _ _ :: r,acc,h=>tipsA_ok nv r acc h
  | .rw _ _ :: r,acc,h=>tipsA_ok nv r acc h
def tipsO (h:Hp) (os:List Nat):List Nat:=tipsA h.nv ((os.map fun o=>match lookO o h.ob with | some cs=>cs | none=>[]).flatten) []
theorem ver_dul (o:Nat) (h:Hp):ver o h.dul=ver o h:=by unfold ver Hp.dul; simp only; rw [cnt_dul]
def objT (sp:Spec):Spec:=fun args h=>bif (ptrsL args []).all (fun o=>(lookO o h.ob).isSome) then
  (sp (dullL (renL (ptrsL args []) (tipsO h (ptrsL args [])) 0 h.gn args)) ((h.ren (ptrsL args []) (tipsO h (ptrsL args [])) 0 0).dul)).bind fun x=>bif Nat.ble (tipsO h (ptrsL args [])).length x.2.nv then .ok (bak (ptrsL args []) (tipsO h (ptrsL args [])) h.nv h.ng (tipsO h (ptrsL args [])).length x.2.gn x.1,h.bak (ptrsL args []) (tipsO h (ptrsL args [])) (tipsO h (ptrsL args [])).length x.2) else .bad 295 else .bad 290
theorem objT_ok {P:Program} {f:FuncId} {sp:Spec} (hs:SoundF P f sp):SoundF P f (objT sp):=by
  intro args h K H w0 G E w vals I hr
  unfold objT at H
  cases hc:(ptrsL args []).all (fun o=>(lookO o h.ob).isSome)
  · rw [hc] at H; exact H.elim
  rw [hc] at H
  simp only [cond_true] at H
  rw [RT.holds_bind] at H
  have hnd:(ptrsL args []).Nodup:=ptrsL_nodup _ _ .nil
  generalize ptrsL args []=os at hc H hnd
  have hks:(tipsO h os).Nodup∧∀ k ∈ tipsO h os,k<h.nv:=tipsA_ok _ _ _ ⟨.nil,fun k hk=>by cases hk⟩
  generalize tipsO h os=ks at H hks
  have hol:∀ o ∈ os,E.live o:=fun o ho=>(I.live o).2 (List.all_eq_true.1 hc o ho)
  have I2:=((I.ren (os:=os) (ks:=ks) (g0:=0) hnd hks.1 hks.2 0).dul).top
  have hr2:=dull_relL _ _ (ren_relL (os:=os) (ks:=ks) (g0:=0) I _ _ hr)
  refine (hs _ _ _ H w _ _ w vals I2 hr2).mono ?_
  rintro e w' ⟨r,h',v,E',hK,rfl,S0,hv⟩
  have S:Stepd P w (E.ren os ks 0).mine (E.ren os ks 0) (h.ren os ks 0 0) w E' h' w':=⟨S0.ext,S0.inv,fun o ho=>by have:=S0.un o ho; rwa [ver_dul] at this,S0.zn⟩
  dsimp only at hK
  cases hm:Nat.ble ks.length h'.nv
  · rw [hm] at hK; exact hK.elim
  rw [hm] at hK
  have hm:=Nat.le_of_ble_eq_true hm
  have hkm:∀ k ∈ ks,k<E.m:=fun k hk=>by rw [I.m]; exact hks.2 k hk
  have hmk:ks.length≤E'.m:=by rw [S.inv.m]; exact hm
  have S3:=Inv.bak (mk:=ks.length) I hnd hol hks.1 hkm (Nat.le_refl _) hmk S
  have hv3:=bak_rel (h':=h') S.inv S.ext (mk:=ks.length) hks.1 hkm hmk (Nat.le_refl _) hol h.ng r v hv
  rw [I.m] at hv3
  exact ⟨_,_,v,_,hK,rfl,S3,hv3⟩
def fitQ (p q:Nat) (h:Hp):Bool:=Nat.ble h.nx p&&Nat.ble h.nv q&&Nat.ble h.ng 1000&&Nat.blt (h.ep+h.ob.length) 1000
def treeQ (p q:Nat) (sp:Spec) (args:List AV) (h:Hp):RT (AV×Hp):=(sp args h).bind fun x=>bif Nat.ble q x.2.nv then .ok (ren (List.range p) (List.range q) 1000 x.2.gn x.1,x.2.can p q 1000 1000) else .bad 296
theorem obj_in2 {P:Program} {gs:List (FuncId×Spec)} {ls:List (FuncId×Nat×BSpec)} (hm:Fit P) (hΓ:GamL P gs) (hΛ:LamL P ls) (f n p q:Nat) {F:Spec} (hF:∀ args h K,(F args h).holds K→fitQ p q h=true∧(treeQ p q (evF P (gam gs) (lam ls) n f) args h).holds fun x=>∃ y,Le x.1 y∧K (y,x.2)):SoundF P f F:=by
  intro args h K H w0 G E w vals I hr
  obtain ⟨hb,h1⟩:=hF args h K H
  unfold treeQ at h1
  rw [RT.holds_bind] at h1
  unfold fitQ at hb
  simp only [Bool.and_eq_true] at hb
  obtain ⟨⟨⟨b1,b2⟩,b3⟩,b4⟩:=hb
  have b1:=Nat.le_of_ble_eq_true b1
  have b2:=Nat.le_of_ble_eq_true b2
  have b3:=Nat.le_of_ble_eq_true b3
  have b4:=Nat.lt_of_lt_of_le (Nat.lt_succ_self _) (Nat.le_of_ble_eq_true b4)
  refine (evF_ok hm (gam_ok hΓ) (lam_ok hΛ) n f _ _ _ h1 w0 G E w vals I hr).mono ?_
  rintro e w' ⟨r,h',v,E',hK,rfl,S,hv⟩
  dsimp only at hK
  cases hq:Nat.ble q h'.nv
  · rw [hq] at hK; exact hK.elim
  rw [hq] at hK
  obtain ⟨y,hy,hK⟩:=hK
  have hq:=Nat.le_of_ble_eq_true hq
  have Sc:=can_step S I (p:=p) (q:=q) (N:=1000) (ep:=1000) b1 b2 hq b3 (fun o _=>by unfold ver; have:=cnt_le o h.ob; omega)
  exact ⟨y,_,v,_,hK,rfl,Sc,hy _ _ (ren_rel (os:=List.range p) (ks:=List.range q) (g0:=1000) S.inv _ _ hv)⟩
end
end Go.Proofs.YtcambhbmobepjaaGreat
namespace Go.Proofs.YtcambhbmobepjaaGreat
set_option linter.unusedSimpArgs false
set_option linter.unusedVariables false
open Go.RowKit
set_option maxRecDepth 100000
noncomputable section
def cutX:BSpec:=fun _ _=>.bad 999
def nonG (_:Program):List (FuncId×Spec):=[]
def knO (_:Tm) (h:Hp):Bool:=match lookO 0 h.ob with | some [_,.sl kn _ _ _]=>kn | _=>false
def tkeL (P:Program):List (FuncId×Nat×BSpec):=[(45,0,altB (knT 18) (runB P (nonG P) 100 45 0) cutX),(140,0,altB knO (runB P (nonG P) 100 140 0) cutX)]
def nmOk (x:D):Bool:=decide (1≤x.len∧x.len≤4)
def nmI (x:D):Int:=if x.len=1 then byA x 0 else if x.len=2 then 256*byA x 0+byA x 1 else if x.len=3 then 256*(256*byA x 0+byA x 1)+byA x 2 else if x.len=4 then 256*(256*(256*byA x 0+byA x 1)+byA x 2)+byA x 3 else 0
def FNmb:List AV→RT AV
  | [.agg [.sc false (.int .i64 _),.sl false [.int .u8] x none]]=>need false (bytesB x) 297 (.ok (.tup [ai (nmI x),ab (nmOk x)]))
  | _=>.bad 297
theorem on0_tree (t:Int) (x:D):treeF (evF Tryz.prog (gam (nonG Tryz.prog)) (lam (tkeL Tryz.prog)) 100 92) [optA t x] =
RT.br (decide (1≤(↑(D.len x):Int))) (RT.br (!decide ((↑(D.len x):Int)≤4)) (RT.ok (AV.tup [zk 0,AV.sc true (Value.bool false)])) (RT.br (decide (1≤(↑(D.len x):Int))) (RT.br (!decide ((↑(D.len x):Int)≤8)) (RT.ok (AV.tup [zk 0,AV.sc true (Value.bool false)])) (RT.br (decide ((↑(D.len x):Int)<(↑(D.len x):Int))) (RT.ok (AV.tup [zk 0,AV.sc true (Value.bool false)])) (RT.bad 999))) (RT.ok (AV.tup [zk 0,AV.sc true (Value.bool false)])))) (RT.ok (AV.tup [zk 0,AV.sc true (Value.bool false)])):=by rw [← fvF_eq Tryz.prog (gam (nonG Tryz.prog)) (lam (tkeL Tryz.prog)) false 100 92]; kernel_rfl
theorem on1_tree (t a:Int):treeF (evF Tryz.prog (gam (nonG Tryz.prog)) (lam (tkeL Tryz.prog)) 100 92) [.agg [ai t,.sl true byS (.l [.i a]) none]] =
RT.ok (AV.tup [zi (IntKind.wrap IntKind.i64 (IntKind.wrap IntKind.u64 (↑(BitVec.toNat (BitVec.ofInt (IntKind.bits IntKind.u64) (IntKind.wrap IntKind.u64 (Int.ofNat 0*2 ^ min (Int.toNat 8) (IntKind.bits IntKind.u64))) ||| BitVec.ofInt (IntKind.bits IntKind.u64) (IntKind.wrap IntKind.u64 (D.toI (D.cell (D.get (D.l [D.i a]) (Int.toNat (Int.ofNat 0))) 0))))):Int))),AV.sc true (Value.bool true)]):=by rw [← fvF_eq Tryz.prog (gam (nonG Tryz.prog)) (lam (tkeL Tryz.prog)) false 100 92]; kernel_rfl
theorem on2_tree (t a b:Int):treeF (evF Tryz.prog (gam (nonG Tryz.prog)) (lam (tkeL Tryz.prog)) 100 92) [.agg [ai t,.sl true byS (.l [.i a,.i b]) none]] =
RT.br true (RT.ok (AV.tup [zi (IntKind.wrap IntKind.i64 (IntKind.wrap IntKind.u64 (↑(BitVec.toNat (BitVec.ofInt (IntKind.bits IntKind.u64) (IntKind.wrap IntKind.u64 (IntKind.wrap IntKind.u64 (↑(BitVec.toNat (BitVec.ofInt (IntKind.bits IntKind.u64) (IntKind.wrap IntKind.u64 (Int.ofNat 0*2 ^ min (Int.toNat 8) (IntKind.bits IntKind.u64))) ||| BitVec.ofInt (IntKind.bits IntKind.u64) (IntKind.wrap IntKind.u64 (D.toI (D.cell (D.get (D.l [D.i a,D.i b]) (Int.toNat (Int.ofNat 0))) 0))))):Int)*2 ^ min (Int.toNat 8) (IntKind.bits IntKind.u64))) ||| BitVec.ofInt (IntKind.bits IntKind.u64) (IntKind.wrap IntKind.u64 (D.toI (D.cell (D.get (D.l [D.i a,D.i b]) (Int.toNat (IntKind.wrap IntKind.i64 (Int.ofNat 0+1)))) 0))))):Int))),AV.sc true (Value.bool true)])) (RT.bad 25):=by rw [← fvF_eq Tryz.prog (gam (nonG Tryz.prog)) (lam (tkeL Tryz.prog)) false 100 92]; kernel_rfl
theorem on3_tree (t a b c:Int):treeF (evF Tryz.prog (gam (nonG Tryz.prog)) (lam (tkeL Tryz.prog)) 100 92) [.agg [ai t,.sl true byS (.l [.i a,.i b,.i c]) none]] =
RT.br true (RT.br true (RT.ok (AV.tup [zi (IntKind.wrap IntKind.i64 (IntKind.wrap IntKind.u64 (↑(BitVec.toNat (BitVec.ofInt (IntKind.bits IntKind.u64) (IntKind.wrap IntKind.u64 (IntKind.wrap IntKind.u64 (↑(BitVec.toNat (BitVec.ofInt (IntKind.bits IntKind.u64) (IntKind.wrap IntKind.u64 (IntKind.wrap IntKind.u64 (↑(BitVec.toNat (BitVec.ofInt (IntKind.bits IntKind.u64) (IntKind.wrap IntKind.u64 (Int.ofNat 0*2 ^ min (Int.toNat 8) (IntKind.bits IntKind.u64))) ||| BitVec.ofInt (IntKind.bits IntKind.u64) (IntKind.wrap IntKind.u64 (D.toI (D.cell (D.get (D.l [D.i a,D.i b,D.i c]) (Int.toNat (Int.ofNat 0))) 0))))):Int)*2 ^ min (Int.toNat 8) (IntKind.bits IntKind.u64))) ||| BitVec.ofInt (IntKind.bits IntKind.u64) (IntKind.wrap IntKind.u64 (D.toI (D.cell (D.get (D.l [D.i a,D.i b,D.i c]) (Int.toNat (IntKind.wrap IntKind.i64 (Int.ofNat 0+1)))) 0))))):Int)*2 ^ min (Int.toNat 8) (IntKind.bits IntKind.u64))) ||| BitVec.ofInt (IntKind.bits IntKind.u64) (IntKind.wrap IntKind.u64 (D.toI (D.cell (D.get (D.l [D.i a,D.i b,D.i c]) (Int.toNat (IntKind.wrap IntKind.i64 (IntKind.wrap IntKind.i64 (Int.ofNat 0+1)+1)))) 0))))):Int))),AV.sc true (Value.bool true)])) (RT.bad 25)) (RT.bad 25):=by rw [← fvF_eq Tryz.prog (gam (nonG Tryz.prog)) (lam (tkeL Tryz.prog)) false 100 92]; kernel_rfl
theorem on4_tree (t a b c d:Int):treeF (evF Tryz.prog (gam (nonG Tryz.prog)) (lam (tkeL Tryz.prog)) 100 92) [.agg [ai t,.sl true byS (.l [.i a,.i b,.i c,.i d]) none]] =
RT.br true (RT.br true (RT.br true (RT.ok (AV.tup [zi (IntKind.wrap IntKind.i64 (IntKind.wrap IntKind.u64 (↑(BitVec.toNat (BitVec.ofInt (IntKind.bits IntKind.u64) (IntKind.wrap IntKind.u64 (IntKind.wrap IntKind.u64 (↑(BitVec.toNat (BitVec.ofInt (IntKind.bits IntKind.u64) (IntKind.wrap IntKind.u64 (IntKind.wrap IntKind.u64 (↑(BitVec.toNat (BitVec.ofInt (IntKind.bits IntKind.u64) (IntKind.wrap IntKind.u64 (IntKind.wrap IntKind.u64 (↑(BitVec.toNat (BitVec.ofInt (IntKind.bits IntKind.u64) (IntKind.wrap IntKind.u64 (Int.ofNat 0*2 ^ min (Int.toNat 8) (IntKind.bits IntKind.u64))) ||| BitVec.ofInt (IntKind.bits IntKind.u64) (IntKind.wrap IntKind.u64 (D.toI (D.cell (D.get (D.l [D.i a,D.i b,D.i c,D.i d]) (Int.toNat (Int.ofNat 0))) 0))))):Int)*2 ^ min (Int.toNat 8) (IntKind.bits IntKind.u64))) ||| BitVec.ofInt (IntKind.bits IntKind.u64) (IntKind.wrap IntKind.u64 (D.toI (D.cell (D.get (D.l [D.i a,D.i b,D.i c,D.i d]) (Int.toNat (IntKind.wrap IntKind.i64 (Int.ofNat 0+1)))) 0))))):Int)*2 ^ min (Int.toNat 8) (IntKind.bits IntKind.u64))) ||| BitVec.ofInt (IntKind.bits IntKind.u64) (IntKind.wrap IntKind.u64 (D.toI (D.cell (D.get (D.l [D.i a,D.i b,D.i c,D.i d]) (Int.toNat (IntKind.wrap IntKind.i64 (IntKind.wrap IntKind.i64 (Int.ofNat 0+1)+1)))) 0))))):Int)*2 ^ min (Int.toNat 8) (IntKind.bits IntKind.u64))) ||| BitVec.ofInt (IntKind.bits IntKind.u64) (IntKind.wrap IntKind.u64 (D.toI (D.cell (D.get (D.l [D.i a,D.i b,D.i c,D.i d]) (Int.toNat (IntKind.wrap IntKind.i64 (IntKind.wrap IntKind.i64 (IntKind.wrap IntKind.i64 (Int.ofNat 0+1)+1)+1)))) 0))))):Int))),AV.sc true (Value.bool true)])) (RT.bad 25)) (RT.bad 25)) (RT.bad 25):=by rw [← fvF_eq Tryz.prog (gam (nonG Tryz.prog)) (lam (tkeL Tryz.prog)) false 100 92]; kernel_rfl
theorem pn0_tree (t:Int) (x:D):treeF (evF Tryz.prog (gam (nonG Tryz.prog)) (lam (tkeL Tryz.prog)) 100 140) [optA t x] =
RT.br (decide ((↑(D.len x):Int)<1)) (RT.ok (AV.tup [zk 0,AV.sc true (Value.bool false)])) (RT.br (decide (4<(↑(D.len x):Int))) (RT.ok (AV.tup [zk 0,AV.sc true (Value.bool false)])) (RT.bad 999)):=by rw [← fvF_eq Tryz.prog (gam (nonG Tryz.prog)) (lam (tkeL Tryz.prog)) false 100 140]; kernel_rfl
theorem pn1_tree (t a:Int):treeF (evF Tryz.prog (gam (nonG Tryz.prog)) (lam (tkeL Tryz.prog)) 100 140) [.agg [ai t,.sl true byS (.l [.i a]) none]] =
RT.ok (AV.tup [zi (IntKind.wrap IntKind.i64 (0+IntKind.wrap IntKind.i64 a)),AV.sc true (Value.bool true)]):=by rw [← fvF_eq Tryz.prog (gam (nonG Tryz.prog)) (lam (tkeL Tryz.prog)) false 100 140]; kernel_rfl
theorem pn2_tree (t a b:Int):treeF (evF Tryz.prog (gam (nonG Tryz.prog)) (lam (tkeL Tryz.prog)) 100 140) [.agg [ai t,.sl true byS (.l [.i a,.i b]) none]] =
RT.ok (AV.tup [zi (IntKind.wrap IntKind.i64 (IntKind.wrap IntKind.i64 (256*IntKind.wrap IntKind.i64 (0+IntKind.wrap IntKind.i64 a))+IntKind.wrap IntKind.i64 b)),AV.sc true (Value.bool true)]):=by rw [← fvF_eq Tryz.prog (gam (nonG Tryz.prog)) (lam (tkeL Tryz.prog)) false 100 140]; kernel_rfl
theorem pn3_tree (t a b c:Int):treeF (evF Tryz.prog (gam (nonG Tryz.prog)) (lam (tkeL Tryz.prog)) 100 140) [.agg [ai t,.sl true byS (.l [.i a,.i b,.i c]) none]] =
RT.ok (AV.tup [zi (IntKind.wrap IntKind.i64 (IntKind.wrap IntKind.i64 (256*IntKind.wrap IntKind.i64 (IntKind.wrap IntKind.i64 (256*IntKind.wrap IntKind.i64 (0+IntKind.wrap IntKind.i64 a))+IntKind.wrap IntKind.i64 b))+IntKind.wrap IntKind.i64 c)),AV.sc true (Value.bool true)]):=by rw [← fvF_eq Tryz.prog (gam (nonG Tryz.prog)) (lam (tkeL Tryz.prog)) false 100 140]; kernel_rfl
theorem pn4_tree (t a b c d:Int):treeF (evF Tryz.prog (gam (nonG Tryz.prog)) (lam (tkeL Tryz.prog)) 100 140) [.agg [ai t,.sl true byS (.l [.i a,.i b,.i c,.i d]) none]] =
RT.ok (AV.tup [zi (IntKind.wrap IntKind.i64 (IntKind.wrap IntKind.i64 (256*IntKind.wrap IntKind.i64 (IntKind.wrap IntKind.i64 (256*IntKind.wrap IntKind.i64 (IntKind.wrap IntKind.i64 (256*IntKind.wrap IntKind.i64 (0+IntKind.wrap IntKind.i64 a))+IntKind.wrap IntKind.i64 b))+IntKind.wrap IntKind.i64 c))+IntKind.wrap IntKind.i64 d)),AV.sc true (Value.bool true)]):=by rw [← fvF_eq Tryz.prog (gam (nonG Tryz.prog)) (lam (tkeL Tryz.prog)) false 100 140]; kernel_rfl
theorem cutX_ok {P:Program} {f:FuncId} {id:Nat}:LamE P f id cutX:=fun _ _ _ _ _ _ _ _ H=>H.elim
theorem nonG_ok:GamL Tryz.prog (nonG Tryz.prog):=trivial
theorem tkeL_ok:LamL Tryz.prog (tkeL Tryz.prog):=⟨altB_ok (runB_ok mixed nonG_ok _ 0 100 (by kernel_rfl)) cutX_ok,altB_ok (runB_ok mixed nonG_ok _ 0 100 (by kernel_rfl)) cutX_ok,trivial⟩
theorem one_le {x:D} (h:x.len=1) {kn kn':Bool}:Le (.sl kn byS x none) (.sl kn' byS (.l [.i (byA x 0)]) none):=by
  have hl:(D.l [.i (byA x 0)]).toL=[.i (byA x 0)]:=toL_l (by unfold maxLen; simp)
  refine le_sl (by unfold D.len at h ⊢; rw [hl,h]; rfl) fun i hi=>?_
  rw [show (D.l [.i (byA x 0)]).get i=[D.i (byA x 0)].getD i .n from by unfold D.get; rw [hl]]
  have hi:i<1:=by omega
  match i,hi with
  | 0,_=>exact ⟨rfl,trivial⟩
theorem three_le {x:D} (h:x.len=3) {kn kn':Bool}:Le (.sl kn byS x none) (.sl kn' byS (.l [.i (byA x 0),.i (byA x 1),.i (byA x 2)]) none):=by
  have hl:(D.l [.i (byA x 0),.i (byA x 1),.i (byA x 2)]).toL=[.i (byA x 0),.i (byA x 1),.i (byA x 2)]:=toL_l (by unfold maxLen; simp)
  refine le_sl (by unfold D.len at h ⊢; rw [hl,h]; rfl) fun i hi=>?_
  rw [show (D.l [.i (byA x 0),.i (byA x 1),.i (byA x 2)]).get i=[D.i (byA x 0),D.i (byA x 1),D.i (byA x 2)].getD i .n from by unfold D.get; rw [hl]]
  have hi:i<3:=by omega
  match i,hi with
  | 0,_=>exact ⟨rfl,trivial⟩
  | 1,_=>exact ⟨rfl,trivial⟩
  | 2,_=>exact ⟨rfl,trivial⟩
theorem nu1_val {a:Int} (ha:byR a):IntKind.wrap .i64 (IntKind.wrap IntKind.u64 (↑(BitVec.toNat (BitVec.ofInt (IntKind.bits IntKind.u64) (Int.ofNat 0) ||| BitVec.ofInt (IntKind.bits IntKind.u64) (IntKind.wrap IntKind.u64 a))):Int))=a:=by
  unfold byR at ha
  rw [orZ_eq ha,i64_id ⟨by omega,by omega⟩]
theorem nu3_val {a b c:Int} (ha:byR a) (hb:byR b) (hc:byR c):IntKind.wrap .i64 (orS (orS (IntKind.wrap IntKind.u64 (↑(BitVec.toNat (BitVec.ofInt (IntKind.bits IntKind.u64) (Int.ofNat 0) ||| BitVec.ofInt (IntKind.bits IntKind.u64) (IntKind.wrap IntKind.u64 a))):Int)) b) c)=256*(256*a+b)+c:=by
  unfold byR at ha hb hc
  rw [orZ_eq ha,orS_eq ⟨ha.1,by omega⟩ hb,orS_eq ⟨by omega,by omega⟩ hc,i64_id ⟨by omega,by omega⟩]
theorem rn1_val {a:Int} (ha:byR a):IntKind.wrap IntKind.i64 (0+IntKind.wrap IntKind.i64 a)=a:=by
  unfold byR at ha
  rw [i64_id (n:=a) ⟨by omega,by omega⟩,Int.zero_add,i64_id ⟨by omega,by omega⟩]
theorem rn3_val {a b c:Int} (ha:byR a) (hb:byR b) (hc:byR c):IntKind.wrap IntKind.i64 (IntKind.wrap IntKind.i64 (256*IntKind.wrap IntKind.i64 (IntKind.wrap IntKind.i64 (256*IntKind.wrap IntKind.i64 (0+IntKind.wrap IntKind.i64 a))+IntKind.wrap IntKind.i64 b))+IntKind.wrap IntKind.i64 c)=256*(256*a+b)+c:=by
  rw [rn2_val ha hb]
  unfold byR at ha hb hc
  rw [i64_id (n:=c) ⟨by omega,by omega⟩,i64_id (n:=256*(256*a+b)) ⟨by omega,by omega⟩,i64_id ⟨by omega,by omega⟩]
theorem FNmb_inv {args:List AV} {K:AV→Prop} (H:(FNmb args).holds K):∃ t x,args=[optA t x]∧bytesB x=true∧K (.tup [ai (nmI x),ab (nmOk x)]):=by
  unfold FNmb at H
  split at H
  · rename_i t x
    obtain ⟨hc,H⟩:=need_holds H
    exact ⟨t,x,rfl,hc,H⟩
  · exact H.elim
theorem nm_no {x:D} (h:¬ (1≤x.len∧x.len≤4)):nmI x=0∧nmOk x=false:=by
  unfold nmI nmOk
  rw [if_neg (by omega),if_neg (by omega),if_neg (by omega),if_neg (by omega)]
  exact ⟨rfl,def_ h⟩
theorem nm_ok {x:D} (h:1≤x.len∧x.len≤4):nmOk x=true:=det h
theorem onm_soundF:SoundF Tryz.prog 92 (pureS Tryz.prog 92 FNmb):=by
  have G:∀ args K,okL args→(FNmb args).holds K→∃ n,n≤4∧∃ t x,args=[optA t x]∧bytesB x=true∧K (.tup [ai (nmI x),ab (nmOk x)])∧((n=0∧¬ (1≤x.len∧x.len≤4))∨(1≤n∧x.len=n)):=fun args K _ H=>by
    obtain ⟨t,x,h1,h2,h3⟩:=FNmb_inv H
    by_cases h:1≤x.len∧x.len≤4
    · exact ⟨x.len,h.2,t,x,h1,h2,h3,.inr ⟨h.1,rfl⟩⟩
    · exact ⟨0,by omega,t,x,h1,h2,h3,.inl ⟨rfl,h⟩⟩
  refine pure_by (gs:=nonG Tryz.prog) (ls:=tkeL Tryz.prog) mixed nonG_ok tkeL_ok 92 100 fun args K ho H=>?_
  obtain ⟨n,hn,t,x,hr,hb,H,hx⟩:=G args K ho H
  have B:∀ j,j<x.len→byR (byA x j):=fun j hj=>bytes_at hb hj
  rw [hr]
  rcases hx with ⟨rfl,hx⟩ | ⟨h1,hx⟩
  · refine ⟨_,fun _ _ h=>h,?_⟩
    rw [on0_tree]
    obtain ⟨e1,e2⟩:=nm_no hx
    have go:∃ y,Le (.tup [.sc true (.int .i64 0),.sc true (.bool false)]) y∧K y:=⟨_,le_two (le_int e1.symm) (le_bool e2.symm),H⟩
    refine ⟨fun h=>⟨fun _=>go,fun h'=>?_⟩,fun _=>go⟩
    have:=odt h
    rw [Bool.not_eq_false'] at h'
    have:=odt h'
    exact absurd ⟨by omega,by omega⟩ hx
  have ok:=nm_ok (x:=x) ⟨by omega,by omega⟩
  rw [ok] at H
  match n,h1,hn,hx with
  | 1,_,_,hx =>
    refine ⟨_,leL_cons (le_agg (leL_cons (Le.refl _) (leL_cons (one_le (kn':=true) hx) leL_nil))) leL_nil,?_⟩
    rw [on1_tree]
    refine ⟨_,le_two (le_int ((nu1_val (B 0 (by omega))).trans ?_)) (le_bool rfl),H⟩
    unfold nmI; rw [if_pos hx]
  | 2,_,_,hx =>
    refine ⟨_,leL_cons (le_agg (leL_cons (Le.refl _) (leL_cons (two_le (kn':=true) hx) leL_nil))) leL_nil,?_⟩
    rw [on2_tree]
    refine holds_t ⟨_,le_two (le_int ((nu2_val (B 0 (by omega)) (B 1 (by omega))).trans ?_)) (le_bool rfl),H⟩
    unfold nmI; rw [if_neg (by omega),if_pos hx]
  | 3,_,_,hx =>
    refine ⟨_,leL_cons (le_agg (leL_cons (Le.refl _) (leL_cons (three_le (kn':=true) hx) leL_nil))) leL_nil,?_⟩
    rw [on3_tree]
    refine holds_t (holds_t ⟨_,le_two (le_int ((nu3_val (B 0 (by omega)) (B 1 (by omega)) (B 2 (by omega))).trans ?_)) (le_bool rfl),H⟩)
    unfold nmI; rw [if_neg (by omega),if_neg (by omega),if_pos hx]
  | 4,_,_,hx =>
    refine ⟨_,leL_cons (le_agg (leL_cons (Le.refl _) (leL_cons (four_le (kn':=true) hx) leL_nil))) leL_nil,?_⟩
    rw [on4_tree]
    refine holds_t (holds_t (holds_t ⟨_,le_two (le_int ((nu4_val (B 0 (by omega)) (B 1 (by omega)) (B 2 (by omega)) (B 3 (by omega))).trans ?_)) (le_bool rfl),H⟩))
    unfold nmI; rw [if_neg (by omega),if_neg (by omega),if_neg (by omega),if_pos hx]
theorem pnm_soundF:SoundF Tryz.prog 140 (pureS Tryz.prog 140 FNmb):=by
  have G:∀ args K,okL args→(FNmb args).holds K→∃ n,n≤4∧∃ t x,args=[optA t x]∧bytesB x=true∧K (.tup [ai (nmI x),ab (nmOk x)])∧((n=0∧¬ (1≤x.len∧x.len≤4))∨(1≤n∧x.len=n)):=fun args K _ H=>by
    obtain ⟨t,x,h1,h2,h3⟩:=FNmb_inv H
    by_cases h:1≤x.len∧x.len≤4
    · exact ⟨x.len,h.2,t,x,h1,h2,h3,.inr ⟨h.1,rfl⟩⟩
    · exact ⟨0,by omega,t,x,h1,h2,h3,.inl ⟨rfl,h⟩⟩
  refine pure_by (gs:=nonG Tryz.prog) (ls:=tkeL Tryz.prog) mixed nonG_ok tkeL_ok 140 100 fun args K ho H=>?_
  obtain ⟨n,hn,t,x,hr,hb,H,hx⟩:=G args K ho H
  have B:∀ j,j<x.len→byR (byA x j):=fun j hj=>bytes_at hb hj
  rw [hr]
  rcases hx with ⟨rfl,hx⟩ | ⟨h1,hx⟩
  · refine ⟨_,fun _ _ h=>h,?_⟩
    rw [pn0_tree]
    obtain ⟨e1,e2⟩:=nm_no hx
    have go:∃ y,Le (.tup [.sc true (.int .i64 0),.sc true (.bool false)]) y∧K y:=⟨_,le_two (le_int e1.symm) (le_bool e2.symm),H⟩
    refine ⟨fun _=>go,fun h=>⟨fun _=>go,fun h'=>?_⟩⟩
    have:=odf h
    have:=odf h'
    exact absurd ⟨by omega,by omega⟩ hx
  have ok:=nm_ok (x:=x) ⟨by omega,by omega⟩
  rw [ok] at H
  match n,h1,hn,hx with
  | 1,_,_,hx =>
    refine ⟨_,leL_cons (le_agg (leL_cons (Le.refl _) (leL_cons (one_le (kn':=true) hx) leL_nil))) leL_nil,?_⟩
    rw [pn1_tree]
    refine ⟨_,le_two (le_int ((rn1_val (B 0 (by omega))).trans ?_)) (le_bool rfl),H⟩
    unfold nmI; rw [if_pos hx]
  | 2,_,_,hx =>
    refine ⟨_,leL_cons (le_agg (leL_cons (Le.refl _) (leL_cons (two_le (kn':=true) hx) leL_nil))) leL_nil,?_⟩
    rw [pn2_tree]
    refine ⟨_,le_two (le_int ((rn2_val (B 0 (by omega)) (B 1 (by omega))).trans ?_)) (le_bool rfl),H⟩
    unfold nmI; rw [if_neg (by omega),if_pos hx]
  | 3,_,_,hx =>
    refine ⟨_,leL_cons (le_agg (leL_cons (Le.refl _) (leL_cons (three_le (kn':=true) hx) leL_nil))) leL_nil,?_⟩
    rw [pn3_tree]
    refine ⟨_,le_two (le_int ((rn3_val (B 0 (by omega)) (B 1 (by omega)) (B 2 (by omega))).trans ?_)) (le_bool rfl),H⟩
    unfold nmI; rw [if_neg (by omega),if_neg (by omega),if_pos hx]
  | 4,_,_,hx =>
    refine ⟨_,leL_cons (le_agg (leL_cons (Le.refl _) (leL_cons (four_le (kn':=true) hx) leL_nil))) leL_nil,?_⟩
    rw [pn4_tree]
    refine ⟨_,le_two (le_int ((rn4_val (B 0 (by omega)) (B 1 (by omega)) (B 2 (by omega)) (B 3 (by omega))).trans ?_)) (le_bool rfl),H⟩
    unfold nmI; rw [if_neg (by omega),if_neg (by omega),if_neg (by omega),if_pos hx]
def scanT {α:Type} (n:α→Nat) (p:α→Nat→Bool) (okk:α→Bool) (mkF:α→Nat→Tm) (mkR:α→Nat→Tm) (mkH:α→Hp) (mkG:α→Nat→Hp) (w:Ex) (x:α×Nat):RT Out :=
  need false (okk x.1&&decide (x.2≤n x.1)) 210 (.br (okFrom (p x.1) (n x.1 - x.2) x.2) (.ok (.normal,mkF x.1 (n x.1),mkH x.1)) (.ok (w,mkR x.1 (badFrom (p x.1) (n x.1 - x.2) x.2),mkG x.1 (badFrom (p x.1) (n x.1 - x.2) x.2))))
def cloG (P:Program):List (FuncId×Spec):=[(98,pureS P 98 FCloneB)]
structure fnlX where
  t:Int
  d:D
  n:Int
def fnlL:Lw:=⟨[1,4,5,8,9,10],[],1,0,1000,1000⟩
def fnlF (a:fnlX) (i:Nat):Tm:=⟨25,[(1,zi a.t),(4,.ptr 0 0),(5,.sc false (.bool false)),(8,.sl false opS a.d none),(9,zi a.n),(10,zi (i:Int))],[]⟩
def fnlH (a:fnlX) (i:Nat):Hp:=⟨[(0,[zi 0,.sc false (.slice none 0 0)])],1,[],0,1000,1000⟩
def fnlC:Cs:=⟨25,[(1,.int .i64),(4,.lit (.ptr 0 0)),(5,.lit (.sc false (.bool false))),(8,.sl opS),(9,.int .i64),(10,.lit (.sc false (.int .i64 0)))],[(0,[.lit (.sc false (.int .i64 0)),.lit (.sc false (.slice none 0 0))])],1,[],0,1000,1000⟩
noncomputable def fnlDec (F:Tm) (h:Hp):Option (fnlX×Nat):=match cdS fnlC F h with
  | some [v0,v1,v2]=>some (⟨v0.toI,v1,v2.toI⟩,0)
  | _=>none
theorem fnl_body (t:Int) (d:D) (n:Int) (i:Int):roundT (⟨[1,4,5,8,9,10],[],1,0,1000,1000⟩) (evC Tryz.prog (gam (cloG Tryz.prog)) (lam ([])) 100 91 (loopAt 0 (bodyOf Tryz.prog 91)) (⟨25,[(1,zi t),(4,.ptr 0 0),(5,.sc false (.bool false)),(8,.sl false opS d none),(9,zi n),(10,zi i)],[]⟩) (⟨[(0,[zi 0,.sc false (.slice none 0 0)])],1,[],0,1000,1000⟩)) =
RT.br (decide (i<n)) (RT.br (decide (0≤i∧i<(↑(D.len d):Int))) (RT.br (D.toI (D.cell (D.get d (Int.toNat i)) 0)==t) (RT.ok (Ex.ret,(Tm.mk 25 [(1,zi t),(4,AV.ptr 0 0),(5,zb true),(8,zs zO d),(9,zi n),(10,zi i)] []),(Hp.mk [(0,[zi t,zs zU (D.cell (D.get d (Int.toNat i)) 1)])] 1 [] 0 1000 1000))) (RT.ok (Ex.normal,(Tm.mk 25 [(1,zi t),(4,AV.ptr 0 0),(5,zb false),(8,zs zO d),(9,zi n),(10,zi (IntKind.wrap IntKind.i64 (i+1)))] []),(Hp.mk [(0,[zi 0,zy])] 1 [] 0 1000 1000)))) (RT.bad 42)) (RT.ok (Ex.exit 0,(Tm.mk 25 [(1,zi t),(4,AV.ptr 0 0),(5,zb false),(8,zs zO d),(9,zi n),(10,zi i)] []),(Hp.mk [(0,[zi 0,zy])] 1 [] 0 1000 1000))):=by rw [← fvC_eq Tryz.prog (gam (cloG Tryz.prog)) (lam ([])) false 100]; kernel_rfl
def fnlR (a:fnlX) (i:Nat):Tm:=⟨25,[(1,ai a.t),(4,.ptr 0 0),(5,ab true),(8,asl opS a.d),(9,ai a.n),(10,ai i)],[]⟩
def fnlG (a:fnlX) (i:Nat):Hp:=⟨[(0,[ai a.t,asl byS (optB a.d i)])],1,[],0,1000,1000⟩
def fnlT:fnlX×Nat→RT Out:=scanT (fun a=>a.d.len) (fun a=>neT a.d a.t) (fun a=>decide (a.n=(a.d.len:Int))) fnlF fnlR (fun a=>fnlH a 0) fnlG .ret
def fnlLs (P:Program):List (FuncId×Nat×BSpec):=[(91,0,loopS P fnlL fnlDec fnlT)]
def fnD (d:D) (t:Int):D:=bif hasT d t then optB d (badFrom (neT d t) d.len 0) else .l []
def fnT (d:D) (t:Int):Int:=bif hasT d t then t else 0
def FFnd:List AV→RT AV
  | [.sl false [.int .i64,.sl [.int .u8]] d none,.sc false (.int .i64 t)]=>.ok (.tup [optA (fnT d t) (fnD d t),ab (hasT d t)])
  | _=>.bad 298
theorem fnlDec_0:∀ F h x,fnlDec F h=some x→∃ a,x=(a,0)∧F=fnlF a 0∧h=fnlH a 0:=by
  intro F h x hx
  unfold fnlDec at hx
  split at hx
  · rename_i hd
    cases hx
    obtain ⟨h1,h2⟩:=cdS_ok hd
    exact ⟨_,rfl,h1,h2⟩
  · cases hx
theorem fnlDec_ok:∀ F h x,fnlDec F h=some x→F=fnlF x.1 x.2∧h=fnlH x.1 x.2:=by
  intro F h x hx
  obtain ⟨a,rfl,h1,h2⟩:=fnlDec_0 F h x hx
  exact ⟨h1,h2⟩
theorem cloG_ok:GamL Tryz.prog (cloG Tryz.prog):=⟨cloneb_soundF,trivial⟩
theorem scan_loop {P:Program} {gs:List (FuncId×Spec)} {ls:List (FuncId×Nat×BSpec)} {α:Type} (hm:Fit P) (hΓ:GamL P gs) (hΛ:LamL P ls) (f id n:Nat) (hl:isLoop id (bodyOf P f)=true) (L:Lw)
    {len:α→Nat} {p:α→Nat→Bool} {okk:α→Bool} {mkF mkR:α→Nat→Tm} {mkH:α→Hp} {mkG:α→Nat→Hp} {w:Ex} {dec:Tm→Hp→Option (α×Nat)}
    (hw:w≠.normal) (hwi:w≠.exit id) (hdec:∀ F h x,dec F h=some x→F=mkF x.1 x.2∧h=mkH x.1)
    (hround:∀ a i (K:Out→Prop),okk a=true→i≤len a→(i<len a→p a i=true→K (.normal,mkF a (i+1),mkH a))→(i<len a→p a i=false→K (w,mkR a i,mkG a i))→(i=len a→K (.exit id,mkF a (len a),mkH a)) →
      (roundT L (evC P (gam gs) (lam ls) n f (loopAt id (bodyOf P f)) (mkF a i) (mkH a))).holds K) :
    LamE P f id (loopS P L dec (scanT len p okk mkF mkR mkH mkG w)):=by
  refine loop_in2 hm hΓ hΛ f id n hl L (mkF:=fun x=>mkF x.1 x.2) (mkH:=fun x=>mkH x.1) (fun x=>len x.1 - x.2) hdec ?_
  rintro ⟨a,i⟩ K H
  obtain ⟨hc,H⟩:=need_holds H
  simp only [Bool.and_eq_true,decide_eq_true_eq] at hc
  obtain ⟨hok,hi⟩:=hc
  refine hround a i _ hok hi ?_ ?_ ?_
  · intro hlt hp
    refine ⟨(a,i+1),⟨rfl,rfl⟩,by show len a - (i+1)<len a - i; omega,?_⟩
    unfold scanT
    refine ⟨fun _=>?_,fun hf=>?_⟩
    · have e:len a - i=(len a - (i+1))+1:=by omega
      have e1:okFrom (p a) (len a - i) i=okFrom (p a) (len a - (i+1)) (i+1):=by rw [e]; simp only [okFrom,hp,Bool.true_and]
      have e2:badFrom (p a) (len a - i) i=badFrom (p a) (len a - (i+1)) (i+1):=by rw [e,badFrom_cons hp]
      dsimp only at H
      rw [e1,e2] at H
      exact H
    · simp only [hok,Bool.true_and,decide_eq_false_iff_not] at hf
      exact absurd (show i+1≤len a by omega) hf
  · intro hlt hp
    have h:=H.2 (okFrom_false (Nat.le_refl _) (show i<i+(len a - i) by omega) hp)
    dsimp only at h
    rw [show len a - i=(len a - i - 1)+1 by omega,badFrom_here hp] at h
    unfold Round
    cases w with
    | normal=>exact absurd rfl hw
    | exit j =>
      show if j=id then _ else _
      rw [if_neg (fun e:j=id=>hwi (by rw [e]))]
      exact h
    | ret=>exact h
  · intro he
    have h:=H.1 (by subst he; dsimp only; rw [Nat.sub_self]; rfl)
    unfold Round
    simp only [if_pos rfl]
    exact h
theorem fnl_loop:LamE Tryz.prog 91 0 (loopS Tryz.prog fnlL fnlDec fnlT):=by
  refine scan_loop (gs:=cloG Tryz.prog) (ls:=[]) mixed cloG_ok trivial _ 0 100 (by kernel_rfl) fnlL (by intro h; cases h) (by intro h; cases h) (fun F h x hx=>fnlDec_ok F h x hx) ?_
  rintro ⟨t,d,n⟩ i K hn hi H1 H2 H3
  obtain rfl:n=(d.len:Int):=odt hn
  dsimp only at hi H1 H2 H3
  have hm:=d.len_le
  show (roundT fnlL (evC _ _ _ _ _ _ (fnlF ⟨t,d,d.len⟩ i) (fnlH ⟨t,d,d.len⟩ 0))).holds _
  unfold fnlL fnlF fnlH
  rw [fnl_body]
  simp only [Int.toNat_natCast]
  refine ⟨fun h1=>holds_t_of (det ⟨by omega,by have:=odt h1; omega⟩) ⟨fun h3=>?_,fun h3=>?_⟩,fun h1=>?_⟩
  all_goals simp only [decide_eq_true_eq,decide_eq_false_iff_not] at h1
  · refine H2 (by omega) ?_
    unfold neT; rw [bne_eq_false_iff_eq]; exact eq_of_beq h3
  · rw [wrap_succ (by omega) hm]
    refine H1 (by omega) ?_
    unfold neT; rw [bne,h3]; rfl
  · obtain rfl:i=d.len:=by omega
    exact H3 rfl
theorem fnlLs_ok:LamL Tryz.prog (fnlLs Tryz.prog):=⟨fnl_loop,trivial⟩
theorem fnd_tree (d:D) (t:Int):treeF (evF Tryz.prog (gam (cloG Tryz.prog)) (lam (fnlLs Tryz.prog)) 100 91) [asl opS d,ai t] =
RT.br (decide ((↑(D.len d):Int)=(↑(D.len d):Int))&&true) (RT.br (okFrom (neT d (D.toI (D.i t))) (D.len d - 0) 0) (RT.ok (AV.tup [AV.agg [zk 0,zz],AV.sc true (Value.bool false)])) (RT.ok (AV.tup [AV.agg [zi t,zs zU (D.cell (D.get d (badFrom (neT d (D.toI (D.i t))) (D.len d - 0) 0)) 1)],zb true]))) (RT.bad 210):=by rw [← fvF_eq Tryz.prog (gam (cloG Tryz.prog)) (lam (fnlLs Tryz.prog)) false 100 91]; kernel_rfl
theorem fnd_soundF:SoundF Tryz.prog 91 (pureS Tryz.prog 91 FFnd):=by
  refine pure_in (gs:=cloG Tryz.prog) (ls:=fnlLs Tryz.prog) mixed cloG_ok fnlLs_ok 91 100 fun args K ho H=>?_
  unfold FFnd at H
  split at H
  · rename_i d t
    rw [fnd_tree]
    refine holds_t_of (by rw [Bool.and_true]; exact det rfl) ⟨fun h=>?_,fun h=>?_⟩
    · have e:hasT d t=false:=by unfold hasT; rw [show okFrom (neT d t) d.len 0=true from h]; rfl
      unfold fnT fnD at H
      rw [e] at H
      exact ⟨_,le_two (le_agg (leL_cons (le_int rfl) (leL_cons (le_nil rfl) leL_nil))) (le_bool rfl),H⟩
    · have e:hasT d t=true:=by unfold hasT; rw [show okFrom (neT d t) d.len 0=false from h]; rfl
      unfold fnT fnD at H
      rw [e] at H
      exact ⟨_,le_two (Le.refl _) (le_bool rfl),H⟩
  · exact H.elim
abbrev acI (x:D) (i:Nat):Int:=((x.get i).cell 0).toI
def flP (x:D) (pe:Int):Nat→Int
  | 0=>pe
  | i+1=>bif acI x i==1||acI x i==2 then 0 else flP x pe i
def flN (x:D) (ec tk ne:Int):Nat→Int
  | 0=>ne
  | i+1=>bif acI x i==1 then (bif decide (0<ec) then IntKind.wrap .i64 (tk+ec) else 0) else bif acI x i==2 then 0 else flN x ec tk ne i
def fndG (P:Program):List (FuncId×Spec):=[(91,pureS P 91 FFnd),(92,pureS P 92 FNmb)]
structure flwX where
  x:D
  (n mru mc mt mf wt ec lo st id rq:Int)
  d:D
  (ct tm nk mg pr mu pe ne tick:Int)
  (out did:D)
def flwL:Lw:=⟨[0,15,16,17],[],1,2,1000,1000⟩
def flwF (a:flwX) (i:Nat) (g7:Int) (g8:Int):Tm:=⟨95,[(0,.ptr 0 0),(15,.sl false acS a.x none),(16,zi a.n),(17,zi (i:Int))],[]⟩
def flwH (a:flwX) (i:Nat) (g7:Int) (g8:Int):Hp:=⟨[(0,[zi a.mru,zi a.mc,zi a.mt,zi a.mf,zi a.wt,zi a.ec,zi a.lo,zi a.st,zi a.id,zi a.rq,.sl false opS a.d none,zi a.ct,zi a.tm,zi a.nk,zi a.mg,zi a.pr,zi a.mu,zi g7,zi g8,zi a.tick,.sl false ctS a.out (some (0,1000)),.sl false acS a.did (some (1,1001))])],1,[(0,1000, 32),(1,1001, 68)],2,1002,1000⟩
def flwC:Cs:=⟨95,[(0,.lit (.ptr 0 0)),(15,.sl acS),(16,.int .i64),(17,.lit (.sc false (.int .i64 0)))],[(0,[.int .i64,.int .i64,.int .i64,.int .i64,.int .i64,.int .i64,.int .i64,.int .i64,.int .i64,.int .i64,.sl opS,.int .i64,.int .i64,.int .i64,.int .i64,.int .i64,.int .i64,.int .i64,.int .i64,.int .i64,.tp ctS 0 1000,.tp acS 1 1001])],1,[(0,1000, 32),(1,1001, 68)],2,1002,1000⟩
noncomputable def flwDec (F:Tm) (h:Hp):Option (flwX×Nat):=match cdS flwC F h with
  | some [v0,v1,v2,v3,v4,v5,v6,v7,v8,v9,v10,v11,v12,v13,v14,v15,v16,v17,v18,v19,v20,v21,v22,v23]=>some (⟨v0,v1.toI,v2.toI,v3.toI,v4.toI,v5.toI,v6.toI,v7.toI,v8.toI,v9.toI,v10.toI,v11.toI,v12,v13.toI,v14.toI,v15.toI,v16.toI,v17.toI,v18.toI,v19.toI,v20.toI,v21.toI,v22,v23⟩,0)
  | _=>none
theorem flw_body (x:D) (n:Int) (mru:Int) (mc:Int) (mt:Int) (mf:Int) (wt:Int) (ec:Int) (lo:Int) (st:Int) (id:Int) (rq:Int) (d:D) (ct:Int) (tm:Int) (nk:Int) (mg:Int) (pr:Int) (mu:Int) (tick:Int) (out:D) (did:D) (i:Int) (g7:Int) (g8:Int):roundT (⟨[0,15,16,17],[],1,2,1000,1000⟩) (evC Tryz.prog (gam (fndG Tryz.prog)) (lam ([])) 100 55 (loopAt 0 (bodyOf Tryz.prog 55)) (⟨95,[(0,.ptr 0 0),(15,.sl false acS x none),(16,zi n),(17,zi i)],[]⟩) (⟨[(0,[zi mru,zi mc,zi mt,zi mf,zi wt,zi ec,zi lo,zi st,zi id,zi rq,.sl false opS d none,zi ct,zi tm,zi nk,zi mg,zi pr,zi mu,zi g7,zi g8,zi tick,.sl false ctS out (some (0,1000)),.sl false acS did (some (1,1001))])],1,[(0,1000, 32),(1,1001, 68)],2,1002,1000⟩)) =
RT.br (decide (i<n)) (RT.br (decide (0≤i∧i<(↑(D.len x):Int))) (RT.br (D.toI (D.cell (D.get x (Int.toNat i)) 0)==1) (RT.br (decide (0<ec)) (RT.ok (Ex.normal,(Tm.mk 95 [(0,AV.ptr 0 0),(15,zs zN x),(16,zi n),(17,zi (IntKind.wrap IntKind.i64 (i+1)))] []),(Hp.mk [(0,[zi mru,zi mc,zi mt,zi mf,zi wt,zi ec,zi lo,zi st,zi id,zi rq,zs zO d,zi ct,zi tm,zi nk,zi mg,zi pr,zi mu,zi 0,zi (IntKind.wrap IntKind.i64 (tick+ec)),zi tick,AV.sl false zC out (some (0,1000)),AV.sl false zN did (some (1,1001))])] 1 [(0,1000,32),(1,1001,68)] 2 1002 1000))) (RT.ok (Ex.normal,(Tm.mk 95 [(0,AV.ptr 0 0),(15,zs zN x),(16,zi n),(17,zi (IntKind.wrap IntKind.i64 (i+1)))] []),(Hp.mk [(0,[zi mru,zi mc,zi mt,zi mf,zi wt,zi ec,zi lo,zi st,zi id,zi rq,zs zO d,zi ct,zi tm,zi nk,zi mg,zi pr,zi mu,zi 0,zi 0,zi tick,AV.sl false zC out (some (0,1000)),AV.sl false zN did (some (1,1001))])] 1 [(0,1000,32),(1,1001,68)] 2 1002 1000)))) (RT.br (D.toI (D.cell (D.get x (Int.toNat i)) 0)==2) (RT.ok (Ex.normal,(Tm.mk 95 [(0,AV.ptr 0 0),(15,zs zN x),(16,zi n),(17,zi (IntKind.wrap IntKind.i64 (i+1)))] []),(Hp.mk [(0,[zi mru,zi mc,zi mt,zi mf,zi wt,zi ec,zi lo,zi st,zi id,zi rq,zs zO d,zi ct,zi tm,zi nk,zi mg,zi pr,zi mu,zi 0,zi 0,zi tick,AV.sl false zC out (some (0,1000)),AV.sl false zN did (some (1,1001))])] 1 [(0,1000,32),(1,1001,68)] 2 1002 1000))) (RT.ok (Ex.normal,(Tm.mk 95 [(0,AV.ptr 0 0),(15,zs zN x),(16,zi n),(17,zi (IntKind.wrap IntKind.i64 (i+1)))] []),(Hp.mk [(0,[zi mru,zi mc,zi mt,zi mf,zi wt,zi ec,zi lo,zi st,zi id,zi rq,zs zO d,zi ct,zi tm,zi nk,zi mg,zi pr,zi mu,zi g7,zi g8,zi tick,AV.sl false zC out (some (0,1000)),AV.sl false zN did (some (1,1001))])] 1 [(0,1000,32),(1,1001,68)] 2 1002 1000))))) (RT.bad 42)) (RT.ok (Ex.exit 0,(Tm.mk 95 [(0,AV.ptr 0 0),(15,zs zN x),(16,zi n),(17,zi i)] []),(Hp.mk [(0,[zi mru,zi mc,zi mt,zi mf,zi wt,zi ec,zi lo,zi st,zi id,zi rq,zs zO d,zi ct,zi tm,zi nk,zi mg,zi pr,zi mu,zi g7,zi g8,zi tick,AV.sl false zC out (some (0,1000)),AV.sl false zN did (some (1,1001))])] 1 [(0,1000,32),(1,1001,68)] 2 1002 1000))):=by rw [← fvC_eq Tryz.prog (gam (fndG Tryz.prog)) (lam ([])) false 100]; kernel_rfl
def flwT:flwX×Nat→RT Out:=foldT (fun a=>a.x.len) (fun a=>decide (a.n=(a.x.len:Int))) (fun a i=>flwF a i (flP a.x a.pe i) (flN a.x a.ec a.tick a.ne i)) (fun a i=>flwH a i (flP a.x a.pe i) (flN a.x a.ec a.tick a.ne i))
def flwLs (P:Program):List (FuncId×Nat×BSpec):=[(55,0,loopS P flwL flwDec flwT)]
def mgV (d:D) (mg:Int):Int:=bif hasT d 5&&((fnD d 5).len==4&&nmI (fnD d 5) != 0) then nmI (fnD d 5) else mg
abbrev wkC (mru mc mt mf wt ec lo st id rq:Int) (d:D) (ct tm nk mg pr mu pe ne tick:Int) (out did:D) (g:Nat):List AV:=[ai mru,ai mc,ai mt,ai mf,ai wt,ai ec,ai lo,ai st,ai id,ai rq,asl opS d,ai ct,ai tm,ai nk,ai mg,ai pr,ai mu,ai pe,ai ne,ai tick,.sl false ctS out (some (0,g)),.sl false acS did (some (1,g+1))]
abbrev wkH (mru mc mt mf wt ec lo st id rq:Int) (d:D) (ct tm nk mg pr mu pe ne tick:Int) (out did:D) (g ep:Nat):Hp:=⟨[(0,wkC mru mc mt mf wt ec lo st id rq d ct tm nk mg pr mu pe ne tick out did g)],1,[(0,g, 32),(1,g+1, 68)],2,g+2,ep⟩
def wkCd (g ep:Nat):Cs:=⟨0,[],[(0,[.int .i64,.int .i64,.int .i64,.int .i64,.int .i64,.int .i64,.int .i64,.int .i64,.int .i64,.int .i64,.sl opS,.int .i64,.int .i64,.int .i64,.int .i64,.int .i64,.int .i64,.int .i64,.int .i64,.int .i64,.tp ctS 0 g,.tp acS 1 (g+1)])],1,[(0,g, 32),(1,g+1, 68)],2,g+2,ep⟩
structure WkV where
  (mru mc mt mf wt ec lo st id rq:Int)
  d:D
  (ct tm nk mg pr mu pe ne tick:Int)
  (out did:D)
abbrev wkW (w:WkV) (g ep:Nat):Hp:=wkH w.mru w.mc w.mt w.mf w.wt w.ec w.lo w.st w.id w.rq w.d w.ct w.tm w.nk w.mg w.pr w.mu w.pe w.ne w.tick w.out w.did g ep
def wkD (h:Hp):Option WkV:=match cdH (wkCd 0 0) h with
  | some [v0,v1,v2,v3,v4,v5,v6,v7,v8,v9,v10,v11,v12,v13,v14,v15,v16,v17,v18,v19,v20,v21]=>some ⟨v0.toI,v1.toI,v2.toI,v3.toI,v4.toI,v5.toI,v6.toI,v7.toI,v8.toI,v9.toI,v10,v11.toI,v12.toI,v13.toI,v14.toI,v15.toI,v16.toI,v17.toI,v18.toI,v19.toI,v20,v21⟩
  | _=>none
def flwN (w:WkV) (fr:Int):Bool:=decide (0≤fr∧fr≤w.did.len)&&optsB w.d
def flwW (w:WkV) (fr:Int):WkV:={ w with mg:=mgV w.d w.mg,pe:=flP (w.did.sub fr.toNat w.did.len) w.pe (w.did.sub fr.toNat w.did.len).len,ne:=flN (w.did.sub fr.toNat w.did.len) w.ec w.tick w.ne (w.did.sub fr.toNat w.did.len).len }
def frI:List AV→Option Int
  | [.ptr 0 0,.sc false (.int .i64 fr)]=>some fr
  | _=>none
def flwS:Spec:=fun args h=>match frI args,wkD h with
  | some fr,some w=>need false (flwN w fr) 299 (.ok (.tup [],wkW (flwW w fr) 1000 1000))
  | _,_=>.bad 299
theorem flwDec_0:∀ F h x,flwDec F h=some x→∃ a,x=(a,0)∧F=flwF a 0 a.pe a.ne∧h=flwH a 0 a.pe a.ne:=by
  intro F h x hx
  unfold flwDec at hx
  split at hx
  · rename_i hd
    cases hx
    obtain ⟨h1,h2⟩:=cdS_ok hd
    exact ⟨_,rfl,h1,h2⟩
  · cases hx
theorem fndG_ok:GamL Tryz.prog (fndG Tryz.prog):=⟨fnd_soundF,onm_soundF,trivial⟩
theorem flw_loop:LamE Tryz.prog 55 0 (loopS Tryz.prog flwL flwDec flwT):=by
  refine fold_loop (gs:=fndG Tryz.prog) (ls:=[]) mixed fndG_ok trivial _ 0 100 (by kernel_rfl) flwL (fun F h x hx=>by obtain ⟨a,rfl,h1,h2⟩:=flwDec_0 F h x hx; exact ⟨h1,h2⟩) ?_
  rintro ⟨x,n,mru,mc,mt,mf,wt,ec,lo,st,id,rq,d,ct,tm,nk,mg,pr,mu,pe,ne,tick,out,did⟩ i K hok hi H1 H2
  dsimp only at hok hi H1 H2
  have hm:=x.len_le
  obtain rfl:=odt hok
  have go:∀ x0 x1,i<x.len→flP x pe (i+1)=x0→flN x ec tick ne (i+1)=x1→K (.normal,flwF ⟨x,x.len,mru,mc,mt,mf,wt,ec,lo,st,id,rq,d,ct,tm,nk,mg,pr,mu,pe,ne,tick,out,did⟩ (i+1) x0 x1,flwH ⟨x,x.len,mru,mc,mt,mf,wt,ec,lo,st,id,rq,d,ct,tm,nk,mg,pr,mu,pe,ne,tick,out,did⟩ (i+1) x0 x1):=by
    intro x0 x1 hlt; rintro rfl rfl; exact H1 hlt
  show (roundT flwL (evC _ _ _ _ _ _ (flwF ⟨x,x.len,mru,mc,mt,mf,wt,ec,lo,st,id,rq,d,ct,tm,nk,mg,pr,mu,pe,ne,tick,out,did⟩ i (flP x pe i) (flN x ec tick ne i)) (flwH ⟨x,x.len,mru,mc,mt,mf,wt,ec,lo,st,id,rq,d,ct,tm,nk,mg,pr,mu,pe,ne,tick,out,did⟩ i (flP x pe i) (flN x ec tick ne i)))).holds _
  unfold flwL flwF flwH
  rw [flw_body]
  simp only [Int.toNat_natCast]
  refine ⟨fun h1=>?_,fun h1=>?_⟩
  rotate_left
  · obtain rfl:i=x.len:=by have:=odf h1; omega
    exact H2 rfl
  have hlt:i<x.len:=by have:=odt h1; omega
  rw [wrap_succ hlt hm]
  clear H1 H2
  have hI:decide (0≤(i:Int)∧(i:Int)<(x.len:Int))=true:=det ⟨by omega,by omega⟩
  rw [hI]
  have eP:flP x pe (i+1)=bif acI x i==1||acI x i==2 then 0 else flP x pe i:=rfl
  have eN:flN x ec tick ne (i+1)=bif acI x i==1 then (bif decide (0<ec) then IntKind.wrap .i64 (tick+ec) else 0) else bif acI x i==2 then 0 else flN x ec tick ne i:=rfl
  refine holds_t ⟨fun h3=>⟨fun h4=>?_,fun h4=>?_⟩,fun h3=>⟨fun h4=>?_,fun h4=>?_⟩⟩
  all_goals have h3:(acI x i==1)=_:=h3
  all_goals refine go _ _ hlt (eP.trans ?_) (eN.trans ?_)
  all_goals first
    | (rw [h3,h4]; rfl)
    | (rw [h3,show (acI x i==2)=_ from h4]; rfl)
    | (rw [h3]; rfl)
theorem flwLs_ok:LamL Tryz.prog (flwLs Tryz.prog):=⟨flw_loop,trivial⟩
theorem flw_tree (mru mc mt mf wt ec lo st id rq:Int) (d:D) (ct tm nk mg pr mu pe ne tick:Int) (out did:D) (fr:Int):treeQ 1 2 (evF Tryz.prog (gam (fndG Tryz.prog)) (lam (flwLs Tryz.prog)) 100 55) [.ptr 0 0,ai fr] (wkH mru mc mt mf wt ec lo st id rq d ct tm nk mg pr mu pe ne tick out did 0 0) =
RT.br (decide (0≤fr∧fr≤(↑(D.len did):Int)∧(↑(D.len did):Int)≤(↑(D.len did):Int)∧(↑(D.len did):Int)≤(↑(D.len did):Int))) (RT.br (decide ((↑(D.len (D.sub did (Int.toNat fr) (Int.toNat (↑(D.len did):Int)))):Int)=(↑(D.len (D.sub did (Int.toNat fr) (Int.toNat (↑(D.len did):Int)))):Int))&&true) (RT.br (hasT d 5) (RT.br ((↑(D.len (fnD d 5)):Int)==4) (RT.br (bytesB (fnD d 5)) (RT.br (nmOk (fnD d 5)) (RT.br (nmI (fnD d 5) != 0) (RT.ok (AV.tup [],(Hp.mk [(0,[zi mru,zi mc,zi mt,zi mf,zi wt,zi ec,zi lo,zi st,zi id,zi rq,zs zO d,zi ct,zi tm,zi nk,zi (nmI (fnD d 5)),zi pr,zi mu,zi (flP (D.sub did (Int.toNat fr) (Int.toNat (↑(D.len did):Int))) pe (D.len (D.sub did (Int.toNat fr) (Int.toNat (↑(D.len did):Int))))),zi (flN (D.sub did (Int.toNat fr) (Int.toNat (↑(D.len did):Int))) ec tick ne (D.len (D.sub did (Int.toNat fr) (Int.toNat (↑(D.len did):Int))))),zi tick,AV.sl false zC out (some (0,1000)),AV.sl false zN did (some (1,1001))])] 1 [(0,1000,32),(1,1001,68)] 2 1002 1000))) (RT.ok (AV.tup [],(Hp.mk [(0,[zi mru,zi mc,zi mt,zi mf,zi wt,zi ec,zi lo,zi st,zi id,zi rq,zs zO d,zi ct,zi tm,zi nk,zi mg,zi pr,zi mu,zi (flP (D.sub did (Int.toNat fr) (Int.toNat (↑(D.len did):Int))) pe (D.len (D.sub did (Int.toNat fr) (Int.toNat (↑(D.len did):Int))))),zi (flN (D.sub did (Int.toNat fr) (Int.toNat (↑(D.len did):Int))) ec tick ne (D.len (D.sub did (Int.toNat fr) (Int.toNat (↑(D.len did):Int))))),zi tick,AV.sl false zC out (some (0,1000)),AV.sl false zN did (some (1,1001))])] 1 [(0,1000,32),(1,1001,68)] 2 1002 1000)))) (RT.ok (AV.tup [],(Hp.mk [(0,[zi mru,zi mc,zi mt,zi mf,zi wt,zi ec,zi lo,zi st,zi id,zi rq,zs zO d,zi ct,zi tm,zi nk,zi mg,zi pr,zi mu,zi (flP (D.sub did (Int.toNat fr) (Int.toNat (↑(D.len did):Int))) pe (D.len (D.sub did (Int.toNat fr) (Int.toNat (↑(D.len did):Int))))),zi (flN (D.sub did (Int.toNat fr) (Int.toNat (↑(D.len did):Int))) ec tick ne (D.len (D.sub did (Int.toNat fr) (Int.toNat (↑(D.len did):Int))))),zi tick,AV.sl false zC out (some (0,1000)),AV.sl false zN did (some (1,1001))])] 1 [(0,1000,32),(1,1001,68)] 2 1002 1000)))) (RT.bad 297)) (RT.ok (AV.tup [],(Hp.mk [(0,[zi mru,zi mc,zi mt,zi mf,zi wt,zi ec,zi lo,zi st,zi id,zi rq,zs zO d,zi ct,zi tm,zi nk,zi mg,zi pr,zi mu,zi (flP (D.sub did (Int.toNat fr) (Int.toNat (↑(D.len did):Int))) pe (D.len (D.sub did (Int.toNat fr) (Int.toNat (↑(D.len did):Int))))),zi (flN (D.sub did (Int.toNat fr) (Int.toNat (↑(D.len did):Int))) ec tick ne (D.len (D.sub did (Int.toNat fr) (Int.toNat (↑(D.len did):Int))))),zi tick,AV.sl false zC out (some (0,1000)),AV.sl false zN did (some (1,1001))])] 1 [(0,1000,32),(1,1001,68)] 2 1002 1000)))) (RT.ok (AV.tup [],(Hp.mk [(0,[zi mru,zi mc,zi mt,zi mf,zi wt,zi ec,zi lo,zi st,zi id,zi rq,zs zO d,zi ct,zi tm,zi nk,zi mg,zi pr,zi mu,zi (flP (D.sub did (Int.toNat fr) (Int.toNat (↑(D.len did):Int))) pe (D.len (D.sub did (Int.toNat fr) (Int.toNat (↑(D.len did):Int))))),zi (flN (D.sub did (Int.toNat fr) (Int.toNat (↑(D.len did):Int))) ec tick ne (D.len (D.sub did (Int.toNat fr) (Int.toNat (↑(D.len did):Int))))),zi tick,AV.sl false zC out (some (0,1000)),AV.sl false zN did (some (1,1001))])] 1 [(0,1000,32),(1,1001,68)] 2 1002 1000)))) (RT.bad 210)) (RT.bad 37):=by kernel_rfl
theorem wkD_ok {h:Hp} {w:WkV} (hd:wkD h=some w):h=wkW w 0 0:=by
  unfold wkD at hd
  split at hd
  · rename_i h1
    cases hd
    exact (cdS_ok h1).2
  · cases hd
theorem frI_ok {args:List AV} {fr:Int} (h:frI args=some fr):args=[.ptr 0 0,ai fr]:=by
  unfold frI at h
  split at h
  · cases h; rfl
  · cases h
theorem fnD_by {d:D} {t:Int} (h:optsB d=true):bytesB (fnD d t)=true:=by
  unfold fnD
  cases hh:hasT d t
  · exact det fun i hi=>absurd hi (Nat.not_lt_zero i)
  · have hf:okFrom (neT d t) d.len 0=false:=by
      unfold hasT at hh
      rw [Bool.not_eq_true'] at hh; exact hh
    obtain ⟨_,h2,_⟩:=badFrom_at hf
    exact det (odt h _ (by omega))
theorem flw_soundF:SoundF Tryz.prog 55 flwS:=by
  refine obj_in2 (gs:=fndG Tryz.prog) (ls:=flwLs Tryz.prog) mixed fndG_ok flwLs_ok 55 100 1 2 fun args h K H=>?_
  unfold flwS at H
  split at H
  rotate_left
  · exact H.elim
  rename_i fr w h1 h2
  obtain ⟨hc,H⟩:=need_holds H
  rw [frI_ok h1,wkD_ok h2]
  refine ⟨rfl,?_⟩
  obtain ⟨mru,mc,mt,mf,wt,ec,lo,st,id,rq,d,ct,tm,nk,mg,pr,mu,pe,ne,tick,out,did⟩:=w
  unfold flwN at hc
  rw [Bool.and_eq_true] at hc
  obtain ⟨hc,hb⟩:=hc
  obtain ⟨f0,f1⟩:0≤fr∧fr≤(did.len:Int):=odt hc
  dsimp only at hb H
  unfold wkW
  dsimp only
  rw [flw_tree,fnD_by hb]
  simp only [Int.toNat_natCast]
  have M:∀ m,mgV d mg=m→K (.tup [],wkH mru mc mt mf wt ec lo st id rq d ct tm nk m pr mu (flP (did.sub fr.toNat did.len) pe (did.sub fr.toNat did.len).len) (flN (did.sub fr.toNat did.len) ec tick ne (did.sub fr.toNat did.len).len) tick out did 1000 1000):=by rintro m rfl; exact H
  refine holds_t_of (det ⟨f0,f1,by omega,by omega⟩) (holds_t_of (by simp) ⟨fun h1=>⟨fun h2=>holds_t ⟨fun h3=>⟨fun h4=>⟨_,Le.refl _,M _ ?_⟩,fun h4=>⟨_,Le.refl _,M _ ?_⟩⟩,fun h3=>⟨_,Le.refl _,M _ ?_⟩⟩,fun h2=>⟨_,Le.refl _,M _ ?_⟩⟩,fun h1=>⟨_,Le.refl _,M _ ?_⟩⟩)
  all_goals unfold mgV
  · have h2:(fnD d 5).len==4:=by have:=eq_of_beq h2; rw [beq_iff_eq]; omega
    rw [h1,h2,h4]; rfl
  · rw [h1,h4]; simp
  · have:=eq_of_beq h2
    have h3:nmOk (fnD d 5)=false:=h3
    unfold nmOk at h3
    have:=odf h3
    omega
  · have h2:((fnD d 5).len==4)=false:=by
      rw [beq_eq_false_iff_ne]
      intro e
      rw [e] at h2; cases h2
    rw [h1,h2]; rfl
  · rw [h1]; rfl
end
end Go.Proofs.YtcambhbmobepjaaGreat
