/- Mm, 5: texts of this claim, one behind the other: Kn4 Kn5 Kn6 Kn7 Kn8 Kn9 Ko1 Ko2 Ko3 Ko4 Ko5 Ko6 Ko7 Ko8 Ko9 Kp1 Kp2 Kr1 Kr2 Kr4 Ks2 Kt2 Kt3 Kt5 Kt6 Kt7 Kt8 Kt9 Kv1 Kv2 Kv3 Ku1 Ku2 Ku3 Ku4 Ku5 Ku6 Ku7 Ku8 Ku9. No condition. -/
import Derived.Test.YtbgmclbcjdbcmaaGreatMm3
import Derived.Test.YtbgmclbcjdbcmaaGreatMm4
namespace Go.Proofs.YtbgmclbcjdbcmaaGreat
set_option linter.unusedSimpArgs false
set_option linter.unusedVariables false
open Go.RowKit
set_option maxRecDepth 100000
noncomputable section
def cutX:BSpec:=fun _ _=>.bad 999
def nonG (_:Program):List (FuncId×Spec):=[]
def knO (_:Tm) (h:Hp):Bool:=match lookO 0 h.ob with | some [_,.sl kn _ _ _]=>kn | _=>false
def tkeL (P:Program):List (FuncId×Nat×BSpec):=[(133,0,altB (knT 18) (runB P (nonG P) 100 133 0) cutX),(202,0,altB knO (runB P (nonG P) 100 202 0) cutX)]
def nmOk (x:D):Bool:=decide (1≤x.len∧x.len≤4)
def nmI (x:D):Int:=if x.len=1 then byA x 0 else if x.len=2 then 256*byA x 0+byA x 1 else if x.len=3 then 256*(256*byA x 0+byA x 1)+byA x 2 else if x.len=4 then 256*(256*(256*byA x 0+byA x 1)+byA x 2)+byA x 3 else 0
def FNmb:List AV→RT AV
  | [.agg [.sc false (.int .i64 _),.sl false [.int .u8] x none]]=>need false (bytesB x) 297 (.ok (.tup [ai (nmI x),ab (nmOk x)]))
  | _=>.bad 297
theorem on0_tree (t:Int) (x:D):treeF (evF Tryz.prog (gam (nonG Tryz.prog)) (lam (tkeL Tryz.prog)) 100 166) [optA t x] =
RT.br (decide (1≤(↑(D.len x):Int))) (RT.br (!decide ((↑(D.len x):Int)≤4)) (RT.ok (AV.tup [zk 0,AV.sc true (Value.bool false)])) (RT.br (decide (1≤(↑(D.len x):Int))) (RT.br (!decide ((↑(D.len x):Int)≤8)) (RT.ok (AV.tup [zk 0,AV.sc true (Value.bool false)])) (RT.br (decide ((↑(D.len x):Int)<(↑(D.len x):Int))) (RT.ok (AV.tup [zk 0,AV.sc true (Value.bool false)])) (RT.bad 999))) (RT.ok (AV.tup [zk 0,AV.sc true (Value.bool false)])))) (RT.ok (AV.tup [zk 0,AV.sc true (Value.bool false)])):=by rw [← fvF_eq Tryz.prog (gam (nonG Tryz.prog)) (lam (tkeL Tryz.prog)) false 100 166]; kernel_rfl
theorem on1_tree (t a:Int):treeF (evF Tryz.prog (gam (nonG Tryz.prog)) (lam (tkeL Tryz.prog)) 100 166) [.agg [ai t,.sl true byS (.l [.i a]) none]] =
RT.ok (AV.tup [zi (IntKind.wrap IntKind.i64 (IntKind.wrap IntKind.u64 (↑(BitVec.toNat (BitVec.ofInt (IntKind.bits IntKind.u64) (IntKind.wrap IntKind.u64 (Int.ofNat 0*2 ^ min (Int.toNat 8) (IntKind.bits IntKind.u64))) ||| BitVec.ofInt (IntKind.bits IntKind.u64) (IntKind.wrap IntKind.u64 (D.toI (D.cell (D.get (D.l [D.i a]) (Int.toNat (Int.ofNat 0))) 0))))):Int))),AV.sc true (Value.bool true)]):=by rw [← fvF_eq Tryz.prog (gam (nonG Tryz.prog)) (lam (tkeL Tryz.prog)) false 100 166]; kernel_rfl
theorem on2_tree (t a b:Int):treeF (evF Tryz.prog (gam (nonG Tryz.prog)) (lam (tkeL Tryz.prog)) 100 166) [.agg [ai t,.sl true byS (.l [.i a,.i b]) none]] =
RT.br true (RT.ok (AV.tup [zi (IntKind.wrap IntKind.i64 (IntKind.wrap IntKind.u64 (↑(BitVec.toNat (BitVec.ofInt (IntKind.bits IntKind.u64) (IntKind.wrap IntKind.u64 (IntKind.wrap IntKind.u64 (↑(BitVec.toNat (BitVec.ofInt (IntKind.bits IntKind.u64) (IntKind.wrap IntKind.u64 (Int.ofNat 0*2 ^ min (Int.toNat 8) (IntKind.bits IntKind.u64))) ||| BitVec.ofInt (IntKind.bits IntKind.u64) (IntKind.wrap IntKind.u64 (D.toI (D.cell (D.get (D.l [D.i a,D.i b]) (Int.toNat (Int.ofNat 0))) 0))))):Int)*2 ^ min (Int.toNat 8) (IntKind.bits IntKind.u64))) ||| BitVec.ofInt (IntKind.bits IntKind.u64) (IntKind.wrap IntKind.u64 (D.toI (D.cell (D.get (D.l [D.i a,D.i b]) (Int.toNat (IntKind.wrap IntKind.i64 (Int.ofNat 0+1)))) 0))))):Int))),AV.sc true (Value.bool true)])) (RT.bad 25):=by rw [← fvF_eq Tryz.prog (gam (nonG Tryz.prog)) (lam (tkeL Tryz.prog)) false 100 166]; kernel_rfl
theorem on3_tree (t a b c:Int):treeF (evF Tryz.prog (gam (nonG Tryz.prog)) (lam (tkeL Tryz.prog)) 100 166) [.agg [ai t,.sl true byS (.l [.i a,.i b,.i c]) none]] =
RT.br true (RT.br true (RT.ok (AV.tup [zi (IntKind.wrap IntKind.i64 (IntKind.wrap IntKind.u64 (↑(BitVec.toNat (BitVec.ofInt (IntKind.bits IntKind.u64) (IntKind.wrap IntKind.u64 (IntKind.wrap IntKind.u64 (↑(BitVec.toNat (BitVec.ofInt (IntKind.bits IntKind.u64) (IntKind.wrap IntKind.u64 (IntKind.wrap IntKind.u64 (↑(BitVec.toNat (BitVec.ofInt (IntKind.bits IntKind.u64) (IntKind.wrap IntKind.u64 (Int.ofNat 0*2 ^ min (Int.toNat 8) (IntKind.bits IntKind.u64))) ||| BitVec.ofInt (IntKind.bits IntKind.u64) (IntKind.wrap IntKind.u64 (D.toI (D.cell (D.get (D.l [D.i a,D.i b,D.i c]) (Int.toNat (Int.ofNat 0))) 0))))):Int)*2 ^ min (Int.toNat 8) (IntKind.bits IntKind.u64))) ||| BitVec.ofInt (IntKind.bits IntKind.u64) (IntKind.wrap IntKind.u64 (D.toI (D.cell (D.get (D.l [D.i a,D.i b,D.i c]) (Int.toNat (IntKind.wrap IntKind.i64 (Int.ofNat 0+1)))) 0))))):Int)*2 ^ min (Int.toNat 8) (IntKind.bits IntKind.u64))) ||| BitVec.ofInt (IntKind.bits IntKind.u64) (IntKind.wrap IntKind.u64 (D.toI (D.cell (D.get (D.l [D.i a,D.i b,D.i c]) (Int.toNat (IntKind.wrap IntKind.i64 (IntKind.wrap IntKind.i64 (Int.ofNat 0+1)+1)))) 0))))):Int))),AV.sc true (Value.bool true)])) (RT.bad 25)) (RT.bad 25):=by rw [← fvF_eq Tryz.prog (gam (nonG Tryz.prog)) (lam (tkeL Tryz.prog)) false 100 166]; kernel_rfl
theorem on4_tree (t a b c d:Int):treeF (evF Tryz.prog (gam (nonG Tryz.prog)) (lam (tkeL Tryz.prog)) 100 166) [.agg [ai t,.sl true byS (.l [.i a,.i b,.i c,.i d]) none]] =
RT.br true (RT.br true (RT.br true (RT.ok (AV.tup [zi (IntKind.wrap IntKind.i64 (IntKind.wrap IntKind.u64 (↑(BitVec.toNat (BitVec.ofInt (IntKind.bits IntKind.u64) (IntKind.wrap IntKind.u64 (IntKind.wrap IntKind.u64 (↑(BitVec.toNat (BitVec.ofInt (IntKind.bits IntKind.u64) (IntKind.wrap IntKind.u64 (IntKind.wrap IntKind.u64 (↑(BitVec.toNat (BitVec.ofInt (IntKind.bits IntKind.u64) (IntKind.wrap IntKind.u64 (IntKind.wrap IntKind.u64 (↑(BitVec.toNat (BitVec.ofInt (IntKind.bits IntKind.u64) (IntKind.wrap IntKind.u64 (Int.ofNat 0*2 ^ min (Int.toNat 8) (IntKind.bits IntKind.u64))) ||| BitVec.ofInt (IntKind.bits IntKind.u64) (IntKind.wrap IntKind.u64 (D.toI (D.cell (D.get (D.l [D.i a,D.i b,D.i c,D.i d]) (Int.toNat (Int.ofNat 0))) 0))))):Int)*2 ^ min (Int.toNat 8) (IntKind.bits IntKind.u64))) ||| BitVec.ofInt (IntKind.bits IntKind.u64) (IntKind.wrap IntKind.u64 (D.toI (D.cell (D.get (D.l [D.i a,D.i b,D.i c,D.i d]) (Int.toNat (IntKind.wrap IntKind.i64 (Int.ofNat 0+1)))) 0))))):Int)*2 ^ min (Int.toNat 8) (IntKind.bits IntKind.u64))) ||| BitVec.ofInt (IntKind.bits IntKind.u64) (IntKind.wrap IntKind.u64 (D.toI (D.cell (D.get (D.l [D.i a,D.i b,D.i c,D.i d]) (Int.toNat (IntKind.wrap IntKind.i64 (IntKind.wrap IntKind.i64 (Int.ofNat 0+1)+1)))) 0))))):Int)*2 ^ min (Int.toNat 8) (IntKind.bits IntKind.u64))) ||| BitVec.ofInt (IntKind.bits IntKind.u64) (IntKind.wrap IntKind.u64 (D.toI (D.cell (D.get (D.l [D.i a,D.i b,D.i c,D.i d]) (Int.toNat (IntKind.wrap IntKind.i64 (IntKind.wrap IntKind.i64 (IntKind.wrap IntKind.i64 (Int.ofNat 0+1)+1)+1)))) 0))))):Int))),AV.sc true (Value.bool true)])) (RT.bad 25)) (RT.bad 25)) (RT.bad 25):=by rw [← fvF_eq Tryz.prog (gam (nonG Tryz.prog)) (lam (tkeL Tryz.prog)) false 100 166]; kernel_rfl
theorem cutX_ok {P:Program} {f:FuncId} {id:Nat}:LamE P f id cutX:=fun _ _ _ _ _ _ _ _ H=>H.elim
theorem nonG_ok:GamL Tryz.prog (nonG Tryz.prog):=trivial
theorem tkeL_ok:LamL Tryz.prog (tkeL Tryz.prog):=⟨altB_ok (runB_ok mixed nonG_ok _ 0 100 (by kernel_rfl)) cutX_ok,altB_ok (runB_ok mixed nonG_ok _ 0 100 (by kernel_rfl)) cutX_ok,trivial⟩
theorem one_le {x:D} (h:x.len=1) {kn kn':Bool}:Le (.sl kn byS x none) (.sl kn' byS (.l [.i (byA x 0)]) none):=by
  have hl:(D.l [.i (byA x 0)]).toL=[.i (byA x 0)]:=toL_l (by unfold maxLen; simp)
  refine le_sl (by unfold D.len at h ⊢; rw [hl,h]; rfl) fun i hi=>?_
  rw [show (D.l [.i (byA x 0)]).get i=[D.i (byA x 0)].getD i .n from by unfold D.get; rw [hl]]
  have hi:i<1:=by omega
  match i,hi with
  | 0,_=>exact ⟨rfl,trivial⟩
theorem three_le {x:D} (h:x.len=3) {kn kn':Bool}:Le (.sl kn byS x none) (.sl kn' byS (.l [.i (byA x 0),.i (byA x 1),.i (byA x 2)]) none):=by
  have hl:(D.l [.i (byA x 0),.i (byA x 1),.i (byA x 2)]).toL=[.i (byA x 0),.i (byA x 1),.i (byA x 2)]:=toL_l (by unfold maxLen; simp)
  refine le_sl (by unfold D.len at h ⊢; rw [hl,h]; rfl) fun i hi=>?_
  rw [show (D.l [.i (byA x 0),.i (byA x 1),.i (byA x 2)]).get i=[D.i (byA x 0),D.i (byA x 1),D.i (byA x 2)].getD i .n from by unfold D.get; rw [hl]]
  have hi:i<3:=by omega
  match i,hi with
  | 0,_=>exact ⟨rfl,trivial⟩
  | 1,_=>exact ⟨rfl,trivial⟩
  | 2,_=>exact ⟨rfl,trivial⟩
theorem nu1_val {a:Int} (ha:byR a):IntKind.wrap .i64 (IntKind.wrap IntKind.u64 (↑(BitVec.toNat (BitVec.ofInt (IntKind.bits IntKind.u64) (Int.ofNat 0) ||| BitVec.ofInt (IntKind.bits IntKind.u64) (IntKind.wrap IntKind.u64 a))):Int))=a:=by
  unfold byR at ha
  rw [orZ_eq ha,i64_id ⟨by omega,by omega⟩]
theorem nu3_val {a b c:Int} (ha:byR a) (hb:byR b) (hc:byR c):IntKind.wrap .i64 (orS (orS (IntKind.wrap IntKind.u64 (↑(BitVec.toNat (BitVec.ofInt (IntKind.bits IntKind.u64) (Int.ofNat 0) ||| BitVec.ofInt (IntKind.bits IntKind.u64) (IntKind.wrap IntKind.u64 a))):Int)) b) c)=256*(256*a+b)+c:=by
  unfold byR at ha hb hc
  rw [orZ_eq ha,orS_eq ⟨ha.1,by omega⟩ hb,orS_eq ⟨by omega,by omega⟩ hc,i64_id ⟨by omega,by omega⟩]
theorem FNmb_inv {args:List AV} {K:AV→Prop} (H:(FNmb args).holds K):∃ t x,args=[optA t x]∧bytesB x=true∧K (.tup [ai (nmI x),ab (nmOk x)]):=by
  unfold FNmb at H
  split at H
  · rename_i t x
    obtain ⟨hc,H⟩:=need_holds H
    exact ⟨t,x,rfl,hc,H⟩
  · exact H.elim
theorem nm_no {x:D} (h:¬ (1≤x.len∧x.len≤4)):nmI x=0∧nmOk x=false:=by
  unfold nmI nmOk
  rw [if_neg (by omega),if_neg (by omega),if_neg (by omega),if_neg (by omega)]
  exact ⟨rfl,def_ h⟩
theorem nm_ok {x:D} (h:1≤x.len∧x.len≤4):nmOk x=true:=det h
theorem onm_soundF:SoundF Tryz.prog 166 (pureS Tryz.prog 166 FNmb):=by
  have G:∀ args K,okL args→(FNmb args).holds K→∃ n,n≤4∧∃ t x,args=[optA t x]∧bytesB x=true∧K (.tup [ai (nmI x),ab (nmOk x)])∧((n=0∧¬ (1≤x.len∧x.len≤4))∨(1≤n∧x.len=n)):=fun args K _ H=>by
    obtain ⟨t,x,h1,h2,h3⟩:=FNmb_inv H
    by_cases h:1≤x.len∧x.len≤4
    · exact ⟨x.len,h.2,t,x,h1,h2,h3,.inr ⟨h.1,rfl⟩⟩
    · exact ⟨0,by omega,t,x,h1,h2,h3,.inl ⟨rfl,h⟩⟩
  refine pure_by (gs:=nonG Tryz.prog) (ls:=tkeL Tryz.prog) mixed nonG_ok tkeL_ok 166 100 fun args K ho H=>?_
  obtain ⟨n,hn,t,x,hr,hb,H,hx⟩:=G args K ho H
  have B:∀ j,j<x.len→byR (byA x j):=fun j hj=>bytes_at hb hj
  rw [hr]
  rcases hx with ⟨rfl,hx⟩ | ⟨h1,hx⟩
  · refine ⟨_,fun _ _ h=>h,?_⟩
    rw [on0_tree]
    obtain ⟨e1,e2⟩:=nm_no hx
    have go:∃ y,Le (.tup [.sc true (.int .i64 0),.sc true (.bool false)]) y∧K y:=⟨_,le_two (le_int e1.symm) (le_bool e2.symm),H⟩
    refine ⟨fun h=>⟨fun _=>go,fun h'=>?_⟩,fun _=>go⟩
    have:=odt h
    rw [Bool.not_eq_false'] at h'
    have:=odt h'
    exact absurd ⟨by omega,by omega⟩ hx
  have ok:=nm_ok (x:=x) ⟨by omega,by omega⟩
  rw [ok] at H
  match n,h1,hn,hx with
  | 1,_,_,hx =>
    refine ⟨_,leL_cons (le_agg (leL_cons (Le.refl _) (leL_cons (one_le (kn':=true) hx) leL_nil))) leL_nil,?_⟩
    rw [on1_tree]
    refine ⟨_,le_two (le_int ((nu1_val (B 0 (by omega))).trans ?_)) (le_bool rfl),H⟩
    unfold nmI; rw [if_pos hx]
  | 2,_,_,hx =>
    refine ⟨_,leL_cons (le_agg (leL_cons (Le.refl _) (leL_cons (two_le (kn':=true) hx) leL_nil))) leL_nil,?_⟩
    rw [on2_tree]
    refine holds_t ⟨_,le_two (le_int ((nu2_val (B 0 (by omega)) (B 1 (by omega))).trans ?_)) (le_bool rfl),H⟩
    unfold nmI; rw [if_neg (by omega),if_pos hx]
  | 3,_,_,hx =>
    refine ⟨_,leL_cons (le_agg (leL_cons (Le.refl _) (leL_cons (three_le (kn':=true) hx) leL_nil))) leL_nil,?_⟩
    rw [on3_tree]
    refine holds_t (holds_t ⟨_,le_two (le_int ((nu3_val (B 0 (by omega)) (B 1 (by omega)) (B 2 (by omega))).trans ?_)) (le_bool rfl),H⟩)
    unfold nmI; rw [if_neg (by omega),if_neg (by omega),if_pos hx]
  | 4,_,_,hx =>
    refine ⟨_,leL_cons (le_agg (leL_cons (Le.refl _) (leL_cons (four_le (kn':=true) hx) leL_nil))) leL_nil,?_⟩
    rw [on4_tree]
    refine holds_t (holds_t (holds_t ⟨_,le_two (le_int ((nu4_val (B 0 (by omega)) (B 1 (by omega)) (B 2 (by omega)) (B 3 (by omega))).trans ?_)) (le_bool rfl),H⟩))
    unfold nmI; rw [if_neg (by omega),if_neg (by omega),if_neg (by omega),if_pos hx]
def scanT {α:Type} (n:α→Nat) (p:α→Nat→Bool) (okk:α→Bool) (mkF:α→Nat→Tm) (mkR:α→Nat→Tm) (mkH:α→Hp) (mkG:α→Nat→Hp) (w:Ex) (x:α×Nat):RT Out :=
  need false (okk x.1&&decide (x.2≤n x.1)) 210 (.br (okFrom (p x.1) (n x.1 - x.2) x.2) (.ok (.normal,mkF x.1 (n x.1),mkH x.1)) (.ok (w,mkR x.1 (badFrom (p x.1) (n x.1 - x.2) x.2),mkG x.1 (badFrom (p x.1) (n x.1 - x.2) x.2))))
def cloG (P:Program):List (FuncId×Spec):=[(162,pureS P 162 FCloneB)]
structure fnlX where
  t:Int
  d:D
  n:Int
def fnlL:Lw:=⟨[1,4,5,8,9,10],[],1,0,1000,1000⟩
def fnlF (a:fnlX) (i:Nat):Tm:=⟨25,[(1,zi a.t),(4,.ptr 0 0),(5,.sc false (.bool false)),(8,.sl false opS a.d none),(9,zi a.n),(10,zi (i:Int))],[]⟩
def fnlH (a:fnlX) (i:Nat):Hp:=⟨[(0,[zi 0,.sc false (.slice none 0 0)])],1,[],0,1000,1000⟩
def fnlC:Cs:=⟨25,[(1,.int .i64),(4,.lit (.ptr 0 0)),(5,.lit (.sc false (.bool false))),(8,.sl opS),(9,.int .i64),(10,.lit (.sc false (.int .i64 0)))],[(0,[.lit (.sc false (.int .i64 0)),.lit (.sc false (.slice none 0 0))])],1,[],0,1000,1000⟩
noncomputable def fnlDec (F:Tm) (h:Hp):Option (fnlX×Nat):=match cdS fnlC F h with
  | some [v0,v1,v2]=>some (⟨v0.toI,v1,v2.toI⟩,0)
  | _=>none
theorem fnl_body (t:Int) (d:D) (n:Int) (i:Int):roundT (⟨[1,4,5,8,9,10],[],1,0,1000,1000⟩) (evC Tryz.prog (gam (cloG Tryz.prog)) (lam ([])) 100 165 (loopAt 0 (bodyOf Tryz.prog 165)) (⟨25,[(1,zi t),(4,.ptr 0 0),(5,.sc false (.bool false)),(8,.sl false opS d none),(9,zi n),(10,zi i)],[]⟩) (⟨[(0,[zi 0,.sc false (.slice none 0 0)])],1,[],0,1000,1000⟩)) =
RT.br (decide (i<n)) (RT.br (decide (0≤i∧i<(↑(D.len d):Int))) (RT.br (D.toI (D.cell (D.get d (Int.toNat i)) 0)==t) (RT.ok (Ex.ret,(Tm.mk 25 [(1,zi t),(4,AV.ptr 0 0),(5,zb true),(8,zs zO d),(9,zi n),(10,zi i)] []),(Hp.mk [(0,[zi t,zs zU (D.cell (D.get d (Int.toNat i)) 1)])] 1 [] 0 1000 1000))) (RT.ok (Ex.normal,(Tm.mk 25 [(1,zi t),(4,AV.ptr 0 0),(5,zb false),(8,zs zO d),(9,zi n),(10,zi (IntKind.wrap IntKind.i64 (i+1)))] []),(Hp.mk [(0,[zi 0,zy])] 1 [] 0 1000 1000)))) (RT.bad 42)) (RT.ok (Ex.exit 0,(Tm.mk 25 [(1,zi t),(4,AV.ptr 0 0),(5,zb false),(8,zs zO d),(9,zi n),(10,zi i)] []),(Hp.mk [(0,[zi 0,zy])] 1 [] 0 1000 1000))):=by rw [← fvC_eq Tryz.prog (gam (cloG Tryz.prog)) (lam ([])) false 100]; kernel_rfl
def fnlR (a:fnlX) (i:Nat):Tm:=⟨25,[(1,ai a.t),(4,.ptr 0 0),(5,ab true),(8,asl opS a.d),(9,ai a.n),(10,ai i)],[]⟩
def fnlG (a:fnlX) (i:Nat):Hp:=⟨[(0,[ai a.t,asl byS (optB a.d i)])],1,[],0,1000,1000⟩
def fnlT:fnlX×Nat→RT Out:=scanT (fun a=>a.d.len) (fun a=>neT a.d a.t) (fun a=>decide (a.n=(a.d.len:Int))) fnlF fnlR (fun a=>fnlH a 0) fnlG .ret
def fnlLs (P:Program):List (FuncId×Nat×BSpec):=[(165,0,loopS P fnlL fnlDec fnlT)]
def fnD (d:D) (t:Int):D:=bif hasT d t then optB d (badFrom (neT d t) d.len 0) else .l []
def fnT (d:D) (t:Int):Int:=bif hasT d t then t else 0
def FFnd:List AV→RT AV
  | [.sl false [.int .i64,.sl [.int .u8]] d none,.sc false (.int .i64 t)]=>.ok (.tup [optA (fnT d t) (fnD d t),ab (hasT d t)])
  | _=>.bad 298
theorem fnlDec_0:∀ F h x,fnlDec F h=some x→∃ a,x=(a,0)∧F=fnlF a 0∧h=fnlH a 0:=by
  intro F h x hx
  unfold fnlDec at hx
  split at hx
  · rename_i hd
    cases hx
    obtain ⟨h1,h2⟩:=cdS_ok hd
    exact ⟨_,rfl,h1,h2⟩
  · cases hx
theorem fnlDec_ok:∀ F h x,fnlDec F h=some x→F=fnlF x.1 x.2∧h=fnlH x.1 x.2:=by
  intro F h x hx
  obtain ⟨a,rfl,h1,h2⟩:=fnlDec_0 F h x hx
  exact ⟨h1,h2⟩
theorem cloG_ok:GamL Tryz.prog (cloG Tryz.prog):=⟨cloneb_soundF,trivial⟩
theorem scan_loop {P:Program} {gs:List (FuncId×Spec)} {ls:List (FuncId×Nat×BSpec)} {α:Type} (hm:Fit P) (hΓ:GamL P gs) (hΛ:LamL P ls) (f id n:Nat) (hl:isLoop id (bodyOf P f)=true) (L:Lw)
    {len:α→Nat} {p:α→Nat→Bool} {okk:α→Bool} {mkF mkR:α→Nat→Tm} {mkH:α→Hp} {mkG:α→Nat→Hp} {w:Ex} {dec:Tm→Hp→Option (α×Nat)}
    (hw:w≠.normal) (hwi:w≠.exit id) (hdec:∀ F h x,dec F h=some x→F=mkF x.1 x.2∧h=mkH x.1)
    (hround:∀ a i (K:Out→Prop),okk a=true→i≤len a→(i<len a→p a i=true→K (.normal,mkF a (i+1),mkH a))→(i<len a→p a i=false→K (w,mkR a i,mkG a i))→(i=len a→K (.exit id,mkF a (len a),mkH a)) →
      (roundT L (evC P (gam gs) (lam ls) n f (loopAt id (bodyOf P f)) (mkF a i) (mkH a))).holds K) :
    LamE P f id (loopS P L dec (scanT len p okk mkF mkR mkH mkG w)):=by
  refine loop_in2 hm hΓ hΛ f id n hl L (mkF:=fun x=>mkF x.1 x.2) (mkH:=fun x=>mkH x.1) (fun x=>len x.1 - x.2) hdec ?_
  rintro ⟨a,i⟩ K H
  obtain ⟨hc,H⟩:=need_holds H
  simp only [Bool.and_eq_true,decide_eq_true_eq] at hc
  obtain ⟨hok,hi⟩:=hc
  refine hround a i _ hok hi ?_ ?_ ?_
  · intro hlt hp
    refine ⟨(a,i+1),⟨rfl,rfl⟩,by show len a - (i+1)<len a - i; omega,?_⟩
    unfold scanT
    refine ⟨fun _=>?_,fun hf=>?_⟩
    · have e:len a - i=(len a - (i+1))+1:=by omega
      have e1:okFrom (p a) (len a - i) i=okFrom (p a) (len a - (i+1)) (i+1):=by rw [e]; simp only [okFrom,hp,Bool.true_and]
      have e2:badFrom (p a) (len a - i) i=badFrom (p a) (len a - (i+1)) (i+1):=by rw [e,badFrom_cons hp]
      dsimp only at H
      rw [e1,e2] at H
      exact H
    · simp only [hok,Bool.true_and,decide_eq_false_iff_not] at hf
      exact absurd (show i+1≤len a by omega) hf
  · intro hlt hp
    have h:=H.2 (okFrom_false (Nat.le_refl _) (show i<i+(len a - i) by omega) hp)
    dsimp only at h
    rw [show len a - i=(len a - i - 1)+1 by omega,badFrom_here hp] at h
    unfold Round
    cases w with
    | normal=>exact absurd rfl hw
    | exit j =>
      show if j=id then _ else _
      rw [if_neg (fun e:j=id=>hwi (by rw [e]))]
      exact h
    | ret=>exact h
  · intro he
    have h:=H.1 (by subst he; dsimp only; rw [Nat.sub_self]; rfl)
    unfold Round
    simp only [if_pos rfl]
    exact h
theorem fnl_loop:LamE Tryz.prog 165 0 (loopS Tryz.prog fnlL fnlDec fnlT):=by
  refine scan_loop (gs:=cloG Tryz.prog) (ls:=[]) mixed cloG_ok trivial _ 0 100 (by kernel_rfl) fnlL (by intro h; cases h) (by intro h; cases h) (fun F h x hx=>fnlDec_ok F h x hx) ?_
  rintro ⟨t,d,n⟩ i K hn hi H1 H2 H3
  obtain rfl:n=(d.len:Int):=odt hn
  dsimp only at hi H1 H2 H3
  have hm:=d.len_le
  show (roundT fnlL (evC _ _ _ _ _ _ (fnlF ⟨t,d,d.len⟩ i) (fnlH ⟨t,d,d.len⟩ 0))).holds _
  unfold fnlL fnlF fnlH
  rw [fnl_body]
  simp only [Int.toNat_natCast]
  refine ⟨fun h1=>holds_t_of (det ⟨by omega,by have:=odt h1; omega⟩) ⟨fun h3=>?_,fun h3=>?_⟩,fun h1=>?_⟩
  all_goals simp only [decide_eq_true_eq,decide_eq_false_iff_not] at h1
  · refine H2 (by omega) ?_
    unfold neT; rw [bne_eq_false_iff_eq]; exact eq_of_beq h3
  · rw [wrap_succ (by omega) hm]
    refine H1 (by omega) ?_
    unfold neT; rw [bne,h3]; rfl
  · obtain rfl:i=d.len:=by omega
    exact H3 rfl
theorem fnlLs_ok:LamL Tryz.prog (fnlLs Tryz.prog):=⟨fnl_loop,trivial⟩
theorem fnd_tree (d:D) (t:Int):treeF (evF Tryz.prog (gam (cloG Tryz.prog)) (lam (fnlLs Tryz.prog)) 100 165) [asl opS d,ai t] =
RT.br (decide ((↑(D.len d):Int)=(↑(D.len d):Int))&&true) (RT.br (okFrom (neT d (D.toI (D.i t))) (D.len d - 0) 0) (RT.ok (AV.tup [AV.agg [zk 0,zz],AV.sc true (Value.bool false)])) (RT.ok (AV.tup [AV.agg [zi t,zs zU (D.cell (D.get d (badFrom (neT d (D.toI (D.i t))) (D.len d - 0) 0)) 1)],zb true]))) (RT.bad 210):=by rw [← fvF_eq Tryz.prog (gam (cloG Tryz.prog)) (lam (fnlLs Tryz.prog)) false 100 165]; kernel_rfl
theorem fnd_soundF:SoundF Tryz.prog 165 (pureS Tryz.prog 165 FFnd):=by
  refine pure_in (gs:=cloG Tryz.prog) (ls:=fnlLs Tryz.prog) mixed cloG_ok fnlLs_ok 165 100 fun args K ho H=>?_
  unfold FFnd at H
  split at H
  · rename_i d t
    rw [fnd_tree]
    refine holds_t_of (by rw [Bool.and_true]; exact det rfl) ⟨fun h=>?_,fun h=>?_⟩
    · have e:hasT d t=false:=by unfold hasT; rw [show okFrom (neT d t) d.len 0=true from h]; rfl
      unfold fnT fnD at H
      rw [e] at H
      exact ⟨_,le_two (le_agg (leL_cons (le_int rfl) (leL_cons (le_nil rfl) leL_nil))) (le_bool rfl),H⟩
    · have e:hasT d t=true:=by unfold hasT; rw [show okFrom (neT d t) d.len 0=false from h]; rfl
      unfold fnT fnD at H
      rw [e] at H
      exact ⟨_,le_two (Le.refl _) (le_bool rfl),H⟩
  · exact H.elim
abbrev acI (x:D) (i:Nat):Int:=((x.get i).cell 0).toI
def flP (x:D) (pe:Int):Nat→Int
  | 0=>pe
  | i+1=>bif acI x i==1||acI x i==2 then 0 else flP x pe i
def flN (x:D) (ec tk ne:Int):Nat→Int
  | 0=>ne
  | i+1=>bif acI x i==1 then (bif decide (0<ec) then IntKind.wrap .i64 (tk+ec) else 0) else bif acI x i==2 then 0 else flN x ec tk ne i
def fndG (P:Program):List (FuncId×Spec):=[(165,pureS P 165 FFnd),(166,pureS P 166 FNmb)]
structure flwX where
  x:D
  (n mru mc mt mf wt ec lo st id rq:Int)
  d:D
  (ct tm nk mg pr mu pe ne tick:Int)
  (out did:D)
def flwL:Lw:=⟨[0,15,16,17],[],1,2,1000,1000⟩
def flwF (a:flwX) (i:Nat) (g7:Int) (g8:Int):Tm:=⟨95,[(0,.ptr 0 0),(15,.sl false acS a.x none),(16,zi a.n),(17,zi (i:Int))],[]⟩
def flwH (a:flwX) (i:Nat) (g7:Int) (g8:Int):Hp:=⟨[(0,[zi a.mru,zi a.mc,zi a.mt,zi a.mf,zi a.wt,zi a.ec,zi a.lo,zi a.st,zi a.id,zi a.rq,.sl false opS a.d none,zi a.ct,zi a.tm,zi a.nk,zi a.mg,zi a.pr,zi a.mu,zi g7,zi g8,zi a.tick,.sl false ctS a.out (some (0,1000)),.sl false acS a.did (some (1,1001))])],1,[(0,1000, 85),(1,1001, 160)],2,1002,1000⟩
def flwC:Cs:=⟨95,[(0,.lit (.ptr 0 0)),(15,.sl acS),(16,.int .i64),(17,.lit (.sc false (.int .i64 0)))],[(0,[.int .i64,.int .i64,.int .i64,.int .i64,.int .i64,.int .i64,.int .i64,.int .i64,.int .i64,.int .i64,.sl opS,.int .i64,.int .i64,.int .i64,.int .i64,.int .i64,.int .i64,.int .i64,.int .i64,.int .i64,.tp ctS 0 1000,.tp acS 1 1001])],1,[(0,1000, 85),(1,1001, 160)],2,1002,1000⟩
noncomputable def flwDec (F:Tm) (h:Hp):Option (flwX×Nat):=match cdS flwC F h with
  | some [v0,v1,v2,v3,v4,v5,v6,v7,v8,v9,v10,v11,v12,v13,v14,v15,v16,v17,v18,v19,v20,v21,v22,v23]=>some (⟨v0,v1.toI,v2.toI,v3.toI,v4.toI,v5.toI,v6.toI,v7.toI,v8.toI,v9.toI,v10.toI,v11.toI,v12,v13.toI,v14.toI,v15.toI,v16.toI,v17.toI,v18.toI,v19.toI,v20.toI,v21.toI,v22,v23⟩,0)
  | _=>none
theorem flw_body (x:D) (n:Int) (mru:Int) (mc:Int) (mt:Int) (mf:Int) (wt:Int) (ec:Int) (lo:Int) (st:Int) (id:Int) (rq:Int) (d:D) (ct:Int) (tm:Int) (nk:Int) (mg:Int) (pr:Int) (mu:Int) (tick:Int) (out:D) (did:D) (i:Int) (g7:Int) (g8:Int):roundT (⟨[0,15,16,17],[],1,2,1000,1000⟩) (evC Tryz.prog (gam (fndG Tryz.prog)) (lam ([])) 100 111 (loopAt 0 (bodyOf Tryz.prog 111)) (⟨95,[(0,.ptr 0 0),(15,.sl false acS x none),(16,zi n),(17,zi i)],[]⟩) (⟨[(0,[zi mru,zi mc,zi mt,zi mf,zi wt,zi ec,zi lo,zi st,zi id,zi rq,.sl false opS d none,zi ct,zi tm,zi nk,zi mg,zi pr,zi mu,zi g7,zi g8,zi tick,.sl false ctS out (some (0,1000)),.sl false acS did (some (1,1001))])],1,[(0,1000, 85),(1,1001, 160)],2,1002,1000⟩)) =
RT.br (decide (i<n)) (RT.br (decide (0≤i∧i<(↑(D.len x):Int))) (RT.br (D.toI (D.cell (D.get x (Int.toNat i)) 0)==1) (RT.br (decide (0<ec)) (RT.ok (Ex.normal,(Tm.mk 95 [(0,AV.ptr 0 0),(15,zs zN x),(16,zi n),(17,zi (IntKind.wrap IntKind.i64 (i+1)))] []),(Hp.mk [(0,[zi mru,zi mc,zi mt,zi mf,zi wt,zi ec,zi lo,zi st,zi id,zi rq,zs zO d,zi ct,zi tm,zi nk,zi mg,zi pr,zi mu,zi 0,zi (IntKind.wrap IntKind.i64 (tick+ec)),zi tick,AV.sl false zC out (some (0,1000)),AV.sl false zN did (some (1,1001))])] 1 [(0,1000, 85),(1,1001, 160)] 2 1002 1000))) (RT.ok (Ex.normal,(Tm.mk 95 [(0,AV.ptr 0 0),(15,zs zN x),(16,zi n),(17,zi (IntKind.wrap IntKind.i64 (i+1)))] []),(Hp.mk [(0,[zi mru,zi mc,zi mt,zi mf,zi wt,zi ec,zi lo,zi st,zi id,zi rq,zs zO d,zi ct,zi tm,zi nk,zi mg,zi pr,zi mu,zi 0,zi 0,zi tick,AV.sl false zC out (some (0,1000)),AV.sl false zN did (some (1,1001))])] 1 [(0,1000, 85),(1,1001, 160)] 2 1002 1000)))) (RT.br (D.toI (D.cell (D.get x (Int.toNat i)) 0)==2) (RT.ok (Ex.normal,(Tm.mk 95 [(0,AV.ptr 0 0),(15,zs zN x),(16,zi n),(17,zi (IntKind.wrap IntKind.i64 (i+1)))] []),(Hp.mk [(0,[zi mru,zi mc,zi mt,zi mf,zi wt,zi ec,zi lo,zi st,zi id,zi rq,zs zO d,zi ct,zi tm,zi nk,zi mg,zi pr,zi mu,zi 0,zi 0,zi tick,AV.sl false zC out (some (0,1000)),AV.sl false zN did (some (1,1001))])] 1 [(0,1000, 85),(1,1001, 160)] 2 1002 1000))) (RT.ok (Ex.normal,(Tm.mk 95 [(0,AV.ptr 0 0),(15,zs zN x),(16,zi n),(17,zi (IntKind.wrap IntKind.i64 (i+1)))] []),(Hp.mk [(0,[zi mru,zi mc,zi mt,zi mf,zi wt,zi ec,zi lo,zi st,zi id,zi rq,zs zO d,zi ct,zi tm,zi nk,zi mg,zi pr,zi mu,zi g7,zi g8,zi tick,AV.sl false zC out (some (0,1000)),AV.sl false zN did (some (1,1001))])] 1 [(0,1000, 85),(1,1001, 160)] 2 1002 1000))))) (RT.bad 42)) (RT.ok (Ex.exit 0,(Tm.mk 95 [(0,AV.ptr 0 0),(15,zs zN x),(16,zi n),(17,zi i)] []),(Hp.mk [(0,[zi mru,zi mc,zi mt,zi mf,zi wt,zi ec,zi lo,zi st,zi id,zi rq,zs zO d,zi ct,zi tm,zi nk,zi mg,zi pr,zi mu,zi g7,zi g8,zi tick,AV.sl false zC out (some (0,1000)),AV.sl false zN did (some (1,1001))])] 1 [(0,1000, 85),(1,1001, 160)] 2 1002 1000))):=by rw [← fvC_eq Tryz.prog (gam (fndG Tryz.prog)) (lam ([])) false 100]; kernel_rfl
def flwT:flwX×Nat→RT Out:=foldT (fun a=>a.x.len) (fun a=>decide (a.n=(a.x.len:Int))) (fun a i=>flwF a i (flP a.x a.pe i) (flN a.x a.ec a.tick a.ne i)) (fun a i=>flwH a i (flP a.x a.pe i) (flN a.x a.ec a.tick a.ne i))
def flwLs (P:Program):List (FuncId×Nat×BSpec):=[(111,0,loopS P flwL flwDec flwT)]
def mgV (d:D) (mg:Int):Int:=bif hasT d 5&&((fnD d 5).len==4&&nmI (fnD d 5) != 0) then nmI (fnD d 5) else mg
abbrev wkC (mru mc mt mf wt ec lo st id rq:Int) (d:D) (ct tm nk mg pr mu pe ne tick:Int) (out did:D) (g:Nat):List AV:=[ai mru,ai mc,ai mt,ai mf,ai wt,ai ec,ai lo,ai st,ai id,ai rq,asl opS d,ai ct,ai tm,ai nk,ai mg,ai pr,ai mu,ai pe,ai ne,ai tick,.sl false ctS out (some (0,g)),.sl false acS did (some (1,g+1))]
abbrev wkH (mru mc mt mf wt ec lo st id rq:Int) (d:D) (ct tm nk mg pr mu pe ne tick:Int) (out did:D) (g ep:Nat):Hp:=⟨[(0,wkC mru mc mt mf wt ec lo st id rq d ct tm nk mg pr mu pe ne tick out did g)],1,[(0,g, 85),(1,g+1, 160)],2,g+2,ep⟩
def wkCd (g ep:Nat):Cs:=⟨0,[],[(0,[.int .i64,.int .i64,.int .i64,.int .i64,.int .i64,.int .i64,.int .i64,.int .i64,.int .i64,.int .i64,.sl opS,.int .i64,.int .i64,.int .i64,.int .i64,.int .i64,.int .i64,.int .i64,.int .i64,.int .i64,.tp ctS 0 g,.tp acS 1 (g+1)])],1,[(0,g, 85),(1,g+1, 160)],2,g+2,ep⟩
structure WkV where
  (mru mc mt mf wt ec lo st id rq:Int)
  d:D
  (ct tm nk mg pr mu pe ne tick:Int)
  (out did:D)
abbrev wkW (w:WkV) (g ep:Nat):Hp:=wkH w.mru w.mc w.mt w.mf w.wt w.ec w.lo w.st w.id w.rq w.d w.ct w.tm w.nk w.mg w.pr w.mu w.pe w.ne w.tick w.out w.did g ep
def wkD (h:Hp):Option WkV:=match cdH (wkCd 0 0) h with
  | some [v0,v1,v2,v3,v4,v5,v6,v7,v8,v9,v10,v11,v12,v13,v14,v15,v16,v17,v18,v19,v20,v21]=>some ⟨v0.toI,v1.toI,v2.toI,v3.toI,v4.toI,v5.toI,v6.toI,v7.toI,v8.toI,v9.toI,v10,v11.toI,v12.toI,v13.toI,v14.toI,v15.toI,v16.toI,v17.toI,v18.toI,v19.toI,v20,v21⟩
  | _=>none
def flwN (w:WkV) (fr:Int):Bool:=decide (0≤fr∧fr≤w.did.len)&&optsB w.d
def flwW (w:WkV) (fr:Int):WkV:={ w with mg:=mgV w.d w.mg,pe:=flP (w.did.sub fr.toNat w.did.len) w.pe (w.did.sub fr.toNat w.did.len).len,ne:=flN (w.did.sub fr.toNat w.did.len) w.ec w.tick w.ne (w.did.sub fr.toNat w.did.len).len }
def frI:List AV→Option Int
  | [.ptr 0 0,.sc false (.int .i64 fr)]=>some fr
  | _=>none
def flwS:Spec:=fun args h=>match frI args,wkD h with
  | some fr,some w=>need false (flwN w fr) 299 (.ok (.tup [],wkW (flwW w fr) 1000 1000))
  | _,_=>.bad 299
theorem flwDec_0:∀ F h x,flwDec F h=some x→∃ a,x=(a,0)∧F=flwF a 0 a.pe a.ne∧h=flwH a 0 a.pe a.ne:=by
  intro F h x hx
  unfold flwDec at hx
  split at hx
  · rename_i hd
    cases hx
    obtain ⟨h1,h2⟩:=cdS_ok hd
    exact ⟨_,rfl,h1,h2⟩
  · cases hx
theorem fndG_ok:GamL Tryz.prog (fndG Tryz.prog):=⟨fnd_soundF,onm_soundF,trivial⟩
theorem flw_loop:LamE Tryz.prog 111 0 (loopS Tryz.prog flwL flwDec flwT):=by
  refine fold_loop (gs:=fndG Tryz.prog) (ls:=[]) mixed fndG_ok trivial _ 0 100 (by kernel_rfl) flwL (fun F h x hx=>by obtain ⟨a,rfl,h1,h2⟩:=flwDec_0 F h x hx; exact ⟨h1,h2⟩) ?_
  rintro ⟨x,n,mru,mc,mt,mf,wt,ec,lo,st,id,rq,d,ct,tm,nk,mg,pr,mu,pe,ne,tick,out,did⟩ i K hok hi H1 H2
  dsimp only at hok hi H1 H2
  have hm:=x.len_le
  obtain rfl:=odt hok
  have go:∀ x0 x1,i<x.len→flP x pe (i+1)=x0→flN x ec tick ne (i+1)=x1→K (.normal,flwF ⟨x,x.len,mru,mc,mt,mf,wt,ec,lo,st,id,rq,d,ct,tm,nk,mg,pr,mu,pe,ne,tick,out,did⟩ (i+1) x0 x1,flwH ⟨x,x.len,mru,mc,mt,mf,wt,ec,lo,st,id,rq,d,ct,tm,nk,mg,pr,mu,pe,ne,tick,out,did⟩ (i+1) x0 x1):=by
    intro x0 x1 hlt; rintro rfl rfl; exact H1 hlt
  show (roundT flwL (evC _ _ _ _ _ _ (flwF ⟨x,x.len,mru,mc,mt,mf,wt,ec,lo,st,id,rq,d,ct,tm,nk,mg,pr,mu,pe,ne,tick,out,did⟩ i (flP x pe i) (flN x ec tick ne i)) (flwH ⟨x,x.len,mru,mc,mt,mf,wt,ec,lo,st,id,rq,d,ct,tm,nk,mg,pr,mu,pe,ne,tick,out,did⟩ i (flP x pe i) (flN x ec tick ne i)))).holds _
  unfold flwL flwF flwH
  rw [flw_body]
  simp only [Int.toNat_natCast]
  refine ⟨fun h1=>?_,fun h1=>?_⟩
  rotate_left
  · obtain rfl:i=x.len:=by have:=odf h1; omega
    exact H2 rfl
  have hlt:i<x.len:=by have:=odt h1; omega
  rw [wrap_succ hlt hm]
  clear H1 H2
  have hI:decide (0≤(i:Int)∧(i:Int)<(x.len:Int))=true:=det ⟨by omega,by omega⟩
  rw [hI]
  have eP:flP x pe (i+1)=bif acI x i==1||acI x i==2 then 0 else flP x pe i:=rfl
  have eN:flN x ec tick ne (i+1)=bif acI x i==1 then (bif decide (0<ec) then IntKind.wrap .i64 (tick+ec) else 0) else bif acI x i==2 then 0 else flN x ec tick ne i:=rfl
  refine holds_t ⟨fun h3=>⟨fun h4=>?_,fun h4=>?_⟩,fun h3=>⟨fun h4=>?_,fun h4=>?_⟩⟩
  all_goals have h3:(acI x i==1)=_:=h3
  all_goals refine go _ _ hlt (eP.trans ?_) (eN.trans ?_)
  all_goals first
    | (rw [h3,h4]; rfl)
    | (rw [h3,show (acI x i==2)=_ from h4]; rfl)
    | (rw [h3]; rfl)
theorem flwLs_ok:LamL Tryz.prog (flwLs Tryz.prog):=⟨flw_loop,trivial⟩
theorem flw_tree (mru mc mt mf wt ec lo st id rq:Int) (d:D) (ct tm nk mg pr mu pe ne tick:Int) (out did:D) (fr:Int):treeQ 1 2 (evF Tryz.prog (gam (fndG Tryz.prog)) (lam (flwLs Tryz.prog)) 100 111) [.ptr 0 0,ai fr] (wkH mru mc mt mf wt ec lo st id rq d ct tm nk mg pr mu pe ne tick out did 0 0) =
RT.br (decide (0≤fr∧fr≤(↑(D.len did):Int)∧(↑(D.len did):Int)≤(↑(D.len did):Int)∧(↑(D.len did):Int)≤(↑(D.len did):Int))) (RT.br (decide ((↑(D.len (D.sub did (Int.toNat fr) (Int.toNat (↑(D.len did):Int)))):Int)=(↑(D.len (D.sub did (Int.toNat fr) (Int.toNat (↑(D.len did):Int)))):Int))&&true) (RT.br (hasT d 5) (RT.br ((↑(D.len (fnD d 5)):Int)==4) (RT.br (bytesB (fnD d 5)) (RT.br (nmOk (fnD d 5)) (RT.br (nmI (fnD d 5) != 0) (RT.ok (AV.tup [],(Hp.mk [(0,[zi mru,zi mc,zi mt,zi mf,zi wt,zi ec,zi lo,zi st,zi id,zi rq,zs zO d,zi ct,zi tm,zi nk,zi (nmI (fnD d 5)),zi pr,zi mu,zi (flP (D.sub did (Int.toNat fr) (Int.toNat (↑(D.len did):Int))) pe (D.len (D.sub did (Int.toNat fr) (Int.toNat (↑(D.len did):Int))))),zi (flN (D.sub did (Int.toNat fr) (Int.toNat (↑(D.len did):Int))) ec tick ne (D.len (D.sub did (Int.toNat fr) (Int.toNat (↑(D.len did):Int))))),zi tick,AV.sl false zC out (some (0,1000)),AV.sl false zN did (some (1,1001))])] 1 [(0,1000, 85),(1,1001, 160)] 2 1002 1000))) (RT.ok (AV.tup [],(Hp.mk [(0,[zi mru,zi mc,zi mt,zi mf,zi wt,zi ec,zi lo,zi st,zi id,zi rq,zs zO d,zi ct,zi tm,zi nk,zi mg,zi pr,zi mu,zi (flP (D.sub did (Int.toNat fr) (Int.toNat (↑(D.len did):Int))) pe (D.len (D.sub did (Int.toNat fr) (Int.toNat (↑(D.len did):Int))))),zi (flN (D.sub did (Int.toNat fr) (Int.toNat (↑(D.len did):Int))) ec tick ne (D.len (D.sub did (Int.toNat fr) (Int.toNat (↑(D.len did):Int))))),zi tick,AV.sl false zC out (some (0,1000)),AV.sl false zN did (some (1,1001))])] 1 [(0,1000, 85),(1,1001, 160)] 2 1002 1000)))) (RT.ok (AV.tup [],(Hp.mk [(0,[zi mru,zi mc,zi mt,zi mf,zi wt,zi ec,zi lo,zi st,zi id,zi rq,zs zO d,zi ct,zi tm,zi nk,zi mg,zi pr,zi mu,zi (flP (D.sub did (Int.toNat fr) (Int.toNat (↑(D.len did):Int))) pe (D.len (D.sub did (Int.toNat fr) (Int.toNat (↑(D.len did):Int))))),zi (flN (D.sub did (Int.toNat fr) (Int.toNat (↑(D.len did):Int))) ec tick ne (D.len (D.sub did (Int.toNat fr) (Int.toNat (↑(D.len did):Int))))),zi tick,AV.sl false zC out (some (0,1000)),AV.sl false zN did (some (1,1001))])] 1 [(0,1000, 85),(1,1001, 160)] 2 1002 1000)))) (RT.bad 297)) (RT.ok (AV.tup [],(Hp.mk [(0,[zi mru,zi mc,zi mt,zi mf,zi wt,zi ec,zi lo,zi st,zi id,zi rq,zs zO d,zi ct,zi tm,zi nk,zi mg,zi pr,zi mu,zi (flP (D.sub did (Int.toNat fr) (Int.toNat (↑(D.len did):Int))) pe (D.len (D.sub did (Int.toNat fr) (Int.toNat (↑(D.len did):Int))))),zi (flN (D.sub did (Int.toNat fr) (Int.toNat (↑(D.len did):Int))) ec tick ne (D.len (D.sub did (Int.toNat fr) (Int.toNat (↑(D.len did):Int))))),zi tick,AV.sl false zC out (some (0,1000)),AV.sl false zN did (some (1,1001))])] 1 [(0,1000, 85),(1,1001, 160)] 2 1002 1000)))) (RT.ok (AV.tup [],(Hp.mk [(0,[zi mru,zi mc,zi mt,zi mf,zi wt,zi ec,zi lo,zi st,zi id,zi rq,zs zO d,zi ct,zi tm,zi nk,zi mg,zi pr,zi mu,zi (flP (D.sub did (Int.toNat fr) (Int.toNat (↑(D.len did):Int))) pe (D.len (D.sub did (Int.toNat fr) (Int.toNat (↑(D.len did):Int))))),zi (flN (D.sub did (Int.toNat fr) (Int.toNat (↑(D.len did):Int))) ec tick ne (D.len (D.sub did (Int.toNat fr) (Int.toNat (↑(D.len did):Int))))),zi tick,AV.sl false zC out (some (0,1000)),AV.sl false zN did (some (1,1001))])] 1 [(0,1000, 85),(1,1001, 160)] 2 1002 1000)))) (RT.bad 210)) (RT.bad 37):=by kernel_rfl
theorem wkD_ok {h:Hp} {w:WkV} (hd:wkD h=some w):h=wkW w 0 0:=by
  unfold wkD at hd
  split at hd
  · rename_i h1
    cases hd
    exact (cdS_ok h1).2
  · cases hd
theorem frI_ok {args:List AV} {fr:Int} (h:frI args=some fr):args=[.ptr 0 0,ai fr]:=by
  unfold frI at h
  split at h
  · cases h; rfl
  · cases h
theorem fnD_by {d:D} {t:Int} (h:optsB d=true):bytesB (fnD d t)=true:=by
  unfold fnD
  cases hh:hasT d t
  · exact det fun i hi=>absurd hi (Nat.not_lt_zero i)
  · have hf:okFrom (neT d t) d.len 0=false:=by
      unfold hasT at hh
      rw [Bool.not_eq_true'] at hh; exact hh
    obtain ⟨_,h2,_⟩:=badFrom_at hf
    exact det (odt h _ (by omega))
theorem flw_soundF:SoundF Tryz.prog 111 flwS:=by
  refine obj_in2 (gs:=fndG Tryz.prog) (ls:=flwLs Tryz.prog) mixed fndG_ok flwLs_ok 111 100 1 2 fun args h K H=>?_
  unfold flwS at H
  split at H
  rotate_left
  · exact H.elim
  rename_i fr w h1 h2
  obtain ⟨hc,H⟩:=need_holds H
  rw [frI_ok h1,wkD_ok h2]
  refine ⟨rfl,?_⟩
  obtain ⟨mru,mc,mt,mf,wt,ec,lo,st,id,rq,d,ct,tm,nk,mg,pr,mu,pe,ne,tick,out,did⟩:=w
  unfold flwN at hc
  rw [Bool.and_eq_true] at hc
  obtain ⟨hc,hb⟩:=hc
  obtain ⟨f0,f1⟩:0≤fr∧fr≤(did.len:Int):=odt hc
  dsimp only at hb H
  unfold wkW
  dsimp only
  rw [flw_tree,fnD_by hb]
  simp only [Int.toNat_natCast]
  have M:∀ m,mgV d mg=m→K (.tup [],wkH mru mc mt mf wt ec lo st id rq d ct tm nk m pr mu (flP (did.sub fr.toNat did.len) pe (did.sub fr.toNat did.len).len) (flN (did.sub fr.toNat did.len) ec tick ne (did.sub fr.toNat did.len).len) tick out did 1000 1000):=by rintro m rfl; exact H
  refine holds_t_of (det ⟨f0,f1,by omega,by omega⟩) (holds_t_of (by simp) ⟨fun h1=>⟨fun h2=>holds_t ⟨fun h3=>⟨fun h4=>⟨_,Le.refl _,M _ ?_⟩,fun h4=>⟨_,Le.refl _,M _ ?_⟩⟩,fun h3=>⟨_,Le.refl _,M _ ?_⟩⟩,fun h2=>⟨_,Le.refl _,M _ ?_⟩⟩,fun h1=>⟨_,Le.refl _,M _ ?_⟩⟩)
  all_goals unfold mgV
  · have h2:(fnD d 5).len==4:=by have:=eq_of_beq h2; rw [beq_iff_eq]; omega
    rw [h1,h2,h4]; rfl
  · rw [h1,h4]; simp
  · have:=eq_of_beq h2
    have h3:nmOk (fnD d 5)=false:=h3
    unfold nmOk at h3
    have:=odf h3
    omega
  · have h2:((fnD d 5).len==4)=false:=by
      rw [beq_eq_false_iff_ne]
      intro e
      rw [e] at h2; cases h2
    rw [h1,h2]; rfl
  · rw [h1]; rfl
structure fo0X where
  x:D
  (tick st id rq:Int)
  d:D
  (ct tm nk mg pr mu pe ne:Int)
  (o w:D)
  (mru mc mt mf wt ec lo st0 id0 rq0:Int)
  d0:D
  (ct0 tm0 nk0:Int)
structure fo2X where
  (st id rq:Int)
  d:D
  (ct tm nk mg pr mu pe ne:Int)
  (o w:D)
  (mru mc mt mf wt ec lo st0 id0 rq0:Int)
  d0:D
  (ct0 tm0 nk0:Int)
structure fs0X where
  x:D
  (tick st id rq:Int)
  d:D
  (ct tm nk mg pr mu pe ne:Int)
  (o w:D)
  (mru mc mt mf wt ec lo st0 id0 rq0:Int)
  d0:D
  (ct0 tm0 nk0:Int)
structure fs2X where
  (st id rq:Int)
  d:D
  (ct tm nk mg pr mu pe ne:Int)
  (o w:D)
  (mru mc mt mf wt ec lo st0 id0 rq0:Int)
  d0:D
  (ct0 tm0 nk0:Int)
def brB (l:D) (t:Int):Bool:=hasT l t&&nmOk (fnD l t)
def brV (l:D) (t none:Int):Int:=bif brB l t then nmI (fnD l t) else none
structure rbrX where
  l:D
  t:Int
def FBrs:List AV→RT AV
  | [.sl false [.int .i64,.sl [.int .u8]] l none,.sc false (.int .i64 t),.sc false (.int .i64 n)]=>need false (optsB l) 302 (.ok (ai (brV l t n)))
  | _=>.bad 302
def neC (x:D) (i:Nat):Bool:=((x.get i).cell 0).toI != 2
def hasK (x:D):Bool:=!okFrom (neC x) x.len 0
structure ixkX where
  x:D
  n:Int
def ixkL:Lw:=⟨[0,1,4,7,8],[],0,0,1000,1000⟩
def ixkF (a:ixkX) (i:Nat):Tm:=⟨19,[(0,.sl false ctS a.x none),(1,.fn (.func 176) [] []),(4,zi 0),(7,zi a.n),(8,zi (i:Int))],[]⟩
def ixkH (a:ixkX) (i:Nat):Hp:=⟨[],0,[],0,1000,1000⟩
def ixkC:Cs:=⟨19,[(0,.sl ctS),(1,.lit (.fn (.func 176) [] [])),(4,.lit (.sc false (.int .i64 0))),(7,.int .i64),(8,.lit (.sc false (.int .i64 0)))],[],0,[],0,1000,1000⟩
noncomputable def ixkDec (F:Tm) (h:Hp):Option (ixkX×Nat):=match cdS ixkC F h with
  | some [v0,v1]=>some (⟨v0,v1.toI⟩,0)
  | _=>none
theorem ixk_body (x:D) (n:Int) (i:Int):roundT (⟨[0,1,4,7,8],[],0,0,1000,1000⟩) (evC Tryz.prog (gam (nonG Tryz.prog)) (lam ([])) 100 208 (loopAt 0 (bodyOf Tryz.prog 208)) (⟨19,[(0,.sl false ctS x none),(1,.fn (.func 176) [] []),(4,zi 0),(7,zi n),(8,zi i)],[]⟩) (⟨[],0,[],0,1000,1000⟩)) =
RT.br (decide (i<n)) (RT.br (decide (0≤i∧i<(↑(D.len x):Int))) (RT.br (D.toI (D.cell (D.get x (Int.toNat i)) 0)==2) (RT.ok (Ex.ret,(Tm.mk 19 [(0,zs zC x),(1,AV.fn (Fn.func 176) [] []),(4,zi i),(7,zi n),(8,zi i)] []),(Hp.mk [] 0 [] 0 1000 1000))) (RT.ok (Ex.normal,(Tm.mk 19 [(0,zs zC x),(1,AV.fn (Fn.func 176) [] []),(4,zi 0),(7,zi n),(8,zi (IntKind.wrap IntKind.i64 (i+1)))] []),(Hp.mk [] 0 [] 0 1000 1000)))) (RT.bad 42)) (RT.ok (Ex.exit 0,(Tm.mk 19 [(0,zs zC x),(1,AV.fn (Fn.func 176) [] []),(4,zi 0),(7,zi n),(8,zi i)] []),(Hp.mk [] 0 [] 0 1000 1000))):=by rw [← fvC_eq Tryz.prog (gam (nonG Tryz.prog)) (lam ([])) false 100]; kernel_rfl
def ixkR (a:ixkX) (i:Nat):Tm:=⟨19,[(0,asl ctS a.x),(1,.fn (.func 176) [] []),(4,ai i),(7,ai a.n),(8,ai i)],[]⟩
def ixkT:ixkX×Nat→RT Out:=searchT (fun a=>a.x.len) (fun a=>neC a.x) (fun a=>decide (a.n=(a.x.len:Int))) ixkF ixkR (fun a=>ixkH a 0) .ret
def ixkLs (P:Program):List (FuncId×Nat×BSpec):=[(208,0,loopS P ixkL ixkDec ixkT)]
def FCnk:List AV→RT AV
  | [.sl false [.int .i64,.int .i64,.sl [.int .u8]] x none,.fn (.func 176) [] []]=>.ok (ab (hasK x))
  | _=>.bad 303
structure cfgX where
  x:D
  (st id rq:Int)
  d:D
  (ct tm nk mg pr mu pe ne:Int)
  (o w:D)
  (mru mc mt mf wt ec lo ic ii:Int)
  ix:D
  (st0 id0 rq0:Int)
  d0:D
  (ct0 tm0 nk0:Int)
theorem ixkDec_0:∀ F h x,ixkDec F h=some x→∃ a,x=(a,0)∧F=ixkF a 0∧h=ixkH a 0:=by
  intro F h x hx
  unfold ixkDec at hx
  split at hx
  · rename_i hd
    cases hx
    obtain ⟨h1,h2⟩:=cdS_ok hd
    exact ⟨_,rfl,h1,h2⟩
  · cases hx
theorem ixkDec_ok:∀ F h x,ixkDec F h=some x→F=ixkF x.1 x.2∧h=ixkH x.1 x.2:=by
  intro F h x hx
  obtain ⟨a,rfl,h1,h2⟩:=ixkDec_0 F h x hx
  exact ⟨h1,h2⟩
theorem brs_tree (l:D) (t n:Int):treeF (evF Tryz.prog (gam (fndG Tryz.prog)) (lam ([])) 100 178) [asl opS l,ai t,ai n] =
RT.br (!hasT l t) (RT.ok (zi n)) (RT.br (bytesB (fnD l t)) (RT.br (!nmOk (fnD l t)) (RT.ok (zi n)) (RT.ok (zi (nmI (fnD l t))))) (RT.bad 297)):=by rw [← fvF_eq Tryz.prog (gam (fndG Tryz.prog)) (lam ([])) false 100 178]; kernel_rfl
theorem cnk_tree (x:D):treeF (evF Tryz.prog (gam (nonG Tryz.prog)) (lam (ixkLs Tryz.prog)) 100 175) [asl ctS x,.fn (.func 176) [] []] =
RT.br (decide ((↑(D.len x):Int)=(↑(D.len x):Int))&&true) (RT.br (okFrom (neC x) (D.len x - 0) 0) (RT.ok (AV.sc true (Value.bool false))) (RT.ok (zb true))) (RT.bad 210):=by rw [← fvF_eq Tryz.prog (gam (nonG Tryz.prog)) (lam (ixkLs Tryz.prog)) false 100 175]; kernel_rfl
theorem ixk_loop:LamE Tryz.prog 208 0 (loopS Tryz.prog ixkL ixkDec ixkT):=by
  refine search_loop (gs:=nonG Tryz.prog) (ls:=[]) mixed nonG_ok trivial _ 0 100 (by kernel_rfl) ixkL (by intro h; cases h) (by intro h; cases h) (fun F h x hx=>ixkDec_ok F h x hx) ?_
  rintro ⟨x,n⟩ i K hn hi H1 H2 H3
  obtain rfl:n=(x.len:Int):=odt hn
  dsimp only at hi H1 H2 H3
  have hm:=x.len_le
  show (roundT ixkL (evC _ _ _ _ _ _ (ixkF ⟨x,x.len⟩ i) (ixkH ⟨x,x.len⟩ 0))).holds _
  unfold ixkL ixkF ixkH
  rw [ixk_body]
  simp only [Int.toNat_natCast]
  refine ⟨fun h1=>?_,fun h1=>?_⟩
  rotate_left
  · obtain rfl:i=x.len:=by have:=odf h1; omega
    exact H3 rfl
  have hlt:i<x.len:=by have:=odt h1; omega
  have hI:decide (0≤(i:Int)∧(i:Int)<(x.len:Int))=true:=det ⟨by omega,by omega⟩
  rw [hI,wrap_succ hlt hm]
  refine holds_t ⟨fun h3=>H2 hlt ?_,fun h3=>H1 hlt ?_⟩
  · unfold neC; rw [bne_eq_false_iff_eq]; exact eq_of_beq h3
  · unfold neC; rw [bne,h3]; rfl
theorem ixkLs_ok:LamL Tryz.prog (ixkLs Tryz.prog):=⟨ixk_loop,trivial⟩
theorem brs_soundF:SoundF Tryz.prog 178 (pureS Tryz.prog 178 FBrs):=by
  refine pure_in (gs:=fndG Tryz.prog) (ls:=[]) mixed fndG_ok trivial 178 100 fun args K ho H=>?_
  unfold FBrs at H
  split at H
  · rename_i l t n
    obtain ⟨hc,H⟩:=need_holds H
    rw [brs_tree,fnD_by hc]
    have go:∀ m,brV l t n=m→∃ y,Le (ai m) y∧K y:=by rintro m rfl; exact ⟨_,Le.refl _,H⟩
    refine ⟨fun h=>go _ ?_,fun h=>holds_t ⟨fun h2=>go _ ?_,fun h2=>go _ ?_⟩⟩
    all_goals unfold brV brB
    · rw [Bool.not_eq_true'] at h; rw [h]; rfl
    · rw [Bool.not_eq_true'] at h2; rw [h2,Bool.and_false]; rfl
    · rw [Bool.not_eq_false'] at h h2; rw [h,h2]; rfl
  · exact H.elim
theorem cnk_soundF:SoundF Tryz.prog 175 (pureS Tryz.prog 175 FCnk):=by
  refine pure_in (gs:=nonG Tryz.prog) (ls:=ixkLs Tryz.prog) mixed nonG_ok ixkLs_ok 175 100 fun args K ho H=>?_
  unfold FCnk at H
  split at H
  · rename_i x
    rw [cnk_tree]
    refine holds_t_of (by rw [Bool.and_true]; exact det rfl) ⟨fun h=>⟨_,le_bool ?_,H⟩,fun h=>⟨_,le_bool ?_,H⟩⟩
    · unfold hasK; rw [show okFrom (neC x) x.len 0=true from h]; rfl
    · unfold hasK; rw [show okFrom (neC x) x.len 0=false from h]; rfl
  · exact H.elim
def rlA (m:Int):D:=rulD m (othP m)
def FAuA:List AV→RT AV
  | [.agg [.sc false (.int .i64 _),.sc false (.int .i64 b),.sc false (.int .i64 c),.sc false (.int .i64 d),.sc false (.int .i64 e),.sc false (.int .i64 _),.sc false (.int .i64 _)],.sc false (.int .i64 m)]=>.ok (.agg [asl rlS (rlA m),ai b,ai c,ai d,ai e])
  | _=>.bad 304
def evB (e:Int):Bool:=decide (1≤e∧e≤4)
def isEv (d:D):Bool:=match d.raw with | [.t [.ki 1],.t [.ki 2],.t [.ki 3],.t [.ki 4]]=>true | _=>false
def FEvt:List AV→RT AV
  | [.sl false [.int .i64] d none,.sc false (.int .i64 e)]=>bif isEv d then .ok (ab (evB e)) else .bad 305
  | _=>.bad 305
def lcpG (P:Program):List (FuncId×Spec):=[(48,pureS P 48 FLck),(104,pureS P 104 FOwn),(96,pureS P 96 FAuA),(164,pureS P 164 FDo),(111,objT flwS),(103,pureS P 103 FEvt)]
abbrev cnfA (mru mc mt mf wt ec lo:Int):AV:=.agg [ai mru,ai mc,ai mt,ai mf,ai wt,ai ec,ai lo]
def evR (w:WkV) (rl:D) (e ic ii:Int) (ix:D) (ac ax:Int) (ad:D):DoneV:=doW (rlM rl) (rlG rl) w.mc w.mt w.mf w.wt ⟨w.st,w.id,w.rq,w.d,w.ct,w.tm,w.nk⟩ e ic ii ix ac ax ad w.tick
def folW (w:WkV) (r:DoneV):WkV:={ w with st:=r.a.st,id:=r.a.id,rq:=r.a.rq,d:=r.a.d,ct:=r.a.ct,tm:=r.a.tm,nk:=r.a.nk,mg:=mgV r.a.d w.mg,pe:=flP r.did w.pe r.did.len,ne:=flN r.did w.ec w.tick w.ne r.did.len,out:=D.app w.out r.out,did:=D.app w.did r.did }
def evW (w:WkV) (rl:D) (e ic ii:Int) (ix:D) (ac ax:Int) (ad:D):WkV:=folW w (evR w rl e ic ii ix ac ax ad)
abbrev wkA (w:WkV):AV:=.tup [.agg [ai w.st,ai w.id,ai w.rq,asl opS w.d,ai w.ct,ai w.tm,ai w.nk,ai w.mg,ai w.pr,ai w.mu,ai w.pe,ai w.ne],asl ctS w.out,asl acS w.did]
theorem auA_soundF:SoundF Tryz.prog 96 (pureS Tryz.prog 96 FAuA):=by
  refine pure_in (gs:=[]) (ls:=[]) mixed trivial trivial 96 100 fun args K ho H=>?_
  unfold FAuA at H
  split at H
  · rename_i m
    rw [lau_tree]
    refine ⟨fun h1=>⟨_,le_agg (leL_cons (fun E v hv=>le_raw (kn:=true) (kn':=false) (d:=rulD _ _) rfl E v (le_rul ?_ E v hv)) fun _ _ h=>h),H⟩,fun h1=>⟨_,le_agg (leL_cons (fun E v hv=>le_raw (kn:=true) (kn':=false) (d:=rulD _ _) rfl E v (le_rul ?_ E v hv)) fun _ _ h=>h),H⟩⟩
    · have h1:othX m=0:=eq_of_beq (a:=othX m) (b:=0) h1
      unfold othP; rw [if_pos h1]; rfl
    · have h1:¬ othX m=0:=fun e=>by
        have h1':(othX m==0)=false:=h1
        rw [e] at h1'; cases h1'
      unfold othP; rw [if_neg h1]; rfl
  · exact H.elim
theorem acts_len {c:DoC} {did:D}:∀ (m i:Nat) (v:DoV),v.out.len+m≤8→(actsF c did m i v).out.len≤v.out.len+m
  | 0,_,_,_=>Nat.le_refl _
  | m+1,i,v,h=>by
    have h1:=actF_len (c:=c) (a:=((did.get i).cell 0).toI) (v:=v) (by omega)
    have h2:=acts_len (c:=c) (did:=did) m (i+1) (actF c ((did.get i).cell 0).toI v) (by omega)
    unfold actsF
    omega
theorem doW_fit {m g mc mt mf wt:Int} {a:AuV} {e ic ii:Int} {ix:D} {ac ax:Int} {ad:D} {tk:Int}:(doW m g mc mt mf wt a e ic ii ix ac ax ad tk).out.len≤3∧(doW m g mc mt mf wt a e ic ii ix ac ax ad tk).did.len≤3∧(doW m g mc mt mf wt a e ic ii ix ac ax ad tk).a.d=a.d:=by
  cases h:doB m g mc mt mf wt a e tk
  · rw [doW_off h]; exact ⟨Nat.zero_le _,Nat.zero_le _,rfl⟩
  · rw [doW_on h]
    have h3:=rfcD_len a.st e
    have h4:=acts_len (c:=doK m g mc mt mf wt a.st e a.d ic ii ix ac ax ad tk) (did:=rfcD a.st e) (rfcD a.st e).len 0 ⟨a.id,a.rq,a.ct,a.tm,a.nk,.l []⟩ (by show 0+_≤8; omega)
    refine ⟨?_,h3,rfl⟩
    have h4:(doR m g mc mt mf wt a e ic ii ix ac ax ad tk).out.len≤0+(rfcD a.st e).len:=h4
    show (doR m g mc mt mf wt a e ic ii ix ac ax ad tk).out.len≤3
    omega
def lisW (w:WkV):Bool:=lisB w.mru w.mc w.mt w.mf w.wt w.ec w.lo w.st w.id w.rq w.d w.ct w.tm w.nk w.mg w.pr w.mu w.pe w.ne
def onB (w:WkV):Bool:=lisW w&&(decide (0≤w.tick)&&decide (w.tick≤1099511627776))
def ldoW (w:WkV) (e:Int):WkV:=bif evB e&&onB w then evW w (rlA w.mg) e 0 0 (.l []) 0 0 (.l []) else w
def ldoCd:List Cd:=[.agg [.int .i64,.int .i64,.int .i64,.int .i64,.int .i64,.int .i64,.int .i64],.agg [.int .i64,.int .i64,.int .i64,.sl opS,.int .i64,.int .i64,.int .i64,.int .i64,.int .i64,.int .i64,.int .i64,.int .i64],.int .i64,.int .i64]
def FLdo (args:List AV):RT AV:=match cdAL ldoCd args with
  | some [v0,v1,v2,v3,v4,v5,v6,v7,v8,v9,v10,v11,v12,v13,v14,v15,v16,v17,v18,v19,v20]=>need false (optsB v10) 307 (.ok (wkA (ldoW ⟨v0.toI,v1.toI,v2.toI,v3.toI,v4.toI,v5.toI,v6.toI,v7.toI,v8.toI,v9.toI,v10,v11.toI,v12.toI,v13.toI,v14.toI,v15.toI,v16.toI,v17.toI,v18.toI,v20.toI,.l [],.l []⟩ v19.toI)))
  | _=>.bad 307
abbrev ldo_treeT_1 (st id rq ct tm nk mg pr mu pe ne:Int) (d:D):=RT.ok (AV.tup [AV.agg [zi st,zi id,zi rq,zs zO d,zi ct,zi tm,zi nk,zi mg,zi pr,zi mu,zi pe,zi ne],zz,zz])
def ldo_treeT (mru mc mt mf wt ec lo st id rq ct tm nk mg pr mu pe ne:Int) (d:D) (e tk:Int):RT AV :=
RT.br (!evB e) (ldo_treeT_1 st id rq ct tm nk mg pr mu pe ne d) (RT.br (errIf (lisB mru mc mt mf wt ec lo st id rq d ct tm nk mg pr mu pe ne) 170 != 0) (ldo_treeT_1 st id rq ct tm nk mg pr mu pe ne d) (RT.br (decide (0≤tk)) (RT.br (!decide (tk≤1099511627776)) (ldo_treeT_1 st id rq ct tm nk mg pr mu pe ne d) (RT.br true (RT.br (flwN (WkV.mk mru mc mt mf wt ec lo (AuV.st (DoneV.a (doW (rlM (rlA mg)) (rlG (rlA mg)) mc mt mf wt (AuV.mk st id rq d ct tm nk) e 0 0 (D.l []) 0 0 (D.l []) tk))) (AuV.id (DoneV.a (doW (rlM (rlA mg)) (rlG (rlA mg)) mc mt mf wt (AuV.mk st id rq d ct tm nk) e 0 0 (D.l []) 0 0 (D.l []) tk))) (AuV.rq (DoneV.a (doW (rlM (rlA mg)) (rlG (rlA mg)) mc mt mf wt (AuV.mk st id rq d ct tm nk) e 0 0 (D.l []) 0 0 (D.l []) tk))) (AuV.d (DoneV.a (doW (rlM (rlA mg)) (rlG (rlA mg)) mc mt mf wt (AuV.mk st id rq d ct tm nk) e 0 0 (D.l []) 0 0 (D.l []) tk))) (AuV.ct (DoneV.a (doW (rlM (rlA mg)) (rlG (rlA mg)) mc mt mf wt (AuV.mk st id rq d ct tm nk) e 0 0 (D.l []) 0 0 (D.l []) tk))) (AuV.tm (DoneV.a (doW (rlM (rlA mg)) (rlG (rlA mg)) mc mt mf wt (AuV.mk st id rq d ct tm nk) e 0 0 (D.l []) 0 0 (D.l []) tk))) (AuV.nk (DoneV.a (doW (rlM (rlA mg)) (rlG (rlA mg)) mc mt mf wt (AuV.mk st id rq d ct tm nk) e 0 0 (D.l []) 0 0 (D.l []) tk))) mg pr mu pe ne tk (D.app (D.l []) (DoneV.out (doW (rlM (rlA mg)) (rlG (rlA mg)) mc mt mf wt (AuV.mk st id rq d ct tm nk) e 0 0 (D.l []) 0 0 (D.l []) tk))) (D.app (D.l []) (DoneV.did (doW (rlM (rlA mg)) (rlG (rlA mg)) mc mt mf wt (AuV.mk st id rq d ct tm nk) e 0 0 (D.l []) 0 0 (D.l []) tk)))) 0) (RT.ok (AV.tup [AV.agg [zi (WkV.st (flwW (WkV.mk mru mc mt mf wt ec lo (AuV.st (DoneV.a (doW (rlM (rlA mg)) (rlG (rlA mg)) mc mt mf wt (AuV.mk st id rq d ct tm nk) e 0 0 (D.l []) 0 0 (D.l []) tk))) (AuV.id (DoneV.a (doW (rlM (rlA mg)) (rlG (rlA mg)) mc mt mf wt (AuV.mk st id rq d ct tm nk) e 0 0 (D.l []) 0 0 (D.l []) tk))) (AuV.rq (DoneV.a (doW (rlM (rlA mg)) (rlG (rlA mg)) mc mt mf wt (AuV.mk st id rq d ct tm nk) e 0 0 (D.l []) 0 0 (D.l []) tk))) (AuV.d (DoneV.a (doW (rlM (rlA mg)) (rlG (rlA mg)) mc mt mf wt (AuV.mk st id rq d ct tm nk) e 0 0 (D.l []) 0 0 (D.l []) tk))) (AuV.ct (DoneV.a (doW (rlM (rlA mg)) (rlG (rlA mg)) mc mt mf wt (AuV.mk st id rq d ct tm nk) e 0 0 (D.l []) 0 0 (D.l []) tk))) (AuV.tm (DoneV.a (doW (rlM (rlA mg)) (rlG (rlA mg)) mc mt mf wt (AuV.mk st id rq d ct tm nk) e 0 0 (D.l []) 0 0 (D.l []) tk))) (AuV.nk (DoneV.a (doW (rlM (rlA mg)) (rlG (rlA mg)) mc mt mf wt (AuV.mk st id rq d ct tm nk) e 0 0 (D.l []) 0 0 (D.l []) tk))) mg pr mu pe ne tk (D.app (D.l []) (DoneV.out (doW (rlM (rlA mg)) (rlG (rlA mg)) mc mt mf wt (AuV.mk st id rq d ct tm nk) e 0 0 (D.l []) 0 0 (D.l []) tk))) (D.app (D.l []) (DoneV.did (doW (rlM (rlA mg)) (rlG (rlA mg)) mc mt mf wt (AuV.mk st id rq d ct tm nk) e 0 0 (D.l []) 0 0 (D.l []) tk)))) 0)),zi (WkV.id (flwW (WkV.mk mru mc mt mf wt ec lo (AuV.st (DoneV.a (doW (rlM (rlA mg)) (rlG (rlA mg)) mc mt mf wt (AuV.mk st id rq d ct tm nk) e 0 0 (D.l []) 0 0 (D.l []) tk))) (AuV.id (DoneV.a (doW (rlM (rlA mg)) (rlG (rlA mg)) mc mt mf wt (AuV.mk st id rq d ct tm nk) e 0 0 (D.l []) 0 0 (D.l []) tk))) (AuV.rq (DoneV.a (doW (rlM (rlA mg)) (rlG (rlA mg)) mc mt mf wt (AuV.mk st id rq d ct tm nk) e 0 0 (D.l []) 0 0 (D.l []) tk))) (AuV.d (DoneV.a (doW (rlM (rlA mg)) (rlG (rlA mg)) mc mt mf wt (AuV.mk st id rq d ct tm nk) e 0 0 (D.l []) 0 0 (D.l []) tk))) (AuV.ct (DoneV.a (doW (rlM (rlA mg)) (rlG (rlA mg)) mc mt mf wt (AuV.mk st id rq d ct tm nk) e 0 0 (D.l []) 0 0 (D.l []) tk))) (AuV.tm (DoneV.a (doW (rlM (rlA mg)) (rlG (rlA mg)) mc mt mf wt (AuV.mk st id rq d ct tm nk) e 0 0 (D.l []) 0 0 (D.l []) tk))) (AuV.nk (DoneV.a (doW (rlM (rlA mg)) (rlG (rlA mg)) mc mt mf wt (AuV.mk st id rq d ct tm nk) e 0 0 (D.l []) 0 0 (D.l []) tk))) mg pr mu pe ne tk (D.app (D.l []) (DoneV.out (doW (rlM (rlA mg)) (rlG (rlA mg)) mc mt mf wt (AuV.mk st id rq d ct tm nk) e 0 0 (D.l []) 0 0 (D.l []) tk))) (D.app (D.l []) (DoneV.did (doW (rlM (rlA mg)) (rlG (rlA mg)) mc mt mf wt (AuV.mk st id rq d ct tm nk) e 0 0 (D.l []) 0 0 (D.l []) tk)))) 0)),zi (WkV.rq (flwW (WkV.mk mru mc mt mf wt ec lo (AuV.st (DoneV.a (doW (rlM (rlA mg)) (rlG (rlA mg)) mc mt mf wt (AuV.mk st id rq d ct tm nk) e 0 0 (D.l []) 0 0 (D.l []) tk))) (AuV.id (DoneV.a (doW (rlM (rlA mg)) (rlG (rlA mg)) mc mt mf wt (AuV.mk st id rq d ct tm nk) e 0 0 (D.l []) 0 0 (D.l []) tk))) (AuV.rq (DoneV.a (doW (rlM (rlA mg)) (rlG (rlA mg)) mc mt mf wt (AuV.mk st id rq d ct tm nk) e 0 0 (D.l []) 0 0 (D.l []) tk))) (AuV.d (DoneV.a (doW (rlM (rlA mg)) (rlG (rlA mg)) mc mt mf wt (AuV.mk st id rq d ct tm nk) e 0 0 (D.l []) 0 0 (D.l []) tk))) (AuV.ct (DoneV.a (doW (rlM (rlA mg)) (rlG (rlA mg)) mc mt mf wt (AuV.mk st id rq d ct tm nk) e 0 0 (D.l []) 0 0 (D.l []) tk))) (AuV.tm (DoneV.a (doW (rlM (rlA mg)) (rlG (rlA mg)) mc mt mf wt (AuV.mk st id rq d ct tm nk) e 0 0 (D.l []) 0 0 (D.l []) tk))) (AuV.nk (DoneV.a (doW (rlM (rlA mg)) (rlG (rlA mg)) mc mt mf wt (AuV.mk st id rq d ct tm nk) e 0 0 (D.l []) 0 0 (D.l []) tk))) mg pr mu pe ne tk (D.app (D.l []) (DoneV.out (doW (rlM (rlA mg)) (rlG (rlA mg)) mc mt mf wt (AuV.mk st id rq d ct tm nk) e 0 0 (D.l []) 0 0 (D.l []) tk))) (D.app (D.l []) (DoneV.did (doW (rlM (rlA mg)) (rlG (rlA mg)) mc mt mf wt (AuV.mk st id rq d ct tm nk) e 0 0 (D.l []) 0 0 (D.l []) tk)))) 0)),zs zO (WkV.d (flwW (WkV.mk mru mc mt mf wt ec lo (AuV.st (DoneV.a (doW (rlM (rlA mg)) (rlG (rlA mg)) mc mt mf wt (AuV.mk st id rq d ct tm nk) e 0 0 (D.l []) 0 0 (D.l []) tk))) (AuV.id (DoneV.a (doW (rlM (rlA mg)) (rlG (rlA mg)) mc mt mf wt (AuV.mk st id rq d ct tm nk) e 0 0 (D.l []) 0 0 (D.l []) tk))) (AuV.rq (DoneV.a (doW (rlM (rlA mg)) (rlG (rlA mg)) mc mt mf wt (AuV.mk st id rq d ct tm nk) e 0 0 (D.l []) 0 0 (D.l []) tk))) (AuV.d (DoneV.a (doW (rlM (rlA mg)) (rlG (rlA mg)) mc mt mf wt (AuV.mk st id rq d ct tm nk) e 0 0 (D.l []) 0 0 (D.l []) tk))) (AuV.ct (DoneV.a (doW (rlM (rlA mg)) (rlG (rlA mg)) mc mt mf wt (AuV.mk st id rq d ct tm nk) e 0 0 (D.l []) 0 0 (D.l []) tk))) (AuV.tm (DoneV.a (doW (rlM (rlA mg)) (rlG (rlA mg)) mc mt mf wt (AuV.mk st id rq d ct tm nk) e 0 0 (D.l []) 0 0 (D.l []) tk))) (AuV.nk (DoneV.a (doW (rlM (rlA mg)) (rlG (rlA mg)) mc mt mf wt (AuV.mk st id rq d ct tm nk) e 0 0 (D.l []) 0 0 (D.l []) tk))) mg pr mu pe ne tk (D.app (D.l []) (DoneV.out (doW (rlM (rlA mg)) (rlG (rlA mg)) mc mt mf wt (AuV.mk st id rq d ct tm nk) e 0 0 (D.l []) 0 0 (D.l []) tk))) (D.app (D.l []) (DoneV.did (doW (rlM (rlA mg)) (rlG (rlA mg)) mc mt mf wt (AuV.mk st id rq d ct tm nk) e 0 0 (D.l []) 0 0 (D.l []) tk)))) 0)),zi (WkV.ct (flwW (WkV.mk mru mc mt mf wt ec lo (AuV.st (DoneV.a (doW (rlM (rlA mg)) (rlG (rlA mg)) mc mt mf wt (AuV.mk st id rq d ct tm nk) e 0 0 (D.l []) 0 0 (D.l []) tk))) (AuV.id (DoneV.a (doW (rlM (rlA mg)) (rlG (rlA mg)) mc mt mf wt (AuV.mk st id rq d ct tm nk) e 0 0 (D.l []) 0 0 (D.l []) tk))) (AuV.rq (DoneV.a (doW (rlM (rlA mg)) (rlG (rlA mg)) mc mt mf wt (AuV.mk st id rq d ct tm nk) e 0 0 (D.l []) 0 0 (D.l []) tk))) (AuV.d (DoneV.a (doW (rlM (rlA mg)) (rlG (rlA mg)) mc mt mf wt (AuV.mk st id rq d ct tm nk) e 0 0 (D.l []) 0 0 (D.l []) tk))) (AuV.ct (DoneV.a (doW (rlM (rlA mg)) (rlG (rlA mg)) mc mt mf wt (AuV.mk st id rq d ct tm nk) e 0 0 (D.l []) 0 0 (D.l []) tk))) (AuV.tm (DoneV.a (doW (rlM (rlA mg)) (rlG (rlA mg)) mc mt mf wt (AuV.mk st id rq d ct tm nk) e 0 0 (D.l []) 0 0 (D.l []) tk))) (AuV.nk (DoneV.a (doW (rlM (rlA mg)) (rlG (rlA mg)) mc mt mf wt (AuV.mk st id rq d ct tm nk) e 0 0 (D.l []) 0 0 (D.l []) tk))) mg pr mu pe ne tk (D.app (D.l []) (DoneV.out (doW (rlM (rlA mg)) (rlG (rlA mg)) mc mt mf wt (AuV.mk st id rq d ct tm nk) e 0 0 (D.l []) 0 0 (D.l []) tk))) (D.app (D.l []) (DoneV.did (doW (rlM (rlA mg)) (rlG (rlA mg)) mc mt mf wt (AuV.mk st id rq d ct tm nk) e 0 0 (D.l []) 0 0 (D.l []) tk)))) 0)),zi (WkV.tm (flwW (WkV.mk mru mc mt mf wt ec lo (AuV.st (DoneV.a (doW (rlM (rlA mg)) (rlG (rlA mg)) mc mt mf wt (AuV.mk st id rq d ct tm nk) e 0 0 (D.l []) 0 0 (D.l []) tk))) (AuV.id (DoneV.a (doW (rlM (rlA mg)) (rlG (rlA mg)) mc mt mf wt (AuV.mk st id rq d ct tm nk) e 0 0 (D.l []) 0 0 (D.l []) tk))) (AuV.rq (DoneV.a (doW (rlM (rlA mg)) (rlG (rlA mg)) mc mt mf wt (AuV.mk st id rq d ct tm nk) e 0 0 (D.l []) 0 0 (D.l []) tk))) (AuV.d (DoneV.a (doW (rlM (rlA mg)) (rlG (rlA mg)) mc mt mf wt (AuV.mk st id rq d ct tm nk) e 0 0 (D.l []) 0 0 (D.l []) tk))) (AuV.ct (DoneV.a (doW (rlM (rlA mg)) (rlG (rlA mg)) mc mt mf wt (AuV.mk st id rq d ct tm nk) e 0 0 (D.l []) 0 0 (D.l []) tk))) (AuV.tm (DoneV.a (doW (rlM (rlA mg)) (rlG (rlA mg)) mc mt mf wt (AuV.mk st id rq d ct tm nk) e 0 0 (D.l []) 0 0 (D.l []) tk))) (AuV.nk (DoneV.a (doW (rlM (rlA mg)) (rlG (rlA mg)) mc mt mf wt (AuV.mk st id rq d ct tm nk) e 0 0 (D.l []) 0 0 (D.l []) tk))) mg pr mu pe ne tk (D.app (D.l []) (DoneV.out (doW (rlM (rlA mg)) (rlG (rlA mg)) mc mt mf wt (AuV.mk st id rq d ct tm nk) e 0 0 (D.l []) 0 0 (D.l []) tk))) (D.app (D.l []) (DoneV.did (doW (rlM (rlA mg)) (rlG (rlA mg)) mc mt mf wt (AuV.mk st id rq d ct tm nk) e 0 0 (D.l []) 0 0 (D.l []) tk)))) 0)),zi (WkV.nk (flwW (WkV.mk mru mc mt mf wt ec lo (AuV.st (DoneV.a (doW (rlM (rlA mg)) (rlG (rlA mg)) mc mt mf wt (AuV.mk st id rq d ct tm nk) e 0 0 (D.l []) 0 0 (D.l []) tk))) (AuV.id (DoneV.a (doW (rlM (rlA mg)) (rlG (rlA mg)) mc mt mf wt (AuV.mk st id rq d ct tm nk) e 0 0 (D.l []) 0 0 (D.l []) tk))) (AuV.rq (DoneV.a (doW (rlM (rlA mg)) (rlG (rlA mg)) mc mt mf wt (AuV.mk st id rq d ct tm nk) e 0 0 (D.l []) 0 0 (D.l []) tk))) (AuV.d (DoneV.a (doW (rlM (rlA mg)) (rlG (rlA mg)) mc mt mf wt (AuV.mk st id rq d ct tm nk) e 0 0 (D.l []) 0 0 (D.l []) tk))) (AuV.ct (DoneV.a (doW (rlM (rlA mg)) (rlG (rlA mg)) mc mt mf wt (AuV.mk st id rq d ct tm nk) e 0 0 (D.l []) 0 0 (D.l []) tk))) (AuV.tm (DoneV.a (doW (rlM (rlA mg)) (rlG (rlA mg)) mc mt mf wt (AuV.mk st id rq d ct tm nk) e 0 0 (D.l []) 0 0 (D.l []) tk))) (AuV.nk (DoneV.a (doW (rlM (rlA mg)) (rlG (rlA mg)) mc mt mf wt (AuV.mk st id rq d ct tm nk) e 0 0 (D.l []) 0 0 (D.l []) tk))) mg pr mu pe ne tk (D.app (D.l []) (DoneV.out (doW (rlM (rlA mg)) (rlG (rlA mg)) mc mt mf wt (AuV.mk st id rq d ct tm nk) e 0 0 (D.l []) 0 0 (D.l []) tk))) (D.app (D.l []) (DoneV.did (doW (rlM (rlA mg)) (rlG (rlA mg)) mc mt mf wt (AuV.mk st id rq d ct tm nk) e 0 0 (D.l []) 0 0 (D.l []) tk)))) 0)),zi (WkV.mg (flwW (WkV.mk mru mc mt mf wt ec lo (AuV.st (DoneV.a (doW (rlM (rlA mg)) (rlG (rlA mg)) mc mt mf wt (AuV.mk st id rq d ct tm nk) e 0 0 (D.l []) 0 0 (D.l []) tk))) (AuV.id (DoneV.a (doW (rlM (rlA mg)) (rlG (rlA mg)) mc mt mf wt (AuV.mk st id rq d ct tm nk) e 0 0 (D.l []) 0 0 (D.l []) tk))) (AuV.rq (DoneV.a (doW (rlM (rlA mg)) (rlG (rlA mg)) mc mt mf wt (AuV.mk st id rq d ct tm nk) e 0 0 (D.l []) 0 0 (D.l []) tk))) (AuV.d (DoneV.a (doW (rlM (rlA mg)) (rlG (rlA mg)) mc mt mf wt (AuV.mk st id rq d ct tm nk) e 0 0 (D.l []) 0 0 (D.l []) tk))) (AuV.ct (DoneV.a (doW (rlM (rlA mg)) (rlG (rlA mg)) mc mt mf wt (AuV.mk st id rq d ct tm nk) e 0 0 (D.l []) 0 0 (D.l []) tk))) (AuV.tm (DoneV.a (doW (rlM (rlA mg)) (rlG (rlA mg)) mc mt mf wt (AuV.mk st id rq d ct tm nk) e 0 0 (D.l []) 0 0 (D.l []) tk))) (AuV.nk (DoneV.a (doW (rlM (rlA mg)) (rlG (rlA mg)) mc mt mf wt (AuV.mk st id rq d ct tm nk) e 0 0 (D.l []) 0 0 (D.l []) tk))) mg pr mu pe ne tk (D.app (D.l []) (DoneV.out (doW (rlM (rlA mg)) (rlG (rlA mg)) mc mt mf wt (AuV.mk st id rq d ct tm nk) e 0 0 (D.l []) 0 0 (D.l []) tk))) (D.app (D.l []) (DoneV.did (doW (rlM (rlA mg)) (rlG (rlA mg)) mc mt mf wt (AuV.mk st id rq d ct tm nk) e 0 0 (D.l []) 0 0 (D.l []) tk)))) 0)),zi (WkV.pr (flwW (WkV.mk mru mc mt mf wt ec lo (AuV.st (DoneV.a (doW (rlM (rlA mg)) (rlG (rlA mg)) mc mt mf wt (AuV.mk st id rq d ct tm nk) e 0 0 (D.l []) 0 0 (D.l []) tk))) (AuV.id (DoneV.a (doW (rlM (rlA mg)) (rlG (rlA mg)) mc mt mf wt (AuV.mk st id rq d ct tm nk) e 0 0 (D.l []) 0 0 (D.l []) tk))) (AuV.rq (DoneV.a (doW (rlM (rlA mg)) (rlG (rlA mg)) mc mt mf wt (AuV.mk st id rq d ct tm nk) e 0 0 (D.l []) 0 0 (D.l []) tk))) (AuV.d (DoneV.a (doW (rlM (rlA mg)) (rlG (rlA mg)) mc mt mf wt (AuV.mk st id rq d ct tm nk) e 0 0 (D.l []) 0 0 (D.l []) tk))) (AuV.ct (DoneV.a (doW (rlM (rlA mg)) (rlG (rlA mg)) mc mt mf wt (AuV.mk st id rq d ct tm nk) e 0 0 (D.l []) 0 0 (D.l []) tk))) (AuV.tm (DoneV.a (doW (rlM (rlA mg)) (rlG (rlA mg)) mc mt mf wt (AuV.mk st id rq d ct tm nk) e 0 0 (D.l []) 0 0 (D.l []) tk))) (AuV.nk (DoneV.a (doW (rlM (rlA mg)) (rlG (rlA mg)) mc mt mf wt (AuV.mk st id rq d ct tm nk) e 0 0 (D.l []) 0 0 (D.l []) tk))) mg pr mu pe ne tk (D.app (D.l []) (DoneV.out (doW (rlM (rlA mg)) (rlG (rlA mg)) mc mt mf wt (AuV.mk st id rq d ct tm nk) e 0 0 (D.l []) 0 0 (D.l []) tk))) (D.app (D.l []) (DoneV.did (doW (rlM (rlA mg)) (rlG (rlA mg)) mc mt mf wt (AuV.mk st id rq d ct tm nk) e 0 0 (D.l []) 0 0 (D.l []) tk)))) 0)),zi (WkV.mu (flwW (WkV.mk mru mc mt mf wt ec lo (AuV.st (DoneV.a (doW (rlM (rlA mg)) (rlG (rlA mg)) mc mt mf wt (AuV.mk st id rq d ct tm nk) e 0 0 (D.l []) 0 0 (D.l []) tk))) (AuV.id (DoneV.a (doW (rlM (rlA mg)) (rlG (rlA mg)) mc mt mf wt (AuV.mk st id rq d ct tm nk) e 0 0 (D.l []) 0 0 (D.l []) tk))) (AuV.rq (DoneV.a (doW (rlM (rlA mg)) (rlG (rlA mg)) mc mt mf wt (AuV.mk st id rq d ct tm nk) e 0 0 (D.l []) 0 0 (D.l []) tk))) (AuV.d (DoneV.a (doW (rlM (rlA mg)) (rlG (rlA mg)) mc mt mf wt (AuV.mk st id rq d ct tm nk) e 0 0 (D.l []) 0 0 (D.l []) tk))) (AuV.ct (DoneV.a (doW (rlM (rlA mg)) (rlG (rlA mg)) mc mt mf wt (AuV.mk st id rq d ct tm nk) e 0 0 (D.l []) 0 0 (D.l []) tk))) (AuV.tm (DoneV.a (doW (rlM (rlA mg)) (rlG (rlA mg)) mc mt mf wt (AuV.mk st id rq d ct tm nk) e 0 0 (D.l []) 0 0 (D.l []) tk))) (AuV.nk (DoneV.a (doW (rlM (rlA mg)) (rlG (rlA mg)) mc mt mf wt (AuV.mk st id rq d ct tm nk) e 0 0 (D.l []) 0 0 (D.l []) tk))) mg pr mu pe ne tk (D.app (D.l []) (DoneV.out (doW (rlM (rlA mg)) (rlG (rlA mg)) mc mt mf wt (AuV.mk st id rq d ct tm nk) e 0 0 (D.l []) 0 0 (D.l []) tk))) (D.app (D.l []) (DoneV.did (doW (rlM (rlA mg)) (rlG (rlA mg)) mc mt mf wt (AuV.mk st id rq d ct tm nk) e 0 0 (D.l []) 0 0 (D.l []) tk)))) 0)),zi (WkV.pe (flwW (WkV.mk mru mc mt mf wt ec lo (AuV.st (DoneV.a (doW (rlM (rlA mg)) (rlG (rlA mg)) mc mt mf wt (AuV.mk st id rq d ct tm nk) e 0 0 (D.l []) 0 0 (D.l []) tk))) (AuV.id (DoneV.a (doW (rlM (rlA mg)) (rlG (rlA mg)) mc mt mf wt (AuV.mk st id rq d ct tm nk) e 0 0 (D.l []) 0 0 (D.l []) tk))) (AuV.rq (DoneV.a (doW (rlM (rlA mg)) (rlG (rlA mg)) mc mt mf wt (AuV.mk st id rq d ct tm nk) e 0 0 (D.l []) 0 0 (D.l []) tk))) (AuV.d (DoneV.a (doW (rlM (rlA mg)) (rlG (rlA mg)) mc mt mf wt (AuV.mk st id rq d ct tm nk) e 0 0 (D.l []) 0 0 (D.l []) tk))) (AuV.ct (DoneV.a (doW (rlM (rlA mg)) (rlG (rlA mg)) mc mt mf wt (AuV.mk st id rq d ct tm nk) e 0 0 (D.l []) 0 0 (D.l []) tk))) (AuV.tm (DoneV.a (doW (rlM (rlA mg)) (rlG (rlA mg)) mc mt mf wt (AuV.mk st id rq d ct tm nk) e 0 0 (D.l []) 0 0 (D.l []) tk))) (AuV.nk (DoneV.a (doW (rlM (rlA mg)) (rlG (rlA mg)) mc mt mf wt (AuV.mk st id rq d ct tm nk) e 0 0 (D.l []) 0 0 (D.l []) tk))) mg pr mu pe ne tk (D.app (D.l []) (DoneV.out (doW (rlM (rlA mg)) (rlG (rlA mg)) mc mt mf wt (AuV.mk st id rq d ct tm nk) e 0 0 (D.l []) 0 0 (D.l []) tk))) (D.app (D.l []) (DoneV.did (doW (rlM (rlA mg)) (rlG (rlA mg)) mc mt mf wt (AuV.mk st id rq d ct tm nk) e 0 0 (D.l []) 0 0 (D.l []) tk)))) 0)),zi (WkV.ne (flwW (WkV.mk mru mc mt mf wt ec lo (AuV.st (DoneV.a (doW (rlM (rlA mg)) (rlG (rlA mg)) mc mt mf wt (AuV.mk st id rq d ct tm nk) e 0 0 (D.l []) 0 0 (D.l []) tk))) (AuV.id (DoneV.a (doW (rlM (rlA mg)) (rlG (rlA mg)) mc mt mf wt (AuV.mk st id rq d ct tm nk) e 0 0 (D.l []) 0 0 (D.l []) tk))) (AuV.rq (DoneV.a (doW (rlM (rlA mg)) (rlG (rlA mg)) mc mt mf wt (AuV.mk st id rq d ct tm nk) e 0 0 (D.l []) 0 0 (D.l []) tk))) (AuV.d (DoneV.a (doW (rlM (rlA mg)) (rlG (rlA mg)) mc mt mf wt (AuV.mk st id rq d ct tm nk) e 0 0 (D.l []) 0 0 (D.l []) tk))) (AuV.ct (DoneV.a (doW (rlM (rlA mg)) (rlG (rlA mg)) mc mt mf wt (AuV.mk st id rq d ct tm nk) e 0 0 (D.l []) 0 0 (D.l []) tk))) (AuV.tm (DoneV.a (doW (rlM (rlA mg)) (rlG (rlA mg)) mc mt mf wt (AuV.mk st id rq d ct tm nk) e 0 0 (D.l []) 0 0 (D.l []) tk))) (AuV.nk (DoneV.a (doW (rlM (rlA mg)) (rlG (rlA mg)) mc mt mf wt (AuV.mk st id rq d ct tm nk) e 0 0 (D.l []) 0 0 (D.l []) tk))) mg pr mu pe ne tk (D.app (D.l []) (DoneV.out (doW (rlM (rlA mg)) (rlG (rlA mg)) mc mt mf wt (AuV.mk st id rq d ct tm nk) e 0 0 (D.l []) 0 0 (D.l []) tk))) (D.app (D.l []) (DoneV.did (doW (rlM (rlA mg)) (rlG (rlA mg)) mc mt mf wt (AuV.mk st id rq d ct tm nk) e 0 0 (D.l []) 0 0 (D.l []) tk)))) 0))],zs zC (WkV.out (flwW (WkV.mk mru mc mt mf wt ec lo (AuV.st (DoneV.a (doW (rlM (rlA mg)) (rlG (rlA mg)) mc mt mf wt (AuV.mk st id rq d ct tm nk) e 0 0 (D.l []) 0 0 (D.l []) tk))) (AuV.id (DoneV.a (doW (rlM (rlA mg)) (rlG (rlA mg)) mc mt mf wt (AuV.mk st id rq d ct tm nk) e 0 0 (D.l []) 0 0 (D.l []) tk))) (AuV.rq (DoneV.a (doW (rlM (rlA mg)) (rlG (rlA mg)) mc mt mf wt (AuV.mk st id rq d ct tm nk) e 0 0 (D.l []) 0 0 (D.l []) tk))) (AuV.d (DoneV.a (doW (rlM (rlA mg)) (rlG (rlA mg)) mc mt mf wt (AuV.mk st id rq d ct tm nk) e 0 0 (D.l []) 0 0 (D.l []) tk))) (AuV.ct (DoneV.a (doW (rlM (rlA mg)) (rlG (rlA mg)) mc mt mf wt (AuV.mk st id rq d ct tm nk) e 0 0 (D.l []) 0 0 (D.l []) tk))) (AuV.tm (DoneV.a (doW (rlM (rlA mg)) (rlG (rlA mg)) mc mt mf wt (AuV.mk st id rq d ct tm nk) e 0 0 (D.l []) 0 0 (D.l []) tk))) (AuV.nk (DoneV.a (doW (rlM (rlA mg)) (rlG (rlA mg)) mc mt mf wt (AuV.mk st id rq d ct tm nk) e 0 0 (D.l []) 0 0 (D.l []) tk))) mg pr mu pe ne tk (D.app (D.l []) (DoneV.out (doW (rlM (rlA mg)) (rlG (rlA mg)) mc mt mf wt (AuV.mk st id rq d ct tm nk) e 0 0 (D.l []) 0 0 (D.l []) tk))) (D.app (D.l []) (DoneV.did (doW (rlM (rlA mg)) (rlG (rlA mg)) mc mt mf wt (AuV.mk st id rq d ct tm nk) e 0 0 (D.l []) 0 0 (D.l []) tk)))) 0)),zs zN (WkV.did (flwW (WkV.mk mru mc mt mf wt ec lo (AuV.st (DoneV.a (doW (rlM (rlA mg)) (rlG (rlA mg)) mc mt mf wt (AuV.mk st id rq d ct tm nk) e 0 0 (D.l []) 0 0 (D.l []) tk))) (AuV.id (DoneV.a (doW (rlM (rlA mg)) (rlG (rlA mg)) mc mt mf wt (AuV.mk st id rq d ct tm nk) e 0 0 (D.l []) 0 0 (D.l []) tk))) (AuV.rq (DoneV.a (doW (rlM (rlA mg)) (rlG (rlA mg)) mc mt mf wt (AuV.mk st id rq d ct tm nk) e 0 0 (D.l []) 0 0 (D.l []) tk))) (AuV.d (DoneV.a (doW (rlM (rlA mg)) (rlG (rlA mg)) mc mt mf wt (AuV.mk st id rq d ct tm nk) e 0 0 (D.l []) 0 0 (D.l []) tk))) (AuV.ct (DoneV.a (doW (rlM (rlA mg)) (rlG (rlA mg)) mc mt mf wt (AuV.mk st id rq d ct tm nk) e 0 0 (D.l []) 0 0 (D.l []) tk))) (AuV.tm (DoneV.a (doW (rlM (rlA mg)) (rlG (rlA mg)) mc mt mf wt (AuV.mk st id rq d ct tm nk) e 0 0 (D.l []) 0 0 (D.l []) tk))) (AuV.nk (DoneV.a (doW (rlM (rlA mg)) (rlG (rlA mg)) mc mt mf wt (AuV.mk st id rq d ct tm nk) e 0 0 (D.l []) 0 0 (D.l []) tk))) mg pr mu pe ne tk (D.app (D.l []) (DoneV.out (doW (rlM (rlA mg)) (rlG (rlA mg)) mc mt mf wt (AuV.mk st id rq d ct tm nk) e 0 0 (D.l []) 0 0 (D.l []) tk))) (D.app (D.l []) (DoneV.did (doW (rlM (rlA mg)) (rlG (rlA mg)) mc mt mf wt (AuV.mk st id rq d ct tm nk) e 0 0 (D.l []) 0 0 (D.l []) tk)))) 0))])) (RT.bad 299)) (RT.bad 274))) (ldo_treeT_1 st id rq ct tm nk mg pr mu pe ne d)))
theorem ldo_tree (mru mc mt mf wt ec lo st id rq ct tm nk mg pr mu pe ne:Int) (d:D) (e tk:Int):treeF (evF Tryz.prog (gam (lcpG Tryz.prog)) (lam ([])) 100 55) [cnfA mru mc mt mf wt ec lo,lcpA st id rq d ct tm nk mg pr mu pe ne,ai e,ai tk]=ldo_treeT mru mc mt mf wt ec lo st id rq ct tm nk mg pr mu pe ne d e tk:=by rw [← fvF_eq Tryz.prog (gam (lcpG Tryz.prog)) (lam ([])) false 100 55]; kernel_rfl
theorem evt_tree (e:Int):treeF (evF Tryz.prog (gam ([])) (lam ([])) 100 103) [.sl true acS (.l [.t [.ki 1],.t [.ki 2],.t [.ki 3],.t [.ki 4]]) none,ai e] =
RT.br (e==1) (RT.ok (AV.sc true (Value.bool true))) (RT.br (e==2) (RT.ok (AV.sc true (Value.bool true))) (RT.br (e==3) (RT.ok (AV.sc true (Value.bool true))) (RT.br (e==4) (RT.ok (AV.sc true (Value.bool true))) (RT.ok (AV.sc true (Value.bool false)))))):=by rw [← fvF_eq Tryz.prog (gam ([])) (lam ([])) false 100 103]; kernel_rfl
theorem app_lenS {a b:D} (h:a.len+b.len≤maxLen):(D.app a b).len=a.len+b.len:=by
  have e:(D.app a b).toL=a.toL ++ b.toL:=toL_l (by rw [List.length_append]; exact h)
  unfold D.len
  rw [e,List.length_append]
theorem app_get_r {a b:D} (h:a.len+b.len≤maxLen) (i:Nat):(D.app a b).get (a.len+i)=b.get i:=by
  have e:(D.app a b).toL=a.toL ++ b.toL:=toL_l (by rw [List.length_append]; exact h)
  unfold D.get
  rw [e,List.getD_eq_getElem?_getD,List.getD_eq_getElem?_getD,List.getElem?_append_right (by unfold D.len; omega)]
  congr 2
  unfold D.len; omega
theorem flP_eq {x y:D} {pe:Int}:∀ n,(∀ i,i<n→acI x i=acI y i)→flP x pe n=flP y pe n
  | 0,_=>rfl
  | n+1,h=>by
    show (bif acI x n==1||acI x n==2 then 0 else flP x pe n)=(bif acI y n==1||acI y n==2 then 0 else flP y pe n)
    rw [h n (by omega),flP_eq n fun i hi=>h i (by omega)]
theorem flN_eq {x y:D} {ec tk ne:Int}:∀ n,(∀ i,i<n→acI x i=acI y i)→flN x ec tk ne n=flN y ec tk ne n
  | 0,_=>rfl
  | n+1,h=>by
    show (bif acI x n==1 then (bif decide (0<ec) then IntKind.wrap .i64 (tk+ec) else 0) else bif acI x n==2 then 0 else flN x ec tk ne n)=(bif acI y n==1 then (bif decide (0<ec) then IntKind.wrap .i64 (tk+ec) else 0) else bif acI y n==2 then 0 else flN y ec tk ne n)
    rw [h n (by omega),flN_eq n fun i hi=>h i (by omega)]
theorem fol_w (w:WkV) (r:DoneV) (h:w.did.len+r.did.len≤maxLen):flwW { w with st:=r.a.st,id:=r.a.id,rq:=r.a.rq,d:=r.a.d,ct:=r.a.ct,tm:=r.a.tm,nk:=r.a.nk,out:=D.app w.out r.out,did:=D.app w.did r.did } (w.did.len:Int)=folW w r:=by
  have hl:=app_lenS h
  have e1:((D.app w.did r.did).sub w.did.len (D.app w.did r.did).len).len=r.did.len:=by rw [sub_len (by omega) (Nat.le_refl _)]; omega
  have e2:∀ i,i<r.did.len→acI ((D.app w.did r.did).sub w.did.len (D.app w.did r.did).len) i=acI r.did i:=fun i hi=>by
    unfold acI
    rw [sub_get (by omega),app_get_r h]
  unfold flwW folW
  simp only [Int.toNat_natCast]
  rw [e1,flP_eq _ e2,flN_eq _ e2]
theorem isEv_le {d:D} (h:isEv d=true) {kn kn':Bool}:Le (.sl kn acS d none) (.sl kn' acS (.l [.t [.ki 1],.t [.ki 2],.t [.ki 3],.t [.ki 4]]) none):=by
  unfold isEv at h
  split at h
  · rename_i hd
    exact le_raw hd
  · cases h
theorem evt_soundF:SoundF Tryz.prog 103 (pureS Tryz.prog 103 FEvt):=by
  refine pure_by (gs:=[]) (ls:=[]) mixed trivial trivial 103 100 fun args K ho H=>?_
  unfold FEvt at H
  split at H
  · rename_i d e
    cases hd:isEv d
    · rw [hd] at H; exact H.elim
    rw [hd] at H
    refine ⟨_,leL_cons (isEv_le (kn':=true) hd) fun _ _ h=>h,?_⟩
    rw [evt_tree]
    have go:∀ b,evB e=b→∃ y,Le (ab b) y∧K y:=by rintro b rfl; exact ⟨_,Le.refl _,H⟩
    have go':∀ b,evB e=b→∃ y,Le (.sc true (.bool b)) y∧K y:=fun b h=>by
      obtain ⟨y,h1,h2⟩:=go b h
      exact ⟨y,fun E v hv=>h1 E v (le_bool rfl E v hv),h2⟩
    refine ⟨fun h1=>go' _ ?_,fun h1=>⟨fun h2=>go' _ ?_,fun h2=>⟨fun h3=>go' _ ?_,fun h3=>⟨fun h4=>go' _ ?_,fun h4=>go' _ ?_⟩⟩⟩⟩
    all_goals unfold evB
    all_goals simp only [beq_iff_eq,beq_eq_false_iff_ne] at *
    all_goals first | (rw [decide_eq_true_eq]; omega) | (rw [decide_eq_false_iff_not]; omega)
  · exact H.elim
theorem lcpG_ok:GamL Tryz.prog (lcpG Tryz.prog):=⟨lcheck_soundF,own_soundF,auA_soundF,do_soundF,objT_ok flw_soundF,evt_soundF,trivial⟩
theorem FLdo_inv {args:List AV} {K:AV→Prop} (H:(FLdo args).holds K):∃ (mru mc mt mf wt ec lo st id rq ct tm nk mg pr mu pe ne:Int) (d:D) (e tk:Int),args=[cnfA mru mc mt mf wt ec lo,lcpA st id rq d ct tm nk mg pr mu pe ne,ai e,ai tk]∧optsB d=true∧K (wkA (ldoW ⟨mru,mc,mt,mf,wt,ec,lo,st,id,rq,d,ct,tm,nk,mg,pr,mu,pe,ne,tk,.l [],.l []⟩ e)):=by
  unfold FLdo at H
  split at H
  · rename_i v0 v1 v2 v3 v4 v5 v6 v7 v8 v9 v10 v11 v12 v13 v14 v15 v16 v17 v18 v19 v20 hd
    obtain ⟨hc,H⟩:=need_holds H
    have:=cdAL_ok _ _ _ hd []
    exact ⟨v0.toI,v1.toI,v2.toI,v3.toI,v4.toI,v5.toI,v6.toI,v7.toI,v8.toI,v9.toI,v11.toI,v12.toI,v13.toI,v14.toI,v15.toI,v16.toI,v17.toI,v18.toI,v10,v19.toI,v20.toI,(congrArg Prod.fst this).symm,hc,H⟩
  · exact H.elim
theorem ldo_soundF:SoundF Tryz.prog 55 (pureS Tryz.prog 55 FLdo):=by
  refine pure_in (gs:=lcpG Tryz.prog) (ls:=[]) mixed lcpG_ok trivial 55 100 fun args K ho H=>?_
  obtain ⟨mru,mc,mt,mf,wt,ec,lo,st,id,rq,ct,tm,nk,mg,pr,mu,pe,ne,d,e,tk,hr,hb,H⟩:=FLdo_inv H
  rw [hr,ldo_tree]
  unfold ldo_treeT ldo_treeT_1
  have A:∀ b v,(evB e&&onB ⟨mru,mc,mt,mf,wt,ec,lo,st,id,rq,d,ct,tm,nk,mg,pr,mu,pe,ne,tk,.l [],.l []⟩)=b→(bif b then evW ⟨mru,mc,mt,mf,wt,ec,lo,st,id,rq,d,ct,tm,nk,mg,pr,mu,pe,ne,tk,.l [],.l []⟩ (rlA mg) e 0 0 (.l []) 0 0 (.l []) else ⟨mru,mc,mt,mf,wt,ec,lo,st,id,rq,d,ct,tm,nk,mg,pr,mu,pe,ne,tk,.l [],.l []⟩)=v→K (wkA v):=by
    rintro b v rfl rfl; exact H
  clear H
  unfold evW evR onB lisW at A
  dsimp only at A
  obtain ⟨f1,f2,f3⟩:=doW_fit (m:=rlM (rlA mg)) (g:=rlG (rlA mg)) (mc:=mc) (mt:=mt) (mf:=mf) (wt:=wt) (a:=⟨st,id,rq,d,ct,tm,nk⟩) (e:=e) (ic:=0) (ii:=0) (ix:=.l []) (ac:=0) (ax:=0) (ad:=.l []) (tk:=tk)
  rw [errIf_nz (by decide)]
  generalize doW (rlM (rlA mg)) (rlG (rlA mg)) mc mt mf wt ⟨st,id,rq,d,ct,tm,nk⟩ e 0 0 (.l []) 0 0 (.l []) tk=r at A f1 f2 f3 ⊢
  have f3:r.a.d=d:=f3
  have off:(evB e&&(lisB mru mc mt mf wt ec lo st id rq d ct tm nk mg pr mu pe ne&&(decide (0≤tk)&&decide (tk≤1099511627776))))=false→∃ y,Le (.tup [.agg [ai st,ai id,ai rq,asl opS d,ai ct,ai tm,ai nk,ai mg,ai pr,ai mu,ai pe,ai ne],.sc true (.slice none 0 0),.sc true (.slice none 0 0)]) y∧K y:=fun h =>
    ⟨_,le_two' (Le.refl _) (le_nil rfl) (le_nil rfl),A _ _ h rfl⟩
  refine ⟨fun h1=>off ?_,fun h1=>⟨fun h2=>off ?_,fun h2=>⟨fun h3=>⟨fun h4=>off ?_,fun h4=>holds_t (holds_t_of ?_ ⟨_,Le.refl _,A true _ ?_ (fol_w ⟨mru,mc,mt,mf,wt,ec,lo,st,id,rq,d,ct,tm,nk,mg,pr,mu,pe,ne,tk,.l [],.l []⟩ r ?_).symm⟩)⟩,fun h3=>off ?_⟩⟩⟩
  all_goals simp only [Bool.not_eq_true',Bool.not_eq_false'] at *
  · rw [h1]; rfl
  · rw [h2,Bool.false_and,Bool.and_false]
  · rw [h4,Bool.and_false,Bool.and_false,Bool.and_false]
  · unfold flwN
    dsimp only
    rw [f3,hb,Bool.and_true]
    exact det ⟨Int.le_refl _,Int.natCast_nonneg _⟩
  · rw [h1,h2,h3,h4]; rfl
  · show 0+r.did.len≤maxLen
    unfold maxLen; omega
  · rw [h3,Bool.false_and,Bool.and_false,Bool.and_false]
abbrev nlH (mru mc mt mf wt ec lo st id rq ct tm nk mg pr mu pe ne tick:Int) (d:D):Hp:=⟨[(0,[ai mru,ai mc,ai mt,ai mf,ai wt,ai ec,ai lo,ai st,ai id,ai rq,asl opS d,ai ct,ai tm,ai nk,ai mg,ai pr,ai mu,ai pe,ai ne,ai tick,.sc false (.slice none 0 0),.sc false (.slice none 0 0)])],1,[],0,0,0⟩
abbrev dnH (mru mc mt mf wt ec lo st id rq ct tm nk mg pr mu pe ne tick:Int) (d out did:D):Hp:=⟨[(0,[ai mru,ai mc,ai mt,ai mf,ai wt,ai ec,ai lo,ai st,ai id,ai rq,asl opS d,ai ct,ai tm,ai nk,ai mg,ai pr,ai mu,ai pe,ai ne,ai tick,asl ctS out,asl acS did])],1,[],0,1000,1000⟩
def nlCd:Cs:=⟨0,[],[(0,[.int .i64,.int .i64,.int .i64,.int .i64,.int .i64,.int .i64,.int .i64,.int .i64,.int .i64,.int .i64,.sl opS,.int .i64,.int .i64,.int .i64,.int .i64,.int .i64,.int .i64,.int .i64,.int .i64,.int .i64,.lit (.sc false (.slice none 0 0)),.lit (.sc false (.slice none 0 0))])],1,[],0,0,0⟩
def nlD (h:Hp):Option WkV:=match cdH nlCd h with
  | some [v0,v1,v2,v3,v4,v5,v6,v7,v8,v9,v10,v11,v12,v13,v14,v15,v16,v17,v18,v19]=>some ⟨v0.toI,v1.toI,v2.toI,v3.toI,v4.toI,v5.toI,v6.toI,v7.toI,v8.toI,v9.toI,v10,v11.toI,v12.toI,v13.toI,v14.toI,v15.toI,v16.toI,v17.toI,v18.toI,v19.toI,.l [],.l []⟩
  | _=>none
theorem nlD_ok {h:Hp} {w:WkV} (hd:nlD h=some w):h=nlH w.mru w.mc w.mt w.mf w.wt w.ec w.lo w.st w.id w.rq w.ct w.tm w.nk w.mg w.pr w.mu w.pe w.ne w.tick w.d∧w.out=.l []∧w.did=.l []:=by
  unfold nlD at hd
  split at hd
  · rename_i h1
    cases hd
    exact ⟨(cdS_ok h1).2,rfl,rfl⟩
  · cases hd
def dnW (w:WkV):Hp:=dnH w.mru w.mc w.mt w.mf w.wt w.ec w.lo w.st w.id w.rq w.ct w.tm w.nk w.mg w.pr w.mu w.pe w.ne w.tick w.d w.out w.did
def cnfG (P:Program):List (FuncId×Spec):=[(96,pureS P 96 FAuA),(134,pureS P 134 FPkt),(111,objT flwS),(177,pureS P 177 FDec),(178,pureS P 178 FBrs),(175,pureS P 175 FCnk)]
theorem cnf_tree (mru mc mt mf wt ec lo st id rq ct tm nk mg pr mu pe ne tick:Int) (d:D) (ic ii:Int) (ix:D):treeQ 1 0 (evF Tryz.prog (gam (cnfG Tryz.prog)) (lam []) 100 129) [.ptr 0 0,ctlA ic ii ix] (nlH mru mc mt mf wt ec lo st id rq ct tm nk mg pr mu pe ne tick d) =
let w_0:=pkW (rlA mg) mc mt mf wt (AuV.mk st id rq d ct tm nk) ic ii ix tick; let w_1:=flwW (WkV.mk mru mc mt mf wt ec lo w_0.a.st w_0.a.id w_0.a.rq w_0.a.d w_0.a.ct w_0.a.tm w_0.a.nk mg pr mu pe ne tick (D.app (D.l []) w_0.out) (D.app (D.l []) w_0.did)) 0; RT.all (RT.all (RT.br (pkN (rlA mg) d ix) (RT.br (flwN (WkV.mk mru mc mt mf wt ec lo w_0.a.st w_0.a.id w_0.a.rq w_0.a.d w_0.a.ct w_0.a.tm w_0.a.nk mg pr mu pe ne tick (D.app (D.l []) w_0.out) (D.app (D.l []) w_0.did)) 0) (RT.br (decide ((0:Int)≤0∧0≤(↑(D.len w_1.out):Int)∧(↑(D.len w_1.out):Int)≤(↑(D.len w_1.out):Int)∧(↑(D.len w_1.out):Int)≤(↑(D.len w_1.out):Int))) (RT.br (!hasK (D.sub w_1.out 0 (Int.toNat (↑(D.len w_1.out):Int)))) (RT.ok (AV.tup [],(Hp.mk [(0,[zi w_1.mru,zi w_1.mc,zi w_1.mt,zi w_1.mf,zi w_1.wt,zi w_1.ec,zi w_1.lo,zi w_1.st,zi w_1.id,zi w_1.rq,zs zO w_1.d,zi w_1.ct,zi w_1.tm,zi w_1.nk,zi w_1.mg,zi w_1.pr,zi w_1.mu,zi w_1.pe,zi w_1.ne,zi w_1.tick,zs zC w_1.out,zs zN w_1.did])] 1 [] 0 1000 1000))) (RT.br (bytesB ix) (RT.br (optsB (decO ix)) (RT.br (optsB (decO ix)) (RT.ok (AV.tup [],(Hp.mk [(0,[zi w_1.mru,zi w_1.mc,zi w_1.mt,zi w_1.mf,zi w_1.wt,zi w_1.ec,zi w_1.lo,zi w_1.st,zi w_1.id,zi w_1.rq,zs zO w_1.d,zi w_1.ct,zi w_1.tm,zi w_1.nk,zi w_1.mg,zi (brV (decO ix) 5 0),zi (brV (decO ix) 1 1492),zi w_1.pe,zi w_1.ne,zi w_1.tick,zs zC w_1.out,zs zN w_1.did])] 1 [] 0 1000 1000))) (RT.bad 302)) (RT.bad 302)) (RT.bad 251))) (RT.bad 37)) (RT.bad 299)) (RT.bad 294)) (RT.br (pkN (rlA mg) d ix) (RT.br (flwN (WkV.mk mru mc mt mf wt ec lo w_0.a.st w_0.a.id w_0.a.rq w_0.a.d w_0.a.ct w_0.a.tm w_0.a.nk mg pr mu pe ne tick (D.app (D.l []) w_0.out) (D.app (D.l []) w_0.did)) 0) (RT.br (decide ((0:Int)≤0∧0≤(↑(D.len w_1.out):Int)∧(↑(D.len w_1.out):Int)≤(↑(D.len w_1.out):Int)∧(↑(D.len w_1.out):Int)≤(↑(D.len w_1.out):Int))) (RT.br (!hasK (D.sub w_1.out 0 (Int.toNat (↑(D.len w_1.out):Int)))) (RT.ok (AV.tup [],(Hp.mk [(0,[zi w_1.mru,zi w_1.mc,zi w_1.mt,zi w_1.mf,zi w_1.wt,zi w_1.ec,zi w_1.lo,zi w_1.st,zi w_1.id,zi w_1.rq,zs zO w_1.d,zi w_1.ct,zi w_1.tm,zi w_1.nk,zi w_1.mg,zi w_1.pr,zi w_1.mu,zi w_1.pe,zi w_1.ne,zi w_1.tick,zs zC w_1.out,zs zN w_1.did])] 1 [] 0 1000 1000))) (RT.br (bytesB ix) (RT.br (optsB (decO ix)) (RT.br (optsB (decO ix)) (RT.ok (AV.tup [],(Hp.mk [(0,[zi w_1.mru,zi w_1.mc,zi w_1.mt,zi w_1.mf,zi w_1.wt,zi w_1.ec,zi w_1.lo,zi w_1.st,zi w_1.id,zi w_1.rq,zs zO w_1.d,zi w_1.ct,zi w_1.tm,zi w_1.nk,zi w_1.mg,zi (brV (decO ix) 5 0),zi (brV (decO ix) 1 1492),zi w_1.pe,zi w_1.ne,zi w_1.tick,zs zC w_1.out,zs zN w_1.did])] 1 [] 0 1000 1000))) (RT.bad 302)) (RT.bad 302)) (RT.bad 251))) (RT.bad 37)) (RT.bad 299)) (RT.bad 294))) (RT.br (pkN (rlA mg) d ix) (RT.br (flwN (WkV.mk mru mc mt mf wt ec lo w_0.a.st w_0.a.id w_0.a.rq w_0.a.d w_0.a.ct w_0.a.tm w_0.a.nk mg pr mu pe ne tick (D.app (D.l []) w_0.out) (D.app (D.l []) w_0.did)) 0) (RT.br (decide ((0:Int)≤0∧0≤(↑(D.len w_1.out):Int)∧(↑(D.len w_1.out):Int)≤(↑(D.len w_1.out):Int)∧(↑(D.len w_1.out):Int)≤(↑(D.len w_1.out):Int))) (RT.br (!hasK (D.sub w_1.out 0 (Int.toNat (↑(D.len w_1.out):Int)))) (RT.ok (AV.tup [],(Hp.mk [(0,[zi w_1.mru,zi w_1.mc,zi w_1.mt,zi w_1.mf,zi w_1.wt,zi w_1.ec,zi w_1.lo,zi w_1.st,zi w_1.id,zi w_1.rq,zs zO w_1.d,zi w_1.ct,zi w_1.tm,zi w_1.nk,zi w_1.mg,zi w_1.pr,zi w_1.mu,zi w_1.pe,zi w_1.ne,zi w_1.tick,zs zC w_1.out,zs zN w_1.did])] 1 [] 0 1000 1000))) (RT.br (bytesB ix) (RT.br (optsB (decO ix)) (RT.br (optsB (decO ix)) (RT.ok (AV.tup [],(Hp.mk [(0,[zi w_1.mru,zi w_1.mc,zi w_1.mt,zi w_1.mf,zi w_1.wt,zi w_1.ec,zi w_1.lo,zi w_1.st,zi w_1.id,zi w_1.rq,zs zO w_1.d,zi w_1.ct,zi w_1.tm,zi w_1.nk,zi w_1.mg,zi (brV (decO ix) 5 0),zi (brV (decO ix) 1 1492),zi w_1.pe,zi w_1.ne,zi w_1.tick,zs zC w_1.out,zs zN w_1.did])] 1 [] 0 1000 1000))) (RT.bad 302)) (RT.bad 302)) (RT.bad 251))) (RT.bad 37)) (RT.bad 299)) (RT.bad 294)):=by kernel_rfl
theorem cnfG_ok:GamL Tryz.prog (cnfG Tryz.prog):=⟨auA_soundF,pkt_soundF,objT_ok flw_soundF,dec_soundF,brs_soundF,cnk_soundF,trivial⟩
theorem optsB_of {d:D} (h:∀ i,i<d.len→bytesB (optB d i)=true):optsB d=true:=det fun i hi=>odt (h i hi)
theorem optsB_at {d:D} (h:optsB d=true) {i:Nat} (hi:i<d.len):bytesB (optB d i)=true:=det (odt h i hi)
theorem len_max (d:D):d.len≤maxLen:=by unfold D.len D.toL; exact List.length_take_le _ _
theorem nkD_opts {d l:D} (h:optsB d=true) (hl:optsB l=true):optsB (nkD d l)=true:=by
  refine optsB_of fun i hi=>?_
  unfold nkD at hi ⊢
  rw [tabD_len (len_max d)] at hi
  show bytesB (((tabD (nkV d l) d.len).get i).cell 1)=true
  rw [tabD_get (len_max d) hi]
  show bytesB (bif decide (0≤plaI l (optT d i)) then optB l (plaI l (optT d i)).toNat else optB d i)=true
  by_cases hp:0≤plaI l (optT d i)
  · rw [det hp]; exact optsB_at hl (plaI_lt hp).1
  · rw [def_ hp]; exact optsB_at h hi
theorem rjO_opts {d l:D} (h:optsB d=true):optsB (rjO d l)=true:=by
  refine optsB_of fun i hi=>?_
  unfold rjO at hi ⊢
  obtain ⟨j,hj,_,e⟩:=filD_get (len_max d) hi
  show bytesB (((filD _ (copE d) d.len).get i).cell 1)=true
  rw [e]
  exact optsB_at h hj
theorem lrnO_opts {d l:D} {c:Int} (h:optsB d=true) (hl:optsB l=true):optsB (lrnO d c l)=true:=by
  unfold lrnO
  cases lrnB d c l
  · exact h
  · cases c==3
    · exact rjO_opts h
    · exact nkD_opts h hl
def pkFit (w:DoneV):Prop:=w.out.len≤3∧w.did.len≤3∧optsB w.a.d=true
theorem pkW_fit {r:D} {mc mt mf wt:Int} {a:AuV} {ic ii:Int} {ix:D} {tk:Int} (h:optsB a.d=true) (hx:bytesB ix=true):pkFit (pkW r mc mt mf wt a ic ii ix tk):=by
  have S:pkFit (stayV a):=⟨Nat.zero_le _,Nat.zero_le _,h⟩
  have W:∀ (e ac ax:Int) (ad:D) (b:AuV),optsB b.d=true→pkFit (doW (rlM r) (rlG r) mc mt mf wt b e ic ii ix ac ax ad tk):=fun e ac ax ad b hb=>⟨doW_fit.1,doW_fit.2.1,by rw [doW_fit.2.2]; exact hb⟩
  have C:∀ (b:Bool) (x y:DoneV),pkFit x→pkFit y→pkFit (bif b then x else y):=fun b x y hx hy=>by cases b <;> assumption
  have hl:∀ c,optsB (lrnO a.d c (decO ix))=true:=fun c=>lrnO_opts h (decO_fit hx).2
  unfold pkW
  repeat (first | with_reducible refine C _ _ _ ?_ ?_ | with_reducible exact S | with_reducible exact W _ _ _ _ _ h | (refine W _ _ _ _ _ ?_; exact hl _))
def cnR (w:WkV) (rl:D) (ic ii:Int) (ix:D):DoneV:=pkW rl w.mc w.mt w.mf w.wt ⟨w.st,w.id,w.rq,w.d,w.ct,w.tm,w.nk⟩ ic ii ix w.tick
def cnfW (w:WkV) (rl:D) (ic ii:Int) (ix:D):WkV :=
  bif hasK (folW w (cnR w rl ic ii ix)).out then { folW w (cnR w rl ic ii ix) with pr:=brV (decO ix) 5 0,mu:=brV (decO ix) 1 1492 } else folW w (cnR w rl ic ii ix)
def cnA:List AV→Option (Int×Int×D)
  | .ptr 0 0 :: l=>(match cdAL [.agg [.int .i64,.int .i64,.sl byS]] l with
    | some [v1,v2,v3]=>some (v1.toI,v2.toI,v3)
    | _=>none)
  | _=>none
theorem cnA_ok {args:List AV} {ic ii:Int} {ix:D} (h:cnA args=some (ic,ii,ix)):args=[.ptr 0 0,ctlA ic ii ix]:=by
  unfold cnA at h
  split at h
  · split at h
    · rename_i h1
      cases h
      have e:=congrArg Prod.fst (cdAL_ok _ _ _ h1 [])
      dsimp only at e
      rw [← e]; rfl
    · cases h
  · cases h
def cnfS:Spec:=fun args h=>match cnA args,nlD h with
  | some (ic,ii,ix),some w=>need false (bytesB ix&&optsB w.d) 299 (.ok (.tup [],dnW (cnfW w (rlA w.mg) ic ii ix)))
  | _,_=>.bad 299
theorem hasK_sub (x:D):hasK (x.sub 0 x.len)=hasK x:=by
  have hl:(x.sub 0 x.len).len=x.len:=by rw [sub_len (Nat.zero_le _) (Nat.le_refl _)]; rfl
  unfold hasK
  rw [hl]
  congr 1
  have G:∀ i,i<x.len→(x.sub 0 x.len).get i=x.get i:=fun i hi=>by rw [sub_get (by omega),Nat.zero_add]
  have N:∀ j,j<x.len→neC (x.sub 0 x.len) j=neC x j:=fun j hj=>by unfold neC; rw [G j hj]
  rw [Bool.eq_iff_iff,okFrom_iff,okFrom_iff]
  exact ⟨fun h j h1 h2=>by rw [← N j (by omega)]; exact h j h1 h2,fun h j h1 h2=>by rw [N j (by omega)]; exact h j h1 h2⟩
theorem cnf_soundF:SoundF Tryz.prog 129 cnfS:=by
  refine obj_in2 (gs:=cnfG Tryz.prog) (ls:=[]) mixed cnfG_ok trivial 129 100 1 0 fun args h K H=>?_
  unfold cnfS at H
  split at H
  rotate_left
  · exact H.elim
  rename_i ic ii ix w h1 h2
  obtain ⟨hb,H⟩:=need_holds H
  rw [Bool.and_eq_true] at hb
  obtain ⟨hx,hb⟩:=hb
  obtain ⟨e1,e2,e3⟩:=nlD_ok h2
  rw [cnA_ok h1,e1]
  refine ⟨rfl,?_⟩
  obtain ⟨mru,mc,mt,mf,wt,ec,lo,st,id,rq,d,ct,tm,nk,mg,pr,mu,pe,ne,tick,out,did⟩:=w
  dsimp only at hb H e2 e3
  subst e2 e3
  dsimp only
  rw [cnf_tree]
  extract_lets w0 w1
  obtain ⟨f1,f2,f3⟩:pkFit w0:=pkW_fit hb hx
  have E:w1=folW ⟨mru,mc,mt,mf,wt,ec,lo,st,id,rq,d,ct,tm,nk,mg,pr,mu,pe,ne,tick,.l [],.l []⟩ w0:=fol_w ⟨mru,mc,mt,mf,wt,ec,lo,st,id,rq,d,ct,tm,nk,mg,pr,mu,pe,ne,tick,.l [],.l []⟩ w0 (by show 0+w0.did.len≤_; unfold maxLen; omega)
  have hP:pkN (rlA mg) d ix=true:=by unfold pkN; rw [hx,hb]; rfl
  have hF:flwN ⟨mru,mc,mt,mf,wt,ec,lo,w0.a.st,w0.a.id,w0.a.rq,w0.a.d,w0.a.ct,w0.a.tm,w0.a.nk,mg,pr,mu,pe,ne,tick,D.app (.l []) w0.out,D.app (.l []) w0.did⟩ 0=true:=by
    unfold flwN
    dsimp only
    rw [f3,Bool.and_true]
    exact det ⟨Int.le_refl _,by omega⟩
  have hD:=(decO_fit hx).2
  have A:∀ b v,hasK w1.out=b→(bif b then { w1 with pr:=brV (decO ix) 5 0,mu:=brV (decO ix) 1 1492 } else w1)=v→K (.tup [],dnW v):=by
    rintro b v rfl rfl
    rw [E]; exact H
  have hK:hasK (w1.out.sub 0 (w1.out.len:Int).toNat)=hasK w1.out:=hasK_sub _
  refine ⟨⟨?_,?_⟩,?_⟩
  all_goals refine holds_t_of hP (holds_t_of hF (holds_t_of (det ⟨by omega,by omega,by omega,by omega⟩) ⟨fun h=>⟨_,Le.refl _,A false _ ?_ rfl⟩,fun h=>holds_t_of hx (holds_t_of hD (holds_t_of hD ⟨_,Le.refl _,A true _ ?_ rfl⟩))⟩))
  all_goals rw [hK] at h; simpa using h
def FEq4:List AV→RT AV
  | [.sl false [.int .u8] x none,.sl false [.int .u8] y none]=>need false (decide (x.len=4∧y.len=4)&&(bytesB x&&bytesB y)) 310 (.ok (ab (eqB x y)))
  | _=>.bad 310
def lpkG (P:Program):List (FuncId×Spec):=(121,pureS P 121 FEnc7) :: (67,vecS P 67 5 byS FPutV) :: (129,objT cnfS) :: (71,pureS P 71 FRej) :: (210,pureS P 210 FEq4) :: lcpG P
theorem oeq_tree (a b c d e f g h:Int):treeF (evF Tryz.prog (gam ([])) (lam ([])) 100 210) [.sl true byS (.l [.i a,.i b,.i c,.i d]) none,.sl true byS (.l [.i e,.i f,.i g,.i h]) none] =
RT.ok (zb (IntKind.wrap IntKind.u8 (↑(BitVec.toNat (BitVec.ofInt (IntKind.bits IntKind.u8) (IntKind.wrap IntKind.u8 (↑(BitVec.toNat (BitVec.ofInt (IntKind.bits IntKind.u8) (IntKind.wrap IntKind.u8 (↑(BitVec.toNat (BitVec.ofInt (IntKind.bits IntKind.u8) (IntKind.wrap IntKind.u8 (↑(BitVec.toNat (BitVec.ofInt (IntKind.bits IntKind.u8) (Int.ofNat 0) ||| BitVec.ofInt (IntKind.bits IntKind.u8) (IntKind.wrap IntKind.u8 (↑(BitVec.toNat (BitVec.ofInt (IntKind.bits IntKind.u8) (D.toI (D.cell (D.get (D.l [D.i a,D.i b,D.i c,D.i d]) (Int.toNat (Int.ofNat 0))) 0)) ^^^ BitVec.ofInt (IntKind.bits IntKind.u8) (D.toI (D.cell (D.get (D.l [D.i e,D.i f,D.i g,D.i h]) (Int.toNat (Int.ofNat 0))) 0)))):Int)))):Int)) ||| BitVec.ofInt (IntKind.bits IntKind.u8) (IntKind.wrap IntKind.u8 (↑(BitVec.toNat (BitVec.ofInt (IntKind.bits IntKind.u8) (D.toI (D.cell (D.get (D.l [D.i a,D.i b,D.i c,D.i d]) (Int.toNat (Int.ofNat (Nat.succ 0)))) 0)) ^^^ BitVec.ofInt (IntKind.bits IntKind.u8) (D.toI (D.cell (D.get (D.l [D.i e,D.i f,D.i g,D.i h]) (Int.toNat (Int.ofNat (Nat.succ 0)))) 0)))):Int)))):Int)) ||| BitVec.ofInt (IntKind.bits IntKind.u8) (IntKind.wrap IntKind.u8 (↑(BitVec.toNat (BitVec.ofInt (IntKind.bits IntKind.u8) (D.toI (D.cell (D.get (D.l [D.i a,D.i b,D.i c,D.i d]) (Int.toNat (Int.ofNat (Nat.succ 1)))) 0)) ^^^ BitVec.ofInt (IntKind.bits IntKind.u8) (D.toI (D.cell (D.get (D.l [D.i e,D.i f,D.i g,D.i h]) (Int.toNat (Int.ofNat (Nat.succ 1)))) 0)))):Int)))):Int)) ||| BitVec.ofInt (IntKind.bits IntKind.u8) (IntKind.wrap IntKind.u8 (↑(BitVec.toNat (BitVec.ofInt (IntKind.bits IntKind.u8) (D.toI (D.cell (D.get (D.l [D.i a,D.i b,D.i c,D.i d]) (Int.toNat (Int.ofNat (Nat.succ 2)))) 0)) ^^^ BitVec.ofInt (IntKind.bits IntKind.u8) (D.toI (D.cell (D.get (D.l [D.i e,D.i f,D.i g,D.i h]) (Int.toNat (Int.ofNat (Nat.succ 2)))) 0)))):Int)))):Int)==0)):=by rw [← fvF_eq Tryz.prog (gam ([])) (lam ([])) false 100 210]; kernel_rfl
abbrev lpk_treeT_1 (st id rq ct tm nk mg pr mu pe ne:Int) (d:D):=RT.ok (AV.tup [AV.agg [zi st,zi id,zi rq,zs zO d,zi ct,zi tm,zi nk,zi mg,zi pr,zi mu,zi pe,zi ne],zz,zz])
def lpk_treeT (mru mc mt mf wt ec lo st id rq ct tm nk mg pr mu pe ne:Int) (d:D) (ic ii:Int) (ix:D) (tk:Int):RT AV :=
let w_0:=cnfW (WkV.mk mru mc mt mf wt ec lo st id rq d ct tm nk mg pr mu pe ne tk (D.l []) (D.l [])) (rlA mg) ic ii ix; let w_1:=doW (rlM (rlA mg)) (rlG (rlA mg)) mc mt mf wt (AuV.mk st id rq d ct tm nk) 15 ic ii ix 0 0 (D.l []) tk; let w_2:=flwW (WkV.mk mru mc mt mf wt ec lo w_1.a.st w_1.a.id w_1.a.rq w_1.a.d w_1.a.ct w_1.a.tm w_1.a.nk mg pr mu pe ne tk (D.app (D.l []) w_1.out) (D.app (D.l []) w_1.did)) 0; let w_3:=doW (rlM (rlA mg)) (rlG (rlA mg)) mc mt mf wt (AuV.mk st id rq d ct tm nk) 14 ic ii ix 0 0 (D.l []) tk; let w_4:=flwW (WkV.mk mru mc mt mf wt ec lo w_3.a.st w_3.a.id w_3.a.rq w_3.a.d w_3.a.ct w_3.a.tm w_3.a.nk mg pr mu pe ne tk (D.app (D.l []) w_3.out) (D.app (D.l []) w_3.did)) 0; let w_5:=doW (rlM (rlA mg)) (rlG (rlA mg)) mc mt mf wt (AuV.mk st id rq d ct tm nk) 16 ic ii ix 10 ii (D.app (beD (IntKind.wrap IntKind.u64 mg) 4) (D.sub ix 4 (Int.toNat (↑(D.len ix):Int)))) tk; let w_6:=flwW (WkV.mk mru mc mt mf wt ec lo w_5.a.st w_5.a.id w_5.a.rq w_5.a.d w_5.a.ct w_5.a.tm w_5.a.nk mg pr mu pe ne tk (D.app (D.l []) w_5.out) (D.app (D.l []) w_5.did)) 0; let w_7:=doW (rlM (rlA mg)) (rlG (rlA mg)) mc mt mf wt (AuV.mk st id rq d ct tm nk) 13 ic ii ix 0 0 (D.l []) tk; let w_8:=flwW (WkV.mk mru mc mt mf wt ec lo w_7.a.st w_7.a.id w_7.a.rq w_7.a.d w_7.a.ct w_7.a.tm w_7.a.nk mg pr mu pe ne tk (D.app (D.l []) w_7.out) (D.app (D.l []) w_7.did)) 0; RT.br (enc7E ic ii ix != 0) (lpk_treeT_1 st id rq ct tm nk mg pr mu pe ne d) (RT.br (errIf (lisB mru mc mt mf wt ec lo st id rq d ct tm nk mg pr mu pe ne) 170 != 0) (lpk_treeT_1 st id rq ct tm nk mg pr mu pe ne d) (RT.br (decide (0≤tk)) (RT.br (!decide (tk≤1099511627776)) (lpk_treeT_1 st id rq ct tm nk mg pr mu pe ne d) (RT.br (ic==1) (RT.br (bytesB ix&&optsB d) (RT.ok (AV.tup [AV.agg [zi w_0.st,zi w_0.id,zi w_0.rq,zs zO w_0.d,zi w_0.ct,zi w_0.tm,zi w_0.nk,zi w_0.mg,zi w_0.pr,zi w_0.mu,zi w_0.pe,zi w_0.ne],zs zC w_0.out,zs zN w_0.did])) (RT.bad 299)) (RT.br (ic==2) (RT.br (bytesB ix&&optsB d) (RT.ok (AV.tup [AV.agg [zi w_0.st,zi w_0.id,zi w_0.rq,zs zO w_0.d,zi w_0.ct,zi w_0.tm,zi w_0.nk,zi w_0.mg,zi w_0.pr,zi w_0.mu,zi w_0.pe,zi w_0.ne],zs zC w_0.out,zs zN w_0.did])) (RT.bad 299)) (RT.br (ic==3) (RT.br (bytesB ix&&optsB d) (RT.ok (AV.tup [AV.agg [zi w_0.st,zi w_0.id,zi w_0.rq,zs zO w_0.d,zi w_0.ct,zi w_0.tm,zi w_0.nk,zi w_0.mg,zi w_0.pr,zi w_0.mu,zi w_0.pe,zi w_0.ne],zs zC w_0.out,zs zN w_0.did])) (RT.bad 299)) (RT.br (ic==4) (RT.br (bytesB ix&&optsB d) (RT.ok (AV.tup [AV.agg [zi w_0.st,zi w_0.id,zi w_0.rq,zs zO w_0.d,zi w_0.ct,zi w_0.tm,zi w_0.nk,zi w_0.mg,zi w_0.pr,zi w_0.mu,zi w_0.pe,zi w_0.ne],zs zC w_0.out,zs zN w_0.did])) (RT.bad 299)) (RT.br (ic==5) (RT.br (bytesB ix&&optsB d) (RT.ok (AV.tup [AV.agg [zi w_0.st,zi w_0.id,zi w_0.rq,zs zO w_0.d,zi w_0.ct,zi w_0.tm,zi w_0.nk,zi w_0.mg,zi w_0.pr,zi w_0.mu,zi w_0.pe,zi w_0.ne],zs zC w_0.out,zs zN w_0.did])) (RT.bad 299)) (RT.br (ic==6) (RT.br (bytesB ix&&optsB d) (RT.ok (AV.tup [AV.agg [zi w_0.st,zi w_0.id,zi w_0.rq,zs zO w_0.d,zi w_0.ct,zi w_0.tm,zi w_0.nk,zi w_0.mg,zi w_0.pr,zi w_0.mu,zi w_0.pe,zi w_0.ne],zs zC w_0.out,zs zN w_0.did])) (RT.bad 299)) (RT.br (ic==7) (RT.br (bytesB ix&&optsB d) (RT.ok (AV.tup [AV.agg [zi w_0.st,zi w_0.id,zi w_0.rq,zs zO w_0.d,zi w_0.ct,zi w_0.tm,zi w_0.nk,zi w_0.mg,zi w_0.pr,zi w_0.mu,zi w_0.pe,zi w_0.ne],zs zC w_0.out,zs zN w_0.did])) (RT.bad 299)) (RT.br (ic==8) (RT.br (rngB ix) (RT.br (!rejB ic ix) (lpk_treeT_1 st id rq ct tm nk mg pr mu pe ne d) (RT.br (st != 9) (lpk_treeT_1 st id rq ct tm nk mg pr mu pe ne d) (RT.br (rejN ic ix==49185) (RT.br true (RT.br (flwN (WkV.mk mru mc mt mf wt ec lo w_1.a.st w_1.a.id w_1.a.rq w_1.a.d w_1.a.ct w_1.a.tm w_1.a.nk mg pr mu pe ne tk (D.app (D.l []) w_1.out) (D.app (D.l []) w_1.did)) 0) (RT.ok (AV.tup [AV.agg [zi w_2.st,zi w_2.id,zi w_2.rq,zs zO w_2.d,zi w_2.ct,zi w_2.tm,zi w_2.nk,zi w_2.mg,zi w_2.pr,zi w_2.mu,zi w_2.pe,zi w_2.ne],zs zC w_2.out,zs zN w_2.did])) (RT.bad 299)) (RT.bad 274)) (RT.br true (RT.br (flwN (WkV.mk mru mc mt mf wt ec lo w_3.a.st w_3.a.id w_3.a.rq w_3.a.d w_3.a.ct w_3.a.tm w_3.a.nk mg pr mu pe ne tk (D.app (D.l []) w_3.out) (D.app (D.l []) w_3.did)) 0) (RT.ok (AV.tup [AV.agg [zi w_4.st,zi w_4.id,zi w_4.rq,zs zO w_4.d,zi w_4.ct,zi w_4.tm,zi w_4.nk,zi w_4.mg,zi w_4.pr,zi w_4.mu,zi w_4.pe,zi w_4.ne],zs zC w_4.out,zs zN w_4.did])) (RT.bad 299)) (RT.bad 274))))) (RT.bad 221)) (RT.br (ic==9) (RT.br (st==9) (RT.br (decide (4≤(↑(D.len ix):Int))) (RT.br (decide ((0:Int)≤0∧(0:Int)≤4∧4≤(↑(D.len ix):Int)∧(↑(D.len ix):Int)≤(↑(D.len ix):Int))) (RT.br (decide ((0≤IntKind.wrap IntKind.u64 mg∧IntKind.wrap IntKind.u64 mg<18446744073709551616)∧(1:Int)≤4∧(4:Int)≤8)) (RT.br (decide (D.len (D.sub ix 0 4)=4∧4=4)&&(bytesB (D.sub ix 0 4)&&bytesB (beD (IntKind.wrap IntKind.u64 mg) 4))) (RT.br (!eqB (D.sub ix 0 4) (beD (IntKind.wrap IntKind.u64 mg) 4)) (RT.br (decide ((0:Int)≤4∧4≤(↑(D.len ix):Int)∧(↑(D.len ix):Int)≤(↑(D.len ix):Int)∧(↑(D.len ix):Int)≤(↑(D.len ix):Int))) (RT.br (decide ((0≤IntKind.wrap IntKind.u64 mg∧IntKind.wrap IntKind.u64 mg<18446744073709551616)∧(1:Int)≤4∧(4:Int)≤8)) (RT.br (decide ((4+D.len (D.sub ix 4 (Int.toNat (↑(D.len ix):Int))))*1≤140737488355328)) (RT.br true (RT.br (flwN (WkV.mk mru mc mt mf wt ec lo w_5.a.st w_5.a.id w_5.a.rq w_5.a.d w_5.a.ct w_5.a.tm w_5.a.nk mg pr mu pe ne tk (D.app (D.l []) w_5.out) (D.app (D.l []) w_5.did)) 0) (RT.ok (AV.tup [AV.agg [zi w_6.st,zi w_6.id,zi w_6.rq,zs zO w_6.d,zi w_6.ct,zi w_6.tm,zi w_6.nk,zi w_6.mg,zi w_6.pr,zi w_6.mu,zi w_6.pe,zi w_6.ne],zs zC w_6.out,zs zN w_6.did])) (RT.bad 299)) (RT.bad 274)) (RT.bad 70)) (RT.bad 240)) (RT.bad 37)) (lpk_treeT_1 st id rq ct tm nk mg pr mu pe ne d)) (RT.bad 310)) (RT.bad 240)) (RT.bad 37)) (lpk_treeT_1 st id rq ct tm nk mg pr mu pe ne d)) (lpk_treeT_1 st id rq ct tm nk mg pr mu pe ne d)) (RT.br (ic==10) (RT.br (st==9) (RT.br (decide (4≤(↑(D.len ix):Int))) (RT.br (decide ((0:Int)≤0∧(0:Int)≤4∧4≤(↑(D.len ix):Int)∧(↑(D.len ix):Int)≤(↑(D.len ix):Int))) (RT.br (decide ((0≤IntKind.wrap IntKind.u64 mg∧IntKind.wrap IntKind.u64 mg<18446744073709551616)∧(1:Int)≤4∧(4:Int)≤8)) (RT.br (decide (D.len (D.sub ix 0 4)=4∧4=4)&&(bytesB (D.sub ix 0 4)&&bytesB (beD (IntKind.wrap IntKind.u64 mg) 4))) (RT.br (!eqB (D.sub ix 0 4) (beD (IntKind.wrap IntKind.u64 mg) 4)) (RT.ok (AV.tup [AV.agg [zi st,zi id,zi rq,zs zO d,zi ct,zi tm,zi nk,zi mg,zi pr,zi mu,zk 0,zi ne],zz,zz])) (lpk_treeT_1 st id rq ct tm nk mg pr mu pe ne d)) (RT.bad 310)) (RT.bad 240)) (RT.bad 37)) (lpk_treeT_1 st id rq ct tm nk mg pr mu pe ne d)) (lpk_treeT_1 st id rq ct tm nk mg pr mu pe ne d)) (RT.br (ic==11) (lpk_treeT_1 st id rq ct tm nk mg pr mu pe ne d) (RT.br true (RT.br (flwN (WkV.mk mru mc mt mf wt ec lo w_7.a.st w_7.a.id w_7.a.rq w_7.a.d w_7.a.ct w_7.a.tm w_7.a.nk mg pr mu pe ne tk (D.app (D.l []) w_7.out) (D.app (D.l []) w_7.did)) 0) (RT.ok (AV.tup [AV.agg [zi w_8.st,zi w_8.id,zi w_8.rq,zs zO w_8.d,zi w_8.ct,zi w_8.tm,zi w_8.nk,zi w_8.mg,zi w_8.pr,zi w_8.mu,zi w_8.pe,zi w_8.ne],zs zC w_8.out,zs zN w_8.did])) (RT.bad 299)) (RT.bad 274)))))))))))))) (lpk_treeT_1 st id rq ct tm nk mg pr mu pe ne d)))
theorem lpk_tree (mru mc mt mf wt ec lo st id rq ct tm nk mg pr mu pe ne:Int) (d:D) (ic ii:Int) (ix:D) (tk:Int):treeF (evF Tryz.prog (gam (lpkG Tryz.prog)) (lam ([])) 100 70) [cnfA mru mc mt mf wt ec lo,lcpA st id rq d ct tm nk mg pr mu pe ne,ctlA ic ii ix,ai tk]=lpk_treeT mru mc mt mf wt ec lo st id rq ct tm nk mg pr mu pe ne d ic ii ix tk:=by rw [← fvF_eq Tryz.prog (gam (lpkG Tryz.prog)) (lam ([])) false 100 70]; kernel_rfl
abbrev mgD (m:Int):D:=beD (IntKind.wrap .u64 m) 4
def pkt1 (w:WkV) (ic ii:Int) (ix:D):WkV :=
  bif decide (1≤ic)&&decide (ic≤7) then cnfW w (rlA w.mg) ic ii ix
  else bif decide (ic<1)||decide (11<ic) then evW w (rlA w.mg) 13 ic ii ix 0 0 (.l [])
  else bif w.st != 9||ic==11 then w
  else bif ic==8 then (bif rejB ic ix then (bif rejN ic ix==49185 then evW w (rlA w.mg) 15 ic ii ix 0 0 (.l []) else evW w (rlA w.mg) 14 ic ii ix 0 0 (.l [])) else w)
  else bif decide (ix.len<4)||eqB (ix.sub 0 4) (mgD w.mg) then w
  else bif ic==10 then { w with pe:=0 }
  else evW w (rlA w.mg) 16 ic ii ix 10 ii (D.app (mgD w.mg) (ix.sub 4 ix.len))
def pktW (w:WkV) (ic ii:Int) (ix:D):WkV:=bif enc7E ic ii ix==0&&onB w then pkt1 w ic ii ix else w
def lpkCd:List Cd:=[.agg [.int .i64,.int .i64,.int .i64,.int .i64,.int .i64,.int .i64,.int .i64],.agg [.int .i64,.int .i64,.int .i64,.sl opS,.int .i64,.int .i64,.int .i64,.int .i64,.int .i64,.int .i64,.int .i64,.int .i64],.agg [.int .i64,.int .i64,.sl byS],.int .i64]
def FLpk (args:List AV):RT AV:=match cdAL lpkCd args with
  | some [v0,v1,v2,v3,v4,v5,v6,v7,v8,v9,v10,v11,v12,v13,v14,v15,v16,v17,v18,v19,v20,v21,v22]=>need false (bytesB v21&&optsB v10) 313 (.ok (wkA (pktW ⟨v0.toI,v1.toI,v2.toI,v3.toI,v4.toI,v5.toI,v6.toI,v7.toI,v8.toI,v9.toI,v10,v11.toI,v12.toI,v13.toI,v14.toI,v15.toI,v16.toI,v17.toI,v18.toI,v22.toI,.l [],.l []⟩ v19.toI v20.toI v21)))
  | _=>.bad 313
theorem lpk_inv {args:List AV} {G:WkV→AV} {K:AV→Prop} (H:(match cdAL lpkCd args with
  | some [v0,v1,v2,v3,v4,v5,v6,v7,v8,v9,v10,v11,v12,v13,v14,v15,v16,v17,v18,v19,v20,v21,v22]=>need false (bytesB v21&&optsB v10) 313 (.ok (G (pktW ⟨v0.toI,v1.toI,v2.toI,v3.toI,v4.toI,v5.toI,v6.toI,v7.toI,v8.toI,v9.toI,v10,v11.toI,v12.toI,v13.toI,v14.toI,v15.toI,v16.toI,v17.toI,v18.toI,v22.toI,.l [],.l []⟩ v19.toI v20.toI v21)))
  | _=>(.bad 313:RT AV)).holds K):∃ (mru mc mt mf wt ec lo st id rq ct tm nk mg pr mu pe ne:Int) (d:D) (ic ii:Int) (ix:D) (tk:Int),args=[cnfA mru mc mt mf wt ec lo,lcpA st id rq d ct tm nk mg pr mu pe ne,ctlA ic ii ix,ai tk]∧bytesB ix=true∧optsB d=true∧K (G (pktW ⟨mru,mc,mt,mf,wt,ec,lo,st,id,rq,d,ct,tm,nk,mg,pr,mu,pe,ne,tk,.l [],.l []⟩ ic ii ix)):=by
  split at H
  · rename_i v0 v1 v2 v3 v4 v5 v6 v7 v8 v9 v10 v11 v12 v13 v14 v15 v16 v17 v18 v19 v20 v21 v22 hd
    obtain ⟨hc,H⟩:=need_holds H
    rw [Bool.and_eq_true] at hc
    have:=cdAL_ok _ _ _ hd []
    exact ⟨v0.toI,v1.toI,v2.toI,v3.toI,v4.toI,v5.toI,v6.toI,v7.toI,v8.toI,v9.toI,v11.toI,v12.toI,v13.toI,v14.toI,v15.toI,v16.toI,v17.toI,v18.toI,v10,v19.toI,v20.toI,v21,v22.toI,(congrArg Prod.fst this).symm,hc.1,hc.2,H⟩
  · exact H.elim
theorem pkt1_cnf {w:WkV} {ic ii:Int} {ix:D} (h:1≤ic∧ic≤7):pkt1 w ic ii ix=cnfW w (rlA w.mg) ic ii ix:=by
  unfold pkt1; rw [det h.1,det h.2]; rfl
theorem no_cnf {ic:Int} (h:ic<1∨7<ic):(decide (1≤ic)&&decide (ic≤7))=false:=by
  rcases h with h | h
  · rw [def_ (show ¬ 1≤ic by omega)]; rfl
  · rw [def_ (show ¬ ic≤7 by omega),Bool.and_false]
theorem no_ruc {ic:Int} (h:1≤ic∧ic≤11):(decide (ic<1)||decide (11<ic))=false:=by
  rw [def_ (show ¬ ic<1 by omega),def_ (show ¬ 11<ic by omega)]; rfl
theorem pkt1_ruc {w:WkV} {ic ii:Int} {ix:D} (h:ic<1∨11<ic):pkt1 w ic ii ix=evW w (rlA w.mg) 13 ic ii ix 0 0 (.l []):=by
  unfold pkt1
  have e:(decide (ic<1)||decide (11<ic))=true:=by
    rcases h with h | h
    · rw [det h]; rfl
    · rw [det h,Bool.or_true]
  rw [no_cnf (by omega),e]; rfl
theorem pkt1_off {w:WkV} {ic ii:Int} {ix:D} (h:8≤ic∧ic≤11) (hs:(w.st != 9||ic==11)=true):pkt1 w ic ii ix=w:=by
  unfold pkt1
  rw [no_cnf (by omega),no_ruc (by omega),hs]; rfl
theorem pkt1_rej {w:WkV} {ii:Int} {ix:D} (hs:(w.st != 9)=false):pkt1 w 8 ii ix=bif rejB 8 ix then (bif rejN 8 ix==49185 then evW w (rlA w.mg) 15 8 ii ix 0 0 (.l []) else evW w (rlA w.mg) 14 8 ii ix 0 0 (.l [])) else w:=by
  unfold pkt1
  rw [hs]; rfl
theorem pkt1_req {w:WkV} {ii:Int} {ix:D} (hs:(w.st != 9)=false):pkt1 w 9 ii ix=bif decide (ix.len<4)||eqB (ix.sub 0 4) (mgD w.mg) then w else evW w (rlA w.mg) 16 9 ii ix 10 ii (D.app (mgD w.mg) (ix.sub 4 ix.len)):=by
  unfold pkt1
  rw [hs]; rfl
theorem pkt1_rep {w:WkV} {ii:Int} {ix:D} (hs:(w.st != 9)=false):pkt1 w 10 ii ix=bif decide (ix.len<4)||eqB (ix.sub 0 4) (mgD w.mg) then w else { w with pe:=0 }:=by
  unfold pkt1
  rw [hs]; rfl
theorem bv_ofInt_wrap (x:BitVec 8):BitVec.ofInt 8 (IntKind.wrap .u8 (x.toNat:Int))=x:=by
  rw [show IntKind.wrap .u8 (x.toNat:Int)=(x.toNat:Int) from wrap_u8 ⟨by omega,by have:=x.isLt; omega⟩]
  simp
theorem byte_inj {a b:Int} (ha:byR a) (hb:byR b) (h:BitVec.ofInt 8 a=BitVec.ofInt 8 b):a=b:=by
  unfold byR at ha hb
  have:=congrArg BitVec.toNat h
  rw [BitVec.toNat_ofInt,BitVec.toNat_ofInt] at this
  omega
def orX (p u v:Int):Int:=IntKind.wrap .u8 ((BitVec.ofInt 8 p ||| BitVec.ofInt 8 (IntKind.wrap .u8 ((BitVec.ofInt 8 u ^^^ BitVec.ofInt 8 v).toNat:Int))).toNat:Int)
theorem orX_bv (p u v:Int):BitVec.ofInt 8 (orX p u v)=BitVec.ofInt 8 p ||| (BitVec.ofInt 8 u ^^^ BitVec.ofInt 8 v):=by
  unfold orX; rw [bv_ofInt_wrap,bv_ofInt_wrap]
theorem orX_zero (p u v:Int):orX p u v=0↔BitVec.ofInt 8 (orX p u v)=0:=by
  constructor
  · intro h; rw [h]; rfl
  · intro h
    rw [orX_bv] at h
    unfold orX
    rw [bv_ofInt_wrap,h]; rfl
theorem eq4_bit {a b c d e f g h:Int} (ha:byR a) (hb:byR b) (hc:byR c) (hd:byR d) (he:byR e) (hf:byR f) (hg:byR g) (hh:byR h) :
    orX (orX (orX (orX 0 a e) b f) c g) d h=0↔(a=e∧b=f∧c=g∧d=h):=by
  rw [orX_zero,orX_bv,orX_bv,orX_bv,orX_bv]
  constructor
  · intro H
    have H1:=BitVec.or_eq_zero_iff.1 H
    have H2:=BitVec.or_eq_zero_iff.1 H1.1
    have H3:=BitVec.or_eq_zero_iff.1 H2.1
    have H4:=BitVec.or_eq_zero_iff.1 H3.1
    exact ⟨byte_inj ha he (BitVec.xor_eq_zero_iff.1 H4.2),byte_inj hb hf (BitVec.xor_eq_zero_iff.1 H3.2),byte_inj hc hg (BitVec.xor_eq_zero_iff.1 H2.2),byte_inj hd hh (BitVec.xor_eq_zero_iff.1 H1.2)⟩
  · rintro ⟨rfl,rfl,rfl,rfl⟩
    rw [BitVec.xor_self,BitVec.xor_self,BitVec.xor_self,BitVec.xor_self]; rfl
theorem oeq_soundF:SoundF Tryz.prog 210 (pureS Tryz.prog 210 FEq4):=by
  refine pure_by (gs:=[]) (ls:=[]) mixed trivial trivial 210 100 fun args K ho H=>?_
  unfold FEq4 at H
  split at H
  · rename_i x y
    obtain ⟨hc,H⟩:=need_holds H
    rw [Bool.and_eq_true,Bool.and_eq_true] at hc
    obtain ⟨hl,hx,hy⟩:=hc
    obtain ⟨lx,ly⟩:=odt hl
    have X:∀ j,j<4→byR (byA x j):=fun j hj=>bytes_at hx (by omega)
    have Y:∀ j,j<4→byR (byA y j):=fun j hj=>bytes_at hy (by omega)
    refine ⟨_,leL_cons (four_le (kn':=true) lx) (leL_cons (four_le (kn':=true) ly) leL_nil),?_⟩
    rw [oeq_tree]
    refine ⟨_,le_bool ?_,H⟩
    have B:=eq4_bit (X 0 (by omega)) (X 1 (by omega)) (X 2 (by omega)) (X 3 (by omega)) (Y 0 (by omega)) (Y 1 (by omega)) (Y 2 (by omega)) (Y 3 (by omega))
    have E:eqB x y=decide (byA x 0=byA y 0∧byA x 1=byA y 1∧byA x 2=byA y 2∧byA x 3=byA y 3):=by
      unfold eqB
      rw [det (show x.len=y.len by omega),lx,Bool.true_and,Bool.eq_iff_iff,decide_eq_true_eq]
      show (eqBy x y 0&&(eqBy x y 1&&(eqBy x y 2&&(eqBy x y 3&&true))))=true↔_
      unfold eqBy
      simp only [Bool.and_eq_true,beq_iff_eq,and_true]
    rw [E]
    show (orX (orX (orX (orX 0 (byA x 0) (byA y 0)) (byA x 1) (byA y 1)) (byA x 2) (byA y 2)) (byA x 3) (byA y 3)==0)=_
    rw [Bool.eq_iff_iff,beq_iff_eq,decide_eq_true_eq]
    exact B
  · exact H.elim
theorem beD_toL (n:Int):(beD n 4).toL=[.i (byI n 4 0),.i (byI n 4 1),.i (byI n 4 2),.i (byI n 4 3)]:=toL_l (by show 4≤maxLen; unfold maxLen; omega)
theorem beD_len4 (n:Int):(beD n 4).len=4:=by unfold D.len; rw [beD_toL]; rfl
theorem byI_rng (n:Int) (s i:Nat):0≤byI n s i∧byI n s i<256:=by
  unfold byI
  have:=(beByte n.toNat (s - 1 - i)).toNat_lt
  omega
theorem beD_bytes (n:Int):bytesB (beD n 4)=true:=by
  refine det fun i hi=>?_
  rw [beD_len4] at hi
  unfold byN D.get
  rw [beD_toL]
  match i,hi with
  | 0,_=>exact byI_rng n 4 0
  | 1,_=>exact byI_rng n 4 1
  | 2,_=>exact byI_rng n 4 2
  | 3,_=>exact byI_rng n 4 3
theorem rngB_by {d:D} (h:bytesB d=true):rngB d=true:=det fun hl=>⟨bytes_at h (by omega),bytes_at h (by omega)⟩
theorem lpkG_ok:GamL Tryz.prog (lpkG Tryz.prog):=⟨enc7_soundF,putV_soundF,objT_ok cnf_soundF,rej_soundF,oeq_soundF,lcpG_ok⟩
theorem wrap64_ok (m:Int):decide ((0≤IntKind.wrap IntKind.u64 m∧IntKind.wrap IntKind.u64 m<18446744073709551616)∧(1:Int)≤4∧(4:Int)≤8)=true:=by
  have hw:IntKind.wrap .u64 m=m % 18446744073709551616:=rfl
  exact det ⟨⟨by omega,by omega⟩,by decide,by decide⟩
theorem enc7_le {c i:Int} {x:D} (h:(enc7E c i x==0)=true):x.len≤1488:=by
  have h:=eq_of_beq h
  unfold enc7E at h
  split at h
  · split at h
    · exact absurd h (by decide)
    · omega
  · exact absurd h (by decide)
theorem lpk_soundF:SoundF Tryz.prog 70 (pureS Tryz.prog 70 FLpk):=by
  refine pure_in (gs:=lpkG Tryz.prog) (ls:=[]) mixed lpkG_ok trivial 70 100 fun args K ho H=>?_
  obtain ⟨mru,mc,mt,mf,wt,ec,lo,st,id,rq,ct,tm,nk,mg,pr,mu,pe,ne,d,ic,ii,ix,tk,hr,hx,hb,H⟩:=lpk_inv (G:=fun w=>wkA w) H
  rw [hr,lpk_tree]
  unfold lpk_treeT lpk_treeT_1
  extract_lets w0 w1 w2 w3 w4 w5 w6 w7 w8
  have A:∀ v,pktW ⟨mru,mc,mt,mf,wt,ec,lo,st,id,rq,d,ct,tm,nk,mg,pr,mu,pe,ne,tk,.l [],.l []⟩ ic ii ix=v→K (wkA v):=by rintro v rfl; exact H
  clear H
  have fit:∀ e ac ax (ad:D),(doW (rlM (rlA mg)) (rlG (rlA mg)) mc mt mf wt ⟨st,id,rq,d,ct,tm,nk⟩ e ic ii ix ac ax ad tk).out.len≤3∧(doW (rlM (rlA mg)) (rlG (rlA mg)) mc mt mf wt ⟨st,id,rq,d,ct,tm,nk⟩ e ic ii ix ac ax ad tk).did.len≤3∧(doW (rlM (rlA mg)) (rlG (rlA mg)) mc mt mf wt ⟨st,id,rq,d,ct,tm,nk⟩ e ic ii ix ac ax ad tk).a.d=d:=fun _ _ _ _=>doW_fit
  have hf1:w1.did.len≤3∧w1.a.d=d:=(fit _ _ _ _).2
  have hf3:w3.did.len≤3∧w3.a.d=d:=(fit _ _ _ _).2
  have hf5:w5.did.len≤3∧w5.a.d=d:=(fit _ _ _ _).2
  have hf7:w7.did.len≤3∧w7.a.d=d:=(fit _ _ _ _).2
  have fw:∀ r:DoneV,r.did.len≤3→_:=fun r hr=>fol_w ⟨mru,mc,mt,mf,wt,ec,lo,st,id,rq,d,ct,tm,nk,mg,pr,mu,pe,ne,tk,.l [],.l []⟩ r (by show 0+r.did.len≤_; unfold maxLen; omega)
  have E2:w2=evW ⟨mru,mc,mt,mf,wt,ec,lo,st,id,rq,d,ct,tm,nk,mg,pr,mu,pe,ne,tk,.l [],.l []⟩ (rlA mg) 15 ic ii ix 0 0 (.l []):=fw w1 hf1.1
  have E4:w4=evW ⟨mru,mc,mt,mf,wt,ec,lo,st,id,rq,d,ct,tm,nk,mg,pr,mu,pe,ne,tk,.l [],.l []⟩ (rlA mg) 14 ic ii ix 0 0 (.l []):=fw w3 hf3.1
  have E6:w6=evW ⟨mru,mc,mt,mf,wt,ec,lo,st,id,rq,d,ct,tm,nk,mg,pr,mu,pe,ne,tk,.l [],.l []⟩ (rlA mg) 16 ic ii ix 10 ii (D.app (mgD mg) (ix.sub 4 ix.len)):=fw w5 hf5.1
  have E8:w8=evW ⟨mru,mc,mt,mf,wt,ec,lo,st,id,rq,d,ct,tm,nk,mg,pr,mu,pe,ne,tk,.l [],.l []⟩ (rlA mg) 13 ic ii ix 0 0 (.l []):=fw w7 hf7.1
  have N:∀ (v:WkV),v.d=d→flwN v 0=true:=fun v h1=>by
    unfold flwN
    rw [h1,hb,Bool.and_true]
    exact det ⟨Int.le_refl _,by omega⟩
  clear_value w2 w4 w6 w8
  have off:pktW ⟨mru,mc,mt,mf,wt,ec,lo,st,id,rq,d,ct,tm,nk,mg,pr,mu,pe,ne,tk,.l [],.l []⟩ ic ii ix=⟨mru,mc,mt,mf,wt,ec,lo,st,id,rq,d,ct,tm,nk,mg,pr,mu,pe,ne,tk,.l [],.l []⟩→∃ y,Le (.tup [.agg [ai st,ai id,ai rq,asl opS d,ai ct,ai tm,ai nk,ai mg,ai pr,ai mu,ai pe,ai ne],.sc true (.slice none 0 0),.sc true (.slice none 0 0)]) y∧K y:=fun h =>
    ⟨_,le_two' (Le.refl _) (le_nil rfl) (le_nil rfl),A _ h⟩
  have pk:∀ b1 b2 b3 b4,(enc7E ic ii ix==0)=b1→lisB mru mc mt mf wt ec lo st id rq d ct tm nk mg pr mu pe ne=b2→decide (0≤tk)=b3→decide (tk≤1099511627776)=b4→pktW ⟨mru,mc,mt,mf,wt,ec,lo,st,id,rq,d,ct,tm,nk,mg,pr,mu,pe,ne,tk,.l [],.l []⟩ ic ii ix=bif b1&&(b2&&(b3&&b4)) then pkt1 ⟨mru,mc,mt,mf,wt,ec,lo,st,id,rq,d,ct,tm,nk,mg,pr,mu,pe,ne,tk,.l [],.l []⟩ ic ii ix else ⟨mru,mc,mt,mf,wt,ec,lo,st,id,rq,d,ct,tm,nk,mg,pr,mu,pe,ne,tk,.l [],.l []⟩:=by
    rintro b1 b2 b3 b4 rfl rfl rfl rfl; rfl
  rw [errIf_nz (by decide)]
  refine ⟨fun h1=>off ((pk false _ _ _ (by rw [bne,Bool.not_eq_true'] at h1; exact h1) rfl rfl rfl).trans rfl),fun h1=>⟨fun h2=>off ((pk _ false _ _ rfl (by rw [Bool.not_eq_true'] at h2; exact h2) rfl rfl).trans (by rw [Bool.false_and,Bool.and_false]; rfl)),fun h2=>⟨fun h3=>⟨fun h4=>off ((pk _ _ _ false rfl rfl rfl (by rw [Bool.not_eq_true'] at h4; exact h4)).trans (by rw [Bool.and_false,Bool.and_false,Bool.and_false]; rfl)),fun h4=>?_⟩,fun h3=>off ((pk _ _ false _ rfl rfl h3 rfl).trans (by rw [Bool.false_and,Bool.and_false,Bool.and_false]; rfl))⟩⟩⟩
  rw [bne,Bool.not_eq_false'] at h1
  rw [Bool.not_eq_false'] at h2 h4
  have pk:pktW ⟨mru,mc,mt,mf,wt,ec,lo,st,id,rq,d,ct,tm,nk,mg,pr,mu,pe,ne,tk,.l [],.l []⟩ ic ii ix=pkt1 ⟨mru,mc,mt,mf,wt,ec,lo,st,id,rq,d,ct,tm,nk,mg,pr,mu,pe,ne,tk,.l [],.l []⟩ ic ii ix:=(pk true true true true h1 h2 h3 h4).trans rfl
  have cnf:1≤ic∧ic≤7→(RT.br (bytesB ix&&optsB d) (.ok (wkA w0)) (.bad 299)).holds fun r=>∃ y,Le r y∧K y:=fun h=>by
    rw [hx,hb]
    exact holds_t ⟨_,Le.refl _,A w0 (pk.trans (pkt1_cnf h))⟩
  have X4:∀ j,j<ix.len→byR (byA ix j):=fun j hj=>bytes_at hx hj
  refine ⟨fun e1=>cnf (by have:=eq_of_beq e1; omega),fun e1=>⟨fun e2=>cnf (by have:=eq_of_beq e2; omega),fun e2=>⟨fun e3=>cnf (by have:=eq_of_beq e3; omega),fun e3=>⟨fun e4=>cnf (by have:=eq_of_beq e4; omega),fun e4=>⟨fun e5=>cnf (by have:=eq_of_beq e5; omega),fun e5=>⟨fun e6=>cnf (by have:=eq_of_beq e6; omega),fun e6=>⟨fun e7=>cnf (by have:=eq_of_beq e7; omega),fun e7=>⟨fun e8=>?_,fun e8=>⟨fun e9=>?_,fun e9=>⟨fun e10=>?_,fun e10=>⟨fun e11=>?_,fun e11=>?_⟩⟩⟩⟩⟩⟩⟩⟩⟩⟩⟩
  · obtain rfl:ic=8:=eq_of_beq e8
    refine holds_t_of (rngB_by hx) ⟨fun hj=>?_,fun hj=>⟨fun hs=>off (pk.trans (pkt1_off (by decide) (by show (st != 9||_)=true; rw [hs]; rfl))),fun hs=>?_⟩⟩
    · rw [Bool.not_eq_true'] at hj
      cases hs:st != 9
      · exact off (pk.trans ((pkt1_rej hs).trans (by rw [hj]; rfl)))
      · exact off (pk.trans (pkt1_off (by decide) (by show (st != 9||_)=true; rw [hs]; rfl)))
    · rw [Bool.not_eq_false'] at hj
      have P:=pk.trans (pkt1_rej hs)
      rw [hj,cond_true] at P
      refine ⟨fun hp=>holds_t (holds_t_of (N _ hf1.2) ⟨_,Le.refl _,A w2 (P.trans ?_)⟩),fun hp=>holds_t (holds_t_of (N _ hf3.2) ⟨_,Le.refl _,A w4 (P.trans ?_)⟩)⟩
      · rw [hp,E2]; rfl
      · rw [hp,E4]; rfl
  · obtain rfl:ic=9:=eq_of_beq e9
    refine ⟨fun hs=>?_,fun hs=>off (pk.trans (pkt1_off (by decide) (by show (st != 9||_)=true; rw [bne,hs]; rfl)))⟩
    have hs:(st != 9)=false:=by rw [bne,hs]; rfl
    have P:=pk.trans (pkt1_req hs)
    refine ⟨fun hl=>?_,fun hl=>off (P.trans (by rw [det (show ix.len<4 by have:=odf hl; omega)]; rfl))⟩
    have hl:=odt hl
    rw [def_ (show ¬ ix.len<4 by omega),Bool.false_or] at P
    have hm:=enc7_le h1
    have sl:(ix.sub 0 4).len=4:=sub_len (by omega) (by omega)
    have hq:(decide ((ix.sub 0 4).len=4∧(4:Nat)=4)&&(bytesB (ix.sub 0 4)&&bytesB (mgD mg)))=true:=by rw [det ⟨sl,rfl⟩,bytes_sub hx (by omega) (by omega),beD_bytes]; rfl
    refine holds_t_of (det ⟨by omega,by omega,by omega,by omega⟩) (holds_t_of (wrap64_ok mg) (holds_t_of hq ⟨fun he=>?_,fun he=>off (P.trans ?_)⟩))
    · rw [Bool.not_eq_true'] at he
      have hd:decide ((4+(ix.sub 4 (Int.toNat (ix.len:Int))).len)*1≤140737488355328)=true:=by
        rw [Int.toNat_natCast,sub_len (by omega) (by omega)]
        exact det (by omega)
      refine holds_t_of (det ⟨by omega,by omega,by omega,by omega⟩) (holds_t_of (wrap64_ok mg) (holds_t_of hd (holds_t (holds_t_of (N _ hf5.2) ⟨_,Le.refl _,A w6 (P.trans ?_)⟩))))
      rw [show eqB (ix.sub 0 4) (mgD mg)=false from he,E6]; rfl
    · rw [Bool.not_eq_false'] at he
      rw [show eqB (ix.sub 0 4) (mgD mg)=true from he]; rfl
  · obtain rfl:ic=10:=eq_of_beq e10
    refine ⟨fun hs=>?_,fun hs=>off (pk.trans (pkt1_off (by decide) (by show (st != 9||_)=true; rw [bne,hs]; rfl)))⟩
    have hs:(st != 9)=false:=by rw [bne,hs]; rfl
    have P:=pk.trans (pkt1_rep hs)
    refine ⟨fun hl=>?_,fun hl=>off (P.trans (by rw [det (show ix.len<4 by have:=odf hl; omega)]; rfl))⟩
    have hl:=odt hl
    rw [def_ (show ¬ ix.len<4 by omega),Bool.false_or] at P
    have sl:(ix.sub 0 4).len=4:=sub_len (by omega) (by omega)
    have hq:(decide ((ix.sub 0 4).len=4∧(4:Nat)=4)&&(bytesB (ix.sub 0 4)&&bytesB (mgD mg)))=true:=by rw [det ⟨sl,rfl⟩,bytes_sub hx (by omega) (by omega),beD_bytes]; rfl
    refine holds_t_of (det ⟨by omega,by omega,by omega,by omega⟩) (holds_t_of (wrap64_ok mg) (holds_t_of hq ⟨fun he=>?_,fun he=>off (P.trans ?_)⟩))
    · rw [Bool.not_eq_true'] at he
      exact ⟨_,le_two' (le_agg (leL_cons (Le.refl _) (leL_cons (Le.refl _) (leL_cons (Le.refl _) (leL_cons (Le.refl _) (leL_cons (Le.refl _) (leL_cons (Le.refl _) (leL_cons (Le.refl _) (leL_cons (Le.refl _) (leL_cons (Le.refl _) (leL_cons (Le.refl _) (leL_cons (le_int rfl) (leL_cons (Le.refl _) leL_nil))))))))))))) (le_nil rfl) (le_nil rfl),A ⟨mru,mc,mt,mf,wt,ec,lo,st,id,rq,d,ct,tm,nk,mg,pr,mu,0,ne,tk,.l [],.l []⟩ (P.trans (by rw [show eqB (ix.sub 0 4) (mgD mg)=false from he]; rfl))⟩
    · rw [Bool.not_eq_false'] at he
      rw [show eqB (ix.sub 0 4) (mgD mg)=true from he]; rfl
  · obtain rfl:ic=11:=eq_of_beq e11
    exact off (pk.trans (pkt1_off (by decide) (Bool.or_true _)))
  · refine holds_t (holds_t_of (N _ hf7.2) ⟨_,Le.refl _,A w8 (pk.trans ((pkt1_ruc ?_).trans E8.symm))⟩)
    rw [beq_eq_false_iff_ne] at e1 e2 e3 e4 e5 e6 e7 e8 e9 e10 e11
    omega
theorem cntN_rng {i:Int} (h:0≤i∧i≤1000):0≤cntN i∧cntN i≤1000:=by
  unfold cntN imax
  by_cases h0:i=0
  · subst h0
    have:IntKind.wrap .i64 (0 - 1)=-1:=by decide
    rw [this]; decide
  · rw [i64_id ⟨by omega,by omega⟩]
    split <;> omega
def soundA (a:AuV):Bool:=soundB a.st a.id a.rq a.d a.ct a.tm a.nk
def neOk (ec st ne:Int):Prop:=ne=0∨(st=9∧0<ec∧1≤ne∧ne≤1099512676352)
structure Kp (ec tk:Int) (a:AuV) (r:DoneV):Prop where
  snd:soundA a=true→soundA r.a=true
  nec:∀ ne,neOk ec a.st ne→neOk ec r.a.st (flN r.did ec tk ne r.did.len)
abbrev auW (w:WkV):AuV:=⟨w.st,w.id,w.rq,w.d,w.ct,w.tm,w.nk⟩
theorem lisW_iff (w:WkV):lisW w=true↔fitsB w.mru w.mc w.mt w.mf w.wt w.ec w.lo=true∧(1≤w.mg∧w.mg≤4294967295)∧(0≤w.pr∧w.pr≤4294967295)∧(128≤w.mu∧w.mu≤1492)∧(0≤w.pe∧w.pe≤1000)∧soundA (auW w)=true∧neOk w.ec w.st w.ne:=lisB_iff _ _ _ _ _ _ _ _ _ _ _ _ _ _ _ _ _ _ _
theorem ack_of {r d:D} {nk mo:Int} (h:ansC r d nk mo=2):(oddL r d).len=0∧(nakL r d).len=0:=by
  unfold ansC at h
  cases hr:okR r
  · rw [hr,cond_false] at h; exact absurd h (by decide)
  rw [hr,cond_true] at h
  by_cases h1:0<(oddL r d).len
  · rw [if_pos h1] at h; exact absurd h (by decide)
  rw [if_neg h1] at h
  by_cases h2:(nakL r d).len=0
  · exact ⟨by omega,h2⟩
  rw [if_neg h2] at h
  by_cases h3:mo≤nk∧0<(bdL r d).len
  · rw [if_pos h3] at h; exact absurd h (by decide)
  · rw [if_neg h3] at h; exact absurd h (by decide)
def FNw:List AV→RT AV
  | [.agg [.sc false (.int .i64 a),.sc false (.int .i64 b),.sc false (.int .i64 c),.sc false (.int .i64 e),.sc false (.int .i64 f),.sc false (.int .i64 g),.sc false (.int .i64 h)],.sc false (.int .i64 m)]=>need false (newB a b c e f g h m) 320 (.ok (newY a m))
  | _=>.bad 320
abbrev lK (st id rq:Int) (d:D) (ct tm nk mg pr mu pe ne:Int):AV:=.agg [.sc true (.int .i64 st),ai id,ai rq,.sl true opS d none,ai ct,ai tm,ai nk,ai mg,ai pr,ai mu,ai pe,ai ne]
abbrev nlO (es:List Sh):AV:=.sl true es (.l []) none
def gd (lo md x:Int):Int:=IntKind.wrap .i64 (lo+IntKind.wrap .i64 (Int.tmod (IntKind.wrap .u64 x) md))
def gd0 (md x:Int):Int:=IntKind.wrap .i64 (Int.tmod (IntKind.wrap .u64 x) md)
theorem ldm_tree (mru mc mt mf wt ec lo st id rq:Int) (d:D) (ct tm nk mg pr mu pe ne e tk:Int):treeF (pureS Tryz.prog 55 FLdo) [cnfA mru mc mt mf wt ec lo,lcpA st id rq d ct tm nk mg pr mu pe ne,ai e,ai tk] =
RT.br (optsB d) (RT.ok (AV.tup [AV.agg [zi (WkV.st (ldoW (WkV.mk mru mc mt mf wt ec lo st id rq d ct tm nk mg pr mu pe ne tk (D.l []) (D.l [])) e)),zi (WkV.id (ldoW (WkV.mk mru mc mt mf wt ec lo st id rq d ct tm nk mg pr mu pe ne tk (D.l []) (D.l [])) e)),zi (WkV.rq (ldoW (WkV.mk mru mc mt mf wt ec lo st id rq d ct tm nk mg pr mu pe ne tk (D.l []) (D.l [])) e)),zs zO (WkV.d (ldoW (WkV.mk mru mc mt mf wt ec lo st id rq d ct tm nk mg pr mu pe ne tk (D.l []) (D.l [])) e)),zi (WkV.ct (ldoW (WkV.mk mru mc mt mf wt ec lo st id rq d ct tm nk mg pr mu pe ne tk (D.l []) (D.l [])) e)),zi (WkV.tm (ldoW (WkV.mk mru mc mt mf wt ec lo st id rq d ct tm nk mg pr mu pe ne tk (D.l []) (D.l [])) e)),zi (WkV.nk (ldoW (WkV.mk mru mc mt mf wt ec lo st id rq d ct tm nk mg pr mu pe ne tk (D.l []) (D.l [])) e)),zi (WkV.mg (ldoW (WkV.mk mru mc mt mf wt ec lo st id rq d ct tm nk mg pr mu pe ne tk (D.l []) (D.l [])) e)),zi (WkV.pr (ldoW (WkV.mk mru mc mt mf wt ec lo st id rq d ct tm nk mg pr mu pe ne tk (D.l []) (D.l [])) e)),zi (WkV.mu (ldoW (WkV.mk mru mc mt mf wt ec lo st id rq d ct tm nk mg pr mu pe ne tk (D.l []) (D.l [])) e)),zi (WkV.pe (ldoW (WkV.mk mru mc mt mf wt ec lo st id rq d ct tm nk mg pr mu pe ne tk (D.l []) (D.l [])) e)),zi (WkV.ne (ldoW (WkV.mk mru mc mt mf wt ec lo st id rq d ct tm nk mg pr mu pe ne tk (D.l []) (D.l [])) e))],zs zC (WkV.out (ldoW (WkV.mk mru mc mt mf wt ec lo st id rq d ct tm nk mg pr mu pe ne tk (D.l []) (D.l [])) e)),zs zN (WkV.did (ldoW (WkV.mk mru mc mt mf wt ec lo st id rq d ct tm nk mg pr mu pe ne tk (D.l []) (D.l [])) e))])) (RT.bad 307):=by kernel_rfl
theorem gd_rng {lo md x:Int} (h:0≤lo∧lo≤1000) (hm:0<md∧md≤100000):lo≤gd lo md x∧gd lo md x<lo+md:=by
  have hw:0≤IntKind.wrap .u64 x:=by have:IntKind.wrap .u64 x=x % 18446744073709551616:=rfl; omega
  have h1:=Int.emod_nonneg (IntKind.wrap .u64 x) (show md≠0 by omega)
  have h2:=Int.emod_lt_of_pos (IntKind.wrap .u64 x) hm.1
  unfold gd
  rw [Int.tmod_eq_emod_of_nonneg hw]
  rw [i64_id (n:=IntKind.wrap .u64 x % md) ⟨by omega,by omega⟩,i64_id ⟨by omega,by omega⟩]
  omega
theorem gd0_rng {md x:Int} (hm:0<md∧md≤100000):0≤gd0 md x∧gd0 md x<md:=by
  have hw:0≤IntKind.wrap .u64 x:=by have:IntKind.wrap .u64 x=x % 18446744073709551616:=rfl; omega
  have h1:=Int.emod_nonneg (IntKind.wrap .u64 x) (show md≠0 by omega)
  have h2:=Int.emod_lt_of_pos (IntKind.wrap .u64 x) hm.1
  unfold gd0
  rw [Int.tmod_eq_emod_of_nonneg hw]
  rw [i64_id (n:=IntKind.wrap .u64 x % md) ⟨by omega,by omega⟩]
  omega
theorem lnw_soundF:SoundF Tryz.prog 46 (pureS Tryz.prog 46 FNw):=by
  refine pure_mono lnew_soundF fun args K H=>?_
  unfold FNw at H
  split at H
  · obtain ⟨hc,H⟩:=need_holds H
    exact ⟨fun _=>H,fun h=>by rw [hc] at h; cases h⟩
  · exact H.elim
theorem doB_of {w:WkV} {e:Int} (h:onB w=true) (he:(rfcE w.st e==0)=true):doB (rlM (rlA w.mg)) (rlG (rlA w.mg)) w.mc w.mt w.mf w.wt (auW w) e w.tick=true:=by
  unfold onB at h
  rw [Bool.and_eq_true] at h
  obtain ⟨h1,ht⟩:=h
  obtain ⟨hf,hm,_,_,_,hs,_⟩:=(lisW_iff w).1 h1
  unfold doB mayB
  rw [Bool.and_eq_true,Bool.and_eq_true,Bool.and_eq_true]
  refine ⟨⟨setB_fits hf (oth_may hm.1 hm.2).1,hs,?_⟩,he⟩
  rw [Bool.and_eq_true] at ht
  exact det ⟨odt ht.1,odt ht.2⟩
theorem do_01 {mru mc mt mf wt ec lo id rq:Int} {d:D} {ct tm nk mg pr mu pe ne tk:Int} (h:onB ⟨mru,mc,mt,mf,wt,ec,lo,0,id,rq,d,ct,tm,nk,mg,pr,mu,pe,ne,tk,.l [],.l []⟩=true) :
    ldoW ⟨mru,mc,mt,mf,wt,ec,lo,0,id,rq,d,ct,tm,nk,mg,pr,mu,pe,ne,tk,.l [],.l []⟩ 1=⟨mru,mc,mt,mf,wt,ec,lo,2,id,rq,d,ct,0,nk,mgV d mg,pr,mu,pe,ne,tk,.l [],.l []⟩:=by
  unfold ldoW
  rw [h]
  show evW _ (rlA mg) 1 0 0 (.l []) 0 0 (.l [])=_
  unfold evW evR
  rw [doW_on (doB_of h rfl)]
  rfl
theorem do_23 {mru mc mt mf wt ec lo id rq:Int} {d:D} {ct tm nk mg pr mu pe ne tk:Int} (h:onB ⟨mru,mc,mt,mf,wt,ec,lo,2,id,rq,d,ct,tm,nk,mg,pr,mu,pe,ne,tk,.l [],.l []⟩=true) :
    ldoW ⟨mru,mc,mt,mf,wt,ec,lo,2,id,rq,d,ct,tm,nk,mg,pr,mu,pe,ne,tk,.l [],.l []⟩ 3=⟨mru,mc,mt,mf,wt,ec,lo,6,numN id,numN id,d,cntN mc,IntKind.wrap .i64 (tk+wt),nk,mgV d mg,pr,mu,pe,ne,tk,.l [.t [.ki 1,.i (numN id),encO d]],.l [.t [.i 5],.t [.i 7]]⟩:=by
  unfold ldoW
  rw [h]
  show evW _ (rlA mg) 3 0 0 (.l []) 0 0 (.l [])=_
  unfold evW evR
  rw [doW_on (doB_of h rfl)]
  rfl
def c61 (mg nk mf ii:Int) (x:D):Bool:=enc7E 1 ii x==0&&(decE x==0&&(ansC (rlA mg) (decO x) nk mf==2&&encE (decO x)==0))
def c82 (rq ii:Int) (d x:D):Bool:=enc7E 2 ii x==0&&(ii==rq&&x.str.toList==(encO d).str.toList)
theorem lpm_tree (mru mc mt mf wt ec lo st id rq:Int) (d:D) (ct tm nk mg pr mu pe ne ic ii:Int) (x:D) (tk:Int):treeF (pureS Tryz.prog 70 FLpk) [cnfA mru mc mt mf wt ec lo,lcpA st id rq d ct tm nk mg pr mu pe ne,ctlA ic ii x,ai tk] =
RT.br (bytesB x&&optsB d) (RT.ok (AV.tup [AV.agg [zi (WkV.st (pktW (WkV.mk mru mc mt mf wt ec lo st id rq d ct tm nk mg pr mu pe ne tk (D.l []) (D.l [])) ic ii x)),zi (WkV.id (pktW (WkV.mk mru mc mt mf wt ec lo st id rq d ct tm nk mg pr mu pe ne tk (D.l []) (D.l [])) ic ii x)),zi (WkV.rq (pktW (WkV.mk mru mc mt mf wt ec lo st id rq d ct tm nk mg pr mu pe ne tk (D.l []) (D.l [])) ic ii x)),zs zO (WkV.d (pktW (WkV.mk mru mc mt mf wt ec lo st id rq d ct tm nk mg pr mu pe ne tk (D.l []) (D.l [])) ic ii x)),zi (WkV.ct (pktW (WkV.mk mru mc mt mf wt ec lo st id rq d ct tm nk mg pr mu pe ne tk (D.l []) (D.l [])) ic ii x)),zi (WkV.tm (pktW (WkV.mk mru mc mt mf wt ec lo st id rq d ct tm nk mg pr mu pe ne tk (D.l []) (D.l [])) ic ii x)),zi (WkV.nk (pktW (WkV.mk mru mc mt mf wt ec lo st id rq d ct tm nk mg pr mu pe ne tk (D.l []) (D.l [])) ic ii x)),zi (WkV.mg (pktW (WkV.mk mru mc mt mf wt ec lo st id rq d ct tm nk mg pr mu pe ne tk (D.l []) (D.l [])) ic ii x)),zi (WkV.pr (pktW (WkV.mk mru mc mt mf wt ec lo st id rq d ct tm nk mg pr mu pe ne tk (D.l []) (D.l [])) ic ii x)),zi (WkV.mu (pktW (WkV.mk mru mc mt mf wt ec lo st id rq d ct tm nk mg pr mu pe ne tk (D.l []) (D.l [])) ic ii x)),zi (WkV.pe (pktW (WkV.mk mru mc mt mf wt ec lo st id rq d ct tm nk mg pr mu pe ne tk (D.l []) (D.l [])) ic ii x)),zi (WkV.ne (pktW (WkV.mk mru mc mt mf wt ec lo st id rq d ct tm nk mg pr mu pe ne tk (D.l []) (D.l [])) ic ii x))],zs zC (WkV.out (pktW (WkV.mk mru mc mt mf wt ec lo st id rq d ct tm nk mg pr mu pe ne tk (D.l []) (D.l [])) ic ii x)),zs zN (WkV.did (pktW (WkV.mk mru mc mt mf wt ec lo st id rq d ct tm nk mg pr mu pe ne tk (D.l []) (D.l [])) ic ii x))])) (RT.bad 313):=by kernel_rfl
theorem ansO_2 {r d:D} {nk mo:Int} (h:ansC r d nk mo=2):ansO r d nk mo=d:=by
  obtain ⟨h1,h2⟩:=ack_of h
  have hr:okR r=true:=by
    cases hr:okR r
    · unfold ansC at h; rw [hr,cond_false] at h; exact absurd h (by decide)
    · rfl
  unfold ansO
  rw [hr,cond_true,if_neg (by omega),if_pos h2]
theorem mayB_of {w:WkV} (h:onB w=true):mayB (rlM (rlA w.mg)) (rlG (rlA w.mg)) w.mc w.mt w.mf w.wt w.st w.id w.rq w.d w.ct w.tm w.nk w.tick=true:=by
  unfold onB at h
  rw [Bool.and_eq_true] at h
  obtain ⟨h1,ht⟩:=h
  obtain ⟨hf,hm,_,_,_,hs,_⟩:=(lisW_iff w).1 h1
  unfold mayB
  rw [Bool.and_eq_true,Bool.and_eq_true]
  refine ⟨setB_fits hf (oth_may hm.1 hm.2).1,hs,?_⟩
  rw [Bool.and_eq_true] at ht
  exact det ⟨odt ht.1,odt ht.2⟩
theorem one_ki {c:Int} {y z:D}:Le (asl ctS (.l [.t [.i c,y,z]])) (.sl true ctS (.l [.t [.ki c,y,z]]) none):=by
  have l1:(D.l [.t [.i c,y,z]]).toL=[.t [.i c,y,z]]:=toL_l (by unfold maxLen; simp)
  have l2:(D.l [.t [.ki c,y,z]]).toL=[.t [.ki c,y,z]]:=toL_l (by unfold maxLen; simp)
  refine le_sl (by unfold D.len; rw [l1,l2]; rfl) fun i hi=>?_
  have hi:i<1:=by unfold D.len at hi; rw [l1] at hi; exact hi
  unfold D.get
  rw [l1,l2]
  match i,hi with
  | 0,_=>exact ⟨rfl,rfl,rfl,trivial⟩
theorem le_lk {v:WkV} {s:Int} {o x:AV} (h1:v.st=s) (h2:Le (asl ctS v.out) o) (h3:Le (asl acS v.did) x):Le (wkA v) (.tup [lK s v.id v.rq v.d v.ct v.tm v.nk v.mg v.pr v.mu v.pe v.ne,o,x]) :=
  le_two' (le_agg (leL_cons (le_int h1) (leL_cons (Le.refl _) (leL_cons (Le.refl _) (leL_cons (le_raw rfl) fun _ _ h=>h))))) h2 h3
def rqD (a m:Int):D:=.l [.t [.i 1],.t [.i 4],.i (byI (uns a) 2 0),.i (byI (uns a) 2 1),.t [.i 5],.t [.i 6],.i (byI (uns m) 4 0),.i (byI (uns m) 4 1),.i (byI (uns m) 4 2),.i (byI (uns m) 4 3)]
theorem enc_rq (a m:Int):encO (asksD a m)=rqD a m:=by kernel_rfl
theorem enc7_rq (a m:Int) (c:Int) (hc:0≤c∧c≤255):enc7E c 1 (rqD a m)=0:=by
  have hl:(rqD a m).len=10:=by kernel_rfl
  unfold enc7E
  rw [if_pos ⟨hc,by decide⟩,if_neg (by omega)]
theorem byI_val {n:Int} (hn:0≤n) (s i:Nat):byI n s i=n / 2 ^ (8*(s - 1 - i)) % 256:=by
  unfold byI
  rw [← beByte_int,Int.toNat_of_nonneg hn]
theorem uns_id {n:Int} (h:0≤n∧n<18446744073709551616):uns n=n:=wrap_u64 h
theorem rq_bytes (a m:Int):bytesB (rqD a m)=true:=by
  have hl:(rqD a m).toL=[.t [.i 1],.t [.i 4],.i (byI (uns a) 2 0),.i (byI (uns a) 2 1),.t [.i 5],.t [.i 6],.i (byI (uns m) 4 0),.i (byI (uns m) 4 1),.i (byI (uns m) 4 2),.i (byI (uns m) 4 3)]:=toL_l (by unfold maxLen; simp)
  refine det fun i hi=>?_
  have hi:i<10:=by unfold D.len at hi; rw [hl] at hi; exact hi
  unfold byN D.get
  rw [hl]
  match i,hi with
  | 0,_=>exact ⟨(by decide:(0:Int)≤1),(by decide:(1:Int)<256)⟩
  | 1,_=>exact ⟨(by decide:(0:Int)≤4),(by decide:(4:Int)<256)⟩
  | 2,_=>exact byI_rng (uns a) 2 0
  | 3,_=>exact byI_rng (uns a) 2 1
  | 4,_=>exact ⟨(by decide:(0:Int)≤5),(by decide:(5:Int)<256)⟩
  | 5,_=>exact ⟨(by decide:(0:Int)≤6),(by decide:(6:Int)<256)⟩
  | 6,_=>exact byI_rng (uns m) 4 0
  | 7,_=>exact byI_rng (uns m) 4 1
  | 8,_=>exact byI_rng (uns m) 4 2
  | 9,_=>exact byI_rng (uns m) 4 3
theorem four_bytes {m:Int} (h:0≤m∧m<4294967296):256*(256*(256*byI (uns m) 4 0+byI (uns m) 4 1)+byI (uns m) 4 2)+byI (uns m) 4 3=m:=by
  rw [uns_id ⟨h.1,by omega⟩,byI_val h.1,byI_val h.1,byI_val h.1,byI_val h.1]
  show 256*(256*(256*(m / 2 ^ 24 % 256)+m / 2 ^ 16 % 256)+m / 2 ^ 8 % 256)+m / 2 ^ 0 % 256=m
  have e3:(2:Int) ^ 24=16777216:=by decide
  have e2:(2:Int) ^ 16=65536:=by decide
  have e1:(2:Int) ^ 8=256:=by decide
  have e0:(2:Int) ^ 0=1:=by decide
  rw [e3,e2,e1,e0]
  omega
theorem mg_own {a m:Int} (h:0≤m∧m<4294967296):mgV (asksD a m) m=m:=by
  have e:mgV (asksD a m) m=bif (256*(256*(256*byI (uns m) 4 0+byI (uns m) 4 1)+byI (uns m) 4 2)+byI (uns m) 4 3) != 0 then 256*(256*(256*byI (uns m) 4 0+byI (uns m) 4 1)+byI (uns m) 4 2)+byI (uns m) 4 3 else m:=by kernel_rfl
  rw [e,four_bytes h]
  cases m != 0 <;> rfl
theorem filD_no {p:Nat→Bool} {f:Nat→D} {n:Nat} (hn:n≤maxLen) (h:∀ i,i<n→p i=false):(filD p f n).len=0:=by
  unfold D.len
  rw [filD_toL hn,List.length_map,List.length_eq_zero_iff,List.filter_eq_nil_iff]
  intro i hi
  rw [h i (List.mem_range.1 hi)]
  exact Bool.false_ne_true
theorem c82_rq (a m:Int):c82 1 1 (asksD a m) (rqD a m)=true:=by
  unfold c82
  rw [enc7_rq _ _ 2 (by decide),enc_rq,beq_self_eq_true,beq_self_eq_true,beq_self_eq_true]; rfl
abbrev acK (l:List D):AV:=.sl true acS (.l l) none
def FPl:List AV→RT AV
  | [.agg [.sc false (.int .i64 mru),.sc false (.int .i64 mc),.sc false (.int .i64 mt),.sc false (.int .i64 mf),.sc false (.int .i64 wt),.sc false (.int .i64 ec),.sc false (.int .i64 lo)],
     .agg [.sc false (.int .i64 st),.sc false (.int .i64 id),.sc false (.int .i64 rq),.sl false [.int .i64,.sl [.int .u8]] d none,.sc false (.int .i64 ct),.sc false (.int .i64 tm),.sc false (.int .i64 nk),.sc false (.int .i64 mg),.sc false (.int .i64 pr),.sc false (.int .i64 mu),.sc false (.int .i64 pe),.sc false (.int .i64 ne)],.agg [.sc false (.int .i64 ic),.sc false (.int .i64 ii),.sl false [.int .u8] x none],.sc false (.int .i64 tk)] =>
    need false (onB ⟨mru,mc,mt,mf,wt,ec,lo,st,id,rq,d,ct,tm,nk,mg,pr,mu,pe,ne,tk,.l [],.l []⟩&&(bytesB x&&optsB d)) 335
      (bif st==6&&ic==2 then need false (c82 rq ii d x) 336 (.ok (.tup [lK 7 id rq d mc tm nk (mgV d mg) pr mu pe ne,nlO ctS,acK [.t [.ki 5]]]))
       else bif st==7&&ic==1 then need false (c61 mg nk mf ii x) 337 (.ok (.tup [lK 9 id rq d ct 0 0 (mgV d mg) (brV (decO x) 5 0) (brV (decO x) 1 1492) 0 (bif decide (0<ec) then IntKind.wrap .i64 (tk+ec) else 0),.sl true ctS (.l [.t [.ki 2,.i ii,encO (decO x)]]) none,acK [.t [.ki 8],.t [.ki 1]]]))
       else .bad 338)
  | _=>.bad 335
theorem le_ac1 {a:Int}:Le (asl acS (.l [.t [.i a]])) (acK [.t [.ki a]]):=by
  have l1:(D.l [.t [.i a]]).toL=[.t [.i a]]:=toL_l (by unfold maxLen; simp)
  have l2:(D.l [.t [.ki a]]).toL=[.t [.ki a]]:=toL_l (by unfold maxLen; simp)
  refine le_sl (by unfold D.len; rw [l1,l2]; rfl) fun i hi=>?_
  have hi:i<1:=by unfold D.len at hi; rw [l1] at hi; exact hi
  unfold D.get
  rw [l1,l2]
  match i,hi with
  | 0,_=>exact ⟨rfl,trivial⟩
theorem le_ac2 {a b:Int}:Le (asl acS (.l [.t [.i a],.t [.i b]])) (acK [.t [.ki a],.t [.ki b]]):=by
  have l1:(D.l [.t [.i a],.t [.i b]]).toL=[.t [.i a],.t [.i b]]:=toL_l (by unfold maxLen; simp)
  have l2:(D.l [.t [.ki a],.t [.ki b]]).toL=[.t [.ki a],.t [.ki b]]:=toL_l (by unfold maxLen; simp)
  refine le_sl (by unfold D.len; rw [l1,l2]; rfl) fun i hi=>?_
  have hi:i<2:=by unfold D.len at hi; rw [l1] at hi; exact hi
  unfold D.get
  rw [l1,l2]
  match i,hi with
  | 0,_=>exact ⟨rfl,trivial⟩
  | 1,_=>exact ⟨rfl,trivial⟩
theorem pk_62 {mru mc mt mf wt ec lo id rq:Int} {d:D} {ct tm nk mg pr mu pe ne ii:Int} {x:D} {tk:Int} (h:onB ⟨mru,mc,mt,mf,wt,ec,lo,6,id,rq,d,ct,tm,nk,mg,pr,mu,pe,ne,tk,.l [],.l []⟩=true) (hc:c82 rq ii d x=true) :
    pktW ⟨mru,mc,mt,mf,wt,ec,lo,6,id,rq,d,ct,tm,nk,mg,pr,mu,pe,ne,tk,.l [],.l []⟩ 2 ii x=⟨mru,mc,mt,mf,wt,ec,lo,7,id,rq,d,mc,tm,nk,mgV d mg,pr,mu,pe,ne,tk,.l [],.l [.t [.i 5]]⟩:=by
  unfold c82 at hc
  rw [Bool.and_eq_true,Bool.and_eq_true] at hc
  obtain ⟨hE,hI,hS⟩:=hc
  have e1:(enc7E 2 ii x != 0)=false:=by rw [bne,hE]; rfl
  have e2:=mayB_of h
  dsimp only at e2
  have hp:cnR ⟨mru,mc,mt,mf,wt,ec,lo,6,id,rq,d,ct,tm,nk,mg,pr,mu,pe,ne,tk,.l [],.l []⟩ (rlA mg) 2 ii x=⟨⟨7,id,rq,d,mc,tm,nk⟩,.l [],.l [.t [.i 5]]⟩:=by
    unfold cnR pkW
    dsimp only
    rw [e1,e2,hI,hS]
    show doW (rlM (rlA mg)) (rlG (rlA mg)) mc mt mf wt ⟨6,id,rq,d,ct,tm,nk⟩ 9 2 ii x 0 0 (.l []) tk=_
    have hB:doB (rlM (rlA mg)) (rlG (rlA mg)) mc mt mf wt ⟨6,id,rq,d,ct,tm,nk⟩ 9 tk=true:=doB_of h rfl
    rw [doW_on hB]
    rfl
  unfold pktW
  rw [hE,h]
  show pkt1 _ 2 ii x=_
  rw [pkt1_cnf (by decide)]
  show cnfW _ (rlA mg) 2 ii x=_
  unfold cnfW
  rw [hp]
  rfl
theorem pk_71 {mru mc mt mf wt ec lo id rq:Int} {d:D} {ct tm nk mg pr mu pe ne ii:Int} {x:D} {tk:Int} (h:onB ⟨mru,mc,mt,mf,wt,ec,lo,7,id,rq,d,ct,tm,nk,mg,pr,mu,pe,ne,tk,.l [],.l []⟩=true) (hc:c61 mg nk mf ii x=true) :
    pktW ⟨mru,mc,mt,mf,wt,ec,lo,7,id,rq,d,ct,tm,nk,mg,pr,mu,pe,ne,tk,.l [],.l []⟩ 1 ii x=⟨mru,mc,mt,mf,wt,ec,lo,9,id,rq,d,ct,0,0,mgV d mg,brV (decO x) 5 0,brV (decO x) 1 1492,0,bif decide (0<ec) then IntKind.wrap .i64 (tk+ec) else 0,tk,.l [.t [.i 2,.i ii,encO (decO x)]],.l [.t [.i 8],.t [.i 1]]⟩:=by
  unfold c61 at hc
  rw [Bool.and_eq_true,Bool.and_eq_true,Bool.and_eq_true] at hc
  obtain ⟨hE,hD,hA,hO⟩:=hc
  have hA:=eq_of_beq hA
  have eO:=ansO_2 hA
  have e1:(enc7E 1 ii x != 0)=false:=by rw [bne,hE]; rfl
  have e2:=mayB_of h
  dsimp only at e2
  have e3:(decE x != 0)=false:=by rw [bne,hD]; rfl
  have e4:(encE (decO x) != 0)=false:=by rw [bne,hO]; rfl
  have hp:cnR ⟨mru,mc,mt,mf,wt,ec,lo,7,id,rq,d,ct,tm,nk,mg,pr,mu,pe,ne,tk,.l [],.l []⟩ (rlA mg) 1 ii x=⟨⟨9,id,rq,d,ct,0,0⟩,.l [.t [.i 2,.i ii,encO (decO x)]],.l [.t [.i 8],.t [.i 1]]⟩:=by
    unfold cnR pkW
    dsimp only
    rw [e1,e2,eO,e3,e4,hA]
    show doW (rlM (rlA mg)) (rlG (rlA mg)) mc mt mf wt ⟨7,id,rq,d,ct,tm,nk⟩ 7 1 ii x 2 ii (encO (decO x)) tk=_
    have hB:doB (rlM (rlA mg)) (rlG (rlA mg)) mc mt mf wt ⟨7,id,rq,d,ct,tm,nk⟩ 7 tk=true:=doB_of h rfl
    rw [doW_on hB]
    rfl
  unfold pktW
  rw [hE,h]
  show pkt1 _ 1 ii x=_
  rw [pkt1_cnf (by decide)]
  show cnfW _ (rlA mg) 1 ii x=_
  unfold cnfW
  rw [hp]
  rfl
theorem lpl_soundF:SoundF Tryz.prog 70 (pureS Tryz.prog 70 FPl):=by
  refine pureS_tree lpk_soundF fun args K ho H=>?_
  unfold FPl at H
  split at H
  · rename_i mru mc mt mf wt ec lo st id rq d ct tm nk mg pr mu pe ne ic ii x tk
    obtain ⟨hc,H2⟩:=need_holds H
    clear H
    rw [Bool.and_eq_true] at hc
    obtain ⟨hon,hb⟩:=hc
    rw [lpm_tree]
    refine holds_t_of hb ?_
    have go:∀ (v:WkV) (y:AV),pktW ⟨mru,mc,mt,mf,wt,ec,lo,st,id,rq,d,ct,tm,nk,mg,pr,mu,pe,ne,tk,.l [],.l []⟩ ic ii x=v→Le (wkA v) y→K y→∃ y,Le (wkA (pktW ⟨mru,mc,mt,mf,wt,ec,lo,st,id,rq,d,ct,tm,nk,mg,pr,mu,pe,ne,tk,.l [],.l []⟩ ic ii x)) y∧K y:=by
      rintro v y rfl h1 h2; exact ⟨y,h1,h2⟩
    cases h1:st==6&&ic==2
    · rw [h1,cond_false] at H2
      cases h2:st==7&&ic==1
      · rw [h2] at H2; exact H2.elim
      · rw [h2,cond_true] at H2
        obtain ⟨hq,H2⟩:=need_holds H2
        rw [Bool.and_eq_true] at h2
        obtain rfl:st=7:=eq_of_beq h2.1
        obtain rfl:ic=1:=eq_of_beq h2.2
        exact go _ _ (pk_71 hon hq) (le_lk rfl one_ki le_ac2) H2
    · rw [h1,cond_true] at H2
      obtain ⟨hq,H2⟩:=need_holds H2
      rw [Bool.and_eq_true] at h1
      obtain rfl:st=6:=eq_of_beq h1.1
      obtain rfl:ic=2:=eq_of_beq h1.2
      exact go _ _ (pk_62 hon hq) (le_lk rfl (le_raw rfl) le_ac1) H2
  · exact H.elim
def FDl:List AV→RT AV
  | [.agg [.sc false (.int .i64 mru),.sc false (.int .i64 mc),.sc false (.int .i64 mt),.sc false (.int .i64 mf),.sc false (.int .i64 wt),.sc false (.int .i64 ec),.sc false (.int .i64 lo)],
     .agg [.sc false (.int .i64 st),.sc false (.int .i64 id),.sc false (.int .i64 rq),.sl false [.int .i64,.sl [.int .u8]] d none,.sc false (.int .i64 ct),.sc false (.int .i64 tm),.sc false (.int .i64 nk),.sc false (.int .i64 mg),.sc false (.int .i64 pr),.sc false (.int .i64 mu),.sc false (.int .i64 pe),.sc false (.int .i64 ne)],.sc false (.int .i64 e),.sc false (.int .i64 tk)] =>
    need false (onB ⟨mru,mc,mt,mf,wt,ec,lo,st,id,rq,d,ct,tm,nk,mg,pr,mu,pe,ne,tk,.l [],.l []⟩&&optsB d) 346
      (bif st==0&&e==1 then .ok (.tup [lK 2 id rq d ct 0 nk (mgV d mg) pr mu pe ne,nlO ctS,nlO acS])
       else bif st==2&&e==3 then .ok (.tup [lK 6 (numN id) (numN id) d (cntN mc) (IntKind.wrap .i64 (tk+wt)) nk (mgV d mg) pr mu pe ne,.sl true ctS (.l [.t [.ki 1,.i (numN id),encO d]]) none,acK [.t [.ki 5],.t [.ki 7]]])
       else .bad 347)
  | _=>.bad 346
def mayA (r:D) (mc mt mf wt:Int) (a:AuV) (tk:Int):Bool:=isRl r&&mayB (rlM r) (rlG r) mc mt mf wt a.st a.id a.rq a.d a.ct a.tm a.nk tk
abbrev aK (st id rq:Int) (d:D) (ct tm nk:Int):AV:=.agg [.sc true (.int .i64 st),ai id,ai rq,.sl true opS d none,ai ct,ai tm,ai nk]
def FAd:List AV→RT AV
  | [.agg [.sl false [.int .i64,.int .i64,.int .i64,.int .i64,.int .i64,.int .i64,.bool] r none,.sc false (.int .i64 mc),.sc false (.int .i64 mt),.sc false (.int .i64 mf),.sc false (.int .i64 wt)],
     .agg [.sc false (.int .i64 st),.sc false (.int .i64 id),.sc false (.int .i64 rq),.sl false [.int .i64,.sl [.int .u8]] d none,.sc false (.int .i64 ct),.sc false (.int .i64 tm),.sc false (.int .i64 nk)],.sc false (.int .i64 e),
     .agg [.sc false (.int .i64 ic),.sc false (.int .i64 ii),.sl false [.int .u8] ix none],.agg [.sc false (.int .i64 ac),.sc false (.int .i64 ax),.sl false [.int .u8] ad none],.sc false (.int .i64 tk)]=>need false (mayA r mc mt mf wt ⟨st,id,rq,d,ct,tm,nk⟩ tk) 348
      (bif st==0&&e==1 then .ok (.tup [aK 2 id rq d ct 0 nk,nlO ctS,nlO acS])
       else bif st==2&&e==3 then .ok (.tup [aK 6 (numN id) (numN id) d (cntN mc) (IntKind.wrap .i64 (tk+wt)) nk,.sl true ctS (.l [.t [.ki 1,.i (numN id),encO d]]) none,acK [.t [.ki 5],.t [.ki 7]]])
       else .bad 349)
  | _=>.bad 348
def cRq (r:D) (nk mf ii:Int) (x:D):Bool:=enc7E 1 ii x==0&&(decE x==0&&(ansC r (decO x) nk mf==2&&encE (decO x)==0))
def FAp:List AV→RT AV
  | [.agg [.sl false [.int .i64,.int .i64,.int .i64,.int .i64,.int .i64,.int .i64,.bool] r none,.sc false (.int .i64 mc),.sc false (.int .i64 mt),.sc false (.int .i64 mf),.sc false (.int .i64 wt)],
     .agg [.sc false (.int .i64 st),.sc false (.int .i64 id),.sc false (.int .i64 rq),.sl false [.int .i64,.sl [.int .u8]] d none,.sc false (.int .i64 ct),.sc false (.int .i64 tm),.sc false (.int .i64 nk)],
     .agg [.sc false (.int .i64 ic),.sc false (.int .i64 ii),.sl false [.int .u8] x none],.sc false (.int .i64 tk)]=>need false (mayA r mc mt mf wt ⟨st,id,rq,d,ct,tm,nk⟩ tk&&(bytesB x&&optsB d)) 350
      (bif st==6&&ic==2 then need false (c82 rq ii d x) 351 (.ok (.tup [aK 7 id rq d mc tm nk,nlO ctS,acK [.t [.ki 5]],.sc true (.bool true)]))
       else bif st==7&&ic==1 then need false (cRq r nk mf ii x) 352 (.ok (.tup [aK 9 id rq d ct 0 0,.sl true ctS (.l [.t [.ki 2,.i ii,encO (decO x)]]) none,acK [.t [.ki 8],.t [.ki 1]],.sc true (.bool true)]))
       else .bad 353)
  | _=>.bad 350
theorem rencK_tree (c i:Int) (d:D):treeF (pureS Tryz.prog 35 FEnc7) [ctlA c i d] =
RT.ok (AV.tup [zs zU (enc7D c i d),zi (enc7E c i d)]):=by kernel_rfl
theorem rdecK_tree (b:D):treeF (pureS Tryz.prog 34 FDec7) [asl byS b] =
RT.br (bytesB b) (RT.ok (AV.tup [AV.agg [zi (d7C b),zi (d7I b),zs zU (d7X b)],zi (bif d7B b then 0 else 71)])) (RT.bad 342):=by kernel_rfl
theorem encK_tree (c i:Int) (d:D):treeF (pureS Tryz.prog 121 FEnc7) [ctlA c i d] =
RT.ok (AV.tup [zs zU (enc7D c i d),zi (enc7E c i d)]):=by kernel_rfl
theorem decK_tree (b:D):treeF (pureS Tryz.prog 69 FDec7) [asl byS b] =
RT.br (bytesB b) (RT.ok (AV.tup [AV.agg [zi (d7C b),zi (d7I b),zs zU (d7X b)],zi (bif d7B b then 0 else 71)])) (RT.bad 342):=by kernel_rfl
theorem joinK_tree (p:Int) (d:D):treeF (pureS Tryz.prog 28 FJoin7) [.agg [ai p,asl byS d]] =
RT.ok (AV.tup [zs zU (join7D p d),zi (join7E p d)]):=by kernel_rfl
theorem adK_tree (r:D) (mc mt mf wt st id rq:Int) (d:D) (ct tm nk e ic ii:Int) (ix:D) (ac ax:Int) (ad:D) (tk:Int):treeF (pureS Tryz.prog 164 FDo) [.agg [asl rlS r,ai mc,ai mt,ai mf,ai wt],autA st id rq d ct tm nk,ai e,ctlA ic ii ix,ctlA ac ax ad,ai tk] =
RT.br (isRl r) (RT.ok (AV.tup [AV.agg [zi (AuV.st (DoneV.a (doW (rlM r) (rlG r) mc mt mf wt (AuV.mk st id rq d ct tm nk) e ic ii ix ac ax ad tk))),zi (AuV.id (DoneV.a (doW (rlM r) (rlG r) mc mt mf wt (AuV.mk st id rq d ct tm nk) e ic ii ix ac ax ad tk))),zi (AuV.rq (DoneV.a (doW (rlM r) (rlG r) mc mt mf wt (AuV.mk st id rq d ct tm nk) e ic ii ix ac ax ad tk))),zs zO (AuV.d (DoneV.a (doW (rlM r) (rlG r) mc mt mf wt (AuV.mk st id rq d ct tm nk) e ic ii ix ac ax ad tk))),zi (AuV.ct (DoneV.a (doW (rlM r) (rlG r) mc mt mf wt (AuV.mk st id rq d ct tm nk) e ic ii ix ac ax ad tk))),zi (AuV.tm (DoneV.a (doW (rlM r) (rlG r) mc mt mf wt (AuV.mk st id rq d ct tm nk) e ic ii ix ac ax ad tk))),zi (AuV.nk (DoneV.a (doW (rlM r) (rlG r) mc mt mf wt (AuV.mk st id rq d ct tm nk) e ic ii ix ac ax ad tk)))],zs zC (DoneV.out (doW (rlM r) (rlG r) mc mt mf wt (AuV.mk st id rq d ct tm nk) e ic ii ix ac ax ad tk)),zs zN (DoneV.did (doW (rlM r) (rlG r) mc mt mf wt (AuV.mk st id rq d ct tm nk) e ic ii ix ac ax ad tk))])) (RT.bad 274):=by kernel_rfl
theorem apK_tree (r:D) (mc mt mf wt st id rq:Int) (d:D) (ct tm nk ic ii:Int) (ix:D) (tk:Int):treeF (pureS Tryz.prog 134 FPkt) [.agg [asl rlS r,ai mc,ai mt,ai mf,ai wt],autA st id rq d ct tm nk,ctlA ic ii ix,ai tk] =
RT.br (pkN r d ix) (RT.ok (AV.tup [AV.agg [zi (AuV.st (DoneV.a (pkW r mc mt mf wt (AuV.mk st id rq d ct tm nk) ic ii ix tk))),zi (AuV.id (DoneV.a (pkW r mc mt mf wt (AuV.mk st id rq d ct tm nk) ic ii ix tk))),zi (AuV.rq (DoneV.a (pkW r mc mt mf wt (AuV.mk st id rq d ct tm nk) ic ii ix tk))),zs zO (AuV.d (DoneV.a (pkW r mc mt mf wt (AuV.mk st id rq d ct tm nk) ic ii ix tk))),zi (AuV.ct (DoneV.a (pkW r mc mt mf wt (AuV.mk st id rq d ct tm nk) ic ii ix tk))),zi (AuV.tm (DoneV.a (pkW r mc mt mf wt (AuV.mk st id rq d ct tm nk) ic ii ix tk))),zi (AuV.nk (DoneV.a (pkW r mc mt mf wt (AuV.mk st id rq d ct tm nk) ic ii ix tk)))],zs zC (DoneV.out (pkW r mc mt mf wt (AuV.mk st id rq d ct tm nk) ic ii ix tk)),zs zN (DoneV.did (pkW r mc mt mf wt (AuV.mk st id rq d ct tm nk) ic ii ix tk)),zb (decide (1≤ic)&&decide (ic≤7))])) (RT.bad 294):=by kernel_rfl
theorem encK_soundF:SoundF Tryz.prog 121 (pureS Tryz.prog 121 FEncK):=by
  refine pureS_tree enc7_soundF fun args K ho H=>?_
  unfold FEncK at H
  split at H
  · rename_i c i d
    obtain ⟨hc,H⟩:=need_holds H
    rw [encK_tree]
    exact ⟨_,le_two (le_raw (by unfold enc7D; rw [if_pos (eq_of_beq hc)])) (le_int (eq_of_beq hc)),H⟩
  · exact H.elim
theorem rencK_soundF:SoundF Tryz.prog 35 (pureS Tryz.prog 35 FEncK):=by
  refine pureS_tree renc7_soundF fun args K ho H=>?_
  unfold FEncK at H
  split at H
  · rename_i c i d
    obtain ⟨hc,H⟩:=need_holds H
    rw [rencK_tree]
    exact ⟨_,le_two (le_raw (by unfold enc7D; rw [if_pos (eq_of_beq hc)])) (le_int (eq_of_beq hc)),H⟩
  · exact H.elim
theorem joinK_soundF:SoundF Tryz.prog 28 (pureS Tryz.prog 28 FJoinK):=by
  refine pureS_tree join7_soundF fun args K ho H=>?_
  unfold FJoinK at H
  split at H
  · rename_i p d
    obtain ⟨hc,H⟩:=need_holds H
    rw [joinK_tree]
    exact ⟨_,le_two (Le.refl _) (le_int (eq_of_beq hc)),H⟩
  · exact H.elim
theorem may_do {m g mc mt mf wt:Int} {a:AuV} {e tk:Int} (h:mayB m g mc mt mf wt a.st a.id a.rq a.d a.ct a.tm a.nk tk=true) (he:(rfcE a.st e==0)=true):doB m g mc mt mf wt a e tk=true:=by
  unfold doB; rw [h,he]; rfl
theorem aW_01 {m g mc mt mf wt id rq:Int} {d:D} {ct tm nk ic ii:Int} {ix:D} {ac ax:Int} {ad:D} {tk:Int} (h:mayB m g mc mt mf wt 0 id rq d ct tm nk tk=true):doW m g mc mt mf wt ⟨0,id,rq,d,ct,tm,nk⟩ 1 ic ii ix ac ax ad tk=⟨⟨2,id,rq,d,ct,0,nk⟩,.l [],.l []⟩:=by
  rw [doW_on (may_do h rfl)]; rfl
theorem aW_23 {m g mc mt mf wt id rq:Int} {d:D} {ct tm nk ic ii:Int} {ix:D} {ac ax:Int} {ad:D} {tk:Int} (h:mayB m g mc mt mf wt 2 id rq d ct tm nk tk=true):doW m g mc mt mf wt ⟨2,id,rq,d,ct,tm,nk⟩ 3 ic ii ix ac ax ad tk=⟨⟨6,numN id,numN id,d,cntN mc,IntKind.wrap .i64 (tk+wt),nk⟩,.l [.t [.ki 1,.i (numN id),encO d]],.l [.t [.i 5],.t [.i 7]]⟩:=by
  rw [doW_on (may_do h rfl)]; rfl
theorem decK_soundF:SoundF Tryz.prog 69 (pureS Tryz.prog 69 FDecK):=by
  refine pureS_tree dec7_soundF fun args K ho H=>?_
  unfold FDecK at H
  split at H
  · rename_i b
    obtain ⟨hc,H⟩:=need_holds H
    rw [Bool.and_eq_true] at hc
    rw [decK_tree,hc.1]
    refine holds_t ⟨_,le_two (le_agg (leL_cons (le_int ?_) (leL_cons (le_int ?_) (leL_cons (le_raw ?_) fun _ _ h=>h)))) (le_int ?_),H⟩
    · unfold d7C; rw [hc.2]; rfl
    · unfold d7I; rw [hc.2]; rfl
    · unfold d7X; rw [hc.2]; rfl
    · rw [hc.2]; rfl
  · exact H.elim
theorem rdecK_soundF:SoundF Tryz.prog 34 (pureS Tryz.prog 34 FDecK):=by
  refine pureS_tree rdec7_soundF fun args K ho H=>?_
  unfold FDecK at H
  split at H
  · rename_i b
    obtain ⟨hc,H⟩:=need_holds H
    rw [Bool.and_eq_true] at hc
    rw [rdecK_tree,hc.1]
    refine holds_t ⟨_,le_two (le_agg (leL_cons (le_int ?_) (leL_cons (le_int ?_) (leL_cons (le_raw ?_) fun _ _ h=>h)))) (le_int ?_),H⟩
    · unfold d7C; rw [hc.2]; rfl
    · unfold d7I; rw [hc.2]; rfl
    · unfold d7X; rw [hc.2]; rfl
    · rw [hc.2]; rfl
  · exact H.elim
theorem aP_62 {r:D} {mc mt mf wt id rq:Int} {d:D} {ct tm nk ii:Int} {x:D} {tk:Int} (h:mayB (rlM r) (rlG r) mc mt mf wt 6 id rq d ct tm nk tk=true) (hc:c82 rq ii d x=true):pkW r mc mt mf wt ⟨6,id,rq,d,ct,tm,nk⟩ 2 ii x tk=⟨⟨7,id,rq,d,mc,tm,nk⟩,.l [],.l [.t [.i 5]]⟩:=by
  unfold c82 at hc
  rw [Bool.and_eq_true,Bool.and_eq_true] at hc
  obtain ⟨hE,hI,hS⟩:=hc
  have e1:(enc7E 2 ii x != 0)=false:=by rw [bne,hE]; rfl
  unfold pkW
  dsimp only
  rw [e1,h,hI,hS]
  show doW (rlM r) (rlG r) mc mt mf wt ⟨6,id,rq,d,ct,tm,nk⟩ 9 2 ii x 0 0 (.l []) tk=_
  rw [doW_on (may_do h rfl)]
  rfl
theorem aP_71 {r:D} {mc mt mf wt id rq:Int} {d:D} {ct tm nk ii:Int} {x:D} {tk:Int} (h:mayB (rlM r) (rlG r) mc mt mf wt 7 id rq d ct tm nk tk=true) (hc:cRq r nk mf ii x=true):pkW r mc mt mf wt ⟨7,id,rq,d,ct,tm,nk⟩ 1 ii x tk=⟨⟨9,id,rq,d,ct,0,0⟩,.l [.t [.i 2,.i ii,encO (decO x)]],.l [.t [.i 8],.t [.i 1]]⟩:=by
  unfold cRq at hc
  rw [Bool.and_eq_true,Bool.and_eq_true,Bool.and_eq_true] at hc
  obtain ⟨hE,hD,hA,hO⟩:=hc
  have hA:=eq_of_beq hA
  have eO:=ansO_2 hA
  have e1:(enc7E 1 ii x != 0)=false:=by rw [bne,hE]; rfl
  have e3:(decE x != 0)=false:=by rw [bne,hD]; rfl
  have e4:(encE (decO x) != 0)=false:=by rw [bne,hO]; rfl
  unfold pkW
  dsimp only
  rw [e1,h,eO,e3,e4,hA]
  show doW (rlM r) (rlG r) mc mt mf wt ⟨7,id,rq,d,ct,tm,nk⟩ 7 1 ii x 2 ii (encO (decO x)) tk=_
  rw [doW_on (may_do h rfl)]
  rfl
theorem le_ak {v:DoneV} {s:Int} {o x:AV} (h1:v.a.st=s) (h2:Le (asl ctS v.out) o) (h3:Le (asl acS v.did) x):Le (doneA v) (.tup [aK s v.a.id v.a.rq v.a.d v.a.ct v.a.tm v.a.nk,o,x]) :=
  le_two' (le_agg (leL_cons (le_int h1) (leL_cons (Le.refl _) (leL_cons (Le.refl _) (leL_cons (le_raw rfl) fun _ _ h=>h))))) h2 h3
theorem ad_soundF:SoundF Tryz.prog 164 (pureS Tryz.prog 164 FAd):=by
  refine pureS_tree do_soundF fun args K ho H=>?_
  unfold FAd at H
  split at H
  · rename_i r mc mt mf wt st id rq d ct tm nk e ic ii ix ac ax ad tk
    obtain ⟨hc,H2⟩:=need_holds H
    clear H
    unfold mayA at hc
    rw [Bool.and_eq_true] at hc
    obtain ⟨hr,hm⟩:=hc
    rw [adK_tree,hr]
    refine holds_t ?_
    have go:∀ (v:DoneV) (y:AV),doW (rlM r) (rlG r) mc mt mf wt ⟨st,id,rq,d,ct,tm,nk⟩ e ic ii ix ac ax ad tk=v→Le (doneA v) y→K y→∃ y,Le (doneA (doW (rlM r) (rlG r) mc mt mf wt ⟨st,id,rq,d,ct,tm,nk⟩ e ic ii ix ac ax ad tk)) y∧K y:=by
      rintro v y rfl h1 h2; exact ⟨y,h1,h2⟩
    cases h1:st==0&&e==1
    · rw [h1,cond_false] at H2
      cases h2:st==2&&e==3
      · rw [h2] at H2; exact H2.elim
      · rw [h2,cond_true] at H2
        rw [Bool.and_eq_true] at h2
        obtain rfl:st=2:=eq_of_beq h2.1
        obtain rfl:e=3:=eq_of_beq h2.2
        exact go _ _ (aW_23 hm) (le_ak rfl (le_raw rfl) le_ac2) H2
    · rw [h1,cond_true] at H2
      rw [Bool.and_eq_true] at h1
      obtain rfl:st=0:=eq_of_beq h1.1
      obtain rfl:e=1:=eq_of_beq h1.2
      exact go _ _ (aW_01 hm) (le_ak rfl (le_raw rfl) (le_raw rfl)) H2
  · exact H.elim
theorem le_pk {v:DoneV} {s:Int} {b:Bool} {o x:AV} (hb:b=true) (h1:v.a.st=s) (h2:Le (asl ctS v.out) o) (h3:Le (asl acS v.did) x):Le (pkA v b) (.tup [aK s v.a.id v.a.rq v.a.d v.a.ct v.a.tm v.a.nk,o,x,.sc true (.bool true)]) :=
  le_tup (leL_cons (le_agg (leL_cons (le_int h1) (leL_cons (Le.refl _) (leL_cons (Le.refl _) (leL_cons (le_raw rfl) fun _ _ h=>h))))) (leL_cons h2 (leL_cons h3 (leL_cons (le_bool hb) fun _ _ h=>h))))
theorem ap_soundF:SoundF Tryz.prog 134 (pureS Tryz.prog 134 FAp):=by
  refine pureS_tree pkt_soundF fun args K ho H=>?_
  unfold FAp at H
  split at H
  · rename_i r mc mt mf wt st id rq d ct tm nk ic ii x tk
    obtain ⟨hc,H2⟩:=need_holds H
    clear H
    rw [Bool.and_eq_true] at hc
    obtain ⟨hm,hb⟩:=hc
    unfold mayA at hm
    rw [Bool.and_eq_true] at hm
    obtain ⟨hr,hm⟩:=hm
    rw [apK_tree]
    refine holds_t_of (by unfold pkN; rw [hr,hb]; rfl) ?_
    have go:∀ (v:DoneV) (y:AV) (b:Bool),pkW r mc mt mf wt ⟨st,id,rq,d,ct,tm,nk⟩ ic ii x tk=v→Le (pkA v b) y→K y→∃ y,Le (pkA (pkW r mc mt mf wt ⟨st,id,rq,d,ct,tm,nk⟩ ic ii x tk) b) y∧K y:=by
      rintro v y b rfl h1 h2; exact ⟨y,h1,h2⟩
    cases h1:st==6&&ic==2
    · rw [h1,cond_false] at H2
      cases h2:st==7&&ic==1
      · rw [h2] at H2; exact H2.elim
      · rw [h2,cond_true] at H2
        obtain ⟨hq,H2⟩:=need_holds H2
        rw [Bool.and_eq_true] at h2
        obtain rfl:st=7:=eq_of_beq h2.1
        obtain rfl:ic=1:=eq_of_beq h2.2
        exact go _ _ _ (aP_71 hm hq) (le_pk rfl rfl one_ki le_ac2) H2
    · rw [h1,cond_true] at H2
      obtain ⟨hq,H2⟩:=need_holds H2
      rw [Bool.and_eq_true] at h1
      obtain rfl:st=6:=eq_of_beq h1.1
      obtain rfl:ic=2:=eq_of_beq h1.2
      exact go _ _ _ (aP_62 hm hq) (le_pk rfl rfl (le_raw rfl) le_ac1) H2
  · exact H.elim
theorem ldl_soundF:SoundF Tryz.prog 55 (pureS Tryz.prog 55 FDl):=by
  refine pureS_tree ldo_soundF fun args K ho H=>?_
  unfold FDl at H
  split at H
  · rename_i mru mc mt mf wt ec lo st id rq d ct tm nk mg pr mu pe ne e tk
    obtain ⟨hc,H2⟩:=need_holds H
    clear H
    rw [Bool.and_eq_true] at hc
    obtain ⟨hon,hb⟩:=hc
    rw [ldm_tree]
    refine holds_t_of hb ?_
    have go:∀ (v:WkV) (y:AV),ldoW ⟨mru,mc,mt,mf,wt,ec,lo,st,id,rq,d,ct,tm,nk,mg,pr,mu,pe,ne,tk,.l [],.l []⟩ e=v→Le (wkA v) y→K y→∃ y,Le (wkA (ldoW ⟨mru,mc,mt,mf,wt,ec,lo,st,id,rq,d,ct,tm,nk,mg,pr,mu,pe,ne,tk,.l [],.l []⟩ e)) y∧K y:=by
      rintro v y rfl h1 h2; exact ⟨y,h1,h2⟩
    cases h1:st==0&&e==1
    · rw [h1,cond_false] at H2
      cases h2:st==2&&e==3
      · rw [h2] at H2; exact H2.elim
      · rw [h2,cond_true] at H2
        rw [Bool.and_eq_true] at h2
        obtain rfl:st=2:=eq_of_beq h2.1
        obtain rfl:e=3:=eq_of_beq h2.2
        exact go _ _ (do_23 hon) (le_lk rfl (le_raw rfl) le_ac2) H2
    · rw [h1,cond_true] at H2
      rw [Bool.and_eq_true] at h1
      obtain rfl:st=0:=eq_of_beq h1.1
      obtain rfl:e=1:=eq_of_beq h1.2
      exact go _ _ (do_01 hon) (le_lk rfl (le_raw rfl) (le_raw rfl)) H2
  · exact H.elim
abbrev ipcA (st id rq:Int) (d:D) (ct tm nk ow pe:Int):AV:=.agg [ai st,ai id,ai rq,asl opS d,ai ct,ai tm,ai nk,ai ow,ai pe]
def ichB (mc mt mf wt st id rq:Int) (d:D) (ct tm nk ow pe:Int):Bool:=inB ow 1 4294967295&&(inB pe 1 4294967295&&(setB (rlM (ipD pe)) (rlG (ipD pe)) mc mt mf wt&&soundB st id rq d ct tm nk))
def FIcK:List AV→RT AV
  | [.agg [.sc false (.int .i64 mru),.sc false (.int .i64 mc),.sc false (.int .i64 mt),.sc false (.int .i64 mf),.sc false (.int .i64 wt),.sc false (.int .i64 ec),.sc false (.int .i64 lo)],
     .agg [.sc false (.int .i64 st),.sc false (.int .i64 id),.sc false (.int .i64 rq),.sl false [.int .i64,.sl [.int .u8]] d none,.sc false (.int .i64 ct),.sc false (.int .i64 tm),.sc false (.int .i64 nk),.sc false (.int .i64 ow),.sc false (.int .i64 pe)]]=>need false (ichB mc mt mf wt st id rq d ct tm nk ow pe) 354 (.ok (.sc true (.int .i64 0)))
  | _=>.bad 354
def FLckK:List AV→RT AV
  | [.agg [.sc false (.int .i64 a),.sc false (.int .i64 b),.sc false (.int .i64 c),.sc false (.int .i64 e),.sc false (.int .i64 f),.sc false (.int .i64 g),.sc false (.int .i64 h)],
     .agg [.sc false (.int .i64 st),.sc false (.int .i64 id),.sc false (.int .i64 rq),.sl false [.int .i64,.sl [.int .u8]] d none,.sc false (.int .i64 ct),.sc false (.int .i64 tm),.sc false (.int .i64 nk),.sc false (.int .i64 mg),.sc false (.int .i64 pr),.sc false (.int .i64 mu),.sc false (.int .i64 pe),.sc false (.int .i64 ne)]]=>need false (lisB a b c e f g h st id rq d ct tm nk mg pr mu pe ne) 355 (.ok (.sc true (.int .i64 0)))
  | _=>.bad 355
def auG (P:Program):List (FuncId×Spec):=[(157,pureS P 157 FSet),(158,pureS P 158 FSound)]
def nzB (st id rq:Int) (d:D) (ct tm nk ow pe:Int):Bool:=decide (st=0∧id=0∧rq=0∧d.len=0∧ct=0∧tm=0∧nk=0∧ow=0∧pe=0)
def lkP (mc mt mf wt own ph st st' id' rq':Int) (d':D) (ct' tm' nk' ow pe' ad:Int):Bool :=
  bif ph==1 then st != 9&&nzB st' id' rq' d' ct' tm' nk' ow pe' else
  bif ph==2 then st==9&&nzB st' id' rq' d' ct' tm' nk' ow pe' else
  bif ph==3 then st==9&&(ad != 0&&(ichB mc mt mf wt st' id' rq' d' ct' tm' nk' ow pe'&&(ow==own&&pe'==ad))) else false
def lkB (mru mc mt mf wt ec lo own ph st id rq:Int) (d:D) (ct tm nk mg pr mu pe ne st' id' rq':Int) (d':D) (ct' tm' nk' ow pe' ad:Int):Bool :=
  newB mru mc mt mf wt ec lo 1&&(inB own 1 4294967294&&(lisB mru mc mt mf wt ec lo st id rq d ct tm nk mg pr mu pe ne&&(inB ad 0 4294967294&&lkP mc mt mf wt own ph st st' id' rq' d' ct' tm' nk' ow pe' ad)))
def lkCd:List Cd:=[.agg [.int .i64,.int .i64,.int .i64,.int .i64,.int .i64,.int .i64,.int .i64,.int .i64],.agg [.int .i64,.int .i64,.int .i64,.int .i64,.sl opS,.int .i64,.int .i64,.int .i64,.int .i64,.int .i64,.int .i64,.int .i64,.int .i64,.int .i64,.int .i64,.int .i64,.sl opS,.int .i64,.int .i64,.int .i64,.int .i64,.int .i64,.int .i64]]
def FLkC (args:List AV):RT AV:=match cdAL lkCd args with
  | some [v0,v1,v2,v3,v4,v5,v6,v7,v8,v9,v10,v11,v12,v13,v14,v15,v16,v17,v18,v19,v20,v21,v22,v23,v24,v25,v26,v27,v28,v29,v30]=>need false (lkB v0.toI v1.toI v2.toI v3.toI v4.toI v5.toI v6.toI v7.toI v8.toI v9.toI v10.toI v11.toI v12 v13.toI v14.toI v15.toI v16.toI v17.toI v18.toI v19.toI v20.toI v21.toI v22.toI v23.toI v24 v25.toI v26.toI v27.toI v28.toI v29.toI v30.toI) 356 (.ok (.sc true (.int .i64 0)))
  | _=>.bad 356
def lkG (P:Program):List (FuncId×Spec):=[(46,pureS P 46 FNw),(48,pureS P 48 FLckK),(52,pureS P 52 FIcK),(159,pureS P 159 FSameO)]
abbrev lcfA (mru mc mt mf wt ec lo own:Int):AV:=.agg [ai mru,ai mc,ai mt,ai mf,ai wt,ai ec,ai lo,ai own]
abbrev lnkA (p s:AV) (id rq:Int) (d:D) (ct tm nk mg pr mu pe ne st' id' rq':Int) (d':D) (ct' tm' nk' ow pe' ad:Int):AV:=.agg [p,s,ai id,ai rq,asl opS d,ai ct,ai tm,ai nk,ai mg,ai pr,ai mu,ai pe,ai ne,ai st',ai id',ai rq',asl opS d',ai ct',ai tm',ai nk',ai ow,ai pe',ai ad]
theorem ich_tree (mru mc mt mf wt ec lo st id rq:Int) (d:D) (ct tm nk ow pe:Int):treeF (evF Tryz.prog (gam (auG Tryz.prog)) (lam ([])) 100 52) [cnfA mru mc mt mf wt ec lo,ipcA st id rq d ct tm nk ow pe] =
RT.br (decide (1≤ow)) (RT.br (decide (ow≤4294967295)) (RT.br (decide (1≤pe)) (RT.br (decide (pe≤4294967295)) (RT.br true (RT.br (setB (rlM (D.l [D.t [D.ki 3,D.ki 4,D.ki 3,D.ki 0,D.ki 0,D.i pe,D.kb true]])) (rlG (D.l [D.t [D.ki 3,D.ki 4,D.ki 3,D.ki 0,D.ki 0,D.i pe,D.kb true]])) mc mt mf wt) (RT.br (soundB st id rq d ct tm nk) (RT.ok (zk 0)) (RT.ok (zk 180))) (RT.ok (zk 180))) (RT.bad 207)) (RT.ok (zk 180))) (RT.ok (zk 180))) (RT.ok (zk 180))) (RT.ok (zk 180)):=by rw [← fvF_eq Tryz.prog (gam (auG Tryz.prog)) (lam ([])) false 100 52]; kernel_rfl
theorem lckK_tree (a b c e f g h st id rq:Int) (d:D) (ct tm nk mg pr mu pe ne:Int):treeF (pureS Tryz.prog 48 FLck) [cnfA a b c e f g h,lcpA st id rq d ct tm nk mg pr mu pe ne] =
RT.ok (zi (errIf (lisB a b c e f g h st id rq d ct tm nk mg pr mu pe ne) 170)):=by kernel_rfl
theorem lk1_tree (mru mc mt mf wt ec lo own st id rq:Int) (d:D) (ct tm nk mg pr mu pe ne st' id' rq':Int) (d':D) (ct' tm' nk' ow pe' ad:Int):treeF (evF Tryz.prog (gam (lkG Tryz.prog)) (lam ([])) 100 19) [lcfA mru mc mt mf wt ec lo own,lnkA (kk 1) (ai st) id rq d ct tm nk mg pr mu pe ne st' id' rq' d' ct' tm' nk' ow pe' ad] =
RT.br (newB mru mc mt mf wt ec lo 1) (RT.br (decide (1≤own)) (RT.br (!decide (own≤4294967294)) (RT.ok (zk 190)) (RT.br (lisB mru mc mt mf wt ec lo st id rq d ct tm nk mg pr mu pe ne) (RT.br (decide (0≤ad)) (RT.br (!decide (ad≤4294967294)) (RT.ok (zk 190)) (RT.br (!false==(st==9)) (RT.ok (zk 190)) (RT.br (st'==0) (RT.br (id'==0) (RT.br (rq'==0) (RT.br (ct'==0) (RT.br (tm'==0) (RT.br (nk'==0) (RT.br (sameO d' (D.l [])) (RT.br (ow==0) (RT.br (!pe'==0) (RT.ok (zk 190)) (RT.ok (zk 0))) (RT.ok (zk 190))) (RT.ok (zk 190))) (RT.ok (zk 190))) (RT.ok (zk 190))) (RT.ok (zk 190))) (RT.ok (zk 190))) (RT.ok (zk 190))) (RT.ok (zk 190))))) (RT.ok (zk 190))) (RT.bad 355))) (RT.ok (zk 190))) (RT.bad 320):=by rw [← fvF_eq Tryz.prog (gam (lkG Tryz.prog)) (lam ([])) false 100 19]; kernel_rfl
theorem lk2_tree (mru mc mt mf wt ec lo own id rq:Int) (d:D) (ct tm nk mg pr mu pe ne st' id' rq':Int) (d':D) (ct' tm' nk' ow pe' ad:Int):treeF (evF Tryz.prog (gam (lkG Tryz.prog)) (lam ([])) 100 19) [lcfA mru mc mt mf wt ec lo own,lnkA (kk 2) (kk 9) id rq d ct tm nk mg pr mu pe ne st' id' rq' d' ct' tm' nk' ow pe' ad] =
RT.br (newB mru mc mt mf wt ec lo 1) (RT.br (decide (1≤own)) (RT.br (!decide (own≤4294967294)) (RT.ok (zk 190)) (RT.br (lisB mru mc mt mf wt ec lo 9 id rq d ct tm nk mg pr mu pe ne) (RT.br (decide (0≤ad)) (RT.br (!decide (ad≤4294967294)) (RT.ok (zk 190)) (RT.br (st'==0) (RT.br (id'==0) (RT.br (rq'==0) (RT.br (ct'==0) (RT.br (tm'==0) (RT.br (nk'==0) (RT.br (sameO d' (D.l [])) (RT.br (ow==0) (RT.br (!pe'==0) (RT.ok (zk 190)) (RT.ok (zk 0))) (RT.ok (zk 190))) (RT.ok (zk 190))) (RT.ok (zk 190))) (RT.ok (zk 190))) (RT.ok (zk 190))) (RT.ok (zk 190))) (RT.ok (zk 190))) (RT.ok (zk 190)))) (RT.ok (zk 190))) (RT.bad 355))) (RT.ok (zk 190))) (RT.bad 320):=by rw [← fvF_eq Tryz.prog (gam (lkG Tryz.prog)) (lam ([])) false 100 19]; kernel_rfl
theorem lk3_tree (mru mc mt mf wt ec lo own id rq:Int) (d:D) (ct tm nk mg pr mu pe ne st' id' rq':Int) (d':D) (ct' tm' nk' ow pe' ad:Int):treeF (evF Tryz.prog (gam (lkG Tryz.prog)) (lam ([])) 100 19) [lcfA mru mc mt mf wt ec lo own,lnkA (kk 3) (kk 9) id rq d ct tm nk mg pr mu pe ne st' id' rq' d' ct' tm' nk' ow pe' ad] =
RT.br (newB mru mc mt mf wt ec lo 1) (RT.br (decide (1≤own)) (RT.br (!decide (own≤4294967294)) (RT.ok (zk 190)) (RT.br (lisB mru mc mt mf wt ec lo 9 id rq d ct tm nk mg pr mu pe ne) (RT.br (decide (0≤ad)) (RT.br (!decide (ad≤4294967294)) (RT.ok (zk 190)) (RT.br (ad==0) (RT.ok (zk 190)) (RT.br (ichB mc mt mf wt st' id' rq' d' ct' tm' nk' ow pe') (RT.br (ow != own) (RT.ok (zk 190)) (RT.br (pe' != ad) (RT.ok (zk 190)) (RT.ok (zk 0)))) (RT.bad 354)))) (RT.ok (zk 190))) (RT.bad 355))) (RT.ok (zk 190))) (RT.bad 320):=by rw [← fvF_eq Tryz.prog (gam (lkG Tryz.prog)) (lam ([])) false 100 19]; kernel_rfl
theorem auG_ok:GamL Tryz.prog (auG Tryz.prog):=⟨set_soundF,sou_soundF,trivial⟩
theorem ick_soundF:SoundF Tryz.prog 52 (pureS Tryz.prog 52 FIcK):=by
  refine pure_in (gs:=auG Tryz.prog) (ls:=[]) mixed auG_ok trivial 52 100 fun args K ho H=>?_
  unfold FIcK at H
  split at H
  · rename_i mru mc mt mf wt ec lo st id rq d ct tm nk ow pe
    obtain ⟨hc,H⟩:=need_holds H
    unfold ichB inB at hc
    rw [Bool.and_eq_true,Bool.and_eq_true,Bool.and_eq_true] at hc
    obtain ⟨h1,h2,h3,h4⟩:=hc
    have h1:=odt h1
    have h2:=odt h2
    rw [ich_tree]
    exact holds_tt (det h1.1) (holds_tt (det h1.2) (holds_tt (det h2.1) (holds_tt (det h2.2) (holds_t (holds_tt h3 (holds_tt h4 ⟨_,Le.refl _,H⟩))))))
  · exact H.elim
theorem lckK_soundF:SoundF Tryz.prog 48 (pureS Tryz.prog 48 FLckK):=by
  refine pureS_tree lcheck_soundF fun args K ho H=>?_
  unfold FLckK at H
  split at H
  · rename_i a b c e f g h st id rq d ct tm nk mg pr mu pe ne
    obtain ⟨hc,H⟩:=need_holds H
    rw [lckK_tree]
    exact ⟨_,le_int (by rw [hc]; rfl),H⟩
  · exact H.elim
theorem holds_ff {α:Type} {b:Bool} {x y:RT α} {Q:α→Prop} (hb:b=false) (h:y.holds Q):(RT.br b x y).holds Q:=⟨fun h=>(by rw [hb] at h; cases h),fun _=>h⟩
theorem FLkC_inv {args:List AV} {K:AV→Prop} (H:(FLkC args).holds K):∃ (mru mc mt mf wt ec lo own ph st id rq ct tm nk mg pr mu pe ne st' id' rq' ct' tm' nk' ow pe' ad:Int) (d d':D),args=[lcfA mru mc mt mf wt ec lo own,lnkA (ai ph) (ai st) id rq d ct tm nk mg pr mu pe ne st' id' rq' d' ct' tm' nk' ow pe' ad]∧lkB mru mc mt mf wt ec lo own ph st id rq d ct tm nk mg pr mu pe ne st' id' rq' d' ct' tm' nk' ow pe' ad=true∧K (.sc true (.int .i64 0)):=by
  unfold FLkC at H
  split at H
  · rename_i v0 v1 v2 v3 v4 v5 v6 v7 v8 v9 v10 v11 v12 v13 v14 v15 v16 v17 v18 v19 v20 v21 v22 v23 v24 v25 v26 v27 v28 v29 v30 hd
    obtain ⟨hc,H⟩:=need_holds H
    have:=cdAL_ok _ _ _ hd []
    exact ⟨v0.toI,v1.toI,v2.toI,v3.toI,v4.toI,v5.toI,v6.toI,v7.toI,v8.toI,v9.toI,v10.toI,v11.toI,v13.toI,v14.toI,v15.toI,v16.toI,v17.toI,v18.toI,v19.toI,v20.toI,v21.toI,v22.toI,v23.toI,v25.toI,v26.toI,v27.toI,v28.toI,v29.toI,v30.toI,v12,v24,(congrArg Prod.fst this).symm,hc,H⟩
  · exact H.elim
theorem same_nil {d:D} (h:d.len=0):sameO d (.l [])=true:=by
  unfold sameO
  rw [h]; rfl
theorem lkG_ok:GamL Tryz.prog (lkG Tryz.prog):=⟨lnw_soundF,lckK_soundF,ick_soundF,osame_soundF,trivial⟩
theorem lkc_soundF:SoundF Tryz.prog 19 (pureS Tryz.prog 19 FLkC):=by
  refine pure_by (gs:=lkG Tryz.prog) (ls:=[]) mixed lkG_ok trivial 19 100 fun args K ho H=>?_
  obtain ⟨mru,mc,mt,mf,wt,ec,lo,own,ph,st,id,rq,ct,tm,nk,mg,pr,mu,pe,ne,st',id',rq',ct',tm',nk',ow,pe',ad,d,d',hA,hc,H⟩:=FLkC_inv H
  unfold lkB inB at hc
  rw [Bool.and_eq_true,Bool.and_eq_true,Bool.and_eq_true,Bool.and_eq_true] at hc
  obtain ⟨hn,hw,hl,ha,hp⟩:=hc
  have hw:=odt hw
  have ha:=odt ha
  have nt:∀ {p:Prop} [Decidable p],p→(!decide p)=false:=fun h=>by rw [det h]; rfl
  unfold lkP at hp
  have fin:∃ y,Le (.sc true (.int .i64 0)) y∧K y:=⟨_,Le.refl _,H⟩
  cases h1:ph==1
  · rw [h1,cond_false] at hp
    cases h2:ph==2
    · rw [h2,cond_false] at hp
      cases h3:ph==3
      · rw [h3] at hp; cases hp
      · rw [h3,cond_true,Bool.and_eq_true,Bool.and_eq_true,Bool.and_eq_true,Bool.and_eq_true] at hp
        obtain ⟨hs,h0,hi,he,hq⟩:=hp
        obtain rfl:ph=3:=eq_of_beq h3
        obtain rfl:st=9:=eq_of_beq hs
        obtain rfl:ow=own:=eq_of_beq he
        obtain rfl:pe'=ad:=eq_of_beq hq
        refine ⟨[lcfA mru mc mt mf wt ec lo ow,lnkA (kk 3) (kk 9) id rq d ct tm nk mg pr mu pe ne st' id' rq' d' ct' tm' nk' ow pe' pe'],by rw [hA]; exact leL_cons (Le.refl _) (leL_cons (le_agg (leL_cons (le_int rfl) (leL_cons (le_int rfl) fun _ _ h=>h))) fun _ _ h=>h),?_⟩
        rw [lk3_tree]
        exact holds_tt hn (holds_tt (det hw.1) (holds_ff (nt hw.2) (holds_tt hl (holds_tt (det ha.1) (holds_ff (nt ha.2) (holds_ff (by rw [bne,Bool.not_eq_true'] at h0; exact h0) (holds_tt hi (holds_ff (by rw [bne,beq_self_eq_true]; rfl) (holds_ff (by rw [bne,beq_self_eq_true]; rfl) fin)))))))))
    · rw [h2,cond_true,Bool.and_eq_true] at hp
      obtain ⟨hs,hz⟩:=hp
      obtain ⟨z1,z2,z3,z4,z5,z6,z7,z8,z9⟩:=odt hz
      obtain rfl:ph=2:=eq_of_beq h2
      obtain rfl:st=9:=eq_of_beq hs
      refine ⟨[lcfA mru mc mt mf wt ec lo own,lnkA (kk 2) (kk 9) id rq d ct tm nk mg pr mu pe ne st' id' rq' d' ct' tm' nk' ow pe' ad],by rw [hA]; exact leL_cons (Le.refl _) (leL_cons (le_agg (leL_cons (le_int rfl) (leL_cons (le_int rfl) fun _ _ h=>h))) fun _ _ h=>h),?_⟩
      rw [lk2_tree,z1,z2,z3,z5,z6,z7,z8,z9]
      exact holds_tt hn (holds_tt (det hw.1) (holds_ff (nt hw.2) (holds_tt hl (holds_tt (det ha.1) (holds_ff (nt ha.2) (holds_tt rfl (holds_tt rfl (holds_tt rfl (holds_tt rfl (holds_tt rfl (holds_tt rfl (holds_tt (same_nil z4) (holds_tt rfl (holds_ff rfl fin))))))))))))))
  · rw [h1,cond_true,Bool.and_eq_true] at hp
    obtain ⟨hs,hz⟩:=hp
    obtain ⟨z1,z2,z3,z4,z5,z6,z7,z8,z9⟩:=odt hz
    obtain rfl:ph=1:=eq_of_beq h1
    refine ⟨[lcfA mru mc mt mf wt ec lo own,lnkA (kk 1) (ai st) id rq d ct tm nk mg pr mu pe ne st' id' rq' d' ct' tm' nk' ow pe' ad],by rw [hA]; exact leL_cons (Le.refl _) (leL_cons (le_agg (leL_cons (le_int rfl) fun _ _ h=>h)) fun _ _ h=>h),?_⟩
    rw [lk1_tree,z1,z2,z3,z5,z6,z7,z8,z9]
    exact holds_tt hn (holds_tt (det hw.1) (holds_ff (nt hw.2) (holds_tt hl (holds_tt (det ha.1) (holds_ff (nt ha.2) (holds_ff (by rw [bne,Bool.not_eq_true'] at hs; rw [hs]; rfl) (holds_tt rfl (holds_tt rfl (holds_tt rfl (holds_tt rfl (holds_tt rfl (holds_tt rfl (holds_tt (same_nil z4) (holds_tt rfl (holds_ff rfl fin)))))))))))))))
def FEncT:List AV→RT AV
  | [.sl false [.int .i64,.sl [.int .u8]] d none]=>need false (encE d==0) 361 (.ok (.tup [.sl true byS (encO d) none,.sc true (.int .i64 0)]))
  | _=>.bad 361
def FCopT:List AV→RT AV
  | [.sl false [.int .i64,.sl [.int .u8]] d none]=>.ok (.sl true opS d none)
  | _=>.bad 362
def ipG (P:Program):List (FuncId×Spec):=[(52,pureS P 52 FIcK),(164,pureS P 164 FAd),(134,pureS P 134 FAp),(121,pureS P 121 FEncK),(155,pureS P 155 FEncT),(67,vecS P 67 5 byS FPutV),(156,pureS P 156 FCopT)]
def askN (own:Int):D:=.l [.t [.ki 3,.kl [.i (byI (uns own) 4 0),.i (byI (uns own) 4 1),.i (byI (uns own) 4 2),.i (byI (uns own) 4 3)]]]
def FINw:List AV→RT AV
  | [.sc false (.int .i64 ow),.sc false (.int .i64 pe)]=>need false (inB ow 1 4294967295&&inB pe 1 4294967295) 364 (.ok (.tup [.agg [kk 0,kk 0,kk 0,.sl true opS (askN ow) none,kk 0,kk 0,kk 0,ai ow,ai pe],kk 0]))
  | _=>.bad 364
theorem encT_tree (d:D):treeF (pureS Tryz.prog 155 FEnc) [asl opS d] =
RT.ok (AV.tup [zs zU (encO d),zi (encE d)]):=by kernel_rfl
theorem copT_tree (d:D):treeF (pureS Tryz.prog 156 FCopied) [asl opS d] =
RT.ok (zs zO d):=by kernel_rfl
theorem inw_tree (ow pe:Int):treeF (evF Tryz.prog (gam (ipG Tryz.prog)) (lam ([])) 100 63) [ai ow,ai pe] =
RT.br (decide (1≤ow)) (RT.br (!decide (ow≤4294967295)) (RT.ok (AV.tup [AV.agg [zk 0,zk 0,zk 0,zz,zk 0,zk 0,zk 0,zk 0,zk 0],zk 180])) (RT.br (decide (1≤pe)) (RT.br (!decide (pe≤4294967295)) (RT.ok (AV.tup [AV.agg [zk 0,zk 0,zk 0,zz,zk 0,zk 0,zk 0,zk 0,zk 0],zk 180])) (RT.br (decide (ow<0)) (RT.br true (RT.ok (AV.tup [AV.agg [zk 0,zk 0,zk 0,AV.sl true zO (D.kl [D.t [D.ki 0,D.kl []]]) none,zk 0,zk 0,zk 0,zi ow,zi pe],zk 0])) (RT.bad 361)) (RT.br true (RT.br (Int.fdiv ow 4294967296 != 0) (RT.br true (RT.ok (AV.tup [AV.agg [zk 0,zk 0,zk 0,AV.sl true zO (D.kl [D.t [D.ki 0,D.kl []]]) none,zk 0,zk 0,zk 0,zi ow,zi pe],zk 0])) (RT.bad 361)) (RT.br (decide ((0≤IntKind.wrap IntKind.u64 ow∧IntKind.wrap IntKind.u64 ow<18446744073709551616)∧(1:Int)≤4∧(4:Int)≤8)) (RT.br true (RT.ok (AV.tup [AV.agg [zk 0,zk 0,zk 0,AV.sl true zO (D.l [D.t [D.ki 3,D.kl [D.i (byI (IntKind.wrap IntKind.u64 ow) 4 0),D.i (byI (IntKind.wrap IntKind.u64 ow) 4 1),D.i (byI (IntKind.wrap IntKind.u64 ow) 4 2),D.i (byI (IntKind.wrap IntKind.u64 ow) 4 3)]]]) none,zk 0,zk 0,zk 0,zi ow,zi pe],zk 0])) (RT.bad 361)) (RT.bad 240))) (RT.bad 26)))) (RT.ok (AV.tup [AV.agg [zk 0,zk 0,zk 0,zz,zk 0,zk 0,zk 0,zk 0,zk 0],zk 180])))) (RT.ok (AV.tup [AV.agg [zk 0,zk 0,zk 0,zz,zk 0,zk 0,zk 0,zk 0,zk 0],zk 180])):=by rw [← fvF_eq Tryz.prog (gam (ipG Tryz.prog)) (lam ([])) false 100 63]; kernel_rfl
theorem encT_soundF:SoundF Tryz.prog 155 (pureS Tryz.prog 155 FEncT):=by
  refine pureS_tree encode_soundF fun args K ho H=>?_
  unfold FEncT at H
  split at H
  · rename_i d
    obtain ⟨hc,H⟩:=need_holds H
    rw [encT_tree]
    exact ⟨_,le_two (le_raw rfl) (le_int (eq_of_beq hc)),H⟩
  · exact H.elim
theorem copT_soundF:SoundF Tryz.prog 156 (pureS Tryz.prog 156 FCopT):=by
  refine pureS_tree copied_soundF fun args K ho H=>?_
  unfold FCopT at H
  split at H
  · rename_i d
    rw [copT_tree]
    exact ⟨_,le_raw rfl,H⟩
  · exact H.elim
theorem ipG_ok:GamL Tryz.prog (ipG Tryz.prog):=⟨ick_soundF,ad_soundF,ap_soundF,encK_soundF,encT_soundF,putV_soundF,copT_soundF,trivial⟩
theorem inw_soundF:SoundF Tryz.prog 63 (pureS Tryz.prog 63 FINw):=by
  refine pure_in (gs:=ipG Tryz.prog) (ls:=[]) mixed ipG_ok trivial 63 100 fun args K ho H=>?_
  unfold FINw inB at H
  split at H
  · rename_i ow pe
    obtain ⟨hc,H⟩:=need_holds H
    rw [Bool.and_eq_true] at hc
    have h1:=odt hc.1
    have h2:=odt hc.2
    have nt:∀ {p:Prop} [Decidable p],p→(!decide p)=false:=fun h=>by rw [det h]; rfl
    have hf:(Int.fdiv ow 4294967296 != 0)=false:=by
      rw [Int.fdiv_eq_ediv_of_nonneg _ (by decide),bne_eq_false_iff_eq]; omega
    rw [inw_tree]
    refine holds_tt (det h1.1) (holds_ff (nt h1.2) (holds_tt (det h2.1) (holds_ff (nt h2.2) (holds_ff (def_ (by omega)) (holds_t (holds_ff hf (holds_tt (det ?_) (holds_t ⟨_,Le.refl _,H⟩))))))))
    rw [wrap_u64 (by omega)]; omega
  · exact H.elim
def nfI (a b c e:D):D:=.l [.t [.i 3,.l [a,b,c,e]]]
def as4 (d:D):Option (D×D×D×D):=match d.toL with
  | [x]=>(match (x.cell 1).toL with | [a,b,c,e]=>bif (x.cell 0).toI==3 then some (a,b,c,e) else none | _=>none)
  | _=>none
theorem idp_tree (mru mc mt mf wt ec lo id rq:Int) (a b c e:D) (ct tm nk ow pe tk:Int):treeF (evF Tryz.prog (gam (ipG Tryz.prog)) (lam ([])) 100 64) [cnfA mru mc mt mf wt ec lo,.agg [kk 0,ai id,ai rq,.sl true opS (nfI a b c e) none,ai ct,ai tm,ai nk,ai ow,ai pe],kk 1,ai tk] =
RT.br (ichB mc mt mf wt 0 id rq (D.l [D.t [D.i 3,D.l [a,b,c,e]]]) ct tm nk ow pe) (RT.br (decide (0≤tk)) (RT.br (decide (tk≤1099511627776)) (RT.br (mayA (D.l [D.t [D.ki 3,D.ki 4,D.ki 3,D.ki 0,D.ki 0,D.i pe,D.kb true]]) mc mt mf wt (AuV.mk 0 id rq (D.l [D.t [D.i 3,D.l [a,b,c,e]]]) ct tm nk) tk) (RT.ok (AV.tup [AV.agg [zk 2,zi id,zi rq,AV.sl true zO (D.l [D.t [D.i 3,D.l [a,b,c,e]]]) none,zi ct,zi 0,zi nk,zi ow,zi pe],AV.sl true zC (D.l []) none,AV.sl true zN (D.l []) none])) (RT.bad 348)) (RT.ok (AV.tup [AV.agg [zk 0,zi id,zi rq,AV.sl true zO (D.l [D.t [D.i 3,D.l [a,b,c,e]]]) none,zi ct,zi tm,zi nk,zi ow,zi pe],zz,zz]))) (RT.ok (AV.tup [AV.agg [zk 0,zi id,zi rq,AV.sl true zO (D.l [D.t [D.i 3,D.l [a,b,c,e]]]) none,zi ct,zi tm,zi nk,zi ow,zi pe],zz,zz]))) (RT.bad 354):=by rw [← fvF_eq Tryz.prog (gam (ipG Tryz.prog)) (lam ([])) false 100 64]; kernel_rfl
theorem idq_tree (mru mc mt mf wt ec lo id rq:Int) (a b c e:D) (ct tm nk ow pe tk:Int):treeF (evF Tryz.prog (gam (ipG Tryz.prog)) (lam ([])) 100 64) [cnfA mru mc mt mf wt ec lo,.agg [kk 2,ai id,ai rq,.sl true opS (nfI a b c e) none,ai ct,ai tm,ai nk,ai ow,ai pe],kk 3,ai tk] =
RT.br (ichB mc mt mf wt 2 id rq (D.l [D.t [D.i 3,D.l [a,b,c,e]]]) ct tm nk ow pe) (RT.br (decide (0≤tk)) (RT.br (decide (tk≤1099511627776)) (RT.br (mayA (D.l [D.t [D.ki 3,D.ki 4,D.ki 3,D.ki 0,D.ki 0,D.i pe,D.kb true]]) mc mt mf wt (AuV.mk 2 id rq (D.l [D.t [D.i 3,D.l [a,b,c,e]]]) ct tm nk) tk) (RT.ok (AV.tup [AV.agg [zk 6,zi (numN id),zi (numN id),AV.sl true zO (D.l [D.t [D.i 3,D.l [a,b,c,e]]]) none,zi (cntN mc),zi (IntKind.wrap IntKind.i64 (tk+wt)),zi nk,zi ow,zi pe],AV.sl true zC (D.l [D.t [D.ki 1,D.i (numN id),encO (D.l [D.t [D.i 3,D.l [a,b,c,e]]])]]) none,AV.sl true zN (D.l [D.t [D.ki 5],D.t [D.ki 7]]) none])) (RT.bad 348)) (RT.ok (AV.tup [AV.agg [zk 2,zi id,zi rq,AV.sl true zO (D.l [D.t [D.i 3,D.l [a,b,c,e]]]) none,zi ct,zi tm,zi nk,zi ow,zi pe],zz,zz]))) (RT.ok (AV.tup [AV.agg [zk 2,zi id,zi rq,AV.sl true zO (D.l [D.t [D.i 3,D.l [a,b,c,e]]]) none,zi ct,zi tm,zi nk,zi ow,zi pe],zz,zz]))) (RT.bad 354):=by rw [← fvF_eq Tryz.prog (gam (ipG Tryz.prog)) (lam ([])) false 100 64]; kernel_rfl
theorem lf_toL {Z:Nat→Nat→Option Value} {es:List Sh} {v:Value} {d e:D} (h:d.toL=e.toL) (H:LF Z (.sl es) v d):LF Z (.sl es) v e:=by
  have hl:d.len=e.len:=by unfold D.len; rw [h]
  have hg:∀ i,d.get i=e.get i:=fun i=>by unfold D.get; rw [h]
  simp only [LF] at H ⊢
  rw [← hl]
  simp only [← hg]
  exact H
theorem le_as4 {d a b c e:D} (h:as4 d=some (a,b,c,e)) {kn kn':Bool}:Le (.sl kn opS d none) (.sl kn' opS (nfI a b c e) none):=by
  unfold as4 at h
  split at h
  · rename_i x hx
    split at h
    · rename_i a' b' c' e' hy
      cases h3:(x.cell 0).toI==3
      · rw [h3] at h; cases h
      rw [h3] at h
      cases h
      have hn:(nfI a b c e).toL=[.t [.i 3,.l [a,b,c,e]]]:=toL_l (by unfold maxLen; simp)
      have hl:(D.l [a,b,c,e]).toL=[a,b,c,e]:=toL_l (by unfold maxLen; simp)
      have d1:d.len=1:=by unfold D.len; rw [hx]; rfl
      have n1:(nfI a b c e).len=1:=by unfold D.len; rw [hn]; rfl
      intro E v hv
      obtain ⟨⟨h0,ad,cap,h1,h2,h3',h4,h5⟩,_⟩:=hv
      rw [d1] at h0 h1 h2 h5
      refine ⟨⟨by rw [n1]; exact h0,ad,cap,by rw [n1]; exact h1,by rw [n1]; exact h2,h3',h4,fun _=>?_⟩,trivial⟩
      obtain ⟨bl,o,g1,g2⟩:=h5 (by decide)
      refine ⟨bl,o,g1,fun i hi=>?_⟩
      rw [n1] at hi
      have hg:=g2 i hi
      obtain rfl:i=0:=by omega
      have e1:d.get 0=x:=by unfold D.get; rw [hx]; rfl
      have e2:(nfI a b c e).get 0=.t [.i 3,.l [a,b,c,e]]:=by unfold D.get; rw [hn]; rfl
      rw [e1] at hg
      rw [e2]
      obtain ⟨⟨v1,p1,q1⟩,⟨v2,p2,q2⟩,_⟩:=hg
      refine ⟨⟨v1,p1,?_⟩,⟨v2,p2,?_⟩,trivial⟩
      · simp only [LF] at q1 ⊢
        rw [q1,eq_of_beq h3]; rfl
      · exact lf_toL (hy.trans hl.symm) q2
    · cases h
  · cases h
abbrev iK (st id rq:Int) (d:D) (ct tm nk ow pe:Int):AV:=.agg [.sc true (.int .i64 st),ai id,ai rq,.sl true opS d none,ai ct,ai tm,ai nk,ai ow,ai pe]
def FIDo:List AV→RT AV
  | [.agg [.sc false (.int .i64 mru),.sc false (.int .i64 mc),.sc false (.int .i64 mt),.sc false (.int .i64 mf),.sc false (.int .i64 wt),.sc false (.int .i64 ec),.sc false (.int .i64 lo)],
     .agg [.sc false (.int .i64 st),.sc false (.int .i64 id),.sc false (.int .i64 rq),.sl false [.int .i64,.sl [.int .u8]] d none,.sc false (.int .i64 ct),.sc false (.int .i64 tm),.sc false (.int .i64 nk),.sc false (.int .i64 ow),.sc false (.int .i64 pe)],.sc false (.int .i64 e),.sc false (.int .i64 tk)]=>match as4 d with
    | some (a,b,c,f)=>need false (ichB mc mt mf wt st id rq (nfI a b c f) ct tm nk ow pe&&(mayA (ipD pe) mc mt mf wt ⟨st,id,rq,nfI a b c f,ct,tm,nk⟩ tk&&decide (0≤tk∧tk≤1099511627776))) 366
        (bif st==0&&e==1 then .ok (.tup [iK 2 id rq (nfI a b c f) ct 0 nk ow pe,nlO ctS,nlO acS])
         else bif st==2&&e==3 then .ok (.tup [iK 6 (numN id) (numN id) (nfI a b c f) (cntN mc) (IntKind.wrap .i64 (tk+wt)) nk ow pe,.sl true ctS (.l [.t [.ki 1,.i (numN id),encO (nfI a b c f)]]) none,acK [.t [.ki 5],.t [.ki 7]]])
         else .bad 367)
    | none=>.bad 368
  | _=>.bad 369
theorem ido_soundF:SoundF Tryz.prog 64 (pureS Tryz.prog 64 FIDo):=by
  refine pure_by (gs:=ipG Tryz.prog) (ls:=[]) mixed ipG_ok trivial 64 100 fun args K ho H=>?_
  unfold FIDo at H
  split at H
  · rename_i mru mc mt mf wt ec lo st id rq d ct tm nk ow pe e tk
    split at H
    · rename_i a b c f hd
      obtain ⟨hc,H2⟩:=need_holds H
      clear H
      rw [Bool.and_eq_true,Bool.and_eq_true] at hc
      obtain ⟨h1,h2,h3⟩:=hc
      have h3:=odt h3
      cases g1:st==0&&e==1
      · rw [g1,cond_false] at H2
        cases g2:st==2&&e==3
        · rw [g2] at H2; exact H2.elim
        · rw [g2,cond_true] at H2
          rw [Bool.and_eq_true] at g2
          obtain rfl:st=2:=eq_of_beq g2.1
          obtain rfl:e=3:=eq_of_beq g2.2
          refine ⟨[cnfA mru mc mt mf wt ec lo,.agg [kk 2,ai id,ai rq,.sl true opS (nfI a b c f) none,ai ct,ai tm,ai nk,ai ow,ai pe],kk 3,ai tk],leL_cons (Le.refl _) (leL_cons (le_agg (leL_cons (le_int rfl) (leL_cons (Le.refl _) (leL_cons (Le.refl _) (leL_cons (le_as4 hd) fun _ _ h=>h))))) (leL_cons (le_int rfl) fun _ _ h=>h)),?_⟩
          rw [idq_tree]
          exact holds_tt h1 (holds_tt (det h3.1) (holds_tt (det h3.2) (holds_tt h2 ⟨_,Le.refl _,H2⟩)))
      · rw [g1,cond_true] at H2
        rw [Bool.and_eq_true] at g1
        obtain rfl:st=0:=eq_of_beq g1.1
        obtain rfl:e=1:=eq_of_beq g1.2
        refine ⟨[cnfA mru mc mt mf wt ec lo,.agg [kk 0,ai id,ai rq,.sl true opS (nfI a b c f) none,ai ct,ai tm,ai nk,ai ow,ai pe],kk 1,ai tk],leL_cons (Le.refl _) (leL_cons (le_agg (leL_cons (le_int rfl) (leL_cons (Le.refl _) (leL_cons (Le.refl _) (leL_cons (le_as4 hd) fun _ _ h=>h))))) (leL_cons (le_int rfl) fun _ _ h=>h)),?_⟩
        rw [idp_tree]
        exact holds_tt h1 (holds_tt (det h3.1) (holds_tt (det h3.2) (holds_tt h2 ⟨_,Le.refl _,H2⟩)))
    · exact H.elim
  · exact H.elim
theorem ipp_tree (mru mc mt mf wt ec lo id rq:Int) (a b c e:D) (ct tm nk ow pe ii:Int) (x:D) (tk:Int):treeF (evF Tryz.prog (gam (ipG Tryz.prog)) (lam ([])) 100 73) [cnfA mru mc mt mf wt ec lo,.agg [kk 6,ai id,ai rq,.sl true opS (nfI a b c e) none,ai ct,ai tm,ai nk,ai ow,ai pe],.agg [kk 2,ai ii,asl byS x],ai tk] =
RT.br (ichB mc mt mf wt 6 id rq (D.l [D.t [D.i 3,D.l [a,b,c,e]]]) ct tm nk ow pe) (RT.br (decide (0≤tk)) (RT.br (enc7E 2 ii x==0) (RT.br (!decide (tk≤1099511627776)) (RT.ok (AV.tup [AV.agg [zk 6,zi id,zi rq,AV.sl true zO (D.l [D.t [D.i 3,D.l [a,b,c,e]]]) none,zi ct,zi tm,zi nk,zi ow,zi pe],zz,zz])) (RT.br (mayA (D.l [D.t [D.ki 3,D.ki 4,D.ki 3,D.ki 0,D.ki 0,D.i pe,D.kb true]]) mc mt mf wt (AuV.mk 6 id rq (D.l [D.t [D.i 3,D.l [a,b,c,e]]]) ct tm nk) tk&&(bytesB x&&optsB (D.l [D.t [D.i 3,D.l [a,b,c,e]]]))) (RT.br (c82 rq ii (D.l [D.t [D.i 3,D.l [a,b,c,e]]]) x) (RT.ok (AV.tup [AV.agg [zk 7,zi id,zi rq,AV.sl true zO (D.l [D.t [D.i 3,D.l [a,b,c,e]]]) none,zi mc,zi tm,zi nk,zi ow,zi pe],AV.sl true zC (D.l []) none,AV.sl true zN (D.l [D.t [D.ki 5]]) none])) (RT.bad 351)) (RT.bad 350))) (RT.bad 343)) (RT.br (enc7E 2 ii x==0) (RT.ok (AV.tup [AV.agg [zk 6,zi id,zi rq,AV.sl true zO (D.l [D.t [D.i 3,D.l [a,b,c,e]]]) none,zi ct,zi tm,zi nk,zi ow,zi pe],zz,zz])) (RT.bad 343))) (RT.bad 354):=by rw [← fvF_eq Tryz.prog (gam (ipG Tryz.prog)) (lam ([])) false 100 73]; kernel_rfl
theorem ipq_tree (mru mc mt mf wt ec lo id rq:Int) (a b c e:D) (ct tm nk ow pe ii:Int) (x:D) (tk:Int):treeF (evF Tryz.prog (gam (ipG Tryz.prog)) (lam ([])) 100 73) [cnfA mru mc mt mf wt ec lo,.agg [kk 7,ai id,ai rq,.sl true opS (nfI a b c e) none,ai ct,ai tm,ai nk,ai ow,ai pe],.agg [kk 1,ai ii,asl byS x],ai tk] =
RT.br (ichB mc mt mf wt 7 id rq (D.l [D.t [D.i 3,D.l [a,b,c,e]]]) ct tm nk ow pe) (RT.br (decide (0≤tk)) (RT.br (enc7E 1 ii x==0) (RT.br (!decide (tk≤1099511627776)) (RT.ok (AV.tup [AV.agg [zk 7,zi id,zi rq,AV.sl true zO (D.l [D.t [D.i 3,D.l [a,b,c,e]]]) none,zi ct,zi tm,zi nk,zi ow,zi pe],zz,zz])) (RT.br (mayA (D.l [D.t [D.ki 3,D.ki 4,D.ki 3,D.ki 0,D.ki 0,D.i pe,D.kb true]]) mc mt mf wt (AuV.mk 7 id rq (D.l [D.t [D.i 3,D.l [a,b,c,e]]]) ct tm nk) tk&&(bytesB x&&optsB (D.l [D.t [D.i 3,D.l [a,b,c,e]]]))) (RT.br (cRq (D.l [D.t [D.ki 3,D.ki 4,D.ki 3,D.ki 0,D.ki 0,D.i pe,D.kb true]]) nk mf ii x) (RT.ok (AV.tup [AV.agg [zk 9,zi id,zi rq,AV.sl true zO (D.l [D.t [D.i 3,D.l [a,b,c,e]]]) none,zi ct,zi 0,zi 0,zi ow,zi pe],AV.sl true zC (D.l [D.t [D.ki 2,D.i ii,encO (decO x)]]) none,AV.sl true zN (D.l [D.t [D.ki 8],D.t [D.ki 1]]) none])) (RT.bad 352)) (RT.bad 350))) (RT.bad 343)) (RT.br (enc7E 1 ii x==0) (RT.ok (AV.tup [AV.agg [zk 7,zi id,zi rq,AV.sl true zO (D.l [D.t [D.i 3,D.l [a,b,c,e]]]) none,zi ct,zi tm,zi nk,zi ow,zi pe],zz,zz])) (RT.bad 343))) (RT.bad 354):=by rw [← fvF_eq Tryz.prog (gam (ipG Tryz.prog)) (lam ([])) false 100 73]; kernel_rfl
def FIpk:List AV→RT AV
  | [.agg [.sc false (.int .i64 mru),.sc false (.int .i64 mc),.sc false (.int .i64 mt),.sc false (.int .i64 mf),.sc false (.int .i64 wt),.sc false (.int .i64 ec),.sc false (.int .i64 lo)],
     .agg [.sc false (.int .i64 st),.sc false (.int .i64 id),.sc false (.int .i64 rq),.sl false [.int .i64,.sl [.int .u8]] d none,.sc false (.int .i64 ct),.sc false (.int .i64 tm),.sc false (.int .i64 nk),.sc false (.int .i64 ow),.sc false (.int .i64 pe)],.agg [.sc false (.int .i64 ic),.sc false (.int .i64 ii),.sl false [.int .u8] x none],.sc false (.int .i64 tk)]=>match as4 d with
    | some (a,b,c,f)=>need false (ichB mc mt mf wt st id rq (nfI a b c f) ct tm nk ow pe&&(decide (0≤tk∧tk≤1099511627776)&&(enc7E ic ii x==0&&(mayA (ipD pe) mc mt mf wt ⟨st,id,rq,nfI a b c f,ct,tm,nk⟩ tk&&(bytesB x&&optsB (nfI a b c f)))))) 370
        (bif st==6&&ic==2 then need false (c82 rq ii (nfI a b c f) x) 371 (.ok (.tup [iK 7 id rq (nfI a b c f) mc tm nk ow pe,nlO ctS,acK [.t [.ki 5]]]))
         else bif st==7&&ic==1 then need false (cRq (ipD pe) nk mf ii x) 372 (.ok (.tup [iK 9 id rq (nfI a b c f) ct 0 0 ow pe,.sl true ctS (.l [.t [.ki 2,.i ii,encO (decO x)]]) none,acK [.t [.ki 8],.t [.ki 1]]]))
         else .bad 373)
    | none=>.bad 374
  | _=>.bad 375
theorem ipk_soundF:SoundF Tryz.prog 73 (pureS Tryz.prog 73 FIpk):=by
  refine pure_by (gs:=ipG Tryz.prog) (ls:=[]) mixed ipG_ok trivial 73 100 fun args K ho H=>?_
  unfold FIpk at H
  split at H
  · rename_i mru mc mt mf wt ec lo st id rq d ct tm nk ow pe ic ii x tk
    split at H
    · rename_i a b c f hd
      obtain ⟨hc,H2⟩:=need_holds H
      clear H
      rw [Bool.and_eq_true,Bool.and_eq_true,Bool.and_eq_true] at hc
      obtain ⟨h1,h3,h4,h5⟩:=hc
      have h3:=odt h3
      have nt:(!decide (tk≤1099511627776))=false:=by rw [det h3.2]; rfl
      cases g1:st==6&&ic==2
      · rw [g1,cond_false] at H2
        cases g2:st==7&&ic==1
        · rw [g2] at H2; exact H2.elim
        · rw [g2,cond_true] at H2
          obtain ⟨hq,H3⟩:=need_holds H2
          clear H2
          rw [Bool.and_eq_true] at g2
          obtain rfl:st=7:=eq_of_beq g2.1
          obtain rfl:ic=1:=eq_of_beq g2.2
          refine ⟨[cnfA mru mc mt mf wt ec lo,.agg [kk 7,ai id,ai rq,.sl true opS (nfI a b c f) none,ai ct,ai tm,ai nk,ai ow,ai pe],.agg [kk 1,ai ii,asl byS x],ai tk],leL_cons (Le.refl _) (leL_cons (le_agg (leL_cons (le_int rfl) (leL_cons (Le.refl _) (leL_cons (Le.refl _) (leL_cons (le_as4 hd) fun _ _ h=>h))))) (leL_cons (le_agg (leL_cons (le_int rfl) fun _ _ h=>h)) fun _ _ h=>h)),?_⟩
          rw [ipq_tree]
          exact holds_tt h1 (holds_tt (det h3.1) (holds_tt h4 (holds_ff nt (holds_tt h5 (holds_tt hq ⟨_,Le.refl _,H3⟩)))))
      · rw [g1,cond_true] at H2
        obtain ⟨hq,H3⟩:=need_holds H2
        clear H2
        rw [Bool.and_eq_true] at g1
        obtain rfl:st=6:=eq_of_beq g1.1
        obtain rfl:ic=2:=eq_of_beq g1.2
        refine ⟨[cnfA mru mc mt mf wt ec lo,.agg [kk 6,ai id,ai rq,.sl true opS (nfI a b c f) none,ai ct,ai tm,ai nk,ai ow,ai pe],.agg [kk 2,ai ii,asl byS x],ai tk],leL_cons (Le.refl _) (leL_cons (le_agg (leL_cons (le_int rfl) (leL_cons (Le.refl _) (leL_cons (Le.refl _) (leL_cons (le_as4 hd) fun _ _ h=>h))))) (leL_cons (le_agg (leL_cons (le_int rfl) fun _ _ h=>h)) fun _ _ h=>h)),?_⟩
        rw [ipp_tree]
        exact holds_tt h1 (holds_tt (det h3.1) (holds_tt h4 (holds_ff nt (holds_tt h5 (holds_tt hq ⟨_,Le.refl _,H3⟩)))))
    · exact H.elim
  · exact H.elim
def leaG (P:Program):List (FuncId×Spec):=[(19,pureS P 19 FLkC),(63,pureS P 63 FINw),(64,pureS P 64 FIDo),(121,pureS P 121 FEncK)]
theorem leaG_ok:GamL Tryz.prog (leaG Tryz.prog):=⟨lkc_soundF,inw_soundF,ido_soundF,encK_soundF,trivial⟩
def lea_treeT (mru mc mt mf wt ec lo own id rq:Int) (d:D) (ct tm nk mg pr mu pe ne ad to tk:Int):RT AV :=
RT.br (lkB mru mc mt mf wt ec lo own 2 9 id rq d ct tm nk mg pr mu pe ne 0 0 0 (D.l []) 0 0 0 0 0 ad) (RT.br (decide (0≤tk)) (RT.br (!decide (tk≤1099511627776)) (RT.ok (AV.tup [AV.agg [zk 2,zk 9,zi id,zi rq,zs zO d,zi ct,zi tm,zi nk,zi mg,zi pr,zi mu,zi pe,zi ne,zk 0,zk 0,zk 0,AV.sl true zO (D.l []) none,zk 0,zk 0,zk 0,zk 0,zk 0,zi ad],zz])) (RT.br (decide (0≤to)) (RT.br (!decide (to≤4294967294)) (RT.ok (AV.tup [AV.agg [zk 2,zk 9,zi id,zi rq,zs zO d,zi ct,zi tm,zi nk,zi mg,zi pr,zi mu,zi pe,zi ne,zk 0,zk 0,zk 0,AV.sl true zO (D.l []) none,zk 0,zk 0,zk 0,zk 0,zk 0,zi ad],zz])) (RT.br (to==0) (RT.ok (AV.tup [AV.agg [zk 4,zk 9,zi id,zi rq,zs zO d,zi ct,zi tm,zi nk,zi mg,zi pr,zi mu,zi pe,zi ne,zk 0,zk 0,zk 0,AV.sl true zO (D.l []) none,zk 0,zk 0,zk 0,zk 0,zk 0,zi ad],zz])) (RT.all (RT.br (decide (1≤own∧own≤4294967295)&&decide (1≤to∧to≤4294967295)) (RT.all (RT.br (ichB mc mt mf wt 0 0 0 (D.l [D.t [D.i 3,D.l [D.i (byI (IntKind.wrap IntKind.u64 own) 4 0),D.i (byI (IntKind.wrap IntKind.u64 own) 4 1),D.i (byI (IntKind.wrap IntKind.u64 own) 4 2),D.i (byI (IntKind.wrap IntKind.u64 own) 4 3)]]]) 0 0 0 own to&&(mayA (D.l [D.t [D.ki 3,D.ki 4,D.ki 3,D.ki 0,D.ki 0,D.i to,D.kb true]]) mc mt mf wt (AuV.mk 0 0 0 (D.l [D.t [D.i 3,D.l [D.i (byI (IntKind.wrap IntKind.u64 own) 4 0),D.i (byI (IntKind.wrap IntKind.u64 own) 4 1),D.i (byI (IntKind.wrap IntKind.u64 own) 4 2),D.i (byI (IntKind.wrap IntKind.u64 own) 4 3)]]]) 0 0 0) tk&&decide (0≤tk∧tk≤1099511627776))) (RT.all (RT.br (ichB mc mt mf wt 2 0 0 (D.l [D.t [D.i 3,D.l [D.i (byI (IntKind.wrap IntKind.u64 own) 4 0),D.i (byI (IntKind.wrap IntKind.u64 own) 4 1),D.i (byI (IntKind.wrap IntKind.u64 own) 4 2),D.i (byI (IntKind.wrap IntKind.u64 own) 4 3)]]]) 0 0 0 own to&&(mayA (D.l [D.t [D.ki 3,D.ki 4,D.ki 3,D.ki 0,D.ki 0,D.i to,D.kb true]]) mc mt mf wt (AuV.mk 2 0 0 (D.l [D.t [D.i 3,D.l [D.i (byI (IntKind.wrap IntKind.u64 own) 4 0),D.i (byI (IntKind.wrap IntKind.u64 own) 4 1),D.i (byI (IntKind.wrap IntKind.u64 own) 4 2),D.i (byI (IntKind.wrap IntKind.u64 own) 4 3)]]]) 0 0 0) tk&&decide (0≤tk∧tk≤1099511627776))) (RT.br true (RT.ok (AV.tup [AV.agg [zk 3,zk 9,zi id,zi rq,zs zO d,zi ct,zi tm,zi nk,zi mg,zi pr,zi mu,zi pe,zi ne,zk 6,zi 1,zi 1,AV.sl true zO (D.l [D.t [D.i 3,D.l [D.i (byI (IntKind.wrap IntKind.u64 own) 4 0),D.i (byI (IntKind.wrap IntKind.u64 own) 4 1),D.i (byI (IntKind.wrap IntKind.u64 own) 4 2),D.i (byI (IntKind.wrap IntKind.u64 own) 4 3)]]]) none,zi (cntN mc),zi (IntKind.wrap IntKind.i64 (tk+wt)),zi 0,zi own,zi to,zi to],AV.sl true zO (D.l [D.t [D.ki 32801,D.kl [D.t [D.i 1],D.t [D.i 1],D.i 0,D.i 10,D.t [D.i 3],D.t [D.i 6],D.i (byI (IntKind.wrap IntKind.u64 own) 4 0),D.i (byI (IntKind.wrap IntKind.u64 own) 4 1),D.i (byI (IntKind.wrap IntKind.u64 own) 4 2),D.i (byI (IntKind.wrap IntKind.u64 own) 4 3)]]]) none])) (RT.bad 343)) (RT.bad 366)) (RT.br (ichB mc mt mf wt 2 0 0 (D.l [D.t [D.i 3,D.l [D.i (byI (IntKind.wrap IntKind.u64 own) 4 0),D.i (byI (IntKind.wrap IntKind.u64 own) 4 1),D.i (byI (IntKind.wrap IntKind.u64 own) 4 2),D.i (byI (IntKind.wrap IntKind.u64 own) 4 3)]]]) 0 0 0 own to&&(mayA (D.l [D.t [D.ki 3,D.ki 4,D.ki 3,D.ki 0,D.ki 0,D.i to,D.kb true]]) mc mt mf wt (AuV.mk 2 0 0 (D.l [D.t [D.i 3,D.l [D.i (byI (IntKind.wrap IntKind.u64 own) 4 0),D.i (byI (IntKind.wrap IntKind.u64 own) 4 1),D.i (byI (IntKind.wrap IntKind.u64 own) 4 2),D.i (byI (IntKind.wrap IntKind.u64 own) 4 3)]]]) 0 0 0) tk&&decide (0≤tk∧tk≤1099511627776))) (RT.br true (RT.ok (AV.tup [AV.agg [zk 3,zk 9,zi id,zi rq,zs zO d,zi ct,zi tm,zi nk,zi mg,zi pr,zi mu,zi pe,zi ne,zk 6,zi 1,zi 1,AV.sl true zO (D.l [D.t [D.i 3,D.l [D.i (byI (IntKind.wrap IntKind.u64 own) 4 0),D.i (byI (IntKind.wrap IntKind.u64 own) 4 1),D.i (byI (IntKind.wrap IntKind.u64 own) 4 2),D.i (byI (IntKind.wrap IntKind.u64 own) 4 3)]]]) none,zi (cntN mc),zi (IntKind.wrap IntKind.i64 (tk+wt)),zi 0,zi own,zi to,zi to],AV.sl true zO (D.l [D.t [D.ki 32801,D.kl [D.t [D.i 1],D.t [D.i 1],D.i 0,D.i 10,D.t [D.i 3],D.t [D.i 6],D.i (byI (IntKind.wrap IntKind.u64 own) 4 0),D.i (byI (IntKind.wrap IntKind.u64 own) 4 1),D.i (byI (IntKind.wrap IntKind.u64 own) 4 2),D.i (byI (IntKind.wrap IntKind.u64 own) 4 3)]]]) none])) (RT.bad 343)) (RT.bad 366))) (RT.bad 366)) (RT.br (ichB mc mt mf wt 0 0 0 (D.l [D.t [D.i 3,D.l [D.i (byI (IntKind.wrap IntKind.u64 own) 4 0),D.i (byI (IntKind.wrap IntKind.u64 own) 4 1),D.i (byI (IntKind.wrap IntKind.u64 own) 4 2),D.i (byI (IntKind.wrap IntKind.u64 own) 4 3)]]]) 0 0 0 own to&&(mayA (D.l [D.t [D.ki 3,D.ki 4,D.ki 3,D.ki 0,D.ki 0,D.i to,D.kb true]]) mc mt mf wt (AuV.mk 0 0 0 (D.l [D.t [D.i 3,D.l [D.i (byI (IntKind.wrap IntKind.u64 own) 4 0),D.i (byI (IntKind.wrap IntKind.u64 own) 4 1),D.i (byI (IntKind.wrap IntKind.u64 own) 4 2),D.i (byI (IntKind.wrap IntKind.u64 own) 4 3)]]]) 0 0 0) tk&&decide (0≤tk∧tk≤1099511627776))) (RT.all (RT.br (ichB mc mt mf wt 2 0 0 (D.l [D.t [D.i 3,D.l [D.i (byI (IntKind.wrap IntKind.u64 own) 4 0),D.i (byI (IntKind.wrap IntKind.u64 own) 4 1),D.i (byI (IntKind.wrap IntKind.u64 own) 4 2),D.i (byI (IntKind.wrap IntKind.u64 own) 4 3)]]]) 0 0 0 own to&&(mayA (D.l [D.t [D.ki 3,D.ki 4,D.ki 3,D.ki 0,D.ki 0,D.i to,D.kb true]]) mc mt mf wt (AuV.mk 2 0 0 (D.l [D.t [D.i 3,D.l [D.i (byI (IntKind.wrap IntKind.u64 own) 4 0),D.i (byI (IntKind.wrap IntKind.u64 own) 4 1),D.i (byI (IntKind.wrap IntKind.u64 own) 4 2),D.i (byI (IntKind.wrap IntKind.u64 own) 4 3)]]]) 0 0 0) tk&&decide (0≤tk∧tk≤1099511627776))) (RT.br true (RT.ok (AV.tup [AV.agg [zk 3,zk 9,zi id,zi rq,zs zO d,zi ct,zi tm,zi nk,zi mg,zi pr,zi mu,zi pe,zi ne,zk 6,zi 1,zi 1,AV.sl true zO (D.l [D.t [D.i 3,D.l [D.i (byI (IntKind.wrap IntKind.u64 own) 4 0),D.i (byI (IntKind.wrap IntKind.u64 own) 4 1),D.i (byI (IntKind.wrap IntKind.u64 own) 4 2),D.i (byI (IntKind.wrap IntKind.u64 own) 4 3)]]]) none,zi (cntN mc),zi (IntKind.wrap IntKind.i64 (tk+wt)),zi 0,zi own,zi to,zi to],AV.sl true zO (D.l [D.t [D.ki 32801,D.kl [D.t [D.i 1],D.t [D.i 1],D.i 0,D.i 10,D.t [D.i 3],D.t [D.i 6],D.i (byI (IntKind.wrap IntKind.u64 own) 4 0),D.i (byI (IntKind.wrap IntKind.u64 own) 4 1),D.i (byI (IntKind.wrap IntKind.u64 own) 4 2),D.i (byI (IntKind.wrap IntKind.u64 own) 4 3)]]]) none])) (RT.bad 343)) (RT.bad 366)) (RT.br (ichB mc mt mf wt 2 0 0 (D.l [D.t [D.i 3,D.l [D.i (byI (IntKind.wrap IntKind.u64 own) 4 0),D.i (byI (IntKind.wrap IntKind.u64 own) 4 1),D.i (byI (IntKind.wrap IntKind.u64 own) 4 2),D.i (byI (IntKind.wrap IntKind.u64 own) 4 3)]]]) 0 0 0 own to&&(mayA (D.l [D.t [D.ki 3,D.ki 4,D.ki 3,D.ki 0,D.ki 0,D.i to,D.kb true]]) mc mt mf wt (AuV.mk 2 0 0 (D.l [D.t [D.i 3,D.l [D.i (byI (IntKind.wrap IntKind.u64 own) 4 0),D.i (byI (IntKind.wrap IntKind.u64 own) 4 1),D.i (byI (IntKind.wrap IntKind.u64 own) 4 2),D.i (byI (IntKind.wrap IntKind.u64 own) 4 3)]]]) 0 0 0) tk&&decide (0≤tk∧tk≤1099511627776))) (RT.br true (RT.ok (AV.tup [AV.agg [zk 3,zk 9,zi id,zi rq,zs zO d,zi ct,zi tm,zi nk,zi mg,zi pr,zi mu,zi pe,zi ne,zk 6,zi 1,zi 1,AV.sl true zO (D.l [D.t [D.i 3,D.l [D.i (byI (IntKind.wrap IntKind.u64 own) 4 0),D.i (byI (IntKind.wrap IntKind.u64 own) 4 1),D.i (byI (IntKind.wrap IntKind.u64 own) 4 2),D.i (byI (IntKind.wrap IntKind.u64 own) 4 3)]]]) none,zi (cntN mc),zi (IntKind.wrap IntKind.i64 (tk+wt)),zi 0,zi own,zi to,zi to],AV.sl true zO (D.l [D.t [D.ki 32801,D.kl [D.t [D.i 1],D.t [D.i 1],D.i 0,D.i 10,D.t [D.i 3],D.t [D.i 6],D.i (byI (IntKind.wrap IntKind.u64 own) 4 0),D.i (byI (IntKind.wrap IntKind.u64 own) 4 1),D.i (byI (IntKind.wrap IntKind.u64 own) 4 2),D.i (byI (IntKind.wrap IntKind.u64 own) 4 3)]]]) none])) (RT.bad 343)) (RT.bad 366))) (RT.bad 366))) (RT.bad 364)) (RT.br (decide (1≤own∧own≤4294967295)&&decide (1≤to∧to≤4294967295)) (RT.all (RT.br (ichB mc mt mf wt 0 0 0 (D.l [D.t [D.i 3,D.l [D.i (byI (IntKind.wrap IntKind.u64 own) 4 0),D.i (byI (IntKind.wrap IntKind.u64 own) 4 1),D.i (byI (IntKind.wrap IntKind.u64 own) 4 2),D.i (byI (IntKind.wrap IntKind.u64 own) 4 3)]]]) 0 0 0 own to&&(mayA (D.l [D.t [D.ki 3,D.ki 4,D.ki 3,D.ki 0,D.ki 0,D.i to,D.kb true]]) mc mt mf wt (AuV.mk 0 0 0 (D.l [D.t [D.i 3,D.l [D.i (byI (IntKind.wrap IntKind.u64 own) 4 0),D.i (byI (IntKind.wrap IntKind.u64 own) 4 1),D.i (byI (IntKind.wrap IntKind.u64 own) 4 2),D.i (byI (IntKind.wrap IntKind.u64 own) 4 3)]]]) 0 0 0) tk&&decide (0≤tk∧tk≤1099511627776))) (RT.all (RT.br (ichB mc mt mf wt 2 0 0 (D.l [D.t [D.i 3,D.l [D.i (byI (IntKind.wrap IntKind.u64 own) 4 0),D.i (byI (IntKind.wrap IntKind.u64 own) 4 1),D.i (byI (IntKind.wrap IntKind.u64 own) 4 2),D.i (byI (IntKind.wrap IntKind.u64 own) 4 3)]]]) 0 0 0 own to&&(mayA (D.l [D.t [D.ki 3,D.ki 4,D.ki 3,D.ki 0,D.ki 0,D.i to,D.kb true]]) mc mt mf wt (AuV.mk 2 0 0 (D.l [D.t [D.i 3,D.l [D.i (byI (IntKind.wrap IntKind.u64 own) 4 0),D.i (byI (IntKind.wrap IntKind.u64 own) 4 1),D.i (byI (IntKind.wrap IntKind.u64 own) 4 2),D.i (byI (IntKind.wrap IntKind.u64 own) 4 3)]]]) 0 0 0) tk&&decide (0≤tk∧tk≤1099511627776))) (RT.br true (RT.ok (AV.tup [AV.agg [zk 3,zk 9,zi id,zi rq,zs zO d,zi ct,zi tm,zi nk,zi mg,zi pr,zi mu,zi pe,zi ne,zk 6,zi 1,zi 1,AV.sl true zO (D.l [D.t [D.i 3,D.l [D.i (byI (IntKind.wrap IntKind.u64 own) 4 0),D.i (byI (IntKind.wrap IntKind.u64 own) 4 1),D.i (byI (IntKind.wrap IntKind.u64 own) 4 2),D.i (byI (IntKind.wrap IntKind.u64 own) 4 3)]]]) none,zi (cntN mc),zi (IntKind.wrap IntKind.i64 (tk+wt)),zi 0,zi own,zi to,zi to],AV.sl true zO (D.l [D.t [D.ki 32801,D.kl [D.t [D.i 1],D.t [D.i 1],D.i 0,D.i 10,D.t [D.i 3],D.t [D.i 6],D.i (byI (IntKind.wrap IntKind.u64 own) 4 0),D.i (byI (IntKind.wrap IntKind.u64 own) 4 1),D.i (byI (IntKind.wrap IntKind.u64 own) 4 2),D.i (byI (IntKind.wrap IntKind.u64 own) 4 3)]]]) none])) (RT.bad 343)) (RT.bad 366)) (RT.br (ichB mc mt mf wt 2 0 0 (D.l [D.t [D.i 3,D.l [D.i (byI (IntKind.wrap IntKind.u64 own) 4 0),D.i (byI (IntKind.wrap IntKind.u64 own) 4 1),D.i (byI (IntKind.wrap IntKind.u64 own) 4 2),D.i (byI (IntKind.wrap IntKind.u64 own) 4 3)]]]) 0 0 0 own to&&(mayA (D.l [D.t [D.ki 3,D.ki 4,D.ki 3,D.ki 0,D.ki 0,D.i to,D.kb true]]) mc mt mf wt (AuV.mk 2 0 0 (D.l [D.t [D.i 3,D.l [D.i (byI (IntKind.wrap IntKind.u64 own) 4 0),D.i (byI (IntKind.wrap IntKind.u64 own) 4 1),D.i (byI (IntKind.wrap IntKind.u64 own) 4 2),D.i (byI (IntKind.wrap IntKind.u64 own) 4 3)]]]) 0 0 0) tk&&decide (0≤tk∧tk≤1099511627776))) (RT.br true (RT.ok (AV.tup [AV.agg [zk 3,zk 9,zi id,zi rq,zs zO d,zi ct,zi tm,zi nk,zi mg,zi pr,zi mu,zi pe,zi ne,zk 6,zi 1,zi 1,AV.sl true zO (D.l [D.t [D.i 3,D.l [D.i (byI (IntKind.wrap IntKind.u64 own) 4 0),D.i (byI (IntKind.wrap IntKind.u64 own) 4 1),D.i (byI (IntKind.wrap IntKind.u64 own) 4 2),D.i (byI (IntKind.wrap IntKind.u64 own) 4 3)]]]) none,zi (cntN mc),zi (IntKind.wrap IntKind.i64 (tk+wt)),zi 0,zi own,zi to,zi to],AV.sl true zO (D.l [D.t [D.ki 32801,D.kl [D.t [D.i 1],D.t [D.i 1],D.i 0,D.i 10,D.t [D.i 3],D.t [D.i 6],D.i (byI (IntKind.wrap IntKind.u64 own) 4 0),D.i (byI (IntKind.wrap IntKind.u64 own) 4 1),D.i (byI (IntKind.wrap IntKind.u64 own) 4 2),D.i (byI (IntKind.wrap IntKind.u64 own) 4 3)]]]) none])) (RT.bad 343)) (RT.bad 366))) (RT.bad 366)) (RT.br (ichB mc mt mf wt 0 0 0 (D.l [D.t [D.i 3,D.l [D.i (byI (IntKind.wrap IntKind.u64 own) 4 0),D.i (byI (IntKind.wrap IntKind.u64 own) 4 1),D.i (byI (IntKind.wrap IntKind.u64 own) 4 2),D.i (byI (IntKind.wrap IntKind.u64 own) 4 3)]]]) 0 0 0 own to&&(mayA (D.l [D.t [D.ki 3,D.ki 4,D.ki 3,D.ki 0,D.ki 0,D.i to,D.kb true]]) mc mt mf wt (AuV.mk 0 0 0 (D.l [D.t [D.i 3,D.l [D.i (byI (IntKind.wrap IntKind.u64 own) 4 0),D.i (byI (IntKind.wrap IntKind.u64 own) 4 1),D.i (byI (IntKind.wrap IntKind.u64 own) 4 2),D.i (byI (IntKind.wrap IntKind.u64 own) 4 3)]]]) 0 0 0) tk&&decide (0≤tk∧tk≤1099511627776))) (RT.all (RT.br (ichB mc mt mf wt 2 0 0 (D.l [D.t [D.i 3,D.l [D.i (byI (IntKind.wrap IntKind.u64 own) 4 0),D.i (byI (IntKind.wrap IntKind.u64 own) 4 1),D.i (byI (IntKind.wrap IntKind.u64 own) 4 2),D.i (byI (IntKind.wrap IntKind.u64 own) 4 3)]]]) 0 0 0 own to&&(mayA (D.l [D.t [D.ki 3,D.ki 4,D.ki 3,D.ki 0,D.ki 0,D.i to,D.kb true]]) mc mt mf wt (AuV.mk 2 0 0 (D.l [D.t [D.i 3,D.l [D.i (byI (IntKind.wrap IntKind.u64 own) 4 0),D.i (byI (IntKind.wrap IntKind.u64 own) 4 1),D.i (byI (IntKind.wrap IntKind.u64 own) 4 2),D.i (byI (IntKind.wrap IntKind.u64 own) 4 3)]]]) 0 0 0) tk&&decide (0≤tk∧tk≤1099511627776))) (RT.br true (RT.ok (AV.tup [AV.agg [zk 3,zk 9,zi id,zi rq,zs zO d,zi ct,zi tm,zi nk,zi mg,zi pr,zi mu,zi pe,zi ne,zk 6,zi 1,zi 1,AV.sl true zO (D.l [D.t [D.i 3,D.l [D.i (byI (IntKind.wrap IntKind.u64 own) 4 0),D.i (byI (IntKind.wrap IntKind.u64 own) 4 1),D.i (byI (IntKind.wrap IntKind.u64 own) 4 2),D.i (byI (IntKind.wrap IntKind.u64 own) 4 3)]]]) none,zi (cntN mc),zi (IntKind.wrap IntKind.i64 (tk+wt)),zi 0,zi own,zi to,zi to],AV.sl true zO (D.l [D.t [D.ki 32801,D.kl [D.t [D.i 1],D.t [D.i 1],D.i 0,D.i 10,D.t [D.i 3],D.t [D.i 6],D.i (byI (IntKind.wrap IntKind.u64 own) 4 0),D.i (byI (IntKind.wrap IntKind.u64 own) 4 1),D.i (byI (IntKind.wrap IntKind.u64 own) 4 2),D.i (byI (IntKind.wrap IntKind.u64 own) 4 3)]]]) none])) (RT.bad 343)) (RT.bad 366)) (RT.br (ichB mc mt mf wt 2 0 0 (D.l [D.t [D.i 3,D.l [D.i (byI (IntKind.wrap IntKind.u64 own) 4 0),D.i (byI (IntKind.wrap IntKind.u64 own) 4 1),D.i (byI (IntKind.wrap IntKind.u64 own) 4 2),D.i (byI (IntKind.wrap IntKind.u64 own) 4 3)]]]) 0 0 0 own to&&(mayA (D.l [D.t [D.ki 3,D.ki 4,D.ki 3,D.ki 0,D.ki 0,D.i to,D.kb true]]) mc mt mf wt (AuV.mk 2 0 0 (D.l [D.t [D.i 3,D.l [D.i (byI (IntKind.wrap IntKind.u64 own) 4 0),D.i (byI (IntKind.wrap IntKind.u64 own) 4 1),D.i (byI (IntKind.wrap IntKind.u64 own) 4 2),D.i (byI (IntKind.wrap IntKind.u64 own) 4 3)]]]) 0 0 0) tk&&decide (0≤tk∧tk≤1099511627776))) (RT.br true (RT.ok (AV.tup [AV.agg [zk 3,zk 9,zi id,zi rq,zs zO d,zi ct,zi tm,zi nk,zi mg,zi pr,zi mu,zi pe,zi ne,zk 6,zi 1,zi 1,AV.sl true zO (D.l [D.t [D.i 3,D.l [D.i (byI (IntKind.wrap IntKind.u64 own) 4 0),D.i (byI (IntKind.wrap IntKind.u64 own) 4 1),D.i (byI (IntKind.wrap IntKind.u64 own) 4 2),D.i (byI (IntKind.wrap IntKind.u64 own) 4 3)]]]) none,zi (cntN mc),zi (IntKind.wrap IntKind.i64 (tk+wt)),zi 0,zi own,zi to,zi to],AV.sl true zO (D.l [D.t [D.ki 32801,D.kl [D.t [D.i 1],D.t [D.i 1],D.i 0,D.i 10,D.t [D.i 3],D.t [D.i 6],D.i (byI (IntKind.wrap IntKind.u64 own) 4 0),D.i (byI (IntKind.wrap IntKind.u64 own) 4 1),D.i (byI (IntKind.wrap IntKind.u64 own) 4 2),D.i (byI (IntKind.wrap IntKind.u64 own) 4 3)]]]) none])) (RT.bad 343)) (RT.bad 366))) (RT.bad 366))) (RT.bad 364))))) (RT.ok (AV.tup [AV.agg [zk 2,zk 9,zi id,zi rq,zs zO d,zi ct,zi tm,zi nk,zi mg,zi pr,zi mu,zi pe,zi ne,zk 0,zk 0,zk 0,AV.sl true zO (D.l []) none,zk 0,zk 0,zk 0,zk 0,zk 0,zi ad],zz])))) (RT.ok (AV.tup [AV.agg [zk 2,zk 9,zi id,zi rq,zs zO d,zi ct,zi tm,zi nk,zi mg,zi pr,zi mu,zi pe,zi ne,zk 0,zk 0,zk 0,AV.sl true zO (D.l []) none,zk 0,zk 0,zk 0,zk 0,zk 0,zi ad],zz]))) (RT.bad 356)
theorem lea_tree (mru mc mt mf wt ec lo own id rq:Int) (d:D) (ct tm nk mg pr mu pe ne ad to tk:Int):treeF (evF Tryz.prog (gam (leaG Tryz.prog)) (lam ([])) 100 10) [lcfA mru mc mt mf wt ec lo own,.agg [kk 2,kk 9,ai id,ai rq,asl opS d,ai ct,ai tm,ai nk,ai mg,ai pr,ai mu,ai pe,ai ne,kk 0,kk 0,kk 0,.sl true opS (.l []) none,kk 0,kk 0,kk 0,kk 0,kk 0,ai ad],ai to,ai tk]=lea_treeT mru mc mt mf wt ec lo own id rq d ct tm nk mg pr mu pe ne ad to tk:=by rw [← fvF_eq Tryz.prog (gam (leaG Tryz.prog)) (lam ([])) false 100 10]; kernel_rfl
abbrev nfO (own:Int):D:=nfI (.i (byI (uns own) 4 0)) (.i (byI (uns own) 4 1)) (.i (byI (uns own) 4 2)) (.i (byI (uns own) 4 3))
def leaB (lk:Bool) (ph to tk:Int):Bool:=lk&&(ph==2&&(inB to 1 4294967294&&inB tk 0 1099511627776))
def FLea9:List AV→RT AV
  | [a,b,.sc false (.int .i64 to),.sc false (.int .i64 tk)]=>match cdAL lkCd [a,b] with
    | some [v0,v1,v2,v3,v4,v5,v6,v7,v8,v9,v10,v11,v12,v13,v14,v15,v16,v17,v18,v19,v20,v21,v22,v23,v24,v25,v26,v27,v28,v29,v30]=>need false (leaB (lkB v0.toI v1.toI v2.toI v3.toI v4.toI v5.toI v6.toI v7.toI v8.toI v9.toI v10.toI v11.toI v12 v13.toI v14.toI v15.toI v16.toI v17.toI v18.toI v19.toI v20.toI v21.toI v22.toI v23.toI v24 v25.toI v26.toI v27.toI v28.toI v29.toI v30.toI) v8.toI to tk) 380
      (.ok (.tup [.agg [kk 3,kk 9,ai v10.toI,ai v11.toI,asl opS v12,ai v13.toI,ai v14.toI,ai v15.toI,ai v16.toI,ai v17.toI,ai v18.toI,ai v19.toI,ai v20.toI,kk 6,ai 1,ai 1,.sl true opS (nfO v7.toI) none,ai (cntN v1.toI),ai (IntKind.wrap .i64 (tk+v4.toI)),ai 0,ai v7.toI,ai to,ai to],
        .sl true opS (.l [.t [.ki 32801,.kl [.t [.i 1],.t [.i 1],.i 0,.i 10,.t [.i 3],.t [.i 6],.i (byI (uns v7.toI) 4 0),.i (byI (uns v7.toI) 4 1),.i (byI (uns v7.toI) 4 2),.i (byI (uns v7.toI) 4 3)]]]) none]))
    | _=>.bad 380
  | _=>.bad 380
theorem nf_enc (a b c e:D):encE (nfI a b c e)=0:=by kernel_rfl
theorem ip_set {mru mc mt mf wt ec lo to:Int} (hf:fitsB mru mc mt mf wt ec lo=true) (h:0≤to∧to<4294967296):setB (rlM (ipD to)) (rlG (ipD to)) mc mt mf wt=true:=by
  have e1:rlM (ipD to)=fkM to:=rfl
  have e2:rlG (ipD to)=to:=rfl
  rw [e1,e2]
  exact setB_fits hf (by rw [rules_fk]; exact det h)
theorem nf_sound {st id rq ct tm nk:Int} {a b c e:D} (h1:0≤st∧st≤9) (h2:0≤id∧id≤255) (h3:0≤rq∧rq≤255) (h4:0≤ct∧ct≤1000) (h5:0≤nk∧nk≤1000) (h6:((4≤st∧st≤8)∧1≤tm∧tm≤1099512676352)∨(¬ (4≤st∧st≤8)∧tm=0)):soundB st id rq (nfI a b c e) ct tm nk=true:=by
  unfold soundB inB timB inB
  rw [det h1,det h2,det h3,det h4,det h5,nf_enc]
  rcases h6 with ⟨h,h'⟩ | ⟨h,h'⟩
  · rw [if_pos h,det h']; rfl
  · rw [if_neg h,h']; rfl
theorem ich_ok {mru mc mt mf wt ec lo st id rq ct tm nk ow pe:Int} {a b c e:D} (hf:fitsB mru mc mt mf wt ec lo=true) (h1:1≤ow∧ow≤4294967295) (h2:1≤pe∧pe≤4294967295) (hs:soundB st id rq (nfI a b c e) ct tm nk=true):ichB mc mt mf wt st id rq (nfI a b c e) ct tm nk ow pe=true:=by
  unfold ichB inB
  rw [det h1,det h2,ip_set hf ⟨by omega,by omega⟩,hs]; rfl
theorem may_ok {mru mc mt mf wt ec lo st id rq ct tm nk pe tk:Int} {a b c e:D} (hf:fitsB mru mc mt mf wt ec lo=true) (h2:1≤pe∧pe≤4294967295) (hs:soundB st id rq (nfI a b c e) ct tm nk=true) (ht:0≤tk∧tk≤1099511627776):mayA (ipD pe) mc mt mf wt ⟨st,id,rq,nfI a b c e,ct,tm,nk⟩ tk=true:=by
  unfold mayA mayB inB
  rw [ip_set hf ⟨by omega,by omega⟩,hs,det ht]; rfl
theorem FLea9_inv {args:List AV} {K:AV→Prop} (H:(FLea9 args).holds K):∃ (mru mc mt mf wt ec lo own ph st id rq ct tm nk mg pr mu pe ne st' id' rq' ct' tm' nk' ow pe' ad to tk:Int) (d d':D),args=[lcfA mru mc mt mf wt ec lo own,lnkA (ai ph) (ai st) id rq d ct tm nk mg pr mu pe ne st' id' rq' d' ct' tm' nk' ow pe' ad,ai to,ai tk]∧leaB (lkB mru mc mt mf wt ec lo own ph st id rq d ct tm nk mg pr mu pe ne st' id' rq' d' ct' tm' nk' ow pe' ad) ph to tk=true∧K (.tup [.agg [kk 3,kk 9,ai id,ai rq,asl opS d,ai ct,ai tm,ai nk,ai mg,ai pr,ai mu,ai pe,ai ne,kk 6,ai 1,ai 1,.sl true opS (nfO own) none,ai (cntN mc),ai (IntKind.wrap .i64 (tk+wt)),ai 0,ai own,ai to,ai to],
        .sl true opS (.l [.t [.ki 32801,.kl [.t [.i 1],.t [.i 1],.i 0,.i 10,.t [.i 3],.t [.i 6],.i (byI (uns own) 4 0),.i (byI (uns own) 4 1),.i (byI (uns own) 4 2),.i (byI (uns own) 4 3)]]]) none]):=by
  unfold FLea9 at H
  split at H
  · rename_i a b to tk
    split at H
    · rename_i v0 v1 v2 v3 v4 v5 v6 v7 v8 v9 v10 v11 v12 v13 v14 v15 v16 v17 v18 v19 v20 v21 v22 v23 v24 v25 v26 v27 v28 v29 v30 hd
      obtain ⟨hc,H⟩:=need_holds H
      have:=congrArg Prod.fst (cdAL_ok _ _ _ hd [])
      obtain ⟨ha,hb⟩:=List.cons.inj this
      obtain ⟨hb,-⟩:=List.cons.inj hb
      refine ⟨v0.toI,v1.toI,v2.toI,v3.toI,v4.toI,v5.toI,v6.toI,v7.toI,v8.toI,v9.toI,v10.toI,v11.toI,v13.toI,v14.toI,v15.toI,v16.toI,v17.toI,v18.toI,v19.toI,v20.toI,v21.toI,v22.toI,v23.toI,v25.toI,v26.toI,v27.toI,v28.toI,v29.toI,v30.toI,to,tk,v12,v24,?_,hc,H⟩
      subst ha hb
      rfl
    · exact H.elim
  · exact H.elim
theorem lea_soundF:SoundF Tryz.prog 10 (pureS Tryz.prog 10 FLea9):=by
  refine pure_by (gs:=leaG Tryz.prog) (ls:=[]) mixed leaG_ok trivial 10 100 fun args K ho H=>?_
  obtain ⟨mru,mc,mt,mf,wt,ec,lo,own,ph,st,id,rq,ct,tm,nk,mg,pr,mu,pe,ne,st',id',rq',ct',tm',nk',ow,pe',ad,to,tk,d,d',hA,hc,H⟩:=FLea9_inv H
  unfold leaB inB at hc
  rw [Bool.and_eq_true,Bool.and_eq_true,Bool.and_eq_true] at hc
  obtain ⟨hk,hp,hto,htk⟩:=hc
  obtain rfl:ph=2:=eq_of_beq hp
  have hto:=odt hto
  have htk:=odt htk
  have hk0:=hk
  unfold lkB inB lkP at hk
  rw [Bool.and_eq_true,Bool.and_eq_true,Bool.and_eq_true,Bool.and_eq_true] at hk
  obtain ⟨hn,hw,hl,ha,hp⟩:=hk
  have hw:=odt hw
  obtain ⟨hf,_⟩:=(newB_iff _ _ _ _ _ _ _ _).1 hn
  rw [show ((2:Int)==1)=false from rfl,cond_false,show ((2:Int)==2)=true from rfl,cond_true,Bool.and_eq_true] at hp
  obtain ⟨hs,hz⟩:=hp
  obtain ⟨z1,z2,z3,z4,z5,z6,z7,z8,z9⟩:=odt hz
  obtain rfl:st=9:=eq_of_beq hs
  subst z1 z2 z3 z5 z6 z7 z8 z9
  have nt:∀ {p:Prop} [Decidable p],p→(!decide p)=false:=fun h=>by rw [det h]; rfl
  have hz:Le (asl opS d') (.sl true opS (.l []) none):=le_sl (by rw [z4]; rfl) fun i hi=>absurd (z4 ▸ hi) (Nat.not_lt_zero i)
  refine ⟨[lcfA mru mc mt mf wt ec lo own,.agg [kk 2,kk 9,ai id,ai rq,asl opS d,ai ct,ai tm,ai nk,ai mg,ai pr,ai mu,ai pe,ai ne,kk 0,kk 0,kk 0,.sl true opS (.l []) none,kk 0,kk 0,kk 0,kk 0,kk 0,ai ad],ai to,ai tk],by rw [hA]; exact leL_cons (Le.refl _) (leL_cons (le_agg (leL_cons (le_int rfl) (leL_cons (le_int rfl) (leL_cons (Le.refl _) (leL_cons (Le.refl _) (leL_cons (Le.refl _) (leL_cons (Le.refl _) (leL_cons (Le.refl _) (leL_cons (Le.refl _) (leL_cons (Le.refl _) (leL_cons (Le.refl _) (leL_cons (Le.refl _) (leL_cons (Le.refl _) (leL_cons (Le.refl _) (leL_cons (le_int rfl) (leL_cons (le_int rfl) (leL_cons (le_int rfl) (leL_cons hz (leL_cons (le_int rfl) (leL_cons (le_int rfl) (leL_cons (le_int rfl) (leL_cons (le_int rfl) (leL_cons (le_int rfl) fun _ _ h=>h))))))))))))))))))))))) fun _ _ h=>h),?_⟩
  have S:∀ s:Int,s=0∨s=2→(ichB mc mt mf wt s 0 0 (nfO own) 0 0 0 own to&&(mayA (ipD to) mc mt mf wt ⟨s,0,0,nfO own,0,0,0⟩ tk&&decide (0≤tk∧tk≤1099511627776)))=true:=fun s hs=>by
    have h1:soundB s 0 0 (nfO own) 0 0 0=true:=nf_sound ⟨by omega,by omega⟩ ⟨by decide,by decide⟩ ⟨by decide,by decide⟩ ⟨by decide,by decide⟩ ⟨by decide,by decide⟩ (.inr ⟨by omega,rfl⟩)
    rw [ich_ok hf ⟨by omega,by omega⟩ ⟨by omega,by omega⟩ h1,may_ok hf ⟨by omega,by omega⟩ h1 htk,det htk]; rfl
  have hb:(decide (1≤own∧own≤4294967295)&&decide (1≤to∧to≤4294967295))=true:=by
    rw [det ⟨hw.1,by omega⟩,det ⟨hto.1,by omega⟩]; rfl
  have hk0:lkB mru mc mt mf wt ec lo own 2 9 id rq d ct tm nk mg pr mu pe ne 0 0 0 (.l []) 0 0 0 0 0 ad=true:=by
    unfold lkB inB lkP nzB at hk0 ⊢
    rw [z4] at hk0
    exact hk0
  rw [lea_tree]
  unfold lea_treeT
  refine holds_tt hk0 (holds_tt (det htk.1) (holds_ff (nt htk.2) (holds_tt (det (by omega)) (holds_ff (nt hto.2) (holds_ff (beq_eq_false_iff_ne.2 (by omega)) ⟨?_,?_⟩)))))
  all_goals refine holds_tt hb ⟨?_,?_⟩
  all_goals refine holds_tt (S 0 (.inl rfl)) ⟨?_,?_⟩
  all_goals exact holds_tt (S 2 (.inr rfl)) (holds_t ⟨_,le_two (le_agg (leL_cons (Le.refl _) (leL_cons (Le.refl _) (leL_cons (Le.refl _) (leL_cons (Le.refl _) (leL_cons (Le.refl _) (leL_cons (Le.refl _) (leL_cons (Le.refl _) (leL_cons (Le.refl _) (leL_cons (Le.refl _) (leL_cons (Le.refl _) (leL_cons (Le.refl _) (leL_cons (Le.refl _) (leL_cons (Le.refl _) (leL_cons (le_int rfl) (leL_cons (le_int rfl) (leL_cons (le_int rfl) (leL_cons (Le.refl _) fun _ _ h=>h)))))))))))))))))) (Le.refl _),H⟩)
def ukG (P:Program):List (FuncId×Spec):=(104,pureS P 104 FOwn) :: (177,pureS P 177 FDec) :: (48,pureS P 48 FLck) :: (157,pureS P 157 FSet) :: (158,pureS P 158 FSound) :: (156,pureS P 156 FCopied) :: (155,pureS P 155 FEnc) :: (121,pureS P 121 FEnc7) :: (162,pureS P 162 FCloneB) :: (203,pureS P 203 FChk) :: putG P
def tg (x:AV) (i:Nat):AV:=match x with | .tup vs=>vs.getD i .any | _=>.any
def elt (x:AV) (i:Nat):AV:=match x with | .sl kn es d _=>.agg (leaves kn es (d.get i) 0) | _=>.any
def nzC (x:AV):AV:=match x with | .sc _ (.slice none _ _)=>.sl true opS (.l []) none | x=>x
def nz (x:AV):AV:=match x with | .agg l=>.agg (l.map nzC) | x=>x
abbrev cf19K:AV:=.agg [kk 1492,kk 10,kk 2,kk 5,kk 3,kk 10,kk 3,kk 167772161]
theorem ukG_ok:GamL Tryz.prog (ukG Tryz.prog):=⟨own_soundF,dec_soundF,lcheck_soundF,set_soundF,sou_soundF,copied_soundF,encode_soundF,enc7_soundF,cloneb_soundF,chk_soundF,putG_ok⟩
def uNK:List AV:=[cf19K,kk 7]
def uNR:AV :=
    (AV.tup
        [AV.agg
            [AV.sc true (Value.int IntKind.i64 1),AV.sc true (Value.int IntKind.i64 0),
              AV.sc true (Value.int IntKind.i64 0),AV.sc true (Value.int IntKind.i64 0),
              AV.sl true [Sh.int IntKind.i64,Sh.sl [Sh.int IntKind.u8]]
                (D.kl [D.t [D.ki 1,D.kl [D.ki 5,D.ki 212]],D.t [D.ki 5,D.kl [D.ki 0,D.ki 0,D.ki 0,D.ki 7]]]) none,
              AV.sc true (Value.int IntKind.i64 0),AV.sc true (Value.int IntKind.i64 0),
              AV.sc true (Value.int IntKind.i64 0),AV.sc true (Value.int IntKind.i64 7),
              AV.sc true (Value.int IntKind.i64 0),AV.sc true (Value.int IntKind.i64 1492),
              AV.sc true (Value.int IntKind.i64 0),AV.sc true (Value.int IntKind.i64 0),
              AV.sc true (Value.int IntKind.i64 0),AV.sc true (Value.int IntKind.i64 0),
              AV.sc true (Value.int IntKind.i64 0),AV.sc true (Value.slice none 0 0),AV.sc true (Value.int IntKind.i64 0),
              AV.sc true (Value.int IntKind.i64 0),AV.sc true (Value.int IntKind.i64 0),
              AV.sc true (Value.int IntKind.i64 0),AV.sc true (Value.int IntKind.i64 0),
              AV.sc true (Value.int IntKind.i64 0)],
          AV.sc true (Value.int IntKind.i64 0)])
theorem uN:okV (treeR (evF Tryz.prog (gam (ukG Tryz.prog)) (lam ([])) 100 18) uNK)=some uNR:=by rw [← fvF_eq Tryz.prog (gam (ukG Tryz.prog)) (lam ([])) true 100 18]; kernel_rfl
def uC1K:List AV:=[kk 49185,kk 1,kk 1,.sl true opS (.l []) none]
def uC1R:AV :=
    (AV.agg
        [AV.sc true (Value.int IntKind.i64 49185),
          AV.sl true [Sh.int IntKind.u8] (D.l [D.t [D.ki 1],D.t [D.ki 1],D.ki 0,D.ki 4]) none])
theorem uC1:okV (treeR (evF Tryz.prog (gam (ukG Tryz.prog)) (lam ([])) 100 13) uC1K)=some uC1R:=by rw [← fvF_eq Tryz.prog (gam (ukG Tryz.prog)) (lam ([])) true 100 13]; kernel_rfl
def uC2K:List AV:=[kk 32801,kk 1,kk 1,.sl true opS (.l []) none]
def uC2R:AV :=
    (AV.agg
        [AV.sc true (Value.int IntKind.i64 32801),
          AV.sl true [Sh.int IntKind.u8] (D.l [D.t [D.ki 1],D.t [D.ki 1],D.ki 0,D.ki 4]) none])
theorem uC2:okV (treeR (evF Tryz.prog (gam (ukG Tryz.prog)) (lam ([])) 100 13) uC2K)=some uC2R:=by rw [← fvF_eq Tryz.prog (gam (ukG Tryz.prog)) (lam ([])) true 100 13]; kernel_rfl
def uSK:List AV:=[cf19K,nz (tg uNR 0),kk 0]
def uSR:AV :=
    (AV.tup
        [AV.agg
            [AV.sc true (Value.int IntKind.i64 1),AV.sc true (Value.int IntKind.i64 6),
              AV.sc true (Value.int IntKind.i64 1),AV.sc true (Value.int IntKind.i64 1),
              AV.sl true [Sh.int IntKind.i64,Sh.sl [Sh.int IntKind.u8]]
                (D.kl [D.t [D.ki 1,D.kl [D.ki 5,D.ki 212]],D.t [D.ki 5,D.kl [D.ki 0,D.ki 0,D.ki 0,D.ki 7]]]) none,
              AV.sc true (Value.int IntKind.i64 9),AV.sc true (Value.int IntKind.i64 3),
              AV.sc true (Value.int IntKind.i64 0),AV.sc true (Value.int IntKind.i64 7),
              AV.sc true (Value.int IntKind.i64 0),AV.sc true (Value.int IntKind.i64 1492),
              AV.sc true (Value.int IntKind.i64 0),AV.sc true (Value.int IntKind.i64 0),
              AV.sc true (Value.int IntKind.i64 0),AV.sc true (Value.int IntKind.i64 0),
              AV.sc true (Value.int IntKind.i64 0),
              AV.sl true [Sh.int IntKind.i64,Sh.sl [Sh.int IntKind.u8]] (D.l []) none,
              AV.sc true (Value.int IntKind.i64 0),AV.sc true (Value.int IntKind.i64 0),
              AV.sc true (Value.int IntKind.i64 0),AV.sc true (Value.int IntKind.i64 0),
              AV.sc true (Value.int IntKind.i64 0),AV.sc true (Value.int IntKind.i64 0)],
          AV.sl true [Sh.int IntKind.i64,Sh.sl [Sh.int IntKind.u8]]
            (D.l
              [D.t
                  [D.ki 49185,
                    D.kl
                      [D.t [D.ki 1],D.t [D.ki 1],D.ki 0,D.ki 14,D.t [D.ki 1],D.t [D.ki 4],D.ki 5,D.ki 212,
                        D.t [D.ki 5],D.t [D.ki 6],D.ki 0,D.ki 0,D.ki 0,D.ki 7]]])
            none])
theorem uS:okV (treeR (evF Tryz.prog (gam (ukG Tryz.prog)) (lam ([])) 100 20) uSK)=some uSR:=by rw [← fvF_eq Tryz.prog (gam (ukG Tryz.prog)) (lam ([])) true 100 20]; kernel_rfl
def uA1K:List AV:=[elt (tg uSR 1) 0]
def uA1R:AV :=
    (AV.agg
        [AV.sc true (Value.int IntKind.i64 49185),
          AV.sl true [Sh.int IntKind.u8]
            (D.l
              [D.t [D.ki 2],D.t [D.ki 1],D.ki 0,D.ki 14,D.t [D.ki 1],D.t [D.ki 4],D.ki 5,D.ki 212,D.t [D.ki 5],
                D.t [D.ki 6],D.ki 0,D.ki 0,D.ki 0,D.ki 7])
            none])
theorem uA1:okV (treeR (evF Tryz.prog (gam (ukG Tryz.prog)) (lam ([])) 100 12) uA1K)=some uA1R:=by rw [← fvF_eq Tryz.prog (gam (ukG Tryz.prog)) (lam ([])) true 100 12]; kernel_rfl
def uI1K:List AV:=[cf19K,nz (tg uSR 0),uA1R,kk 0]
def uI1R:AV :=
    (AV.tup
        [AV.agg
            [AV.sc true (Value.int IntKind.i64 1),AV.sc true (Value.int IntKind.i64 7),
              AV.sc true (Value.int IntKind.i64 1),AV.sc true (Value.int IntKind.i64 1),
              AV.sl true [Sh.int IntKind.i64,Sh.sl [Sh.int IntKind.u8]]
                (D.kl [D.t [D.ki 1,D.kl [D.ki 5,D.ki 212]],D.t [D.ki 5,D.kl [D.ki 0,D.ki 0,D.ki 0,D.ki 7]]]) none,
              AV.sc true (Value.int IntKind.i64 10),AV.sc true (Value.int IntKind.i64 3),
              AV.sc true (Value.int IntKind.i64 0),AV.sc true (Value.int IntKind.i64 7),
              AV.sc true (Value.int IntKind.i64 0),AV.sc true (Value.int IntKind.i64 1492),
              AV.sc true (Value.int IntKind.i64 0),AV.sc true (Value.int IntKind.i64 0),
              AV.sc true (Value.int IntKind.i64 0),AV.sc true (Value.int IntKind.i64 0),
              AV.sc true (Value.int IntKind.i64 0),
              AV.sl true [Sh.int IntKind.i64,Sh.sl [Sh.int IntKind.u8]] (D.l []) none,
              AV.sc true (Value.int IntKind.i64 0),AV.sc true (Value.int IntKind.i64 0),
              AV.sc true (Value.int IntKind.i64 0),AV.sc true (Value.int IntKind.i64 0),
              AV.sc true (Value.int IntKind.i64 0),AV.sc true (Value.int IntKind.i64 0)],
          AV.sc true (Value.slice none 0 0)])
theorem uI1:okV (treeR (evF Tryz.prog (gam (ukG Tryz.prog)) (lam ([])) 100 11) uI1K)=some uI1R:=by rw [← fvF_eq Tryz.prog (gam (ukG Tryz.prog)) (lam ([])) true 100 11]; kernel_rfl
def uI2K:List AV:=[cf19K,nz (tg uI1R 0),uC1R,kk 0]
def uI2R:AV :=
    (AV.tup
        [AV.agg
            [AV.sc true (Value.int IntKind.i64 2),AV.sc true (Value.int IntKind.i64 9),
              AV.sc true (Value.int IntKind.i64 1),AV.sc true (Value.int IntKind.i64 1),
              AV.sl true [Sh.int IntKind.i64,Sh.sl [Sh.int IntKind.u8]]
                (D.kl [D.t [D.ki 1,D.kl [D.ki 5,D.ki 212]],D.t [D.ki 5,D.kl [D.ki 0,D.ki 0,D.ki 0,D.ki 7]]]) none,
              AV.sc true (Value.int IntKind.i64 10),AV.sc true (Value.int IntKind.i64 0),
              AV.sc true (Value.int IntKind.i64 0),AV.sc true (Value.int IntKind.i64 7),
              AV.sc true (Value.int IntKind.i64 0),AV.sc true (Value.int IntKind.i64 1492),
              AV.sc true (Value.int IntKind.i64 0),AV.sc true (Value.int IntKind.i64 10),
              AV.sc true (Value.int IntKind.i64 0),AV.sc true (Value.int IntKind.i64 0),
              AV.sc true (Value.int IntKind.i64 0),
              AV.sl true [Sh.int IntKind.i64,Sh.sl [Sh.int IntKind.u8]] (D.l []) none,
              AV.sc true (Value.int IntKind.i64 0),AV.sc true (Value.int IntKind.i64 0),
              AV.sc true (Value.int IntKind.i64 0),AV.sc true (Value.int IntKind.i64 0),
              AV.sc true (Value.int IntKind.i64 0),AV.sc true (Value.int IntKind.i64 0)],
          AV.sl true [Sh.int IntKind.i64,Sh.sl [Sh.int IntKind.u8]]
            (D.l [D.t [D.ki 49185,D.kl [D.t [D.ki 2],D.t [D.ki 1],D.ki 0,D.ki 4]]]) none])
theorem uI2:okV (treeR (evF Tryz.prog (gam (ukG Tryz.prog)) (lam ([])) 100 11) uI2K)=some uI2R:=by rw [← fvF_eq Tryz.prog (gam (ukG Tryz.prog)) (lam ([])) true 100 11]; kernel_rfl
def uE0K:List AV:=[cf19K,nz (tg uI2R 0),kk 0,kk 0]
def uE0R:AV :=
    (AV.tup
        [AV.agg
            [AV.sc true (Value.int IntKind.i64 4),AV.sc true (Value.int IntKind.i64 9),
              AV.sc true (Value.int IntKind.i64 1),AV.sc true (Value.int IntKind.i64 1),
              AV.sl true [Sh.int IntKind.i64,Sh.sl [Sh.int IntKind.u8]]
                (D.kl [D.t [D.ki 1,D.kl [D.ki 5,D.ki 212]],D.t [D.ki 5,D.kl [D.ki 0,D.ki 0,D.ki 0,D.ki 7]]]) none,
              AV.sc true (Value.int IntKind.i64 10),AV.sc true (Value.int IntKind.i64 0),
              AV.sc true (Value.int IntKind.i64 0),AV.sc true (Value.int IntKind.i64 7),
              AV.sc true (Value.int IntKind.i64 0),AV.sc true (Value.int IntKind.i64 1492),
              AV.sc true (Value.int IntKind.i64 0),AV.sc true (Value.int IntKind.i64 10),
              AV.sc true (Value.int IntKind.i64 0),AV.sc true (Value.int IntKind.i64 0),
              AV.sc true (Value.int IntKind.i64 0),
              AV.sl true [Sh.int IntKind.i64,Sh.sl [Sh.int IntKind.u8]] (D.l []) none,
              AV.sc true (Value.int IntKind.i64 0),AV.sc true (Value.int IntKind.i64 0),
              AV.sc true (Value.int IntKind.i64 0),AV.sc true (Value.int IntKind.i64 0),
              AV.sc true (Value.int IntKind.i64 0),AV.sc true (Value.int IntKind.i64 0)],
          AV.sc true (Value.slice none 0 0)])
theorem uE0:okV (treeR (evF Tryz.prog (gam (ukG Tryz.prog)) (lam ([])) 100 10) uE0K)=some uE0R:=by rw [← fvF_eq Tryz.prog (gam (ukG Tryz.prog)) (lam ([])) true 100 10]; kernel_rfl
def uE1K:List AV:=[cf19K,nz (tg uI2R 0),kk 99,kk 0]
def uE1R:AV :=
    (AV.tup
        [AV.agg
            [AV.sc true (Value.int IntKind.i64 3),AV.sc true (Value.int IntKind.i64 9),
              AV.sc true (Value.int IntKind.i64 1),AV.sc true (Value.int IntKind.i64 1),
              AV.sl true [Sh.int IntKind.i64,Sh.sl [Sh.int IntKind.u8]]
                (D.kl [D.t [D.ki 1,D.kl [D.ki 5,D.ki 212]],D.t [D.ki 5,D.kl [D.ki 0,D.ki 0,D.ki 0,D.ki 7]]]) none,
              AV.sc true (Value.int IntKind.i64 10),AV.sc true (Value.int IntKind.i64 0),
              AV.sc true (Value.int IntKind.i64 0),AV.sc true (Value.int IntKind.i64 7),
              AV.sc true (Value.int IntKind.i64 0),AV.sc true (Value.int IntKind.i64 1492),
              AV.sc true (Value.int IntKind.i64 0),AV.sc true (Value.int IntKind.i64 10),
              AV.sc true (Value.int IntKind.i64 6),AV.sc true (Value.int IntKind.i64 1),
              AV.sc true (Value.int IntKind.i64 1),
              AV.sl true [Sh.int IntKind.i64,Sh.sl [Sh.int IntKind.u8]]
                (D.l [D.t [D.ki 3,D.kl [D.ki 10,D.ki 0,D.ki 0,D.ki 1]]]) none,
              AV.sc true (Value.int IntKind.i64 9),AV.sc true (Value.int IntKind.i64 3),
              AV.sc true (Value.int IntKind.i64 0),AV.sc true (Value.int IntKind.i64 167772161),
              AV.sc true (Value.int IntKind.i64 99),AV.sc true (Value.int IntKind.i64 99)],
          AV.sl true [Sh.int IntKind.i64,Sh.sl [Sh.int IntKind.u8]]
            (D.l
              [D.t
                  [D.ki 32801,
                    D.kl
                      [D.t [D.ki 1],D.t [D.ki 1],D.ki 0,D.ki 10,D.t [D.ki 3],D.t [D.ki 6],D.ki 10,D.ki 0,D.ki 0,
                        D.ki 1]]])
            none])
theorem uE1:okV (treeR (evF Tryz.prog (gam (ukG Tryz.prog)) (lam ([])) 100 10) uE1K)=some uE1R:=by rw [← fvF_eq Tryz.prog (gam (ukG Tryz.prog)) (lam ([])) true 100 10]; kernel_rfl
def uI3K:List AV:=[cf19K,nz (tg uE0R 0),uC2R,kk 0]
def uI3R:AV :=
    (AV.tup
        [AV.agg
            [AV.sc true (Value.int IntKind.i64 4),AV.sc true (Value.int IntKind.i64 9),
              AV.sc true (Value.int IntKind.i64 2),AV.sc true (Value.int IntKind.i64 1),
              AV.sl true [Sh.int IntKind.i64,Sh.sl [Sh.int IntKind.u8]]
                (D.kl [D.t [D.ki 1,D.kl [D.ki 5,D.ki 212]],D.t [D.ki 5,D.kl [D.ki 0,D.ki 0,D.ki 0,D.ki 7]]]) none,
              AV.sc true (Value.int IntKind.i64 10),AV.sc true (Value.int IntKind.i64 0),
              AV.sc true (Value.int IntKind.i64 0),AV.sc true (Value.int IntKind.i64 7),
              AV.sc true (Value.int IntKind.i64 0),AV.sc true (Value.int IntKind.i64 1492),
              AV.sc true (Value.int IntKind.i64 0),AV.sc true (Value.int IntKind.i64 10),
              AV.sc true (Value.int IntKind.i64 0),AV.sc true (Value.int IntKind.i64 0),
              AV.sc true (Value.int IntKind.i64 0),
              AV.sl true [Sh.int IntKind.i64,Sh.sl [Sh.int IntKind.u8]] (D.l []) none,
              AV.sc true (Value.int IntKind.i64 0),AV.sc true (Value.int IntKind.i64 0),
              AV.sc true (Value.int IntKind.i64 0),AV.sc true (Value.int IntKind.i64 0),
              AV.sc true (Value.int IntKind.i64 0),AV.sc true (Value.int IntKind.i64 0)],
          AV.sl true [Sh.int IntKind.i64,Sh.sl [Sh.int IntKind.u8]]
            (D.l
              [D.t
                  [D.ki 49185,
                    D.kl
                      [D.t [D.ki 8],D.t [D.ki 2],D.ki 0,D.ki 10,D.ki 128,D.ki 33,D.t [D.ki 1],D.t [D.ki 1],D.ki 0,
                        D.ki 4]]])
            none])
theorem uI3:okV (treeR (evF Tryz.prog (gam (ukG Tryz.prog)) (lam ([])) 100 11) uI3K)=some uI3R:=by rw [← fvF_eq Tryz.prog (gam (ukG Tryz.prog)) (lam ([])) true 100 11]; kernel_rfl
def uKK:List AV:=[cf19K,nz (tg uE1R 0)]
def uKR:AV :=
    (AV.sc true (Value.int IntKind.i64 0))
theorem uK:okV (treeR (evF Tryz.prog (gam (ukG Tryz.prog)) (lam ([])) 100 19) uKK)=some uKR:=by rw [← fvF_eq Tryz.prog (gam (ukG Tryz.prog)) (lam ([])) true 100 19]; kernel_rfl
def ukG2 (P:Program):List (FuncId×Spec):=[(18,memoS P 18 uNK uNR (evF P (gam (ukG P)) (lam []) 100 18)),(20,memoS P 20 uSK uSR (evF P (gam (ukG P)) (lam []) 100 20)),(11,memoS P 11 uI1K uI1R (memoS P 11 uI2K uI2R (memoS P 11 uI3K uI3R (evF P (gam (ukG P)) (lam []) 100 11)))),(10,memoS P 10 uE0K uE0R (memoS P 10 uE1K uE1R (evF P (gam (ukG P)) (lam []) 100 10))),(19,memoS P 19 uKK uKR (evF P (gam (ukG P)) (lam []) 100 19)),(12,memoS P 12 uA1K uA1R (evF P (gam (ukG P)) (lam []) 100 12)),(13,memoS P 13 uC1K uC1R (memoS P 13 uC2K uC2R (evF P (gam (ukG P)) (lam []) 100 13)))]
theorem ukE_ok (f:FuncId):SoundF Tryz.prog f (evF Tryz.prog (gam (ukG Tryz.prog)) (lam []) 100 f):=evF_ok mixed (gam_ok ukG_ok) (lam_ok (l:=[]) trivial) 100 f
theorem ukG2_ok:GamL Tryz.prog (ukG2 Tryz.prog):=⟨memo_ok (ukE_ok _) (ukE_ok _) uN,memo_ok (ukE_ok _) (ukE_ok _) uS,memo_ok (memo_ok (memo_ok (ukE_ok _) (ukE_ok _) uI3) (ukE_ok _) uI2) (ukE_ok _) uI1,memo_ok (memo_ok (ukE_ok _) (ukE_ok _) uE1) (ukE_ok _) uE0,memo_ok (ukE_ok _) (ukE_ok _) uK,memo_ok (ukE_ok _) (ukE_ok _) uA1,memo_ok (memo_ok (ukE_ok _) (ukE_ok _) uC2) (ukE_ok _) uC1,trivial⟩
def uLK:List AV:=[cf19K,kk 7]
def uLR:AV :=
    (AV.tup
        [AV.agg
            [AV.sc true (Value.int IntKind.i64 2),AV.sc true (Value.int IntKind.i64 9),
              AV.sc true (Value.int IntKind.i64 1),AV.sc true (Value.int IntKind.i64 1),
              AV.sl true [Sh.int IntKind.i64,Sh.sl [Sh.int IntKind.u8]]
                (D.kl [D.t [D.ki 1,D.kl [D.ki 5,D.ki 212]],D.t [D.ki 5,D.kl [D.ki 0,D.ki 0,D.ki 0,D.ki 7]]]) none,
              AV.sc true (Value.int IntKind.i64 10),AV.sc true (Value.int IntKind.i64 0),
              AV.sc true (Value.int IntKind.i64 0),AV.sc true (Value.int IntKind.i64 7),
              AV.sc true (Value.int IntKind.i64 0),AV.sc true (Value.int IntKind.i64 1492),
              AV.sc true (Value.int IntKind.i64 0),AV.sc true (Value.int IntKind.i64 10),
              AV.sc true (Value.int IntKind.i64 0),AV.sc true (Value.int IntKind.i64 0),
              AV.sc true (Value.int IntKind.i64 0),
              AV.sl true [Sh.int IntKind.i64,Sh.sl [Sh.int IntKind.u8]] (D.kl []) none,
              AV.sc true (Value.int IntKind.i64 0),AV.sc true (Value.int IntKind.i64 0),
              AV.sc true (Value.int IntKind.i64 0),AV.sc true (Value.int IntKind.i64 0),
              AV.sc true (Value.int IntKind.i64 0),AV.sc true (Value.int IntKind.i64 0)],
          AV.sc true (Value.bool true)])
theorem uL:okV (treeR (evF Tryz.prog (gam (ukG2 Tryz.prog)) (lam ([])) 100 8) uLK)=some uLR:=by rw [← fvF_eq Tryz.prog (gam (ukG2 Tryz.prog)) (lam ([])) true 100 8]; kernel_rfl
def ukG3 (P:Program):List (FuncId×Spec):=(8,memoS P 8 uLK uLR (evF P (gam (ukG2 P)) (lam []) 100 8)) :: ukG2 P
theorem ukE2_ok (f:FuncId):SoundF Tryz.prog f (evF Tryz.prog (gam (ukG2 Tryz.prog)) (lam []) 100 f):=evF_ok mixed (gam_ok ukG2_ok) (lam_ok (l:=[]) trivial) 100 f
theorem ukG3_ok:GamL Tryz.prog (ukG3 Tryz.prog):=⟨memo_ok (ukE2_ok _) (ukE2_ok _) uL,ukG2_ok⟩
def uAwkK:List AV:=[]
def uAwkR:AV :=
    (AV.sc true (Value.bool true))
theorem uAwk:okV (treeR (evF Tryz.prog (gam (ukG3 Tryz.prog)) (lam ([])) 100 9) uAwkK)=some uAwkR:=by rw [← fvF_eq Tryz.prog (gam (ukG3 Tryz.prog)) (lam ([])) true 100 9]; kernel_rfl
theorem awk9_soundF:SoundF Tryz.prog 9 (pureS Tryz.prog 9 (Fone uAwkK uAwkR)) :=
  memo_one (evF_ok mixed (gam_ok ukG3_ok) (lam_ok (l:=[]) trivial) 100 _) uAwk
end
end Go.Proofs.YtbgmclbcjdbcmaaGreat
