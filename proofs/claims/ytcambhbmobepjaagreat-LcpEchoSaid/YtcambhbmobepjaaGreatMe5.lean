/- Me, 5: texts of this claim, one behind the other: Km9 Kn1 Kn2 Kn3 EvW Kn4 Kn5 Kn6 Kn7 Kn8 Kn9 Ko1 Ko2 Ko3 Ko4 Ko5 Ko6 Ko7 Ko8 Ko9 Kp1 Kp2 Kq1 Kq2 Kq3 Kq4 Kr1 Kr2 Kr3 Kr4 Kr5 Kr6. No condition. -/
import Derived.Test.YtcambhbmobepjaaGreatMe4
namespace Go.Proofs.YtcambhbmobepjaaGreat
set_option linter.unusedSimpArgs false
set_option linter.unusedVariables false
open Go.RowKit
set_option maxRecDepth 100000
noncomputable section
structure rn0X where
  (ask l:D)
def rjO (ask l:D):D:=filD (fun j=>!mtK ask l j (kAt ask l j)) (copE ask) ask.len
def rjB (ask l:D):Bool:=decide (l.len≤kAt ask l ask.len)
def FRj:List AV→RT AV
  | [.sl false [.int .i64,.sl [.int .u8]] d none,.sl false [.int .i64,.sl [.int .u8]] l none]=>need false (decide (d.len*32≤140737488355328)) 292 (.ok (.tup [asl opS (rjO d l),ab (rjB d l)]))
  | _=>.bad 292
def lrnB (ask:D) (c:Int) (l:D):Bool:=!(decide (l.len=0))&&(c==3||(c==4&&rjB ask l))
def lrnO (ask:D) (c:Int) (l:D):D:=bif lrnB ask c l then (bif c==3 then nkD ask l else rjO ask l) else ask
def lrnN (ask l:D):Bool:=decide (ask.len*32≤140737488355328)&&(optsB ask&&optsB l)
def FLrn:List AV→RT AV
  | [.sl false [.int .i64,.sl [.int .u8]] d none,.sc false (.int .i64 c),.sl false [.int .i64,.sl [.int .u8]] l none]=>need false (lrnN d l) 293 (.ok (.tup [asl opS (lrnO d c l),ab (lrnB d c l)]))
  | _=>.bad 293
def lrnG (P:Program):List (FuncId×Spec):=[(185,pureS P 185 FOwns),(186,pureS P 186 FNak),(187,pureS P 187 FRj)]
theorem lAt_at (ask l:D):∀ i,(lAt ask l i).len=l.len - kAt ask l i∧(∀ q,q<l.len - kAt ask l i→(lAt ask l i).get q=l.get (kAt ask l i+q))∧mtB ask i (lAt ask l i)=mtK ask l i (kAt ask l i)
  | 0=>⟨rfl,fun q _=>by rw [show kAt ask l 0+q=q from Nat.zero_add q]; rfl,by
      unfold mtB mtK
      show (decide (0<l.len)&&(optT ask 0==optT l 0&&_))=(decide (0<l.len)&&(optT l 0==optT ask 0&&_))
      rw [Bool.beq_comm (a:=optT ask 0)]; rfl⟩
  | i+1=>by
    obtain ⟨h1,h2,h3⟩:=lAt_at ask l i
    have key:(lAt ask l (i+1)).len=l.len - kAt ask l (i+1)∧(∀ q,q<l.len - kAt ask l (i+1)→(lAt ask l (i+1)).get q=l.get (kAt ask l (i+1)+q)):=by
      rw [lAt_succ,kAt_succ,h3]
      cases hc:mtK ask l i (kAt ask l i)
      · exact ⟨h1,h2⟩
      · have hk:kAt ask l i<l.len:=by
          unfold mtK at hc
          rw [Bool.and_eq_true] at hc
          exact odt hc.1
        simp only [cond_true]
        refine ⟨by rw [sub_len (by omega) (Nat.le_refl _)]; omega,fun q hq=>?_⟩
        rw [sub_get (by omega),h2 _ (by omega)]
        congr 1; omega
    obtain ⟨k1,k2⟩:=key
    refine ⟨k1,k2,?_⟩
    unfold mtB mtK
    rw [k1]
    by_cases hk:kAt ask l (i+1)<l.len
    · rw [det (show 0<l.len - kAt ask l (i+1) by omega),det hk]
      have:=k2 0 (by omega)
      unfold optT optB
      rw [this,Bool.beq_comm (a:=((ask.get (i+1)).cell 0).toI)]
      rfl
    · rw [def_ (show ¬ 0<l.len - kAt ask l (i+1) by omega),def_ hk]; rfl
theorem rjj_tree (ask l:D):treeF (evF Tryz.prog (gam (rejG Tryz.prog)) (lam (rejLs Tryz.prog)) 100 187) [asl opS ask,asl opS l] =
RT.br (decide ((↑(D.len ask):Int)=(↑(D.len ask):Int)∧D.len ask*32≤140737488355328)&&true) (RT.ok (AV.tup [zs zO (filD (fun j=>!mtB ask j (lAt ask l j)) (copE ask) (D.len ask)),zb ((↑(D.len (lAt ask l (D.len ask))):Int)==0)])) (RT.bad 210):=by rw [← fvF_eq Tryz.prog (gam (rejG Tryz.prog)) (lam (rejLs Tryz.prog)) false 100 187]; kernel_rfl
theorem lrn_tree (ask:D) (c:Int) (l:D):treeF (evF Tryz.prog (gam (lrnG Tryz.prog)) (lam ([])) 100 150) [asl opS ask,ai c,asl opS l] =
RT.br ((↑(D.len l):Int)==0) (RT.br (decide (D.len ask*32≤140737488355328)) (RT.ok (AV.tup [zs zO ask,AV.sc true (Value.bool false)])) (RT.bad 286)) (RT.br (c==3) (RT.br (decide (D.len ask*32≤140737488355328)) (RT.ok (AV.tup [zs zO (nkD ask l),AV.sc true (Value.bool true)])) (RT.bad 289)) (RT.br (c==4) (RT.br (decide (D.len ask*32≤140737488355328)) (RT.br (rjB ask l) (RT.ok (AV.tup [zs zO (rjO ask l),AV.sc true (Value.bool true)])) (RT.br (decide (D.len ask*32≤140737488355328)) (RT.ok (AV.tup [zs zO ask,AV.sc true (Value.bool false)])) (RT.bad 286))) (RT.bad 292)) (RT.br (decide (D.len ask*32≤140737488355328)) (RT.ok (AV.tup [zs zO ask,AV.sc true (Value.bool false)])) (RT.bad 286)))):=by rw [← fvF_eq Tryz.prog (gam (lrnG Tryz.prog)) (lam ([])) false 100 150]; kernel_rfl
theorem FRj_inv {args:List AV} {K:AV→Prop} (H:(FRj args).holds K):∃ d l,args=[asl opS d,asl opS l]∧d.len*32≤140737488355328∧K (.tup [asl opS (rjO d l),ab (rjB d l)]):=by
  unfold FRj at H
  split at H
  · rename_i d l
    obtain ⟨hc,H⟩:=need_holds H
    exact ⟨d,l,rfl,odt hc,H⟩
  · exact H.elim
theorem rjj_soundF:SoundF Tryz.prog 187 (pureS Tryz.prog 187 FRj):=by
  refine pure_in (gs:=rejG Tryz.prog) (ls:=rejLs Tryz.prog) mixed rejG_ok rejLs_ok 187 100 fun args K ho H=>?_
  obtain ⟨ask,l,hr,hc,H⟩:=FRj_inv H
  rw [hr,rjj_tree]
  have hf:(fun j=>!mtB ask j (lAt ask l j))=fun j=>!mtK ask l j (kAt ask l j):=funext fun j=>by rw [(lAt_at ask l j).2.2]
  rw [hf,(lAt_at ask l ask.len).1]
  refine holds_t_of (by rw [Bool.and_true]; exact det ⟨rfl,hc⟩) ⟨_,le_two (Le.refl _) (le_bool ?_),H⟩
  have:=(kAt_le ask l ask.len).1
  unfold rjB
  rw [Bool.eq_iff_iff,beq_iff_eq,decide_eq_true_eq]
  omega
theorem lrnG_ok:GamL Tryz.prog (lrnG Tryz.prog):=⟨ows_soundF,nak_soundF,rjj_soundF,trivial⟩
theorem FLrn_inv {args:List AV} {K:AV→Prop} (H:(FLrn args).holds K):∃ d c l,args=[asl opS d,ai c,asl opS l]∧lrnN d l=true∧K (.tup [asl opS (lrnO d c l),ab (lrnB d c l)]):=by
  unfold FLrn at H
  split at H
  · rename_i d c l
    obtain ⟨hc,H⟩:=need_holds H
    exact ⟨d,c,l,rfl,hc,H⟩
  · exact H.elim
theorem lrn0 {d l:D} {c:Int} (h:((l.len:Int)==0)=true):lrnO d c l=d∧lrnB d c l=false:=by
  have h:=eq_of_beq h
  have e:lrnB d c l=false:=by unfold lrnB; rw [det (by omega)]; rfl
  exact ⟨by unfold lrnO; rw [e]; rfl,e⟩
section
variable {d l:D} {c:Int} (h:((l.len:Int)==0)=false)
include h
theorem lrnZ:lrnB d c l=(c==3||(c==4&&rjB d l)):=by
  have:¬ l.len=0:=fun e=>by rw [e] at h; cases h
  unfold lrnB; rw [def_ this]; rfl
theorem lrn3 (h3:(c==3)=true):lrnO d c l=nkD d l∧lrnB d c l=true:=by
  have e:lrnB d c l=true:=by rw [lrnZ h,h3]; rfl
  exact ⟨by unfold lrnO; rw [e,h3]; rfl,e⟩
theorem lrn4 (h3:(c==3)=false) (h4:(c==4)=true) (hr:rjB d l=true):lrnO d c l=rjO d l∧lrnB d c l=true:=by
  have e:lrnB d c l=true:=by rw [lrnZ h,h3,h4,hr]; rfl
  exact ⟨by unfold lrnO; rw [e,h3]; rfl,e⟩
theorem lrnX (h3:(c==3)=false) (h4:(c==4)=false∨rjB d l=false):lrnO d c l=d∧lrnB d c l=false:=by
  have e:lrnB d c l=false:=by
    rw [lrnZ h,h3]
    rcases h4 with h4 | h4 <;> rw [h4] <;> simp
  exact ⟨by unfold lrnO; rw [e]; rfl,e⟩
end
theorem lrn_soundF:SoundF Tryz.prog 150 (pureS Tryz.prog 150 FLrn):=by
  refine pure_in (gs:=lrnG Tryz.prog) (ls:=[]) mixed lrnG_ok trivial 150 100 fun args K ho H=>?_
  obtain ⟨ask,c,l,hr,hc,H⟩:=FLrn_inv H
  rw [hr,lrn_tree]
  have A:∀ o b,lrnO ask c l=o∧lrnB ask c l=b→K (.tup [asl opS o,ab b]):=by rintro o b ⟨rfl,rfl⟩; exact H
  unfold lrnN at hc
  rw [Bool.and_eq_true] at hc
  rw [hc.1]
  refine ⟨fun h=>holds_t ⟨_,le_two (Le.refl _) (le_bool rfl),A _ _ (lrn0 h)⟩,fun h=>⟨fun h3=>holds_t ⟨_,le_two (Le.refl _) (le_bool rfl),A _ _ (lrn3 h h3)⟩,fun h3=>⟨fun h4=>holds_t ⟨fun h5=>⟨_,le_two (Le.refl _) (le_bool rfl),A _ _ (lrn4 h h3 h4 h5)⟩,fun h5=>holds_t ⟨_,le_two (Le.refl _) (le_bool rfl),A _ _ (lrnX h h3 (.inr h5))⟩⟩,fun h4=>holds_t ⟨_,le_two (Le.refl _) (le_bool rfl),A _ _ (lrnX h h3 (.inl h4))⟩⟩⟩⟩
structure rdeX where
  b:D
structure rdeY where
  b:D
  (m k:Nat)
  ol:D
def rlM (r:D):Int:=match rlOf r with | some (m,_)=>m.toI | none=>0
def rlG (r:D):Int:=match rlOf r with | some (_,g)=>g.toI | none=>0
def FMayR:List AV→RT AV
  | [.agg [.sl false [.int .i64,.int .i64,.int .i64,.int .i64,.int .i64,.int .i64,.bool] r none,.sc false (.int .i64 mc),.sc false (.int .i64 mt),.sc false (.int .i64 mf),.sc false (.int .i64 wt)],
     .agg [.sc false (.int .i64 st),.sc false (.int .i64 id),.sc false (.int .i64 rq),.sl false [.int .i64,.sl [.int .u8]] d none,.sc false (.int .i64 ct),.sc false (.int .i64 tm),.sc false (.int .i64 nk)],.sc false (.int .i64 tk)]=>need false (isRl r) 272 (.ok (ab (mayB (rlM r) (rlG r) mc mt mf wt st id rq d ct tm nk tk)))
  | _=>.bad 272
def FDoR:List AV→RT AV
  | [.agg [.sl false [.int .i64,.int .i64,.int .i64,.int .i64,.int .i64,.int .i64,.bool] r none,.sc false (.int .i64 mc),.sc false (.int .i64 mt),.sc false (.int .i64 mf),.sc false (.int .i64 wt)],
     .agg [.sc false (.int .i64 st),.sc false (.int .i64 id),.sc false (.int .i64 rq),.sl false [.int .i64,.sl [.int .u8]] d none,.sc false (.int .i64 ct),.sc false (.int .i64 tm),.sc false (.int .i64 nk)],.sc false (.int .i64 e),
     .agg [.sc false (.int .i64 ic),.sc false (.int .i64 ii),.sl false [.int .u8] ix none],.agg [.sc false (.int .i64 ac),.sc false (.int .i64 ax),.sl false [.int .u8] ad none],.sc false (.int .i64 tk)]=>need false (isRl r) 274 (.ok (doneA (doW (rlM r) (rlG r) mc mt mf wt ⟨st,id,rq,d,ct,tm,nk⟩ e ic ii ix ac ax ad tk)))
  | _=>.bad 274
def pktG (P:Program):List (FuncId×Spec):=[(60,pureS P 60 FEnc7),(127,pureS P 127 FMayR),(93,pureS P 93 FAs),(104,pureS P 104 FDec),(184,pureS P 184 FAns),(78,pureS P 78 FEnc),(150,pureS P 150 FLrn),(128,pureS P 128 FStep),(94,pureS P 94 FDoR)]
def stayV (a:AuV):DoneV:=⟨a,.l [],.l []⟩
abbrev b0I (ix:D):Int:=((ix.get 0).cell 0).toI
def pkW (r:D) (mc mt mf wt:Int) (a:AuV) (ic ii:Int) (ix:D) (tk:Int):DoneV :=
  bif !(decide (1≤ic)&&decide (ic≤7)) then stayV a else bif enc7E ic ii ix != 0 then stayV a else bif !mayB (rlM r) (rlG r) mc mt mf wt a.st a.id a.rq a.d a.ct a.tm a.nk tk then stayV a else
  bif ic==1 then (bif decE ix != 0 then stayV a else bif encE (ansO r (decO ix) a.nk mf) != 0 then stayV a else doW (rlM r) (rlG r) mc mt mf wt a (bif ansC r (decO ix) a.nk mf==2 then 7 else 8) ic ii ix (ansC r (decO ix) a.nk mf) ii (encO (ansO r (decO ix) a.nk mf)) tk) else
  bif ic==2 then (bif ii==a.rq then (bif ix.str.toList==(encO a.d).str.toList then doW (rlM r) (rlG r) mc mt mf wt a 9 ic ii ix 0 0 (.l []) tk else stayV a) else stayV a) else
  bif ic==3||ic==4 then (bif ii != a.rq then stayV a else bif decE ix != 0 then stayV a else bif lrnB a.d ic (decO ix) then (bif encE (lrnO a.d ic (decO ix))==0 then (bif rfcE a.st 10 != 0 then stayV a else doW (rlM r) (rlG r) mc mt mf wt ⟨a.st,a.id,a.rq,lrnO a.d ic (decO ix),a.ct,a.tm,a.nk⟩ 10 ic ii ix 0 0 (.l []) tk) else stayV a) else stayV a) else
  bif ic==5 then doW (rlM r) (rlG r) mc mt mf wt a 11 ic ii ix 0 0 (.l []) tk else
  bif ic==6 then doW (rlM r) (rlG r) mc mt mf wt a 12 ic ii ix 0 0 (.l []) tk else
  bif (ix.len:Int)==0 then stayV a else bif decide (1≤b0I ix)&&decide (b0I ix≤7) then doW (rlM r) (rlG r) mc mt mf wt a 15 ic ii ix 0 0 (.l []) tk else doW (rlM r) (rlG r) mc mt mf wt a 14 ic ii ix 0 0 (.l []) tk
abbrev pkA (w:DoneV) (b:Bool):AV:=.tup [auvA w.a,asl ctS w.out,asl acS w.did,ab b]
def pkN (r d ix:D):Bool:=isRl r&&(bytesB ix&&optsB d)
def FPkt:List AV→RT AV
  | [.agg [.sl false [.int .i64,.int .i64,.int .i64,.int .i64,.int .i64,.int .i64,.bool] r none,.sc false (.int .i64 mc),.sc false (.int .i64 mt),.sc false (.int .i64 mf),.sc false (.int .i64 wt)],
     .agg [.sc false (.int .i64 st),.sc false (.int .i64 id),.sc false (.int .i64 rq),.sl false [.int .i64,.sl [.int .u8]] d none,.sc false (.int .i64 ct),.sc false (.int .i64 tm),.sc false (.int .i64 nk)],
     .agg [.sc false (.int .i64 ic),.sc false (.int .i64 ii),.sl false [.int .u8] ix none],.sc false (.int .i64 tk)]=>need false (pkN r d ix) 294 (.ok (pkA (pkW r mc mt mf wt ⟨st,id,rq,d,ct,tm,nk⟩ ic ii ix tk) (decide (1≤ic)&&decide (ic≤7))))
  | _=>.bad 294
abbrev pkt_treeT_1 (r:D) (mc mt mf wt st id rq:Int) (d:D) (ct tm nk ic ii:Int) (ix:D) (tk:Int):=RT.br (bytesB ix) (RT.br (ii != rq) (RT.ok (AV.tup [AV.agg [zi st,zi id,zi rq,zs zO d,zi ct,zi tm,zi nk],zz,zz,AV.sc true (Value.bool true)])) (RT.br (decE ix != 0) (RT.ok (AV.tup [AV.agg [zi st,zi id,zi rq,zs zO d,zi ct,zi tm,zi nk],zz,zz,AV.sc true (Value.bool true)])) (RT.br (lrnN d (decO ix)) (RT.br (lrnB d ic (decO ix)) (RT.br (encE (lrnO d ic (decO ix))==0) (RT.br (rfcE st 10 != 0) (RT.ok (AV.tup [AV.agg [zi st,zi id,zi rq,zs zO d,zi ct,zi tm,zi nk],zz,zz,AV.sc true (Value.bool true)])) (RT.br (isRl r) (RT.ok (AV.tup [AV.agg [zi (AuV.st (DoneV.a (doW (rlM r) (rlG r) mc mt mf wt (AuV.mk st id rq (lrnO d ic (decO ix)) ct tm nk) 10 ic ii ix 0 0 (D.l []) tk))),zi (AuV.id (DoneV.a (doW (rlM r) (rlG r) mc mt mf wt (AuV.mk st id rq (lrnO d ic (decO ix)) ct tm nk) 10 ic ii ix 0 0 (D.l []) tk))),zi (AuV.rq (DoneV.a (doW (rlM r) (rlG r) mc mt mf wt (AuV.mk st id rq (lrnO d ic (decO ix)) ct tm nk) 10 ic ii ix 0 0 (D.l []) tk))),zs zO (AuV.d (DoneV.a (doW (rlM r) (rlG r) mc mt mf wt (AuV.mk st id rq (lrnO d ic (decO ix)) ct tm nk) 10 ic ii ix 0 0 (D.l []) tk))),zi (AuV.ct (DoneV.a (doW (rlM r) (rlG r) mc mt mf wt (AuV.mk st id rq (lrnO d ic (decO ix)) ct tm nk) 10 ic ii ix 0 0 (D.l []) tk))),zi (AuV.tm (DoneV.a (doW (rlM r) (rlG r) mc mt mf wt (AuV.mk st id rq (lrnO d ic (decO ix)) ct tm nk) 10 ic ii ix 0 0 (D.l []) tk))),zi (AuV.nk (DoneV.a (doW (rlM r) (rlG r) mc mt mf wt (AuV.mk st id rq (lrnO d ic (decO ix)) ct tm nk) 10 ic ii ix 0 0 (D.l []) tk)))],zs zC (DoneV.out (doW (rlM r) (rlG r) mc mt mf wt (AuV.mk st id rq (lrnO d ic (decO ix)) ct tm nk) 10 ic ii ix 0 0 (D.l []) tk)),zs zN (DoneV.did (doW (rlM r) (rlG r) mc mt mf wt (AuV.mk st id rq (lrnO d ic (decO ix)) ct tm nk) 10 ic ii ix 0 0 (D.l []) tk)),AV.sc true (Value.bool true)])) (RT.bad 274))) (RT.ok (AV.tup [AV.agg [zi st,zi id,zi rq,zs zO d,zi ct,zi tm,zi nk],zz,zz,AV.sc true (Value.bool true)]))) (RT.ok (AV.tup [AV.agg [zi st,zi id,zi rq,zs zO d,zi ct,zi tm,zi nk],zz,zz,AV.sc true (Value.bool true)]))) (RT.bad 293)))) (RT.bad 251)
abbrev pkt_treeT_2 (r:D) (mc mt mf wt st id rq:Int) (d:D) (ct tm nk ic ii:Int) (ix:D) (tk:Int):=RT.br (isRl r) (RT.ok (AV.tup [AV.agg [zi (AuV.st (DoneV.a (doW (rlM r) (rlG r) mc mt mf wt (AuV.mk st id rq d ct tm nk) 14 ic ii ix 0 0 (D.l []) tk))),zi (AuV.id (DoneV.a (doW (rlM r) (rlG r) mc mt mf wt (AuV.mk st id rq d ct tm nk) 14 ic ii ix 0 0 (D.l []) tk))),zi (AuV.rq (DoneV.a (doW (rlM r) (rlG r) mc mt mf wt (AuV.mk st id rq d ct tm nk) 14 ic ii ix 0 0 (D.l []) tk))),zs zO (AuV.d (DoneV.a (doW (rlM r) (rlG r) mc mt mf wt (AuV.mk st id rq d ct tm nk) 14 ic ii ix 0 0 (D.l []) tk))),zi (AuV.ct (DoneV.a (doW (rlM r) (rlG r) mc mt mf wt (AuV.mk st id rq d ct tm nk) 14 ic ii ix 0 0 (D.l []) tk))),zi (AuV.tm (DoneV.a (doW (rlM r) (rlG r) mc mt mf wt (AuV.mk st id rq d ct tm nk) 14 ic ii ix 0 0 (D.l []) tk))),zi (AuV.nk (DoneV.a (doW (rlM r) (rlG r) mc mt mf wt (AuV.mk st id rq d ct tm nk) 14 ic ii ix 0 0 (D.l []) tk)))],zs zC (DoneV.out (doW (rlM r) (rlG r) mc mt mf wt (AuV.mk st id rq d ct tm nk) 14 ic ii ix 0 0 (D.l []) tk)),zs zN (DoneV.did (doW (rlM r) (rlG r) mc mt mf wt (AuV.mk st id rq d ct tm nk) 14 ic ii ix 0 0 (D.l []) tk)),AV.sc true (Value.bool true)])) (RT.bad 274)
abbrev pkt_treeT_3 (st id rq:Int) (d:D) (ct tm nk:Int):=RT.ok (AV.tup [AV.agg [zi st,zi id,zi rq,zs zO d,zi ct,zi tm,zi nk],zz,zz,AV.sc true (Value.bool false)])
abbrev pkt_treeT_4 (st id rq:Int) (d:D) (ct tm nk:Int):=RT.ok (AV.tup [AV.agg [zi st,zi id,zi rq,zs zO d,zi ct,zi tm,zi nk],zz,zz,AV.sc true (Value.bool true)])
def pkt_treeT (r:D) (mc mt mf wt st id rq:Int) (d:D) (ct tm nk ic ii:Int) (ix:D) (tk:Int):RT AV :=
RT.br (decide (1≤ic)) (RT.br (!decide (ic≤7)) (pkt_treeT_3 st id rq d ct tm nk) (RT.br (enc7E ic ii ix != 0) (pkt_treeT_4 st id rq d ct tm nk) (RT.br (isRl r) (RT.br (!mayB (rlM r) (rlG r) mc mt mf wt st id rq d ct tm nk tk) (pkt_treeT_4 st id rq d ct tm nk) (RT.br (ic==1) (RT.br (bytesB ix) (RT.br (decE ix != 0) (pkt_treeT_4 st id rq d ct tm nk) (RT.br (ansN r (decO ix)) (RT.br (encE (ansO r (decO ix) nk mf) != 0) (pkt_treeT_4 st id rq d ct tm nk) (RT.br (ansC r (decO ix) nk mf==2) (RT.br (isRl r) (RT.ok (AV.tup [AV.agg [zi (AuV.st (DoneV.a (doW (rlM r) (rlG r) mc mt mf wt (AuV.mk st id rq d ct tm nk) 7 ic ii ix (ansC r (decO ix) nk mf) ii (encO (ansO r (decO ix) nk mf)) tk))),zi (AuV.id (DoneV.a (doW (rlM r) (rlG r) mc mt mf wt (AuV.mk st id rq d ct tm nk) 7 ic ii ix (ansC r (decO ix) nk mf) ii (encO (ansO r (decO ix) nk mf)) tk))),zi (AuV.rq (DoneV.a (doW (rlM r) (rlG r) mc mt mf wt (AuV.mk st id rq d ct tm nk) 7 ic ii ix (ansC r (decO ix) nk mf) ii (encO (ansO r (decO ix) nk mf)) tk))),zs zO (AuV.d (DoneV.a (doW (rlM r) (rlG r) mc mt mf wt (AuV.mk st id rq d ct tm nk) 7 ic ii ix (ansC r (decO ix) nk mf) ii (encO (ansO r (decO ix) nk mf)) tk))),zi (AuV.ct (DoneV.a (doW (rlM r) (rlG r) mc mt mf wt (AuV.mk st id rq d ct tm nk) 7 ic ii ix (ansC r (decO ix) nk mf) ii (encO (ansO r (decO ix) nk mf)) tk))),zi (AuV.tm (DoneV.a (doW (rlM r) (rlG r) mc mt mf wt (AuV.mk st id rq d ct tm nk) 7 ic ii ix (ansC r (decO ix) nk mf) ii (encO (ansO r (decO ix) nk mf)) tk))),zi (AuV.nk (DoneV.a (doW (rlM r) (rlG r) mc mt mf wt (AuV.mk st id rq d ct tm nk) 7 ic ii ix (ansC r (decO ix) nk mf) ii (encO (ansO r (decO ix) nk mf)) tk)))],zs zC (DoneV.out (doW (rlM r) (rlG r) mc mt mf wt (AuV.mk st id rq d ct tm nk) 7 ic ii ix (ansC r (decO ix) nk mf) ii (encO (ansO r (decO ix) nk mf)) tk)),zs zN (DoneV.did (doW (rlM r) (rlG r) mc mt mf wt (AuV.mk st id rq d ct tm nk) 7 ic ii ix (ansC r (decO ix) nk mf) ii (encO (ansO r (decO ix) nk mf)) tk)),AV.sc true (Value.bool true)])) (RT.bad 274)) (RT.br (isRl r) (RT.ok (AV.tup [AV.agg [zi (AuV.st (DoneV.a (doW (rlM r) (rlG r) mc mt mf wt (AuV.mk st id rq d ct tm nk) 8 ic ii ix (ansC r (decO ix) nk mf) ii (encO (ansO r (decO ix) nk mf)) tk))),zi (AuV.id (DoneV.a (doW (rlM r) (rlG r) mc mt mf wt (AuV.mk st id rq d ct tm nk) 8 ic ii ix (ansC r (decO ix) nk mf) ii (encO (ansO r (decO ix) nk mf)) tk))),zi (AuV.rq (DoneV.a (doW (rlM r) (rlG r) mc mt mf wt (AuV.mk st id rq d ct tm nk) 8 ic ii ix (ansC r (decO ix) nk mf) ii (encO (ansO r (decO ix) nk mf)) tk))),zs zO (AuV.d (DoneV.a (doW (rlM r) (rlG r) mc mt mf wt (AuV.mk st id rq d ct tm nk) 8 ic ii ix (ansC r (decO ix) nk mf) ii (encO (ansO r (decO ix) nk mf)) tk))),zi (AuV.ct (DoneV.a (doW (rlM r) (rlG r) mc mt mf wt (AuV.mk st id rq d ct tm nk) 8 ic ii ix (ansC r (decO ix) nk mf) ii (encO (ansO r (decO ix) nk mf)) tk))),zi (AuV.tm (DoneV.a (doW (rlM r) (rlG r) mc mt mf wt (AuV.mk st id rq d ct tm nk) 8 ic ii ix (ansC r (decO ix) nk mf) ii (encO (ansO r (decO ix) nk mf)) tk))),zi (AuV.nk (DoneV.a (doW (rlM r) (rlG r) mc mt mf wt (AuV.mk st id rq d ct tm nk) 8 ic ii ix (ansC r (decO ix) nk mf) ii (encO (ansO r (decO ix) nk mf)) tk)))],zs zC (DoneV.out (doW (rlM r) (rlG r) mc mt mf wt (AuV.mk st id rq d ct tm nk) 8 ic ii ix (ansC r (decO ix) nk mf) ii (encO (ansO r (decO ix) nk mf)) tk)),zs zN (DoneV.did (doW (rlM r) (rlG r) mc mt mf wt (AuV.mk st id rq d ct tm nk) 8 ic ii ix (ansC r (decO ix) nk mf) ii (encO (ansO r (decO ix) nk mf)) tk)),AV.sc true (Value.bool true)])) (RT.bad 274)))) (RT.bad 285))) (RT.bad 251)) (RT.br (ic==2) (RT.br (ii==rq) (RT.br (ByteArray.toList (D.str ix)==ByteArray.toList (D.str (encO d))) (RT.br (isRl r) (RT.ok (AV.tup [AV.agg [zi (AuV.st (DoneV.a (doW (rlM r) (rlG r) mc mt mf wt (AuV.mk st id rq d ct tm nk) 9 ic ii ix 0 0 (D.l []) tk))),zi (AuV.id (DoneV.a (doW (rlM r) (rlG r) mc mt mf wt (AuV.mk st id rq d ct tm nk) 9 ic ii ix 0 0 (D.l []) tk))),zi (AuV.rq (DoneV.a (doW (rlM r) (rlG r) mc mt mf wt (AuV.mk st id rq d ct tm nk) 9 ic ii ix 0 0 (D.l []) tk))),zs zO (AuV.d (DoneV.a (doW (rlM r) (rlG r) mc mt mf wt (AuV.mk st id rq d ct tm nk) 9 ic ii ix 0 0 (D.l []) tk))),zi (AuV.ct (DoneV.a (doW (rlM r) (rlG r) mc mt mf wt (AuV.mk st id rq d ct tm nk) 9 ic ii ix 0 0 (D.l []) tk))),zi (AuV.tm (DoneV.a (doW (rlM r) (rlG r) mc mt mf wt (AuV.mk st id rq d ct tm nk) 9 ic ii ix 0 0 (D.l []) tk))),zi (AuV.nk (DoneV.a (doW (rlM r) (rlG r) mc mt mf wt (AuV.mk st id rq d ct tm nk) 9 ic ii ix 0 0 (D.l []) tk)))],zs zC (DoneV.out (doW (rlM r) (rlG r) mc mt mf wt (AuV.mk st id rq d ct tm nk) 9 ic ii ix 0 0 (D.l []) tk)),zs zN (DoneV.did (doW (rlM r) (rlG r) mc mt mf wt (AuV.mk st id rq d ct tm nk) 9 ic ii ix 0 0 (D.l []) tk)),AV.sc true (Value.bool true)])) (RT.bad 274)) (pkt_treeT_4 st id rq d ct tm nk)) (pkt_treeT_4 st id rq d ct tm nk)) (RT.br (ic==3) (pkt_treeT_1 r mc mt mf wt st id rq d ct tm nk ic ii ix tk) (RT.br (ic==4) (pkt_treeT_1 r mc mt mf wt st id rq d ct tm nk ic ii ix tk) (RT.br (ic==5) (RT.br (isRl r) (RT.ok (AV.tup [AV.agg [zi (AuV.st (DoneV.a (doW (rlM r) (rlG r) mc mt mf wt (AuV.mk st id rq d ct tm nk) 11 ic ii ix 0 0 (D.l []) tk))),zi (AuV.id (DoneV.a (doW (rlM r) (rlG r) mc mt mf wt (AuV.mk st id rq d ct tm nk) 11 ic ii ix 0 0 (D.l []) tk))),zi (AuV.rq (DoneV.a (doW (rlM r) (rlG r) mc mt mf wt (AuV.mk st id rq d ct tm nk) 11 ic ii ix 0 0 (D.l []) tk))),zs zO (AuV.d (DoneV.a (doW (rlM r) (rlG r) mc mt mf wt (AuV.mk st id rq d ct tm nk) 11 ic ii ix 0 0 (D.l []) tk))),zi (AuV.ct (DoneV.a (doW (rlM r) (rlG r) mc mt mf wt (AuV.mk st id rq d ct tm nk) 11 ic ii ix 0 0 (D.l []) tk))),zi (AuV.tm (DoneV.a (doW (rlM r) (rlG r) mc mt mf wt (AuV.mk st id rq d ct tm nk) 11 ic ii ix 0 0 (D.l []) tk))),zi (AuV.nk (DoneV.a (doW (rlM r) (rlG r) mc mt mf wt (AuV.mk st id rq d ct tm nk) 11 ic ii ix 0 0 (D.l []) tk)))],zs zC (DoneV.out (doW (rlM r) (rlG r) mc mt mf wt (AuV.mk st id rq d ct tm nk) 11 ic ii ix 0 0 (D.l []) tk)),zs zN (DoneV.did (doW (rlM r) (rlG r) mc mt mf wt (AuV.mk st id rq d ct tm nk) 11 ic ii ix 0 0 (D.l []) tk)),AV.sc true (Value.bool true)])) (RT.bad 274)) (RT.br (ic==6) (RT.br (isRl r) (RT.ok (AV.tup [AV.agg [zi (AuV.st (DoneV.a (doW (rlM r) (rlG r) mc mt mf wt (AuV.mk st id rq d ct tm nk) 12 ic ii ix 0 0 (D.l []) tk))),zi (AuV.id (DoneV.a (doW (rlM r) (rlG r) mc mt mf wt (AuV.mk st id rq d ct tm nk) 12 ic ii ix 0 0 (D.l []) tk))),zi (AuV.rq (DoneV.a (doW (rlM r) (rlG r) mc mt mf wt (AuV.mk st id rq d ct tm nk) 12 ic ii ix 0 0 (D.l []) tk))),zs zO (AuV.d (DoneV.a (doW (rlM r) (rlG r) mc mt mf wt (AuV.mk st id rq d ct tm nk) 12 ic ii ix 0 0 (D.l []) tk))),zi (AuV.ct (DoneV.a (doW (rlM r) (rlG r) mc mt mf wt (AuV.mk st id rq d ct tm nk) 12 ic ii ix 0 0 (D.l []) tk))),zi (AuV.tm (DoneV.a (doW (rlM r) (rlG r) mc mt mf wt (AuV.mk st id rq d ct tm nk) 12 ic ii ix 0 0 (D.l []) tk))),zi (AuV.nk (DoneV.a (doW (rlM r) (rlG r) mc mt mf wt (AuV.mk st id rq d ct tm nk) 12 ic ii ix 0 0 (D.l []) tk)))],zs zC (DoneV.out (doW (rlM r) (rlG r) mc mt mf wt (AuV.mk st id rq d ct tm nk) 12 ic ii ix 0 0 (D.l []) tk)),zs zN (DoneV.did (doW (rlM r) (rlG r) mc mt mf wt (AuV.mk st id rq d ct tm nk) 12 ic ii ix 0 0 (D.l []) tk)),AV.sc true (Value.bool true)])) (RT.bad 274)) (RT.br (ic==7) (RT.br ((↑(D.len ix):Int)==0) (pkt_treeT_4 st id rq d ct tm nk) (RT.br (decide ((0:Int)≤0∧0<(↑(D.len ix):Int))) (RT.br (decide (1≤IntKind.wrap IntKind.i64 (D.toI (D.cell (D.get ix 0) 0)))) (RT.br (decide (IntKind.wrap IntKind.i64 (D.toI (D.cell (D.get ix 0) 0))≤7)) (RT.br (isRl r) (RT.ok (AV.tup [AV.agg [zi (AuV.st (DoneV.a (doW (rlM r) (rlG r) mc mt mf wt (AuV.mk st id rq d ct tm nk) 15 ic ii ix 0 0 (D.l []) tk))),zi (AuV.id (DoneV.a (doW (rlM r) (rlG r) mc mt mf wt (AuV.mk st id rq d ct tm nk) 15 ic ii ix 0 0 (D.l []) tk))),zi (AuV.rq (DoneV.a (doW (rlM r) (rlG r) mc mt mf wt (AuV.mk st id rq d ct tm nk) 15 ic ii ix 0 0 (D.l []) tk))),zs zO (AuV.d (DoneV.a (doW (rlM r) (rlG r) mc mt mf wt (AuV.mk st id rq d ct tm nk) 15 ic ii ix 0 0 (D.l []) tk))),zi (AuV.ct (DoneV.a (doW (rlM r) (rlG r) mc mt mf wt (AuV.mk st id rq d ct tm nk) 15 ic ii ix 0 0 (D.l []) tk))),zi (AuV.tm (DoneV.a (doW (rlM r) (rlG r) mc mt mf wt (AuV.mk st id rq d ct tm nk) 15 ic ii ix 0 0 (D.l []) tk))),zi (AuV.nk (DoneV.a (doW (rlM r) (rlG r) mc mt mf wt (AuV.mk st id rq d ct tm nk) 15 ic ii ix 0 0 (D.l []) tk)))],zs zC (DoneV.out (doW (rlM r) (rlG r) mc mt mf wt (AuV.mk st id rq d ct tm nk) 15 ic ii ix 0 0 (D.l []) tk)),zs zN (DoneV.did (doW (rlM r) (rlG r) mc mt mf wt (AuV.mk st id rq d ct tm nk) 15 ic ii ix 0 0 (D.l []) tk)),AV.sc true (Value.bool true)])) (RT.bad 274)) (pkt_treeT_2 r mc mt mf wt st id rq d ct tm nk ic ii ix tk)) (pkt_treeT_2 r mc mt mf wt st id rq d ct tm nk ic ii ix tk)) (RT.bad 42))) (pkt_treeT_4 st id rq d ct tm nk))))))))) (RT.bad 272)))) (pkt_treeT_3 st id rq d ct tm nk)
theorem pkt_tree (r:D) (mc mt mf wt st id rq:Int) (d:D) (ct tm nk ic ii:Int) (ix:D) (tk:Int):treeF (evF Tryz.prog (gam (pktG Tryz.prog)) (lam ([])) 100 101) [.agg [asl rlS r,ai mc,ai mt,ai mf,ai wt],autA st id rq d ct tm nk,ctlA ic ii ix,ai tk]=pkt_treeT r mc mt mf wt st id rq d ct tm nk ic ii ix tk:=by rw [← fvF_eq Tryz.prog (gam (pktG Tryz.prog)) (lam ([])) false 100 101]; kernel_rfl
theorem mayR_of {f:FuncId} (h:SoundF Tryz.prog f (pureS Tryz.prog f FMay)):SoundF Tryz.prog f (pureS Tryz.prog f FMayR):=by
  refine pure_mono h fun args K H=>?_
  unfold FMayR at H
  split at H
  · rename_i r mc mt mf wt st id rq d ct tm nk tk
    obtain ⟨hc,H⟩:=need_holds H
    unfold isRl at hc
    unfold rlM rlG at H
    unfold FMay
    cases hr:rlOf r with
    | none=>rw [hr] at hc; cases hc
    | some p=>rw [hr] at H; dsimp only; rw [hr]; exact H
  · exact H.elim
theorem doR_of {f:FuncId} (h:SoundF Tryz.prog f (pureS Tryz.prog f FDo)):SoundF Tryz.prog f (pureS Tryz.prog f FDoR):=by
  refine pure_mono h fun args K H=>?_
  unfold FDoR at H
  split at H
  · rename_i r mc mt mf wt st id rq d ct tm nk e ic ii ix ac ax ad tk
    obtain ⟨hc,H⟩:=need_holds H
    unfold isRl at hc
    unfold rlM rlG at H
    unfold FDo
    cases hr:rlOf r with
    | none=>rw [hr] at hc; cases hc
    | some p=>rw [hr] at H; dsimp only; rw [hr]; exact H
  · exact H.elim
theorem pktG_ok:GamL Tryz.prog (pktG Tryz.prog):=⟨enc7_soundF,mayR_of may_soundF,as_soundF,dec_soundF,ans_soundF,encode_soundF,lrn_soundF,step_soundF,doR_of do_soundF,trivial⟩
theorem opts_snoc {ol:D} {x:D} (hl:ol.len<maxLen) (h:optsB ol=true) (hx:bytesB (x.cell 1)=true):optsB (ol.app (.l [x]))=true:=by
  have e:(D.l [x]).toL=[x]:=toL_l (by unfold maxLen; simp)
  have ht:(ol.app (.l [x])).toL=ol.toL ++ [x]:=by
    unfold D.app
    rw [e]
    exact toL_l (by rw [List.length_append,List.length_cons,List.length_nil]; unfold D.len at hl; omega)
  have hn:(ol.app (.l [x])).len=ol.len+1:=app_len1 hl
  have h:=odt h
  refine det fun i hi=>?_
  rw [hn] at hi
  by_cases hlt:i<ol.len
  · have eg:(ol.app (.l [x])).get i=ol.get i:=by
      unfold D.get
      rw [ht,List.getD_eq_getElem?_getD,List.getD_eq_getElem?_getD,List.getElem?_append_left hlt]
    have:=h i hlt
    unfold optB at this ⊢
    rw [eg]; exact this
  · have eg:(ol.app (.l [x])).get i=x:=by
      unfold D.get
      rw [ht,List.getD_eq_getElem?_getD,List.getElem?_append_right (by unfold D.len at hlt; omega)]
      have:i - ol.toL.length=0:=by unfold D.len at hi; omega
      rw [this]; rfl
    unfold optB
    rw [eg]
    intro j hj
    exact bytes_at hx hj
theorem decF_ok:∀ (m:Nat) (d ol:D),bytesB d=true→ol.len≤64→optsB ol=true→(decF m d ol).2.len≤64∧optsB (decF m d ol).2=true
  | 0,_,_,_,h1,h2=>⟨h1,h2⟩
  | m+1,d,ol,hb,h1,h2=>by
    unfold decF
    by_cases h0:d.len=0
    · rw [if_pos h0]; exact ⟨h1,h2⟩
    rw [if_neg h0]
    cases hg:badO d
    · rw [if_neg (by simp)]
      by_cases h3:ol.len=64
      · rw [if_pos h3]; exact ⟨h1,h2⟩
      · rw [if_neg h3]
        obtain ⟨g1,g2,g3,g4⟩:=good_of hb hg h0
        refine decF_ok m _ _ (bytes_sub hb (by show (byN d 1).toNat≤((d.len:Int)).toNat; omega) (by show ((d.len:Int)).toNat≤_; omega)) ?_ (opts_snoc (by unfold maxLen; omega) h2 (bytes_sub hb (by omega) (by omega)))
        rw [app_len1 (by unfold maxLen; omega)]; omega
    · rw [if_pos rfl]; exact ⟨h1,h2⟩
theorem decO_fit {d:D} (hb:bytesB d=true):(decO d).len≤64∧optsB (decO d)=true:=by
  have h0:optsB (.l [])=true:=det fun i hi=>absurd hi (Nat.not_lt_zero i)
  unfold decO
  split
  · exact decF_ok _ _ _ hb (Nat.zero_le _) h0
  · exact ⟨Nat.zero_le _,h0⟩
theorem ansN_dec {r ix:D} (hr:isRl r=true) (hb:bytesB ix=true):ansN r (decO ix)=true:=by
  obtain ⟨h1,h2⟩:=decO_fit hb
  unfold ansN
  rw [hr,h2,Bool.and_true]
  exact det (by omega)
theorem lrnN_dec {d ix:D} (hd:d.len*32≤140737488355328) (ho:optsB d=true) (hb:bytesB ix=true):lrnN d (decO ix)=true:=by
  unfold lrnN
  rw [ho,(decO_fit hb).2,det hd]; rfl
theorem FPkt_inv {args:List AV} {K:AV→Prop} (H:(FPkt args).holds K):∃ r mc mt mf wt st id rq d ct tm nk ic ii ix tk,args=[.agg [asl rlS r,ai mc,ai mt,ai mf,ai wt],autA st id rq d ct tm nk,ctlA ic ii ix,ai tk]∧pkN r d ix=true∧K (pkA (pkW r mc mt mf wt ⟨st,id,rq,d,ct,tm,nk⟩ ic ii ix tk) (decide (1≤ic)&&decide (ic≤7))):=by
  unfold FPkt at H
  split at H
  · rename_i r mc mt mf wt st id rq d ct tm nk ic ii ix tk
    obtain ⟨hc,H⟩:=need_holds H
    exact ⟨r,mc,mt,mf,wt,st,id,rq,d,ct,tm,nk,ic,ii,ix,tk,rfl,hc,H⟩
  · exact H.elim
theorem le_stay {st id rq:Int} {d:D} {ct tm nk:Int} {b:Bool} {kn:Bool}:Le (.tup [.agg [.sc false (.int .i64 st),.sc false (.int .i64 id),.sc false (.int .i64 rq),.sl false opS d none,.sc false (.int .i64 ct),.sc false (.int .i64 tm),.sc false (.int .i64 nk)],.sc true (.slice none 0 0),.sc true (.slice none 0 0),.sc kn (.bool b)]) (pkA (stayV ⟨st,id,rq,d,ct,tm,nk⟩) b) :=
  fun E v ⟨vs,h1,h2⟩=>⟨vs,h1,leL_cons (Le.refl _) (leL_cons (le_nil rfl) (leL_cons (le_nil rfl) (leL_cons (le_bool rfl) leL_nil))) E _ h2⟩
theorem le_went {w:DoneV} {kn:Bool} {b:Bool}:Le (.tup [.agg [.sc false (.int .i64 w.a.st),.sc false (.int .i64 w.a.id),.sc false (.int .i64 w.a.rq),.sl false opS w.a.d none,.sc false (.int .i64 w.a.ct),.sc false (.int .i64 w.a.tm),.sc false (.int .i64 w.a.nk)],.sl false ctS w.out none,.sl false acS w.did none,.sc kn (.bool b)]) (pkA w b) :=
  fun E v ⟨vs,h1,h2⟩=>⟨vs,h1,leL_cons (Le.refl _) (leL_cons (Le.refl _) (leL_cons (Le.refl _) (leL_cons (le_bool rfl) leL_nil))) E _ h2⟩
theorem b0_wrap {ix:D} (h:bytesB ix=true):IntKind.wrap .i64 (D.toI (D.cell (D.get ix 0) 0))=D.toI (D.cell (D.get ix 0) 0):=by
  by_cases h0:ix.len=0
  · have:ix.get 0=.n:=by
      unfold D.get
      unfold D.len at h0
      rw [List.eq_nil_of_length_eq_zero h0]; rfl
    rw [this]; rfl
  · have hb:=bytes_at h (show 0<ix.len by omega)
    unfold byN at hb
    exact i64_id ⟨hb.1,by omega⟩
theorem pkt_soundF:SoundF Tryz.prog 101 (pureS Tryz.prog 101 FPkt):=by
  refine pure_in (gs:=pktG Tryz.prog) (ls:=[]) mixed pktG_ok trivial 101 100 fun args K ho H=>?_
  obtain ⟨r,mc,mt,mf,wt,st,id,rq,d,ct,tm,nk,ic,ii,ix,tk,hr,hc,H⟩:=FPkt_inv H
  rw [hr] at ho
  rw [hr,pkt_tree]
  have hsz:d.len*32≤140737488355328:=ho.2.1.2.2.2.1.1
  unfold pkN at hc
  simp only [Bool.and_eq_true] at hc
  obtain ⟨hrl,hix,hod⟩:=hc
  have hA:=ansN_dec hrl hix
  have hL:=lrnN_dec hsz hod hix
  have P:∀ w b,pkW r mc mt mf wt ⟨st,id,rq,d,ct,tm,nk⟩ ic ii ix tk=w→(decide (1≤ic)&&decide (ic≤7))=b→K (pkA w b):=by rintro w b rfl rfl; exact H
  unfold pkW at P
  dsimp only at P
  clear H ho hr hsz
  unfold pkt_treeT pkt_treeT_1 pkt_treeT_2 pkt_treeT_3 pkt_treeT_4
  rw [hrl,hix,hA,hL,b0_wrap hix]
  simp only [RT.holds]
  repeat' refine And.intro (fun _=>?_) (fun _=>?_)
  all_goals first
    | contradiction
    | (refine ⟨_,le_stay,P _ _ ?_ ?_⟩ <;> (clear P; (try simp only [bne,Bool.not_eq_true',Bool.not_eq_false'] at *); simp only [bne,b0I,Bool.cond_self, *,cond_true,cond_false,Bool.not_true,Bool.not_false,Bool.and_true,Bool.true_and,Bool.and_false,Bool.false_and,Bool.or_true,Bool.true_or,Bool.or_false,Bool.false_or]); done)
    | (refine ⟨_,le_went,P _ _ ?_ ?_⟩ <;> (clear P; (try simp only [bne,Bool.not_eq_true',Bool.not_eq_false'] at *); simp only [bne,b0I,Bool.cond_self, *,cond_true,cond_false,Bool.not_true,Bool.not_false,Bool.and_true,Bool.true_and,Bool.and_false,Bool.false_and,Bool.or_true,Bool.true_or,Bool.or_false,Bool.false_or]); done)
    | (exfalso; clear P; simp only [bne,Bool.not_eq_true',Bool.not_eq_false',decide_eq_true_eq,decide_eq_false_iff_not,beq_iff_eq,beq_eq_false_iff_ne] at *; omega)
end
end Go.Proofs.YtcambhbmobepjaaGreat
namespace Go.Proofs.YtcambhbmobepjaaGreat
set_option linter.unusedSimpArgs false
set_option linter.unusedVariables false
open Go.RowKit
set_option maxRecDepth 10000
noncomputable section
def tipsA (nv:Nat):List AV→List Nat→List Nat
  | [],acc=>acc
  | .sl _ _ _ (some (k,_)) :: r,acc=>bif acc.contains k||!(Nat.blt k nv) then tipsA nv r acc else tipsA nv r (acc ++ [k])
  | _ :: r,acc=>tipsA nv r acc
theorem tipsA_ok (nv:Nat):∀ (l:List AV) (acc:List Nat),(acc.Nodup∧∀ k ∈ acc,k<nv)→(tipsA nv l acc).Nodup∧∀ k ∈ tipsA nv l acc,k<nv
  | [],_,h=>h
  | .sl kn es d tip :: r,acc,h=>by
    cases tip with
    | none=>exact tipsA_ok nv r acc h
    | some kg =>
      obtain ⟨k,g⟩:=kg
      show (bif acc.contains k||!(Nat.blt k nv) then tipsA nv r acc else tipsA nv r (acc ++ [k])).Nodup∧∀ q ∈ (bif acc.contains k||!(Nat.blt k nv) then tipsA nv r acc else tipsA nv r (acc ++ [k])),q<nv
      cases hc:acc.contains k||!(Nat.blt k nv)
      · rw [Bool.or_eq_false_iff] at hc
        have hlt:k<nv:=by
          have:=hc.2
          rw [Bool.not_eq_false'] at this
          exact Nat.le_of_ble_eq_true this
        refine tipsA_ok nv r (acc ++ [k]) ⟨?_,fun q hq=>?_⟩
        · rw [List.nodup_append]
          refine ⟨h.1,by simp,fun a ha b hb=>?_⟩
          obtain rfl:=List.mem_singleton.1 hb
          rintro rfl
          rw [List.contains_iff_mem.2 ha] at hc; cases hc.1
        · rcases List.mem_append.1 hq with hq | hq
          · exact h.2 q hq
          · rw [List.mem_singleton.1 hq]; exact hlt
      · exact tipsA_ok nv r acc h
  | .any :: r,acc,h=>tipsA_ok nv r acc h
  | .sc _ _ :: r,acc,h=>tipsA_ok nv r acc h
  | .ptr _ _ :: r,acc,h=>tipsA_ok nv r acc h
  | .mp _ :: r,acc,h=>tipsA_ok nv r acc h
  | .ep _ _ _ _ :: r,acc,h=>tipsA_ok nv r acc h
  | .fn _ _ _ :: r,acc,h=>tipsA_ok nv r acc h
  | .agg _ :: r,acc,h=>tipsA_ok nv r acc h
  | .tup _ :: r,acc,h=>tipsA_ok nv r acc h
  | .rsl _ _ _ _ :: r,acc,h=>tipsA_ok nv r acc h
  | .rp _ _ _ _ _ :: r,acc,h=>tipsA_ok nv r acc h
  | .rw _ _ :: r,acc,h=>tipsA_ok nv r acc h
def tipsO (h:Hp) (os:List Nat):List Nat:=tipsA h.nv ((os.map fun o=>match lookO o h.ob with | some cs=>cs | none=>[]).flatten) []
theorem ver_dul (o:Nat) (h:Hp):ver o h.dul=ver o h:=by unfold ver Hp.dul; simp only; rw [cnt_dul]
def objT (sp:Spec):Spec:=fun args h=>bif (ptrsL args []).all (fun o=>(lookO o h.ob).isSome) then
  (sp (dullL (renL (ptrsL args []) (tipsO h (ptrsL args [])) 0 h.gn args)) ((h.ren (ptrsL args []) (tipsO h (ptrsL args [])) 0 0).dul)).bind fun x=>bif Nat.ble (tipsO h (ptrsL args [])).length x.2.nv then .ok (bak (ptrsL args []) (tipsO h (ptrsL args [])) h.nv h.ng (tipsO h (ptrsL args [])).length x.2.gn x.1,h.bak (ptrsL args []) (tipsO h (ptrsL args [])) (tipsO h (ptrsL args [])).length x.2) else .bad 295 else .bad 290
theorem objT_ok {P:Program} {f:FuncId} {sp:Spec} (hs:SoundF P f sp):SoundF P f (objT sp):=by
  intro args h K H w0 G E w vals I hr
  unfold objT at H
  cases hc:(ptrsL args []).all (fun o=>(lookO o h.ob).isSome)
  · rw [hc] at H; exact H.elim
  rw [hc] at H
  simp only [cond_true] at H
  rw [RT.holds_bind] at H
  have hnd:(ptrsL args []).Nodup:=ptrsL_nodup _ _ .nil
  generalize ptrsL args []=os at hc H hnd
  have hks:(tipsO h os).Nodup∧∀ k ∈ tipsO h os,k<h.nv:=tipsA_ok _ _ _ ⟨.nil,fun k hk=>by cases hk⟩
  generalize tipsO h os=ks at H hks
  have hol:∀ o ∈ os,E.live o:=fun o ho=>(I.live o).2 (List.all_eq_true.1 hc o ho)
  have I2:=((I.ren (os:=os) (ks:=ks) (g0:=0) hnd hks.1 hks.2 0).dul).top
  have hr2:=dull_relL _ _ (ren_relL (os:=os) (ks:=ks) (g0:=0) I _ _ hr)
  refine (hs _ _ _ H w _ _ w vals I2 hr2).mono ?_
  rintro e w' ⟨r,h',v,E',hK,rfl,S0,hv⟩
  have S:Stepd P w (E.ren os ks 0).mine (E.ren os ks 0) (h.ren os ks 0 0) w E' h' w':=⟨S0.ext,S0.inv,fun o ho=>by have:=S0.un o ho; rwa [ver_dul] at this,S0.zn⟩
  dsimp only at hK
  cases hm:Nat.ble ks.length h'.nv
  · rw [hm] at hK; exact hK.elim
  rw [hm] at hK
  have hm:=Nat.le_of_ble_eq_true hm
  have hkm:∀ k ∈ ks,k<E.m:=fun k hk=>by rw [I.m]; exact hks.2 k hk
  have hmk:ks.length≤E'.m:=by rw [S.inv.m]; exact hm
  have S3:=Inv.bak (mk:=ks.length) I hnd hol hks.1 hkm (Nat.le_refl _) hmk S
  have hv3:=bak_rel (h':=h') S.inv S.ext (mk:=ks.length) hks.1 hkm hmk (Nat.le_refl _) hol h.ng r v hv
  rw [I.m] at hv3
  exact ⟨_,_,v,_,hK,rfl,S3,hv3⟩
def fitQ (p q:Nat) (h:Hp):Bool:=Nat.ble h.nx p&&Nat.ble h.nv q&&Nat.ble h.ng 1000&&Nat.blt (h.ep+h.ob.length) 1000
def treeQ (p q:Nat) (sp:Spec) (args:List AV) (h:Hp):RT (AV×Hp):=(sp args h).bind fun x=>bif Nat.ble q x.2.nv then .ok (ren (List.range p) (List.range q) 1000 x.2.gn x.1,x.2.can p q 1000 1000) else .bad 296
theorem obj_in2 {P:Program} {gs:List (FuncId×Spec)} {ls:List (FuncId×Nat×BSpec)} (hm:Fit P) (hΓ:GamL P gs) (hΛ:LamL P ls) (f n p q:Nat) {F:Spec} (hF:∀ args h K,(F args h).holds K→fitQ p q h=true∧(treeQ p q (evF P (gam gs) (lam ls) n f) args h).holds fun x=>∃ y,Le x.1 y∧K (y,x.2)):SoundF P f F:=by
  intro args h K H w0 G E w vals I hr
  obtain ⟨hb,h1⟩:=hF args h K H
  unfold treeQ at h1
  rw [RT.holds_bind] at h1
  unfold fitQ at hb
  simp only [Bool.and_eq_true] at hb
  obtain ⟨⟨⟨b1,b2⟩,b3⟩,b4⟩:=hb
  have b1:=Nat.le_of_ble_eq_true b1
  have b2:=Nat.le_of_ble_eq_true b2
  have b3:=Nat.le_of_ble_eq_true b3
  have b4:=Nat.lt_of_lt_of_le (Nat.lt_succ_self _) (Nat.le_of_ble_eq_true b4)
  refine (evF_ok hm (gam_ok hΓ) (lam_ok hΛ) n f _ _ _ h1 w0 G E w vals I hr).mono ?_
  rintro e w' ⟨r,h',v,E',hK,rfl,S,hv⟩
  dsimp only at hK
  cases hq:Nat.ble q h'.nv
  · rw [hq] at hK; exact hK.elim
  rw [hq] at hK
  obtain ⟨y,hy,hK⟩:=hK
  have hq:=Nat.le_of_ble_eq_true hq
  have Sc:=can_step S I (p:=p) (q:=q) (N:=1000) (ep:=1000) b1 b2 hq b3 (fun o _=>by unfold ver; have:=cnt_le o h.ob; omega)
  exact ⟨y,_,v,_,hK,rfl,Sc,hy _ _ (ren_rel (os:=List.range p) (ks:=List.range q) (g0:=1000) S.inv _ _ hv)⟩
end
end Go.Proofs.YtcambhbmobepjaaGreat
namespace Go.Proofs.YtcambhbmobepjaaGreat
set_option linter.unusedSimpArgs false
set_option linter.unusedVariables false
open Go.RowKit
set_option maxRecDepth 100000
noncomputable section
def cutX:BSpec:=fun _ _=>.bad 999
def nonG (_:Program):List (FuncId×Spec):=[]
def knO (_:Tm) (h:Hp):Bool:=match lookO 0 h.ob with | some [_,.sl kn _ _ _]=>kn | _=>false
def tkeL (P:Program):List (FuncId×Nat×BSpec):=[(45,0,altB (knT 18) (runB P (nonG P) 100 45 0) cutX),(140,0,altB knO (runB P (nonG P) 100 140 0) cutX)]
def nmOk (x:D):Bool:=decide (1≤x.len∧x.len≤4)
def nmI (x:D):Int:=if x.len=1 then byA x 0 else if x.len=2 then 256*byA x 0+byA x 1 else if x.len=3 then 256*(256*byA x 0+byA x 1)+byA x 2 else if x.len=4 then 256*(256*(256*byA x 0+byA x 1)+byA x 2)+byA x 3 else 0
def FNmb:List AV→RT AV
  | [.agg [.sc false (.int .i64 _),.sl false [.int .u8] x none]]=>need false (bytesB x) 297 (.ok (.tup [ai (nmI x),ab (nmOk x)]))
  | _=>.bad 297
theorem on0_tree (t:Int) (x:D):treeF (evF Tryz.prog (gam (nonG Tryz.prog)) (lam (tkeL Tryz.prog)) 100 92) [optA t x] =
RT.br (decide (1≤(↑(D.len x):Int))) (RT.br (!decide ((↑(D.len x):Int)≤4)) (RT.ok (AV.tup [zk 0,AV.sc true (Value.bool false)])) (RT.br (decide (1≤(↑(D.len x):Int))) (RT.br (!decide ((↑(D.len x):Int)≤8)) (RT.ok (AV.tup [zk 0,AV.sc true (Value.bool false)])) (RT.br (decide ((↑(D.len x):Int)<(↑(D.len x):Int))) (RT.ok (AV.tup [zk 0,AV.sc true (Value.bool false)])) (RT.bad 999))) (RT.ok (AV.tup [zk 0,AV.sc true (Value.bool false)])))) (RT.ok (AV.tup [zk 0,AV.sc true (Value.bool false)])):=by rw [← fvF_eq Tryz.prog (gam (nonG Tryz.prog)) (lam (tkeL Tryz.prog)) false 100 92]; kernel_rfl
theorem on1_tree (t a:Int):treeF (evF Tryz.prog (gam (nonG Tryz.prog)) (lam (tkeL Tryz.prog)) 100 92) [.agg [ai t,.sl true byS (.l [.i a]) none]] =
RT.ok (AV.tup [zi (IntKind.wrap IntKind.i64 (IntKind.wrap IntKind.u64 (↑(BitVec.toNat (BitVec.ofInt (IntKind.bits IntKind.u64) (IntKind.wrap IntKind.u64 (Int.ofNat 0*2 ^ min (Int.toNat 8) (IntKind.bits IntKind.u64))) ||| BitVec.ofInt (IntKind.bits IntKind.u64) (IntKind.wrap IntKind.u64 (D.toI (D.cell (D.get (D.l [D.i a]) (Int.toNat (Int.ofNat 0))) 0))))):Int))),AV.sc true (Value.bool true)]):=by rw [← fvF_eq Tryz.prog (gam (nonG Tryz.prog)) (lam (tkeL Tryz.prog)) false 100 92]; kernel_rfl
theorem on2_tree (t a b:Int):treeF (evF Tryz.prog (gam (nonG Tryz.prog)) (lam (tkeL Tryz.prog)) 100 92) [.agg [ai t,.sl true byS (.l [.i a,.i b]) none]] =
RT.br true (RT.ok (AV.tup [zi (IntKind.wrap IntKind.i64 (IntKind.wrap IntKind.u64 (↑(BitVec.toNat (BitVec.ofInt (IntKind.bits IntKind.u64) (IntKind.wrap IntKind.u64 (IntKind.wrap IntKind.u64 (↑(BitVec.toNat (BitVec.ofInt (IntKind.bits IntKind.u64) (IntKind.wrap IntKind.u64 (Int.ofNat 0*2 ^ min (Int.toNat 8) (IntKind.bits IntKind.u64))) ||| BitVec.ofInt (IntKind.bits IntKind.u64) (IntKind.wrap IntKind.u64 (D.toI (D.cell (D.get (D.l [D.i a,D.i b]) (Int.toNat (Int.ofNat 0))) 0))))):Int)*2 ^ min (Int.toNat 8) (IntKind.bits IntKind.u64))) ||| BitVec.ofInt (IntKind.bits IntKind.u64) (IntKind.wrap IntKind.u64 (D.toI (D.cell (D.get (D.l [D.i a,D.i b]) (Int.toNat (IntKind.wrap IntKind.i64 (Int.ofNat 0+1)))) 0))))):Int))),AV.sc true (Value.bool true)])) (RT.bad 25):=by rw [← fvF_eq Tryz.prog (gam (nonG Tryz.prog)) (lam (tkeL Tryz.prog)) false 100 92]; kernel_rfl
theorem on3_tree (t a b c:Int):treeF (evF Tryz.prog (gam (nonG Tryz.prog)) (lam (tkeL Tryz.prog)) 100 92) [.agg [ai t,.sl true byS (.l [.i a,.i b,.i c]) none]] =
RT.br true (RT.br true (RT.ok (AV.tup [zi (IntKind.wrap IntKind.i64 (IntKind.wrap IntKind.u64 (↑(BitVec.toNat (BitVec.ofInt (IntKind.bits IntKind.u64) (IntKind.wrap IntKind.u64 (IntKind.wrap IntKind.u64 (↑(BitVec.toNat (BitVec.ofInt (IntKind.bits IntKind.u64) (IntKind.wrap IntKind.u64 (IntKind.wrap IntKind.u64 (↑(BitVec.toNat (BitVec.ofInt (IntKind.bits IntKind.u64) (IntKind.wrap IntKind.u64 (Int.ofNat 0*2 ^ min (Int.toNat 8) (IntKind.bits IntKind.u64))) ||| BitVec.ofInt (IntKind.bits IntKind.u64) (IntKind.wrap IntKind.u64 (D.toI (D.cell (D.get (D.l [D.i a,D.i b,D.i c]) (Int.toNat (Int.ofNat 0))) 0))))):Int)*2 ^ min (Int.toNat 8) (IntKind.bits IntKind.u64))) ||| BitVec.ofInt (IntKind.bits IntKind.u64) (IntKind.wrap IntKind.u64 (D.toI (D.cell (D.get (D.l [D.i a,D.i b,D.i c]) (Int.toNat (IntKind.wrap IntKind.i64 (Int.ofNat 0+1)))) 0))))):Int)*2 ^ min (Int.toNat 8) (IntKind.bits IntKind.u64))) ||| BitVec.ofInt (IntKind.bits IntKind.u64) (IntKind.wrap IntKind.u64 (D.toI (D.cell (D.get (D.l [D.i a,D.i b,D.i c]) (Int.toNat (IntKind.wrap IntKind.i64 (IntKind.wrap IntKind.i64 (Int.ofNat 0+1)+1)))) 0))))):Int))),AV.sc true (Value.bool true)])) (RT.bad 25)) (RT.bad 25):=by rw [← fvF_eq Tryz.prog (gam (nonG Tryz.prog)) (lam (tkeL Tryz.prog)) false 100 92]; kernel_rfl
theorem on4_tree (t a b c d:Int):treeF (evF Tryz.prog (gam (nonG Tryz.prog)) (lam (tkeL Tryz.prog)) 100 92) [.agg [ai t,.sl true byS (.l [.i a,.i b,.i c,.i d]) none]] =
RT.br true (RT.br true (RT.br true (RT.ok (AV.tup [zi (IntKind.wrap IntKind.i64 (IntKind.wrap IntKind.u64 (↑(BitVec.toNat (BitVec.ofInt (IntKind.bits IntKind.u64) (IntKind.wrap IntKind.u64 (IntKind.wrap IntKind.u64 (↑(BitVec.toNat (BitVec.ofInt (IntKind.bits IntKind.u64) (IntKind.wrap IntKind.u64 (IntKind.wrap IntKind.u64 (↑(BitVec.toNat (BitVec.ofInt (IntKind.bits IntKind.u64) (IntKind.wrap IntKind.u64 (IntKind.wrap IntKind.u64 (↑(BitVec.toNat (BitVec.ofInt (IntKind.bits IntKind.u64) (IntKind.wrap IntKind.u64 (Int.ofNat 0*2 ^ min (Int.toNat 8) (IntKind.bits IntKind.u64))) ||| BitVec.ofInt (IntKind.bits IntKind.u64) (IntKind.wrap IntKind.u64 (D.toI (D.cell (D.get (D.l [D.i a,D.i b,D.i c,D.i d]) (Int.toNat (Int.ofNat 0))) 0))))):Int)*2 ^ min (Int.toNat 8) (IntKind.bits IntKind.u64))) ||| BitVec.ofInt (IntKind.bits IntKind.u64) (IntKind.wrap IntKind.u64 (D.toI (D.cell (D.get (D.l [D.i a,D.i b,D.i c,D.i d]) (Int.toNat (IntKind.wrap IntKind.i64 (Int.ofNat 0+1)))) 0))))):Int)*2 ^ min (Int.toNat 8) (IntKind.bits IntKind.u64))) ||| BitVec.ofInt (IntKind.bits IntKind.u64) (IntKind.wrap IntKind.u64 (D.toI (D.cell (D.get (D.l [D.i a,D.i b,D.i c,D.i d]) (Int.toNat (IntKind.wrap IntKind.i64 (IntKind.wrap IntKind.i64 (Int.ofNat 0+1)+1)))) 0))))):Int)*2 ^ min (Int.toNat 8) (IntKind.bits IntKind.u64))) ||| BitVec.ofInt (IntKind.bits IntKind.u64) (IntKind.wrap IntKind.u64 (D.toI (D.cell (D.get (D.l [D.i a,D.i b,D.i c,D.i d]) (Int.toNat (IntKind.wrap IntKind.i64 (IntKind.wrap IntKind.i64 (IntKind.wrap IntKind.i64 (Int.ofNat 0+1)+1)+1)))) 0))))):Int))),AV.sc true (Value.bool true)])) (RT.bad 25)) (RT.bad 25)) (RT.bad 25):=by rw [← fvF_eq Tryz.prog (gam (nonG Tryz.prog)) (lam (tkeL Tryz.prog)) false 100 92]; kernel_rfl
theorem cutX_ok {P:Program} {f:FuncId} {id:Nat}:LamE P f id cutX:=fun _ _ _ _ _ _ _ _ H=>H.elim
theorem nonG_ok:GamL Tryz.prog (nonG Tryz.prog):=trivial
theorem tkeL_ok:LamL Tryz.prog (tkeL Tryz.prog):=⟨altB_ok (runB_ok mixed nonG_ok _ 0 100 (by kernel_rfl)) cutX_ok,altB_ok (runB_ok mixed nonG_ok _ 0 100 (by kernel_rfl)) cutX_ok,trivial⟩
theorem one_le {x:D} (h:x.len=1) {kn kn':Bool}:Le (.sl kn byS x none) (.sl kn' byS (.l [.i (byA x 0)]) none):=by
  have hl:(D.l [.i (byA x 0)]).toL=[.i (byA x 0)]:=toL_l (by unfold maxLen; simp)
  refine le_sl (by unfold D.len at h ⊢; rw [hl,h]; rfl) fun i hi=>?_
  rw [show (D.l [.i (byA x 0)]).get i=[D.i (byA x 0)].getD i .n from by unfold D.get; rw [hl]]
  have hi:i<1:=by omega
  match i,hi with
  | 0,_=>exact ⟨rfl,trivial⟩
theorem three_le {x:D} (h:x.len=3) {kn kn':Bool}:Le (.sl kn byS x none) (.sl kn' byS (.l [.i (byA x 0),.i (byA x 1),.i (byA x 2)]) none):=by
  have hl:(D.l [.i (byA x 0),.i (byA x 1),.i (byA x 2)]).toL=[.i (byA x 0),.i (byA x 1),.i (byA x 2)]:=toL_l (by unfold maxLen; simp)
  refine le_sl (by unfold D.len at h ⊢; rw [hl,h]; rfl) fun i hi=>?_
  rw [show (D.l [.i (byA x 0),.i (byA x 1),.i (byA x 2)]).get i=[D.i (byA x 0),D.i (byA x 1),D.i (byA x 2)].getD i .n from by unfold D.get; rw [hl]]
  have hi:i<3:=by omega
  match i,hi with
  | 0,_=>exact ⟨rfl,trivial⟩
  | 1,_=>exact ⟨rfl,trivial⟩
  | 2,_=>exact ⟨rfl,trivial⟩
theorem nu1_val {a:Int} (ha:byR a):IntKind.wrap .i64 (IntKind.wrap IntKind.u64 (↑(BitVec.toNat (BitVec.ofInt (IntKind.bits IntKind.u64) (Int.ofNat 0) ||| BitVec.ofInt (IntKind.bits IntKind.u64) (IntKind.wrap IntKind.u64 a))):Int))=a:=by
  unfold byR at ha
  rw [orZ_eq ha,i64_id ⟨by omega,by omega⟩]
theorem nu3_val {a b c:Int} (ha:byR a) (hb:byR b) (hc:byR c):IntKind.wrap .i64 (orS (orS (IntKind.wrap IntKind.u64 (↑(BitVec.toNat (BitVec.ofInt (IntKind.bits IntKind.u64) (Int.ofNat 0) ||| BitVec.ofInt (IntKind.bits IntKind.u64) (IntKind.wrap IntKind.u64 a))):Int)) b) c)=256*(256*a+b)+c:=by
  unfold byR at ha hb hc
  rw [orZ_eq ha,orS_eq ⟨ha.1,by omega⟩ hb,orS_eq ⟨by omega,by omega⟩ hc,i64_id ⟨by omega,by omega⟩]
theorem FNmb_inv {args:List AV} {K:AV→Prop} (H:(FNmb args).holds K):∃ t x,args=[optA t x]∧bytesB x=true∧K (.tup [ai (nmI x),ab (nmOk x)]):=by
  unfold FNmb at H
  split at H
  · rename_i t x
    obtain ⟨hc,H⟩:=need_holds H
    exact ⟨t,x,rfl,hc,H⟩
  · exact H.elim
theorem nm_no {x:D} (h:¬ (1≤x.len∧x.len≤4)):nmI x=0∧nmOk x=false:=by
  unfold nmI nmOk
  rw [if_neg (by omega),if_neg (by omega),if_neg (by omega),if_neg (by omega)]
  exact ⟨rfl,def_ h⟩
theorem nm_ok {x:D} (h:1≤x.len∧x.len≤4):nmOk x=true:=det h
theorem onm_soundF:SoundF Tryz.prog 92 (pureS Tryz.prog 92 FNmb):=by
  have G:∀ args K,okL args→(FNmb args).holds K→∃ n,n≤4∧∃ t x,args=[optA t x]∧bytesB x=true∧K (.tup [ai (nmI x),ab (nmOk x)])∧((n=0∧¬ (1≤x.len∧x.len≤4))∨(1≤n∧x.len=n)):=fun args K _ H=>by
    obtain ⟨t,x,h1,h2,h3⟩:=FNmb_inv H
    by_cases h:1≤x.len∧x.len≤4
    · exact ⟨x.len,h.2,t,x,h1,h2,h3,.inr ⟨h.1,rfl⟩⟩
    · exact ⟨0,by omega,t,x,h1,h2,h3,.inl ⟨rfl,h⟩⟩
  refine pure_by (gs:=nonG Tryz.prog) (ls:=tkeL Tryz.prog) mixed nonG_ok tkeL_ok 92 100 fun args K ho H=>?_
  obtain ⟨n,hn,t,x,hr,hb,H,hx⟩:=G args K ho H
  have B:∀ j,j<x.len→byR (byA x j):=fun j hj=>bytes_at hb hj
  rw [hr]
  rcases hx with ⟨rfl,hx⟩ | ⟨h1,hx⟩
  · refine ⟨_,fun _ _ h=>h,?_⟩
    rw [on0_tree]
    obtain ⟨e1,e2⟩:=nm_no hx
    have go:∃ y,Le (.tup [.sc true (.int .i64 0),.sc true (.bool false)]) y∧K y:=⟨_,le_two (le_int e1.symm) (le_bool e2.symm),H⟩
    refine ⟨fun h=>⟨fun _=>go,fun h'=>?_⟩,fun _=>go⟩
    have:=odt h
    rw [Bool.not_eq_false'] at h'
    have:=odt h'
    exact absurd ⟨by omega,by omega⟩ hx
  have ok:=nm_ok (x:=x) ⟨by omega,by omega⟩
  rw [ok] at H
  match n,h1,hn,hx with
  | 1,_,_,hx =>
    refine ⟨_,leL_cons (le_agg (leL_cons (Le.refl _) (leL_cons (one_le (kn':=true) hx) leL_nil))) leL_nil,?_⟩
    rw [on1_tree]
    refine ⟨_,le_two (le_int ((nu1_val (B 0 (by omega))).trans ?_)) (le_bool rfl),H⟩
    unfold nmI; rw [if_pos hx]
  | 2,_,_,hx =>
    refine ⟨_,leL_cons (le_agg (leL_cons (Le.refl _) (leL_cons (two_le (kn':=true) hx) leL_nil))) leL_nil,?_⟩
    rw [on2_tree]
    refine holds_t ⟨_,le_two (le_int ((nu2_val (B 0 (by omega)) (B 1 (by omega))).trans ?_)) (le_bool rfl),H⟩
    unfold nmI; rw [if_neg (by omega),if_pos hx]
  | 3,_,_,hx =>
    refine ⟨_,leL_cons (le_agg (leL_cons (Le.refl _) (leL_cons (three_le (kn':=true) hx) leL_nil))) leL_nil,?_⟩
    rw [on3_tree]
    refine holds_t (holds_t ⟨_,le_two (le_int ((nu3_val (B 0 (by omega)) (B 1 (by omega)) (B 2 (by omega))).trans ?_)) (le_bool rfl),H⟩)
    unfold nmI; rw [if_neg (by omega),if_neg (by omega),if_pos hx]
  | 4,_,_,hx =>
    refine ⟨_,leL_cons (le_agg (leL_cons (Le.refl _) (leL_cons (four_le (kn':=true) hx) leL_nil))) leL_nil,?_⟩
    rw [on4_tree]
    refine holds_t (holds_t (holds_t ⟨_,le_two (le_int ((nu4_val (B 0 (by omega)) (B 1 (by omega)) (B 2 (by omega)) (B 3 (by omega))).trans ?_)) (le_bool rfl),H⟩))
    unfold nmI; rw [if_neg (by omega),if_neg (by omega),if_neg (by omega),if_pos hx]
def scanT {α:Type} (n:α→Nat) (p:α→Nat→Bool) (okk:α→Bool) (mkF:α→Nat→Tm) (mkR:α→Nat→Tm) (mkH:α→Hp) (mkG:α→Nat→Hp) (w:Ex) (x:α×Nat):RT Out :=
  need false (okk x.1&&decide (x.2≤n x.1)) 210 (.br (okFrom (p x.1) (n x.1 - x.2) x.2) (.ok (.normal,mkF x.1 (n x.1),mkH x.1)) (.ok (w,mkR x.1 (badFrom (p x.1) (n x.1 - x.2) x.2),mkG x.1 (badFrom (p x.1) (n x.1 - x.2) x.2))))
def cloG (P:Program):List (FuncId×Spec):=[(98,pureS P 98 FCloneB)]
structure fnlX where
  t:Int
  d:D
  n:Int
def fnlL:Lw:=⟨[1,4,5,8,9,10],[],1,0,1000,1000⟩
def fnlF (a:fnlX) (i:Nat):Tm:=⟨25,[(1,zi a.t),(4,.ptr 0 0),(5,.sc false (.bool false)),(8,.sl false opS a.d none),(9,zi a.n),(10,zi (i:Int))],[]⟩
def fnlH (a:fnlX) (i:Nat):Hp:=⟨[(0,[zi 0,.sc false (.slice none 0 0)])],1,[],0,1000,1000⟩
def fnlC:Cs:=⟨25,[(1,.int .i64),(4,.lit (.ptr 0 0)),(5,.lit (.sc false (.bool false))),(8,.sl opS),(9,.int .i64),(10,.lit (.sc false (.int .i64 0)))],[(0,[.lit (.sc false (.int .i64 0)),.lit (.sc false (.slice none 0 0))])],1,[],0,1000,1000⟩
noncomputable def fnlDec (F:Tm) (h:Hp):Option (fnlX×Nat):=match cdS fnlC F h with
  | some [v0,v1,v2]=>some (⟨v0.toI,v1,v2.toI⟩,0)
  | _=>none
theorem fnl_body (t:Int) (d:D) (n:Int) (i:Int):roundT (⟨[1,4,5,8,9,10],[],1,0,1000,1000⟩) (evC Tryz.prog (gam (cloG Tryz.prog)) (lam ([])) 100 91 (loopAt 0 (bodyOf Tryz.prog 91)) (⟨25,[(1,zi t),(4,.ptr 0 0),(5,.sc false (.bool false)),(8,.sl false opS d none),(9,zi n),(10,zi i)],[]⟩) (⟨[(0,[zi 0,.sc false (.slice none 0 0)])],1,[],0,1000,1000⟩)) =
RT.br (decide (i<n)) (RT.br (decide (0≤i∧i<(↑(D.len d):Int))) (RT.br (D.toI (D.cell (D.get d (Int.toNat i)) 0)==t) (RT.ok (Ex.ret,(Tm.mk 25 [(1,zi t),(4,AV.ptr 0 0),(5,zb true),(8,zs zO d),(9,zi n),(10,zi i)] []),(Hp.mk [(0,[zi t,zs zU (D.cell (D.get d (Int.toNat i)) 1)])] 1 [] 0 1000 1000))) (RT.ok (Ex.normal,(Tm.mk 25 [(1,zi t),(4,AV.ptr 0 0),(5,zb false),(8,zs zO d),(9,zi n),(10,zi (IntKind.wrap IntKind.i64 (i+1)))] []),(Hp.mk [(0,[zi 0,zy])] 1 [] 0 1000 1000)))) (RT.bad 42)) (RT.ok (Ex.exit 0,(Tm.mk 25 [(1,zi t),(4,AV.ptr 0 0),(5,zb false),(8,zs zO d),(9,zi n),(10,zi i)] []),(Hp.mk [(0,[zi 0,zy])] 1 [] 0 1000 1000))):=by rw [← fvC_eq Tryz.prog (gam (cloG Tryz.prog)) (lam ([])) false 100]; kernel_rfl
def fnlR (a:fnlX) (i:Nat):Tm:=⟨25,[(1,ai a.t),(4,.ptr 0 0),(5,ab true),(8,asl opS a.d),(9,ai a.n),(10,ai i)],[]⟩
def fnlG (a:fnlX) (i:Nat):Hp:=⟨[(0,[ai a.t,asl byS (optB a.d i)])],1,[],0,1000,1000⟩
def fnlT:fnlX×Nat→RT Out:=scanT (fun a=>a.d.len) (fun a=>neT a.d a.t) (fun a=>decide (a.n=(a.d.len:Int))) fnlF fnlR (fun a=>fnlH a 0) fnlG .ret
def fnlLs (P:Program):List (FuncId×Nat×BSpec):=[(91,0,loopS P fnlL fnlDec fnlT)]
def fnD (d:D) (t:Int):D:=bif hasT d t then optB d (badFrom (neT d t) d.len 0) else .l []
def fnT (d:D) (t:Int):Int:=bif hasT d t then t else 0
def FFnd:List AV→RT AV
  | [.sl false [.int .i64,.sl [.int .u8]] d none,.sc false (.int .i64 t)]=>.ok (.tup [optA (fnT d t) (fnD d t),ab (hasT d t)])
  | _=>.bad 298
theorem fnlDec_0:∀ F h x,fnlDec F h=some x→∃ a,x=(a,0)∧F=fnlF a 0∧h=fnlH a 0:=by
  intro F h x hx
  unfold fnlDec at hx
  split at hx
  · rename_i hd
    cases hx
    obtain ⟨h1,h2⟩:=cdS_ok hd
    exact ⟨_,rfl,h1,h2⟩
  · cases hx
theorem fnlDec_ok:∀ F h x,fnlDec F h=some x→F=fnlF x.1 x.2∧h=fnlH x.1 x.2:=by
  intro F h x hx
  obtain ⟨a,rfl,h1,h2⟩:=fnlDec_0 F h x hx
  exact ⟨h1,h2⟩
theorem cloG_ok:GamL Tryz.prog (cloG Tryz.prog):=⟨cloneb_soundF,trivial⟩
theorem scan_loop {P:Program} {gs:List (FuncId×Spec)} {ls:List (FuncId×Nat×BSpec)} {α:Type} (hm:Fit P) (hΓ:GamL P gs) (hΛ:LamL P ls) (f id n:Nat) (hl:isLoop id (bodyOf P f)=true) (L:Lw)
    {len:α→Nat} {p:α→Nat→Bool} {okk:α→Bool} {mkF mkR:α→Nat→Tm} {mkH:α→Hp} {mkG:α→Nat→Hp} {w:Ex} {dec:Tm→Hp→Option (α×Nat)}
    (hw:w≠.normal) (hwi:w≠.exit id) (hdec:∀ F h x,dec F h=some x→F=mkF x.1 x.2∧h=mkH x.1)
    (hround:∀ a i (K:Out→Prop),okk a=true→i≤len a→(i<len a→p a i=true→K (.normal,mkF a (i+1),mkH a))→(i<len a→p a i=false→K (w,mkR a i,mkG a i))→(i=len a→K (.exit id,mkF a (len a),mkH a)) →
      (roundT L (evC P (gam gs) (lam ls) n f (loopAt id (bodyOf P f)) (mkF a i) (mkH a))).holds K) :
    LamE P f id (loopS P L dec (scanT len p okk mkF mkR mkH mkG w)):=by
  refine loop_in2 hm hΓ hΛ f id n hl L (mkF:=fun x=>mkF x.1 x.2) (mkH:=fun x=>mkH x.1) (fun x=>len x.1 - x.2) hdec ?_
  rintro ⟨a,i⟩ K H
  obtain ⟨hc,H⟩:=need_holds H
  simp only [Bool.and_eq_true,decide_eq_true_eq] at hc
  obtain ⟨hok,hi⟩:=hc
  refine hround a i _ hok hi ?_ ?_ ?_
  · intro hlt hp
    refine ⟨(a,i+1),⟨rfl,rfl⟩,by show len a - (i+1)<len a - i; omega,?_⟩
    unfold scanT
    refine ⟨fun _=>?_,fun hf=>?_⟩
    · have e:len a - i=(len a - (i+1))+1:=by omega
      have e1:okFrom (p a) (len a - i) i=okFrom (p a) (len a - (i+1)) (i+1):=by rw [e]; simp only [okFrom,hp,Bool.true_and]
      have e2:badFrom (p a) (len a - i) i=badFrom (p a) (len a - (i+1)) (i+1):=by rw [e,badFrom_cons hp]
      dsimp only at H
      rw [e1,e2] at H
      exact H
    · simp only [hok,Bool.true_and,decide_eq_false_iff_not] at hf
      exact absurd (show i+1≤len a by omega) hf
  · intro hlt hp
    have h:=H.2 (okFrom_false (Nat.le_refl _) (show i<i+(len a - i) by omega) hp)
    dsimp only at h
    rw [show len a - i=(len a - i - 1)+1 by omega,badFrom_here hp] at h
    unfold Round
    cases w with
    | normal=>exact absurd rfl hw
    | exit j =>
      show if j=id then _ else _
      rw [if_neg (fun e:j=id=>hwi (by rw [e]))]
      exact h
    | ret=>exact h
  · intro he
    have h:=H.1 (by subst he; dsimp only; rw [Nat.sub_self]; rfl)
    unfold Round
    simp only [if_pos rfl]
    exact h
theorem fnl_loop:LamE Tryz.prog 91 0 (loopS Tryz.prog fnlL fnlDec fnlT):=by
  refine scan_loop (gs:=cloG Tryz.prog) (ls:=[]) mixed cloG_ok trivial _ 0 100 (by kernel_rfl) fnlL (by intro h; cases h) (by intro h; cases h) (fun F h x hx=>fnlDec_ok F h x hx) ?_
  rintro ⟨t,d,n⟩ i K hn hi H1 H2 H3
  obtain rfl:n=(d.len:Int):=odt hn
  dsimp only at hi H1 H2 H3
  have hm:=d.len_le
  show (roundT fnlL (evC _ _ _ _ _ _ (fnlF ⟨t,d,d.len⟩ i) (fnlH ⟨t,d,d.len⟩ 0))).holds _
  unfold fnlL fnlF fnlH
  rw [fnl_body]
  simp only [Int.toNat_natCast]
  refine ⟨fun h1=>holds_t_of (det ⟨by omega,by have:=odt h1; omega⟩) ⟨fun h3=>?_,fun h3=>?_⟩,fun h1=>?_⟩
  all_goals simp only [decide_eq_true_eq,decide_eq_false_iff_not] at h1
  · refine H2 (by omega) ?_
    unfold neT; rw [bne_eq_false_iff_eq]; exact eq_of_beq h3
  · rw [wrap_succ (by omega) hm]
    refine H1 (by omega) ?_
    unfold neT; rw [bne,h3]; rfl
  · obtain rfl:i=d.len:=by omega
    exact H3 rfl
theorem fnlLs_ok:LamL Tryz.prog (fnlLs Tryz.prog):=⟨fnl_loop,trivial⟩
theorem fnd_tree (d:D) (t:Int):treeF (evF Tryz.prog (gam (cloG Tryz.prog)) (lam (fnlLs Tryz.prog)) 100 91) [asl opS d,ai t] =
RT.br (decide ((↑(D.len d):Int)=(↑(D.len d):Int))&&true) (RT.br (okFrom (neT d (D.toI (D.i t))) (D.len d - 0) 0) (RT.ok (AV.tup [AV.agg [zk 0,zz],AV.sc true (Value.bool false)])) (RT.ok (AV.tup [AV.agg [zi t,zs zU (D.cell (D.get d (badFrom (neT d (D.toI (D.i t))) (D.len d - 0) 0)) 1)],zb true]))) (RT.bad 210):=by rw [← fvF_eq Tryz.prog (gam (cloG Tryz.prog)) (lam (fnlLs Tryz.prog)) false 100 91]; kernel_rfl
theorem fnd_soundF:SoundF Tryz.prog 91 (pureS Tryz.prog 91 FFnd):=by
  refine pure_in (gs:=cloG Tryz.prog) (ls:=fnlLs Tryz.prog) mixed cloG_ok fnlLs_ok 91 100 fun args K ho H=>?_
  unfold FFnd at H
  split at H
  · rename_i d t
    rw [fnd_tree]
    refine holds_t_of (by rw [Bool.and_true]; exact det rfl) ⟨fun h=>?_,fun h=>?_⟩
    · have e:hasT d t=false:=by unfold hasT; rw [show okFrom (neT d t) d.len 0=true from h]; rfl
      unfold fnT fnD at H
      rw [e] at H
      exact ⟨_,le_two (le_agg (leL_cons (le_int rfl) (leL_cons (le_nil rfl) leL_nil))) (le_bool rfl),H⟩
    · have e:hasT d t=true:=by unfold hasT; rw [show okFrom (neT d t) d.len 0=false from h]; rfl
      unfold fnT fnD at H
      rw [e] at H
      exact ⟨_,le_two (Le.refl _) (le_bool rfl),H⟩
  · exact H.elim
abbrev acI (x:D) (i:Nat):Int:=((x.get i).cell 0).toI
def flP (x:D) (pe:Int):Nat→Int
  | 0=>pe
  | i+1=>bif acI x i==1||acI x i==2 then 0 else flP x pe i
def flN (x:D) (ec tk ne:Int):Nat→Int
  | 0=>ne
  | i+1=>bif acI x i==1 then (bif decide (0<ec) then IntKind.wrap .i64 (tk+ec) else 0) else bif acI x i==2 then 0 else flN x ec tk ne i
def fndG (P:Program):List (FuncId×Spec):=[(91,pureS P 91 FFnd),(92,pureS P 92 FNmb)]
structure flwX where
  x:D
  (n mru mc mt mf wt ec lo st id rq:Int)
  d:D
  (ct tm nk mg pr mu pe ne tick:Int)
  (out did:D)
def flwL:Lw:=⟨[0,15,16,17],[],1,2,1000,1000⟩
def flwF (a:flwX) (i:Nat) (g7:Int) (g8:Int):Tm:=⟨95,[(0,.ptr 0 0),(15,.sl false acS a.x none),(16,zi a.n),(17,zi (i:Int))],[]⟩
def flwH (a:flwX) (i:Nat) (g7:Int) (g8:Int):Hp:=⟨[(0,[zi a.mru,zi a.mc,zi a.mt,zi a.mf,zi a.wt,zi a.ec,zi a.lo,zi a.st,zi a.id,zi a.rq,.sl false opS a.d none,zi a.ct,zi a.tm,zi a.nk,zi a.mg,zi a.pr,zi a.mu,zi g7,zi g8,zi a.tick,.sl false ctS a.out (some (0,1000)),.sl false acS a.did (some (1,1001))])],1,[(0,1000, 32),(1,1001, 68)],2,1002,1000⟩
def flwC:Cs:=⟨95,[(0,.lit (.ptr 0 0)),(15,.sl acS),(16,.int .i64),(17,.lit (.sc false (.int .i64 0)))],[(0,[.int .i64,.int .i64,.int .i64,.int .i64,.int .i64,.int .i64,.int .i64,.int .i64,.int .i64,.int .i64,.sl opS,.int .i64,.int .i64,.int .i64,.int .i64,.int .i64,.int .i64,.int .i64,.int .i64,.int .i64,.tp ctS 0 1000,.tp acS 1 1001])],1,[(0,1000, 32),(1,1001, 68)],2,1002,1000⟩
noncomputable def flwDec (F:Tm) (h:Hp):Option (flwX×Nat):=match cdS flwC F h with
  | some [v0,v1,v2,v3,v4,v5,v6,v7,v8,v9,v10,v11,v12,v13,v14,v15,v16,v17,v18,v19,v20,v21,v22,v23]=>some (⟨v0,v1.toI,v2.toI,v3.toI,v4.toI,v5.toI,v6.toI,v7.toI,v8.toI,v9.toI,v10.toI,v11.toI,v12,v13.toI,v14.toI,v15.toI,v16.toI,v17.toI,v18.toI,v19.toI,v20.toI,v21.toI,v22,v23⟩,0)
  | _=>none
theorem flw_body (x:D) (n:Int) (mru:Int) (mc:Int) (mt:Int) (mf:Int) (wt:Int) (ec:Int) (lo:Int) (st:Int) (id:Int) (rq:Int) (d:D) (ct:Int) (tm:Int) (nk:Int) (mg:Int) (pr:Int) (mu:Int) (tick:Int) (out:D) (did:D) (i:Int) (g7:Int) (g8:Int):roundT (⟨[0,15,16,17],[],1,2,1000,1000⟩) (evC Tryz.prog (gam (fndG Tryz.prog)) (lam ([])) 100 55 (loopAt 0 (bodyOf Tryz.prog 55)) (⟨95,[(0,.ptr 0 0),(15,.sl false acS x none),(16,zi n),(17,zi i)],[]⟩) (⟨[(0,[zi mru,zi mc,zi mt,zi mf,zi wt,zi ec,zi lo,zi st,zi id,zi rq,.sl false opS d none,zi ct,zi tm,zi nk,zi mg,zi pr,zi mu,zi g7,zi g8,zi tick,.sl false ctS out (some (0,1000)),.sl false acS did (some (1,1001))])],1,[(0,1000, 32),(1,1001, 68)],2,1002,1000⟩)) =
RT.br (decide (i<n)) (RT.br (decide (0≤i∧i<(↑(D.len x):Int))) (RT.br (D.toI (D.cell (D.get x (Int.toNat i)) 0)==1) (RT.br (decide (0<ec)) (RT.ok (Ex.normal,(Tm.mk 95 [(0,AV.ptr 0 0),(15,zs zN x),(16,zi n),(17,zi (IntKind.wrap IntKind.i64 (i+1)))] []),(Hp.mk [(0,[zi mru,zi mc,zi mt,zi mf,zi wt,zi ec,zi lo,zi st,zi id,zi rq,zs zO d,zi ct,zi tm,zi nk,zi mg,zi pr,zi mu,zi 0,zi (IntKind.wrap IntKind.i64 (tick+ec)),zi tick,AV.sl false zC out (some (0,1000)),AV.sl false zN did (some (1,1001))])] 1 [(0,1000,32),(1,1001,68)] 2 1002 1000))) (RT.ok (Ex.normal,(Tm.mk 95 [(0,AV.ptr 0 0),(15,zs zN x),(16,zi n),(17,zi (IntKind.wrap IntKind.i64 (i+1)))] []),(Hp.mk [(0,[zi mru,zi mc,zi mt,zi mf,zi wt,zi ec,zi lo,zi st,zi id,zi rq,zs zO d,zi ct,zi tm,zi nk,zi mg,zi pr,zi mu,zi 0,zi 0,zi tick,AV.sl false zC out (some (0,1000)),AV.sl false zN did (some (1,1001))])] 1 [(0,1000,32),(1,1001,68)] 2 1002 1000)))) (RT.br (D.toI (D.cell (D.get x (Int.toNat i)) 0)==2) (RT.ok (Ex.normal,(Tm.mk 95 [(0,AV.ptr 0 0),(15,zs zN x),(16,zi n),(17,zi (IntKind.wrap IntKind.i64 (i+1)))] []),(Hp.mk [(0,[zi mru,zi mc,zi mt,zi mf,zi wt,zi ec,zi lo,zi st,zi id,zi rq,zs zO d,zi ct,zi tm,zi nk,zi mg,zi pr,zi mu,zi 0,zi 0,zi tick,AV.sl false zC out (some (0,1000)),AV.sl false zN did (some (1,1001))])] 1 [(0,1000,32),(1,1001,68)] 2 1002 1000))) (RT.ok (Ex.normal,(Tm.mk 95 [(0,AV.ptr 0 0),(15,zs zN x),(16,zi n),(17,zi (IntKind.wrap IntKind.i64 (i+1)))] []),(Hp.mk [(0,[zi mru,zi mc,zi mt,zi mf,zi wt,zi ec,zi lo,zi st,zi id,zi rq,zs zO d,zi ct,zi tm,zi nk,zi mg,zi pr,zi mu,zi g7,zi g8,zi tick,AV.sl false zC out (some (0,1000)),AV.sl false zN did (some (1,1001))])] 1 [(0,1000,32),(1,1001,68)] 2 1002 1000))))) (RT.bad 42)) (RT.ok (Ex.exit 0,(Tm.mk 95 [(0,AV.ptr 0 0),(15,zs zN x),(16,zi n),(17,zi i)] []),(Hp.mk [(0,[zi mru,zi mc,zi mt,zi mf,zi wt,zi ec,zi lo,zi st,zi id,zi rq,zs zO d,zi ct,zi tm,zi nk,zi mg,zi pr,zi mu,zi g7,zi g8,zi tick,AV.sl false zC out (some (0,1000)),AV.sl false zN did (some (1,1001))])] 1 [(0,1000,32),(1,1001,68)] 2 1002 1000))):=by rw [← fvC_eq Tryz.prog (gam (fndG Tryz.prog)) (lam ([])) false 100]; kernel_rfl
def flwT:flwX×Nat→RT Out:=foldT (fun a=>a.x.len) (fun a=>decide (a.n=(a.x.len:Int))) (fun a i=>flwF a i (flP a.x a.pe i) (flN a.x a.ec a.tick a.ne i)) (fun a i=>flwH a i (flP a.x a.pe i) (flN a.x a.ec a.tick a.ne i))
def flwLs (P:Program):List (FuncId×Nat×BSpec):=[(55,0,loopS P flwL flwDec flwT)]
def mgV (d:D) (mg:Int):Int:=bif hasT d 5&&((fnD d 5).len==4&&nmI (fnD d 5) != 0) then nmI (fnD d 5) else mg
abbrev wkC (mru mc mt mf wt ec lo st id rq:Int) (d:D) (ct tm nk mg pr mu pe ne tick:Int) (out did:D) (g:Nat):List AV:=[ai mru,ai mc,ai mt,ai mf,ai wt,ai ec,ai lo,ai st,ai id,ai rq,asl opS d,ai ct,ai tm,ai nk,ai mg,ai pr,ai mu,ai pe,ai ne,ai tick,.sl false ctS out (some (0,g)),.sl false acS did (some (1,g+1))]
abbrev wkH (mru mc mt mf wt ec lo st id rq:Int) (d:D) (ct tm nk mg pr mu pe ne tick:Int) (out did:D) (g ep:Nat):Hp:=⟨[(0,wkC mru mc mt mf wt ec lo st id rq d ct tm nk mg pr mu pe ne tick out did g)],1,[(0,g, 32),(1,g+1, 68)],2,g+2,ep⟩
def wkCd (g ep:Nat):Cs:=⟨0,[],[(0,[.int .i64,.int .i64,.int .i64,.int .i64,.int .i64,.int .i64,.int .i64,.int .i64,.int .i64,.int .i64,.sl opS,.int .i64,.int .i64,.int .i64,.int .i64,.int .i64,.int .i64,.int .i64,.int .i64,.int .i64,.tp ctS 0 g,.tp acS 1 (g+1)])],1,[(0,g, 32),(1,g+1, 68)],2,g+2,ep⟩
structure WkV where
  (mru mc mt mf wt ec lo st id rq:Int)
  d:D
  (ct tm nk mg pr mu pe ne tick:Int)
  (out did:D)
abbrev wkW (w:WkV) (g ep:Nat):Hp:=wkH w.mru w.mc w.mt w.mf w.wt w.ec w.lo w.st w.id w.rq w.d w.ct w.tm w.nk w.mg w.pr w.mu w.pe w.ne w.tick w.out w.did g ep
def wkD (h:Hp):Option WkV:=match cdH (wkCd 0 0) h with
  | some [v0,v1,v2,v3,v4,v5,v6,v7,v8,v9,v10,v11,v12,v13,v14,v15,v16,v17,v18,v19,v20,v21]=>some ⟨v0.toI,v1.toI,v2.toI,v3.toI,v4.toI,v5.toI,v6.toI,v7.toI,v8.toI,v9.toI,v10,v11.toI,v12.toI,v13.toI,v14.toI,v15.toI,v16.toI,v17.toI,v18.toI,v19.toI,v20,v21⟩
  | _=>none
def flwN (w:WkV) (fr:Int):Bool:=decide (0≤fr∧fr≤w.did.len)&&optsB w.d
def flwW (w:WkV) (fr:Int):WkV:={ w with mg:=mgV w.d w.mg,pe:=flP (w.did.sub fr.toNat w.did.len) w.pe (w.did.sub fr.toNat w.did.len).len,ne:=flN (w.did.sub fr.toNat w.did.len) w.ec w.tick w.ne (w.did.sub fr.toNat w.did.len).len }
def frI:List AV→Option Int
  | [.ptr 0 0,.sc false (.int .i64 fr)]=>some fr
  | _=>none
def flwS:Spec:=fun args h=>match frI args,wkD h with
  | some fr,some w=>need false (flwN w fr) 299 (.ok (.tup [],wkW (flwW w fr) 1000 1000))
  | _,_=>.bad 299
theorem flwDec_0:∀ F h x,flwDec F h=some x→∃ a,x=(a,0)∧F=flwF a 0 a.pe a.ne∧h=flwH a 0 a.pe a.ne:=by
  intro F h x hx
  unfold flwDec at hx
  split at hx
  · rename_i hd
    cases hx
    obtain ⟨h1,h2⟩:=cdS_ok hd
    exact ⟨_,rfl,h1,h2⟩
  · cases hx
theorem fndG_ok:GamL Tryz.prog (fndG Tryz.prog):=⟨fnd_soundF,onm_soundF,trivial⟩
theorem flw_loop:LamE Tryz.prog 55 0 (loopS Tryz.prog flwL flwDec flwT):=by
  refine fold_loop (gs:=fndG Tryz.prog) (ls:=[]) mixed fndG_ok trivial _ 0 100 (by kernel_rfl) flwL (fun F h x hx=>by obtain ⟨a,rfl,h1,h2⟩:=flwDec_0 F h x hx; exact ⟨h1,h2⟩) ?_
  rintro ⟨x,n,mru,mc,mt,mf,wt,ec,lo,st,id,rq,d,ct,tm,nk,mg,pr,mu,pe,ne,tick,out,did⟩ i K hok hi H1 H2
  dsimp only at hok hi H1 H2
  have hm:=x.len_le
  obtain rfl:=odt hok
  have go:∀ x0 x1,i<x.len→flP x pe (i+1)=x0→flN x ec tick ne (i+1)=x1→K (.normal,flwF ⟨x,x.len,mru,mc,mt,mf,wt,ec,lo,st,id,rq,d,ct,tm,nk,mg,pr,mu,pe,ne,tick,out,did⟩ (i+1) x0 x1,flwH ⟨x,x.len,mru,mc,mt,mf,wt,ec,lo,st,id,rq,d,ct,tm,nk,mg,pr,mu,pe,ne,tick,out,did⟩ (i+1) x0 x1):=by
    intro x0 x1 hlt; rintro rfl rfl; exact H1 hlt
  show (roundT flwL (evC _ _ _ _ _ _ (flwF ⟨x,x.len,mru,mc,mt,mf,wt,ec,lo,st,id,rq,d,ct,tm,nk,mg,pr,mu,pe,ne,tick,out,did⟩ i (flP x pe i) (flN x ec tick ne i)) (flwH ⟨x,x.len,mru,mc,mt,mf,wt,ec,lo,st,id,rq,d,ct,tm,nk,mg,pr,mu,pe,ne,tick,out,did⟩ i (flP x pe i) (flN x ec tick ne i)))).holds _
  unfold flwL flwF flwH
  rw [flw_body]
  simp only [Int.toNat_natCast]
  refine ⟨fun h1=>?_,fun h1=>?_⟩
  rotate_left
  · obtain rfl:i=x.len:=by have:=odf h1; omega
    exact H2 rfl
  have hlt:i<x.len:=by have:=odt h1; omega
  rw [wrap_succ hlt hm]
  clear H1 H2
  have hI:decide (0≤(i:Int)∧(i:Int)<(x.len:Int))=true:=det ⟨by omega,by omega⟩
  rw [hI]
  have eP:flP x pe (i+1)=bif acI x i==1||acI x i==2 then 0 else flP x pe i:=rfl
  have eN:flN x ec tick ne (i+1)=bif acI x i==1 then (bif decide (0<ec) then IntKind.wrap .i64 (tick+ec) else 0) else bif acI x i==2 then 0 else flN x ec tick ne i:=rfl
  refine holds_t ⟨fun h3=>⟨fun h4=>?_,fun h4=>?_⟩,fun h3=>⟨fun h4=>?_,fun h4=>?_⟩⟩
  all_goals have h3:(acI x i==1)=_:=h3
  all_goals refine go _ _ hlt (eP.trans ?_) (eN.trans ?_)
  all_goals first
    | (rw [h3,h4]; rfl)
    | (rw [h3,show (acI x i==2)=_ from h4]; rfl)
    | (rw [h3]; rfl)
theorem flwLs_ok:LamL Tryz.prog (flwLs Tryz.prog):=⟨flw_loop,trivial⟩
theorem flw_tree (mru mc mt mf wt ec lo st id rq:Int) (d:D) (ct tm nk mg pr mu pe ne tick:Int) (out did:D) (fr:Int):treeQ 1 2 (evF Tryz.prog (gam (fndG Tryz.prog)) (lam (flwLs Tryz.prog)) 100 55) [.ptr 0 0,ai fr] (wkH mru mc mt mf wt ec lo st id rq d ct tm nk mg pr mu pe ne tick out did 0 0) =
RT.br (decide (0≤fr∧fr≤(↑(D.len did):Int)∧(↑(D.len did):Int)≤(↑(D.len did):Int)∧(↑(D.len did):Int)≤(↑(D.len did):Int))) (RT.br (decide ((↑(D.len (D.sub did (Int.toNat fr) (Int.toNat (↑(D.len did):Int)))):Int)=(↑(D.len (D.sub did (Int.toNat fr) (Int.toNat (↑(D.len did):Int)))):Int))&&true) (RT.br (hasT d 5) (RT.br ((↑(D.len (fnD d 5)):Int)==4) (RT.br (bytesB (fnD d 5)) (RT.br (nmOk (fnD d 5)) (RT.br (nmI (fnD d 5) != 0) (RT.ok (AV.tup [],(Hp.mk [(0,[zi mru,zi mc,zi mt,zi mf,zi wt,zi ec,zi lo,zi st,zi id,zi rq,zs zO d,zi ct,zi tm,zi nk,zi (nmI (fnD d 5)),zi pr,zi mu,zi (flP (D.sub did (Int.toNat fr) (Int.toNat (↑(D.len did):Int))) pe (D.len (D.sub did (Int.toNat fr) (Int.toNat (↑(D.len did):Int))))),zi (flN (D.sub did (Int.toNat fr) (Int.toNat (↑(D.len did):Int))) ec tick ne (D.len (D.sub did (Int.toNat fr) (Int.toNat (↑(D.len did):Int))))),zi tick,AV.sl false zC out (some (0,1000)),AV.sl false zN did (some (1,1001))])] 1 [(0,1000,32),(1,1001,68)] 2 1002 1000))) (RT.ok (AV.tup [],(Hp.mk [(0,[zi mru,zi mc,zi mt,zi mf,zi wt,zi ec,zi lo,zi st,zi id,zi rq,zs zO d,zi ct,zi tm,zi nk,zi mg,zi pr,zi mu,zi (flP (D.sub did (Int.toNat fr) (Int.toNat (↑(D.len did):Int))) pe (D.len (D.sub did (Int.toNat fr) (Int.toNat (↑(D.len did):Int))))),zi (flN (D.sub did (Int.toNat fr) (Int.toNat (↑(D.len did):Int))) ec tick ne (D.len (D.sub did (Int.toNat fr) (Int.toNat (↑(D.len did):Int))))),zi tick,AV.sl false zC out (some (0,1000)),AV.sl false zN did (some (1,1001))])] 1 [(0,1000,32),(1,1001,68)] 2 1002 1000)))) (RT.ok (AV.tup [],(Hp.mk [(0,[zi mru,zi mc,zi mt,zi mf,zi wt,zi ec,zi lo,zi st,zi id,zi rq,zs zO d,zi ct,zi tm,zi nk,zi mg,zi pr,zi mu,zi (flP (D.sub did (Int.toNat fr) (Int.toNat (↑(D.len did):Int))) pe (D.len (D.sub did (Int.toNat fr) (Int.toNat (↑(D.len did):Int))))),zi (flN (D.sub did (Int.toNat fr) (Int.toNat (↑(D.len did):Int))) ec tick ne (D.len (D.sub did (Int.toNat fr) (Int.toNat (↑(D.len did):Int))))),zi tick,AV.sl false zC out (some (0,1000)),AV.sl false zN did (some (1,1001))])] 1 [(0,1000,32),(1,1001,68)] 2 1002 1000)))) (RT.bad 297)) (RT.ok (AV.tup [],(Hp.mk [(0,[zi mru,zi mc,zi mt,zi mf,zi wt,zi ec,zi lo,zi st,zi id,zi rq,zs zO d,zi ct,zi tm,zi nk,zi mg,zi pr,zi mu,zi (flP (D.sub did (Int.toNat fr) (Int.toNat (↑(D.len did):Int))) pe (D.len (D.sub did (Int.toNat fr) (Int.toNat (↑(D.len did):Int))))),zi (flN (D.sub did (Int.toNat fr) (Int.toNat (↑(D.len did):Int))) ec tick ne (D.len (D.sub did (Int.toNat fr) (Int.toNat (↑(D.len did):Int))))),zi tick,AV.sl false zC out (some (0,1000)),AV.sl false zN did (some (1,1001))])] 1 [(0,1000,32),(1,1001,68)] 2 1002 1000)))) (RT.ok (AV.tup [],(Hp.mk [(0,[zi mru,zi mc,zi mt,zi mf,zi wt,zi ec,zi lo,zi st,zi id,zi rq,zs zO d,zi ct,zi tm,zi nk,zi mg,zi pr,zi mu,zi (flP (D.sub did (Int.toNat fr) (Int.toNat (↑(D.len did):Int))) pe (D.len (D.sub did (Int.toNat fr) (Int.toNat (↑(D.len did):Int))))),zi (flN (D.sub did (Int.toNat fr) (Int.toNat (↑(D.len did):Int))) ec tick ne (D.len (D.sub did (Int.toNat fr) (Int.toNat (↑(D.len did):Int))))),zi tick,AV.sl false zC out (some (0,1000)),AV.sl false zN did (some (1,1001))])] 1 [(0,1000,32),(1,1001,68)] 2 1002 1000)))) (RT.bad 210)) (RT.bad 37):=by kernel_rfl
theorem wkD_ok {h:Hp} {w:WkV} (hd:wkD h=some w):h=wkW w 0 0:=by
  unfold wkD at hd
  split at hd
  · rename_i h1
    cases hd
    exact (cdS_ok h1).2
  · cases hd
theorem frI_ok {args:List AV} {fr:Int} (h:frI args=some fr):args=[.ptr 0 0,ai fr]:=by
  unfold frI at h
  split at h
  · cases h; rfl
  · cases h
theorem fnD_by {d:D} {t:Int} (h:optsB d=true):bytesB (fnD d t)=true:=by
  unfold fnD
  cases hh:hasT d t
  · exact det fun i hi=>absurd hi (Nat.not_lt_zero i)
  · have hf:okFrom (neT d t) d.len 0=false:=by
      unfold hasT at hh
      rw [Bool.not_eq_true'] at hh; exact hh
    obtain ⟨_,h2,_⟩:=badFrom_at hf
    exact det (odt h _ (by omega))
theorem flw_soundF:SoundF Tryz.prog 55 flwS:=by
  refine obj_in2 (gs:=fndG Tryz.prog) (ls:=flwLs Tryz.prog) mixed fndG_ok flwLs_ok 55 100 1 2 fun args h K H=>?_
  unfold flwS at H
  split at H
  rotate_left
  · exact H.elim
  rename_i fr w h1 h2
  obtain ⟨hc,H⟩:=need_holds H
  rw [frI_ok h1,wkD_ok h2]
  refine ⟨rfl,?_⟩
  obtain ⟨mru,mc,mt,mf,wt,ec,lo,st,id,rq,d,ct,tm,nk,mg,pr,mu,pe,ne,tick,out,did⟩:=w
  unfold flwN at hc
  rw [Bool.and_eq_true] at hc
  obtain ⟨hc,hb⟩:=hc
  obtain ⟨f0,f1⟩:0≤fr∧fr≤(did.len:Int):=odt hc
  dsimp only at hb H
  unfold wkW
  dsimp only
  rw [flw_tree,fnD_by hb]
  simp only [Int.toNat_natCast]
  have M:∀ m,mgV d mg=m→K (.tup [],wkH mru mc mt mf wt ec lo st id rq d ct tm nk m pr mu (flP (did.sub fr.toNat did.len) pe (did.sub fr.toNat did.len).len) (flN (did.sub fr.toNat did.len) ec tick ne (did.sub fr.toNat did.len).len) tick out did 1000 1000):=by rintro m rfl; exact H
  refine holds_t_of (det ⟨f0,f1,by omega,by omega⟩) (holds_t_of (by simp) ⟨fun h1=>⟨fun h2=>holds_t ⟨fun h3=>⟨fun h4=>⟨_,Le.refl _,M _ ?_⟩,fun h4=>⟨_,Le.refl _,M _ ?_⟩⟩,fun h3=>⟨_,Le.refl _,M _ ?_⟩⟩,fun h2=>⟨_,Le.refl _,M _ ?_⟩⟩,fun h1=>⟨_,Le.refl _,M _ ?_⟩⟩)
  all_goals unfold mgV
  · have h2:(fnD d 5).len==4:=by have:=eq_of_beq h2; rw [beq_iff_eq]; omega
    rw [h1,h2,h4]; rfl
  · rw [h1,h4]; simp
  · have:=eq_of_beq h2
    have h3:nmOk (fnD d 5)=false:=h3
    unfold nmOk at h3
    have:=odf h3
    omega
  · have h2:((fnD d 5).len==4)=false:=by
      rw [beq_eq_false_iff_ne]
      intro e
      rw [e] at h2; cases h2
    rw [h1,h2]; rfl
  · rw [h1]; rfl
structure fo0X where
  x:D
  (tick st id rq:Int)
  d:D
  (ct tm nk mg pr mu pe ne:Int)
  (o w:D)
  (mru mc mt mf wt ec lo st0 id0 rq0:Int)
  d0:D
  (ct0 tm0 nk0:Int)
structure fo2X where
  (st id rq:Int)
  d:D
  (ct tm nk mg pr mu pe ne:Int)
  (o w:D)
  (mru mc mt mf wt ec lo st0 id0 rq0:Int)
  d0:D
  (ct0 tm0 nk0:Int)
structure fs0X where
  x:D
  (tick st id rq:Int)
  d:D
  (ct tm nk mg pr mu pe ne:Int)
  (o w:D)
  (mru mc mt mf wt ec lo st0 id0 rq0:Int)
  d0:D
  (ct0 tm0 nk0:Int)
structure fs2X where
  (st id rq:Int)
  d:D
  (ct tm nk mg pr mu pe ne:Int)
  (o w:D)
  (mru mc mt mf wt ec lo st0 id0 rq0:Int)
  d0:D
  (ct0 tm0 nk0:Int)
def brB (l:D) (t:Int):Bool:=hasT l t&&nmOk (fnD l t)
def brV (l:D) (t none:Int):Int:=bif brB l t then nmI (fnD l t) else none
structure rbrX where
  l:D
  t:Int
def FBrs:List AV→RT AV
  | [.sl false [.int .i64,.sl [.int .u8]] l none,.sc false (.int .i64 t),.sc false (.int .i64 n)]=>need false (optsB l) 302 (.ok (ai (brV l t n)))
  | _=>.bad 302
def neC (x:D) (i:Nat):Bool:=((x.get i).cell 0).toI != 2
def hasK (x:D):Bool:=!okFrom (neC x) x.len 0
structure ixkX where
  x:D
  n:Int
def ixkL:Lw:=⟨[0,1,4,7,8],[],0,0,1000,1000⟩
def ixkF (a:ixkX) (i:Nat):Tm:=⟨19,[(0,.sl false ctS a.x none),(1,.fn (.func 103) [] []),(4,zi 0),(7,zi a.n),(8,zi (i:Int))],[]⟩
def ixkH (a:ixkX) (i:Nat):Hp:=⟨[],0,[],0,1000,1000⟩
def ixkC:Cs:=⟨19,[(0,.sl ctS),(1,.lit (.fn (.func 103) [] [])),(4,.lit (.sc false (.int .i64 0))),(7,.int .i64),(8,.lit (.sc false (.int .i64 0)))],[],0,[],0,1000,1000⟩
noncomputable def ixkDec (F:Tm) (h:Hp):Option (ixkX×Nat):=match cdS ixkC F h with
  | some [v0,v1]=>some (⟨v0,v1.toI⟩,0)
  | _=>none
theorem ixk_body (x:D) (n:Int) (i:Int):roundT (⟨[0,1,4,7,8],[],0,0,1000,1000⟩) (evC Tryz.prog (gam (nonG Tryz.prog)) (lam ([])) 100 131 (loopAt 0 (bodyOf Tryz.prog 131)) (⟨19,[(0,.sl false ctS x none),(1,.fn (.func 103) [] []),(4,zi 0),(7,zi n),(8,zi i)],[]⟩) (⟨[],0,[],0,1000,1000⟩)) =
RT.br (decide (i<n)) (RT.br (decide (0≤i∧i<(↑(D.len x):Int))) (RT.br (D.toI (D.cell (D.get x (Int.toNat i)) 0)==2) (RT.ok (Ex.ret,(Tm.mk 19 [(0,zs zC x),(1,AV.fn (Fn.func 103) [] []),(4,zi i),(7,zi n),(8,zi i)] []),(Hp.mk [] 0 [] 0 1000 1000))) (RT.ok (Ex.normal,(Tm.mk 19 [(0,zs zC x),(1,AV.fn (Fn.func 103) [] []),(4,zi 0),(7,zi n),(8,zi (IntKind.wrap IntKind.i64 (i+1)))] []),(Hp.mk [] 0 [] 0 1000 1000)))) (RT.bad 42)) (RT.ok (Ex.exit 0,(Tm.mk 19 [(0,zs zC x),(1,AV.fn (Fn.func 103) [] []),(4,zi 0),(7,zi n),(8,zi i)] []),(Hp.mk [] 0 [] 0 1000 1000))):=by rw [← fvC_eq Tryz.prog (gam (nonG Tryz.prog)) (lam ([])) false 100]; kernel_rfl
def ixkR (a:ixkX) (i:Nat):Tm:=⟨19,[(0,asl ctS a.x),(1,.fn (.func 103) [] []),(4,ai i),(7,ai a.n),(8,ai i)],[]⟩
def ixkT:ixkX×Nat→RT Out:=searchT (fun a=>a.x.len) (fun a=>neC a.x) (fun a=>decide (a.n=(a.x.len:Int))) ixkF ixkR (fun a=>ixkH a 0) .ret
def ixkLs (P:Program):List (FuncId×Nat×BSpec):=[(131,0,loopS P ixkL ixkDec ixkT)]
def FCnk:List AV→RT AV
  | [.sl false [.int .i64,.int .i64,.sl [.int .u8]] x none,.fn (.func 103) [] []]=>.ok (ab (hasK x))
  | _=>.bad 303
structure cfgX where
  x:D
  (st id rq:Int)
  d:D
  (ct tm nk mg pr mu pe ne:Int)
  (o w:D)
  (mru mc mt mf wt ec lo ic ii:Int)
  ix:D
  (st0 id0 rq0:Int)
  d0:D
  (ct0 tm0 nk0:Int)
theorem ixkDec_0:∀ F h x,ixkDec F h=some x→∃ a,x=(a,0)∧F=ixkF a 0∧h=ixkH a 0:=by
  intro F h x hx
  unfold ixkDec at hx
  split at hx
  · rename_i hd
    cases hx
    obtain ⟨h1,h2⟩:=cdS_ok hd
    exact ⟨_,rfl,h1,h2⟩
  · cases hx
theorem ixkDec_ok:∀ F h x,ixkDec F h=some x→F=ixkF x.1 x.2∧h=ixkH x.1 x.2:=by
  intro F h x hx
  obtain ⟨a,rfl,h1,h2⟩:=ixkDec_0 F h x hx
  exact ⟨h1,h2⟩
theorem brs_tree (l:D) (t n:Int):treeF (evF Tryz.prog (gam (fndG Tryz.prog)) (lam ([])) 100 105) [asl opS l,ai t,ai n] =
RT.br (!hasT l t) (RT.ok (zi n)) (RT.br (bytesB (fnD l t)) (RT.br (!nmOk (fnD l t)) (RT.ok (zi n)) (RT.ok (zi (nmI (fnD l t))))) (RT.bad 297)):=by rw [← fvF_eq Tryz.prog (gam (fndG Tryz.prog)) (lam ([])) false 100 105]; kernel_rfl
theorem cnk_tree (x:D):treeF (evF Tryz.prog (gam (nonG Tryz.prog)) (lam (ixkLs Tryz.prog)) 100 102) [asl ctS x,.fn (.func 103) [] []] =
RT.br (decide ((↑(D.len x):Int)=(↑(D.len x):Int))&&true) (RT.br (okFrom (neC x) (D.len x - 0) 0) (RT.ok (AV.sc true (Value.bool false))) (RT.ok (zb true))) (RT.bad 210):=by rw [← fvF_eq Tryz.prog (gam (nonG Tryz.prog)) (lam (ixkLs Tryz.prog)) false 100 102]; kernel_rfl
theorem ixk_loop:LamE Tryz.prog 131 0 (loopS Tryz.prog ixkL ixkDec ixkT):=by
  refine search_loop (gs:=nonG Tryz.prog) (ls:=[]) mixed nonG_ok trivial _ 0 100 (by kernel_rfl) ixkL (by intro h; cases h) (by intro h; cases h) (fun F h x hx=>ixkDec_ok F h x hx) ?_
  rintro ⟨x,n⟩ i K hn hi H1 H2 H3
  obtain rfl:n=(x.len:Int):=odt hn
  dsimp only at hi H1 H2 H3
  have hm:=x.len_le
  show (roundT ixkL (evC _ _ _ _ _ _ (ixkF ⟨x,x.len⟩ i) (ixkH ⟨x,x.len⟩ 0))).holds _
  unfold ixkL ixkF ixkH
  rw [ixk_body]
  simp only [Int.toNat_natCast]
  refine ⟨fun h1=>?_,fun h1=>?_⟩
  rotate_left
  · obtain rfl:i=x.len:=by have:=odf h1; omega
    exact H3 rfl
  have hlt:i<x.len:=by have:=odt h1; omega
  have hI:decide (0≤(i:Int)∧(i:Int)<(x.len:Int))=true:=det ⟨by omega,by omega⟩
  rw [hI,wrap_succ hlt hm]
  refine holds_t ⟨fun h3=>H2 hlt ?_,fun h3=>H1 hlt ?_⟩
  · unfold neC; rw [bne_eq_false_iff_eq]; exact eq_of_beq h3
  · unfold neC; rw [bne,h3]; rfl
theorem ixkLs_ok:LamL Tryz.prog (ixkLs Tryz.prog):=⟨ixk_loop,trivial⟩
theorem brs_soundF:SoundF Tryz.prog 105 (pureS Tryz.prog 105 FBrs):=by
  refine pure_in (gs:=fndG Tryz.prog) (ls:=[]) mixed fndG_ok trivial 105 100 fun args K ho H=>?_
  unfold FBrs at H
  split at H
  · rename_i l t n
    obtain ⟨hc,H⟩:=need_holds H
    rw [brs_tree,fnD_by hc]
    have go:∀ m,brV l t n=m→∃ y,Le (ai m) y∧K y:=by rintro m rfl; exact ⟨_,Le.refl _,H⟩
    refine ⟨fun h=>go _ ?_,fun h=>holds_t ⟨fun h2=>go _ ?_,fun h2=>go _ ?_⟩⟩
    all_goals unfold brV brB
    · rw [Bool.not_eq_true'] at h; rw [h]; rfl
    · rw [Bool.not_eq_true'] at h2; rw [h2,Bool.and_false]; rfl
    · rw [Bool.not_eq_false'] at h h2; rw [h,h2]; rfl
  · exact H.elim
theorem cnk_soundF:SoundF Tryz.prog 102 (pureS Tryz.prog 102 FCnk):=by
  refine pure_in (gs:=nonG Tryz.prog) (ls:=ixkLs Tryz.prog) mixed nonG_ok ixkLs_ok 102 100 fun args K ho H=>?_
  unfold FCnk at H
  split at H
  · rename_i x
    rw [cnk_tree]
    refine holds_t_of (by rw [Bool.and_true]; exact det rfl) ⟨fun h=>⟨_,le_bool ?_,H⟩,fun h=>⟨_,le_bool ?_,H⟩⟩
    · unfold hasK; rw [show okFrom (neC x) x.len 0=true from h]; rfl
    · unfold hasK; rw [show okFrom (neC x) x.len 0=false from h]; rfl
  · exact H.elim
def rlA (m:Int):D:=rulD m (othP m)
def FAuA:List AV→RT AV
  | [.agg [.sc false (.int .i64 _),.sc false (.int .i64 b),.sc false (.int .i64 c),.sc false (.int .i64 d),.sc false (.int .i64 e),.sc false (.int .i64 _),.sc false (.int .i64 _)],.sc false (.int .i64 m)]=>.ok (.agg [asl rlS (rlA m),ai b,ai c,ai d,ai e])
  | _=>.bad 304
def evB (e:Int):Bool:=decide (1≤e∧e≤4)
def isEv (d:D):Bool:=match d.raw with | [.t [.ki 1],.t [.ki 2],.t [.ki 3],.t [.ki 4]]=>true | _=>false
def FEvt:List AV→RT AV
  | [.sl false [.int .i64] d none,.sc false (.int .i64 e)]=>bif isEv d then .ok (ab (evB e)) else .bad 305
  | _=>.bad 305
def lcpG (P:Program):List (FuncId×Spec):=[(11,pureS P 11 FLck),(61,pureS P 61 FOwn),(12,pureS P 12 FAuA),(94,pureS P 94 FDoR),(55,objT flwS),(88,pureS P 88 FEvt)]
abbrev cnfA (mru mc mt mf wt ec lo:Int):AV:=.agg [ai mru,ai mc,ai mt,ai mf,ai wt,ai ec,ai lo]
def evR (w:WkV) (rl:D) (e ic ii:Int) (ix:D) (ac ax:Int) (ad:D):DoneV:=doW (rlM rl) (rlG rl) w.mc w.mt w.mf w.wt ⟨w.st,w.id,w.rq,w.d,w.ct,w.tm,w.nk⟩ e ic ii ix ac ax ad w.tick
def folW (w:WkV) (r:DoneV):WkV:={ w with st:=r.a.st,id:=r.a.id,rq:=r.a.rq,d:=r.a.d,ct:=r.a.ct,tm:=r.a.tm,nk:=r.a.nk,mg:=mgV r.a.d w.mg,pe:=flP r.did w.pe r.did.len,ne:=flN r.did w.ec w.tick w.ne r.did.len,out:=D.app w.out r.out,did:=D.app w.did r.did }
def evW (w:WkV) (rl:D) (e ic ii:Int) (ix:D) (ac ax:Int) (ad:D):WkV:=folW w (evR w rl e ic ii ix ac ax ad)
abbrev wkA (w:WkV):AV:=.tup [.agg [ai w.st,ai w.id,ai w.rq,asl opS w.d,ai w.ct,ai w.tm,ai w.nk,ai w.mg,ai w.pr,ai w.mu,ai w.pe,ai w.ne],asl ctS w.out,asl acS w.did]
theorem auA_soundF:SoundF Tryz.prog 12 (pureS Tryz.prog 12 FAuA):=by
  refine pure_in (gs:=[]) (ls:=[]) mixed trivial trivial 12 100 fun args K ho H=>?_
  unfold FAuA at H
  split at H
  · rename_i m
    rw [lau_tree]
    refine ⟨fun h1=>⟨_,le_agg (leL_cons (fun E v hv=>le_raw (kn:=true) (kn':=false) (d:=rulD _ _) rfl E v (le_rul ?_ E v hv)) fun _ _ h=>h),H⟩,fun h1=>⟨_,le_agg (leL_cons (fun E v hv=>le_raw (kn:=true) (kn':=false) (d:=rulD _ _) rfl E v (le_rul ?_ E v hv)) fun _ _ h=>h),H⟩⟩
    · have h1:othX m=0:=eq_of_beq (a:=othX m) (b:=0) h1
      unfold othP; rw [if_pos h1]; rfl
    · have h1:¬ othX m=0:=fun e=>by
        have h1':(othX m==0)=false:=h1
        rw [e] at h1'; cases h1'
      unfold othP; rw [if_neg h1]; rfl
  · exact H.elim
theorem acts_len {c:DoC} {did:D}:∀ (m i:Nat) (v:DoV),v.out.len+m≤8→(actsF c did m i v).out.len≤v.out.len+m
  | 0,_,_,_=>Nat.le_refl _
  | m+1,i,v,h=>by
    have h1:=actF_len (c:=c) (a:=((did.get i).cell 0).toI) (v:=v) (by omega)
    have h2:=acts_len (c:=c) (did:=did) m (i+1) (actF c ((did.get i).cell 0).toI v) (by omega)
    unfold actsF
    omega
theorem doW_fit {m g mc mt mf wt:Int} {a:AuV} {e ic ii:Int} {ix:D} {ac ax:Int} {ad:D} {tk:Int}:(doW m g mc mt mf wt a e ic ii ix ac ax ad tk).out.len≤3∧(doW m g mc mt mf wt a e ic ii ix ac ax ad tk).did.len≤3∧(doW m g mc mt mf wt a e ic ii ix ac ax ad tk).a.d=a.d:=by
  cases h:doB m g mc mt mf wt a e tk
  · rw [doW_off h]; exact ⟨Nat.zero_le _,Nat.zero_le _,rfl⟩
  · rw [doW_on h]
    have h3:=rfcD_len a.st e
    have h4:=acts_len (c:=doK m g mc mt mf wt a.st e a.d ic ii ix ac ax ad tk) (did:=rfcD a.st e) (rfcD a.st e).len 0 ⟨a.id,a.rq,a.ct,a.tm,a.nk,.l []⟩ (by show 0+_≤8; omega)
    refine ⟨?_,h3,rfl⟩
    have h4:(doR m g mc mt mf wt a e ic ii ix ac ax ad tk).out.len≤0+(rfcD a.st e).len:=h4
    show (doR m g mc mt mf wt a e ic ii ix ac ax ad tk).out.len≤3
    omega
theorem app_fit {a b:D} {n:Nat} (h:a.len+b.len≤n):(D.app a b).len≤n:=by
  unfold D.app D.len D.toL D.raw
  refine Nat.le_trans (List.length_take_le' _ _) ?_
  rw [List.length_append]; exact h
def lisW (w:WkV):Bool:=lisB w.mru w.mc w.mt w.mf w.wt w.ec w.lo w.st w.id w.rq w.d w.ct w.tm w.nk w.mg w.pr w.mu w.pe w.ne
def onB (w:WkV):Bool:=lisW w&&(decide (0≤w.tick)&&decide (w.tick≤1099511627776))
def ldoW (w:WkV) (e:Int):WkV:=bif evB e&&onB w then evW w (rlA w.mg) e 0 0 (.l []) 0 0 (.l []) else w
def ldoCd:List Cd:=[.agg [.int .i64,.int .i64,.int .i64,.int .i64,.int .i64,.int .i64,.int .i64],.agg [.int .i64,.int .i64,.int .i64,.sl opS,.int .i64,.int .i64,.int .i64,.int .i64,.int .i64,.int .i64,.int .i64,.int .i64],.int .i64,.int .i64]
def FLdo (args:List AV):RT AV:=match cdAL ldoCd args with
  | some [v0,v1,v2,v3,v4,v5,v6,v7,v8,v9,v10,v11,v12,v13,v14,v15,v16,v17,v18,v19,v20]=>need false (optsB v10) 307 (.ok (wkA (ldoW ⟨v0.toI,v1.toI,v2.toI,v3.toI,v4.toI,v5.toI,v6.toI,v7.toI,v8.toI,v9.toI,v10,v11.toI,v12.toI,v13.toI,v14.toI,v15.toI,v16.toI,v17.toI,v18.toI,v20.toI,.l [],.l []⟩ v19.toI)))
  | _=>.bad 307
abbrev ldo_treeT_1 (st id rq ct tm nk mg pr mu pe ne:Int) (d:D):=RT.ok (AV.tup [AV.agg [zi st,zi id,zi rq,zs zO d,zi ct,zi tm,zi nk,zi mg,zi pr,zi mu,zi pe,zi ne],zz,zz])
def ldo_treeT (mru mc mt mf wt ec lo st id rq ct tm nk mg pr mu pe ne:Int) (d:D) (e tk:Int):RT AV :=
RT.br (!evB e) (ldo_treeT_1 st id rq ct tm nk mg pr mu pe ne d) (RT.br (errIf (lisB mru mc mt mf wt ec lo st id rq d ct tm nk mg pr mu pe ne) 170 != 0) (ldo_treeT_1 st id rq ct tm nk mg pr mu pe ne d) (RT.br (decide (0≤tk)) (RT.br (!decide (tk≤1099511627776)) (ldo_treeT_1 st id rq ct tm nk mg pr mu pe ne d) (RT.br true (RT.br (flwN (WkV.mk mru mc mt mf wt ec lo (AuV.st (DoneV.a (doW (rlM (rlA mg)) (rlG (rlA mg)) mc mt mf wt (AuV.mk st id rq d ct tm nk) e 0 0 (D.l []) 0 0 (D.l []) tk))) (AuV.id (DoneV.a (doW (rlM (rlA mg)) (rlG (rlA mg)) mc mt mf wt (AuV.mk st id rq d ct tm nk) e 0 0 (D.l []) 0 0 (D.l []) tk))) (AuV.rq (DoneV.a (doW (rlM (rlA mg)) (rlG (rlA mg)) mc mt mf wt (AuV.mk st id rq d ct tm nk) e 0 0 (D.l []) 0 0 (D.l []) tk))) (AuV.d (DoneV.a (doW (rlM (rlA mg)) (rlG (rlA mg)) mc mt mf wt (AuV.mk st id rq d ct tm nk) e 0 0 (D.l []) 0 0 (D.l []) tk))) (AuV.ct (DoneV.a (doW (rlM (rlA mg)) (rlG (rlA mg)) mc mt mf wt (AuV.mk st id rq d ct tm nk) e 0 0 (D.l []) 0 0 (D.l []) tk))) (AuV.tm (DoneV.a (doW (rlM (rlA mg)) (rlG (rlA mg)) mc mt mf wt (AuV.mk st id rq d ct tm nk) e 0 0 (D.l []) 0 0 (D.l []) tk))) (AuV.nk (DoneV.a (doW (rlM (rlA mg)) (rlG (rlA mg)) mc mt mf wt (AuV.mk st id rq d ct tm nk) e 0 0 (D.l []) 0 0 (D.l []) tk))) mg pr mu pe ne tk (D.app (D.l []) (DoneV.out (doW (rlM (rlA mg)) (rlG (rlA mg)) mc mt mf wt (AuV.mk st id rq d ct tm nk) e 0 0 (D.l []) 0 0 (D.l []) tk))) (D.app (D.l []) (DoneV.did (doW (rlM (rlA mg)) (rlG (rlA mg)) mc mt mf wt (AuV.mk st id rq d ct tm nk) e 0 0 (D.l []) 0 0 (D.l []) tk)))) 0) (RT.ok (AV.tup [AV.agg [zi (WkV.st (flwW (WkV.mk mru mc mt mf wt ec lo (AuV.st (DoneV.a (doW (rlM (rlA mg)) (rlG (rlA mg)) mc mt mf wt (AuV.mk st id rq d ct tm nk) e 0 0 (D.l []) 0 0 (D.l []) tk))) (AuV.id (DoneV.a (doW (rlM (rlA mg)) (rlG (rlA mg)) mc mt mf wt (AuV.mk st id rq d ct tm nk) e 0 0 (D.l []) 0 0 (D.l []) tk))) (AuV.rq (DoneV.a (doW (rlM (rlA mg)) (rlG (rlA mg)) mc mt mf wt (AuV.mk st id rq d ct tm nk) e 0 0 (D.l []) 0 0 (D.l []) tk))) (AuV.d (DoneV.a (doW (rlM (rlA mg)) (rlG (rlA mg)) mc mt mf wt (AuV.mk st id rq d ct tm nk) e 0 0 (D.l []) 0 0 (D.l []) tk))) (AuV.ct (DoneV.a (doW (rlM (rlA mg)) (rlG (rlA mg)) mc mt mf wt (AuV.mk st id rq d ct tm nk) e 0 0 (D.l []) 0 0 (D.l []) tk))) (AuV.tm (DoneV.a (doW (rlM (rlA mg)) (rlG (rlA mg)) mc mt mf wt (AuV.mk st id rq d ct tm nk) e 0 0 (D.l []) 0 0 (D.l []) tk))) (AuV.nk (DoneV.a (doW (rlM (rlA mg)) (rlG (rlA mg)) mc mt mf wt (AuV.mk st id rq d ct tm nk) e 0 0 (D.l []) 0 0 (D.l []) tk))) mg pr mu pe ne tk (D.app (D.l []) (DoneV.out (doW (rlM (rlA mg)) (rlG (rlA mg)) mc mt mf wt (AuV.mk st id rq d ct tm nk) e 0 0 (D.l []) 0 0 (D.l []) tk))) (D.app (D.l []) (DoneV.did (doW (rlM (rlA mg)) (rlG (rlA mg)) mc mt mf wt (AuV.mk st id rq d ct tm nk) e 0 0 (D.l []) 0 0 (D.l []) tk)))) 0)),zi (WkV.id (flwW (WkV.mk mru mc mt mf wt ec lo (AuV.st (DoneV.a (doW (rlM (rlA mg)) (rlG (rlA mg)) mc mt mf wt (AuV.mk st id rq d ct tm nk) e 0 0 (D.l []) 0 0 (D.l []) tk))) (AuV.id (DoneV.a (doW (rlM (rlA mg)) (rlG (rlA mg)) mc mt mf wt (AuV.mk st id rq d ct tm nk) e 0 0 (D.l []) 0 0 (D.l []) tk))) (AuV.rq (DoneV.a (doW (rlM (rlA mg)) (rlG (rlA mg)) mc mt mf wt (AuV.mk st id rq d ct tm nk) e 0 0 (D.l []) 0 0 (D.l []) tk))) (AuV.d (DoneV.a (doW (rlM (rlA mg)) (rlG (rlA mg)) mc mt mf wt (AuV.mk st id rq d ct tm nk) e 0 0 (D.l []) 0 0 (D.l []) tk))) (AuV.ct (DoneV.a (doW (rlM (rlA mg)) (rlG (rlA mg)) mc mt mf wt (AuV.mk st id rq d ct tm nk) e 0 0 (D.l []) 0 0 (D.l []) tk))) (AuV.tm (DoneV.a (doW (rlM (rlA mg)) (rlG (rlA mg)) mc mt mf wt (AuV.mk st id rq d ct tm nk) e 0 0 (D.l []) 0 0 (D.l []) tk))) (AuV.nk (DoneV.a (doW (rlM (rlA mg)) (rlG (rlA mg)) mc mt mf wt (AuV.mk st id rq d ct tm nk) e 0 0 (D.l []) 0 0 (D.l []) tk))) mg pr mu pe ne tk (D.app (D.l []) (DoneV.out (doW (rlM (rlA mg)) (rlG (rlA mg)) mc mt mf wt (AuV.mk st id rq d ct tm nk) e 0 0 (D.l []) 0 0 (D.l []) tk))) (D.app (D.l []) (DoneV.did (doW (rlM (rlA mg)) (rlG (rlA mg)) mc mt mf wt (AuV.mk st id rq d ct tm nk) e 0 0 (D.l []) 0 0 (D.l []) tk)))) 0)),zi (WkV.rq (flwW (WkV.mk mru mc mt mf wt ec lo (AuV.st (DoneV.a (doW (rlM (rlA mg)) (rlG (rlA mg)) mc mt mf wt (AuV.mk st id rq d ct tm nk) e 0 0 (D.l []) 0 0 (D.l []) tk))) (AuV.id (DoneV.a (doW (rlM (rlA mg)) (rlG (rlA mg)) mc mt mf wt (AuV.mk st id rq d ct tm nk) e 0 0 (D.l []) 0 0 (D.l []) tk))) (AuV.rq (DoneV.a (doW (rlM (rlA mg)) (rlG (rlA mg)) mc mt mf wt (AuV.mk st id rq d ct tm nk) e 0 0 (D.l []) 0 0 (D.l []) tk))) (AuV.d (DoneV.a (doW (rlM (rlA mg)) (rlG (rlA mg)) mc mt mf wt (AuV.mk st id rq d ct tm nk) e 0 0 (D.l []) 0 0 (D.l []) tk))) (AuV.ct (DoneV.a (doW (rlM (rlA mg)) (rlG (rlA mg)) mc mt mf wt (AuV.mk st id rq d ct tm nk) e 0 0 (D.l []) 0 0 (D.l []) tk))) (AuV.tm (DoneV.a (doW (rlM (rlA mg)) (rlG (rlA mg)) mc mt mf wt (AuV.mk st id rq d ct tm nk) e 0 0 (D.l []) 0 0 (D.l []) tk))) (AuV.nk (DoneV.a (doW (rlM (rlA mg)) (rlG (rlA mg)) mc mt mf wt (AuV.mk st id rq d ct tm nk) e 0 0 (D.l []) 0 0 (D.l []) tk))) mg pr mu pe ne tk (D.app (D.l []) (DoneV.out (doW (rlM (rlA mg)) (rlG (rlA mg)) mc mt mf wt (AuV.mk st id rq d ct tm nk) e 0 0 (D.l []) 0 0 (D.l []) tk))) (D.app (D.l []) (DoneV.did (doW (rlM (rlA mg)) (rlG (rlA mg)) mc mt mf wt (AuV.mk st id rq d ct tm nk) e 0 0 (D.l []) 0 0 (D.l []) tk)))) 0)),zs zO (WkV.d (flwW (WkV.mk mru mc mt mf wt ec lo (AuV.st (DoneV.a (doW (rlM (rlA mg)) (rlG (rlA mg)) mc mt mf wt (AuV.mk st id rq d ct tm nk) e 0 0 (D.l []) 0 0 (D.l []) tk))) (AuV.id (DoneV.a (doW (rlM (rlA mg)) (rlG (rlA mg)) mc mt mf wt (AuV.mk st id rq d ct tm nk) e 0 0 (D.l []) 0 0 (D.l []) tk))) (AuV.rq (DoneV.a (doW (rlM (rlA mg)) (rlG (rlA mg)) mc mt mf wt (AuV.mk st id rq d ct tm nk) e 0 0 (D.l []) 0 0 (D.l []) tk))) (AuV.d (DoneV.a (doW (rlM (rlA mg)) (rlG (rlA mg)) mc mt mf wt (AuV.mk st id rq d ct tm nk) e 0 0 (D.l []) 0 0 (D.l []) tk))) (AuV.ct (DoneV.a (doW (rlM (rlA mg)) (rlG (rlA mg)) mc mt mf wt (AuV.mk st id rq d ct tm nk) e 0 0 (D.l []) 0 0 (D.l []) tk))) (AuV.tm (DoneV.a (doW (rlM (rlA mg)) (rlG (rlA mg)) mc mt mf wt (AuV.mk st id rq d ct tm nk) e 0 0 (D.l []) 0 0 (D.l []) tk))) (AuV.nk (DoneV.a (doW (rlM (rlA mg)) (rlG (rlA mg)) mc mt mf wt (AuV.mk st id rq d ct tm nk) e 0 0 (D.l []) 0 0 (D.l []) tk))) mg pr mu pe ne tk (D.app (D.l []) (DoneV.out (doW (rlM (rlA mg)) (rlG (rlA mg)) mc mt mf wt (AuV.mk st id rq d ct tm nk) e 0 0 (D.l []) 0 0 (D.l []) tk))) (D.app (D.l []) (DoneV.did (doW (rlM (rlA mg)) (rlG (rlA mg)) mc mt mf wt (AuV.mk st id rq d ct tm nk) e 0 0 (D.l []) 0 0 (D.l []) tk)))) 0)),zi (WkV.ct (flwW (WkV.mk mru mc mt mf wt ec lo (AuV.st (DoneV.a (doW (rlM (rlA mg)) (rlG (rlA mg)) mc mt mf wt (AuV.mk st id rq d ct tm nk) e 0 0 (D.l []) 0 0 (D.l []) tk))) (AuV.id (DoneV.a (doW (rlM (rlA mg)) (rlG (rlA mg)) mc mt mf wt (AuV.mk st id rq d ct tm nk) e 0 0 (D.l []) 0 0 (D.l []) tk))) (AuV.rq (DoneV.a (doW (rlM (rlA mg)) (rlG (rlA mg)) mc mt mf wt (AuV.mk st id rq d ct tm nk) e 0 0 (D.l []) 0 0 (D.l []) tk))) (AuV.d (DoneV.a (doW (rlM (rlA mg)) (rlG (rlA mg)) mc mt mf wt (AuV.mk st id rq d ct tm nk) e 0 0 (D.l []) 0 0 (D.l []) tk))) (AuV.ct (DoneV.a (doW (rlM (rlA mg)) (rlG (rlA mg)) mc mt mf wt (AuV.mk st id rq d ct tm nk) e 0 0 (D.l []) 0 0 (D.l []) tk))) (AuV.tm (DoneV.a (doW (rlM (rlA mg)) (rlG (rlA mg)) mc mt mf wt (AuV.mk st id rq d ct tm nk) e 0 0 (D.l []) 0 0 (D.l []) tk))) (AuV.nk (DoneV.a (doW (rlM (rlA mg)) (rlG (rlA mg)) mc mt mf wt (AuV.mk st id rq d ct tm nk) e 0 0 (D.l []) 0 0 (D.l []) tk))) mg pr mu pe ne tk (D.app (D.l []) (DoneV.out (doW (rlM (rlA mg)) (rlG (rlA mg)) mc mt mf wt (AuV.mk st id rq d ct tm nk) e 0 0 (D.l []) 0 0 (D.l []) tk))) (D.app (D.l []) (DoneV.did (doW (rlM (rlA mg)) (rlG (rlA mg)) mc mt mf wt (AuV.mk st id rq d ct tm nk) e 0 0 (D.l []) 0 0 (D.l []) tk)))) 0)),zi (WkV.tm (flwW (WkV.mk mru mc mt mf wt ec lo (AuV.st (DoneV.a (doW (rlM (rlA mg)) (rlG (rlA mg)) mc mt mf wt (AuV.mk st id rq d ct tm nk) e 0 0 (D.l []) 0 0 (D.l []) tk))) (AuV.id (DoneV.a (doW (rlM (rlA mg)) (rlG (rlA mg)) mc mt mf wt (AuV.mk st id rq d ct tm nk) e 0 0 (D.l []) 0 0 (D.l []) tk))) (AuV.rq (DoneV.a (doW (rlM (rlA mg)) (rlG (rlA mg)) mc mt mf wt (AuV.mk st id rq d ct tm nk) e 0 0 (D.l []) 0 0 (D.l []) tk))) (AuV.d (DoneV.a (doW (rlM (rlA mg)) (rlG (rlA mg)) mc mt mf wt (AuV.mk st id rq d ct tm nk) e 0 0 (D.l []) 0 0 (D.l []) tk))) (AuV.ct (DoneV.a (doW (rlM (rlA mg)) (rlG (rlA mg)) mc mt mf wt (AuV.mk st id rq d ct tm nk) e 0 0 (D.l []) 0 0 (D.l []) tk))) (AuV.tm (DoneV.a (doW (rlM (rlA mg)) (rlG (rlA mg)) mc mt mf wt (AuV.mk st id rq d ct tm nk) e 0 0 (D.l []) 0 0 (D.l []) tk))) (AuV.nk (DoneV.a (doW (rlM (rlA mg)) (rlG (rlA mg)) mc mt mf wt (AuV.mk st id rq d ct tm nk) e 0 0 (D.l []) 0 0 (D.l []) tk))) mg pr mu pe ne tk (D.app (D.l []) (DoneV.out (doW (rlM (rlA mg)) (rlG (rlA mg)) mc mt mf wt (AuV.mk st id rq d ct tm nk) e 0 0 (D.l []) 0 0 (D.l []) tk))) (D.app (D.l []) (DoneV.did (doW (rlM (rlA mg)) (rlG (rlA mg)) mc mt mf wt (AuV.mk st id rq d ct tm nk) e 0 0 (D.l []) 0 0 (D.l []) tk)))) 0)),zi (WkV.nk (flwW (WkV.mk mru mc mt mf wt ec lo (AuV.st (DoneV.a (doW (rlM (rlA mg)) (rlG (rlA mg)) mc mt mf wt (AuV.mk st id rq d ct tm nk) e 0 0 (D.l []) 0 0 (D.l []) tk))) (AuV.id (DoneV.a (doW (rlM (rlA mg)) (rlG (rlA mg)) mc mt mf wt (AuV.mk st id rq d ct tm nk) e 0 0 (D.l []) 0 0 (D.l []) tk))) (AuV.rq (DoneV.a (doW (rlM (rlA mg)) (rlG (rlA mg)) mc mt mf wt (AuV.mk st id rq d ct tm nk) e 0 0 (D.l []) 0 0 (D.l []) tk))) (AuV.d (DoneV.a (doW (rlM (rlA mg)) (rlG (rlA mg)) mc mt mf wt (AuV.mk st id rq d ct tm nk) e 0 0 (D.l []) 0 0 (D.l []) tk))) (AuV.ct (DoneV.a (doW (rlM (rlA mg)) (rlG (rlA mg)) mc mt mf wt (AuV.mk st id rq d ct tm nk) e 0 0 (D.l []) 0 0 (D.l []) tk))) (AuV.tm (DoneV.a (doW (rlM (rlA mg)) (rlG (rlA mg)) mc mt mf wt (AuV.mk st id rq d ct tm nk) e 0 0 (D.l []) 0 0 (D.l []) tk))) (AuV.nk (DoneV.a (doW (rlM (rlA mg)) (rlG (rlA mg)) mc mt mf wt (AuV.mk st id rq d ct tm nk) e 0 0 (D.l []) 0 0 (D.l []) tk))) mg pr mu pe ne tk (D.app (D.l []) (DoneV.out (doW (rlM (rlA mg)) (rlG (rlA mg)) mc mt mf wt (AuV.mk st id rq d ct tm nk) e 0 0 (D.l []) 0 0 (D.l []) tk))) (D.app (D.l []) (DoneV.did (doW (rlM (rlA mg)) (rlG (rlA mg)) mc mt mf wt (AuV.mk st id rq d ct tm nk) e 0 0 (D.l []) 0 0 (D.l []) tk)))) 0)),zi (WkV.mg (flwW (WkV.mk mru mc mt mf wt ec lo (AuV.st (DoneV.a (doW (rlM (rlA mg)) (rlG (rlA mg)) mc mt mf wt (AuV.mk st id rq d ct tm nk) e 0 0 (D.l []) 0 0 (D.l []) tk))) (AuV.id (DoneV.a (doW (rlM (rlA mg)) (rlG (rlA mg)) mc mt mf wt (AuV.mk st id rq d ct tm nk) e 0 0 (D.l []) 0 0 (D.l []) tk))) (AuV.rq (DoneV.a (doW (rlM (rlA mg)) (rlG (rlA mg)) mc mt mf wt (AuV.mk st id rq d ct tm nk) e 0 0 (D.l []) 0 0 (D.l []) tk))) (AuV.d (DoneV.a (doW (rlM (rlA mg)) (rlG (rlA mg)) mc mt mf wt (AuV.mk st id rq d ct tm nk) e 0 0 (D.l []) 0 0 (D.l []) tk))) (AuV.ct (DoneV.a (doW (rlM (rlA mg)) (rlG (rlA mg)) mc mt mf wt (AuV.mk st id rq d ct tm nk) e 0 0 (D.l []) 0 0 (D.l []) tk))) (AuV.tm (DoneV.a (doW (rlM (rlA mg)) (rlG (rlA mg)) mc mt mf wt (AuV.mk st id rq d ct tm nk) e 0 0 (D.l []) 0 0 (D.l []) tk))) (AuV.nk (DoneV.a (doW (rlM (rlA mg)) (rlG (rlA mg)) mc mt mf wt (AuV.mk st id rq d ct tm nk) e 0 0 (D.l []) 0 0 (D.l []) tk))) mg pr mu pe ne tk (D.app (D.l []) (DoneV.out (doW (rlM (rlA mg)) (rlG (rlA mg)) mc mt mf wt (AuV.mk st id rq d ct tm nk) e 0 0 (D.l []) 0 0 (D.l []) tk))) (D.app (D.l []) (DoneV.did (doW (rlM (rlA mg)) (rlG (rlA mg)) mc mt mf wt (AuV.mk st id rq d ct tm nk) e 0 0 (D.l []) 0 0 (D.l []) tk)))) 0)),zi (WkV.pr (flwW (WkV.mk mru mc mt mf wt ec lo (AuV.st (DoneV.a (doW (rlM (rlA mg)) (rlG (rlA mg)) mc mt mf wt (AuV.mk st id rq d ct tm nk) e 0 0 (D.l []) 0 0 (D.l []) tk))) (AuV.id (DoneV.a (doW (rlM (rlA mg)) (rlG (rlA mg)) mc mt mf wt (AuV.mk st id rq d ct tm nk) e 0 0 (D.l []) 0 0 (D.l []) tk))) (AuV.rq (DoneV.a (doW (rlM (rlA mg)) (rlG (rlA mg)) mc mt mf wt (AuV.mk st id rq d ct tm nk) e 0 0 (D.l []) 0 0 (D.l []) tk))) (AuV.d (DoneV.a (doW (rlM (rlA mg)) (rlG (rlA mg)) mc mt mf wt (AuV.mk st id rq d ct tm nk) e 0 0 (D.l []) 0 0 (D.l []) tk))) (AuV.ct (DoneV.a (doW (rlM (rlA mg)) (rlG (rlA mg)) mc mt mf wt (AuV.mk st id rq d ct tm nk) e 0 0 (D.l []) 0 0 (D.l []) tk))) (AuV.tm (DoneV.a (doW (rlM (rlA mg)) (rlG (rlA mg)) mc mt mf wt (AuV.mk st id rq d ct tm nk) e 0 0 (D.l []) 0 0 (D.l []) tk))) (AuV.nk (DoneV.a (doW (rlM (rlA mg)) (rlG (rlA mg)) mc mt mf wt (AuV.mk st id rq d ct tm nk) e 0 0 (D.l []) 0 0 (D.l []) tk))) mg pr mu pe ne tk (D.app (D.l []) (DoneV.out (doW (rlM (rlA mg)) (rlG (rlA mg)) mc mt mf wt (AuV.mk st id rq d ct tm nk) e 0 0 (D.l []) 0 0 (D.l []) tk))) (D.app (D.l []) (DoneV.did (doW (rlM (rlA mg)) (rlG (rlA mg)) mc mt mf wt (AuV.mk st id rq d ct tm nk) e 0 0 (D.l []) 0 0 (D.l []) tk)))) 0)),zi (WkV.mu (flwW (WkV.mk mru mc mt mf wt ec lo (AuV.st (DoneV.a (doW (rlM (rlA mg)) (rlG (rlA mg)) mc mt mf wt (AuV.mk st id rq d ct tm nk) e 0 0 (D.l []) 0 0 (D.l []) tk))) (AuV.id (DoneV.a (doW (rlM (rlA mg)) (rlG (rlA mg)) mc mt mf wt (AuV.mk st id rq d ct tm nk) e 0 0 (D.l []) 0 0 (D.l []) tk))) (AuV.rq (DoneV.a (doW (rlM (rlA mg)) (rlG (rlA mg)) mc mt mf wt (AuV.mk st id rq d ct tm nk) e 0 0 (D.l []) 0 0 (D.l []) tk))) (AuV.d (DoneV.a (doW (rlM (rlA mg)) (rlG (rlA mg)) mc mt mf wt (AuV.mk st id rq d ct tm nk) e 0 0 (D.l []) 0 0 (D.l []) tk))) (AuV.ct (DoneV.a (doW (rlM (rlA mg)) (rlG (rlA mg)) mc mt mf wt (AuV.mk st id rq d ct tm nk) e 0 0 (D.l []) 0 0 (D.l []) tk))) (AuV.tm (DoneV.a (doW (rlM (rlA mg)) (rlG (rlA mg)) mc mt mf wt (AuV.mk st id rq d ct tm nk) e 0 0 (D.l []) 0 0 (D.l []) tk))) (AuV.nk (DoneV.a (doW (rlM (rlA mg)) (rlG (rlA mg)) mc mt mf wt (AuV.mk st id rq d ct tm nk) e 0 0 (D.l []) 0 0 (D.l []) tk))) mg pr mu pe ne tk (D.app (D.l []) (DoneV.out (doW (rlM (rlA mg)) (rlG (rlA mg)) mc mt mf wt (AuV.mk st id rq d ct tm nk) e 0 0 (D.l []) 0 0 (D.l []) tk))) (D.app (D.l []) (DoneV.did (doW (rlM (rlA mg)) (rlG (rlA mg)) mc mt mf wt (AuV.mk st id rq d ct tm nk) e 0 0 (D.l []) 0 0 (D.l []) tk)))) 0)),zi (WkV.pe (flwW (WkV.mk mru mc mt mf wt ec lo (AuV.st (DoneV.a (doW (rlM (rlA mg)) (rlG (rlA mg)) mc mt mf wt (AuV.mk st id rq d ct tm nk) e 0 0 (D.l []) 0 0 (D.l []) tk))) (AuV.id (DoneV.a (doW (rlM (rlA mg)) (rlG (rlA mg)) mc mt mf wt (AuV.mk st id rq d ct tm nk) e 0 0 (D.l []) 0 0 (D.l []) tk))) (AuV.rq (DoneV.a (doW (rlM (rlA mg)) (rlG (rlA mg)) mc mt mf wt (AuV.mk st id rq d ct tm nk) e 0 0 (D.l []) 0 0 (D.l []) tk))) (AuV.d (DoneV.a (doW (rlM (rlA mg)) (rlG (rlA mg)) mc mt mf wt (AuV.mk st id rq d ct tm nk) e 0 0 (D.l []) 0 0 (D.l []) tk))) (AuV.ct (DoneV.a (doW (rlM (rlA mg)) (rlG (rlA mg)) mc mt mf wt (AuV.mk st id rq d ct tm nk) e 0 0 (D.l []) 0 0 (D.l []) tk))) (AuV.tm (DoneV.a (doW (rlM (rlA mg)) (rlG (rlA mg)) mc mt mf wt (AuV.mk st id rq d ct tm nk) e 0 0 (D.l []) 0 0 (D.l []) tk))) (AuV.nk (DoneV.a (doW (rlM (rlA mg)) (rlG (rlA mg)) mc mt mf wt (AuV.mk st id rq d ct tm nk) e 0 0 (D.l []) 0 0 (D.l []) tk))) mg pr mu pe ne tk (D.app (D.l []) (DoneV.out (doW (rlM (rlA mg)) (rlG (rlA mg)) mc mt mf wt (AuV.mk st id rq d ct tm nk) e 0 0 (D.l []) 0 0 (D.l []) tk))) (D.app (D.l []) (DoneV.did (doW (rlM (rlA mg)) (rlG (rlA mg)) mc mt mf wt (AuV.mk st id rq d ct tm nk) e 0 0 (D.l []) 0 0 (D.l []) tk)))) 0)),zi (WkV.ne (flwW (WkV.mk mru mc mt mf wt ec lo (AuV.st (DoneV.a (doW (rlM (rlA mg)) (rlG (rlA mg)) mc mt mf wt (AuV.mk st id rq d ct tm nk) e 0 0 (D.l []) 0 0 (D.l []) tk))) (AuV.id (DoneV.a (doW (rlM (rlA mg)) (rlG (rlA mg)) mc mt mf wt (AuV.mk st id rq d ct tm nk) e 0 0 (D.l []) 0 0 (D.l []) tk))) (AuV.rq (DoneV.a (doW (rlM (rlA mg)) (rlG (rlA mg)) mc mt mf wt (AuV.mk st id rq d ct tm nk) e 0 0 (D.l []) 0 0 (D.l []) tk))) (AuV.d (DoneV.a (doW (rlM (rlA mg)) (rlG (rlA mg)) mc mt mf wt (AuV.mk st id rq d ct tm nk) e 0 0 (D.l []) 0 0 (D.l []) tk))) (AuV.ct (DoneV.a (doW (rlM (rlA mg)) (rlG (rlA mg)) mc mt mf wt (AuV.mk st id rq d ct tm nk) e 0 0 (D.l []) 0 0 (D.l []) tk))) (AuV.tm (DoneV.a (doW (rlM (rlA mg)) (rlG (rlA mg)) mc mt mf wt (AuV.mk st id rq d ct tm nk) e 0 0 (D.l []) 0 0 (D.l []) tk))) (AuV.nk (DoneV.a (doW (rlM (rlA mg)) (rlG (rlA mg)) mc mt mf wt (AuV.mk st id rq d ct tm nk) e 0 0 (D.l []) 0 0 (D.l []) tk))) mg pr mu pe ne tk (D.app (D.l []) (DoneV.out (doW (rlM (rlA mg)) (rlG (rlA mg)) mc mt mf wt (AuV.mk st id rq d ct tm nk) e 0 0 (D.l []) 0 0 (D.l []) tk))) (D.app (D.l []) (DoneV.did (doW (rlM (rlA mg)) (rlG (rlA mg)) mc mt mf wt (AuV.mk st id rq d ct tm nk) e 0 0 (D.l []) 0 0 (D.l []) tk)))) 0))],zs zC (WkV.out (flwW (WkV.mk mru mc mt mf wt ec lo (AuV.st (DoneV.a (doW (rlM (rlA mg)) (rlG (rlA mg)) mc mt mf wt (AuV.mk st id rq d ct tm nk) e 0 0 (D.l []) 0 0 (D.l []) tk))) (AuV.id (DoneV.a (doW (rlM (rlA mg)) (rlG (rlA mg)) mc mt mf wt (AuV.mk st id rq d ct tm nk) e 0 0 (D.l []) 0 0 (D.l []) tk))) (AuV.rq (DoneV.a (doW (rlM (rlA mg)) (rlG (rlA mg)) mc mt mf wt (AuV.mk st id rq d ct tm nk) e 0 0 (D.l []) 0 0 (D.l []) tk))) (AuV.d (DoneV.a (doW (rlM (rlA mg)) (rlG (rlA mg)) mc mt mf wt (AuV.mk st id rq d ct tm nk) e 0 0 (D.l []) 0 0 (D.l []) tk))) (AuV.ct (DoneV.a (doW (rlM (rlA mg)) (rlG (rlA mg)) mc mt mf wt (AuV.mk st id rq d ct tm nk) e 0 0 (D.l []) 0 0 (D.l []) tk))) (AuV.tm (DoneV.a (doW (rlM (rlA mg)) (rlG (rlA mg)) mc mt mf wt (AuV.mk st id rq d ct tm nk) e 0 0 (D.l []) 0 0 (D.l []) tk))) (AuV.nk (DoneV.a (doW (rlM (rlA mg)) (rlG (rlA mg)) mc mt mf wt (AuV.mk st id rq d ct tm nk) e 0 0 (D.l []) 0 0 (D.l []) tk))) mg pr mu pe ne tk (D.app (D.l []) (DoneV.out (doW (rlM (rlA mg)) (rlG (rlA mg)) mc mt mf wt (AuV.mk st id rq d ct tm nk) e 0 0 (D.l []) 0 0 (D.l []) tk))) (D.app (D.l []) (DoneV.did (doW (rlM (rlA mg)) (rlG (rlA mg)) mc mt mf wt (AuV.mk st id rq d ct tm nk) e 0 0 (D.l []) 0 0 (D.l []) tk)))) 0)),zs zN (WkV.did (flwW (WkV.mk mru mc mt mf wt ec lo (AuV.st (DoneV.a (doW (rlM (rlA mg)) (rlG (rlA mg)) mc mt mf wt (AuV.mk st id rq d ct tm nk) e 0 0 (D.l []) 0 0 (D.l []) tk))) (AuV.id (DoneV.a (doW (rlM (rlA mg)) (rlG (rlA mg)) mc mt mf wt (AuV.mk st id rq d ct tm nk) e 0 0 (D.l []) 0 0 (D.l []) tk))) (AuV.rq (DoneV.a (doW (rlM (rlA mg)) (rlG (rlA mg)) mc mt mf wt (AuV.mk st id rq d ct tm nk) e 0 0 (D.l []) 0 0 (D.l []) tk))) (AuV.d (DoneV.a (doW (rlM (rlA mg)) (rlG (rlA mg)) mc mt mf wt (AuV.mk st id rq d ct tm nk) e 0 0 (D.l []) 0 0 (D.l []) tk))) (AuV.ct (DoneV.a (doW (rlM (rlA mg)) (rlG (rlA mg)) mc mt mf wt (AuV.mk st id rq d ct tm nk) e 0 0 (D.l []) 0 0 (D.l []) tk))) (AuV.tm (DoneV.a (doW (rlM (rlA mg)) (rlG (rlA mg)) mc mt mf wt (AuV.mk st id rq d ct tm nk) e 0 0 (D.l []) 0 0 (D.l []) tk))) (AuV.nk (DoneV.a (doW (rlM (rlA mg)) (rlG (rlA mg)) mc mt mf wt (AuV.mk st id rq d ct tm nk) e 0 0 (D.l []) 0 0 (D.l []) tk))) mg pr mu pe ne tk (D.app (D.l []) (DoneV.out (doW (rlM (rlA mg)) (rlG (rlA mg)) mc mt mf wt (AuV.mk st id rq d ct tm nk) e 0 0 (D.l []) 0 0 (D.l []) tk))) (D.app (D.l []) (DoneV.did (doW (rlM (rlA mg)) (rlG (rlA mg)) mc mt mf wt (AuV.mk st id rq d ct tm nk) e 0 0 (D.l []) 0 0 (D.l []) tk)))) 0))])) (RT.bad 299)) (RT.bad 274))) (ldo_treeT_1 st id rq ct tm nk mg pr mu pe ne d)))
theorem ldo_tree (mru mc mt mf wt ec lo st id rq ct tm nk mg pr mu pe ne:Int) (d:D) (e tk:Int):treeF (evF Tryz.prog (gam (lcpG Tryz.prog)) (lam ([])) 100 50) [cnfA mru mc mt mf wt ec lo,lcpA st id rq d ct tm nk mg pr mu pe ne,ai e,ai tk]=ldo_treeT mru mc mt mf wt ec lo st id rq ct tm nk mg pr mu pe ne d e tk:=by rw [← fvF_eq Tryz.prog (gam (lcpG Tryz.prog)) (lam ([])) false 100 50]; kernel_rfl
theorem evt_tree (e:Int):treeF (evF Tryz.prog (gam ([])) (lam ([])) 100 88) [.sl true acS (.l [.t [.ki 1],.t [.ki 2],.t [.ki 3],.t [.ki 4]]) none,ai e] =
RT.br (e==1) (RT.ok (AV.sc true (Value.bool true))) (RT.br (e==2) (RT.ok (AV.sc true (Value.bool true))) (RT.br (e==3) (RT.ok (AV.sc true (Value.bool true))) (RT.br (e==4) (RT.ok (AV.sc true (Value.bool true))) (RT.ok (AV.sc true (Value.bool false)))))):=by rw [← fvF_eq Tryz.prog (gam ([])) (lam ([])) false 100 88]; kernel_rfl
theorem app_lenS {a b:D} (h:a.len+b.len≤maxLen):(D.app a b).len=a.len+b.len:=by
  have e:(D.app a b).toL=a.toL ++ b.toL:=toL_l (by rw [List.length_append]; exact h)
  unfold D.len
  rw [e,List.length_append]
theorem app_get_r {a b:D} (h:a.len+b.len≤maxLen) (i:Nat):(D.app a b).get (a.len+i)=b.get i:=by
  have e:(D.app a b).toL=a.toL ++ b.toL:=toL_l (by rw [List.length_append]; exact h)
  unfold D.get
  rw [e,List.getD_eq_getElem?_getD,List.getD_eq_getElem?_getD,List.getElem?_append_right (by unfold D.len; omega)]
  congr 2
  unfold D.len; omega
theorem flP_eq {x y:D} {pe:Int}:∀ n,(∀ i,i<n→acI x i=acI y i)→flP x pe n=flP y pe n
  | 0,_=>rfl
  | n+1,h=>by
    show (bif acI x n==1||acI x n==2 then 0 else flP x pe n)=(bif acI y n==1||acI y n==2 then 0 else flP y pe n)
    rw [h n (by omega),flP_eq n fun i hi=>h i (by omega)]
theorem flN_eq {x y:D} {ec tk ne:Int}:∀ n,(∀ i,i<n→acI x i=acI y i)→flN x ec tk ne n=flN y ec tk ne n
  | 0,_=>rfl
  | n+1,h=>by
    show (bif acI x n==1 then (bif decide (0<ec) then IntKind.wrap .i64 (tk+ec) else 0) else bif acI x n==2 then 0 else flN x ec tk ne n)=(bif acI y n==1 then (bif decide (0<ec) then IntKind.wrap .i64 (tk+ec) else 0) else bif acI y n==2 then 0 else flN y ec tk ne n)
    rw [h n (by omega),flN_eq n fun i hi=>h i (by omega)]
theorem fol_w (w:WkV) (r:DoneV) (h:w.did.len+r.did.len≤maxLen):flwW { w with st:=r.a.st,id:=r.a.id,rq:=r.a.rq,d:=r.a.d,ct:=r.a.ct,tm:=r.a.tm,nk:=r.a.nk,out:=D.app w.out r.out,did:=D.app w.did r.did } (w.did.len:Int)=folW w r:=by
  have hl:=app_lenS h
  have e1:((D.app w.did r.did).sub w.did.len (D.app w.did r.did).len).len=r.did.len:=by rw [sub_len (by omega) (Nat.le_refl _)]; omega
  have e2:∀ i,i<r.did.len→acI ((D.app w.did r.did).sub w.did.len (D.app w.did r.did).len) i=acI r.did i:=fun i hi=>by
    unfold acI
    rw [sub_get (by omega),app_get_r h]
  unfold flwW folW
  simp only [Int.toNat_natCast]
  rw [e1,flP_eq _ e2,flN_eq _ e2]
theorem isEv_le {d:D} (h:isEv d=true) {kn kn':Bool}:Le (.sl kn acS d none) (.sl kn' acS (.l [.t [.ki 1],.t [.ki 2],.t [.ki 3],.t [.ki 4]]) none):=by
  unfold isEv at h
  split at h
  · rename_i hd
    exact le_raw hd
  · cases h
theorem evt_soundF:SoundF Tryz.prog 88 (pureS Tryz.prog 88 FEvt):=by
  refine pure_by (gs:=[]) (ls:=[]) mixed trivial trivial 88 100 fun args K ho H=>?_
  unfold FEvt at H
  split at H
  · rename_i d e
    cases hd:isEv d
    · rw [hd] at H; exact H.elim
    rw [hd] at H
    refine ⟨_,leL_cons (isEv_le (kn':=true) hd) fun _ _ h=>h,?_⟩
    rw [evt_tree]
    have go:∀ b,evB e=b→∃ y,Le (ab b) y∧K y:=by rintro b rfl; exact ⟨_,Le.refl _,H⟩
    have go':∀ b,evB e=b→∃ y,Le (.sc true (.bool b)) y∧K y:=fun b h=>by
      obtain ⟨y,h1,h2⟩:=go b h
      exact ⟨y,fun E v hv=>h1 E v (le_bool rfl E v hv),h2⟩
    refine ⟨fun h1=>go' _ ?_,fun h1=>⟨fun h2=>go' _ ?_,fun h2=>⟨fun h3=>go' _ ?_,fun h3=>⟨fun h4=>go' _ ?_,fun h4=>go' _ ?_⟩⟩⟩⟩
    all_goals unfold evB
    all_goals simp only [beq_iff_eq,beq_eq_false_iff_ne] at *
    all_goals first | (rw [decide_eq_true_eq]; omega) | (rw [decide_eq_false_iff_not]; omega)
  · exact H.elim
theorem lcpG_ok:GamL Tryz.prog (lcpG Tryz.prog):=⟨lcheck_soundF,own_soundF,auA_soundF,doR_of do_soundF,objT_ok flw_soundF,evt_soundF,trivial⟩
theorem FLdo_inv {args:List AV} {K:AV→Prop} (H:(FLdo args).holds K):∃ (mru mc mt mf wt ec lo st id rq ct tm nk mg pr mu pe ne:Int) (d:D) (e tk:Int),args=[cnfA mru mc mt mf wt ec lo,lcpA st id rq d ct tm nk mg pr mu pe ne,ai e,ai tk]∧optsB d=true∧K (wkA (ldoW ⟨mru,mc,mt,mf,wt,ec,lo,st,id,rq,d,ct,tm,nk,mg,pr,mu,pe,ne,tk,.l [],.l []⟩ e)):=by
  unfold FLdo at H
  split at H
  · rename_i v0 v1 v2 v3 v4 v5 v6 v7 v8 v9 v10 v11 v12 v13 v14 v15 v16 v17 v18 v19 v20 hd
    obtain ⟨hc,H⟩:=need_holds H
    have:=cdAL_ok _ _ _ hd []
    exact ⟨v0.toI,v1.toI,v2.toI,v3.toI,v4.toI,v5.toI,v6.toI,v7.toI,v8.toI,v9.toI,v11.toI,v12.toI,v13.toI,v14.toI,v15.toI,v16.toI,v17.toI,v18.toI,v10,v19.toI,v20.toI,(congrArg Prod.fst this).symm,hc,H⟩
  · exact H.elim
theorem ldo_soundF:SoundF Tryz.prog 50 (pureS Tryz.prog 50 FLdo):=by
  refine pure_in (gs:=lcpG Tryz.prog) (ls:=[]) mixed lcpG_ok trivial 50 100 fun args K ho H=>?_
  obtain ⟨mru,mc,mt,mf,wt,ec,lo,st,id,rq,ct,tm,nk,mg,pr,mu,pe,ne,d,e,tk,hr,hb,H⟩:=FLdo_inv H
  rw [hr,ldo_tree]
  unfold ldo_treeT ldo_treeT_1
  have A:∀ b v,(evB e&&onB ⟨mru,mc,mt,mf,wt,ec,lo,st,id,rq,d,ct,tm,nk,mg,pr,mu,pe,ne,tk,.l [],.l []⟩)=b→(bif b then evW ⟨mru,mc,mt,mf,wt,ec,lo,st,id,rq,d,ct,tm,nk,mg,pr,mu,pe,ne,tk,.l [],.l []⟩ (rlA mg) e 0 0 (.l []) 0 0 (.l []) else ⟨mru,mc,mt,mf,wt,ec,lo,st,id,rq,d,ct,tm,nk,mg,pr,mu,pe,ne,tk,.l [],.l []⟩)=v→K (wkA v):=by
    rintro b v rfl rfl; exact H
  clear H
  unfold evW evR onB lisW at A
  dsimp only at A
  obtain ⟨f1,f2,f3⟩:=doW_fit (m:=rlM (rlA mg)) (g:=rlG (rlA mg)) (mc:=mc) (mt:=mt) (mf:=mf) (wt:=wt) (a:=⟨st,id,rq,d,ct,tm,nk⟩) (e:=e) (ic:=0) (ii:=0) (ix:=.l []) (ac:=0) (ax:=0) (ad:=.l []) (tk:=tk)
  rw [errIf_nz (by decide)]
  generalize doW (rlM (rlA mg)) (rlG (rlA mg)) mc mt mf wt ⟨st,id,rq,d,ct,tm,nk⟩ e 0 0 (.l []) 0 0 (.l []) tk=r at A f1 f2 f3 ⊢
  have f3:r.a.d=d:=f3
  have off:(evB e&&(lisB mru mc mt mf wt ec lo st id rq d ct tm nk mg pr mu pe ne&&(decide (0≤tk)&&decide (tk≤1099511627776))))=false→∃ y,Le (.tup [.agg [ai st,ai id,ai rq,asl opS d,ai ct,ai tm,ai nk,ai mg,ai pr,ai mu,ai pe,ai ne],.sc true (.slice none 0 0),.sc true (.slice none 0 0)]) y∧K y:=fun h =>
    ⟨_,le_two' (Le.refl _) (le_nil rfl) (le_nil rfl),A _ _ h rfl⟩
  refine ⟨fun h1=>off ?_,fun h1=>⟨fun h2=>off ?_,fun h2=>⟨fun h3=>⟨fun h4=>off ?_,fun h4=>holds_t (holds_t_of ?_ ⟨_,Le.refl _,A true _ ?_ (fol_w ⟨mru,mc,mt,mf,wt,ec,lo,st,id,rq,d,ct,tm,nk,mg,pr,mu,pe,ne,tk,.l [],.l []⟩ r ?_).symm⟩)⟩,fun h3=>off ?_⟩⟩⟩
  all_goals simp only [Bool.not_eq_true',Bool.not_eq_false'] at *
  · rw [h1]; rfl
  · rw [h2,Bool.false_and,Bool.and_false]
  · rw [h4,Bool.and_false,Bool.and_false,Bool.and_false]
  · unfold flwN
    dsimp only
    rw [f3,hb,Bool.and_true]
    exact det ⟨Int.le_refl _,Int.natCast_nonneg _⟩
  · rw [h1,h2,h3,h4]; rfl
  · show 0+r.did.len≤maxLen
    unfold maxLen; omega
  · rw [h3,Bool.false_and,Bool.and_false,Bool.and_false]
def FTmoR:List AV→RT AV
  | [.agg [.sl false [.int .i64,.int .i64,.int .i64,.int .i64,.int .i64,.int .i64,.bool] r none,.sc false (.int .i64 mc),.sc false (.int .i64 mt),.sc false (.int .i64 mf),.sc false (.int .i64 wt)],
     .agg [.sc false (.int .i64 st),.sc false (.int .i64 id),.sc false (.int .i64 rq),.sl false [.int .i64,.sl [.int .u8]] d none,.sc false (.int .i64 ct),.sc false (.int .i64 tm),.sc false (.int .i64 nk)],.sc false (.int .i64 tk)]=>need false (isRl r) 275 (.ok (doneA (tmW (rlM r) (rlG r) mc mt mf wt ⟨st,id,rq,d,ct,tm,nk⟩ tk)))
  | _=>.bad 275
def ltkG (P:Program):List (FuncId×Spec):=(57,pureS P 57 FTmoR) :: (38,vecS P 38 5 byS FPutV) :: lcpG P
def ltkL:List (FuncId×Nat×BSpec):=[(58,2003,cutX)]
def tmR (w:WkV):DoneV:=tmW (rlM (rlA w.mg)) (rlG (rlA w.mg)) w.mc w.mt w.mf w.wt ⟨w.st,w.id,w.rq,w.d,w.ct,w.tm,w.nk⟩ w.tick
def ecE (i m:Int):D:=.t [.ki 9,.i i,.kl [.i (byI m 4 0),.i (byI m 4 1),.i (byI m 4 2),.i (byI m 4 3)]]
def ecoW (w:WkV):WkV:={ w with id:=numN w.id,pe:=IntKind.wrap .i64 (w.pe+1),ne:=IntKind.wrap .i64 (w.tick+w.ec),out:=D.app w.out (.l [ecE (numN w.id) (IntKind.wrap .u64 w.mg)]) }
def endW (w:WkV):WkV:=evW (evW w (rlA w.mg) 2 0 0 (.l []) 0 0 (.l [])) (rlA (evW w (rlA w.mg) 2 0 0 (.l []) 0 0 (.l [])).mg) 4 0 0 (.l []) 0 0 (.l [])
def tik1 (w:WkV):WkV:=bif w.st==9&&(w.ne != 0&&decide (w.ne≤w.tick)) then (bif decide (w.lo≤w.pe) then endW w else ecoW w) else w
def tikW (w:WkV):WkV:=bif onB w then tik1 (folW w (tmR w)) else w
def tikCd:List Cd:=[.agg [.int .i64,.int .i64,.int .i64,.int .i64,.int .i64,.int .i64,.int .i64],.agg [.int .i64,.int .i64,.int .i64,.sl opS,.int .i64,.int .i64,.int .i64,.int .i64,.int .i64,.int .i64,.int .i64,.int .i64],.int .i64]
def FLtk (args:List AV):RT AV:=match cdAL tikCd args with
  | some [v0,v1,v2,v3,v4,v5,v6,v7,v8,v9,v10,v11,v12,v13,v14,v15,v16,v17,v18,v19]=>need false (optsB v10) 309 (.ok (wkA (tikW ⟨v0.toI,v1.toI,v2.toI,v3.toI,v4.toI,v5.toI,v6.toI,v7.toI,v8.toI,v9.toI,v10,v11.toI,v12.toI,v13.toI,v14.toI,v15.toI,v16.toI,v17.toI,v18.toI,v19.toI,.l [],.l []⟩)))
  | _=>.bad 309
theorem ltkL_ok:LamL Tryz.prog ltkL:=⟨cutX_ok,trivial⟩
abbrev ltk_treeT_1 (st id rq:Int) (d:D) (ct tm nk mg pr mu pe ne:Int):=RT.ok (AV.tup [AV.agg [zi st,zi id,zi rq,zs zO d,zi ct,zi tm,zi nk,zi mg,zi pr,zi mu,zi pe,zi ne],zz,zz])
def ltk_treeT (mru mc mt mf wt ec lo st id rq:Int) (d:D) (ct tm nk mg pr mu pe ne tk:Int):RT AV :=
let w_0:=tmW (rlM (rlA mg)) (rlG (rlA mg)) mc mt mf wt (AuV.mk st id rq d ct tm nk) tk; let w_1:=flwW (WkV.mk mru mc mt mf wt ec lo w_0.a.st w_0.a.id w_0.a.rq w_0.a.d w_0.a.ct w_0.a.tm w_0.a.nk mg pr mu pe ne tk (D.app (D.l []) w_0.out) (D.app (D.l []) w_0.did)) 0; let w_2:=doW (rlM (rlA w_1.mg)) (rlG (rlA w_1.mg)) w_1.mc w_1.mt w_1.mf w_1.wt (AuV.mk w_1.st w_1.id w_1.rq w_1.d w_1.ct w_1.tm w_1.nk) 2 0 0 (D.l []) 0 0 (D.l []) w_1.tick; let w_3:=flwW (WkV.mk w_1.mru w_1.mc w_1.mt w_1.mf w_1.wt w_1.ec w_1.lo w_2.a.st w_2.a.id w_2.a.rq w_2.a.d w_2.a.ct w_2.a.tm w_2.a.nk w_1.mg w_1.pr w_1.mu w_1.pe w_1.ne w_1.tick (D.app w_1.out w_2.out) (D.app w_1.did w_2.did)) (↑(D.len w_1.did):Int); let w_4:=doW (rlM (rlA w_3.mg)) (rlG (rlA w_3.mg)) w_3.mc w_3.mt w_3.mf w_3.wt (AuV.mk w_3.st w_3.id w_3.rq w_3.d w_3.ct w_3.tm w_3.nk) 4 0 0 (D.l []) 0 0 (D.l []) w_3.tick; let w_5:=flwW (WkV.mk w_3.mru w_3.mc w_3.mt w_3.mf w_3.wt w_3.ec w_3.lo w_4.a.st w_4.a.id w_4.a.rq w_4.a.d w_4.a.ct w_4.a.tm w_4.a.nk w_3.mg w_3.pr w_3.mu w_3.pe w_3.ne w_3.tick (D.app w_3.out w_4.out) (D.app w_3.did w_4.did)) (↑(D.len w_3.did):Int); RT.br (errIf (lisB mru mc mt mf wt ec lo st id rq d ct tm nk mg pr mu pe ne) 170 != 0) (ltk_treeT_1 st id rq d ct tm nk mg pr mu pe ne) (RT.br (decide (0≤tk)) (RT.br (!decide (tk≤1099511627776)) (ltk_treeT_1 st id rq d ct tm nk mg pr mu pe ne) (RT.br true (RT.br (flwN (WkV.mk mru mc mt mf wt ec lo w_0.a.st w_0.a.id w_0.a.rq w_0.a.d w_0.a.ct w_0.a.tm w_0.a.nk mg pr mu pe ne tk (D.app (D.l []) w_0.out) (D.app (D.l []) w_0.did)) 0) (RT.br (WkV.st w_1==9) (RT.br (WkV.ne w_1 != 0) (RT.br (decide (WkV.ne w_1≤tk)) (RT.br (decide (WkV.lo w_1≤WkV.pe w_1)) (RT.br true (RT.br (decide ((D.len w_1.out+D.len w_2.out)*40≤140737488355328)) (RT.br (decide ((D.len w_1.did+D.len w_2.did)*8≤140737488355328)) (RT.br (flwN (WkV.mk w_1.mru w_1.mc w_1.mt w_1.mf w_1.wt w_1.ec w_1.lo w_2.a.st w_2.a.id w_2.a.rq w_2.a.d w_2.a.ct w_2.a.tm w_2.a.nk w_1.mg w_1.pr w_1.mu w_1.pe w_1.ne w_1.tick (D.app w_1.out w_2.out) (D.app w_1.did w_2.did)) (↑(D.len w_1.did):Int)) (RT.br true (RT.br (decide ((D.len w_3.out+D.len w_4.out)*40≤140737488355328)) (RT.br (decide ((D.len w_3.did+D.len w_4.did)*8≤140737488355328)) (RT.br (flwN (WkV.mk w_3.mru w_3.mc w_3.mt w_3.mf w_3.wt w_3.ec w_3.lo w_4.a.st w_4.a.id w_4.a.rq w_4.a.d w_4.a.ct w_4.a.tm w_4.a.nk w_3.mg w_3.pr w_3.mu w_3.pe w_3.ne w_3.tick (D.app w_3.out w_4.out) (D.app w_3.did w_4.did)) (↑(D.len w_3.did):Int)) (RT.ok (AV.tup [AV.agg [zi w_5.st,zi w_5.id,zi w_5.rq,zs zO w_5.d,zi w_5.ct,zi w_5.tm,zi w_5.nk,zi w_5.mg,zi w_5.pr,zi w_5.mu,zi w_5.pe,zi w_5.ne],zs zC w_5.out,zs zN w_5.did])) (RT.bad 299)) (RT.bad 70)) (RT.bad 70)) (RT.bad 274)) (RT.bad 299)) (RT.bad 70)) (RT.bad 70)) (RT.bad 274)) (RT.all (RT.br true (RT.br (decide ((0≤IntKind.wrap IntKind.u64 w_1.mg∧IntKind.wrap IntKind.u64 w_1.mg<18446744073709551616)∧(1:Int)≤4∧(4:Int)≤8)) (RT.br (decide ((D.len w_1.out+1)*40≤140737488355328)) (RT.ok (AV.tup [AV.agg [zi w_1.st,zi (Int.tmod (IntKind.wrap IntKind.i64 (WkV.id w_1+1)) 256),zi w_1.rq,zs zO w_1.d,zi w_1.ct,zi w_1.tm,zi w_1.nk,zi w_1.mg,zi w_1.pr,zi w_1.mu,zi (IntKind.wrap IntKind.i64 (WkV.pe w_1+1)),zi (IntKind.wrap IntKind.i64 (WkV.tick w_1+WkV.ec w_1))],zs zC (D.app w_1.out (D.l [D.t [D.ki 9,D.i (Int.tmod (IntKind.wrap IntKind.i64 (WkV.id w_1+1)) 256),D.kl [D.i (byI (IntKind.wrap IntKind.u64 w_1.mg) 4 0),D.i (byI (IntKind.wrap IntKind.u64 w_1.mg) 4 1),D.i (byI (IntKind.wrap IntKind.u64 w_1.mg) 4 2),D.i (byI (IntKind.wrap IntKind.u64 w_1.mg) 4 3)]]])),zs zN w_1.did])) (RT.bad 70)) (RT.bad 240)) (RT.bad 21)) (RT.br true (RT.all (RT.br (decide ((0≤IntKind.wrap IntKind.u64 w_1.mg∧IntKind.wrap IntKind.u64 w_1.mg<18446744073709551616)∧(1:Int)≤4∧(4:Int)≤8)) (RT.br (decide ((D.len w_1.out+1)*40≤140737488355328)) (RT.ok (AV.tup [AV.agg [zi w_1.st,zi (Int.tmod (IntKind.wrap IntKind.i64 (WkV.id w_1+1)) 256),zi w_1.rq,zs zO w_1.d,zi w_1.ct,zi w_1.tm,zi w_1.nk,zi w_1.mg,zi w_1.pr,zi w_1.mu,zi (IntKind.wrap IntKind.i64 (WkV.pe w_1+1)),zi (IntKind.wrap IntKind.i64 (WkV.tick w_1+WkV.ec w_1))],zs zC (D.app w_1.out (D.l [D.t [D.ki 9,D.i (Int.tmod (IntKind.wrap IntKind.i64 (WkV.id w_1+1)) 256),D.kl [D.i (byI (IntKind.wrap IntKind.u64 w_1.mg) 4 0),D.i (byI (IntKind.wrap IntKind.u64 w_1.mg) 4 1),D.i (byI (IntKind.wrap IntKind.u64 w_1.mg) 4 2),D.i (byI (IntKind.wrap IntKind.u64 w_1.mg) 4 3)]]])),zs zN w_1.did])) (RT.bad 70)) (RT.bad 240)) (RT.br (decide ((0≤IntKind.wrap IntKind.u64 w_1.mg∧IntKind.wrap IntKind.u64 w_1.mg<18446744073709551616)∧(1:Int)≤4∧(4:Int)≤8)) (RT.all (RT.br (decide ((D.len w_1.out+1)*40≤140737488355328)) (RT.ok (AV.tup [AV.agg [zi w_1.st,zi (Int.tmod (IntKind.wrap IntKind.i64 (WkV.id w_1+1)) 256),zi w_1.rq,zs zO w_1.d,zi w_1.ct,zi w_1.tm,zi w_1.nk,zi w_1.mg,zi w_1.pr,zi w_1.mu,zi (IntKind.wrap IntKind.i64 (WkV.pe w_1+1)),zi (IntKind.wrap IntKind.i64 (WkV.tick w_1+WkV.ec w_1))],zs zC (D.app w_1.out (D.l [D.t [D.ki 9,D.i (Int.tmod (IntKind.wrap IntKind.i64 (WkV.id w_1+1)) 256),D.kl [D.i (byI (IntKind.wrap IntKind.u64 w_1.mg) 4 0),D.i (byI (IntKind.wrap IntKind.u64 w_1.mg) 4 1),D.i (byI (IntKind.wrap IntKind.u64 w_1.mg) 4 2),D.i (byI (IntKind.wrap IntKind.u64 w_1.mg) 4 3)]]])),zs zN w_1.did])) (RT.bad 70)) (RT.br (decide ((D.len w_1.out+1)*40≤140737488355328)) (RT.ok (AV.tup [AV.agg [zi w_1.st,zi (Int.tmod (IntKind.wrap IntKind.i64 (WkV.id w_1+1)) 256),zi w_1.rq,zs zO w_1.d,zi w_1.ct,zi w_1.tm,zi w_1.nk,zi w_1.mg,zi w_1.pr,zi w_1.mu,zi (IntKind.wrap IntKind.i64 (WkV.pe w_1+1)),zi (IntKind.wrap IntKind.i64 (WkV.tick w_1+WkV.ec w_1))],zs zC (D.app w_1.out (D.l [D.t [D.ki 9,D.i (Int.tmod (IntKind.wrap IntKind.i64 (WkV.id w_1+1)) 256),D.kl [D.i (byI (IntKind.wrap IntKind.u64 w_1.mg) 4 0),D.i (byI (IntKind.wrap IntKind.u64 w_1.mg) 4 1),D.i (byI (IntKind.wrap IntKind.u64 w_1.mg) 4 2),D.i (byI (IntKind.wrap IntKind.u64 w_1.mg) 4 3)]]])),zs zN w_1.did])) (RT.bad 70))) (RT.bad 240))) (RT.bad 21)))) (RT.ok (AV.tup [AV.agg [zi w_1.st,zi w_1.id,zi w_1.rq,zs zO w_1.d,zi w_1.ct,zi w_1.tm,zi w_1.nk,zi w_1.mg,zi w_1.pr,zi w_1.mu,zi w_1.pe,zi w_1.ne],zs zC w_1.out,zs zN w_1.did]))) (RT.ok (AV.tup [AV.agg [zi w_1.st,zi w_1.id,zi w_1.rq,zs zO w_1.d,zi w_1.ct,zi w_1.tm,zi w_1.nk,zi w_1.mg,zi w_1.pr,zi w_1.mu,zi w_1.pe,zi w_1.ne],zs zC w_1.out,zs zN w_1.did]))) (RT.ok (AV.tup [AV.agg [zi w_1.st,zi w_1.id,zi w_1.rq,zs zO w_1.d,zi w_1.ct,zi w_1.tm,zi w_1.nk,zi w_1.mg,zi w_1.pr,zi w_1.mu,zi w_1.pe,zi w_1.ne],zs zC w_1.out,zs zN w_1.did]))) (RT.bad 299)) (RT.bad 275))) (ltk_treeT_1 st id rq d ct tm nk mg pr mu pe ne))
theorem ltk_tree (mru mc mt mf wt ec lo st id rq:Int) (d:D) (ct tm nk mg pr mu pe ne tk:Int):treeF (evF Tryz.prog (gam (ltkG Tryz.prog)) (lam (ltkL)) 100 26) [cnfA mru mc mt mf wt ec lo,lcpA st id rq d ct tm nk mg pr mu pe ne,ai tk]=ltk_treeT mru mc mt mf wt ec lo st id rq d ct tm nk mg pr mu pe ne tk:=by rw [← fvF_eq Tryz.prog (gam (ltkG Tryz.prog)) (lam (ltkL)) false 100 26]; kernel_rfl
theorem tmR_of {f:FuncId} (h:SoundF Tryz.prog f (pureS Tryz.prog f FTmo)):SoundF Tryz.prog f (pureS Tryz.prog f FTmoR):=by
  refine pure_mono h fun args K H=>?_
  unfold FTmoR at H
  split at H
  · rename_i r mc mt mf wt st id rq d ct tm nk tk
    obtain ⟨hc,H⟩:=need_holds H
    unfold isRl at hc
    unfold rlM rlG at H
    unfold FTmo
    cases hr:rlOf r with
    | none=>rw [hr] at hc; cases hc
    | some p=>rw [hr] at H; dsimp only; rw [hr]; exact H
  · exact H.elim
theorem ltkG_ok:GamL Tryz.prog (ltkG Tryz.prog):=⟨tmR_of tmo_soundF,putV_soundF,lcpG_ok⟩
theorem tmW_fit {m g mc mt mf wt:Int} {a:AuV} {tk:Int}:(tmW m g mc mt mf wt a tk).out.len≤3∧(tmW m g mc mt mf wt a tk).did.len≤3∧(tmW m g mc mt mf wt a tk).a.d=a.d:=by
  unfold tmW
  cases (a.tm==0)||decide (tk<a.tm)
  · exact doW_fit
  · exact ⟨Nat.zero_le _,Nat.zero_le _,rfl⟩
theorem nmI_rng {x:D} (hb:bytesB x=true) (hl:x.len=4):0≤nmI x∧nmI x≤4294967295:=by
  have h:∀ j,j<4→0≤byA x j∧byA x j<256:=fun j hj=>bytes_at hb (by omega)
  have h0:=h 0 (by omega)
  have h1:=h 1 (by omega)
  have h2:=h 2 (by omega)
  have h3:=h 3 (by omega)
  unfold nmI
  rw [if_neg (by omega),if_neg (by omega),if_neg (by omega),if_pos hl]
  omega
theorem mgV_rng {d:D} {mg:Int} (hb:optsB d=true) (h:1≤mg∧mg≤4294967295):1≤mgV d mg∧mgV d mg≤4294967295:=by
  unfold mgV
  cases hc:hasT d 5&&((fnD d 5).len==4&&nmI (fnD d 5) != 0)
  · exact h
  · rw [Bool.and_eq_true,Bool.and_eq_true] at hc
    obtain ⟨_,h1,h2⟩:=hc
    have h1:=eq_of_beq h1
    have:=nmI_rng (fnD_by hb) h1
    rw [bne_iff_ne] at h2
    rw [cond_true]
    omega
theorem FLtk_inv {args:List AV} {K:AV→Prop} (H:(FLtk args).holds K):∃ (mru mc mt mf wt ec lo st id rq ct tm nk mg pr mu pe ne:Int) (d:D) (tk:Int),args=[cnfA mru mc mt mf wt ec lo,lcpA st id rq d ct tm nk mg pr mu pe ne,ai tk]∧optsB d=true∧K (wkA (tikW ⟨mru,mc,mt,mf,wt,ec,lo,st,id,rq,d,ct,tm,nk,mg,pr,mu,pe,ne,tk,.l [],.l []⟩)):=by
  unfold FLtk at H
  split at H
  · rename_i v0 v1 v2 v3 v4 v5 v6 v7 v8 v9 v10 v11 v12 v13 v14 v15 v16 v17 v18 v19 hd
    obtain ⟨hc,H⟩:=need_holds H
    have:=cdAL_ok _ _ _ hd []
    exact ⟨v0.toI,v1.toI,v2.toI,v3.toI,v4.toI,v5.toI,v6.toI,v7.toI,v8.toI,v9.toI,v11.toI,v12.toI,v13.toI,v14.toI,v15.toI,v16.toI,v17.toI,v18.toI,v10,v19.toI,(congrArg Prod.fst this).symm,hc,H⟩
  · exact H.elim
theorem ltk_soundF:SoundF Tryz.prog 26 (pureS Tryz.prog 26 FLtk):=by
  refine pure_in (gs:=ltkG Tryz.prog) (ls:=ltkL) mixed ltkG_ok ltkL_ok 26 100 fun args K ho H=>?_
  obtain ⟨mru,mc,mt,mf,wt,ec,lo,st,id,rq,ct,tm,nk,mg,pr,mu,pe,ne,d,tk,hr,hb,H⟩:=FLtk_inv H
  rw [hr,ltk_tree]
  unfold ltk_treeT ltk_treeT_1
  extract_lets w0 w1 w2 w3 w4 w5
  have hw0:w0.out.len≤3∧w0.did.len≤3∧w0.a.d=d:=tmW_fit
  have E1:w1=folW ⟨mru,mc,mt,mf,wt,ec,lo,st,id,rq,d,ct,tm,nk,mg,pr,mu,pe,ne,tk,.l [],.l []⟩ w0:=fol_w ⟨mru,mc,mt,mf,wt,ec,lo,st,id,rq,d,ct,tm,nk,mg,pr,mu,pe,ne,tk,.l [],.l []⟩ w0 (by show 0+w0.did.len≤maxLen; unfold maxLen; omega)
  have A:∀ b v,onB ⟨mru,mc,mt,mf,wt,ec,lo,st,id,rq,d,ct,tm,nk,mg,pr,mu,pe,ne,tk,.l [],.l []⟩=b→(bif b then tik1 w1 else ⟨mru,mc,mt,mf,wt,ec,lo,st,id,rq,d,ct,tm,nk,mg,pr,mu,pe,ne,tk,.l [],.l []⟩)=v→K (wkA v):=by
    rw [E1]; rintro b v rfl rfl; exact H
  clear H
  unfold onB lisW at A
  dsimp only at A
  have d1:w1.d=d:=by rw [E1]; exact hw0.2.2
  have o1:w1.out.len≤3:=by rw [E1]; exact app_fit (by show 0+w0.out.len≤3; omega)
  have i1:w1.did.len≤3:=by rw [E1]; exact app_fit (by show 0+w0.did.len≤3; omega)
  have t1:w1.tick=tk:=by rw [E1]; rfl
  have hw2:w2.out.len≤3∧w2.did.len≤3∧w2.a.d=w1.d:=doW_fit
  have E3:w3=evW w1 (rlA w1.mg) 2 0 0 (.l []) 0 0 (.l []):=fol_w w1 w2 (by unfold maxLen; omega)
  have d3:w3.d=d:=by rw [E3]; exact hw2.2.2.trans d1
  have o3:w3.out.len≤6:=by rw [E3]; exact app_fit (by show w1.out.len+w2.out.len≤6; omega)
  have i3:w3.did.len≤6:=by rw [E3]; exact app_fit (by show w1.did.len+w2.did.len≤6; omega)
  have hw4:w4.out.len≤3∧w4.did.len≤3∧w4.a.d=w3.d:=doW_fit
  have E5:w5=evW w3 (rlA w3.mg) 4 0 0 (.l []) 0 0 (.l []):=fol_w w3 w4 (by unfold maxLen; omega)
  have EE:endW w1=w5:=by unfold endW; rw [← E3,← E5]
  have N:∀ (v:WkV) (n:Nat),v.d=d→n≤v.did.len→flwN v (n:Int)=true:=fun v n h1 h2=>by
    unfold flwN
    rw [h1,hb,Bool.and_true]
    exact det ⟨Int.natCast_nonneg _,Int.ofNat_le.2 h2⟩
  have AL:∀ a b:D,a.len≤(D.app a b).len∨¬ a.len+b.len≤maxLen:=fun a b=>by
    by_cases h:a.len+b.len≤maxLen
    · left; rw [app_lenS h]; omega
    · exact .inr h
  have lisE:∀ b1 b2 b3,lisB mru mc mt mf wt ec lo st id rq d ct tm nk mg pr mu pe ne=b1→decide (0≤tk)=b2→decide (tk≤1099511627776)=b3→(b1&&(b2&&b3))=false→∃ y,Le (.tup [.agg [ai st,ai id,ai rq,asl opS d,ai ct,ai tm,ai nk,ai mg,ai pr,ai mu,ai pe,ai ne],.sc true (.slice none 0 0),.sc true (.slice none 0 0)]) y∧K y:=fun b1 b2 b3 e1 e2 e3 h =>
    ⟨_,le_two' (Le.refl _) (le_nil rfl) (le_nil rfl),A false _ (by rw [e1,e2,e3]; exact h) rfl⟩
  rw [errIf_nz (by decide)]
  refine ⟨fun h1=>lisE false _ _ (by rw [Bool.not_eq_true'] at h1; exact h1) rfl rfl rfl,fun h1=>⟨fun h2=>⟨fun h3=>lisE _ _ false rfl rfl (by rw [Bool.not_eq_true'] at h3; exact h3) (by rw [Bool.and_false,Bool.and_false]),fun h3=>?_⟩,fun h2=>lisE _ false _ rfl h2 rfl (by rw [Bool.false_and,Bool.and_false])⟩⟩
  rw [Bool.not_eq_false'] at h1 h3
  have on:∀ v,tik1 w1=v→K (wkA v):=fun v hv=>A true v (by rw [h1,h2,h3]; rfl) hv
  have l3:∀ v,tik1 w1=v→v=w1→∃ y,Le (wkA w1) y∧K y:=by rintro v hv rfl; exact ⟨_,Le.refl _,on _ hv⟩
  have tk1:decide (w1.ne≤tk)=decide (w1.ne≤w1.tick):=by rw [t1]
  have b0:(D.app (.l []) w0.did).len≤3:=app_fit (by show 0+w0.did.len≤3; omega)
  refine holds_t (holds_t_of (N _ 0 hw0.2.2 (Nat.zero_le _)) ⟨fun h4=>⟨fun h5=>⟨fun h6=>⟨fun h7=>?_,fun h7=>?_⟩,fun h6=>l3 _ ?_ rfl⟩,fun h5=>l3 _ ?_ rfl⟩,fun h4=>l3 _ ?_ rfl⟩)
  · refine holds_t (holds_t_of (det (by omega)) (holds_t_of (det (by omega)) (holds_t_of (N _ w1.did.len (hw2.2.2.trans d1) ?_) (holds_t (holds_t_of (det (by omega)) (holds_t_of (det (by omega)) (holds_t_of (N _ w3.did.len (hw4.2.2.trans d3) ?_) ⟨_,Le.refl _,on w5 ?_⟩)))))))
    · show w1.did.len≤(D.app w1.did w2.did).len
      rw [app_lenS (by unfold maxLen; omega)]; omega
    · show w3.did.len≤(D.app w3.did w4.did).len
      rw [app_lenS (by unfold maxLen; omega)]; omega
    · unfold tik1
      rw [h4,h5,← tk1,h6,h7,EE]; rfl
  · have e:tik1 w1=ecoW w1:=by
      unfold tik1
      rw [h4,h5,← tk1,h6,h7]; rfl
    have hw:IntKind.wrap .u64 w1.mg=w1.mg % 18446744073709551616:=rfl
    have hP:decide ((0≤IntKind.wrap .u64 w1.mg∧IntKind.wrap .u64 w1.mg<18446744073709551616)∧(1:Int)≤4∧(4:Int)≤8)=true:=det ⟨⟨by omega,by omega⟩,by decide,by decide⟩
    have hS:decide ((w1.out.len+1)*40≤140737488355328)=true:=det (by omega)
    rw [hP,hS]
    have L:∃ y,Le (wkA (ecoW w1)) y∧K y:=⟨_,Le.refl _,on _ e⟩
    repeat' first
      | exact L
      | refine holds_t ?_
      | refine ⟨?_,?_⟩
  · unfold tik1; rw [← tk1,h6,Bool.and_false,Bool.and_false]; rfl
  · unfold tik1; rw [h5,Bool.false_and,Bool.and_false]; rfl
  · unfold tik1; rw [h4]; rfl
abbrev nlH (mru mc mt mf wt ec lo st id rq ct tm nk mg pr mu pe ne tick:Int) (d:D):Hp:=⟨[(0,[ai mru,ai mc,ai mt,ai mf,ai wt,ai ec,ai lo,ai st,ai id,ai rq,asl opS d,ai ct,ai tm,ai nk,ai mg,ai pr,ai mu,ai pe,ai ne,ai tick,.sc false (.slice none 0 0),.sc false (.slice none 0 0)])],1,[],0,0,0⟩
abbrev dnH (mru mc mt mf wt ec lo st id rq ct tm nk mg pr mu pe ne tick:Int) (d out did:D):Hp:=⟨[(0,[ai mru,ai mc,ai mt,ai mf,ai wt,ai ec,ai lo,ai st,ai id,ai rq,asl opS d,ai ct,ai tm,ai nk,ai mg,ai pr,ai mu,ai pe,ai ne,ai tick,asl ctS out,asl acS did])],1,[],0,1000,1000⟩
def nlCd:Cs:=⟨0,[],[(0,[.int .i64,.int .i64,.int .i64,.int .i64,.int .i64,.int .i64,.int .i64,.int .i64,.int .i64,.int .i64,.sl opS,.int .i64,.int .i64,.int .i64,.int .i64,.int .i64,.int .i64,.int .i64,.int .i64,.int .i64,.lit (.sc false (.slice none 0 0)),.lit (.sc false (.slice none 0 0))])],1,[],0,0,0⟩
def nlD (h:Hp):Option WkV:=match cdH nlCd h with
  | some [v0,v1,v2,v3,v4,v5,v6,v7,v8,v9,v10,v11,v12,v13,v14,v15,v16,v17,v18,v19]=>some ⟨v0.toI,v1.toI,v2.toI,v3.toI,v4.toI,v5.toI,v6.toI,v7.toI,v8.toI,v9.toI,v10,v11.toI,v12.toI,v13.toI,v14.toI,v15.toI,v16.toI,v17.toI,v18.toI,v19.toI,.l [],.l []⟩
  | _=>none
theorem nlD_ok {h:Hp} {w:WkV} (hd:nlD h=some w):h=nlH w.mru w.mc w.mt w.mf w.wt w.ec w.lo w.st w.id w.rq w.ct w.tm w.nk w.mg w.pr w.mu w.pe w.ne w.tick w.d∧w.out=.l []∧w.did=.l []:=by
  unfold nlD at hd
  split at hd
  · rename_i h1
    cases hd
    exact ⟨(cdS_ok h1).2,rfl,rfl⟩
  · cases hd
def dnW (w:WkV):Hp:=dnH w.mru w.mc w.mt w.mf w.wt w.ec w.lo w.st w.id w.rq w.ct w.tm w.nk w.mg w.pr w.mu w.pe w.ne w.tick w.d w.out w.did
def cnfG (P:Program):List (FuncId×Spec):=[(12,pureS P 12 FAuA),(101,pureS P 101 FPkt),(55,objT flwS),(104,pureS P 104 FDec),(105,pureS P 105 FBrs),(102,pureS P 102 FCnk)]
theorem cnf_tree (mru mc mt mf wt ec lo st id rq ct tm nk mg pr mu pe ne tick:Int) (d:D) (ic ii:Int) (ix:D):treeQ 1 0 (evF Tryz.prog (gam (cnfG Tryz.prog)) (lam []) 100 64) [.ptr 0 0,ctlA ic ii ix] (nlH mru mc mt mf wt ec lo st id rq ct tm nk mg pr mu pe ne tick d) =
let w_0:=pkW (rlA mg) mc mt mf wt (AuV.mk st id rq d ct tm nk) ic ii ix tick; let w_1:=flwW (WkV.mk mru mc mt mf wt ec lo w_0.a.st w_0.a.id w_0.a.rq w_0.a.d w_0.a.ct w_0.a.tm w_0.a.nk mg pr mu pe ne tick (D.app (D.l []) w_0.out) (D.app (D.l []) w_0.did)) 0; RT.all (RT.all (RT.br (pkN (rlA mg) d ix) (RT.br (flwN (WkV.mk mru mc mt mf wt ec lo w_0.a.st w_0.a.id w_0.a.rq w_0.a.d w_0.a.ct w_0.a.tm w_0.a.nk mg pr mu pe ne tick (D.app (D.l []) w_0.out) (D.app (D.l []) w_0.did)) 0) (RT.br (decide ((0:Int)≤0∧0≤(↑(D.len w_1.out):Int)∧(↑(D.len w_1.out):Int)≤(↑(D.len w_1.out):Int)∧(↑(D.len w_1.out):Int)≤(↑(D.len w_1.out):Int))) (RT.br (!hasK (D.sub w_1.out 0 (Int.toNat (↑(D.len w_1.out):Int)))) (RT.ok (AV.tup [],(Hp.mk [(0,[zi w_1.mru,zi w_1.mc,zi w_1.mt,zi w_1.mf,zi w_1.wt,zi w_1.ec,zi w_1.lo,zi w_1.st,zi w_1.id,zi w_1.rq,zs zO w_1.d,zi w_1.ct,zi w_1.tm,zi w_1.nk,zi w_1.mg,zi w_1.pr,zi w_1.mu,zi w_1.pe,zi w_1.ne,zi w_1.tick,zs zC w_1.out,zs zN w_1.did])] 1 [] 0 1000 1000))) (RT.br (bytesB ix) (RT.br (optsB (decO ix)) (RT.br (optsB (decO ix)) (RT.ok (AV.tup [],(Hp.mk [(0,[zi w_1.mru,zi w_1.mc,zi w_1.mt,zi w_1.mf,zi w_1.wt,zi w_1.ec,zi w_1.lo,zi w_1.st,zi w_1.id,zi w_1.rq,zs zO w_1.d,zi w_1.ct,zi w_1.tm,zi w_1.nk,zi w_1.mg,zi (brV (decO ix) 5 0),zi (brV (decO ix) 1 1492),zi w_1.pe,zi w_1.ne,zi w_1.tick,zs zC w_1.out,zs zN w_1.did])] 1 [] 0 1000 1000))) (RT.bad 302)) (RT.bad 302)) (RT.bad 251))) (RT.bad 37)) (RT.bad 299)) (RT.bad 294)) (RT.br (pkN (rlA mg) d ix) (RT.br (flwN (WkV.mk mru mc mt mf wt ec lo w_0.a.st w_0.a.id w_0.a.rq w_0.a.d w_0.a.ct w_0.a.tm w_0.a.nk mg pr mu pe ne tick (D.app (D.l []) w_0.out) (D.app (D.l []) w_0.did)) 0) (RT.br (decide ((0:Int)≤0∧0≤(↑(D.len w_1.out):Int)∧(↑(D.len w_1.out):Int)≤(↑(D.len w_1.out):Int)∧(↑(D.len w_1.out):Int)≤(↑(D.len w_1.out):Int))) (RT.br (!hasK (D.sub w_1.out 0 (Int.toNat (↑(D.len w_1.out):Int)))) (RT.ok (AV.tup [],(Hp.mk [(0,[zi w_1.mru,zi w_1.mc,zi w_1.mt,zi w_1.mf,zi w_1.wt,zi w_1.ec,zi w_1.lo,zi w_1.st,zi w_1.id,zi w_1.rq,zs zO w_1.d,zi w_1.ct,zi w_1.tm,zi w_1.nk,zi w_1.mg,zi w_1.pr,zi w_1.mu,zi w_1.pe,zi w_1.ne,zi w_1.tick,zs zC w_1.out,zs zN w_1.did])] 1 [] 0 1000 1000))) (RT.br (bytesB ix) (RT.br (optsB (decO ix)) (RT.br (optsB (decO ix)) (RT.ok (AV.tup [],(Hp.mk [(0,[zi w_1.mru,zi w_1.mc,zi w_1.mt,zi w_1.mf,zi w_1.wt,zi w_1.ec,zi w_1.lo,zi w_1.st,zi w_1.id,zi w_1.rq,zs zO w_1.d,zi w_1.ct,zi w_1.tm,zi w_1.nk,zi w_1.mg,zi (brV (decO ix) 5 0),zi (brV (decO ix) 1 1492),zi w_1.pe,zi w_1.ne,zi w_1.tick,zs zC w_1.out,zs zN w_1.did])] 1 [] 0 1000 1000))) (RT.bad 302)) (RT.bad 302)) (RT.bad 251))) (RT.bad 37)) (RT.bad 299)) (RT.bad 294))) (RT.br (pkN (rlA mg) d ix) (RT.br (flwN (WkV.mk mru mc mt mf wt ec lo w_0.a.st w_0.a.id w_0.a.rq w_0.a.d w_0.a.ct w_0.a.tm w_0.a.nk mg pr mu pe ne tick (D.app (D.l []) w_0.out) (D.app (D.l []) w_0.did)) 0) (RT.br (decide ((0:Int)≤0∧0≤(↑(D.len w_1.out):Int)∧(↑(D.len w_1.out):Int)≤(↑(D.len w_1.out):Int)∧(↑(D.len w_1.out):Int)≤(↑(D.len w_1.out):Int))) (RT.br (!hasK (D.sub w_1.out 0 (Int.toNat (↑(D.len w_1.out):Int)))) (RT.ok (AV.tup [],(Hp.mk [(0,[zi w_1.mru,zi w_1.mc,zi w_1.mt,zi w_1.mf,zi w_1.wt,zi w_1.ec,zi w_1.lo,zi w_1.st,zi w_1.id,zi w_1.rq,zs zO w_1.d,zi w_1.ct,zi w_1.tm,zi w_1.nk,zi w_1.mg,zi w_1.pr,zi w_1.mu,zi w_1.pe,zi w_1.ne,zi w_1.tick,zs zC w_1.out,zs zN w_1.did])] 1 [] 0 1000 1000))) (RT.br (bytesB ix) (RT.br (optsB (decO ix)) (RT.br (optsB (decO ix)) (RT.ok (AV.tup [],(Hp.mk [(0,[zi w_1.mru,zi w_1.mc,zi w_1.mt,zi w_1.mf,zi w_1.wt,zi w_1.ec,zi w_1.lo,zi w_1.st,zi w_1.id,zi w_1.rq,zs zO w_1.d,zi w_1.ct,zi w_1.tm,zi w_1.nk,zi w_1.mg,zi (brV (decO ix) 5 0),zi (brV (decO ix) 1 1492),zi w_1.pe,zi w_1.ne,zi w_1.tick,zs zC w_1.out,zs zN w_1.did])] 1 [] 0 1000 1000))) (RT.bad 302)) (RT.bad 302)) (RT.bad 251))) (RT.bad 37)) (RT.bad 299)) (RT.bad 294)):=by kernel_rfl
theorem cnfG_ok:GamL Tryz.prog (cnfG Tryz.prog):=⟨auA_soundF,pkt_soundF,objT_ok flw_soundF,dec_soundF,brs_soundF,cnk_soundF,trivial⟩
theorem optsB_of {d:D} (h:∀ i,i<d.len→bytesB (optB d i)=true):optsB d=true:=det fun i hi=>odt (h i hi)
theorem optsB_at {d:D} (h:optsB d=true) {i:Nat} (hi:i<d.len):bytesB (optB d i)=true:=det (odt h i hi)
theorem len_max (d:D):d.len≤maxLen:=by unfold D.len D.toL; exact List.length_take_le _ _
theorem nkD_opts {d l:D} (h:optsB d=true) (hl:optsB l=true):optsB (nkD d l)=true:=by
  refine optsB_of fun i hi=>?_
  unfold nkD at hi ⊢
  rw [tabD_len (len_max d)] at hi
  show bytesB (((tabD (nkV d l) d.len).get i).cell 1)=true
  rw [tabD_get (len_max d) hi]
  show bytesB (bif decide (0≤plaI l (optT d i)) then optB l (plaI l (optT d i)).toNat else optB d i)=true
  by_cases hp:0≤plaI l (optT d i)
  · rw [det hp]; exact optsB_at hl (plaI_lt hp).1
  · rw [def_ hp]; exact optsB_at h hi
theorem rjO_opts {d l:D} (h:optsB d=true):optsB (rjO d l)=true:=by
  refine optsB_of fun i hi=>?_
  unfold rjO at hi ⊢
  obtain ⟨j,hj,_,e⟩:=filD_get (len_max d) hi
  show bytesB (((filD _ (copE d) d.len).get i).cell 1)=true
  rw [e]
  exact optsB_at h hj
theorem lrnO_opts {d l:D} {c:Int} (h:optsB d=true) (hl:optsB l=true):optsB (lrnO d c l)=true:=by
  unfold lrnO
  cases lrnB d c l
  · exact h
  · cases c==3
    · exact rjO_opts h
    · exact nkD_opts h hl
def pkFit (w:DoneV):Prop:=w.out.len≤3∧w.did.len≤3∧optsB w.a.d=true
theorem pkW_fit {r:D} {mc mt mf wt:Int} {a:AuV} {ic ii:Int} {ix:D} {tk:Int} (h:optsB a.d=true) (hx:bytesB ix=true):pkFit (pkW r mc mt mf wt a ic ii ix tk):=by
  have S:pkFit (stayV a):=⟨Nat.zero_le _,Nat.zero_le _,h⟩
  have W:∀ (e ac ax:Int) (ad:D) (b:AuV),optsB b.d=true→pkFit (doW (rlM r) (rlG r) mc mt mf wt b e ic ii ix ac ax ad tk):=fun e ac ax ad b hb=>⟨doW_fit.1,doW_fit.2.1,by rw [doW_fit.2.2]; exact hb⟩
  have C:∀ (b:Bool) (x y:DoneV),pkFit x→pkFit y→pkFit (bif b then x else y):=fun b x y hx hy=>by cases b <;> assumption
  have hl:∀ c,optsB (lrnO a.d c (decO ix))=true:=fun c=>lrnO_opts h (decO_fit hx).2
  unfold pkW
  repeat (first | with_reducible refine C _ _ _ ?_ ?_ | with_reducible exact S | with_reducible exact W _ _ _ _ _ h | (refine W _ _ _ _ _ ?_; exact hl _))
def cnR (w:WkV) (rl:D) (ic ii:Int) (ix:D):DoneV:=pkW rl w.mc w.mt w.mf w.wt ⟨w.st,w.id,w.rq,w.d,w.ct,w.tm,w.nk⟩ ic ii ix w.tick
def cnfW (w:WkV) (rl:D) (ic ii:Int) (ix:D):WkV :=
  bif hasK (folW w (cnR w rl ic ii ix)).out then { folW w (cnR w rl ic ii ix) with pr:=brV (decO ix) 5 0,mu:=brV (decO ix) 1 1492 } else folW w (cnR w rl ic ii ix)
def cnA:List AV→Option (Int×Int×D)
  | .ptr 0 0 :: l=>(match cdAL [.agg [.int .i64,.int .i64,.sl byS]] l with
    | some [v1,v2,v3]=>some (v1.toI,v2.toI,v3)
    | _=>none)
  | _=>none
theorem cnA_ok {args:List AV} {ic ii:Int} {ix:D} (h:cnA args=some (ic,ii,ix)):args=[.ptr 0 0,ctlA ic ii ix]:=by
  unfold cnA at h
  split at h
  · split at h
    · rename_i h1
      cases h
      have e:=congrArg Prod.fst (cdAL_ok _ _ _ h1 [])
      dsimp only at e
      rw [← e]; rfl
    · cases h
  · cases h
def cnfS:Spec:=fun args h=>match cnA args,nlD h with
  | some (ic,ii,ix),some w=>need false (bytesB ix&&optsB w.d) 299 (.ok (.tup [],dnW (cnfW w (rlA w.mg) ic ii ix)))
  | _,_=>.bad 299
theorem hasK_sub (x:D):hasK (x.sub 0 x.len)=hasK x:=by
  have hl:(x.sub 0 x.len).len=x.len:=by rw [sub_len (Nat.zero_le _) (Nat.le_refl _)]; rfl
  unfold hasK
  rw [hl]
  congr 1
  have G:∀ i,i<x.len→(x.sub 0 x.len).get i=x.get i:=fun i hi=>by rw [sub_get (by omega),Nat.zero_add]
  have N:∀ j,j<x.len→neC (x.sub 0 x.len) j=neC x j:=fun j hj=>by unfold neC; rw [G j hj]
  rw [Bool.eq_iff_iff,okFrom_iff,okFrom_iff]
  exact ⟨fun h j h1 h2=>by rw [← N j (by omega)]; exact h j h1 h2,fun h j h1 h2=>by rw [N j (by omega)]; exact h j h1 h2⟩
theorem cnf_soundF:SoundF Tryz.prog 64 cnfS:=by
  refine obj_in2 (gs:=cnfG Tryz.prog) (ls:=[]) mixed cnfG_ok trivial 64 100 1 0 fun args h K H=>?_
  unfold cnfS at H
  split at H
  rotate_left
  · exact H.elim
  rename_i ic ii ix w h1 h2
  obtain ⟨hb,H⟩:=need_holds H
  rw [Bool.and_eq_true] at hb
  obtain ⟨hx,hb⟩:=hb
  obtain ⟨e1,e2,e3⟩:=nlD_ok h2
  rw [cnA_ok h1,e1]
  refine ⟨rfl,?_⟩
  obtain ⟨mru,mc,mt,mf,wt,ec,lo,st,id,rq,d,ct,tm,nk,mg,pr,mu,pe,ne,tick,out,did⟩:=w
  dsimp only at hb H e2 e3
  subst e2 e3
  dsimp only
  rw [cnf_tree]
  extract_lets w0 w1
  obtain ⟨f1,f2,f3⟩:pkFit w0:=pkW_fit hb hx
  have E:w1=folW ⟨mru,mc,mt,mf,wt,ec,lo,st,id,rq,d,ct,tm,nk,mg,pr,mu,pe,ne,tick,.l [],.l []⟩ w0:=fol_w ⟨mru,mc,mt,mf,wt,ec,lo,st,id,rq,d,ct,tm,nk,mg,pr,mu,pe,ne,tick,.l [],.l []⟩ w0 (by show 0+w0.did.len≤_; unfold maxLen; omega)
  have hP:pkN (rlA mg) d ix=true:=by unfold pkN; rw [hx,hb]; rfl
  have hF:flwN ⟨mru,mc,mt,mf,wt,ec,lo,w0.a.st,w0.a.id,w0.a.rq,w0.a.d,w0.a.ct,w0.a.tm,w0.a.nk,mg,pr,mu,pe,ne,tick,D.app (.l []) w0.out,D.app (.l []) w0.did⟩ 0=true:=by
    unfold flwN
    dsimp only
    rw [f3,Bool.and_true]
    exact det ⟨Int.le_refl _,by omega⟩
  have hD:=(decO_fit hx).2
  have A:∀ b v,hasK w1.out=b→(bif b then { w1 with pr:=brV (decO ix) 5 0,mu:=brV (decO ix) 1 1492 } else w1)=v→K (.tup [],dnW v):=by
    rintro b v rfl rfl
    rw [E]; exact H
  have hK:hasK (w1.out.sub 0 (w1.out.len:Int).toNat)=hasK w1.out:=hasK_sub _
  refine ⟨⟨?_,?_⟩,?_⟩
  all_goals refine holds_t_of hP (holds_t_of hF (holds_t_of (det ⟨by omega,by omega,by omega,by omega⟩) ⟨fun h=>⟨_,Le.refl _,A false _ ?_ rfl⟩,fun h=>holds_t_of hx (holds_t_of hD (holds_t_of hD ⟨_,Le.refl _,A true _ ?_ rfl⟩))⟩))
  all_goals rw [hK] at h; simpa using h
def FEq4:List AV→RT AV
  | [.sl false [.int .u8] x none,.sl false [.int .u8] y none]=>need false (decide (x.len=4∧y.len=4)&&(bytesB x&&bytesB y)) 310 (.ok (ab (eqB x y)))
  | _=>.bad 310
def lpkG (P:Program):List (FuncId×Spec):=(60,pureS P 60 FEnc7) :: (38,vecS P 38 5 byS FPutV) :: (64,objT cnfS) :: (14,pureS P 14 FRej) :: (133,pureS P 133 FEq4) :: lcpG P
theorem oeq_tree (a b c d e f g h:Int):treeF (evF Tryz.prog (gam ([])) (lam ([])) 100 133) [.sl true byS (.l [.i a,.i b,.i c,.i d]) none,.sl true byS (.l [.i e,.i f,.i g,.i h]) none] =
RT.ok (zb (IntKind.wrap IntKind.u8 (↑(BitVec.toNat (BitVec.ofInt (IntKind.bits IntKind.u8) (IntKind.wrap IntKind.u8 (↑(BitVec.toNat (BitVec.ofInt (IntKind.bits IntKind.u8) (IntKind.wrap IntKind.u8 (↑(BitVec.toNat (BitVec.ofInt (IntKind.bits IntKind.u8) (IntKind.wrap IntKind.u8 (↑(BitVec.toNat (BitVec.ofInt (IntKind.bits IntKind.u8) (Int.ofNat 0) ||| BitVec.ofInt (IntKind.bits IntKind.u8) (IntKind.wrap IntKind.u8 (↑(BitVec.toNat (BitVec.ofInt (IntKind.bits IntKind.u8) (D.toI (D.cell (D.get (D.l [D.i a,D.i b,D.i c,D.i d]) (Int.toNat (Int.ofNat 0))) 0)) ^^^ BitVec.ofInt (IntKind.bits IntKind.u8) (D.toI (D.cell (D.get (D.l [D.i e,D.i f,D.i g,D.i h]) (Int.toNat (Int.ofNat 0))) 0)))):Int)))):Int)) ||| BitVec.ofInt (IntKind.bits IntKind.u8) (IntKind.wrap IntKind.u8 (↑(BitVec.toNat (BitVec.ofInt (IntKind.bits IntKind.u8) (D.toI (D.cell (D.get (D.l [D.i a,D.i b,D.i c,D.i d]) (Int.toNat (Int.ofNat (Nat.succ 0)))) 0)) ^^^ BitVec.ofInt (IntKind.bits IntKind.u8) (D.toI (D.cell (D.get (D.l [D.i e,D.i f,D.i g,D.i h]) (Int.toNat (Int.ofNat (Nat.succ 0)))) 0)))):Int)))):Int)) ||| BitVec.ofInt (IntKind.bits IntKind.u8) (IntKind.wrap IntKind.u8 (↑(BitVec.toNat (BitVec.ofInt (IntKind.bits IntKind.u8) (D.toI (D.cell (D.get (D.l [D.i a,D.i b,D.i c,D.i d]) (Int.toNat (Int.ofNat (Nat.succ 1)))) 0)) ^^^ BitVec.ofInt (IntKind.bits IntKind.u8) (D.toI (D.cell (D.get (D.l [D.i e,D.i f,D.i g,D.i h]) (Int.toNat (Int.ofNat (Nat.succ 1)))) 0)))):Int)))):Int)) ||| BitVec.ofInt (IntKind.bits IntKind.u8) (IntKind.wrap IntKind.u8 (↑(BitVec.toNat (BitVec.ofInt (IntKind.bits IntKind.u8) (D.toI (D.cell (D.get (D.l [D.i a,D.i b,D.i c,D.i d]) (Int.toNat (Int.ofNat (Nat.succ 2)))) 0)) ^^^ BitVec.ofInt (IntKind.bits IntKind.u8) (D.toI (D.cell (D.get (D.l [D.i e,D.i f,D.i g,D.i h]) (Int.toNat (Int.ofNat (Nat.succ 2)))) 0)))):Int)))):Int)==0)):=by rw [← fvF_eq Tryz.prog (gam ([])) (lam ([])) false 100 133]; kernel_rfl
abbrev lpk_treeT_1 (st id rq ct tm nk mg pr mu pe ne:Int) (d:D):=RT.ok (AV.tup [AV.agg [zi st,zi id,zi rq,zs zO d,zi ct,zi tm,zi nk,zi mg,zi pr,zi mu,zi pe,zi ne],zz,zz])
def lpk_treeT (mru mc mt mf wt ec lo st id rq ct tm nk mg pr mu pe ne:Int) (d:D) (ic ii:Int) (ix:D) (tk:Int):RT AV :=
let w_0:=cnfW (WkV.mk mru mc mt mf wt ec lo st id rq d ct tm nk mg pr mu pe ne tk (D.l []) (D.l [])) (rlA mg) ic ii ix; let w_1:=doW (rlM (rlA mg)) (rlG (rlA mg)) mc mt mf wt (AuV.mk st id rq d ct tm nk) 15 ic ii ix 0 0 (D.l []) tk; let w_2:=flwW (WkV.mk mru mc mt mf wt ec lo w_1.a.st w_1.a.id w_1.a.rq w_1.a.d w_1.a.ct w_1.a.tm w_1.a.nk mg pr mu pe ne tk (D.app (D.l []) w_1.out) (D.app (D.l []) w_1.did)) 0; let w_3:=doW (rlM (rlA mg)) (rlG (rlA mg)) mc mt mf wt (AuV.mk st id rq d ct tm nk) 14 ic ii ix 0 0 (D.l []) tk; let w_4:=flwW (WkV.mk mru mc mt mf wt ec lo w_3.a.st w_3.a.id w_3.a.rq w_3.a.d w_3.a.ct w_3.a.tm w_3.a.nk mg pr mu pe ne tk (D.app (D.l []) w_3.out) (D.app (D.l []) w_3.did)) 0; let w_5:=doW (rlM (rlA mg)) (rlG (rlA mg)) mc mt mf wt (AuV.mk st id rq d ct tm nk) 16 ic ii ix 10 ii (D.app (beD (IntKind.wrap IntKind.u64 mg) 4) (D.sub ix 4 (Int.toNat (↑(D.len ix):Int)))) tk; let w_6:=flwW (WkV.mk mru mc mt mf wt ec lo w_5.a.st w_5.a.id w_5.a.rq w_5.a.d w_5.a.ct w_5.a.tm w_5.a.nk mg pr mu pe ne tk (D.app (D.l []) w_5.out) (D.app (D.l []) w_5.did)) 0; let w_7:=doW (rlM (rlA mg)) (rlG (rlA mg)) mc mt mf wt (AuV.mk st id rq d ct tm nk) 13 ic ii ix 0 0 (D.l []) tk; let w_8:=flwW (WkV.mk mru mc mt mf wt ec lo w_7.a.st w_7.a.id w_7.a.rq w_7.a.d w_7.a.ct w_7.a.tm w_7.a.nk mg pr mu pe ne tk (D.app (D.l []) w_7.out) (D.app (D.l []) w_7.did)) 0; RT.br (enc7E ic ii ix != 0) (lpk_treeT_1 st id rq ct tm nk mg pr mu pe ne d) (RT.br (errIf (lisB mru mc mt mf wt ec lo st id rq d ct tm nk mg pr mu pe ne) 170 != 0) (lpk_treeT_1 st id rq ct tm nk mg pr mu pe ne d) (RT.br (decide (0≤tk)) (RT.br (!decide (tk≤1099511627776)) (lpk_treeT_1 st id rq ct tm nk mg pr mu pe ne d) (RT.br (ic==1) (RT.br (bytesB ix&&optsB d) (RT.ok (AV.tup [AV.agg [zi w_0.st,zi w_0.id,zi w_0.rq,zs zO w_0.d,zi w_0.ct,zi w_0.tm,zi w_0.nk,zi w_0.mg,zi w_0.pr,zi w_0.mu,zi w_0.pe,zi w_0.ne],zs zC w_0.out,zs zN w_0.did])) (RT.bad 299)) (RT.br (ic==2) (RT.br (bytesB ix&&optsB d) (RT.ok (AV.tup [AV.agg [zi w_0.st,zi w_0.id,zi w_0.rq,zs zO w_0.d,zi w_0.ct,zi w_0.tm,zi w_0.nk,zi w_0.mg,zi w_0.pr,zi w_0.mu,zi w_0.pe,zi w_0.ne],zs zC w_0.out,zs zN w_0.did])) (RT.bad 299)) (RT.br (ic==3) (RT.br (bytesB ix&&optsB d) (RT.ok (AV.tup [AV.agg [zi w_0.st,zi w_0.id,zi w_0.rq,zs zO w_0.d,zi w_0.ct,zi w_0.tm,zi w_0.nk,zi w_0.mg,zi w_0.pr,zi w_0.mu,zi w_0.pe,zi w_0.ne],zs zC w_0.out,zs zN w_0.did])) (RT.bad 299)) (RT.br (ic==4) (RT.br (bytesB ix&&optsB d) (RT.ok (AV.tup [AV.agg [zi w_0.st,zi w_0.id,zi w_0.rq,zs zO w_0.d,zi w_0.ct,zi w_0.tm,zi w_0.nk,zi w_0.mg,zi w_0.pr,zi w_0.mu,zi w_0.pe,zi w_0.ne],zs zC w_0.out,zs zN w_0.did])) (RT.bad 299)) (RT.br (ic==5) (RT.br (bytesB ix&&optsB d) (RT.ok (AV.tup [AV.agg [zi w_0.st,zi w_0.id,zi w_0.rq,zs zO w_0.d,zi w_0.ct,zi w_0.tm,zi w_0.nk,zi w_0.mg,zi w_0.pr,zi w_0.mu,zi w_0.pe,zi w_0.ne],zs zC w_0.out,zs zN w_0.did])) (RT.bad 299)) (RT.br (ic==6) (RT.br (bytesB ix&&optsB d) (RT.ok (AV.tup [AV.agg [zi w_0.st,zi w_0.id,zi w_0.rq,zs zO w_0.d,zi w_0.ct,zi w_0.tm,zi w_0.nk,zi w_0.mg,zi w_0.pr,zi w_0.mu,zi w_0.pe,zi w_0.ne],zs zC w_0.out,zs zN w_0.did])) (RT.bad 299)) (RT.br (ic==7) (RT.br (bytesB ix&&optsB d) (RT.ok (AV.tup [AV.agg [zi w_0.st,zi w_0.id,zi w_0.rq,zs zO w_0.d,zi w_0.ct,zi w_0.tm,zi w_0.nk,zi w_0.mg,zi w_0.pr,zi w_0.mu,zi w_0.pe,zi w_0.ne],zs zC w_0.out,zs zN w_0.did])) (RT.bad 299)) (RT.br (ic==8) (RT.br (rngB ix) (RT.br (!rejB ic ix) (lpk_treeT_1 st id rq ct tm nk mg pr mu pe ne d) (RT.br (st != 9) (lpk_treeT_1 st id rq ct tm nk mg pr mu pe ne d) (RT.br (rejN ic ix==49185) (RT.br true (RT.br (flwN (WkV.mk mru mc mt mf wt ec lo w_1.a.st w_1.a.id w_1.a.rq w_1.a.d w_1.a.ct w_1.a.tm w_1.a.nk mg pr mu pe ne tk (D.app (D.l []) w_1.out) (D.app (D.l []) w_1.did)) 0) (RT.ok (AV.tup [AV.agg [zi w_2.st,zi w_2.id,zi w_2.rq,zs zO w_2.d,zi w_2.ct,zi w_2.tm,zi w_2.nk,zi w_2.mg,zi w_2.pr,zi w_2.mu,zi w_2.pe,zi w_2.ne],zs zC w_2.out,zs zN w_2.did])) (RT.bad 299)) (RT.bad 274)) (RT.br true (RT.br (flwN (WkV.mk mru mc mt mf wt ec lo w_3.a.st w_3.a.id w_3.a.rq w_3.a.d w_3.a.ct w_3.a.tm w_3.a.nk mg pr mu pe ne tk (D.app (D.l []) w_3.out) (D.app (D.l []) w_3.did)) 0) (RT.ok (AV.tup [AV.agg [zi w_4.st,zi w_4.id,zi w_4.rq,zs zO w_4.d,zi w_4.ct,zi w_4.tm,zi w_4.nk,zi w_4.mg,zi w_4.pr,zi w_4.mu,zi w_4.pe,zi w_4.ne],zs zC w_4.out,zs zN w_4.did])) (RT.bad 299)) (RT.bad 274))))) (RT.bad 221)) (RT.br (ic==9) (RT.br (st==9) (RT.br (decide (4≤(↑(D.len ix):Int))) (RT.br (decide ((0:Int)≤0∧(0:Int)≤4∧4≤(↑(D.len ix):Int)∧(↑(D.len ix):Int)≤(↑(D.len ix):Int))) (RT.br (decide ((0≤IntKind.wrap IntKind.u64 mg∧IntKind.wrap IntKind.u64 mg<18446744073709551616)∧(1:Int)≤4∧(4:Int)≤8)) (RT.br (decide (D.len (D.sub ix 0 4)=4∧4=4)&&(bytesB (D.sub ix 0 4)&&bytesB (beD (IntKind.wrap IntKind.u64 mg) 4))) (RT.br (!eqB (D.sub ix 0 4) (beD (IntKind.wrap IntKind.u64 mg) 4)) (RT.br (decide ((0:Int)≤4∧4≤(↑(D.len ix):Int)∧(↑(D.len ix):Int)≤(↑(D.len ix):Int)∧(↑(D.len ix):Int)≤(↑(D.len ix):Int))) (RT.br (decide ((0≤IntKind.wrap IntKind.u64 mg∧IntKind.wrap IntKind.u64 mg<18446744073709551616)∧(1:Int)≤4∧(4:Int)≤8)) (RT.br (decide ((4+D.len (D.sub ix 4 (Int.toNat (↑(D.len ix):Int))))*1≤140737488355328)) (RT.br true (RT.br (flwN (WkV.mk mru mc mt mf wt ec lo w_5.a.st w_5.a.id w_5.a.rq w_5.a.d w_5.a.ct w_5.a.tm w_5.a.nk mg pr mu pe ne tk (D.app (D.l []) w_5.out) (D.app (D.l []) w_5.did)) 0) (RT.ok (AV.tup [AV.agg [zi w_6.st,zi w_6.id,zi w_6.rq,zs zO w_6.d,zi w_6.ct,zi w_6.tm,zi w_6.nk,zi w_6.mg,zi w_6.pr,zi w_6.mu,zi w_6.pe,zi w_6.ne],zs zC w_6.out,zs zN w_6.did])) (RT.bad 299)) (RT.bad 274)) (RT.bad 70)) (RT.bad 240)) (RT.bad 37)) (lpk_treeT_1 st id rq ct tm nk mg pr mu pe ne d)) (RT.bad 310)) (RT.bad 240)) (RT.bad 37)) (lpk_treeT_1 st id rq ct tm nk mg pr mu pe ne d)) (lpk_treeT_1 st id rq ct tm nk mg pr mu pe ne d)) (RT.br (ic==10) (RT.br (st==9) (RT.br (decide (4≤(↑(D.len ix):Int))) (RT.br (decide ((0:Int)≤0∧(0:Int)≤4∧4≤(↑(D.len ix):Int)∧(↑(D.len ix):Int)≤(↑(D.len ix):Int))) (RT.br (decide ((0≤IntKind.wrap IntKind.u64 mg∧IntKind.wrap IntKind.u64 mg<18446744073709551616)∧(1:Int)≤4∧(4:Int)≤8)) (RT.br (decide (D.len (D.sub ix 0 4)=4∧4=4)&&(bytesB (D.sub ix 0 4)&&bytesB (beD (IntKind.wrap IntKind.u64 mg) 4))) (RT.br (!eqB (D.sub ix 0 4) (beD (IntKind.wrap IntKind.u64 mg) 4)) (RT.ok (AV.tup [AV.agg [zi st,zi id,zi rq,zs zO d,zi ct,zi tm,zi nk,zi mg,zi pr,zi mu,zk 0,zi ne],zz,zz])) (lpk_treeT_1 st id rq ct tm nk mg pr mu pe ne d)) (RT.bad 310)) (RT.bad 240)) (RT.bad 37)) (lpk_treeT_1 st id rq ct tm nk mg pr mu pe ne d)) (lpk_treeT_1 st id rq ct tm nk mg pr mu pe ne d)) (RT.br (ic==11) (lpk_treeT_1 st id rq ct tm nk mg pr mu pe ne d) (RT.br true (RT.br (flwN (WkV.mk mru mc mt mf wt ec lo w_7.a.st w_7.a.id w_7.a.rq w_7.a.d w_7.a.ct w_7.a.tm w_7.a.nk mg pr mu pe ne tk (D.app (D.l []) w_7.out) (D.app (D.l []) w_7.did)) 0) (RT.ok (AV.tup [AV.agg [zi w_8.st,zi w_8.id,zi w_8.rq,zs zO w_8.d,zi w_8.ct,zi w_8.tm,zi w_8.nk,zi w_8.mg,zi w_8.pr,zi w_8.mu,zi w_8.pe,zi w_8.ne],zs zC w_8.out,zs zN w_8.did])) (RT.bad 299)) (RT.bad 274)))))))))))))) (lpk_treeT_1 st id rq ct tm nk mg pr mu pe ne d)))
theorem lpk_tree (mru mc mt mf wt ec lo st id rq ct tm nk mg pr mu pe ne:Int) (d:D) (ic ii:Int) (ix:D) (tk:Int):treeF (evF Tryz.prog (gam (lpkG Tryz.prog)) (lam ([])) 100 31) [cnfA mru mc mt mf wt ec lo,lcpA st id rq d ct tm nk mg pr mu pe ne,ctlA ic ii ix,ai tk]=lpk_treeT mru mc mt mf wt ec lo st id rq ct tm nk mg pr mu pe ne d ic ii ix tk:=by rw [← fvF_eq Tryz.prog (gam (lpkG Tryz.prog)) (lam ([])) false 100 31]; kernel_rfl
abbrev mgD (m:Int):D:=beD (IntKind.wrap .u64 m) 4
def pkt1 (w:WkV) (ic ii:Int) (ix:D):WkV :=
  bif decide (1≤ic)&&decide (ic≤7) then cnfW w (rlA w.mg) ic ii ix
  else bif decide (ic<1)||decide (11<ic) then evW w (rlA w.mg) 13 ic ii ix 0 0 (.l [])
  else bif w.st != 9||ic==11 then w
  else bif ic==8 then (bif rejB ic ix then (bif rejN ic ix==49185 then evW w (rlA w.mg) 15 ic ii ix 0 0 (.l []) else evW w (rlA w.mg) 14 ic ii ix 0 0 (.l [])) else w)
  else bif decide (ix.len<4)||eqB (ix.sub 0 4) (mgD w.mg) then w
  else bif ic==10 then { w with pe:=0 }
  else evW w (rlA w.mg) 16 ic ii ix 10 ii (D.app (mgD w.mg) (ix.sub 4 ix.len))
def pktW (w:WkV) (ic ii:Int) (ix:D):WkV:=bif enc7E ic ii ix==0&&onB w then pkt1 w ic ii ix else w
def lpkCd:List Cd:=[.agg [.int .i64,.int .i64,.int .i64,.int .i64,.int .i64,.int .i64,.int .i64],.agg [.int .i64,.int .i64,.int .i64,.sl opS,.int .i64,.int .i64,.int .i64,.int .i64,.int .i64,.int .i64,.int .i64,.int .i64],.agg [.int .i64,.int .i64,.sl byS],.int .i64]
def FLpk (args:List AV):RT AV:=match cdAL lpkCd args with
  | some [v0,v1,v2,v3,v4,v5,v6,v7,v8,v9,v10,v11,v12,v13,v14,v15,v16,v17,v18,v19,v20,v21,v22]=>need false (bytesB v21&&optsB v10) 313 (.ok (wkA (pktW ⟨v0.toI,v1.toI,v2.toI,v3.toI,v4.toI,v5.toI,v6.toI,v7.toI,v8.toI,v9.toI,v10,v11.toI,v12.toI,v13.toI,v14.toI,v15.toI,v16.toI,v17.toI,v18.toI,v22.toI,.l [],.l []⟩ v19.toI v20.toI v21)))
  | _=>.bad 313
theorem lpk_inv {args:List AV} {G:WkV→AV} {K:AV→Prop} (H:(match cdAL lpkCd args with
  | some [v0,v1,v2,v3,v4,v5,v6,v7,v8,v9,v10,v11,v12,v13,v14,v15,v16,v17,v18,v19,v20,v21,v22]=>need false (bytesB v21&&optsB v10) 313 (.ok (G (pktW ⟨v0.toI,v1.toI,v2.toI,v3.toI,v4.toI,v5.toI,v6.toI,v7.toI,v8.toI,v9.toI,v10,v11.toI,v12.toI,v13.toI,v14.toI,v15.toI,v16.toI,v17.toI,v18.toI,v22.toI,.l [],.l []⟩ v19.toI v20.toI v21)))
  | _=>(.bad 313:RT AV)).holds K):∃ (mru mc mt mf wt ec lo st id rq ct tm nk mg pr mu pe ne:Int) (d:D) (ic ii:Int) (ix:D) (tk:Int),args=[cnfA mru mc mt mf wt ec lo,lcpA st id rq d ct tm nk mg pr mu pe ne,ctlA ic ii ix,ai tk]∧bytesB ix=true∧optsB d=true∧K (G (pktW ⟨mru,mc,mt,mf,wt,ec,lo,st,id,rq,d,ct,tm,nk,mg,pr,mu,pe,ne,tk,.l [],.l []⟩ ic ii ix)):=by
  split at H
  · rename_i v0 v1 v2 v3 v4 v5 v6 v7 v8 v9 v10 v11 v12 v13 v14 v15 v16 v17 v18 v19 v20 v21 v22 hd
    obtain ⟨hc,H⟩:=need_holds H
    rw [Bool.and_eq_true] at hc
    have:=cdAL_ok _ _ _ hd []
    exact ⟨v0.toI,v1.toI,v2.toI,v3.toI,v4.toI,v5.toI,v6.toI,v7.toI,v8.toI,v9.toI,v11.toI,v12.toI,v13.toI,v14.toI,v15.toI,v16.toI,v17.toI,v18.toI,v10,v19.toI,v20.toI,v21,v22.toI,(congrArg Prod.fst this).symm,hc.1,hc.2,H⟩
  · exact H.elim
theorem pkt1_cnf {w:WkV} {ic ii:Int} {ix:D} (h:1≤ic∧ic≤7):pkt1 w ic ii ix=cnfW w (rlA w.mg) ic ii ix:=by
  unfold pkt1; rw [det h.1,det h.2]; rfl
theorem no_cnf {ic:Int} (h:ic<1∨7<ic):(decide (1≤ic)&&decide (ic≤7))=false:=by
  rcases h with h | h
  · rw [def_ (show ¬ 1≤ic by omega)]; rfl
  · rw [def_ (show ¬ ic≤7 by omega),Bool.and_false]
theorem no_ruc {ic:Int} (h:1≤ic∧ic≤11):(decide (ic<1)||decide (11<ic))=false:=by
  rw [def_ (show ¬ ic<1 by omega),def_ (show ¬ 11<ic by omega)]; rfl
theorem pkt1_ruc {w:WkV} {ic ii:Int} {ix:D} (h:ic<1∨11<ic):pkt1 w ic ii ix=evW w (rlA w.mg) 13 ic ii ix 0 0 (.l []):=by
  unfold pkt1
  have e:(decide (ic<1)||decide (11<ic))=true:=by
    rcases h with h | h
    · rw [det h]; rfl
    · rw [det h,Bool.or_true]
  rw [no_cnf (by omega),e]; rfl
theorem pkt1_off {w:WkV} {ic ii:Int} {ix:D} (h:8≤ic∧ic≤11) (hs:(w.st != 9||ic==11)=true):pkt1 w ic ii ix=w:=by
  unfold pkt1
  rw [no_cnf (by omega),no_ruc (by omega),hs]; rfl
theorem pkt1_rej {w:WkV} {ii:Int} {ix:D} (hs:(w.st != 9)=false):pkt1 w 8 ii ix=bif rejB 8 ix then (bif rejN 8 ix==49185 then evW w (rlA w.mg) 15 8 ii ix 0 0 (.l []) else evW w (rlA w.mg) 14 8 ii ix 0 0 (.l [])) else w:=by
  unfold pkt1
  rw [hs]; rfl
theorem pkt1_req {w:WkV} {ii:Int} {ix:D} (hs:(w.st != 9)=false):pkt1 w 9 ii ix=bif decide (ix.len<4)||eqB (ix.sub 0 4) (mgD w.mg) then w else evW w (rlA w.mg) 16 9 ii ix 10 ii (D.app (mgD w.mg) (ix.sub 4 ix.len)):=by
  unfold pkt1
  rw [hs]; rfl
theorem pkt1_rep {w:WkV} {ii:Int} {ix:D} (hs:(w.st != 9)=false):pkt1 w 10 ii ix=bif decide (ix.len<4)||eqB (ix.sub 0 4) (mgD w.mg) then w else { w with pe:=0 }:=by
  unfold pkt1
  rw [hs]; rfl
theorem bv_ofInt_wrap (x:BitVec 8):BitVec.ofInt 8 (IntKind.wrap .u8 (x.toNat:Int))=x:=by
  rw [show IntKind.wrap .u8 (x.toNat:Int)=(x.toNat:Int) from wrap_u8 ⟨by omega,by have:=x.isLt; omega⟩]
  simp
theorem byte_inj {a b:Int} (ha:byR a) (hb:byR b) (h:BitVec.ofInt 8 a=BitVec.ofInt 8 b):a=b:=by
  unfold byR at ha hb
  have:=congrArg BitVec.toNat h
  rw [BitVec.toNat_ofInt,BitVec.toNat_ofInt] at this
  omega
def orX (p u v:Int):Int:=IntKind.wrap .u8 ((BitVec.ofInt 8 p ||| BitVec.ofInt 8 (IntKind.wrap .u8 ((BitVec.ofInt 8 u ^^^ BitVec.ofInt 8 v).toNat:Int))).toNat:Int)
theorem orX_bv (p u v:Int):BitVec.ofInt 8 (orX p u v)=BitVec.ofInt 8 p ||| (BitVec.ofInt 8 u ^^^ BitVec.ofInt 8 v):=by
  unfold orX; rw [bv_ofInt_wrap,bv_ofInt_wrap]
theorem orX_zero (p u v:Int):orX p u v=0↔BitVec.ofInt 8 (orX p u v)=0:=by
  constructor
  · intro h; rw [h]; rfl
  · intro h
    rw [orX_bv] at h
    unfold orX
    rw [bv_ofInt_wrap,h]; rfl
theorem eq4_bit {a b c d e f g h:Int} (ha:byR a) (hb:byR b) (hc:byR c) (hd:byR d) (he:byR e) (hf:byR f) (hg:byR g) (hh:byR h) :
    orX (orX (orX (orX 0 a e) b f) c g) d h=0↔(a=e∧b=f∧c=g∧d=h):=by
  rw [orX_zero,orX_bv,orX_bv,orX_bv,orX_bv]
  constructor
  · intro H
    have H1:=BitVec.or_eq_zero_iff.1 H
    have H2:=BitVec.or_eq_zero_iff.1 H1.1
    have H3:=BitVec.or_eq_zero_iff.1 H2.1
    have H4:=BitVec.or_eq_zero_iff.1 H3.1
    exact ⟨byte_inj ha he (BitVec.xor_eq_zero_iff.1 H4.2),byte_inj hb hf (BitVec.xor_eq_zero_iff.1 H3.2),byte_inj hc hg (BitVec.xor_eq_zero_iff.1 H2.2),byte_inj hd hh (BitVec.xor_eq_zero_iff.1 H1.2)⟩
  · rintro ⟨rfl,rfl,rfl,rfl⟩
    rw [BitVec.xor_self,BitVec.xor_self,BitVec.xor_self,BitVec.xor_self]; rfl
theorem oeq_soundF:SoundF Tryz.prog 133 (pureS Tryz.prog 133 FEq4):=by
  refine pure_by (gs:=[]) (ls:=[]) mixed trivial trivial 133 100 fun args K ho H=>?_
  unfold FEq4 at H
  split at H
  · rename_i x y
    obtain ⟨hc,H⟩:=need_holds H
    rw [Bool.and_eq_true,Bool.and_eq_true] at hc
    obtain ⟨hl,hx,hy⟩:=hc
    obtain ⟨lx,ly⟩:=odt hl
    have X:∀ j,j<4→byR (byA x j):=fun j hj=>bytes_at hx (by omega)
    have Y:∀ j,j<4→byR (byA y j):=fun j hj=>bytes_at hy (by omega)
    refine ⟨_,leL_cons (four_le (kn':=true) lx) (leL_cons (four_le (kn':=true) ly) leL_nil),?_⟩
    rw [oeq_tree]
    refine ⟨_,le_bool ?_,H⟩
    have B:=eq4_bit (X 0 (by omega)) (X 1 (by omega)) (X 2 (by omega)) (X 3 (by omega)) (Y 0 (by omega)) (Y 1 (by omega)) (Y 2 (by omega)) (Y 3 (by omega))
    have E:eqB x y=decide (byA x 0=byA y 0∧byA x 1=byA y 1∧byA x 2=byA y 2∧byA x 3=byA y 3):=by
      unfold eqB
      rw [det (show x.len=y.len by omega),lx,Bool.true_and,Bool.eq_iff_iff,decide_eq_true_eq]
      show (eqBy x y 0&&(eqBy x y 1&&(eqBy x y 2&&(eqBy x y 3&&true))))=true↔_
      unfold eqBy
      simp only [Bool.and_eq_true,beq_iff_eq,and_true]
    rw [E]
    show (orX (orX (orX (orX 0 (byA x 0) (byA y 0)) (byA x 1) (byA y 1)) (byA x 2) (byA y 2)) (byA x 3) (byA y 3)==0)=_
    rw [Bool.eq_iff_iff,beq_iff_eq,decide_eq_true_eq]
    exact B
  · exact H.elim
theorem beD_toL (n:Int):(beD n 4).toL=[.i (byI n 4 0),.i (byI n 4 1),.i (byI n 4 2),.i (byI n 4 3)]:=toL_l (by show 4≤maxLen; unfold maxLen; omega)
theorem beD_len4 (n:Int):(beD n 4).len=4:=by unfold D.len; rw [beD_toL]; rfl
theorem byI_rng (n:Int) (s i:Nat):0≤byI n s i∧byI n s i<256:=by
  unfold byI
  have:=(beByte n.toNat (s - 1 - i)).toNat_lt
  omega
theorem beD_bytes (n:Int):bytesB (beD n 4)=true:=by
  refine det fun i hi=>?_
  rw [beD_len4] at hi
  unfold byN D.get
  rw [beD_toL]
  match i,hi with
  | 0,_=>exact byI_rng n 4 0
  | 1,_=>exact byI_rng n 4 1
  | 2,_=>exact byI_rng n 4 2
  | 3,_=>exact byI_rng n 4 3
theorem rngB_by {d:D} (h:bytesB d=true):rngB d=true:=det fun hl=>⟨bytes_at h (by omega),bytes_at h (by omega)⟩
theorem lpkG_ok:GamL Tryz.prog (lpkG Tryz.prog):=⟨enc7_soundF,putV_soundF,objT_ok cnf_soundF,rej_soundF,oeq_soundF,lcpG_ok⟩
theorem wrap64_ok (m:Int):decide ((0≤IntKind.wrap IntKind.u64 m∧IntKind.wrap IntKind.u64 m<18446744073709551616)∧(1:Int)≤4∧(4:Int)≤8)=true:=by
  have hw:IntKind.wrap .u64 m=m % 18446744073709551616:=rfl
  exact det ⟨⟨by omega,by omega⟩,by decide,by decide⟩
theorem enc7_le {c i:Int} {x:D} (h:(enc7E c i x==0)=true):x.len≤1488:=by
  have h:=eq_of_beq h
  unfold enc7E at h
  split at h
  · split at h
    · exact absurd h (by decide)
    · omega
  · exact absurd h (by decide)
theorem lpk_soundF:SoundF Tryz.prog 31 (pureS Tryz.prog 31 FLpk):=by
  refine pure_in (gs:=lpkG Tryz.prog) (ls:=[]) mixed lpkG_ok trivial 31 100 fun args K ho H=>?_
  obtain ⟨mru,mc,mt,mf,wt,ec,lo,st,id,rq,ct,tm,nk,mg,pr,mu,pe,ne,d,ic,ii,ix,tk,hr,hx,hb,H⟩:=lpk_inv (G:=fun w=>wkA w) H
  rw [hr,lpk_tree]
  unfold lpk_treeT lpk_treeT_1
  extract_lets w0 w1 w2 w3 w4 w5 w6 w7 w8
  have A:∀ v,pktW ⟨mru,mc,mt,mf,wt,ec,lo,st,id,rq,d,ct,tm,nk,mg,pr,mu,pe,ne,tk,.l [],.l []⟩ ic ii ix=v→K (wkA v):=by rintro v rfl; exact H
  clear H
  have fit:∀ e ac ax (ad:D),(doW (rlM (rlA mg)) (rlG (rlA mg)) mc mt mf wt ⟨st,id,rq,d,ct,tm,nk⟩ e ic ii ix ac ax ad tk).out.len≤3∧(doW (rlM (rlA mg)) (rlG (rlA mg)) mc mt mf wt ⟨st,id,rq,d,ct,tm,nk⟩ e ic ii ix ac ax ad tk).did.len≤3∧(doW (rlM (rlA mg)) (rlG (rlA mg)) mc mt mf wt ⟨st,id,rq,d,ct,tm,nk⟩ e ic ii ix ac ax ad tk).a.d=d:=fun _ _ _ _=>doW_fit
  have hf1:w1.did.len≤3∧w1.a.d=d:=(fit _ _ _ _).2
  have hf3:w3.did.len≤3∧w3.a.d=d:=(fit _ _ _ _).2
  have hf5:w5.did.len≤3∧w5.a.d=d:=(fit _ _ _ _).2
  have hf7:w7.did.len≤3∧w7.a.d=d:=(fit _ _ _ _).2
  have fw:∀ r:DoneV,r.did.len≤3→_:=fun r hr=>fol_w ⟨mru,mc,mt,mf,wt,ec,lo,st,id,rq,d,ct,tm,nk,mg,pr,mu,pe,ne,tk,.l [],.l []⟩ r (by show 0+r.did.len≤_; unfold maxLen; omega)
  have E2:w2=evW ⟨mru,mc,mt,mf,wt,ec,lo,st,id,rq,d,ct,tm,nk,mg,pr,mu,pe,ne,tk,.l [],.l []⟩ (rlA mg) 15 ic ii ix 0 0 (.l []):=fw w1 hf1.1
  have E4:w4=evW ⟨mru,mc,mt,mf,wt,ec,lo,st,id,rq,d,ct,tm,nk,mg,pr,mu,pe,ne,tk,.l [],.l []⟩ (rlA mg) 14 ic ii ix 0 0 (.l []):=fw w3 hf3.1
  have E6:w6=evW ⟨mru,mc,mt,mf,wt,ec,lo,st,id,rq,d,ct,tm,nk,mg,pr,mu,pe,ne,tk,.l [],.l []⟩ (rlA mg) 16 ic ii ix 10 ii (D.app (mgD mg) (ix.sub 4 ix.len)):=fw w5 hf5.1
  have E8:w8=evW ⟨mru,mc,mt,mf,wt,ec,lo,st,id,rq,d,ct,tm,nk,mg,pr,mu,pe,ne,tk,.l [],.l []⟩ (rlA mg) 13 ic ii ix 0 0 (.l []):=fw w7 hf7.1
  have N:∀ (v:WkV),v.d=d→flwN v 0=true:=fun v h1=>by
    unfold flwN
    rw [h1,hb,Bool.and_true]
    exact det ⟨Int.le_refl _,by omega⟩
  clear_value w2 w4 w6 w8
  have off:pktW ⟨mru,mc,mt,mf,wt,ec,lo,st,id,rq,d,ct,tm,nk,mg,pr,mu,pe,ne,tk,.l [],.l []⟩ ic ii ix=⟨mru,mc,mt,mf,wt,ec,lo,st,id,rq,d,ct,tm,nk,mg,pr,mu,pe,ne,tk,.l [],.l []⟩→∃ y,Le (.tup [.agg [ai st,ai id,ai rq,asl opS d,ai ct,ai tm,ai nk,ai mg,ai pr,ai mu,ai pe,ai ne],.sc true (.slice none 0 0),.sc true (.slice none 0 0)]) y∧K y:=fun h =>
    ⟨_,le_two' (Le.refl _) (le_nil rfl) (le_nil rfl),A _ h⟩
  have pk:∀ b1 b2 b3 b4,(enc7E ic ii ix==0)=b1→lisB mru mc mt mf wt ec lo st id rq d ct tm nk mg pr mu pe ne=b2→decide (0≤tk)=b3→decide (tk≤1099511627776)=b4→pktW ⟨mru,mc,mt,mf,wt,ec,lo,st,id,rq,d,ct,tm,nk,mg,pr,mu,pe,ne,tk,.l [],.l []⟩ ic ii ix=bif b1&&(b2&&(b3&&b4)) then pkt1 ⟨mru,mc,mt,mf,wt,ec,lo,st,id,rq,d,ct,tm,nk,mg,pr,mu,pe,ne,tk,.l [],.l []⟩ ic ii ix else ⟨mru,mc,mt,mf,wt,ec,lo,st,id,rq,d,ct,tm,nk,mg,pr,mu,pe,ne,tk,.l [],.l []⟩:=by
    rintro b1 b2 b3 b4 rfl rfl rfl rfl; rfl
  rw [errIf_nz (by decide)]
  refine ⟨fun h1=>off ((pk false _ _ _ (by rw [bne,Bool.not_eq_true'] at h1; exact h1) rfl rfl rfl).trans rfl),fun h1=>⟨fun h2=>off ((pk _ false _ _ rfl (by rw [Bool.not_eq_true'] at h2; exact h2) rfl rfl).trans (by rw [Bool.false_and,Bool.and_false]; rfl)),fun h2=>⟨fun h3=>⟨fun h4=>off ((pk _ _ _ false rfl rfl rfl (by rw [Bool.not_eq_true'] at h4; exact h4)).trans (by rw [Bool.and_false,Bool.and_false,Bool.and_false]; rfl)),fun h4=>?_⟩,fun h3=>off ((pk _ _ false _ rfl rfl h3 rfl).trans (by rw [Bool.false_and,Bool.and_false,Bool.and_false]; rfl))⟩⟩⟩
  rw [bne,Bool.not_eq_false'] at h1
  rw [Bool.not_eq_false'] at h2 h4
  have pk:pktW ⟨mru,mc,mt,mf,wt,ec,lo,st,id,rq,d,ct,tm,nk,mg,pr,mu,pe,ne,tk,.l [],.l []⟩ ic ii ix=pkt1 ⟨mru,mc,mt,mf,wt,ec,lo,st,id,rq,d,ct,tm,nk,mg,pr,mu,pe,ne,tk,.l [],.l []⟩ ic ii ix:=(pk true true true true h1 h2 h3 h4).trans rfl
  have cnf:1≤ic∧ic≤7→(RT.br (bytesB ix&&optsB d) (.ok (wkA w0)) (.bad 299)).holds fun r=>∃ y,Le r y∧K y:=fun h=>by
    rw [hx,hb]
    exact holds_t ⟨_,Le.refl _,A w0 (pk.trans (pkt1_cnf h))⟩
  have X4:∀ j,j<ix.len→byR (byA ix j):=fun j hj=>bytes_at hx hj
  refine ⟨fun e1=>cnf (by have:=eq_of_beq e1; omega),fun e1=>⟨fun e2=>cnf (by have:=eq_of_beq e2; omega),fun e2=>⟨fun e3=>cnf (by have:=eq_of_beq e3; omega),fun e3=>⟨fun e4=>cnf (by have:=eq_of_beq e4; omega),fun e4=>⟨fun e5=>cnf (by have:=eq_of_beq e5; omega),fun e5=>⟨fun e6=>cnf (by have:=eq_of_beq e6; omega),fun e6=>⟨fun e7=>cnf (by have:=eq_of_beq e7; omega),fun e7=>⟨fun e8=>?_,fun e8=>⟨fun e9=>?_,fun e9=>⟨fun e10=>?_,fun e10=>⟨fun e11=>?_,fun e11=>?_⟩⟩⟩⟩⟩⟩⟩⟩⟩⟩⟩
  · obtain rfl:ic=8:=eq_of_beq e8
    refine holds_t_of (rngB_by hx) ⟨fun hj=>?_,fun hj=>⟨fun hs=>off (pk.trans (pkt1_off (by decide) (by show (st != 9||_)=true; rw [hs]; rfl))),fun hs=>?_⟩⟩
    · rw [Bool.not_eq_true'] at hj
      cases hs:st != 9
      · exact off (pk.trans ((pkt1_rej hs).trans (by rw [hj]; rfl)))
      · exact off (pk.trans (pkt1_off (by decide) (by show (st != 9||_)=true; rw [hs]; rfl)))
    · rw [Bool.not_eq_false'] at hj
      have P:=pk.trans (pkt1_rej hs)
      rw [hj,cond_true] at P
      refine ⟨fun hp=>holds_t (holds_t_of (N _ hf1.2) ⟨_,Le.refl _,A w2 (P.trans ?_)⟩),fun hp=>holds_t (holds_t_of (N _ hf3.2) ⟨_,Le.refl _,A w4 (P.trans ?_)⟩)⟩
      · rw [hp,E2]; rfl
      · rw [hp,E4]; rfl
  · obtain rfl:ic=9:=eq_of_beq e9
    refine ⟨fun hs=>?_,fun hs=>off (pk.trans (pkt1_off (by decide) (by show (st != 9||_)=true; rw [bne,hs]; rfl)))⟩
    have hs:(st != 9)=false:=by rw [bne,hs]; rfl
    have P:=pk.trans (pkt1_req hs)
    refine ⟨fun hl=>?_,fun hl=>off (P.trans (by rw [det (show ix.len<4 by have:=odf hl; omega)]; rfl))⟩
    have hl:=odt hl
    rw [def_ (show ¬ ix.len<4 by omega),Bool.false_or] at P
    have hm:=enc7_le h1
    have sl:(ix.sub 0 4).len=4:=sub_len (by omega) (by omega)
    have hq:(decide ((ix.sub 0 4).len=4∧(4:Nat)=4)&&(bytesB (ix.sub 0 4)&&bytesB (mgD mg)))=true:=by rw [det ⟨sl,rfl⟩,bytes_sub hx (by omega) (by omega),beD_bytes]; rfl
    refine holds_t_of (det ⟨by omega,by omega,by omega,by omega⟩) (holds_t_of (wrap64_ok mg) (holds_t_of hq ⟨fun he=>?_,fun he=>off (P.trans ?_)⟩))
    · rw [Bool.not_eq_true'] at he
      have hd:decide ((4+(ix.sub 4 (Int.toNat (ix.len:Int))).len)*1≤140737488355328)=true:=by
        rw [Int.toNat_natCast,sub_len (by omega) (by omega)]
        exact det (by omega)
      refine holds_t_of (det ⟨by omega,by omega,by omega,by omega⟩) (holds_t_of (wrap64_ok mg) (holds_t_of hd (holds_t (holds_t_of (N _ hf5.2) ⟨_,Le.refl _,A w6 (P.trans ?_)⟩))))
      rw [show eqB (ix.sub 0 4) (mgD mg)=false from he,E6]; rfl
    · rw [Bool.not_eq_false'] at he
      rw [show eqB (ix.sub 0 4) (mgD mg)=true from he]; rfl
  · obtain rfl:ic=10:=eq_of_beq e10
    refine ⟨fun hs=>?_,fun hs=>off (pk.trans (pkt1_off (by decide) (by show (st != 9||_)=true; rw [bne,hs]; rfl)))⟩
    have hs:(st != 9)=false:=by rw [bne,hs]; rfl
    have P:=pk.trans (pkt1_rep hs)
    refine ⟨fun hl=>?_,fun hl=>off (P.trans (by rw [det (show ix.len<4 by have:=odf hl; omega)]; rfl))⟩
    have hl:=odt hl
    rw [def_ (show ¬ ix.len<4 by omega),Bool.false_or] at P
    have sl:(ix.sub 0 4).len=4:=sub_len (by omega) (by omega)
    have hq:(decide ((ix.sub 0 4).len=4∧(4:Nat)=4)&&(bytesB (ix.sub 0 4)&&bytesB (mgD mg)))=true:=by rw [det ⟨sl,rfl⟩,bytes_sub hx (by omega) (by omega),beD_bytes]; rfl
    refine holds_t_of (det ⟨by omega,by omega,by omega,by omega⟩) (holds_t_of (wrap64_ok mg) (holds_t_of hq ⟨fun he=>?_,fun he=>off (P.trans ?_)⟩))
    · rw [Bool.not_eq_true'] at he
      exact ⟨_,le_two' (le_agg (leL_cons (Le.refl _) (leL_cons (Le.refl _) (leL_cons (Le.refl _) (leL_cons (Le.refl _) (leL_cons (Le.refl _) (leL_cons (Le.refl _) (leL_cons (Le.refl _) (leL_cons (Le.refl _) (leL_cons (Le.refl _) (leL_cons (Le.refl _) (leL_cons (le_int rfl) (leL_cons (Le.refl _) leL_nil))))))))))))) (le_nil rfl) (le_nil rfl),A ⟨mru,mc,mt,mf,wt,ec,lo,st,id,rq,d,ct,tm,nk,mg,pr,mu,0,ne,tk,.l [],.l []⟩ (P.trans (by rw [show eqB (ix.sub 0 4) (mgD mg)=false from he]; rfl))⟩
    · rw [Bool.not_eq_false'] at he
      rw [show eqB (ix.sub 0 4) (mgD mg)=true from he]; rfl
  · obtain rfl:ic=11:=eq_of_beq e11
    exact off (pk.trans (pkt1_off (by decide) (Bool.or_true _)))
  · refine holds_t (holds_t_of (N _ hf7.2) ⟨_,Le.refl _,A w8 (pk.trans ((pkt1_ruc ?_).trans E8.symm))⟩)
    rw [beq_eq_false_iff_ne] at e1 e2 e3 e4 e5 e6 e7 e8 e9 e10 e11
    omega
def lstU (x:D):Nat→Int
  | 0=>0
  | i+1=>bif acI x i==1 then 1 else bif acI x i==2 then 2 else lstU x i
theorem flN_lst (x:D) (ec tk ne:Int):∀ n,flN x ec tk ne n=bif lstU x n==1 then (bif decide (0<ec) then IntKind.wrap .i64 (tk+ec) else 0) else bif lstU x n==2 then 0 else ne
  | 0=>rfl
  | n+1=>by
    show (bif acI x n==1 then (bif decide (0<ec) then IntKind.wrap .i64 (tk+ec) else 0) else bif acI x n==2 then 0 else flN x ec tk ne n)=bif (bif acI x n==1 then 1 else bif acI x n==2 then 2 else lstU x n:Int)==1 then _ else bif (bif acI x n==1 then 1 else bif acI x n==2 then 2 else lstU x n:Int)==2 then 0 else ne
    rw [flN_lst x ec tk ne n]
    cases acI x n==1 <;> cases acI x n==2 <;> rfl
theorem flP_or (x:D) (pe:Int):∀ n,flP x pe n=0∨flP x pe n=pe
  | 0=>.inr rfl
  | n+1=>by
    show (bif acI x n==1||acI x n==2 then 0 else flP x pe n)=0∨(bif acI x n==1||acI x n==2 then 0 else flP x pe n)=pe
    cases acI x n==1||acI x n==2
    · exact flP_or x pe n
    · exact .inl rfl
def timU (x:D):Nat→Nat→Bool
  | 0,_=>false
  | m+1,i=>(acI x i==6||(acI x i==7||acI x i==10))||timU x m (i+1)
theorem actF_tm (c:DoC) (a:Int) (v:DoV):(actF c a v).tm=bif a==6||(a==7||a==10) then IntKind.wrap .i64 (c.tk+c.wt) else v.tm:=by
  unfold actF
  by_cases h5:a=5
  · subst h5; rfl
  by_cases h6:a=6
  · subst h6; rfl
  by_cases h7:a=7
  · subst h7; rfl
  by_cases h8:a=8
  · subst h8; rfl
  by_cases h9:a=9
  · subst h9; rfl
  by_cases h10:a=10
  · subst h10; rfl
  rw [beq_false_of_ne h5,beq_false_of_ne h6,beq_false_of_ne h7,beq_false_of_ne h8,beq_false_of_ne h9,beq_false_of_ne h10]
  cases a==11 <;> cases a==12 <;> cases a==13 <;> rfl
theorem acts_tm {c:DoC} {did:D}:∀ (m i:Nat) (v:DoV),(actsF c did m i v).tm=bif timU did m i then IntKind.wrap .i64 (c.tk+c.wt) else v.tm
  | 0,_,_=>rfl
  | m+1,i,v=>by
    show (actsF c did m (i+1) (actF c (acI did i) v)).tm=bif (acI did i==6||(acI did i==7||acI did i==10))||timU did m (i+1) then _ else v.tm
    rw [acts_tm m (i+1),actF_tm]
    cases acI did i==6||(acI did i==7||acI did i==10) <;> cases timU did m (i+1) <;> rfl
def stpK (st e:Int):Bool:=inB (rfcN st e) 0 9&&((bif lstU (rfcD st e) (rfcD st e).len==1 then rfcN st e==9 else bif lstU (rfcD st e) (rfcD st e).len==2 then true else !(st==9)||rfcN st e==9)&&(!tmdB (rfcN st e)||(tmdB st||timU (rfcD st e) (rfcD st e).len 0)))
theorem stpK_all:((List.range 10).all fun i=>(List.range 16).all fun j=>!(rfcE (i:Int) ((j+1:Nat):Int)==0)||stpK (i:Int) ((j+1:Nat):Int))=true:=by kernel_rfl
theorem stpK_of {st e:Int} (h:(rfcE st e==0)=true):stpK st e=true:=by
  have hb:rfcB st e=true:=by
    cases hb:rfcB st e
    · unfold rfcE at h; rw [hb] at h; cases h
    · rfl
  obtain ⟨⟨h1,h2⟩,h3,h4⟩:=odt hb
  obtain ⟨i,hi⟩:∃ i:Nat,st=i:=⟨st.toNat,by omega⟩
  obtain ⟨j,hj⟩:∃ j:Nat,e=((j+1:Nat):Int):=⟨e.toNat - 1,by omega⟩
  subst hi; subst hj
  have:=List.all_eq_true.1 (List.all_eq_true.1 stpK_all i (List.mem_range.2 (by omega))) j (List.mem_range.2 (by omega))
  rw [h] at this
  exact this
def vOk (v:DoV):Prop:=(0≤v.id∧v.id≤255)∧(0≤v.rq∧v.rq≤255)∧(0≤v.ct∧v.ct≤1000)∧(0≤v.nk∧v.nk≤1000)
theorem numN_rng {i:Int} (h:0≤i∧i≤255):0≤numN i∧numN i≤255:=by
  unfold numN
  rw [i64_id ⟨by omega,by omega⟩,Int.tmod_eq_emod_of_nonneg (by omega)]
  omega
theorem cntN_rng {i:Int} (h:0≤i∧i≤1000):0≤cntN i∧cntN i≤1000:=by
  unfold cntN imax
  by_cases h0:i=0
  · subst h0
    have:IntKind.wrap .i64 (0 - 1)=-1:=by decide
    rw [this]; decide
  · rw [i64_id ⟨by omega,by omega⟩]
    split <;> omega
theorem actF_ok {c:DoC} {a:Int} {v:DoV} (hc:1≤c.mc∧c.mc≤1000) (ht:1≤c.mt∧c.mt≤1000) (h:vOk v):vOk (actF c a v):=by
  obtain ⟨h1,h2,h3,h4⟩:=h
  have n1:=numN_rng h1
  have c1:=cntN_rng h3
  unfold actF
  cases a==5
  rotate_left
  · simp only [cond_true]
    refine ⟨h1,h2,?_,h4⟩
    show 0≤(bif hasA c.didr 10 then c.mt else c.mc)∧(bif hasA c.didr 10 then c.mt else c.mc)≤1000
    cases hasA c.didr 10
    · show 0≤c.mc∧c.mc≤1000; omega
    · show 0≤c.mt∧c.mt≤1000; omega
  cases a==6
  rotate_left
  · refine ⟨h1,h2,?_,h4⟩
    show (0:Int)≤0∧(0:Int)≤1000
    decide
  cases a==7
  rotate_left
  · exact ⟨n1,n1,c1,h4⟩
  cases a==8
  rotate_left
  · refine ⟨h1,h2,h3,?_⟩
    show (0:Int)≤0∧(0:Int)≤1000
    decide
  cases a==9
  rotate_left
  · simp only [cond_true,cond_false]
    refine ⟨h1,h2,h3,?_⟩
    show 0≤(bif c.ac==3 then imin (IntKind.wrap .i64 (v.nk+1)) 1000 else v.nk)∧(bif c.ac==3 then imin (IntKind.wrap .i64 (v.nk+1)) 1000 else v.nk)≤1000
    cases c.ac==3
    · exact h4
    · show 0≤imin (IntKind.wrap .i64 (v.nk+1)) 1000∧imin (IntKind.wrap .i64 (v.nk+1)) 1000≤1000
      rw [i64_id ⟨by omega,by omega⟩]
      unfold imin; split <;> omega
  cases a==10
  rotate_left
  · exact ⟨n1,h2,c1,h4⟩
  cases a==11
  rotate_left
  · exact ⟨h1,h2,h3,h4⟩
  cases a==12
  rotate_left
  · exact ⟨n1,h2,h3,h4⟩
  cases a==13
  · exact ⟨h1,h2,h3,h4⟩
  · exact ⟨h1,h2,h3,h4⟩
theorem acts_ok {c:DoC} {did:D} (hc:1≤c.mc∧c.mc≤1000) (ht:1≤c.mt∧c.mt≤1000):∀ (m i:Nat) (v:DoV),vOk v→vOk (actsF c did m i v)
  | 0,_,_,h=>h
  | m+1,i,_,h=>acts_ok hc ht m (i+1) _ (actF_ok hc ht h)
def soundA (a:AuV):Bool:=soundB a.st a.id a.rq a.d a.ct a.tm a.nk
theorem soundA_iff (a:AuV):soundA a=true↔(0≤a.st∧a.st≤9)∧(0≤a.id∧a.id≤255)∧(0≤a.rq∧a.rq≤255)∧(0≤a.ct∧a.ct≤1000)∧(0≤a.nk∧a.nk≤1000)∧encE a.d=0∧(((4≤a.st∧a.st≤8)∧1≤a.tm∧a.tm≤1099512676352)∨(¬ (4≤a.st∧a.st≤8)∧a.tm=0)):=soundB_iff _ _ _ _ _ _ _ _ rfl
def neOk (ec st ne:Int):Prop:=ne=0∨(st=9∧0<ec∧1≤ne∧ne≤1099512676352)
structure Kp (ec tk:Int) (a:AuV) (r:DoneV):Prop where
  snd:soundA a=true→soundA r.a=true
  nec:∀ ne,neOk ec a.st ne→neOk ec r.a.st (flN r.did ec tk ne r.did.len)
theorem kp_stay {ec tk:Int} {a:AuV}:Kp ec tk a (stayV a):=⟨fun h=>h,fun _ h=>h⟩
theorem setB_iff (m g b c d e:Int):setB m g b c d e=true↔rulesB m g=true∧(1≤b∧b≤1000)∧(1≤c∧c≤1000)∧(0≤d∧d≤1000)∧(1≤e∧e≤1048576):=by
  simp only [setB,inB,Bool.and_eq_true,decide_eq_true_eq]
theorem kp_doW {ec tk m g mc mt mf wt:Int} {a:AuV} {e ic ii:Int} {ix:D} {ac ax:Int} {ad:D} (hec:0≤ec∧ec≤1048576):Kp ec tk a (doW m g mc mt mf wt a e ic ii ix ac ax ad tk):=by
  cases hb:doB m g mc mt mf wt a e tk
  · rw [doW_off hb]; exact kp_stay
  · have hd:=doW_on (ic:=ic) (ii:=ii) (ix:=ix) (ac:=ac) (ax:=ax) (ad:=ad) hb
    unfold doB mayB at hb
    rw [Bool.and_eq_true,Bool.and_eq_true,Bool.and_eq_true] at hb
    obtain ⟨⟨hs,ha,ht⟩,he⟩:=hb
    have ht:0≤tk∧tk≤1099511627776:=odt ht
    obtain ⟨_,hmc,hmt,_,hw⟩:=(setB_iff _ _ _ _ _ _).1 hs
    have hk:=stpK_of he
    unfold stpK at hk
    rw [Bool.and_eq_true,Bool.and_eq_true] at hk
    obtain ⟨k1,k2,k3⟩:=hk
    have k1:0≤rfcN a.st e∧rfcN a.st e≤9:=odt k1
    obtain ⟨s1,s2,s3,s4,s5,s6,s7⟩:=(soundA_iff a).1 ha
    have V:=acts_ok (c:=doK m g mc mt mf wt a.st e a.d ic ii ix ac ax ad tk) (did:=rfcD a.st e) hmc hmt (rfcD a.st e).len 0 ⟨a.id,a.rq,a.ct,a.tm,a.nk,.l []⟩ ⟨s2,s3,s4,s5⟩
    have T:=acts_tm (c:=doK m g mc mt mf wt a.st e a.d ic ii ix ac ax ad tk) (did:=rfcD a.st e) (rfcD a.st e).len 0 ⟨a.id,a.rq,a.ct,a.tm,a.nk,.l []⟩
    have T:(doR m g mc mt mf wt a e ic ii ix ac ax ad tk).tm=bif timU (rfcD a.st e) (rfcD a.st e).len 0 then IntKind.wrap .i64 (tk+wt) else a.tm:=T
    have V:vOk (doR m g mc mt mf wt a e ic ii ix ac ax ad tk):=V
    rw [hd]
    generalize doR m g mc mt mf wt a e ic ii ix ac ax ad tk=v at T V
    obtain ⟨v1,v2,v3,v4⟩:=V
    rw [i64_id (n:=tk+wt) ⟨by omega,by omega⟩] at T
    refine ⟨fun _=>(soundA_iff _).2 ⟨k1,v1,v2,v3,v4,s6,?_⟩,fun ne hne=>?_⟩
    · dsimp only
      cases hm:tmdB (rfcN a.st e)
      · exact .inr ⟨odf hm,rfl⟩
      · refine .inl ⟨odt hm,?_⟩
        rw [cond_true,T]
        rw [hm] at k3
        cases hu:timU (rfcD a.st e) (rfcD a.st e).len 0
        · rw [hu,Bool.or_false] at k3
          have k3:4≤a.st∧a.st≤8:=odt k3
          rw [cond_false]
          rcases s7 with s7 | s7
          · exact s7.2
          · exact absurd k3 s7.1
        · rw [cond_true]; omega
    · dsimp only
      rw [flN_lst]
      cases h1:lstU (rfcD a.st e) (rfcD a.st e).len==1
      · rw [cond_false]
        rw [h1,cond_false] at k2
        cases h2:lstU (rfcD a.st e) (rfcD a.st e).len==2
        · rw [h2,cond_false] at k2
          rw [cond_false]
          rcases hne with hne | ⟨hs9,hr⟩
          · exact .inl hne
          · rw [hs9] at k2
            exact .inr ⟨by rw [hs9]; exact eq_of_beq k2,hr⟩
        · exact .inl rfl
      · rw [cond_true]
        rw [h1,cond_true] at k2
        cases hz:decide (0<ec)
        · exact .inl rfl
        · have hz:=odt hz
          rw [cond_true,i64_id (n:=tk+ec) ⟨by omega,by omega⟩]
          exact .inr ⟨eq_of_beq k2,hz,by omega,by omega⟩
abbrev auW (w:WkV):AuV:=⟨w.st,w.id,w.rq,w.d,w.ct,w.tm,w.nk⟩
theorem lisW_iff (w:WkV):lisW w=true↔fitsB w.mru w.mc w.mt w.mf w.wt w.ec w.lo=true∧(1≤w.mg∧w.mg≤4294967295)∧(0≤w.pr∧w.pr≤4294967295)∧(128≤w.mu∧w.mu≤1492)∧(0≤w.pe∧w.pe≤1000)∧soundA (auW w)=true∧neOk w.ec w.st w.ne:=lisB_iff _ _ _ _ _ _ _ _ _ _ _ _ _ _ _ _ _ _ _
theorem lis_ec {w:WkV} (h:lisW w=true):0≤w.ec∧w.ec≤1048576:=by
  have:=(fitsB_iff _ _ _ _ _ _ _).1 ((lisW_iff w).1 h).1
  exact this.2.2.2.2.2.1
theorem fol_keep {w:WkV} {r:DoneV} (h:lisW w=true) (hk:Kp w.ec w.tick (auW w) r) (hb:optsB r.a.d=true):lisW (folW w r)=true:=by
  obtain ⟨h1,h2,h3,h4,h5,h6,h7⟩:=(lisW_iff w).1 h
  refine (lisW_iff _).2 ⟨h1,mgV_rng hb h2,h3,h4,?_,hk.snd h6,hk.nec _ h7⟩
  show 0≤flP r.did w.pe r.did.len∧flP r.did w.pe r.did.len≤1000
  rcases flP_or r.did w.pe r.did.len with e | e <;> rw [e] <;> omega
theorem ev_keep {w:WkV} {e ic ii:Int} {ix:D} {ac ax:Int} {ad:D} (h:lisW w=true) (hb:optsB w.d=true):lisW (evW w (rlA w.mg) e ic ii ix ac ax ad)=true∧optsB (evW w (rlA w.mg) e ic ii ix ac ax ad).d=true:=by
  have hd:(evR w (rlA w.mg) e ic ii ix ac ax ad).a.d=w.d:=doW_fit.2.2
  exact ⟨fol_keep h (kp_doW (lis_ec h)) (by rw [hd]; exact hb),by show optsB (evR w (rlA w.mg) e ic ii ix ac ax ad).a.d=true; rw [hd]; exact hb⟩
theorem ack_of {r d:D} {nk mo:Int} (h:ansC r d nk mo=2):(oddL r d).len=0∧(nakL r d).len=0:=by
  unfold ansC at h
  cases hr:okR r
  · rw [hr,cond_false] at h; exact absurd h (by decide)
  rw [hr,cond_true] at h
  by_cases h1:0<(oddL r d).len
  · rw [if_pos h1] at h; exact absurd h (by decide)
  rw [if_neg h1] at h
  by_cases h2:(nakL r d).len=0
  · exact ⟨by omega,h2⟩
  rw [if_neg h2] at h
  by_cases h3:mo≤nk∧0<(bdL r d).len
  · rw [if_pos h3] at h; exact absurd h (by decide)
  · rw [if_neg h3] at h; exact absurd h (by decide)
structure smaX where
  (x y:D)
structure sacX where
  (x y:D)
structure rnsX where
  l:D
  (tk mru mc mt mf wt ec lo st id rq:Int)
  d:D
  (ct tm nk mg pr mu pe ne:Int)
theorem asks_enc (a m:Int):encE (asksD a m)=0:=by kernel_rfl
theorem asks_by (a m:Int):optsB (asksD a m)=true:=by
  have hl:(asksD a m).len=2:=rfl
  have e0:optB (asksD a m) 0=byL (uns a) 2:=rfl
  have e1:optB (asksD a m) 1=byL (uns m) 4:=rfl
  refine det fun i hi j hj=>?_
  rw [hl] at hi
  match i,hi with
  | 0,_ =>
    rw [e0] at hj ⊢
    have hj:j<2:=hj
    match j,hj with
    | 0,_=>exact byI_rng (uns a) 2 0
    | 1,_=>exact byI_rng (uns a) 2 1
  | 1,_ =>
    rw [e1] at hj ⊢
    have hj:j<4:=hj
    match j,hj with
    | 0,_=>exact byI_rng (uns m) 4 0
    | 1,_=>exact byI_rng (uns m) 4 1
    | 2,_=>exact byI_rng (uns m) 4 2
    | 3,_=>exact byI_rng (uns m) 4 3
def FNw:List AV→RT AV
  | [.agg [.sc false (.int .i64 a),.sc false (.int .i64 b),.sc false (.int .i64 c),.sc false (.int .i64 e),.sc false (.int .i64 f),.sc false (.int .i64 g),.sc false (.int .i64 h)],.sc false (.int .i64 m)]=>need false (newB a b c e f g h m) 320 (.ok (newY a m))
  | _=>.bad 320
abbrev lK (st id rq:Int) (d:D) (ct tm nk mg pr mu pe ne:Int):AV:=.agg [.sc true (.int .i64 st),ai id,ai rq,.sl true opS d none,ai ct,ai tm,ai nk,ai mg,ai pr,ai mu,ai pe,ai ne]
abbrev nlO (es:List Sh):AV:=.sl true es (.l []) none
def FDm:List AV→RT AV
  | [.agg [.sc false (.int .i64 mru),.sc false (.int .i64 mc),.sc false (.int .i64 mt),.sc false (.int .i64 mf),.sc false (.int .i64 wt),.sc false (.int .i64 ec),.sc false (.int .i64 lo)],
     .agg [.sc false (.int .i64 st),.sc false (.int .i64 id),.sc false (.int .i64 rq),.sl false [.int .i64,.sl [.int .u8]] d none,.sc false (.int .i64 ct),.sc false (.int .i64 tm),.sc false (.int .i64 nk),.sc false (.int .i64 mg),.sc false (.int .i64 pr),.sc false (.int .i64 mu),.sc false (.int .i64 pe),.sc false (.int .i64 ne)],.sc false (.int .i64 e),.sc false (.int .i64 tk)] =>
    need false (onB ⟨mru,mc,mt,mf,wt,ec,lo,st,id,rq,d,ct,tm,nk,mg,pr,mu,pe,ne,tk,.l [],.l []⟩&&optsB d) 321
      (bif st==0&&e==1 then .ok (.tup [lK 2 id rq d ct 0 nk (mgV d mg) pr mu pe ne,nlO ctS,nlO acS])
       else bif st==0&&e==3 then .ok (.tup [lK 1 id rq d ct 0 nk (mgV d mg) pr mu pe ne,nlO ctS,asl acS (.l [.t [.i 3]])])
       else bif (st==2&&e==3)||(st==1&&e==1) then .ok (.tup [lK 6 (numN id) (numN id) d (cntN mc) (IntKind.wrap .i64 (tk+wt)) nk (mgV d mg) pr mu pe ne,.sl true ctS (.l [.t [.ki 1,.i (numN id),encO d]]) none,asl acS (.l [.t [.i 5],.t [.i 7]])])
       else .bad 322)
  | _=>.bad 321
def gd (lo md x:Int):Int:=IntKind.wrap .i64 (lo+IntKind.wrap .i64 (Int.tmod (IntKind.wrap .u64 x) md))
def gd0 (md x:Int):Int:=IntKind.wrap .i64 (Int.tmod (IntKind.wrap .u64 x) md)
def FGd:List AV→RT AV
  | [.agg [.sc false (.int .i64 a),.sc false (.int .i64 b),.sc false (.int .i64 c),.sc false (.int .i64 e),.sc false (.int .i64 f),.sc false (.int .i64 g),.sc false (.int .i64 h)]]=>.ok (.agg [ai (gd 128 1365 a),ai (gd 1 9 b),ai (gd 1 4 c),ai (gd 2 5 e),ai (gd 1 9 f),ai (gd0 12 g),ai (gd 1 4 h)])
  | _=>.bad 323
theorem good_tree (a b c e f g h:Int):treeF (evF Tryz.prog (gam ([])) (lam ([])) 100 22) [cfgA a b c e f g h] =
RT.br true (RT.br true (RT.br true (RT.br true (RT.br true (RT.br true (RT.br true (RT.ok (AV.agg [zi (IntKind.wrap IntKind.i64 (128+IntKind.wrap IntKind.i64 (Int.tmod (IntKind.wrap IntKind.u64 a) 1365))),zi (IntKind.wrap IntKind.i64 (1+IntKind.wrap IntKind.i64 (Int.tmod (IntKind.wrap IntKind.u64 b) 9))),zi (IntKind.wrap IntKind.i64 (1+IntKind.wrap IntKind.i64 (Int.tmod (IntKind.wrap IntKind.u64 c) 4))),zi (IntKind.wrap IntKind.i64 (2+IntKind.wrap IntKind.i64 (Int.tmod (IntKind.wrap IntKind.u64 e) 5))),zi (IntKind.wrap IntKind.i64 (1+IntKind.wrap IntKind.i64 (Int.tmod (IntKind.wrap IntKind.u64 f) 9))),zi (IntKind.wrap IntKind.i64 (Int.tmod (IntKind.wrap IntKind.u64 g) 12)),zi (IntKind.wrap IntKind.i64 (1+IntKind.wrap IntKind.i64 (Int.tmod (IntKind.wrap IntKind.u64 h) 4)))])) (RT.bad 21)) (RT.bad 21)) (RT.bad 21)) (RT.bad 21)) (RT.bad 21)) (RT.bad 21)) (RT.bad 21):=by rw [← fvF_eq Tryz.prog (gam ([])) (lam ([])) false 100 22]; kernel_rfl
theorem ldm_tree (mru mc mt mf wt ec lo st id rq:Int) (d:D) (ct tm nk mg pr mu pe ne e tk:Int):treeF (pureS Tryz.prog 50 FLdo) [cnfA mru mc mt mf wt ec lo,lcpA st id rq d ct tm nk mg pr mu pe ne,ai e,ai tk] =
RT.br (optsB d) (RT.ok (AV.tup [AV.agg [zi (WkV.st (ldoW (WkV.mk mru mc mt mf wt ec lo st id rq d ct tm nk mg pr mu pe ne tk (D.l []) (D.l [])) e)),zi (WkV.id (ldoW (WkV.mk mru mc mt mf wt ec lo st id rq d ct tm nk mg pr mu pe ne tk (D.l []) (D.l [])) e)),zi (WkV.rq (ldoW (WkV.mk mru mc mt mf wt ec lo st id rq d ct tm nk mg pr mu pe ne tk (D.l []) (D.l [])) e)),zs zO (WkV.d (ldoW (WkV.mk mru mc mt mf wt ec lo st id rq d ct tm nk mg pr mu pe ne tk (D.l []) (D.l [])) e)),zi (WkV.ct (ldoW (WkV.mk mru mc mt mf wt ec lo st id rq d ct tm nk mg pr mu pe ne tk (D.l []) (D.l [])) e)),zi (WkV.tm (ldoW (WkV.mk mru mc mt mf wt ec lo st id rq d ct tm nk mg pr mu pe ne tk (D.l []) (D.l [])) e)),zi (WkV.nk (ldoW (WkV.mk mru mc mt mf wt ec lo st id rq d ct tm nk mg pr mu pe ne tk (D.l []) (D.l [])) e)),zi (WkV.mg (ldoW (WkV.mk mru mc mt mf wt ec lo st id rq d ct tm nk mg pr mu pe ne tk (D.l []) (D.l [])) e)),zi (WkV.pr (ldoW (WkV.mk mru mc mt mf wt ec lo st id rq d ct tm nk mg pr mu pe ne tk (D.l []) (D.l [])) e)),zi (WkV.mu (ldoW (WkV.mk mru mc mt mf wt ec lo st id rq d ct tm nk mg pr mu pe ne tk (D.l []) (D.l [])) e)),zi (WkV.pe (ldoW (WkV.mk mru mc mt mf wt ec lo st id rq d ct tm nk mg pr mu pe ne tk (D.l []) (D.l [])) e)),zi (WkV.ne (ldoW (WkV.mk mru mc mt mf wt ec lo st id rq d ct tm nk mg pr mu pe ne tk (D.l []) (D.l [])) e))],zs zC (WkV.out (ldoW (WkV.mk mru mc mt mf wt ec lo st id rq d ct tm nk mg pr mu pe ne tk (D.l []) (D.l [])) e)),zs zN (WkV.did (ldoW (WkV.mk mru mc mt mf wt ec lo st id rq d ct tm nk mg pr mu pe ne tk (D.l []) (D.l [])) e))])) (RT.bad 307):=by kernel_rfl
theorem gd_rng {lo md x:Int} (h:0≤lo∧lo≤1000) (hm:0<md∧md≤100000):lo≤gd lo md x∧gd lo md x<lo+md:=by
  have hw:0≤IntKind.wrap .u64 x:=by have:IntKind.wrap .u64 x=x % 18446744073709551616:=rfl; omega
  have h1:=Int.emod_nonneg (IntKind.wrap .u64 x) (show md≠0 by omega)
  have h2:=Int.emod_lt_of_pos (IntKind.wrap .u64 x) hm.1
  unfold gd
  rw [Int.tmod_eq_emod_of_nonneg hw]
  rw [i64_id (n:=IntKind.wrap .u64 x % md) ⟨by omega,by omega⟩,i64_id ⟨by omega,by omega⟩]
  omega
theorem gd0_rng {md x:Int} (hm:0<md∧md≤100000):0≤gd0 md x∧gd0 md x<md:=by
  have hw:0≤IntKind.wrap .u64 x:=by have:IntKind.wrap .u64 x=x % 18446744073709551616:=rfl; omega
  have h1:=Int.emod_nonneg (IntKind.wrap .u64 x) (show md≠0 by omega)
  have h2:=Int.emod_lt_of_pos (IntKind.wrap .u64 x) hm.1
  unfold gd0
  rw [Int.tmod_eq_emod_of_nonneg hw]
  rw [i64_id (n:=IntKind.wrap .u64 x % md) ⟨by omega,by omega⟩]
  omega
theorem good_soundF:SoundF Tryz.prog 22 (pureS Tryz.prog 22 FGd):=by
  refine pure_in (gs:=[]) (ls:=[]) mixed trivial trivial 22 100 fun args K ho H=>?_
  unfold FGd at H
  split at H
  · rename_i a b c e f g h
    rw [good_tree]
    exact holds_t (holds_t (holds_t (holds_t (holds_t (holds_t (holds_t ⟨_,Le.refl _,H⟩))))))
  · exact H.elim
theorem lnw_soundF:SoundF Tryz.prog 9 (pureS Tryz.prog 9 FNw):=by
  refine pure_mono lnew_soundF fun args K H=>?_
  unfold FNw at H
  split at H
  · obtain ⟨hc,H⟩:=need_holds H
    exact ⟨fun _=>H,fun h=>by rw [hc] at h; cases h⟩
  · exact H.elim
theorem doB_of {w:WkV} {e:Int} (h:onB w=true) (he:(rfcE w.st e==0)=true):doB (rlM (rlA w.mg)) (rlG (rlA w.mg)) w.mc w.mt w.mf w.wt (auW w) e w.tick=true:=by
  unfold onB at h
  rw [Bool.and_eq_true] at h
  obtain ⟨h1,ht⟩:=h
  obtain ⟨hf,hm,_,_,_,hs,_⟩:=(lisW_iff w).1 h1
  unfold doB mayB
  rw [Bool.and_eq_true,Bool.and_eq_true,Bool.and_eq_true]
  refine ⟨⟨setB_fits hf (oth_may hm.1 hm.2).1,hs,?_⟩,he⟩
  rw [Bool.and_eq_true] at ht
  exact det ⟨odt ht.1,odt ht.2⟩
theorem do_01 {mru mc mt mf wt ec lo id rq:Int} {d:D} {ct tm nk mg pr mu pe ne tk:Int} (h:onB ⟨mru,mc,mt,mf,wt,ec,lo,0,id,rq,d,ct,tm,nk,mg,pr,mu,pe,ne,tk,.l [],.l []⟩=true) :
    ldoW ⟨mru,mc,mt,mf,wt,ec,lo,0,id,rq,d,ct,tm,nk,mg,pr,mu,pe,ne,tk,.l [],.l []⟩ 1=⟨mru,mc,mt,mf,wt,ec,lo,2,id,rq,d,ct,0,nk,mgV d mg,pr,mu,pe,ne,tk,.l [],.l []⟩:=by
  unfold ldoW
  rw [h]
  show evW _ (rlA mg) 1 0 0 (.l []) 0 0 (.l [])=_
  unfold evW evR
  rw [doW_on (doB_of h rfl)]
  rfl
theorem do_03 {mru mc mt mf wt ec lo id rq:Int} {d:D} {ct tm nk mg pr mu pe ne tk:Int} (h:onB ⟨mru,mc,mt,mf,wt,ec,lo,0,id,rq,d,ct,tm,nk,mg,pr,mu,pe,ne,tk,.l [],.l []⟩=true) :
    ldoW ⟨mru,mc,mt,mf,wt,ec,lo,0,id,rq,d,ct,tm,nk,mg,pr,mu,pe,ne,tk,.l [],.l []⟩ 3=⟨mru,mc,mt,mf,wt,ec,lo,1,id,rq,d,ct,0,nk,mgV d mg,pr,mu,pe,ne,tk,.l [],.l [.t [.i 3]]⟩:=by
  unfold ldoW
  rw [h]
  show evW _ (rlA mg) 3 0 0 (.l []) 0 0 (.l [])=_
  unfold evW evR
  rw [doW_on (doB_of h rfl)]
  rfl
theorem do_23 {mru mc mt mf wt ec lo id rq:Int} {d:D} {ct tm nk mg pr mu pe ne tk:Int} (h:onB ⟨mru,mc,mt,mf,wt,ec,lo,2,id,rq,d,ct,tm,nk,mg,pr,mu,pe,ne,tk,.l [],.l []⟩=true) :
    ldoW ⟨mru,mc,mt,mf,wt,ec,lo,2,id,rq,d,ct,tm,nk,mg,pr,mu,pe,ne,tk,.l [],.l []⟩ 3=⟨mru,mc,mt,mf,wt,ec,lo,6,numN id,numN id,d,cntN mc,IntKind.wrap .i64 (tk+wt),nk,mgV d mg,pr,mu,pe,ne,tk,.l [.t [.ki 1,.i (numN id),encO d]],.l [.t [.i 5],.t [.i 7]]⟩:=by
  unfold ldoW
  rw [h]
  show evW _ (rlA mg) 3 0 0 (.l []) 0 0 (.l [])=_
  unfold evW evR
  rw [doW_on (doB_of h rfl)]
  rfl
theorem do_11 {mru mc mt mf wt ec lo id rq:Int} {d:D} {ct tm nk mg pr mu pe ne tk:Int} (h:onB ⟨mru,mc,mt,mf,wt,ec,lo,1,id,rq,d,ct,tm,nk,mg,pr,mu,pe,ne,tk,.l [],.l []⟩=true) :
    ldoW ⟨mru,mc,mt,mf,wt,ec,lo,1,id,rq,d,ct,tm,nk,mg,pr,mu,pe,ne,tk,.l [],.l []⟩ 1=⟨mru,mc,mt,mf,wt,ec,lo,6,numN id,numN id,d,cntN mc,IntKind.wrap .i64 (tk+wt),nk,mgV d mg,pr,mu,pe,ne,tk,.l [.t [.ki 1,.i (numN id),encO d]],.l [.t [.i 5],.t [.i 7]]⟩:=by
  unfold ldoW
  rw [h]
  show evW _ (rlA mg) 1 0 0 (.l []) 0 0 (.l [])=_
  unfold evW evR
  rw [doW_on (doB_of h rfl)]
  rfl
theorem ldm_soundF:SoundF Tryz.prog 50 (pureS Tryz.prog 50 FDm):=by
  refine pureS_tree ldo_soundF fun args K ho H=>?_
  unfold FDm at H
  split at H
  · rename_i mru mc mt mf wt ec lo st id rq d ct tm nk mg pr mu pe ne e tk
    obtain ⟨hc,H2⟩:=need_holds H
    clear H
    rw [Bool.and_eq_true] at hc
    obtain ⟨hon,hb⟩:=hc
    rw [ldm_tree]
    refine holds_t_of hb ?_
    have go:∀ (v:WkV) (y:AV),ldoW ⟨mru,mc,mt,mf,wt,ec,lo,st,id,rq,d,ct,tm,nk,mg,pr,mu,pe,ne,tk,.l [],.l []⟩ e=v→Le (wkA v) y→K y→∃ y,Le (wkA (ldoW ⟨mru,mc,mt,mf,wt,ec,lo,st,id,rq,d,ct,tm,nk,mg,pr,mu,pe,ne,tk,.l [],.l []⟩ e)) y∧K y:=by
      rintro v y rfl h1 h2; exact ⟨y,h1,h2⟩
    have lk:∀ (v:WkV) (s:Int) (o x:AV),v.st=s→Le (asl ctS v.out) o→Le (asl acS v.did) x→Le (wkA v) (.tup [lK s v.id v.rq v.d v.ct v.tm v.nk v.mg v.pr v.mu v.pe v.ne,o,x]):=fun v s o x h1 h2 h3 =>
      le_two' (le_agg (leL_cons (le_int h1) (leL_cons (Le.refl _) (leL_cons (Le.refl _) (leL_cons (le_raw rfl) fun _ _ h=>h))))) h2 h3
    cases h1:st==0&&e==1
    · rw [h1,cond_false] at H2
      cases h2:st==0&&e==3
      · rw [h2,cond_false] at H2
        cases h3:(st==2&&e==3)||(st==1&&e==1)
        · rw [h3] at H2; exact H2.elim
        · rw [h3,cond_true] at H2
          rw [Bool.or_eq_true,Bool.and_eq_true,Bool.and_eq_true] at h3
          rcases h3 with ⟨h3,h4⟩ | ⟨h3,h4⟩
          · obtain rfl:st=2:=eq_of_beq h3
            obtain rfl:e=3:=eq_of_beq h4
            exact go _ _ (do_23 hon) (lk _ _ _ _ rfl (le_raw rfl) (Le.refl _)) H2
          · obtain rfl:st=1:=eq_of_beq h3
            obtain rfl:e=1:=eq_of_beq h4
            exact go _ _ (do_11 hon) (lk _ _ _ _ rfl (le_raw rfl) (Le.refl _)) H2
      · rw [h2,cond_true] at H2
        rw [Bool.and_eq_true] at h2
        obtain rfl:st=0:=eq_of_beq h2.1
        obtain rfl:e=3:=eq_of_beq h2.2
        exact go _ _ (do_03 hon) (lk _ _ _ _ rfl (le_raw rfl) (Le.refl _)) H2
    · rw [h1,cond_true] at H2
      rw [Bool.and_eq_true] at h1
      obtain rfl:st=0:=eq_of_beq h1.1
      obtain rfl:e=1:=eq_of_beq h1.2
      exact go _ _ (do_01 hon) (lk _ _ _ _ rfl (le_raw rfl) (le_raw rfl)) H2
  · exact H.elim
def c61 (mg nk mf ii:Int) (x:D):Bool:=enc7E 1 ii x==0&&(decE x==0&&(ansC (rlA mg) (decO x) nk mf==2&&encE (decO x)==0))
def c82 (rq ii:Int) (d x:D):Bool:=enc7E 2 ii x==0&&(ii==rq&&x.str.toList==(encO d).str.toList)
def FPm:List AV→RT AV
  | [.agg [.sc false (.int .i64 mru),.sc false (.int .i64 mc),.sc false (.int .i64 mt),.sc false (.int .i64 mf),.sc false (.int .i64 wt),.sc false (.int .i64 ec),.sc false (.int .i64 lo)],
     .agg [.sc false (.int .i64 st),.sc false (.int .i64 id),.sc false (.int .i64 rq),.sl false [.int .i64,.sl [.int .u8]] d none,.sc false (.int .i64 ct),.sc false (.int .i64 tm),.sc false (.int .i64 nk),.sc false (.int .i64 mg),.sc false (.int .i64 pr),.sc false (.int .i64 mu),.sc false (.int .i64 pe),.sc false (.int .i64 ne)],.agg [.sc false (.int .i64 ic),.sc false (.int .i64 ii),.sl false [.int .u8] x none],.sc false (.int .i64 tk)] =>
    need false (onB ⟨mru,mc,mt,mf,wt,ec,lo,st,id,rq,d,ct,tm,nk,mg,pr,mu,pe,ne,tk,.l [],.l []⟩&&(bytesB x&&optsB d)) 324
      (bif st==6&&ic==1 then need false (c61 mg nk mf ii x) 325 (.ok (.tup [lK 8 id rq d ct tm 0 (mgV d mg) (brV (decO x) 5 0) (brV (decO x) 1 1492) pe ne,.sl true ctS (.l [.t [.ki 2,.i ii,encO (decO x)]]) none,asl acS (.l [.t [.i 8]])]))
       else bif st==8&&ic==2 then need false (c82 rq ii d x) 326 (.ok (.tup [lK 9 id rq d mc 0 nk (mgV d mg) pr mu 0 (bif decide (0<ec) then IntKind.wrap .i64 (tk+ec) else 0),nlO ctS,asl acS (.l [.t [.i 5],.t [.i 1]])]))
       else .bad 327)
  | _=>.bad 324
theorem lpm_tree (mru mc mt mf wt ec lo st id rq:Int) (d:D) (ct tm nk mg pr mu pe ne ic ii:Int) (x:D) (tk:Int):treeF (pureS Tryz.prog 31 FLpk) [cnfA mru mc mt mf wt ec lo,lcpA st id rq d ct tm nk mg pr mu pe ne,ctlA ic ii x,ai tk] =
RT.br (bytesB x&&optsB d) (RT.ok (AV.tup [AV.agg [zi (WkV.st (pktW (WkV.mk mru mc mt mf wt ec lo st id rq d ct tm nk mg pr mu pe ne tk (D.l []) (D.l [])) ic ii x)),zi (WkV.id (pktW (WkV.mk mru mc mt mf wt ec lo st id rq d ct tm nk mg pr mu pe ne tk (D.l []) (D.l [])) ic ii x)),zi (WkV.rq (pktW (WkV.mk mru mc mt mf wt ec lo st id rq d ct tm nk mg pr mu pe ne tk (D.l []) (D.l [])) ic ii x)),zs zO (WkV.d (pktW (WkV.mk mru mc mt mf wt ec lo st id rq d ct tm nk mg pr mu pe ne tk (D.l []) (D.l [])) ic ii x)),zi (WkV.ct (pktW (WkV.mk mru mc mt mf wt ec lo st id rq d ct tm nk mg pr mu pe ne tk (D.l []) (D.l [])) ic ii x)),zi (WkV.tm (pktW (WkV.mk mru mc mt mf wt ec lo st id rq d ct tm nk mg pr mu pe ne tk (D.l []) (D.l [])) ic ii x)),zi (WkV.nk (pktW (WkV.mk mru mc mt mf wt ec lo st id rq d ct tm nk mg pr mu pe ne tk (D.l []) (D.l [])) ic ii x)),zi (WkV.mg (pktW (WkV.mk mru mc mt mf wt ec lo st id rq d ct tm nk mg pr mu pe ne tk (D.l []) (D.l [])) ic ii x)),zi (WkV.pr (pktW (WkV.mk mru mc mt mf wt ec lo st id rq d ct tm nk mg pr mu pe ne tk (D.l []) (D.l [])) ic ii x)),zi (WkV.mu (pktW (WkV.mk mru mc mt mf wt ec lo st id rq d ct tm nk mg pr mu pe ne tk (D.l []) (D.l [])) ic ii x)),zi (WkV.pe (pktW (WkV.mk mru mc mt mf wt ec lo st id rq d ct tm nk mg pr mu pe ne tk (D.l []) (D.l [])) ic ii x)),zi (WkV.ne (pktW (WkV.mk mru mc mt mf wt ec lo st id rq d ct tm nk mg pr mu pe ne tk (D.l []) (D.l [])) ic ii x))],zs zC (WkV.out (pktW (WkV.mk mru mc mt mf wt ec lo st id rq d ct tm nk mg pr mu pe ne tk (D.l []) (D.l [])) ic ii x)),zs zN (WkV.did (pktW (WkV.mk mru mc mt mf wt ec lo st id rq d ct tm nk mg pr mu pe ne tk (D.l []) (D.l [])) ic ii x))])) (RT.bad 313):=by kernel_rfl
theorem ansO_2 {r d:D} {nk mo:Int} (h:ansC r d nk mo=2):ansO r d nk mo=d:=by
  obtain ⟨h1,h2⟩:=ack_of h
  have hr:okR r=true:=by
    cases hr:okR r
    · unfold ansC at h; rw [hr,cond_false] at h; exact absurd h (by decide)
    · rfl
  unfold ansO
  rw [hr,cond_true,if_neg (by omega),if_pos h2]
theorem mayB_of {w:WkV} (h:onB w=true):mayB (rlM (rlA w.mg)) (rlG (rlA w.mg)) w.mc w.mt w.mf w.wt w.st w.id w.rq w.d w.ct w.tm w.nk w.tick=true:=by
  unfold onB at h
  rw [Bool.and_eq_true] at h
  obtain ⟨h1,ht⟩:=h
  obtain ⟨hf,hm,_,_,_,hs,_⟩:=(lisW_iff w).1 h1
  unfold mayB
  rw [Bool.and_eq_true,Bool.and_eq_true]
  refine ⟨setB_fits hf (oth_may hm.1 hm.2).1,hs,?_⟩
  rw [Bool.and_eq_true] at ht
  exact det ⟨odt ht.1,odt ht.2⟩
theorem pk_61 {mru mc mt mf wt ec lo id rq:Int} {d:D} {ct tm nk mg pr mu pe ne ii:Int} {x:D} {tk:Int} (h:onB ⟨mru,mc,mt,mf,wt,ec,lo,6,id,rq,d,ct,tm,nk,mg,pr,mu,pe,ne,tk,.l [],.l []⟩=true) (hc:c61 mg nk mf ii x=true) :
    pktW ⟨mru,mc,mt,mf,wt,ec,lo,6,id,rq,d,ct,tm,nk,mg,pr,mu,pe,ne,tk,.l [],.l []⟩ 1 ii x=⟨mru,mc,mt,mf,wt,ec,lo,8,id,rq,d,ct,tm,0,mgV d mg,brV (decO x) 5 0,brV (decO x) 1 1492,pe,ne,tk,.l [.t [.i 2,.i ii,encO (decO x)]],.l [.t [.i 8]]⟩:=by
  unfold c61 at hc
  rw [Bool.and_eq_true,Bool.and_eq_true,Bool.and_eq_true] at hc
  obtain ⟨hE,hD,hA,hO⟩:=hc
  have hA:=eq_of_beq hA
  have eO:=ansO_2 hA
  have e1:(enc7E 1 ii x != 0)=false:=by rw [bne,hE]; rfl
  have e2:=mayB_of h
  dsimp only at e2
  have e3:(decE x != 0)=false:=by rw [bne,hD]; rfl
  have e4:(encE (decO x) != 0)=false:=by rw [bne,hO]; rfl
  have hp:cnR ⟨mru,mc,mt,mf,wt,ec,lo,6,id,rq,d,ct,tm,nk,mg,pr,mu,pe,ne,tk,.l [],.l []⟩ (rlA mg) 1 ii x=⟨⟨8,id,rq,d,ct,tm,0⟩,.l [.t [.i 2,.i ii,encO (decO x)]],.l [.t [.i 8]]⟩:=by
    unfold cnR pkW
    dsimp only
    rw [e1,e2,eO,e3,e4,hA]
    show doW (rlM (rlA mg)) (rlG (rlA mg)) mc mt mf wt ⟨6,id,rq,d,ct,tm,nk⟩ 7 1 ii x 2 ii (encO (decO x)) tk=_
    have hB:doB (rlM (rlA mg)) (rlG (rlA mg)) mc mt mf wt ⟨6,id,rq,d,ct,tm,nk⟩ 7 tk=true:=doB_of h rfl
    rw [doW_on hB]
    rfl
  unfold pktW
  rw [hE,h]
  show pkt1 _ 1 ii x=_
  rw [pkt1_cnf (by decide)]
  show cnfW _ (rlA mg) 1 ii x=_
  unfold cnfW
  rw [hp]
  rfl
theorem pk_82 {mru mc mt mf wt ec lo id rq:Int} {d:D} {ct tm nk mg pr mu pe ne ii:Int} {x:D} {tk:Int} (h:onB ⟨mru,mc,mt,mf,wt,ec,lo,8,id,rq,d,ct,tm,nk,mg,pr,mu,pe,ne,tk,.l [],.l []⟩=true) (hc:c82 rq ii d x=true) :
    pktW ⟨mru,mc,mt,mf,wt,ec,lo,8,id,rq,d,ct,tm,nk,mg,pr,mu,pe,ne,tk,.l [],.l []⟩ 2 ii x=⟨mru,mc,mt,mf,wt,ec,lo,9,id,rq,d,mc,0,nk,mgV d mg,pr,mu,0,bif decide (0<ec) then IntKind.wrap .i64 (tk+ec) else 0,tk,.l [],.l [.t [.i 5],.t [.i 1]]⟩:=by
  unfold c82 at hc
  rw [Bool.and_eq_true,Bool.and_eq_true] at hc
  obtain ⟨hE,hI,hS⟩:=hc
  have e1:(enc7E 2 ii x != 0)=false:=by rw [bne,hE]; rfl
  have e2:=mayB_of h
  dsimp only at e2
  have hp:cnR ⟨mru,mc,mt,mf,wt,ec,lo,8,id,rq,d,ct,tm,nk,mg,pr,mu,pe,ne,tk,.l [],.l []⟩ (rlA mg) 2 ii x=⟨⟨9,id,rq,d,mc,0,nk⟩,.l [],.l [.t [.i 5],.t [.i 1]]⟩:=by
    unfold cnR pkW
    dsimp only
    rw [e1,e2,hI,hS]
    show doW (rlM (rlA mg)) (rlG (rlA mg)) mc mt mf wt ⟨8,id,rq,d,ct,tm,nk⟩ 9 2 ii x 0 0 (.l []) tk=_
    have hB:doB (rlM (rlA mg)) (rlG (rlA mg)) mc mt mf wt ⟨8,id,rq,d,ct,tm,nk⟩ 9 tk=true:=doB_of h rfl
    rw [doW_on hB]
    rfl
  unfold pktW
  rw [hE,h]
  show pkt1 _ 2 ii x=_
  rw [pkt1_cnf (by decide)]
  show cnfW _ (rlA mg) 2 ii x=_
  unfold cnfW
  rw [hp]
  rfl
theorem lpm_soundF:SoundF Tryz.prog 31 (pureS Tryz.prog 31 FPm):=by
  refine pureS_tree lpk_soundF fun args K ho H=>?_
  unfold FPm at H
  split at H
  · rename_i mru mc mt mf wt ec lo st id rq d ct tm nk mg pr mu pe ne ic ii x tk
    obtain ⟨hc,H2⟩:=need_holds H
    clear H
    rw [Bool.and_eq_true] at hc
    obtain ⟨hon,hb⟩:=hc
    rw [lpm_tree]
    refine holds_t_of hb ?_
    have go:∀ (v:WkV) (y:AV),pktW ⟨mru,mc,mt,mf,wt,ec,lo,st,id,rq,d,ct,tm,nk,mg,pr,mu,pe,ne,tk,.l [],.l []⟩ ic ii x=v→Le (wkA v) y→K y→∃ y,Le (wkA (pktW ⟨mru,mc,mt,mf,wt,ec,lo,st,id,rq,d,ct,tm,nk,mg,pr,mu,pe,ne,tk,.l [],.l []⟩ ic ii x)) y∧K y:=by
      rintro v y rfl h1 h2; exact ⟨y,h1,h2⟩
    have lk:∀ (v:WkV) (s:Int) (o x:AV),v.st=s→Le (asl ctS v.out) o→Le (asl acS v.did) x→Le (wkA v) (.tup [lK s v.id v.rq v.d v.ct v.tm v.nk v.mg v.pr v.mu v.pe v.ne,o,x]):=fun v s o x h1 h2 h3 =>
      le_two' (le_agg (leL_cons (le_int h1) (leL_cons (Le.refl _) (leL_cons (Le.refl _) (leL_cons (le_raw rfl) fun _ _ h=>h))))) h2 h3
    have two:Le (asl ctS (.l [.t [.i 2,.i ii,encO (decO x)]])) (.sl true ctS (.l [.t [.ki 2,.i ii,encO (decO x)]]) none):=by
      have l1:(D.l [.t [.i 2,.i ii,encO (decO x)]]).toL=[.t [.i 2,.i ii,encO (decO x)]]:=toL_l (by unfold maxLen; simp)
      have l2:(D.l [.t [.ki 2,.i ii,encO (decO x)]]).toL=[.t [.ki 2,.i ii,encO (decO x)]]:=toL_l (by unfold maxLen; simp)
      refine le_sl (by unfold D.len; rw [l1,l2]; rfl) fun i hi=>?_
      have hi:i<1:=by unfold D.len at hi; rw [l1] at hi; exact hi
      unfold D.get
      rw [l1,l2]
      match i,hi with
      | 0,_=>exact ⟨rfl,rfl,rfl,trivial⟩
    cases h1:st==6&&ic==1
    · rw [h1,cond_false] at H2
      cases h2:st==8&&ic==2
      · rw [h2] at H2; exact H2.elim
      · rw [h2,cond_true] at H2
        obtain ⟨hq,H2⟩:=need_holds H2
        rw [Bool.and_eq_true] at h2
        obtain rfl:st=8:=eq_of_beq h2.1
        obtain rfl:ic=2:=eq_of_beq h2.2
        exact go _ _ (pk_82 hon hq) (lk _ _ _ _ rfl (le_raw rfl) (Le.refl _)) H2
    · rw [h1,cond_true] at H2
      obtain ⟨hq,H2⟩:=need_holds H2
      rw [Bool.and_eq_true] at h1
      obtain rfl:st=6:=eq_of_beq h1.1
      obtain rfl:ic=1:=eq_of_beq h1.2
      exact go _ _ (pk_61 hon hq) (lk _ _ _ _ rfl two (Le.refl _)) H2
  · exact H.elim
def staG (P:Program):List (FuncId×Spec):=[(9,pureS P 9 FNw),(50,pureS P 50 FDm)]
def FSta:List AV→RT AV
  | [.agg [.sc false (.int .i64 a),.sc false (.int .i64 b),.sc false (.int .i64 c),.sc false (.int .i64 e),.sc false (.int .i64 f),.sc false (.int .i64 g),.sc false (.int .i64 h)],.sc false (.int .i64 m),.sc false (.bool _),.sc false (.int .i64 tk)] =>
    need false (newB a b c e f g h m&&(decide (0≤tk)&&decide (tk≤1099511627776))) 328
      (.ok (.tup [.agg [.sc true (.int .i64 6),.sc true (.int .i64 1),.sc true (.int .i64 1),.sl true opS (asksD a m) none,ai (cntN b),ai (IntKind.wrap .i64 (tk+f)),k0,ai m,k0,.sc true (.int .i64 1492),k0,k0],.sl true ctS (.l [.t [.ki 1,.i 1,encO (asksD a m)]]) none,.sc true (.bool true)]))
  | _=>.bad 328
def lmG (P:Program):List (FuncId×Spec):=[(22,pureS P 22 FGd),(23,pureS P 23 FSta),(31,pureS P 31 FPm),(21,pureS P 21 (Fone mAwkK mAwkR))]
def sta_treeT (a b c e f g h m:Int) (o:Bool) (tk:Int):RT AV :=
RT.br (newB a b c e f g h m) (RT.br o (RT.br (onB (WkV.mk a b c e f g h 0 0 0 (asksD a m) 0 0 0 m 0 1492 0 0 tk (D.l []) (D.l []))&&optsB (asksD a m)) (RT.br (onB (WkV.mk a b c e f g h 1 0 0 (asksD a m) 0 0 0 (mgV (asksD a m) m) 0 1492 0 0 tk (D.l []) (D.l []))&&optsB (asksD a m)) (RT.ok (AV.tup [AV.agg [zk 6,zi 1,zi 1,AV.sl true zO (asksD a m) none,zi (cntN b),zi (IntKind.wrap IntKind.i64 (tk+f)),zi 0,zi (mgV (asksD a m) (mgV (asksD a m) m)),zi 0,zi 1492,zi 0,zi 0],AV.sl true zC (D.l [D.t [D.ki 1,D.i 1,encO (asksD a m)]]) none,AV.sc true (Value.bool true)])) (RT.bad 321)) (RT.bad 321)) (RT.br (onB (WkV.mk a b c e f g h 0 0 0 (asksD a m) 0 0 0 m 0 1492 0 0 tk (D.l []) (D.l []))&&optsB (asksD a m)) (RT.br (onB (WkV.mk a b c e f g h 2 0 0 (asksD a m) 0 0 0 (mgV (asksD a m) m) 0 1492 0 0 tk (D.l []) (D.l []))&&optsB (asksD a m)) (RT.ok (AV.tup [AV.agg [zk 6,zi 1,zi 1,AV.sl true zO (asksD a m) none,zi (cntN b),zi (IntKind.wrap IntKind.i64 (tk+f)),zi 0,zi (mgV (asksD a m) (mgV (asksD a m) m)),zi 0,zi 1492,zi 0,zi 0],AV.sl true zC (D.l [D.t [D.ki 1,D.i 1,encO (asksD a m)]]) none,AV.sc true (Value.bool true)])) (RT.bad 321)) (RT.bad 321))) (RT.bad 320)
theorem sta_tree (a b c e f g h m:Int) (o:Bool) (tk:Int):treeF (evF Tryz.prog (gam (staG Tryz.prog)) (lam ([])) 100 23) [cfgA a b c e f g h,ai m,ab o,ai tk]=sta_treeT a b c e f g h m o tk:=by rw [← fvF_eq Tryz.prog (gam (staG Tryz.prog)) (lam ([])) false 100 23]; kernel_rfl
def rqD (a m:Int):D:=.l [.t [.i 1],.t [.i 4],.i (byI (uns a) 2 0),.i (byI (uns a) 2 1),.t [.i 5],.t [.i 6],.i (byI (uns m) 4 0),.i (byI (uns m) 4 1),.i (byI (uns m) 4 2),.i (byI (uns m) 4 3)]
theorem enc_rq (a m:Int):encO (asksD a m)=rqD a m:=by kernel_rfl
theorem dec_rq (a m:Int):decE (rqD a m)=0:=by kernel_rfl
theorem enc_dec_rq (a m:Int):encE (decO (rqD a m))=0:=by kernel_rfl
theorem enc7_rq (a m:Int) (c:Int) (hc:0≤c∧c≤255):enc7E c 1 (rqD a m)=0:=by
  have hl:(rqD a m).len=10:=by kernel_rfl
  unfold enc7E
  rw [if_pos ⟨hc,by decide⟩,if_neg (by omega)]
theorem byI_val {n:Int} (hn:0≤n) (s i:Nat):byI n s i=n / 2 ^ (8*(s - 1 - i)) % 256:=by
  unfold byI
  rw [← beByte_int,Int.toNat_of_nonneg hn]
theorem uns_id {n:Int} (h:0≤n∧n<18446744073709551616):uns n=n:=wrap_u64 h
theorem rq_bytes (a m:Int):bytesB (rqD a m)=true:=by
  have hl:(rqD a m).toL=[.t [.i 1],.t [.i 4],.i (byI (uns a) 2 0),.i (byI (uns a) 2 1),.t [.i 5],.t [.i 6],.i (byI (uns m) 4 0),.i (byI (uns m) 4 1),.i (byI (uns m) 4 2),.i (byI (uns m) 4 3)]:=toL_l (by unfold maxLen; simp)
  refine det fun i hi=>?_
  have hi:i<10:=by unfold D.len at hi; rw [hl] at hi; exact hi
  unfold byN D.get
  rw [hl]
  match i,hi with
  | 0,_=>exact ⟨(by decide:(0:Int)≤1),(by decide:(1:Int)<256)⟩
  | 1,_=>exact ⟨(by decide:(0:Int)≤4),(by decide:(4:Int)<256)⟩
  | 2,_=>exact byI_rng (uns a) 2 0
  | 3,_=>exact byI_rng (uns a) 2 1
  | 4,_=>exact ⟨(by decide:(0:Int)≤5),(by decide:(5:Int)<256)⟩
  | 5,_=>exact ⟨(by decide:(0:Int)≤6),(by decide:(6:Int)<256)⟩
  | 6,_=>exact byI_rng (uns m) 4 0
  | 7,_=>exact byI_rng (uns m) 4 1
  | 8,_=>exact byI_rng (uns m) 4 2
  | 9,_=>exact byI_rng (uns m) 4 3
theorem two_bytes {a:Int} (h:0≤a∧a<65536):256*byI (uns a) 2 0+byI (uns a) 2 1=a:=by
  rw [uns_id ⟨h.1,by omega⟩,byI_val h.1,byI_val h.1]
  show 256*(a / 2 ^ 8 % 256)+a / 2 ^ 0 % 256=a
  have e1:(2:Int) ^ 8=256:=by decide
  have e0:(2:Int) ^ 0=1:=by decide
  rw [e1,e0]
  omega
theorem four_bytes {m:Int} (h:0≤m∧m<4294967296):256*(256*(256*byI (uns m) 4 0+byI (uns m) 4 1)+byI (uns m) 4 2)+byI (uns m) 4 3=m:=by
  rw [uns_id ⟨h.1,by omega⟩,byI_val h.1,byI_val h.1,byI_val h.1,byI_val h.1]
  show 256*(256*(256*(m / 2 ^ 24 % 256)+m / 2 ^ 16 % 256)+m / 2 ^ 8 % 256)+m / 2 ^ 0 % 256=m
  have e3:(2:Int) ^ 24=16777216:=by decide
  have e2:(2:Int) ^ 16=65536:=by decide
  have e1:(2:Int) ^ 8=256:=by decide
  have e0:(2:Int) ^ 0=1:=by decide
  rw [e3,e2,e1,e0]
  omega
theorem numB_0 {a m:Int} (h:0≤a∧a<65536):numB (optB (decO (rqD a m)) 0)=a:=by
  have e:numB (optB (decO (rqD a m)) 0)=256*byI (uns a) 2 0+byI (uns a) 2 1:=by kernel_rfl
  rw [e,two_bytes h]
theorem numB_1 {a m:Int} (h:0≤m∧m<4294967296):numB (optB (decO (rqD a m)) 1)=m:=by
  have e:numB (optB (decO (rqD a m)) 1)=256*(256*(256*byI (uns m) 4 0+byI (uns m) 4 1)+byI (uns m) 4 2)+byI (uns m) 4 3:=by kernel_rfl
  rw [e,four_bytes h]
theorem brV_1 {a m:Int} (h:0≤a∧a<65536):brV (decO (rqD a m)) 1 1492=a:=by
  have e:brV (decO (rqD a m)) 1 1492=256*byI (uns a) 2 0+byI (uns a) 2 1:=by kernel_rfl
  rw [e,two_bytes h]
theorem mg_own {a m:Int} (h:0≤m∧m<4294967296):mgV (asksD a m) m=m:=by
  have e:mgV (asksD a m) m=bif (256*(256*(256*byI (uns m) 4 0+byI (uns m) 4 1)+byI (uns m) 4 2)+byI (uns m) 4 3) != 0 then 256*(256*(256*byI (uns m) 4 0+byI (uns m) 4 1)+byI (uns m) 4 2)+byI (uns m) 4 3 else m:=by kernel_rfl
  rw [e,four_bytes h]
  cases m != 0 <;> rfl
theorem filD_no {p:Nat→Bool} {f:Nat→D} {n:Nat} (hn:n≤maxLen) (h:∀ i,i<n→p i=false):(filD p f n).len=0:=by
  unfold D.len
  rw [filD_toL hn,List.length_map,List.length_eq_zero_iff,List.filter_eq_nil_iff]
  intro i hi
  rw [h i (List.mem_range.1 hi)]
  exact Bool.false_ne_true
theorem ans_rq {a m m' mf:Int} (ha:128≤a∧a≤1492) (hm:1≤m∧m≤4294967295) (hm':1≤m'∧m'≤4294967295) (hne:m≠m'):ansC (rlA m') (decO (rqD a m)) 0 mf=2:=by
  have hl:(decO (rqD a m)).len=2:=by kernel_rfl
  have hk:okR (rlA m')=true:=(oth_may hm'.1 hm'.2).1
  have o0:oddB (rlA m') (decO (rqD a m)) (decO (rqD a m)) 0=false:=by kernel_rfl
  have o1:oddB (rlA m') (decO (rqD a m)) (decO (rqD a m)) 1=false:=by kernel_rfl
  have n0:notB (rlA m') (decO (rqD a m)) 0=false:=by
    have e:notB (rlA m') (decO (rqD a m)) 0=!decide (128≤numB (optB (decO (rqD a m)) 0)∧numB (optB (decO (rqD a m)) 0)≤1492):=by kernel_rfl
    rw [e,numB_0 ⟨by omega,by omega⟩,det ha]; rfl
  have n1:notB (rlA m') (decO (rqD a m)) 1=false:=by
    have e:notB (rlA m') (decO (rqD a m)) 1=!(numB (optB (decO (rqD a m)) 1) != m'):=by kernel_rfl
    rw [e,numB_1 ⟨by omega,by omega⟩,bne_iff_ne.2 hne]; rfl
  have h1:(oddL (rlA m') (decO (rqD a m))).len=0:=filD_no (D.len_le _) fun i hi=>by
    rw [hl] at hi
    match i,hi with
    | 0,_=>exact o0
    | 1,_=>exact o1
  have h2:(filD (bdB (rlA m') (decO (rqD a m)) (decO (rqD a m))) (fun j=>gooE (rlA m') (rulK (rlA m') (decO (rqD a m)) j)) (decO (rqD a m)).len).len=0:=filD_no (D.len_le _) fun i hi=>by
    rw [hl] at hi
    unfold bdB
    match i,hi with
    | 0,_=>rw [n0,Bool.and_false]
    | 1,_=>rw [n1,Bool.and_false]
  have h3:(nakL (rlA m') (decO (rqD a m))).len=0:=by
    unfold nakL
    generalize filD (bdB (rlA m') (decO (rqD a m)) (decO (rqD a m))) (fun j=>gooE (rlA m') (rulK (rlA m') (decO (rqD a m)) j)) (decO (rqD a m)).len=z at h2
    have e:∀ f,grow z (lackB (rlA m') (decO (rqD a m))) f (rlA m').len=z:=fun f=>rfl
    rw [e]; exact h2
  unfold ansC
  rw [hk,cond_true,if_neg (by omega),if_pos h3]
theorem c61_rq {a m m' mf:Int} (ha:128≤a∧a≤1492) (hm:1≤m∧m≤4294967295) (hm':1≤m'∧m'≤4294967295) (hne:m≠m'):c61 m' 0 mf 1 (rqD a m)=true:=by
  unfold c61
  rw [enc7_rq _ _ 1 (by decide),dec_rq,enc_dec_rq,ans_rq ha hm hm' hne]; rfl
theorem c82_rq (a m:Int):c82 1 1 (asksD a m) (rqD a m)=true:=by
  unfold c82
  rw [enc7_rq _ _ 2 (by decide),enc_rq,beq_self_eq_true,beq_self_eq_true,beq_self_eq_true]; rfl
theorem on_of {a b c e f g h st id rq:Int} {d:D} {ct tm nk m pr mu tk:Int} (hf:fitsB a b c e f g h=true) (hm:1≤m∧m≤4294967295) (hp:0≤pr∧pr≤4294967295) (hu:128≤mu∧mu≤1492) (hs:soundA ⟨st,id,rq,d,ct,tm,nk⟩=true) (ht:0≤tk∧tk≤1099511627776) :
    onB ⟨a,b,c,e,f,g,h,st,id,rq,d,ct,tm,nk,m,pr,mu,0,0,tk,.l [],.l []⟩=true:=by
  unfold onB
  rw [Bool.and_eq_true,Bool.and_eq_true]
  exact ⟨(lisW_iff _).2 ⟨hf,hm,hp,hu,⟨Int.le_refl _,(by show (0:Int)≤1000; decide)⟩,hs,.inl rfl⟩,det ht.1,det ht.2⟩
theorem asks_sound {a m st id rq ct tm nk:Int} (h1:0≤st∧st≤9) (h2:0≤id∧id≤255) (h3:0≤rq∧rq≤255) (h4:0≤ct∧ct≤1000) (h5:0≤nk∧nk≤1000) (h6:((4≤st∧st≤8)∧1≤tm∧tm≤1099512676352)∨(¬ (4≤st∧st≤8)∧tm=0)):soundA ⟨st,id,rq,asksD a m,ct,tm,nk⟩=true :=
  (soundA_iff _).2 ⟨h1,h2,h3,h4,h5,asks_enc a m,h6⟩
theorem tm_rng {tk f:Int} (ht:0≤tk∧tk≤1099511627776) (hf:1≤f∧f≤1048576):1≤IntKind.wrap .i64 (tk+f)∧IntKind.wrap .i64 (tk+f)≤1099512676352:=by
  rw [i64_id ⟨by omega,by omega⟩]; omega
abbrev staV (a b f m tk:Int):AV:=.tup [.agg [.sc true (.int .i64 6),.sc true (.int .i64 1),.sc true (.int .i64 1),.sl true opS (asksD a m) none,ai (cntN b),ai (IntKind.wrap .i64 (tk+f)),k0,ai m,k0,.sc true (.int .i64 1492),k0,k0],.sl true ctS (.l [.t [.ki 1,.i 1,encO (asksD a m)]]) none,.sc true (.bool true)]
theorem FSta_inv {args:List AV} {K:AV→Prop} (H:(FSta args).holds K):∃ (a b c e f g h m:Int) (o:Bool) (tk:Int),args=[cfgA a b c e f g h,ai m,ab o,ai tk]∧newB a b c e f g h m=true∧(0≤tk∧tk≤1099511627776)∧K (staV a b f m tk):=by
  unfold FSta at H
  split at H
  · rename_i a b c e f g h m o tk
    obtain ⟨hc,H⟩:=need_holds H
    rw [Bool.and_eq_true,Bool.and_eq_true] at hc
    exact ⟨a,b,c,e,f,g,h,m,o,tk,rfl,hc.1,⟨odt hc.2.1,odt hc.2.2⟩,H⟩
  · exact H.elim
theorem sta_soundF:SoundF Tryz.prog 23 (pureS Tryz.prog 23 FSta):=by
  refine pure_in (gs:=staG Tryz.prog) (ls:=[]) mixed ⟨lnw_soundF,ldm_soundF,trivial⟩ trivial 23 100 fun args K ho H=>?_
  obtain ⟨a,b,c,e,f,g,h,m,o,tk,hr,hn,ht,H⟩:=FSta_inv H
  obtain ⟨hf,hm⟩:=(newB_iff _ _ _ _ _ _ _ _).1 hn
  have hg:=(fitsB_iff _ _ _ _ _ _ _).1 hf
  have hmg:mgV (asksD a m) m=m:=mg_own ⟨by omega,by omega⟩
  rw [hr,sta_tree]
  unfold sta_treeT
  rw [hmg,hmg]
  have S:∀ st,(0≤st∧st≤2)→(onB ⟨a,b,c,e,f,g,h,st,0,0,asksD a m,0,0,0,m,0,1492,0,0,tk,.l [],.l []⟩&&optsB (asksD a m))=true:=fun st hs=>by
    rw [asks_by,Bool.and_true]
    exact on_of hf hm ⟨by decide,by decide⟩ ⟨by decide,by decide⟩ (asks_sound ⟨by omega,by omega⟩ ⟨by decide,by decide⟩ ⟨by decide,by decide⟩ ⟨by decide,by decide⟩ ⟨by decide,by decide⟩ (.inr ⟨by omega,rfl⟩)) ht
  have L:∀ k1 k2 k3:Bool,∃ y,Le (.tup [.agg [.sc true (.int .i64 6),.sc k1 (.int .i64 1),.sc k1 (.int .i64 1),.sl true opS (asksD a m) none,ai (cntN b),ai (IntKind.wrap .i64 (tk+f)),.sc k2 (.int .i64 0),ai m,.sc k2 (.int .i64 0),.sc k2 (.int .i64 1492),.sc k2 (.int .i64 0),.sc k2 (.int .i64 0)],.sl true ctS (.l [.t [.ki 1,.i 1,encO (asksD a m)]]) none,.sc k3 (.bool true)]) y∧K y:=fun k1 k2 k3 =>
    ⟨_,le_two' (le_agg (leL_cons (Le.refl _) (leL_cons (le_int rfl) (leL_cons (le_int rfl) (leL_cons (Le.refl _) (leL_cons (Le.refl _) (leL_cons (Le.refl _) (leL_cons (le_int rfl) (leL_cons (Le.refl _) (leL_cons (le_int rfl) (leL_cons (le_int rfl) (leL_cons (le_int rfl) (leL_cons (le_int rfl) leL_nil))))))))))))) (Le.refl _) (le_bool rfl),H⟩
  exact holds_t_of hn ⟨fun _=>holds_t_of (S 0 (by decide)) (holds_t_of (S 1 (by decide)) (L false false true)),fun _=>holds_t_of (S 0 (by decide)) (holds_t_of (S 2 (by decide)) (L false false true))⟩
structure Gd (a b c e f g h m:Int):Prop where
  ha:128≤a∧a≤1492
  hb:1≤b∧b≤1000
  hf:fitsB a b c e f g h=true
  hw:1≤f∧f≤1048576
  hm:1≤m∧m≤4294967295
theorem gd_new {a b c e f g h m:Int} (G:Gd a b c e f g h m):(newB a b c e f g h m&&true)=true:=by
  rw [Bool.and_true]
  exact (newB_iff _ _ _ _ _ _ _ _).2 ⟨G.hf,G.hm⟩
theorem gd_fits {a b c e f g h m:Int} (hm:1≤m∧m≤4294967295):Gd (gd 128 1365 a) (gd 1 9 b) (gd 1 4 c) (gd 2 5 e) (gd 1 9 f) (gd0 12 g) (gd 1 4 h) m:=by
  have h1:=gd_rng (lo:=128) (md:=1365) (x:=a) ⟨by decide,by decide⟩ ⟨by decide,by decide⟩
  have h2:=gd_rng (lo:=1) (md:=9) (x:=b) ⟨by decide,by decide⟩ ⟨by decide,by decide⟩
  have h3:=gd_rng (lo:=1) (md:=4) (x:=c) ⟨by decide,by decide⟩ ⟨by decide,by decide⟩
  have h4:=gd_rng (lo:=2) (md:=5) (x:=e) ⟨by decide,by decide⟩ ⟨by decide,by decide⟩
  have h5:=gd_rng (lo:=1) (md:=9) (x:=f) ⟨by decide,by decide⟩ ⟨by decide,by decide⟩
  have h6:=gd0_rng (md:=12) (x:=g) ⟨by decide,by decide⟩
  have h7:=gd_rng (lo:=1) (md:=4) (x:=h) ⟨by decide,by decide⟩ ⟨by decide,by decide⟩
  exact ⟨by omega,by omega,(fitsB_iff _ _ _ _ _ _ _).2 ⟨by omega,by omega,by omega,by omega,by omega,by omega,by omega⟩,by omega,hm⟩
def dueB (ne tk:Int):Bool:=ne != 0&&decide (ne≤tk)
def FTm:List AV→RT AV
  | [.agg [.sc false (.int .i64 mru),.sc false (.int .i64 mc),.sc false (.int .i64 mt),.sc false (.int .i64 mf),.sc false (.int .i64 wt),.sc false (.int .i64 ec),.sc false (.int .i64 lo)],
     .agg [.sc false (.int .i64 st),.sc false (.int .i64 id),.sc false (.int .i64 rq),.sl false [.int .i64,.sl [.int .u8]] d none,.sc false (.int .i64 ct),.sc false (.int .i64 tm),.sc false (.int .i64 nk),.sc false (.int .i64 mg),.sc false (.int .i64 pr),.sc false (.int .i64 mu),.sc false (.int .i64 pe),.sc false (.int .i64 ne)],.sc false (.int .i64 tk)] =>
    need false (onB ⟨mru,mc,mt,mf,wt,ec,lo,st,id,rq,d,ct,tm,nk,mg,pr,mu,pe,ne,tk,.l [],.l []⟩&&optsB d) 329
      (bif st==9&&tm==0 then
        .br (dueB ne tk)
          (.br (decide (lo≤pe)) (.ok (.tup [lK 0 id rq d ct 0 nk (mgV d (mgV d (mgV d mg))) pr mu 0 0,nlO ctS,.sl true acS (.l [.t [.i 2],.t [.i 4]]) none]))
            (.ok (.tup [lK 9 (numN id) rq d ct 0 nk (mgV d mg) pr mu (IntKind.wrap .i64 (pe+1)) (IntKind.wrap .i64 (tk+ec)),.sl true ctS (.l [ecE (numN id) (IntKind.wrap .u64 (mgV d mg))]) none,nlO acS])))
          (.ok (.tup [lK 9 id rq d ct 0 nk (mgV d mg) pr mu pe ne,nlO ctS,nlO acS]))
       else .bad 330)
  | _=>.bad 329
def c9 (mg ic ii:Int) (x:D):Bool:=enc7E ic ii x==0&&(!decide (x.len<4)&&!eqB (x.sub 0 4) (mgD mg))
def FPe:List AV→RT AV
  | [.agg [.sc false (.int .i64 mru),.sc false (.int .i64 mc),.sc false (.int .i64 mt),.sc false (.int .i64 mf),.sc false (.int .i64 wt),.sc false (.int .i64 ec),.sc false (.int .i64 lo)],
     .agg [.sc false (.int .i64 st),.sc false (.int .i64 id),.sc false (.int .i64 rq),.sl false [.int .i64,.sl [.int .u8]] d none,.sc false (.int .i64 ct),.sc false (.int .i64 tm),.sc false (.int .i64 nk),.sc false (.int .i64 mg),.sc false (.int .i64 pr),.sc false (.int .i64 mu),.sc false (.int .i64 pe),.sc false (.int .i64 ne)],.agg [.sc false (.int .i64 ic),.sc false (.int .i64 ii),.sl false [.int .u8] x none],.sc false (.int .i64 tk)] =>
    need false (onB ⟨mru,mc,mt,mf,wt,ec,lo,st,id,rq,d,ct,tm,nk,mg,pr,mu,pe,ne,tk,.l [],.l []⟩&&(bytesB x&&optsB d)) 331
      (need false (c9 mg ic ii x) 332
        (bif st==9&&ic==9 then .ok (.tup [lK 9 id rq d ct 0 nk (mgV d mg) pr mu pe ne,.sl true ctS (.l [.t [.ki 10,.i ii,D.app (mgD mg) (x.sub 4 x.len)]]) none,asl acS (.l [.t [.i 13]])])
         else bif st==9&&ic==10 then .ok (.tup [lK 9 id rq d ct tm nk mg pr mu 0 ne,nlO ctS,nlO acS])
         else .bad 333))
  | _=>.bad 331
theorem ltm_tree (mru mc mt mf wt ec lo st id rq:Int) (d:D) (ct tm nk mg pr mu pe ne tk:Int):treeF (pureS Tryz.prog 26 FLtk) [cnfA mru mc mt mf wt ec lo,lcpA st id rq d ct tm nk mg pr mu pe ne,ai tk] =
RT.br (optsB d) (RT.ok (AV.tup [AV.agg [zi (WkV.st (tikW (WkV.mk mru mc mt mf wt ec lo st id rq d ct tm nk mg pr mu pe ne tk (D.l []) (D.l [])))),zi (WkV.id (tikW (WkV.mk mru mc mt mf wt ec lo st id rq d ct tm nk mg pr mu pe ne tk (D.l []) (D.l [])))),zi (WkV.rq (tikW (WkV.mk mru mc mt mf wt ec lo st id rq d ct tm nk mg pr mu pe ne tk (D.l []) (D.l [])))),zs zO (WkV.d (tikW (WkV.mk mru mc mt mf wt ec lo st id rq d ct tm nk mg pr mu pe ne tk (D.l []) (D.l [])))),zi (WkV.ct (tikW (WkV.mk mru mc mt mf wt ec lo st id rq d ct tm nk mg pr mu pe ne tk (D.l []) (D.l [])))),zi (WkV.tm (tikW (WkV.mk mru mc mt mf wt ec lo st id rq d ct tm nk mg pr mu pe ne tk (D.l []) (D.l [])))),zi (WkV.nk (tikW (WkV.mk mru mc mt mf wt ec lo st id rq d ct tm nk mg pr mu pe ne tk (D.l []) (D.l [])))),zi (WkV.mg (tikW (WkV.mk mru mc mt mf wt ec lo st id rq d ct tm nk mg pr mu pe ne tk (D.l []) (D.l [])))),zi (WkV.pr (tikW (WkV.mk mru mc mt mf wt ec lo st id rq d ct tm nk mg pr mu pe ne tk (D.l []) (D.l [])))),zi (WkV.mu (tikW (WkV.mk mru mc mt mf wt ec lo st id rq d ct tm nk mg pr mu pe ne tk (D.l []) (D.l [])))),zi (WkV.pe (tikW (WkV.mk mru mc mt mf wt ec lo st id rq d ct tm nk mg pr mu pe ne tk (D.l []) (D.l [])))),zi (WkV.ne (tikW (WkV.mk mru mc mt mf wt ec lo st id rq d ct tm nk mg pr mu pe ne tk (D.l []) (D.l []))))],zs zC (WkV.out (tikW (WkV.mk mru mc mt mf wt ec lo st id rq d ct tm nk mg pr mu pe ne tk (D.l []) (D.l [])))),zs zN (WkV.did (tikW (WkV.mk mru mc mt mf wt ec lo st id rq d ct tm nk mg pr mu pe ne tk (D.l []) (D.l []))))])) (RT.bad 309):=by kernel_rfl
theorem tik_9 {mru mc mt mf wt ec lo id rq:Int} {d:D} {ct nk mg pr mu pe ne tk:Int} (h:onB ⟨mru,mc,mt,mf,wt,ec,lo,9,id,rq,d,ct,0,nk,mg,pr,mu,pe,ne,tk,.l [],.l []⟩=true) :
    tikW ⟨mru,mc,mt,mf,wt,ec,lo,9,id,rq,d,ct,0,nk,mg,pr,mu,pe,ne,tk,.l [],.l []⟩=tik1 ⟨mru,mc,mt,mf,wt,ec,lo,9,id,rq,d,ct,0,nk,mgV d mg,pr,mu,pe,ne,tk,.l [],.l []⟩:=by
  unfold tikW
  rw [h]
  rfl
theorem on_lis {w:WkV} (h:onB w=true):lisW w=true∧(decide (0≤w.tick)&&decide (w.tick≤1099511627776))=true:=by
  unfold onB at h
  rw [Bool.and_eq_true] at h
  exact h
theorem on_mk {w:WkV} (h:lisW w=true) (ht:(decide (0≤w.tick)&&decide (w.tick≤1099511627776))=true):onB w=true:=by
  unfold onB
  rw [h,ht]; rfl
theorem on_mg {mru mc mt mf wt ec lo st id rq:Int} {d:D} {ct tm nk mg pr mu pe ne tk:Int} (h:onB ⟨mru,mc,mt,mf,wt,ec,lo,st,id,rq,d,ct,tm,nk,mg,pr,mu,pe,ne,tk,.l [],.l []⟩=true) (hb:optsB d=true) :
    onB ⟨mru,mc,mt,mf,wt,ec,lo,st,id,rq,d,ct,tm,nk,mgV d mg,pr,mu,pe,ne,tk,.l [],.l []⟩=true:=by
  obtain ⟨h1,h2⟩:=on_lis h
  obtain ⟨k1,k2,k3,k4,k5,k6,k7⟩:=(lisW_iff _).1 h1
  exact on_mk ((lisW_iff _).2 ⟨k1,mgV_rng hb k2,k3,k4,k5,k6,k7⟩) h2
theorem end_9 {mru mc mt mf wt ec lo id rq:Int} {d:D} {ct nk mg pr mu pe ne tk:Int} (hb:optsB d=true) (h:onB ⟨mru,mc,mt,mf,wt,ec,lo,9,id,rq,d,ct,0,nk,mg,pr,mu,pe,ne,tk,.l [],.l []⟩=true) :
    endW ⟨mru,mc,mt,mf,wt,ec,lo,9,id,rq,d,ct,0,nk,mg,pr,mu,pe,ne,tk,.l [],.l []⟩=⟨mru,mc,mt,mf,wt,ec,lo,0,id,rq,d,ct,0,nk,mgV d (mgV d mg),pr,mu,0,0,tk,.l [],.l [.t [.i 2],.t [.i 4]]⟩:=by
  have e1:evW ⟨mru,mc,mt,mf,wt,ec,lo,9,id,rq,d,ct,0,nk,mg,pr,mu,pe,ne,tk,.l [],.l []⟩ (rlA mg) 2 0 0 (.l []) 0 0 (.l [])=⟨mru,mc,mt,mf,wt,ec,lo,1,id,rq,d,ct,0,nk,mgV d mg,pr,mu,0,0,tk,.l [],.l [.t [.i 2]]⟩:=by
    unfold evW evR
    rw [doW_on (doB_of h rfl)]
    rfl
  have k1:=(ev_keep (e:=2) (ic:=0) (ii:=0) (ix:=.l []) (ac:=0) (ax:=0) (ad:=.l []) (on_lis h).1 hb).1
  dsimp only at k1
  rw [e1] at k1
  unfold endW
  dsimp only
  rw [e1]
  dsimp only
  unfold evW evR
  have hB:doB (rlM (rlA (mgV d mg))) (rlG (rlA (mgV d mg))) mc mt mf wt ⟨1,id,rq,d,ct,0,nk⟩ 4 tk=true:=doB_of (w:=⟨mru,mc,mt,mf,wt,ec,lo,1,id,rq,d,ct,0,nk,mgV d mg,pr,mu,0,0,tk,.l [],.l [.t [.i 2]]⟩) (on_mk k1 (on_lis h).2) rfl
  rw [doW_on hB]
  rfl
theorem c9_of {mg ic ii:Int} {x:D} (h:c9 mg ic ii x=true):(enc7E ic ii x==0)=true∧(decide (x.len<4)||eqB (x.sub 0 4) (mgD mg))=false:=by
  unfold c9 at h
  rw [Bool.and_eq_true,Bool.and_eq_true,Bool.not_eq_true',Bool.not_eq_true'] at h
  exact ⟨h.1,by rw [h.2.1,h.2.2]; rfl⟩
theorem pk_99 {mru mc mt mf wt ec lo id rq:Int} {d:D} {ct tm nk mg pr mu pe ne ii:Int} {x:D} {tk:Int} (h:onB ⟨mru,mc,mt,mf,wt,ec,lo,9,id,rq,d,ct,tm,nk,mg,pr,mu,pe,ne,tk,.l [],.l []⟩=true) (hc:c9 mg 9 ii x=true) :
    pktW ⟨mru,mc,mt,mf,wt,ec,lo,9,id,rq,d,ct,tm,nk,mg,pr,mu,pe,ne,tk,.l [],.l []⟩ 9 ii x=⟨mru,mc,mt,mf,wt,ec,lo,9,id,rq,d,ct,0,nk,mgV d mg,pr,mu,pe,ne,tk,.l [.t [.i 10,.i ii,D.app (mgD mg) (x.sub 4 x.len)]],.l [.t [.i 13]]⟩:=by
  obtain ⟨hE,hc⟩:=c9_of hc
  unfold pktW
  rw [hE,h]
  rw [Bool.and_self,cond_true]
  rw [pkt1_req rfl,hc]
  show evW _ (rlA mg) 16 9 ii x 10 ii (D.app (mgD mg) (x.sub 4 x.len))=_
  unfold evW evR
  rw [doW_on (doB_of h rfl)]
  rfl
theorem pk_9a {mru mc mt mf wt ec lo id rq:Int} {d:D} {ct tm nk mg pr mu pe ne ii:Int} {x:D} {tk:Int} (h:onB ⟨mru,mc,mt,mf,wt,ec,lo,9,id,rq,d,ct,tm,nk,mg,pr,mu,pe,ne,tk,.l [],.l []⟩=true) (hc:c9 mg 10 ii x=true) :
    pktW ⟨mru,mc,mt,mf,wt,ec,lo,9,id,rq,d,ct,tm,nk,mg,pr,mu,pe,ne,tk,.l [],.l []⟩ 10 ii x=⟨mru,mc,mt,mf,wt,ec,lo,9,id,rq,d,ct,tm,nk,mg,pr,mu,0,ne,tk,.l [],.l []⟩:=by
  obtain ⟨hE,hc⟩:=c9_of hc
  unfold pktW
  rw [hE,h]
  rw [Bool.and_self,cond_true]
  rw [pkt1_rep rfl,hc]
  rfl
theorem one_ki {c:Int} {y z:D}:Le (asl ctS (.l [.t [.i c,y,z]])) (.sl true ctS (.l [.t [.ki c,y,z]]) none):=by
  have l1:(D.l [.t [.i c,y,z]]).toL=[.t [.i c,y,z]]:=toL_l (by unfold maxLen; simp)
  have l2:(D.l [.t [.ki c,y,z]]).toL=[.t [.ki c,y,z]]:=toL_l (by unfold maxLen; simp)
  refine le_sl (by unfold D.len; rw [l1,l2]; rfl) fun i hi=>?_
  have hi:i<1:=by unfold D.len at hi; rw [l1] at hi; exact hi
  unfold D.get
  rw [l1,l2]
  match i,hi with
  | 0,_=>exact ⟨rfl,rfl,rfl,trivial⟩
theorem le_lk {v:WkV} {s:Int} {o x:AV} (h1:v.st=s) (h2:Le (asl ctS v.out) o) (h3:Le (asl acS v.did) x):Le (wkA v) (.tup [lK s v.id v.rq v.d v.ct v.tm v.nk v.mg v.pr v.mu v.pe v.ne,o,x]) :=
  le_two' (le_agg (leL_cons (le_int h1) (leL_cons (Le.refl _) (leL_cons (Le.refl _) (leL_cons (le_raw rfl) fun _ _ h=>h))))) h2 h3
theorem lpe_soundF:SoundF Tryz.prog 31 (pureS Tryz.prog 31 FPe):=by
  refine pureS_tree lpk_soundF fun args K ho H=>?_
  unfold FPe at H
  split at H
  · rename_i mru mc mt mf wt ec lo st id rq d ct tm nk mg pr mu pe ne ic ii x tk
    obtain ⟨hc,H1⟩:=need_holds H
    obtain ⟨hq,H2⟩:=need_holds H1
    clear H H1
    rw [Bool.and_eq_true] at hc
    obtain ⟨hon,hb⟩:=hc
    rw [lpm_tree]
    refine holds_t_of hb ?_
    have go:∀ (v:WkV) (y:AV),pktW ⟨mru,mc,mt,mf,wt,ec,lo,st,id,rq,d,ct,tm,nk,mg,pr,mu,pe,ne,tk,.l [],.l []⟩ ic ii x=v→Le (wkA v) y→K y→∃ y,Le (wkA (pktW ⟨mru,mc,mt,mf,wt,ec,lo,st,id,rq,d,ct,tm,nk,mg,pr,mu,pe,ne,tk,.l [],.l []⟩ ic ii x)) y∧K y:=by
      rintro v y rfl h1 h2; exact ⟨y,h1,h2⟩
    cases h1:st==9&&ic==9
    · rw [h1,cond_false] at H2
      cases h2:st==9&&ic==10
      · rw [h2] at H2; exact H2.elim
      · rw [h2,cond_true] at H2
        rw [Bool.and_eq_true] at h2
        obtain rfl:st=9:=eq_of_beq h2.1
        obtain rfl:ic=10:=eq_of_beq h2.2
        exact go _ _ (pk_9a hon hq) (le_lk rfl (le_raw rfl) (le_raw rfl)) H2
    · rw [h1,cond_true] at H2
      rw [Bool.and_eq_true] at h1
      obtain rfl:st=9:=eq_of_beq h1.1
      obtain rfl:ic=9:=eq_of_beq h1.2
      exact go _ _ (pk_99 hon hq) (le_lk rfl one_ki (Le.refl _)) H2
  · exact H.elim
theorem ltm_soundF:SoundF Tryz.prog 26 (pureS Tryz.prog 26 FTm):=by
  refine pureS_tree ltk_soundF fun args K ho H=>?_
  unfold FTm at H
  split at H
  · rename_i mru mc mt mf wt ec lo st id rq d ct tm nk mg pr mu pe ne tk
    obtain ⟨hc,H2⟩:=need_holds H
    clear H
    rw [Bool.and_eq_true] at hc
    obtain ⟨hon,hb⟩:=hc
    rw [ltm_tree]
    refine holds_t_of hb ?_
    have go:∀ (v:WkV) (y:AV),tikW ⟨mru,mc,mt,mf,wt,ec,lo,st,id,rq,d,ct,tm,nk,mg,pr,mu,pe,ne,tk,.l [],.l []⟩=v→Le (wkA v) y→K y→∃ y,Le (wkA (tikW ⟨mru,mc,mt,mf,wt,ec,lo,st,id,rq,d,ct,tm,nk,mg,pr,mu,pe,ne,tk,.l [],.l []⟩)) y∧K y:=by
      rintro v y rfl h1 h2; exact ⟨y,h1,h2⟩
    cases h1:st==9&&tm==0
    · rw [h1] at H2; exact H2.elim
    · rw [h1,cond_true] at H2
      rw [Bool.and_eq_true] at h1
      obtain rfl:st=9:=eq_of_beq h1.1
      obtain rfl:tm=0:=eq_of_beq h1.2
      have T:=tik_9 hon
      cases hd:dueB ne tk
      · have e:tik1 ⟨mru,mc,mt,mf,wt,ec,lo,9,id,rq,d,ct,0,nk,mgV d mg,pr,mu,pe,ne,tk,.l [],.l []⟩=⟨mru,mc,mt,mf,wt,ec,lo,9,id,rq,d,ct,0,nk,mgV d mg,pr,mu,pe,ne,tk,.l [],.l []⟩:=by
          unfold tik1
          show (bif true&&dueB ne tk then _ else _)=_
          rw [hd]; rfl
        exact go _ _ (T.trans e) (le_lk rfl (le_raw rfl) (le_raw rfl)) (H2.2 hd)
      · have H3:=H2.1 hd
        cases hl:decide (lo≤pe)
        · have e:tik1 ⟨mru,mc,mt,mf,wt,ec,lo,9,id,rq,d,ct,0,nk,mgV d mg,pr,mu,pe,ne,tk,.l [],.l []⟩=⟨mru,mc,mt,mf,wt,ec,lo,9,numN id,rq,d,ct,0,nk,mgV d mg,pr,mu,IntKind.wrap .i64 (pe+1),IntKind.wrap .i64 (tk+ec),tk,.l [ecE (numN id) (IntKind.wrap .u64 (mgV d mg))],.l []⟩:=by
            unfold tik1
            show (bif true&&dueB ne tk then _ else _)=_
            rw [hd]
            show (bif decide (lo≤pe) then _ else _)=_
            rw [hl]; rfl
          exact go _ _ (T.trans e) (le_lk rfl (le_raw rfl) (le_raw rfl)) (H3.2 hl)
        · have e:tik1 ⟨mru,mc,mt,mf,wt,ec,lo,9,id,rq,d,ct,0,nk,mgV d mg,pr,mu,pe,ne,tk,.l [],.l []⟩=⟨mru,mc,mt,mf,wt,ec,lo,0,id,rq,d,ct,0,nk,mgV d (mgV d (mgV d mg)),pr,mu,0,0,tk,.l [],.l [.t [.i 2],.t [.i 4]]⟩:=by
            unfold tik1
            show (bif true&&dueB ne tk then _ else _)=_
            rw [hd]
            show (bif decide (lo≤pe) then _ else _)=_
            rw [hl]
            exact end_9 hb (on_mg hon hb)
          exact go _ _ (T.trans e) (le_lk rfl (le_raw rfl) (le_raw rfl)) (H3.1 hl)
  · exact H.elim
end
end Go.Proofs.YtcambhbmobepjaaGreat
