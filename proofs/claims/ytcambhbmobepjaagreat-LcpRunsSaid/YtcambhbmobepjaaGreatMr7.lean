/- Mr, 7: texts of this claim, one behind the other: Kp1 Kp2 Kq1 Kq2 Kq3 Kq4. No condition. -/
import Derived.Test.YtcambhbmobepjaaGreatMr6
namespace Go.Proofs.YtcambhbmobepjaaGreat
set_option linter.unusedSimpArgs false
set_option linter.unusedVariables false
open Go.RowKit
set_option maxRecDepth 100000
noncomputable section
def lstU (x:D):Nat→Int
  | 0=>0
  | i+1=>bif acI x i==1 then 1 else bif acI x i==2 then 2 else lstU x i
theorem flN_lst (x:D) (ec tk ne:Int):∀ n,flN x ec tk ne n=bif lstU x n==1 then (bif decide (0<ec) then IntKind.wrap .i64 (tk+ec) else 0) else bif lstU x n==2 then 0 else ne
  | 0=>rfl
  | n+1=>by
    show (bif acI x n==1 then (bif decide (0<ec) then IntKind.wrap .i64 (tk+ec) else 0) else bif acI x n==2 then 0 else flN x ec tk ne n)=bif (bif acI x n==1 then 1 else bif acI x n==2 then 2 else lstU x n:Int)==1 then _ else bif (bif acI x n==1 then 1 else bif acI x n==2 then 2 else lstU x n:Int)==2 then 0 else ne
    rw [flN_lst x ec tk ne n]
    cases acI x n==1 <;> cases acI x n==2 <;> rfl
theorem flP_or (x:D) (pe:Int):∀ n,flP x pe n=0∨flP x pe n=pe
  | 0=>.inr rfl
  | n+1=>by
    show (bif acI x n==1||acI x n==2 then 0 else flP x pe n)=0∨(bif acI x n==1||acI x n==2 then 0 else flP x pe n)=pe
    cases acI x n==1||acI x n==2
    · exact flP_or x pe n
    · exact .inl rfl
def timU (x:D):Nat→Nat→Bool
  | 0,_=>false
  | m+1,i=>(acI x i==6||(acI x i==7||acI x i==10))||timU x m (i+1)
theorem actF_tm (c:DoC) (a:Int) (v:DoV):(actF c a v).tm=bif a==6||(a==7||a==10) then IntKind.wrap .i64 (c.tk+c.wt) else v.tm:=by
  unfold actF
  by_cases h5:a=5
  · subst h5; rfl
  by_cases h6:a=6
  · subst h6; rfl
  by_cases h7:a=7
  · subst h7; rfl
  by_cases h8:a=8
  · subst h8; rfl
  by_cases h9:a=9
  · subst h9; rfl
  by_cases h10:a=10
  · subst h10; rfl
  rw [beq_false_of_ne h5,beq_false_of_ne h6,beq_false_of_ne h7,beq_false_of_ne h8,beq_false_of_ne h9,beq_false_of_ne h10]
  cases a==11 <;> cases a==12 <;> cases a==13 <;> rfl
theorem acts_tm {c:DoC} {did:D}:∀ (m i:Nat) (v:DoV),(actsF c did m i v).tm=bif timU did m i then IntKind.wrap .i64 (c.tk+c.wt) else v.tm
  | 0,_,_=>rfl
  | m+1,i,v=>by
    show (actsF c did m (i+1) (actF c (acI did i) v)).tm=bif (acI did i==6||(acI did i==7||acI did i==10))||timU did m (i+1) then _ else v.tm
    rw [acts_tm m (i+1),actF_tm]
    cases acI did i==6||(acI did i==7||acI did i==10) <;> cases timU did m (i+1) <;> rfl
def stpK (st e:Int):Bool:=inB (rfcN st e) 0 9&&((bif lstU (rfcD st e) (rfcD st e).len==1 then rfcN st e==9 else bif lstU (rfcD st e) (rfcD st e).len==2 then true else !(st==9)||rfcN st e==9)&&(!tmdB (rfcN st e)||(tmdB st||timU (rfcD st e) (rfcD st e).len 0)))
theorem stpK_all:((List.range 10).all fun i=>(List.range 16).all fun j=>!(rfcE (i:Int) ((j+1:Nat):Int)==0)||stpK (i:Int) ((j+1:Nat):Int))=true:=by kernel_rfl
theorem stpK_of {st e:Int} (h:(rfcE st e==0)=true):stpK st e=true:=by
  have hb:rfcB st e=true:=by
    cases hb:rfcB st e
    · unfold rfcE at h; rw [hb] at h; cases h
    · rfl
  obtain ⟨⟨h1,h2⟩,h3,h4⟩:=odt hb
  obtain ⟨i,hi⟩:∃ i:Nat,st=i:=⟨st.toNat,by omega⟩
  obtain ⟨j,hj⟩:∃ j:Nat,e=((j+1:Nat):Int):=⟨e.toNat - 1,by omega⟩
  subst hi; subst hj
  have:=List.all_eq_true.1 (List.all_eq_true.1 stpK_all i (List.mem_range.2 (by omega))) j (List.mem_range.2 (by omega))
  rw [h] at this
  exact this
def vOk (v:DoV):Prop:=(0≤v.id∧v.id≤255)∧(0≤v.rq∧v.rq≤255)∧(0≤v.ct∧v.ct≤1000)∧(0≤v.nk∧v.nk≤1000)
theorem numN_rng {i:Int} (h:0≤i∧i≤255):0≤numN i∧numN i≤255:=by
  unfold numN
  rw [i64_id ⟨by omega,by omega⟩,Int.tmod_eq_emod_of_nonneg (by omega)]
  omega
theorem cntN_rng {i:Int} (h:0≤i∧i≤1000):0≤cntN i∧cntN i≤1000:=by
  unfold cntN imax
  by_cases h0:i=0
  · subst h0
    have:IntKind.wrap .i64 (0 - 1)=-1:=by decide
    rw [this]; decide
  · rw [i64_id ⟨by omega,by omega⟩]
    split <;> omega
theorem actF_ok {c:DoC} {a:Int} {v:DoV} (hc:1≤c.mc∧c.mc≤1000) (ht:1≤c.mt∧c.mt≤1000) (h:vOk v):vOk (actF c a v):=by
  obtain ⟨h1,h2,h3,h4⟩:=h
  have n1:=numN_rng h1
  have c1:=cntN_rng h3
  unfold actF
  cases a==5
  rotate_left
  · simp only [cond_true]
    refine ⟨h1,h2,?_,h4⟩
    show 0≤(bif hasA c.didr 10 then c.mt else c.mc)∧(bif hasA c.didr 10 then c.mt else c.mc)≤1000
    cases hasA c.didr 10
    · show 0≤c.mc∧c.mc≤1000; omega
    · show 0≤c.mt∧c.mt≤1000; omega
  cases a==6
  rotate_left
  · refine ⟨h1,h2,?_,h4⟩
    show (0:Int)≤0∧(0:Int)≤1000
    decide
  cases a==7
  rotate_left
  · exact ⟨n1,n1,c1,h4⟩
  cases a==8
  rotate_left
  · refine ⟨h1,h2,h3,?_⟩
    show (0:Int)≤0∧(0:Int)≤1000
    decide
  cases a==9
  rotate_left
  · simp only [cond_true,cond_false]
    refine ⟨h1,h2,h3,?_⟩
    show 0≤(bif c.ac==3 then imin (IntKind.wrap .i64 (v.nk+1)) 1000 else v.nk)∧(bif c.ac==3 then imin (IntKind.wrap .i64 (v.nk+1)) 1000 else v.nk)≤1000
    cases c.ac==3
    · exact h4
    · show 0≤imin (IntKind.wrap .i64 (v.nk+1)) 1000∧imin (IntKind.wrap .i64 (v.nk+1)) 1000≤1000
      rw [i64_id ⟨by omega,by omega⟩]
      unfold imin; split <;> omega
  cases a==10
  rotate_left
  · exact ⟨n1,h2,c1,h4⟩
  cases a==11
  rotate_left
  · exact ⟨h1,h2,h3,h4⟩
  cases a==12
  rotate_left
  · exact ⟨n1,h2,h3,h4⟩
  cases a==13
  · exact ⟨h1,h2,h3,h4⟩
  · exact ⟨h1,h2,h3,h4⟩
theorem acts_ok {c:DoC} {did:D} (hc:1≤c.mc∧c.mc≤1000) (ht:1≤c.mt∧c.mt≤1000):∀ (m i:Nat) (v:DoV),vOk v→vOk (actsF c did m i v)
  | 0,_,_,h=>h
  | m+1,i,_,h=>acts_ok hc ht m (i+1) _ (actF_ok hc ht h)
def soundA (a:AuV):Bool:=soundB a.st a.id a.rq a.d a.ct a.tm a.nk
theorem soundA_iff (a:AuV):soundA a=true↔(0≤a.st∧a.st≤9)∧(0≤a.id∧a.id≤255)∧(0≤a.rq∧a.rq≤255)∧(0≤a.ct∧a.ct≤1000)∧(0≤a.nk∧a.nk≤1000)∧encE a.d=0∧(((4≤a.st∧a.st≤8)∧1≤a.tm∧a.tm≤1099512676352)∨(¬ (4≤a.st∧a.st≤8)∧a.tm=0)):=soundB_iff _ _ _ _ _ _ _ _ rfl
def neOk (ec st ne:Int):Prop:=ne=0∨(st=9∧0<ec∧1≤ne∧ne≤1099512676352)
structure Kp (ec tk:Int) (a:AuV) (r:DoneV):Prop where
  snd:soundA a=true→soundA r.a=true
  nec:∀ ne,neOk ec a.st ne→neOk ec r.a.st (flN r.did ec tk ne r.did.len)
theorem kp_stay {ec tk:Int} {a:AuV}:Kp ec tk a (stayV a):=⟨fun h=>h,fun _ h=>h⟩
theorem setB_iff (m g b c d e:Int):setB m g b c d e=true↔rulesB m g=true∧(1≤b∧b≤1000)∧(1≤c∧c≤1000)∧(0≤d∧d≤1000)∧(1≤e∧e≤1048576):=by
  simp only [setB,inB,Bool.and_eq_true,decide_eq_true_eq]
theorem kp_doW {ec tk m g mc mt mf wt:Int} {a:AuV} {e ic ii:Int} {ix:D} {ac ax:Int} {ad:D} (hec:0≤ec∧ec≤1048576):Kp ec tk a (doW m g mc mt mf wt a e ic ii ix ac ax ad tk):=by
  cases hb:doB m g mc mt mf wt a e tk
  · rw [doW_off hb]; exact kp_stay
  · have hd:=doW_on (ic:=ic) (ii:=ii) (ix:=ix) (ac:=ac) (ax:=ax) (ad:=ad) hb
    unfold doB mayB at hb
    rw [Bool.and_eq_true,Bool.and_eq_true,Bool.and_eq_true] at hb
    obtain ⟨⟨hs,ha,ht⟩,he⟩:=hb
    have ht:0≤tk∧tk≤1099511627776:=odt ht
    obtain ⟨_,hmc,hmt,_,hw⟩:=(setB_iff _ _ _ _ _ _).1 hs
    have hk:=stpK_of he
    unfold stpK at hk
    rw [Bool.and_eq_true,Bool.and_eq_true] at hk
    obtain ⟨k1,k2,k3⟩:=hk
    have k1:0≤rfcN a.st e∧rfcN a.st e≤9:=odt k1
    obtain ⟨s1,s2,s3,s4,s5,s6,s7⟩:=(soundA_iff a).1 ha
    have V:=acts_ok (c:=doK m g mc mt mf wt a.st e a.d ic ii ix ac ax ad tk) (did:=rfcD a.st e) hmc hmt (rfcD a.st e).len 0 ⟨a.id,a.rq,a.ct,a.tm,a.nk,.l []⟩ ⟨s2,s3,s4,s5⟩
    have T:=acts_tm (c:=doK m g mc mt mf wt a.st e a.d ic ii ix ac ax ad tk) (did:=rfcD a.st e) (rfcD a.st e).len 0 ⟨a.id,a.rq,a.ct,a.tm,a.nk,.l []⟩
    have T:(doR m g mc mt mf wt a e ic ii ix ac ax ad tk).tm=bif timU (rfcD a.st e) (rfcD a.st e).len 0 then IntKind.wrap .i64 (tk+wt) else a.tm:=T
    have V:vOk (doR m g mc mt mf wt a e ic ii ix ac ax ad tk):=V
    rw [hd]
    generalize doR m g mc mt mf wt a e ic ii ix ac ax ad tk=v at T V
    obtain ⟨v1,v2,v3,v4⟩:=V
    rw [i64_id (n:=tk+wt) ⟨by omega,by omega⟩] at T
    refine ⟨fun _=>(soundA_iff _).2 ⟨k1,v1,v2,v3,v4,s6,?_⟩,fun ne hne=>?_⟩
    · dsimp only
      cases hm:tmdB (rfcN a.st e)
      · exact .inr ⟨odf hm,rfl⟩
      · refine .inl ⟨odt hm,?_⟩
        rw [cond_true,T]
        rw [hm] at k3
        cases hu:timU (rfcD a.st e) (rfcD a.st e).len 0
        · rw [hu,Bool.or_false] at k3
          have k3:4≤a.st∧a.st≤8:=odt k3
          rw [cond_false]
          rcases s7 with s7 | s7
          · exact s7.2
          · exact absurd k3 s7.1
        · rw [cond_true]; omega
    · dsimp only
      rw [flN_lst]
      cases h1:lstU (rfcD a.st e) (rfcD a.st e).len==1
      · rw [cond_false]
        rw [h1,cond_false] at k2
        cases h2:lstU (rfcD a.st e) (rfcD a.st e).len==2
        · rw [h2,cond_false] at k2
          rw [cond_false]
          rcases hne with hne | ⟨hs9,hr⟩
          · exact .inl hne
          · rw [hs9] at k2
            exact .inr ⟨by rw [hs9]; exact eq_of_beq k2,hr⟩
        · exact .inl rfl
      · rw [cond_true]
        rw [h1,cond_true] at k2
        cases hz:decide (0<ec)
        · exact .inl rfl
        · have hz:=odt hz
          rw [cond_true,i64_id (n:=tk+ec) ⟨by omega,by omega⟩]
          exact .inr ⟨eq_of_beq k2,hz,by omega,by omega⟩
theorem kp_tmW {ec tk m g mc mt mf wt:Int} {a:AuV} (hec:0≤ec∧ec≤1048576):Kp ec tk a (tmW m g mc mt mf wt a tk):=by
  unfold tmW
  cases (a.tm==0)||decide (tk<a.tm)
  · exact kp_doW hec
  · exact kp_stay
abbrev auW (w:WkV):AuV:=⟨w.st,w.id,w.rq,w.d,w.ct,w.tm,w.nk⟩
theorem lisW_iff (w:WkV):lisW w=true↔fitsB w.mru w.mc w.mt w.mf w.wt w.ec w.lo=true∧(1≤w.mg∧w.mg≤4294967295)∧(0≤w.pr∧w.pr≤4294967295)∧(128≤w.mu∧w.mu≤1492)∧(0≤w.pe∧w.pe≤1000)∧soundA (auW w)=true∧neOk w.ec w.st w.ne:=lisB_iff _ _ _ _ _ _ _ _ _ _ _ _ _ _ _ _ _ _ _
theorem lis_ec {w:WkV} (h:lisW w=true):0≤w.ec∧w.ec≤1048576:=by
  have:=(fitsB_iff _ _ _ _ _ _ _).1 ((lisW_iff w).1 h).1
  exact this.2.2.2.2.2.1
theorem fol_keep {w:WkV} {r:DoneV} (h:lisW w=true) (hk:Kp w.ec w.tick (auW w) r) (hb:optsB r.a.d=true):lisW (folW w r)=true:=by
  obtain ⟨h1,h2,h3,h4,h5,h6,h7⟩:=(lisW_iff w).1 h
  refine (lisW_iff _).2 ⟨h1,mgV_rng hb h2,h3,h4,?_,hk.snd h6,hk.nec _ h7⟩
  show 0≤flP r.did w.pe r.did.len∧flP r.did w.pe r.did.len≤1000
  rcases flP_or r.did w.pe r.did.len with e | e <;> rw [e] <;> omega
theorem ev_keep {w:WkV} {e ic ii:Int} {ix:D} {ac ax:Int} {ad:D} (h:lisW w=true) (hb:optsB w.d=true):lisW (evW w (rlA w.mg) e ic ii ix ac ax ad)=true∧optsB (evW w (rlA w.mg) e ic ii ix ac ax ad).d=true:=by
  have hd:(evR w (rlA w.mg) e ic ii ix ac ax ad).a.d=w.d:=doW_fit.2.2
  exact ⟨fol_keep h (kp_doW (lis_ec h)) (by rw [hd]; exact hb),by show optsB (evR w (rlA w.mg) e ic ii ix ac ax ad).a.d=true; rw [hd]; exact hb⟩
theorem ldo_keep {w:WkV} {e:Int} (h:lisW w=true) (hb:optsB w.d=true):lisW (ldoW w e)=true∧optsB (ldoW w e).d=true:=by
  unfold ldoW
  cases evB e&&onB w
  · exact ⟨h,hb⟩
  · exact ev_keep h hb
theorem lrj_keep {w:WkV} {p:Int} {x:D} (h:lisW w=true) (hb:optsB w.d=true):lisW (lrjW w p x)=true∧optsB (lrjW w p x).d=true:=by
  unfold lrjW
  cases lisW w&&(w.st==9&&pro7E p x (numN w.id)==0)
  · exact ⟨h,hb⟩
  · obtain ⟨h1,h2,h3,h4,h5,h6,h7⟩:=(lisW_iff w).1 h
    obtain ⟨s1,s2,s3,s4,s5,s6,s7⟩:=(soundA_iff _).1 h6
    exact ⟨(lisW_iff _).2 ⟨h1,h2,h3,h4,h5,(soundA_iff _).2 ⟨s1,numN_rng s2,s3,s4,s5,s6,s7⟩,h7⟩,hb⟩
theorem fol_d (w:WkV) (r:DoneV):(folW w r).d=r.a.d:=rfl
theorem tik_keep {w:WkV} (h:lisW w=true) (hb:optsB w.d=true):lisW (tikW w)=true∧optsB (tikW w).d=true:=by
  unfold tikW
  cases hon:onB w
  · exact ⟨h,hb⟩
  rw [cond_true]
  unfold onB at hon
  rw [Bool.and_eq_true,Bool.and_eq_true] at hon
  have ht0:=odt hon.2.1
  have ht1:=odt hon.2.2
  have hr:(tmR w).a.d=w.d:=tmW_fit.2.2
  have h1:lisW (folW w (tmR w))=true:=fol_keep h (kp_tmW (lis_ec h)) (by rw [hr]; exact hb)
  have b1:optsB (folW w (tmR w)).d=true:=by rw [fol_d,hr]; exact hb
  have t1:(folW w (tmR w)).tick=w.tick:=rfl
  generalize folW w (tmR w)=u at h1 b1 t1
  unfold tik1
  cases hc:u.st==9&&(u.ne != 0&&decide (u.ne≤u.tick))
  · exact ⟨h1,b1⟩
  rw [cond_true]
  cases hl:decide (u.lo≤u.pe)
  · rw [cond_false]
    rw [Bool.and_eq_true,Bool.and_eq_true] at hc
    obtain ⟨c1,c2,c3⟩:=hc
    have hl:=odf hl
    obtain ⟨k1,k2,k3,k4,k5,k6,k7⟩:=(lisW_iff u).1 h1
    have hf:=(fitsB_iff _ _ _ _ _ _ _).1 k1
    obtain ⟨s1,s2,s3,s4,s5,s6,s7⟩:=(soundA_iff _).1 k6
    have he:=lis_ec h1
    have hne:u.ne≠0:=by rwa [bne_iff_ne] at c2
    have k7:=k7.resolve_left hne
    refine ⟨(lisW_iff _).2 ⟨k1,k2,k3,k4,?_,(soundA_iff _).2 ⟨s1,numN_rng s2,s3,s4,s5,s6,s7⟩,?_⟩,b1⟩
    · show 0≤IntKind.wrap .i64 (u.pe+1)∧IntKind.wrap .i64 (u.pe+1)≤1000
      rw [i64_id ⟨by omega,by omega⟩]
      omega
    · show neOk u.ec u.st (IntKind.wrap .i64 (u.tick+u.ec))
      rw [i64_id ⟨by omega,by omega⟩]
      exact .inr ⟨k7.1,k7.2.1,by omega,by omega⟩
  · rw [cond_true]
    unfold endW
    have e1:=ev_keep (e:=2) (ic:=0) (ii:=0) (ix:=.l []) (ac:=0) (ax:=0) (ad:=.l []) h1 b1
    exact ev_keep e1.1 e1.2
theorem hasK_f {x:D}:hasK x=false ↔ ∀ i,i<x.len→neC x i=true:=by
  unfold hasK
  rw [Bool.not_eq_false',okFrom_iff]
  exact ⟨fun h i hi=>h i (Nat.zero_le _) (by omega),fun h i _ hi=>h i (by omega)⟩
theorem no2_put {o a b x:D} (ho:o.len≤8) (h:hasK o=false) (ha:a.toI≠2):hasK (putO o a b x)=false:=by
  rw [hasK_f] at h ⊢
  intro i hi
  rw [putO_len ho] at hi
  have e1:(D.l [D.t [a,b,x]]).toL=[D.t [a,b,x]]:=toL_l (by unfold maxLen; simp)
  unfold neC putO
  rw [app_get (by unfold D.len at ho ⊢; rw [e1]; unfold maxLen; simp; omega)]
  split
  · rename_i hlt; exact h i hlt
  · have:i - o.len=0:=by omega
    rw [this]
    unfold D.get
    rw [e1]
    exact bne_iff_ne.2 ha
theorem actF_no2 {c:DoC} {a:Int} {v:DoV} (hc:c.ac≠2) (hl:v.out.len≤8) (h:hasK v.out=false):hasK (actF c a v).out=false:=by
  have p:∀ a b x:D,a.toI≠2→hasK (putO v.out a b x)=false:=fun a b x ha=>no2_put hl h ha
  unfold actF
  cases a==5
  rotate_left
  · exact h
  cases a==6
  rotate_left
  · exact h
  cases a==7
  rotate_left
  · exact p _ _ _ (by show (1:Int)≠2; decide)
  cases a==8
  rotate_left
  · exact p _ _ _ hc
  cases a==9
  rotate_left
  · exact p _ _ _ hc
  cases a==10
  rotate_left
  · exact p _ _ _ (by show (5:Int)≠2; decide)
  cases a==11
  rotate_left
  · exact p _ _ _ (by show (6:Int)≠2; decide)
  cases a==12
  rotate_left
  · simp only [cond_true,cond_false]
    cases rej7E c.ic c.ii c.ix (numN v.id)==0
    · exact h
    · refine p _ _ _ ?_
      show rej7C (rej7E c.ic c.ii c.ix (numN v.id)) 7≠2
      unfold rej7C
      split <;> decide
  cases a==13
  · exact h
  · exact p _ _ _ hc
theorem acts_no2 {c:DoC} {did:D} (hc:c.ac≠2):∀ (m i:Nat) (v:DoV),v.out.len+m≤8→hasK v.out=false→hasK (actsF c did m i v).out=false
  | 0,_,_,_,h=>h
  | m+1,i,v,hl,h=>acts_no2 hc m (i+1) _ (by
      have:=actF_len (c:=c) (a:=((did.get i).cell 0).toI) (v:=v) (by omega)
      omega) (actF_no2 hc (by omega) h)
theorem doW_no2 {m g mc mt mf wt:Int} {a:AuV} {e ic ii:Int} {ix:D} {ac ax:Int} {ad:D} {tk:Int} (hc:ac≠2):hasK (doW m g mc mt mf wt a e ic ii ix ac ax ad tk).out=false:=by
  cases hb:doB m g mc mt mf wt a e tk
  · rw [doW_off hb]; rfl
  · rw [doW_on hb]
    have:=rfcD_len a.st e
    exact acts_no2 (c:=doK m g mc mt mf wt a.st e a.d ic ii ix ac ax ad tk) (did:=rfcD a.st e) hc (rfcD a.st e).len 0 ⟨a.id,a.rq,a.ct,a.tm,a.nk,.l []⟩ (by show 0+_≤8; omega) rfl
theorem pkW_K {r:D} {mc mt mf wt:Int} {a:AuV} {ic ii:Int} {ix:D} {tk:Int} (h:hasK (pkW r mc mt mf wt a ic ii ix tk).out=true):ic=1∧ansC r (decO ix) a.nk mf=2:=by
  have S:hasK (stayV a).out=false:=rfl
  have W:∀ (b:AuV) (e ac ax:Int) (ad:D),ac≠2→hasK (doW (rlM r) (rlG r) mc mt mf wt b e ic ii ix ac ax ad tk).out=false:=fun _ _ _ _ _ hc=>doW_no2 hc
  have C:∀ (b:Bool) (x y:DoneV),hasK x.out=false→hasK y.out=false→hasK (bif b then x else y).out=false:=fun b x y hx hy=>by cases b <;> assumption
  apply Decidable.byContradiction
  intro hn
  have:hasK (pkW r mc mt mf wt a ic ii ix tk).out=false:=by
    unfold pkW
    cases hic:ic==1
    · simp only [cond_false]
      repeat (first | with_reducible refine C _ _ _ ?_ ?_ | with_reducible exact S | exact W _ _ _ _ _ (by decide))
    · have hn:ansC r (decO ix) a.nk mf≠2:=fun h=>hn ⟨eq_of_beq hic,h⟩
      simp only [cond_true]
      repeat (first | with_reducible refine C _ _ _ ?_ ?_ | with_reducible exact S | exact W _ _ _ _ _ hn)
  rw [this] at h
  cases h
theorem kp_lrn {ec tk m g mc mt mf wt:Int} {a:AuV} {nd:D} {e ic ii:Int} {ix:D} {ac ax:Int} {ad:D} (hec:0≤ec∧ec≤1048576) (hn:(encE nd==0)=true):Kp ec tk a (doW m g mc mt mf wt ⟨a.st,a.id,a.rq,nd,a.ct,a.tm,a.nk⟩ e ic ii ix ac ax ad tk):=by
  have k:Kp ec tk ⟨a.st,a.id,a.rq,nd,a.ct,a.tm,a.nk⟩ (doW m g mc mt mf wt ⟨a.st,a.id,a.rq,nd,a.ct,a.tm,a.nk⟩ e ic ii ix ac ax ad tk):=kp_doW hec
  refine ⟨fun h=>k.snd ?_,k.nec⟩
  obtain ⟨s1,s2,s3,s4,s5,s6,s7⟩:=(soundA_iff _).1 h
  exact (soundA_iff _).2 ⟨s1,s2,s3,s4,s5,eq_of_beq hn,s7⟩
theorem kp_pkW {ec tk:Int} {r:D} {mc mt mf wt:Int} {a:AuV} {ic ii:Int} {ix:D} (hec:0≤ec∧ec≤1048576):Kp ec tk a (pkW r mc mt mf wt a ic ii ix tk):=by
  have C:∀ (b:Bool) (x y:DoneV),(b=true→Kp ec tk a x)→(b=false→Kp ec tk a y)→Kp ec tk a (bif b then x else y):=fun b x y hx hy=>by
    cases b
    · exact hy rfl
    · exact hx rfl
  unfold pkW
  repeat (first | with_reducible refine C _ _ _ (fun _=>?_) (fun _=>?_) | with_reducible exact kp_stay | exact kp_lrn hec (by assumption) | exact kp_doW hec)
theorem ack_of {r d:D} {nk mo:Int} (h:ansC r d nk mo=2):(oddL r d).len=0∧(nakL r d).len=0:=by
  unfold ansC at h
  cases hr:okR r
  · rw [hr,cond_false] at h; exact absurd h (by decide)
  rw [hr,cond_true] at h
  by_cases h1:0<(oddL r d).len
  · rw [if_pos h1] at h; exact absurd h (by decide)
  rw [if_neg h1] at h
  by_cases h2:(nakL r d).len=0
  · exact ⟨by omega,h2⟩
  rw [if_neg h2] at h
  by_cases h3:mo≤nk∧0<(bdL r d).len
  · rw [if_pos h3] at h; exact absurd h (by decide)
  · rw [if_neg h3] at h; exact absurd h (by decide)
theorem app1_nz (a x:D):(D.app a (.l [x])).len≠0:=by
  have e1:(D.l [x]).toL=[x]:=toL_l (by unfold maxLen; simp)
  unfold D.app D.len D.toL D.raw
  show (List.take maxLen (a.toL ++ (D.l [x]).toL)).length≠0
  rw [e1,List.length_take,List.length_append]
  unfold maxLen
  simp
theorem grow_zero {b:D} {p:Nat→Bool} {f:Nat→D}:∀ n,(grow b p f n).len=0→b.len=0
  | 0,h=>h
  | n+1,h=>by
    have h:(bif p n then (grow b p f n).app (.l [f n]) else grow b p f n).len=0:=h
    cases hp:p n
    · rw [hp] at h; exact grow_zero n h
    · rw [hp] at h; exact absurd h (app1_nz _ _)
theorem filD_zero {p:Nat→Bool} {f:Nat→D} {n:Nat} (hn:n≤maxLen) (h:(filD p f n).len=0) {i:Nat} (hi:i<n):p i=false:=by
  unfold D.len at h
  rw [filD_toL hn,List.length_map,List.length_eq_zero_iff,List.filter_eq_nil_iff] at h
  have:=h i (List.mem_range.2 hi)
  simpa using this
theorem ack_opt {r d:D} {nk mo:Int} (h:ansC r d nk mo=2) {i:Nat} (hi:i<d.len):oddB r d d i=false∧notB r d i=false:=by
  obtain ⟨h1,h2⟩:=ack_of h
  have ho:oddB r d d i=false:=filD_zero d.len_le h1 hi
  have hb:bdB r d d i=false:=filD_zero d.len_le (grow_zero _ h2) hi
  unfold bdB at hb
  rw [ho] at hb
  exact ⟨ho,hb⟩
theorem ack_mru {m:Int} {d:D} {nk mo:Int} (h:ansC (rlA m) d nk mo=2):128≤brV d 1 1492∧brV d 1 1492≤1492:=by
  unfold brV
  cases hb:brB d 1
  · show (128:Int)≤1492∧(1492:Int)≤1492
    decide
  unfold brB at hb
  rw [Bool.and_eq_true] at hb
  obtain ⟨hT,_⟩:=hb
  rw [cond_true]
  unfold fnD
  rw [hT,cond_true]
  have hf:okFrom (neT d 1) d.len 0=false:=by unfold hasT at hT; rwa [Bool.not_eq_true'] at hT
  obtain ⟨_,hk,hne⟩:=badFrom_at hf
  generalize badFrom (neT d 1) d.len 0=k at hk hne
  have ht:optT d k=1:=by unfold neT at hne; exact eq_of_beq (by rw [bne,Bool.not_eq_false'] at hne; exact hne)
  obtain ⟨ho,hn⟩:=ack_opt h (i:=k) (by omega)
  unfold oddB at ho
  rw [Bool.or_eq_false_iff] at ho
  have ho:=odf ho.1
  unfold notB rulK at hn
  rw [ht] at ho hn
  have hl:(rlA m).len=2:=rfl
  have e0:rnoT (rlA m) 1 (optB d k).len 0=!((2:Int)==(optB d k).len):=rfl
  have e1:rnoT (rlA m) 1 (optB d k).len 1=true:=rfl
  have hR:ruleI (rlA m) 1 (optB d k).len=bif rnoT (rlA m) 1 (optB d k).len 0&&(rnoT (rlA m) 1 (optB d k).len 1&&true) then -1 else ((if rnoT (rlA m) 1 (optB d k).len 0=true then (if rnoT (rlA m) 1 (optB d k).len 1=true then 2 else 1) else 0:Nat):Int):=by
    unfold ruleI
    rw [hl]; rfl
  rw [e1,e0] at hR
  cases h2:((2:Int)==(optB d k).len)
  · rw [h2] at hR
    rw [hR] at ho
    exact absurd (by decide) ho
  · rw [h2] at hR
    have hR:ruleI (rlA m) 1 (optB d k).len=0:=hR
    rw [hR] at hn
    have h2:(2:Int)=(optB d k).len:=eq_of_beq h2
    have hx:(optB d k).len=2:=by omega
    have hn:(!decide (128≤numB (optB d k)∧numB (optB d k)≤1492))=false:=hn
    rw [Bool.not_eq_false'] at hn
    have hn:=odt hn
    have e:nmI (optB d k)=numB (optB d k):=by
      unfold nmI numB
      rw [if_neg (by omega),if_pos hx,if_pos hx]
    rw [e]; exact hn
theorem nmI_any {x:D} (hb:bytesB x=true):0≤nmI x∧nmI x≤4294967295:=by
  have h:∀ j,j<x.len→0≤byA x j∧byA x j<256:=fun j hj=>bytes_at hb hj
  unfold nmI
  by_cases h1:x.len=1
  · rw [if_pos h1]
    have:=h 0 (by omega)
    omega
  rw [if_neg h1]
  by_cases h2:x.len=2
  · rw [if_pos h2]
    have:=h 0 (by omega)
    have:=h 1 (by omega)
    omega
  rw [if_neg h2]
  by_cases h3:x.len=3
  · rw [if_pos h3]
    have:=h 0 (by omega)
    have:=h 1 (by omega)
    have:=h 2 (by omega)
    omega
  rw [if_neg h3]
  by_cases h4:x.len=4
  · rw [if_pos h4]
    have:=h 0 (by omega)
    have:=h 1 (by omega)
    have:=h 2 (by omega)
    have:=h 3 (by omega)
    omega
  · rw [if_neg h4]; omega
theorem cnf_keep {w:WkV} {ic ii:Int} {ix:D} (h:lisW w=true) (hb:optsB w.d=true) (hx:bytesB ix=true) (ho:w.out=.l []):lisW (cnfW w (rlA w.mg) ic ii ix)=true∧optsB (cnfW w (rlA w.mg) ic ii ix).d=true:=by
  have F:pkFit (cnR w (rlA w.mg) ic ii ix):=pkW_fit (a:=auW w) hb hx
  have h1:lisW (folW w (cnR w (rlA w.mg) ic ii ix))=true:=fol_keep h (kp_pkW (lis_ec h)) F.2.2
  have b1:optsB (folW w (cnR w (rlA w.mg) ic ii ix)).d=true:=F.2.2
  unfold cnfW
  cases hk:hasK (folW w (cnR w (rlA w.mg) ic ii ix)).out
  · exact ⟨h1,b1⟩
  have hk2:hasK (D.app w.out (cnR w (rlA w.mg) ic ii ix).out)=true:=hk
  rw [ho,hasK_nil (by have:=F.1; unfold maxLen; omega)] at hk2
  obtain ⟨_,hack⟩:=pkW_K hk2
  have hm:=ack_mru hack
  obtain ⟨k1,k2,k3,k4,k5,k6,k7⟩:=(lisW_iff _).1 h1
  refine ⟨(lisW_iff _).2 ⟨k1,k2,?_,hm,k5,k6,k7⟩,b1⟩
  show 0≤brV (decO ix) 5 0∧brV (decO ix) 5 0≤4294967295
  unfold brV
  cases brB (decO ix) 5
  · show (0:Int)≤0∧(0:Int)≤4294967295
    decide
  · exact nmI_any (fnD_by (decO_fit hx).2)
theorem pkt_keep {w:WkV} {ic ii:Int} {ix:D} (h:lisW w=true) (hb:optsB w.d=true) (hx:bytesB ix=true) (ho:w.out=.l []):lisW (pktW w ic ii ix)=true∧optsB (pktW w ic ii ix).d=true:=by
  have C:∀ (b:Bool) (x y:WkV),(lisW x=true∧optsB x.d=true)→(lisW y=true∧optsB y.d=true)→lisW (bif b then x else y)=true∧optsB (bif b then x else y).d=true:=fun b x y hx hy=>by
    cases b
    · exact hy
    · exact hx
  unfold pktW
  refine C _ _ _ ?_ ⟨h,hb⟩
  unfold pkt1
  refine C _ _ _ (cnf_keep h hb hx ho) (C _ _ _ (ev_keep h hb) (C _ _ _ ⟨h,hb⟩ (C _ _ _ (C _ _ _ (C _ _ _ (ev_keep h hb) (ev_keep h hb)) ⟨h,hb⟩) (C _ _ _ ⟨h,hb⟩ (C _ _ _ ?_ (ev_keep h hb))))))
  obtain ⟨k1,k2,k3,k4,k5,k6,k7⟩:=(lisW_iff _).1 h
  exact ⟨(lisW_iff _).2 ⟨k1,k2,k3,k4,⟨Int.le_refl _,(show (0:Int)≤1000 by decide)⟩,k6,k7⟩,hb⟩
abbrev cI (x:D) (i j:Nat):Int:=((x.get i).cell j).toI
abbrev cD (x:D) (i:Nat):D:=(x.get i).cell 2
def smB (x y:D) (i:Nat):Bool:=cI x i 0==cI y i 0&&(cI x i 1==cI y i 1&&(cD x i).str.toList==(cD y i).str.toList)
def smC (x y:D):Bool:=decide (x.len=y.len)&&okFrom (smB x y) x.len 0
structure smaX where
  (x y:D)
def smaL:Lw:=⟨[0,1,4,5],[],0,0,1000,1000⟩
def smaF (a:smaX) (i:Nat):Tm:=⟨27,[(0,.sl false ctS a.x none),(1,.sl false ctS a.y none),(4,.sc false (.bool false)),(5,zi (i:Int))],[]⟩
def smaH (a:smaX) (i:Nat):Hp:=⟨[],0,[],0,1000,1000⟩
def smaC:Cs:=⟨27,[(0,.sl ctS),(1,.sl ctS),(4,.lit (.sc false (.bool false))),(5,.lit (.sc false (.int .i64 0)))],[],0,[],0,1000,1000⟩
noncomputable def smaDec (F:Tm) (h:Hp):Option (smaX×Nat):=match cdS smaC F h with
  | some [v0,v1]=>some (⟨v0,v1⟩,0)
  | _=>none
theorem sma_body (x:D) (y:D) (i:Int):roundT (⟨[0,1,4,5],[],0,0,1000,1000⟩) (evC Tryz.prog (gam ([])) (lam ([])) 100 76 (loopAt 0 (bodyOf Tryz.prog 76)) (⟨27,[(0,.sl false ctS x none),(1,.sl false ctS y none),(4,.sc false (.bool false)),(5,zi i)],[]⟩) (⟨[],0,[],0,1000,1000⟩)) =
RT.br (decide (i<(↑(D.len x):Int))) (RT.br (decide (0≤i∧i<(↑(D.len x):Int))) (RT.br (decide (0≤i∧i<(↑(D.len y):Int))) (RT.br (D.toI (D.cell (D.get x (Int.toNat i)) 0)==D.toI (D.cell (D.get y (Int.toNat i)) 0)) (RT.br (D.toI (D.cell (D.get x (Int.toNat i)) 1)==D.toI (D.cell (D.get y (Int.toNat i)) 1)) (RT.br (!ByteArray.toList (D.str (D.cell (D.get x (Int.toNat i)) 2))==ByteArray.toList (D.str (D.cell (D.get y (Int.toNat i)) 2))) (RT.ok (Ex.ret,(Tm.mk 27 [(0,zs zC x),(1,zs zC y),(4,zb false),(5,zi i)] []),(Hp.mk [] 0 [] 0 1000 1000))) (RT.ok (Ex.normal,(Tm.mk 27 [(0,zs zC x),(1,zs zC y),(4,zb false),(5,zi (IntKind.wrap IntKind.i64 (i+1)))] []),(Hp.mk [] 0 [] 0 1000 1000)))) (RT.ok (Ex.ret,(Tm.mk 27 [(0,zs zC x),(1,zs zC y),(4,zb false),(5,zi i)] []),(Hp.mk [] 0 [] 0 1000 1000)))) (RT.ok (Ex.ret,(Tm.mk 27 [(0,zs zC x),(1,zs zC y),(4,zb false),(5,zi i)] []),(Hp.mk [] 0 [] 0 1000 1000)))) (RT.bad 42)) (RT.bad 42)) (RT.ok (Ex.exit 0,(Tm.mk 27 [(0,zs zC x),(1,zs zC y),(4,zb false),(5,zi i)] []),(Hp.mk [] 0 [] 0 1000 1000))):=by rw [← fvC_eq Tryz.prog (gam ([])) (lam ([])) false 100]; kernel_rfl
def smaT:smaX×Nat→RT Out:=searchT (fun a=>a.x.len) (fun a=>smB a.x a.y) (fun a=>decide (a.x.len=a.y.len)) smaF smaF (fun a=>smaH a 0) .ret
def smaLs (P:Program):List (FuncId×Nat×BSpec):=[(76,0,loopS P smaL smaDec smaT)]
def saB (x y:D) (i:Nat):Bool:=cI x i 0==cI y i 0
def saC (x y:D):Bool:=decide (x.len=y.len)&&okFrom (saB x y) x.len 0
structure sacX where
  (x y:D)
def sacL:Lw:=⟨[0,1,4,5],[],0,0,1000,1000⟩
def sacF (a:sacX) (i:Nat):Tm:=⟨26,[(0,.sl false acS a.x none),(1,.sl false acS a.y none),(4,.sc false (.bool false)),(5,zi (i:Int))],[]⟩
def sacH (a:sacX) (i:Nat):Hp:=⟨[],0,[],0,1000,1000⟩
def sacC:Cs:=⟨26,[(0,.sl acS),(1,.sl acS),(4,.lit (.sc false (.bool false))),(5,.lit (.sc false (.int .i64 0)))],[],0,[],0,1000,1000⟩
noncomputable def sacDec (F:Tm) (h:Hp):Option (sacX×Nat):=match cdS sacC F h with
  | some [v0,v1]=>some (⟨v0,v1⟩,0)
  | _=>none
theorem sac_body (x:D) (y:D) (i:Int):roundT (⟨[0,1,4,5],[],0,0,1000,1000⟩) (evC Tryz.prog (gam ([])) (lam ([])) 100 77 (loopAt 0 (bodyOf Tryz.prog 77)) (⟨26,[(0,.sl false acS x none),(1,.sl false acS y none),(4,.sc false (.bool false)),(5,zi i)],[]⟩) (⟨[],0,[],0,1000,1000⟩)) =
RT.br (decide (i<(↑(D.len x):Int))) (RT.br (decide (0≤i∧i<(↑(D.len x):Int))) (RT.br (decide (0≤i∧i<(↑(D.len y):Int))) (RT.br (D.toI (D.cell (D.get x (Int.toNat i)) 0) != D.toI (D.cell (D.get y (Int.toNat i)) 0)) (RT.ok (Ex.ret,(Tm.mk 26 [(0,zs zN x),(1,zs zN y),(4,zb false),(5,zi i)] []),(Hp.mk [] 0 [] 0 1000 1000))) (RT.ok (Ex.normal,(Tm.mk 26 [(0,zs zN x),(1,zs zN y),(4,zb false),(5,zi (IntKind.wrap IntKind.i64 (i+1)))] []),(Hp.mk [] 0 [] 0 1000 1000)))) (RT.bad 42)) (RT.bad 42)) (RT.ok (Ex.exit 0,(Tm.mk 26 [(0,zs zN x),(1,zs zN y),(4,zb false),(5,zi i)] []),(Hp.mk [] 0 [] 0 1000 1000))):=by rw [← fvC_eq Tryz.prog (gam ([])) (lam ([])) false 100]; kernel_rfl
def sacT:sacX×Nat→RT Out:=searchT (fun a=>a.x.len) (fun a=>saB a.x a.y) (fun a=>decide (a.x.len=a.y.len)) sacF sacF (fun a=>sacH a 0) .ret
def sacLs (P:Program):List (FuncId×Nat×BSpec):=[(77,0,loopS P sacL sacDec sacT)]
def FSmC:List AV→RT AV
  | [.sl false [.int .i64,.int .i64,.sl [.int .u8]] x none,.sl false [.int .i64,.int .i64,.sl [.int .u8]] y none]=>.ok (ab (smC x y))
  | _=>.bad 311
def FSaC:List AV→RT AV
  | [.sl false [.int .i64] x none,.sl false [.int .i64] y none]=>.ok (ab (saC x y))
  | _=>.bad 312
theorem smaDec_0:∀ F h x,smaDec F h=some x→∃ a,x=(a,0)∧F=smaF a 0∧h=smaH a 0:=by
  intro F h x hx
  unfold smaDec at hx
  split at hx
  · rename_i hd
    cases hx
    obtain ⟨h1,h2⟩:=cdS_ok hd
    exact ⟨_,rfl,h1,h2⟩
  · cases hx
theorem smaDec_ok:∀ F h x,smaDec F h=some x→F=smaF x.1 x.2∧h=smaH x.1 x.2:=by
  intro F h x hx
  obtain ⟨a,rfl,h1,h2⟩:=smaDec_0 F h x hx
  exact ⟨h1,h2⟩
theorem sacDec_0:∀ F h x,sacDec F h=some x→∃ a,x=(a,0)∧F=sacF a 0∧h=sacH a 0:=by
  intro F h x hx
  unfold sacDec at hx
  split at hx
  · rename_i hd
    cases hx
    obtain ⟨h1,h2⟩:=cdS_ok hd
    exact ⟨_,rfl,h1,h2⟩
  · cases hx
theorem sacDec_ok:∀ F h x,sacDec F h=some x→F=sacF x.1 x.2∧h=sacH x.1 x.2:=by
  intro F h x hx
  obtain ⟨a,rfl,h1,h2⟩:=sacDec_0 F h x hx
  exact ⟨h1,h2⟩
theorem sma_loop:LamE Tryz.prog 76 0 (loopS Tryz.prog smaL smaDec smaT):=by
  refine search_loop (gs:=[]) (ls:=[]) mixed trivial trivial _ 0 100 (by kernel_rfl) smaL (by intro h; cases h) (by intro h; cases h) (fun F h x hx=>smaDec_ok F h x hx) ?_
  rintro ⟨x,y⟩ i K hxy hi H1 H2 H3
  have hxy:x.len=y.len:=odt hxy
  dsimp only at hi H1 H2 H3
  have hm:=x.len_le
  show (roundT smaL (evC _ _ _ _ _ _ (smaF ⟨x,y⟩ i) (smaH ⟨x,y⟩ 0))).holds _
  unfold smaL smaF smaH
  rw [sma_body]
  simp only [Int.toNat_natCast]
  have no:i<x.len→smB x y i=false→K (.ret,smaF ⟨x,y⟩ i,smaH ⟨x,y⟩ 0):=H2
  refine ⟨fun h1=>?_,fun h1=>?_⟩
  rotate_left
  · obtain rfl:i=x.len:=by have:=odf h1; omega
    exact H3 rfl
  have hlt:i<x.len:=by have:=odt h1; omega
  refine holds_t_of (det ⟨by omega,by omega⟩) (holds_t_of (det ⟨by omega,by omega⟩) ⟨fun h2=>⟨fun h3=>⟨fun h4=>no hlt ?_,fun h4=>?_⟩,fun h3=>no hlt ?_⟩,fun h2=>no hlt ?_⟩)
  · rw [Bool.not_eq_true'] at h4
    unfold smB
    rw [h4,Bool.and_false,Bool.and_false]
  · rw [Bool.not_eq_false'] at h4
    rw [wrap_succ hlt hm]
    refine H1 hlt ?_
    unfold smB
    rw [h4,show (cI x i 0==cI y i 0)=true from h2,show (cI x i 1==cI y i 1)=true from h3]; rfl
  · unfold smB
    rw [show (cI x i 1==cI y i 1)=false from h3,Bool.false_and,Bool.and_false]
  · unfold smB
    rw [show (cI x i 0==cI y i 0)=false from h2,Bool.false_and]
theorem sac_loop:LamE Tryz.prog 77 0 (loopS Tryz.prog sacL sacDec sacT):=by
  refine search_loop (gs:=[]) (ls:=[]) mixed trivial trivial _ 0 100 (by kernel_rfl) sacL (by intro h; cases h) (by intro h; cases h) (fun F h x hx=>sacDec_ok F h x hx) ?_
  rintro ⟨x,y⟩ i K hxy hi H1 H2 H3
  have hxy:x.len=y.len:=odt hxy
  dsimp only at hi H1 H2 H3
  have hm:=x.len_le
  show (roundT sacL (evC _ _ _ _ _ _ (sacF ⟨x,y⟩ i) (sacH ⟨x,y⟩ 0))).holds _
  unfold sacL sacF sacH
  rw [sac_body]
  simp only [Int.toNat_natCast]
  refine ⟨fun h1=>?_,fun h1=>?_⟩
  rotate_left
  · obtain rfl:i=x.len:=by have:=odf h1; omega
    exact H3 rfl
  have hlt:i<x.len:=by have:=odt h1; omega
  refine holds_t_of (det ⟨by omega,by omega⟩) (holds_t_of (det ⟨by omega,by omega⟩) ⟨fun h2=>H2 hlt ?_,fun h2=>?_⟩)
  · rw [bne,Bool.not_eq_true'] at h2; exact h2
  · rw [wrap_succ hlt hm]
    rw [bne,Bool.not_eq_false'] at h2
    exact H1 hlt h2
theorem smaLs_ok:LamL Tryz.prog (smaLs Tryz.prog):=⟨sma_loop,trivial⟩
theorem sacLs_ok:LamL Tryz.prog (sacLs Tryz.prog):=⟨sac_loop,trivial⟩
theorem sama_tree (x y:D):treeF (evF Tryz.prog (gam ([])) (lam (smaLs Tryz.prog)) 100 76) [asl ctS x,asl ctS y] =
RT.br ((↑(D.len x):Int) != (↑(D.len y):Int)) (RT.ok (AV.sc true (Value.bool false))) (RT.br (decide (D.len x=D.len y)&&true) (RT.br (okFrom (smB x y) (D.len x - 0) 0) (RT.ok (AV.sc true (Value.bool true))) (RT.ok (zb false))) (RT.bad 210)):=by rw [← fvF_eq Tryz.prog (gam ([])) (lam (smaLs Tryz.prog)) false 100 76]; kernel_rfl
theorem saca_tree (x y:D):treeF (evF Tryz.prog (gam ([])) (lam (sacLs Tryz.prog)) 100 77) [asl acS x,asl acS y] =
RT.br ((↑(D.len x):Int) != (↑(D.len y):Int)) (RT.ok (AV.sc true (Value.bool false))) (RT.br (decide (D.len x=D.len y)&&true) (RT.br (okFrom (saB x y) (D.len x - 0) 0) (RT.ok (AV.sc true (Value.bool true))) (RT.ok (zb false))) (RT.bad 210)):=by rw [← fvF_eq Tryz.prog (gam ([])) (lam (sacLs Tryz.prog)) false 100 77]; kernel_rfl
theorem same_tree {p:Nat→Bool} {x y:D} {K:AV→Prop} {t:RT AV} (ht:t=RT.br ((↑(D.len x):Int) != (↑(D.len y):Int)) (RT.ok (AV.sc true (Value.bool false)))
      (RT.br (decide (D.len x=D.len y)&&true)
        (RT.br (okFrom p (D.len x - 0) 0) (RT.ok (AV.sc true (Value.bool true)))
          (RT.ok (AV.sc false (Value.bool false))))
        (RT.bad 210))) (H:K (ab (decide (x.len=y.len)&&okFrom p x.len 0))):t.holds fun r=>∃ z,Le r z∧K z:=by
  rw [ht]
  refine ⟨fun h=>⟨_,le_bool ?_,H⟩,fun h=>?_⟩
  · rw [bne_iff_ne] at h
    rw [def_ (by omega)]; rfl
  · have e:x.len=y.len:=by rw [bne_eq_false_iff_eq] at h; omega
    refine holds_t_of (by rw [det e]; rfl) ⟨fun h2=>⟨_,le_bool ?_,H⟩,fun h2=>⟨_,le_bool ?_,H⟩⟩
    · rw [det e,show okFrom p x.len 0=true from h2]; rfl
    · rw [det e,show okFrom p x.len 0=false from h2]; rfl
theorem sama_soundF:SoundF Tryz.prog 76 (pureS Tryz.prog 76 FSmC):=by
  refine pure_in (gs:=[]) (ls:=smaLs Tryz.prog) mixed trivial smaLs_ok 76 100 fun args K ho H=>?_
  unfold FSmC at H
  split at H
  · rename_i x y
    exact same_tree (sama_tree x y) H
  · exact H.elim
theorem saca_soundF:SoundF Tryz.prog 77 (pureS Tryz.prog 77 FSaC):=by
  refine pure_in (gs:=[]) (ls:=sacLs Tryz.prog) mixed trivial sacLs_ok 77 100 fun args K ho H=>?_
  unfold FSaC at H
  split at H
  · rename_i x y
    exact same_tree (saca_tree x y) H
  · exact H.elim
theorem ok_all {p:Nat→Bool} (h:∀ i,p i=true) (n i:Nat):okFrom p n i=true:=okFrom_iff.2 fun j _ _=>h j
theorem smC_refl (x:D):smC x x=true:=by
  unfold smC
  rw [det rfl,ok_all fun i=>by unfold smB; simp]; rfl
theorem saC_refl (x:D):saC x x=true:=by
  unfold saC
  rw [det rfl,ok_all fun i=>by unfold saB; simp]; rfl
def ls7G (P:Program):List (FuncId×Spec):=[(50,pureS P 50 FLdo),(72,pureS P 72 FRdo),(31,pureS P 31 FLpk),(73,pureS P 73 FRpk),(33,pureS P 33 FLrj),(74,pureS P 74 FRrj),(26,pureS P 26 FLtk),(75,pureS P 75 FRtk),(16,pureS P 16 FSameL),(76,pureS P 76 FSmC),(77,pureS P 77 FSaC)]
def cutD (x:D):D:=x.sub 0 (Int.toNat (imin (x.len:Int) 1600))
def stpW (w:WkV) (k e ic ii:Int) (ix:D) (p:Int) (px:D):WkV :=
  bif k==1 then ldoW w e else bif k==2 then pktW w ic ii (cutD ix) else bif k==3 then lrjW { w with tick:=0 } p (cutD px) else tikW w
abbrev comA (k e ic ii:Int) (ix:D) (p:Int) (px:D) (la:Int):AV:=.agg [ai k,ai e,ai ic,ai ii,asl byS ix,ai p,asl byS px,ai la]
def stpCd:List Cd:=[.agg [.int .i64,.int .i64,.int .i64,.int .i64,.int .i64,.int .i64,.int .i64],.agg [.int .i64,.int .i64,.int .i64,.sl opS,.int .i64,.int .i64,.int .i64,.int .i64,.int .i64,.int .i64,.int .i64,.int .i64],.agg [.int .i64,.int .i64,.int .i64,.int .i64,.sl byS,.int .i64,.sl byS,.int .i64],.int .i64]
def FStp (args:List AV):RT AV:=match cdAL stpCd args with
  | some [v0,v1,v2,v3,v4,v5,v6,v7,v8,v9,v10,v11,v12,v13,v14,v15,v16,v17,v18,v19,v20,v21,v22,v23,v24,v25,v26,v27]=>need false (bytesB v23&&optsB v10) 314 (.ok (.tup [wkB (stpW ⟨v0.toI,v1.toI,v2.toI,v3.toI,v4.toI,v5.toI,v6.toI,v7.toI,v8.toI,v9.toI,v10,v11.toI,v12.toI,v13.toI,v14.toI,v15.toI,v16.toI,v17.toI,v18.toI,v27.toI,.l [],.l []⟩ v19.toI v20.toI v21.toI v22.toI v23 v24.toI v25),ab true]))
  | _=>.bad 314
def ls7_treeT (mru mc mt mf wt ec lo st id rq ct tm nk mg pr mu pe ne:Int) (d:D) (k e ic ii:Int) (ix:D) (p:Int) (px:D) (la tk:Int):RT AV :=
let w_0:=ldoW (WkV.mk mru mc mt mf wt ec lo st id rq d ct tm nk mg pr mu pe ne tk (D.l []) (D.l [])) e; let w_1:=pktW (WkV.mk mru mc mt mf wt ec lo st id rq d ct tm nk mg pr mu pe ne tk (D.l []) (D.l [])) ic ii (D.sub ix 0 (Int.toNat (imin (↑(D.len ix):Int) 1600))); let w_2:=lrjW (WkV.mk mru mc mt mf wt ec lo st id rq d ct tm nk mg pr mu pe ne 0 (D.l []) (D.l [])) p (D.sub px 0 (Int.toNat (imin (↑(D.len px):Int) 1600))); let w_3:=tikW (WkV.mk mru mc mt mf wt ec lo st id rq d ct tm nk mg pr mu pe ne tk (D.l []) (D.l [])); RT.br (decide ((0:Int)≤0∧0≤imin (↑(D.len ix):Int) 1600∧imin (↑(D.len ix):Int) 1600≤(↑(D.len ix):Int)∧(↑(D.len ix):Int)≤(↑(D.len ix):Int))) (RT.br (decide ((0:Int)≤0∧0≤imin (↑(D.len px):Int) 1600∧imin (↑(D.len px):Int) 1600≤(↑(D.len px):Int)∧(↑(D.len px):Int)≤(↑(D.len px):Int))) (RT.br (k==1) (RT.br (optsB d) (RT.br (optsB d) (RT.br (sameL w_0.st w_0.id w_0.rq w_0.d w_0.ct w_0.tm w_0.nk w_0.mg w_0.pr w_0.mu w_0.pe w_0.ne w_0.st w_0.id w_0.rq w_0.d w_0.ct w_0.tm w_0.nk w_0.mg w_0.pr w_0.mu w_0.pe w_0.ne) (RT.br (smC w_0.out w_0.out) (RT.ok (AV.tup [AV.agg [zi w_0.st,zi w_0.id,zi w_0.rq,zs zO w_0.d,zi w_0.ct,zi w_0.tm,zi w_0.nk,zi w_0.mg,zi w_0.pr,zi w_0.mu,zi w_0.pe,zi w_0.ne,zs zC w_0.out,zs zN w_0.did],zb (saC w_0.did w_0.did)])) (RT.ok (AV.tup [AV.agg [zi w_0.st,zi w_0.id,zi w_0.rq,zs zO w_0.d,zi w_0.ct,zi w_0.tm,zi w_0.nk,zi w_0.mg,zi w_0.pr,zi w_0.mu,zi w_0.pe,zi w_0.ne,zs zC w_0.out,zs zN w_0.did],AV.sc true (Value.bool false)]))) (RT.ok (AV.tup [AV.agg [zi w_0.st,zi w_0.id,zi w_0.rq,zs zO w_0.d,zi w_0.ct,zi w_0.tm,zi w_0.nk,zi w_0.mg,zi w_0.pr,zi w_0.mu,zi w_0.pe,zi w_0.ne,zs zC w_0.out,zs zN w_0.did],AV.sc true (Value.bool false)]))) (RT.bad 307)) (RT.bad 307)) (RT.br (k==2) (RT.br (bytesB (D.sub ix 0 (Int.toNat (imin (↑(D.len ix):Int) 1600)))&&optsB d) (RT.br (bytesB (D.sub ix 0 (Int.toNat (imin (↑(D.len ix):Int) 1600)))&&optsB d) (RT.br (sameL w_1.st w_1.id w_1.rq w_1.d w_1.ct w_1.tm w_1.nk w_1.mg w_1.pr w_1.mu w_1.pe w_1.ne w_1.st w_1.id w_1.rq w_1.d w_1.ct w_1.tm w_1.nk w_1.mg w_1.pr w_1.mu w_1.pe w_1.ne) (RT.br (smC w_1.out w_1.out) (RT.ok (AV.tup [AV.agg [zi w_1.st,zi w_1.id,zi w_1.rq,zs zO w_1.d,zi w_1.ct,zi w_1.tm,zi w_1.nk,zi w_1.mg,zi w_1.pr,zi w_1.mu,zi w_1.pe,zi w_1.ne,zs zC w_1.out,zs zN w_1.did],zb (saC w_1.did w_1.did)])) (RT.ok (AV.tup [AV.agg [zi w_1.st,zi w_1.id,zi w_1.rq,zs zO w_1.d,zi w_1.ct,zi w_1.tm,zi w_1.nk,zi w_1.mg,zi w_1.pr,zi w_1.mu,zi w_1.pe,zi w_1.ne,zs zC w_1.out,zs zN w_1.did],AV.sc true (Value.bool false)]))) (RT.ok (AV.tup [AV.agg [zi w_1.st,zi w_1.id,zi w_1.rq,zs zO w_1.d,zi w_1.ct,zi w_1.tm,zi w_1.nk,zi w_1.mg,zi w_1.pr,zi w_1.mu,zi w_1.pe,zi w_1.ne,zs zC w_1.out,zs zN w_1.did],AV.sc true (Value.bool false)]))) (RT.bad 313)) (RT.bad 313)) (RT.br (k==3) (RT.br (sameL w_2.st w_2.id w_2.rq w_2.d w_2.ct w_2.tm w_2.nk w_2.mg w_2.pr w_2.mu w_2.pe w_2.ne w_2.st w_2.id w_2.rq w_2.d w_2.ct w_2.tm w_2.nk w_2.mg w_2.pr w_2.mu w_2.pe w_2.ne) (RT.br (smC w_2.out w_2.out) (RT.ok (AV.tup [AV.agg [zi w_2.st,zi w_2.id,zi w_2.rq,zs zO w_2.d,zi w_2.ct,zi w_2.tm,zi w_2.nk,zi w_2.mg,zi w_2.pr,zi w_2.mu,zi w_2.pe,zi w_2.ne,zs zC w_2.out,zs zN w_2.did],zb (saC (D.l []) w_2.did)])) (RT.ok (AV.tup [AV.agg [zi w_2.st,zi w_2.id,zi w_2.rq,zs zO w_2.d,zi w_2.ct,zi w_2.tm,zi w_2.nk,zi w_2.mg,zi w_2.pr,zi w_2.mu,zi w_2.pe,zi w_2.ne,zs zC w_2.out,zs zN w_2.did],AV.sc true (Value.bool false)]))) (RT.ok (AV.tup [AV.agg [zi w_2.st,zi w_2.id,zi w_2.rq,zs zO w_2.d,zi w_2.ct,zi w_2.tm,zi w_2.nk,zi w_2.mg,zi w_2.pr,zi w_2.mu,zi w_2.pe,zi w_2.ne,zs zC w_2.out,zs zN w_2.did],AV.sc true (Value.bool false)]))) (RT.br (optsB d) (RT.br (optsB d) (RT.br (sameL w_3.st w_3.id w_3.rq w_3.d w_3.ct w_3.tm w_3.nk w_3.mg w_3.pr w_3.mu w_3.pe w_3.ne w_3.st w_3.id w_3.rq w_3.d w_3.ct w_3.tm w_3.nk w_3.mg w_3.pr w_3.mu w_3.pe w_3.ne) (RT.br (smC w_3.out w_3.out) (RT.ok (AV.tup [AV.agg [zi w_3.st,zi w_3.id,zi w_3.rq,zs zO w_3.d,zi w_3.ct,zi w_3.tm,zi w_3.nk,zi w_3.mg,zi w_3.pr,zi w_3.mu,zi w_3.pe,zi w_3.ne,zs zC w_3.out,zs zN w_3.did],zb (saC w_3.did w_3.did)])) (RT.ok (AV.tup [AV.agg [zi w_3.st,zi w_3.id,zi w_3.rq,zs zO w_3.d,zi w_3.ct,zi w_3.tm,zi w_3.nk,zi w_3.mg,zi w_3.pr,zi w_3.mu,zi w_3.pe,zi w_3.ne,zs zC w_3.out,zs zN w_3.did],AV.sc true (Value.bool false)]))) (RT.ok (AV.tup [AV.agg [zi w_3.st,zi w_3.id,zi w_3.rq,zs zO w_3.d,zi w_3.ct,zi w_3.tm,zi w_3.nk,zi w_3.mg,zi w_3.pr,zi w_3.mu,zi w_3.pe,zi w_3.ne,zs zC w_3.out,zs zN w_3.did],AV.sc true (Value.bool false)]))) (RT.bad 309)) (RT.bad 309))))) (RT.bad 37)) (RT.bad 37)
theorem ls7_tree (mru mc mt mf wt ec lo st id rq ct tm nk mg pr mu pe ne:Int) (d:D) (k e ic ii:Int) (ix:D) (p:Int) (px:D) (la tk:Int):treeF (evF Tryz.prog (gam (ls7G Tryz.prog)) (lam ([])) 100 34) [cnfA mru mc mt mf wt ec lo,lcpA st id rq d ct tm nk mg pr mu pe ne,.agg [ai k,ai e,ai ic,ai ii,asl byS ix,ai p,asl byS px,ai la],ai tk]=ls7_treeT mru mc mt mf wt ec lo st id rq ct tm nk mg pr mu pe ne d k e ic ii ix p px la tk:=by rw [← fvF_eq Tryz.prog (gam (ls7G Tryz.prog)) (lam ([])) false 100 34]; kernel_rfl
theorem FStp_inv {args:List AV} {K:AV→Prop} (H:(FStp args).holds K):∃ (mru mc mt mf wt ec lo st id rq ct tm nk mg pr mu pe ne:Int) (d:D) (k e ic ii:Int) (ix:D) (p:Int) (px:D) (la tk:Int),args=[cnfA mru mc mt mf wt ec lo,lcpA st id rq d ct tm nk mg pr mu pe ne,comA k e ic ii ix p px la,ai tk]∧bytesB ix=true∧optsB d=true∧K (.tup [wkB (stpW ⟨mru,mc,mt,mf,wt,ec,lo,st,id,rq,d,ct,tm,nk,mg,pr,mu,pe,ne,tk,.l [],.l []⟩ k e ic ii ix p px),ab true]):=by
  unfold FStp at H
  split at H
  · rename_i v0 v1 v2 v3 v4 v5 v6 v7 v8 v9 v10 v11 v12 v13 v14 v15 v16 v17 v18 v19 v20 v21 v22 v23 v24 v25 v26 v27 hd
    obtain ⟨hc,H⟩:=need_holds H
    rw [Bool.and_eq_true] at hc
    have:=cdAL_ok _ _ _ hd []
    exact ⟨v0.toI,v1.toI,v2.toI,v3.toI,v4.toI,v5.toI,v6.toI,v7.toI,v8.toI,v9.toI,v11.toI,v12.toI,v13.toI,v14.toI,v15.toI,v16.toI,v17.toI,v18.toI,v10,v19.toI,v20.toI,v21.toI,v22.toI,v23,v24.toI,v25,v26.toI,v27.toI,(congrArg Prod.fst this).symm,hc.1,hc.2,H⟩
  · exact H.elim
theorem ls7G_ok:GamL Tryz.prog (ls7G Tryz.prog):=⟨ldo_soundF,rld_soundF,lpk_soundF,rpk2_soundF,lrj_soundF,rlj_soundF,ltk_soundF,rtk2_soundF,rlsame_soundF,sama_soundF,saca_soundF,trivial⟩
theorem same_self (d:D):sameO d d=true:=by
  unfold sameO
  rw [det rfl,ok_all fun i=>by simp [oneE]]; rfl
theorem sameW (w:WkV):sameL w.st w.id w.rq w.d w.ct w.tm w.nk w.mg w.pr w.mu w.pe w.ne w.st w.id w.rq w.d w.ct w.tm w.nk w.mg w.pr w.mu w.pe w.ne=true:=by
  simp only [sameL,same_self,beq_self_eq_true,Bool.true_and]
theorem imin_le (n:Nat):0≤imin (n:Int) 1600∧imin (n:Int) 1600≤(n:Int)∧Int.toNat (imin (n:Int) 1600)≤n:=by
  unfold imin; split <;> omega
theorem lrj_did {w:WkV} {p:Int} {x:D}:(lrjW w p x).did=w.did:=by
  unfold lrjW
  cases lisW w&&(w.st==9&&pro7E p x (numN w.id)==0) <;> rfl
theorem ls7_soundF:SoundF Tryz.prog 34 (pureS Tryz.prog 34 FStp):=by
  refine pure_in (gs:=ls7G Tryz.prog) (ls:=[]) mixed ls7G_ok trivial 34 100 fun args K ho H=>?_
  obtain ⟨mru,mc,mt,mf,wt,ec,lo,st,id,rq,ct,tm,nk,mg,pr,mu,pe,ne,d,k,e,ic,ii,ix,p,px,la,tk,hr,hx,hb,H⟩:=FStp_inv H
  rw [hr,ls7_tree]
  unfold ls7_treeT
  extract_lets w0 w1 w2 w3
  have A:∀ v,stpW ⟨mru,mc,mt,mf,wt,ec,lo,st,id,rq,d,ct,tm,nk,mg,pr,mu,pe,ne,tk,.l [],.l []⟩ k e ic ii ix p px=v→K (.tup [wkB v,ab true]):=by rintro v rfl; exact H
  clear H
  obtain ⟨i1,i2,i3⟩:=imin_le ix.len
  obtain ⟨j1,j2,j3⟩:=imin_le px.len
  have hd2:w2.did=.l []:=lrj_did
  have W0:k=1→stpW ⟨mru,mc,mt,mf,wt,ec,lo,st,id,rq,d,ct,tm,nk,mg,pr,mu,pe,ne,tk,.l [],.l []⟩ k e ic ii ix p px=w0:=by rintro rfl; rfl
  have W1:k=2→stpW ⟨mru,mc,mt,mf,wt,ec,lo,st,id,rq,d,ct,tm,nk,mg,pr,mu,pe,ne,tk,.l [],.l []⟩ k e ic ii ix p px=w1:=by rintro rfl; rfl
  have W2:k=3→stpW ⟨mru,mc,mt,mf,wt,ec,lo,st,id,rq,d,ct,tm,nk,mg,pr,mu,pe,ne,tk,.l [],.l []⟩ k e ic ii ix p px=w2:=by rintro rfl; rfl
  have W3:(k==1)=false→(k==2)=false→(k==3)=false→stpW ⟨mru,mc,mt,mf,wt,ec,lo,st,id,rq,d,ct,tm,nk,mg,pr,mu,pe,ne,tk,.l [],.l []⟩ k e ic ii ix p px=w3:=fun h1 h2 h3=>by
    unfold stpW; rw [h1,h2,h3]; rfl
  clear_value w0 w1 w2 w3
  have hxs:bytesB (ix.sub 0 (Int.toNat (imin (ix.len:Int) 1600)))=true:=bytes_sub hx (Nat.zero_le _) i3
  have B:∀ w,stpW ⟨mru,mc,mt,mf,wt,ec,lo,st,id,rq,d,ct,tm,nk,mg,pr,mu,pe,ne,tk,.l [],.l []⟩ k e ic ii ix p px=w→∃ y,Le (.tup [wkB w,ab (saC w.did w.did)]) y∧K y:=fun w h=>by
    rw [saC_refl]; exact ⟨_,Le.refl _,A _ h⟩
  have on:∀ w (z:RT AV),stpW ⟨mru,mc,mt,mf,wt,ec,lo,st,id,rq,d,ct,tm,nk,mg,pr,mu,pe,ne,tk,.l [],.l []⟩ k e ic ii ix p px=w→(RT.br (sameL w.st w.id w.rq w.d w.ct w.tm w.nk w.mg w.pr w.mu w.pe w.ne w.st w.id w.rq w.d w.ct w.tm w.nk w.mg w.pr w.mu w.pe w.ne) (RT.br (smC w.out w.out) (.ok (.tup [wkB w,ab (saC w.did w.did)])) z) z).holds fun r=>∃ y,Le r y∧K y:=fun w z h =>
    holds_t_of (sameW w) (holds_t_of (smC_refl _) (B w h))
  refine holds_t_of (det ⟨Int.le_refl _,i1,i2,Int.le_refl _⟩) (holds_t_of (det ⟨Int.le_refl _,j1,j2,Int.le_refl _⟩) ⟨fun h1=>?_,fun h1=>⟨fun h2=>?_,fun h2=>⟨fun h3=>?_,fun h3=>?_⟩⟩⟩)
  · exact holds_t_of hb (holds_t_of hb (on w0 _ (W0 (eq_of_beq h1))))
  · have hq:(bytesB (ix.sub 0 (Int.toNat (imin (ix.len:Int) 1600)))&&optsB d)=true:=by rw [hxs,hb]; rfl
    exact holds_t_of hq (holds_t_of hq (on w1 _ (W1 (eq_of_beq h2))))
  · refine holds_t_of (sameW w2) (holds_t_of (smC_refl _) ?_)
    have e:saC (.l []) w2.did=saC w2.did w2.did:=by rw [hd2]
    rw [e]
    exact B w2 (W2 (eq_of_beq h3))
  · exact holds_t_of hb (holds_t_of hb (on w3 _ (W3 h1 h2 h3)))
abbrev cmS:List Sh:=[.int .i64,.int .i64,.int .i64,.int .i64,.sl [.int .u8],.int .i64,.sl [.int .u8],.int .i64]
def rnsG (P:Program):List (FuncId×Spec):=[(34,pureS P 34 FStp),(11,pureS P 11 FLck)]
structure rnsX where
  l:D
  (tk mru mc mt mf wt ec lo st id rq:Int)
  d:D
  (ct tm nk mg pr mu pe ne:Int)
def rnsL:Lw:=⟨[2,3,6,7,9,10],[],2,0,1000,1000⟩
def rnsF (a:rnsX) (i:Nat):Tm:=⟨68,[(2,.sl false cmS a.l none),(3,.ptr 0 0),(6,.sc false (.bool false)),(7,.ptr 1 0),(9,zi a.tk),(10,zi (i:Int))],[]⟩
def rnsH (a:rnsX) (i:Nat):Hp:=⟨[(0,[zi a.mru,zi a.mc,zi a.mt,zi a.mf,zi a.wt,zi a.ec,zi a.lo]),(1,[zi a.st,zi a.id,zi a.rq,.sl false opS a.d none,zi a.ct,zi a.tm,zi a.nk,zi a.mg,zi a.pr,zi a.mu,zi a.pe,zi a.ne])],2,[],0,1000,1000⟩
def rnsC:Cs:=⟨68,[(2,.sl cmS),(3,.lit (.ptr 0 0)),(6,.lit (.sc false (.bool false))),(7,.lit (.ptr 1 0)),(9,.int .i64),(10,.lit (.sc false (.int .i64 0)))],[(0,[.int .i64,.int .i64,.int .i64,.int .i64,.int .i64,.int .i64,.int .i64]),(1,[.int .i64,.int .i64,.int .i64,.sl opS,.int .i64,.int .i64,.int .i64,.int .i64,.int .i64,.int .i64,.int .i64,.int .i64])],2,[],0,1000,1000⟩
noncomputable def rnsDec (F:Tm) (h:Hp):Option (rnsX×Nat):=match cdS rnsC F h with
  | some [v0,v1,v2,v3,v4,v5,v6,v7,v8,v9,v10,v11,v12,v13,v14,v15,v16,v17,v18,v19,v20]=>some (⟨v0,v1.toI,v2.toI,v3.toI,v4.toI,v5.toI,v6.toI,v7.toI,v8.toI,v9.toI,v10.toI,v11.toI,v12,v13.toI,v14.toI,v15.toI,v16.toI,v17.toI,v18.toI,v19.toI,v20.toI⟩,0)
  | _=>none
abbrev rns_body_1 (l:D) (tk mru mc mt mf wt ec lo st id rq:Int) (d:D) (ct tm nk mg pr mu pe ne i:Int):=RT.ok (Ex.ret,(Tm.mk 68 [(2,zs [Sh.int IntKind.i64,Sh.int IntKind.i64,Sh.int IntKind.i64,Sh.int IntKind.i64,Sh.sl zU,Sh.int IntKind.i64,Sh.sl zU,Sh.int IntKind.i64] l),(3,AV.ptr 0 0),(6,zb false),(7,AV.ptr 1 0),(9,zi (IntKind.wrap IntKind.i64 (tk+IntKind.wrap IntKind.i64 (Int.tmod (IntKind.wrap IntKind.u64 (D.toI (D.cell (D.get l (Int.toNat i)) 7))) 9)))),(10,zi i)] []),(Hp.mk [(0,[zi mru,zi mc,zi mt,zi mf,zi wt,zi ec,zi lo]),(1,[zi st,zi id,zi rq,zs zO d,zi ct,zi tm,zi nk,zi mg,zi pr,zi mu,zi pe,zi ne])] 2 [] 0 1000 1000))
abbrev rns_body_2 (l:D) (tk mru mc mt mf wt ec lo st id rq:Int) (d:D) (ct tm nk mg pr mu pe ne i:Int):=RT.ok (Ex.exit 0,(Tm.mk 68 [(2,zs [Sh.int IntKind.i64,Sh.int IntKind.i64,Sh.int IntKind.i64,Sh.int IntKind.i64,Sh.sl zU,Sh.int IntKind.i64,Sh.sl zU,Sh.int IntKind.i64] l),(3,AV.ptr 0 0),(6,zb false),(7,AV.ptr 1 0),(9,zi tk),(10,zi i)] []),(Hp.mk [(0,[zi mru,zi mc,zi mt,zi mf,zi wt,zi ec,zi lo]),(1,[zi st,zi id,zi rq,zs zO d,zi ct,zi tm,zi nk,zi mg,zi pr,zi mu,zi pe,zi ne])] 2 [] 0 1000 1000))
theorem rns_body (l:D) (tk mru mc mt mf wt ec lo st id rq:Int) (d:D) (ct tm nk mg pr mu pe ne i:Int):roundT (⟨[2,3,6,7,9,10],[],2,0,1000,1000⟩) (evC Tryz.prog (gam (rnsG Tryz.prog)) (lam ([])) 100 7 (loopAt 0 (bodyOf Tryz.prog 7)) (⟨68,[(2,.sl false cmS l none),(3,.ptr 0 0),(6,.sc false (.bool false)),(7,.ptr 1 0),(9,zi tk),(10,zi i)],[]⟩) (⟨[(0,[zi mru,zi mc,zi mt,zi mf,zi wt,zi ec,zi lo]),(1,[zi st,zi id,zi rq,.sl false opS d none,zi ct,zi tm,zi nk,zi mg,zi pr,zi mu,zi pe,zi ne])],2,[],0,1000,1000⟩)) =
let w_0:=stpW (WkV.mk mru mc mt mf wt ec lo st id rq d ct tm nk mg pr mu pe ne (IntKind.wrap IntKind.i64 (tk+IntKind.wrap IntKind.i64 (Int.tmod (IntKind.wrap IntKind.u64 (D.toI (D.cell (D.get l (Int.toNat i)) 7))) 9))) (D.l []) (D.l [])) (D.toI (D.cell (D.get l (Int.toNat i)) 0)) (D.toI (D.cell (D.get l (Int.toNat i)) 1)) (D.toI (D.cell (D.get l (Int.toNat i)) 2)) (D.toI (D.cell (D.get l (Int.toNat i)) 3)) (D.cell (D.get l (Int.toNat i)) 4) (D.toI (D.cell (D.get l (Int.toNat i)) 5)) (D.cell (D.get l (Int.toNat i)) 6); RT.br (decide (i<(↑(D.len l):Int))) (RT.br (decide (i<60)) (RT.br (decide (0≤i∧i<(↑(D.len l):Int))) (RT.br true (RT.br (decide (0≤i∧i<(↑(D.len l):Int))) (RT.all (RT.br (bytesB (D.cell (D.get l (Int.toNat i)) 4)&&optsB d) (RT.br false (rns_body_1 l tk mru mc mt mf wt ec lo st id rq d ct tm nk mg pr mu pe ne i) (RT.br (errIf (lisB mru mc mt mf wt ec lo w_0.st w_0.id w_0.rq w_0.d w_0.ct w_0.tm w_0.nk w_0.mg w_0.pr w_0.mu w_0.pe w_0.ne) 170 != 0) (rns_body_1 l tk mru mc mt mf wt ec lo st id rq d ct tm nk mg pr mu pe ne i) (RT.ok (Ex.normal,(Tm.mk 68 [(2,zs [Sh.int IntKind.i64,Sh.int IntKind.i64,Sh.int IntKind.i64,Sh.int IntKind.i64,Sh.sl zU,Sh.int IntKind.i64,Sh.sl zU,Sh.int IntKind.i64] l),(3,AV.ptr 0 0),(6,zb false),(7,AV.ptr 1 0),(9,zi (IntKind.wrap IntKind.i64 (tk+IntKind.wrap IntKind.i64 (Int.tmod (IntKind.wrap IntKind.u64 (D.toI (D.cell (D.get l (Int.toNat i)) 7))) 9)))),(10,zi (IntKind.wrap IntKind.i64 (i+1)))] []),(Hp.mk [(0,[zi mru,zi mc,zi mt,zi mf,zi wt,zi ec,zi lo]),(1,[zi w_0.st,zi w_0.id,zi w_0.rq,zs zO w_0.d,zi w_0.ct,zi w_0.tm,zi w_0.nk,zi w_0.mg,zi w_0.pr,zi w_0.mu,zi w_0.pe,zi w_0.ne])] 2 [] 0 1000 1000))))) (RT.bad 314)) (RT.br (bytesB (D.cell (D.get l (Int.toNat i)) 4)&&optsB d) (RT.br false (rns_body_1 l tk mru mc mt mf wt ec lo st id rq d ct tm nk mg pr mu pe ne i) (RT.br (errIf (lisB mru mc mt mf wt ec lo w_0.st w_0.id w_0.rq w_0.d w_0.ct w_0.tm w_0.nk w_0.mg w_0.pr w_0.mu w_0.pe w_0.ne) 170 != 0) (rns_body_1 l tk mru mc mt mf wt ec lo st id rq d ct tm nk mg pr mu pe ne i) (RT.ok (Ex.normal,(Tm.mk 68 [(2,zs [Sh.int IntKind.i64,Sh.int IntKind.i64,Sh.int IntKind.i64,Sh.int IntKind.i64,Sh.sl zU,Sh.int IntKind.i64,Sh.sl zU,Sh.int IntKind.i64] l),(3,AV.ptr 0 0),(6,zb false),(7,AV.ptr 1 0),(9,zi (IntKind.wrap IntKind.i64 (tk+IntKind.wrap IntKind.i64 (Int.tmod (IntKind.wrap IntKind.u64 (D.toI (D.cell (D.get l (Int.toNat i)) 7))) 9)))),(10,zi (IntKind.wrap IntKind.i64 (i+1)))] []),(Hp.mk [(0,[zi mru,zi mc,zi mt,zi mf,zi wt,zi ec,zi lo]),(1,[zi w_0.st,zi w_0.id,zi w_0.rq,zs zO w_0.d,zi w_0.ct,zi w_0.tm,zi w_0.nk,zi w_0.mg,zi w_0.pr,zi w_0.mu,zi w_0.pe,zi w_0.ne])] 2 [] 0 1000 1000))))) (RT.bad 314))) (RT.bad 42)) (RT.bad 21)) (RT.bad 42)) (rns_body_2 l tk mru mc mt mf wt ec lo st id rq d ct tm nk mg pr mu pe ne i)) (rns_body_2 l tk mru mc mt mf wt ec lo st id rq d ct tm nk mg pr mu pe ne i):=by rw [← fvC_eq Tryz.prog (gam (rnsG Tryz.prog)) (lam ([])) false 100]; kernel_rfl
def rnsW (s:rnsX) (tk:Int):WkV:=⟨s.mru,s.mc,s.mt,s.mf,s.wt,s.ec,s.lo,s.st,s.id,s.rq,s.d,s.ct,s.tm,s.nk,s.mg,s.pr,s.mu,s.pe,s.ne,tk,.l [],.l []⟩
def tkN (s:rnsX) (i:Nat):Int:=IntKind.wrap .i64 (s.tk+IntKind.wrap .i64 (Int.tmod (IntKind.wrap .u64 ((s.l.get i).cell 7).toI) 9))
def rnsS (s:rnsX) (i:Nat):WkV:=stpW (rnsW s (tkN s i)) ((s.l.get i).cell 0).toI ((s.l.get i).cell 1).toI ((s.l.get i).cell 2).toI ((s.l.get i).cell 3).toI ((s.l.get i).cell 4) ((s.l.get i).cell 5).toI ((s.l.get i).cell 6)
def rnsN (s:rnsX) (i:Nat):rnsX:={ s with tk:=tkN s i,st:=(rnsS s i).st,id:=(rnsS s i).id,rq:=(rnsS s i).rq,d:=(rnsS s i).d,ct:=(rnsS s i).ct,tm:=(rnsS s i).tm,nk:=(rnsS s i).nk,mg:=(rnsS s i).mg,pr:=(rnsS s i).pr,mu:=(rnsS s i).mu,pe:=(rnsS s i).pe,ne:=(rnsS s i).ne }
def rnsR:Nat→Nat→rnsX→rnsX
  | 0,_,s=>s
  | m+1,i,s=>rnsR m (i+1) (rnsN s i)
def comsB (l:D):Bool:=decide (∀ i,i<l.len→bytesB ((l.get i).cell 4)=true)
def rnsK (s:rnsX):Bool:=lisW (rnsW s 0)&&(optsB s.d&&comsB s.l)
def rnsE (s:rnsX):Nat:=min s.l.len 60
def rnsT (y:rnsX×Nat):RT Out:=need false (rnsK y.1&&decide (y.2≤rnsE y.1)) 210 (.ok (.normal,rnsF (rnsR (rnsE y.1 - y.2) y.2 y.1) (rnsE y.1),rnsH (rnsR (rnsE y.1 - y.2) y.2 y.1) 0))
def rnsLs (P:Program):List (FuncId×Nat×BSpec):=[(7,0,loopS P rnsL rnsDec rnsT)]
theorem rnsDec_0:∀ F h x,rnsDec F h=some x→∃ a,x=(a,0)∧F=rnsF a 0∧h=rnsH a 0:=by
  intro F h x hx
  unfold rnsDec at hx
  split at hx
  · rename_i hd
    cases hx
    obtain ⟨h1,h2⟩:=cdS_ok hd
    exact ⟨_,rfl,h1,h2⟩
  · cases hx
theorem rnsDec_ok:∀ F h x,rnsDec F h=some x→F=rnsF x.1 x.2∧h=rnsH x.1 x.2:=by
  intro F h x hx
  obtain ⟨a,rfl,h1,h2⟩:=rnsDec_0 F h x hx
  exact ⟨h1,h2⟩
def confW (w:WkV):Int×Int×Int×Int×Int×Int×Int:=(w.mru,w.mc,w.mt,w.mf,w.wt,w.ec,w.lo)
theorem conf_if (b:Bool) {x y w:WkV} (hx:confW x=confW w) (hy:confW y=confW w):confW (bif b then x else y)=confW w:=by
  cases b
  · exact hy
  · exact hx
theorem conf_stp (w:WkV) (k e ic ii:Int) (ix:D) (p:Int) (px:D):confW (stpW w k e ic ii ix p px)=confW w:=by
  unfold stpW
  refine conf_if _ ?_ (conf_if _ ?_ (conf_if _ ?_ ?_))
  · exact conf_if _ rfl rfl
  · unfold pktW pkt1
    exact conf_if _ (conf_if _ (conf_if _ rfl rfl) (conf_if _ rfl (conf_if _ rfl (conf_if _ (conf_if _ (conf_if _ rfl rfl) rfl) (conf_if _ rfl (conf_if _ rfl rfl)))))) rfl
  · exact conf_if _ rfl rfl
  · unfold tikW tik1
    exact conf_if _ (conf_if _ (conf_if _ rfl rfl) rfl) rfl
theorem stp_keep {w:WkV} {k e ic ii:Int} {ix:D} {p:Int} {px:D} (h:lisW w=true) (hb:optsB w.d=true) (hx:bytesB ix=true) (ho:w.out=.l []):lisW (stpW w k e ic ii ix p px)=true∧optsB (stpW w k e ic ii ix p px).d=true:=by
  have C:∀ (b:Bool) (x y:WkV),(lisW x=true∧optsB x.d=true)→(lisW y=true∧optsB y.d=true)→lisW (bif b then x else y)=true∧optsB (bif b then x else y).d=true:=fun b x y hx hy=>by
    cases b
    · exact hy
    · exact hx
  unfold stpW
  exact C _ _ _ (ldo_keep h hb) (C _ _ _ (pkt_keep h hb (bytes_sub hx (Nat.zero_le _) (imin_le _).2.2) ho) (C _ _ _ (lrj_keep (w:={ w with tick:=0 }) h hb) (tik_keep h hb)))
theorem com_at {l:D} (h:comsB l=true) {i:Nat} (hi:i<l.len):bytesB ((l.get i).cell 4)=true:=odt h i hi
theorem rns_keep {s:rnsX} {i:Nat} (h:rnsK s=true) (hi:i<s.l.len):rnsK (rnsN s i)=true∧lisB s.mru s.mc s.mt s.mf s.wt s.ec s.lo (rnsS s i).st (rnsS s i).id (rnsS s i).rq (rnsS s i).d (rnsS s i).ct (rnsS s i).tm (rnsS s i).nk (rnsS s i).mg (rnsS s i).pr (rnsS s i).mu (rnsS s i).pe (rnsS s i).ne=true:=by
  unfold rnsK at h
  rw [Bool.and_eq_true,Bool.and_eq_true] at h
  obtain ⟨h1,h2,h3⟩:=h
  have K:=stp_keep (w:=rnsW s (tkN s i)) (k:=((s.l.get i).cell 0).toI) (e:=((s.l.get i).cell 1).toI) (ic:=((s.l.get i).cell 2).toI) (ii:=((s.l.get i).cell 3).toI) (p:=((s.l.get i).cell 5).toI) (px:=(s.l.get i).cell 6) h1 h2 (com_at h3 hi) rfl
  have C:=conf_stp (rnsW s (tkN s i)) ((s.l.get i).cell 0).toI ((s.l.get i).cell 1).toI ((s.l.get i).cell 2).toI ((s.l.get i).cell 3).toI ((s.l.get i).cell 4) ((s.l.get i).cell 5).toI ((s.l.get i).cell 6)
  have K:lisW (rnsS s i)=true∧optsB (rnsS s i).d=true:=K
  have C:confW (rnsS s i)=(s.mru,s.mc,s.mt,s.mf,s.wt,s.ec,s.lo):=C
  have L:lisB s.mru s.mc s.mt s.mf s.wt s.ec s.lo (rnsS s i).st (rnsS s i).id (rnsS s i).rq (rnsS s i).d (rnsS s i).ct (rnsS s i).tm (rnsS s i).nk (rnsS s i).mg (rnsS s i).pr (rnsS s i).mu (rnsS s i).pe (rnsS s i).ne=true:=by
    have k:=K.1
    unfold confW at C
    simp only [Prod.mk.injEq] at C
    obtain ⟨c1,c2,c3,c4,c5,c6,c7⟩:=C
    unfold lisW at k
    rw [c1,c2,c3,c4,c5,c6,c7] at k
    exact k
  refine ⟨?_,L⟩
  unfold rnsK
  rw [Bool.and_eq_true,Bool.and_eq_true]
  exact ⟨L,K.2,h3⟩
theorem rnsG_ok:GamL Tryz.prog (rnsG Tryz.prog):=⟨ls7_soundF,lcheck_soundF,trivial⟩
theorem rns_loop:LamE Tryz.prog 7 0 (loopS Tryz.prog rnsL rnsDec rnsT):=by
  refine loop_in2 (gs:=rnsG Tryz.prog) (ls:=[]) mixed rnsG_ok trivial _ 0 100 (by kernel_rfl) rnsL (mkF:=fun y=>rnsF y.1 y.2) (mkH:=fun y=>rnsH y.1 0) (fun y=>rnsE y.1 - y.2) ?_ ?_
  · exact fun F h y hy=>rnsDec_ok F h y hy
  · rintro ⟨s,i⟩ K H
    obtain ⟨hc,H⟩:=need_holds H
    rw [Bool.and_eq_true] at hc
    obtain ⟨hk,hi⟩:=hc
    have hi:i≤rnsE s:=odt hi
    have hE:rnsE s=min s.l.len 60:=rfl
    have hout:i=rnsE s→Round (fun y=>rnsF y.1 y.2) (fun y=>rnsH y.1 0) rnsT (fun y=>rnsE y.1 - y.2) 0 (s,i) K (.exit 0,rnsF s i,rnsH s 0):=by
      intro he
      have h:=H
      dsimp only at h
      rw [← he,Nat.sub_self] at h
      exact h
    have hnext:i<rnsE s→Round (fun y=>rnsF y.1 y.2) (fun y=>rnsH y.1 0) rnsT (fun y=>rnsE y.1 - y.2) 0 (s,i) K (.normal,rnsF (rnsN s i) (i+1),rnsH (rnsN s i) 0):=by
      intro hlt
      refine ⟨(rnsN s i,i+1),⟨rfl,rfl⟩,by show rnsE s - (i+1)<rnsE s - i; omega,?_⟩
      unfold rnsT
      refine ⟨fun _=>?_,fun hf=>absurd ?_ (Bool.eq_false_iff.1 hf)⟩
      · have h:=H
        dsimp only at h ⊢
        rw [show rnsE s - i=(rnsE s - (i+1))+1 by omega] at h
        exact h
      · dsimp only
        rw [(rns_keep hk (by show i<s.l.len; omega)).1,Bool.true_and]
        exact det (by show i+1≤rnsE s; omega)
    clear H
    have hm:=s.l.len_le
    have hx:∀ hlt:i<s.l.len,bytesB ((s.l.get i).cell 4)=true:=fun hlt=>by
      unfold rnsK at hk
      rw [Bool.and_eq_true,Bool.and_eq_true] at hk
      exact com_at hk.2.2 hlt
    have hb:optsB s.d=true:=by
      unfold rnsK at hk
      rw [Bool.and_eq_true,Bool.and_eq_true] at hk
      exact hk.2.1
    have hl:=fun hlt:i<s.l.len=>(rns_keep hk hlt).2
    obtain ⟨l,tk,mru,mc,mt,mf,wt,ec,lo,st,id,rq,d,ct,tm,nk,mg,pr,mu,pe,ne⟩:=s
    dsimp only at hi hE hm hx hb hl
    show (roundT rnsL (evC _ _ _ _ _ _ (rnsF ⟨l,tk,mru,mc,mt,mf,wt,ec,lo,st,id,rq,d,ct,tm,nk,mg,pr,mu,pe,ne⟩ i) (rnsH ⟨l,tk,mru,mc,mt,mf,wt,ec,lo,st,id,rq,d,ct,tm,nk,mg,pr,mu,pe,ne⟩ 0))).holds _
    unfold rnsL rnsF rnsH
    rw [rns_body]
    unfold rns_body_1 rns_body_2
    extract_lets w0
    simp only [Int.toNat_natCast]
    refine ⟨fun h1=>⟨fun h2=>?_,fun h2=>hout ?_⟩,fun h1=>hout ?_⟩
    · have h1:=odt h1
      have h2:=odt h2
      have hlt:i<l.len:=by omega
      have hn:=hnext (by omega)
      have hw:IntKind.wrap .i64 ((i:Int)+1)=((i+1:Nat):Int):=wrap_succ hlt hm
      have b1:decide (0≤(i:Int)∧(i:Int)<(l.len:Int))=true:=det ⟨by omega,h1⟩
      rw [hw]
      refine holds_t_of b1 (holds_t (holds_t_of b1 ⟨?_,?_⟩))
      · refine holds_t_of (by rw [hx hlt,hb]; rfl) ⟨fun h=>(by cases h),fun _=>⟨fun h=>?_,fun _=>hn⟩⟩
        rw [errIf_nz (by decide),show lisB mru mc mt mf wt ec lo w0.st w0.id w0.rq w0.d w0.ct w0.tm w0.nk w0.mg w0.pr w0.mu w0.pe w0.ne=true from hl hlt] at h
        cases h
      · refine holds_t_of (by rw [hx hlt,hb]; rfl) ⟨fun h=>(by cases h),fun _=>⟨fun h=>?_,fun _=>hn⟩⟩
        rw [errIf_nz (by decide),show lisB mru mc mt mf wt ec lo w0.st w0.id w0.rq w0.d w0.ct w0.tm w0.nk w0.mg w0.pr w0.mu w0.pe w0.ne=true from hl hlt] at h
        cases h
    · have h1:=odt h1
      have h2:=odf h2
      omega
    · have h1:=odf h1
      omega
def lrG (P:Program):List (FuncId×Spec):=[(21,pureS P 21 (Fone mAwkK mAwkR)),(9,pureS P 9 FLNew),(16,pureS P 16 FSameL)]
theorem runs_tree (a b c e f g h m:Int) (l:D):treeF (evF Tryz.prog (gam (lrG Tryz.prog)) (lam (rnsLs Tryz.prog)) 100 7) [cfgA a b c e f g h,ai m,asl cmS l] =
RT.br (newB a b c e f g h m) (RT.br (rnsK (rnsX.mk l 0 a b c e f g h 0 0 0 (asksD a m) 0 0 0 m 0 1492 0 0)&&true) (RT.ok (AV.sc true (Value.bool true))) (RT.bad 210)) (RT.ok (AV.sc true (Value.bool true))):=by rw [← fvF_eq Tryz.prog (gam (lrG Tryz.prog)) (lam (rnsLs Tryz.prog)) false 100 7]; kernel_rfl
theorem asks_enc (a m:Int):encE (asksD a m)=0:=by kernel_rfl
theorem asks_by (a m:Int):optsB (asksD a m)=true:=by
  have hl:(asksD a m).len=2:=rfl
  have e0:optB (asksD a m) 0=byL (uns a) 2:=rfl
  have e1:optB (asksD a m) 1=byL (uns m) 4:=rfl
  refine det fun i hi j hj=>?_
  rw [hl] at hi
  match i,hi with
  | 0,_ =>
    rw [e0] at hj ⊢
    have hj:j<2:=hj
    match j,hj with
    | 0,_=>exact byI_rng (uns a) 2 0
    | 1,_=>exact byI_rng (uns a) 2 1
  | 1,_ =>
    rw [e1] at hj ⊢
    have hj:j<4:=hj
    match j,hj with
    | 0,_=>exact byI_rng (uns m) 4 0
    | 1,_=>exact byI_rng (uns m) 4 1
    | 2,_=>exact byI_rng (uns m) 4 2
    | 3,_=>exact byI_rng (uns m) 4 3
theorem new_lis {a b c e f g h m:Int} (hn:newB a b c e f g h m=true):lisB a b c e f g h 0 0 0 (asksD a m) 0 0 0 m 0 1492 0 0=true:=by
  obtain ⟨hf,hm⟩:=(newB_iff _ _ _ _ _ _ _ _).1 hn
  refine (lisB_iff _ _ _ _ _ _ _ _ _ _ _ _ _ _ _ _ _ _ _).2 ⟨hf,hm,by omega,by omega,by omega,?_,.inl rfl⟩
  exact (soundB_iff _ _ _ _ _ _ _ _ (asks_enc a m)).2 ⟨by omega,by omega,by omega,by omega,by omega,rfl,.inr ⟨by omega,rfl⟩⟩
theorem runs_true (a b c e f g h m:Int) (l:D) (hl:comsB l=true) :
    Tru (treeF (evF Tryz.prog (gam (lrG Tryz.prog)) (lam (rnsLs Tryz.prog)) 100 7) [cfgA a b c e f g h,ai m,asl cmS l]):=by
  rw [runs_tree]
  constructor
  have hL:Le (.sc true (.bool true)) (.sc false (.bool true)):=le_bool rfl
  refine ⟨fun hn=>holds_t_of ?_ hL,fun _=>hL⟩
  rw [Bool.and_true]
  unfold rnsK
  rw [Bool.and_eq_true,Bool.and_eq_true]
  exact ⟨new_lis hn,asks_by a m,hl⟩
theorem coms_of {l:D} (hw:wfS (.sl cmS) l):comsB l=true:=by
  refine det fun i hi=>?_
  have h4:wfS (.sl byS) ((l.get i).cell 4):=(hw.2 i hi).2.2.2.2.1
  exact det fun j hj=>byte_rng h4 j hj
theorem runs_any {A:List AV} {a b c e f g h m:Int} {l:D} (hA:A=[cfgA a b c e f g h,ai m,asl cmS l]) (hl:comsB l=true) :
    Tru (treeF (evF Tryz.prog (gam (lrG Tryz.prog)) (lam (rnsLs Tryz.prog)) 100 7) A):=by
  subst hA
  exact runs_true a b c e f g h m l hl
theorem runs_soundF:SoundF Tryz.prog 7 (evF Tryz.prog (gam (lrG Tryz.prog)) (lam (rnsLs Tryz.prog)) 100 7) :=
  evF_ok mixed (gam_ok (l:=lrG Tryz.prog) ⟨awk_soundF,lnew_soundF,rlsame_soundF,trivial⟩) (lam_ok (l:=rnsLs Tryz.prog) ⟨rns_loop,trivial⟩) 100 _
theorem runs_join (x0_0 x0_1 x0_2 x0_3 x0_4 x0_5 x0_6 x1_0 x2_0:D) (_:wfL [.int .i64,.int .i64,.int .i64,.int .i64,.int .i64,.int .i64,.int .i64] [x0_0,x0_1,x0_2,x0_3,x0_4,x0_5,x0_6]) (_:wfL [.int .i64] [x1_0]) (g2:wfL [.sl [.int .i64,.int .i64,.int .i64,.int .i64,.sl [.int .u8],.int .i64,.sl [.int .u8],.int .i64]] [x2_0]) :
    Tru (treeF (evF Tryz.prog (gam (lrG Tryz.prog)) (lam (rnsLs Tryz.prog)) 100 7) [.agg (avL [.int .i64,.int .i64,.int .i64,.int .i64,.int .i64,.int .i64,.int .i64] [x0_0,x0_1,x0_2,x0_3,x0_4,x0_5,x0_6]),leaf false (.int .i64) x1_0,leaf false (.sl [.int .i64,.int .i64,.int .i64,.int .i64,.sl [.int .u8],.int .i64,.sl [.int .u8],.int .i64]) x2_0]) :=
  runs_any (show ([.agg (avL [.int .i64,.int .i64,.int .i64,.int .i64,.int .i64,.int .i64,.int .i64] [x0_0,x0_1,x0_2,x0_3,x0_4,x0_5,x0_6]),leaf false (.int .i64) x1_0,leaf false (.sl [.int .i64,.int .i64,.int .i64,.int .i64,.sl [.int .u8],.int .i64,.sl [.int .u8],.int .i64]) x2_0]:List AV)=[cfgA x0_0.toI x0_1.toI x0_2.toI x0_3.toI x0_4.toI x0_5.toI x0_6.toI,ai x1_0.toI,asl cmS x2_0] from rfl) (coms_of g2.1)
end
end Go.Proofs.YtcambhbmobepjaaGreat
