/- Mm, 2: texts of this claim, one behind the other: EvP EvA EvB EvC EvD EvE EvF EvG Frame Opn EvH Put Ka1 Ka2 Ka3 Ka4 Kb1 Kb2 Kb3 Kb4 Kc1 Kc2 Kc3. No condition. -/
import Derived.Test.YtbgmclbcjdbcmaaGreatRows
import Derived.ProofKit
import Derived.OpenShut
import Derived.ShutString
import Derived.ChangeOld
import Derived.HandedShaped
import Derived.Shelf.Vars
import Derived.Lay
import Derived.LaidOnce
import Derived.SevenTiedAt
import Derived.Test.YtbgmclbcjdbcmaaGreatProg
import Derived.Test.YtbgmclbcjdbcmaaGreatMm1
namespace Go.Proofs.YtbgmclbcjdbcmaaGreat
set_option linter.unusedSimpArgs false
set_option linter.unusedVariables false
open Go.RowKit
set_option maxRecDepth 10000
noncomputable section
section
variable {P:Program} {E:Env} {F:Tm} {h:Hp} {w w0:World} {G:Nat→Prop} {a:Act} {Q:Exit→Act→World→Prop}
theorem evStepQ_ok {call:FuncId→Spec} (hcall:CallOk P call) {ops:Array Oper} {o:Oper} (hdef:∀ F:Tm,deferA o F=none) {K:Tm×Hp→Prop} {next:Act→World→Prop} (H:(evStep P call ops o F h).holds K) (I:Inv P w0 G E h w) (hT:RelT E F a)
    (hn:∀ F' h' E' v w',K (F',h')→Stepd P w0 G E h w E' h' w'→RelT E' F' (a.put o.dst v)→next (a.put o.dst v) w'):if Region.wanted o (yielded ops a.tmps)=true then o.wp P a w next Q∨(o.asks P a w∧LetsOut Q) else next (a.put o.dst undef) w:=by
  have go:∀ F,RelT E F a→(match deferA o F with
      | some r=>r.bind fun F=>.ok (F,h)
      | none=>(evOp P call o F h).bind fun r=>(putA F o.dst r.1).bind fun F=>.ok (F,r.2):RT (Tm×Hp)).holds K→o.wp P a w next Q:=fun F hT H=>by
    rw [hdef F] at H
    simp only at H
    rw [RT.holds_bind] at H
    refine evOp_ok hcall H I hT fun av h' v w' E' hk hs hr=>?_
    rw [RT.holds_bind] at hk
    obtain ⟨F',k1,k2⟩:=putA_ok hk (hT.mono hs.ext) hr
    exact hn _ _ _ _ _ k1 hs k2
  have skip:∀ F,RelT E F a→((putA F o.dst (.tup [])).bind fun F=>.ok (F,h)).holds K→next (a.put o.dst undef) w:=fun F hT H=>by
    rw [RT.holds_bind] at H
    obtain ⟨F',k1,k2⟩:=putA_ok (u:=undef) H hT ⟨#[],rfl,rfl⟩
    exact hn _ _ _ _ _ k1 (Stepd.refl I) k2
  unfold evStep guardA at H
  split at H
  · rename_i hg
    have hw:Region.wanted o (yielded ops a.tmps)=true:=by simp [Region.wanted,hg]
    rw [if_pos hw]
    exact .inl (go F hT H)
  · rename_i j want hg
    split at H
    · exact H.elim
    · rename_i d hd
      split at H
      · rename_i kn b hl
        have hv:=hT.tm d
        rw [hl] at hv
        have hy:yielded ops a.tmps j=some b:=by
          unfold yielded
          rw [hd]
          have hv1:=hv.1
          rw [Array.getD_eq_getD_getElem?] at hv1
          cases ht:a.tmps[d]? with
          | none=>rw [ht] at hv1; cases hv1
          | some x=>rw [ht] at hv1; simp only [Option.getD_some] at hv1; simp [ht,hv1]
        have hwant:Region.wanted o (yielded ops a.tmps)=(b==want):=by
          simp only [Region.wanted,hg,hy]
          cases b <;> cases want <;> rfl
        have hset:=setA_ok hT hl
        rcases brk_holds H with ⟨rfl,H2⟩ | ⟨rfl,H2⟩
        · cases want
          · rw [if_neg (by rw [hwant]; decide)]; exact skip _ hset H2
          · rw [if_pos (by rw [hwant]; decide)]; exact .inl (go _ hset H2)
        · cases want
          · rw [if_pos (by rw [hwant]; decide)]; exact .inl (go _ hset H2)
          · rw [if_neg (by rw [hwant]; decide)]; exact skip _ hset H2
      · rename_i hl
        have hv:=hT.tm d
        rw [hl] at hv
        obtain ⟨us,hv1,hus⟩:=hv
        have hus:us=#[]:=by cases us with | mk l=>have:l=[]:=hus; subst this; rfl
        subst hus
        have hy:yielded ops a.tmps j=none:=by
          unfold yielded
          rw [hd]
          rw [Array.getD_eq_getD_getElem?] at hv1
          cases ht:a.tmps[d]? with
          | none=>simp [ht]
          | some x=>rw [ht] at hv1; simp only [Option.getD_some] at hv1; simp [ht,hv1]
        have hwant:Region.wanted o (yielded ops a.tmps)=false:=by simp [Region.wanted,hg,hy]
        rw [if_neg (by rw [hwant]; decide)]; exact skip _ hT H
      · exact H.elim
theorem look_only:∀ (l:List Nat) (f:Nat→AV) (t:Nat),look t (l.map fun t=>(t,f t))=if t ∈ l then f t else .any
  | [],_,t=>by simp [look_nil]
  | k :: l,f,t=>by
    simp only [List.map_cons,look_cons,look_only l f t,List.mem_cons]
    cases hb:Nat.beq k t
    · have:¬ t=k:=fun e=>by rw [e] at hb; simp at hb
      simp [this]
    · obtain rfl:=Nat.eq_of_beq_eq_true hb
      simp
def Env.mine (E:Env) (b:Nat):Prop:=(∃ o,E.live o∧E.β o=b)∨∃ k,k<E.m∧(E.vc k).ownBlock=some b
theorem Inv.top (I:Inv P w0 G E h w):Inv P w E.mine E h w :=
  ⟨Kpt.refl _ _,I.m,I.ng,I.gn,I.gnlt,I.live,I.nx,I.ob,fun o ho=>.inr (.inl ⟨o,ho,rfl⟩),I.inj,I.z,I.zob,fun k hk=>by
    obtain ⟨sz,n,xs,g1,g2,g3,g4⟩:=I.vec k hk
    exact ⟨sz,n,xs,g1,g2,g3,fun b hb=>⟨.inr (.inr ⟨k,by rw [I.m]; exact hk,hb⟩),(g4 b hb).2⟩⟩,I.vinj⟩
theorem Inv.mine_own (I:Inv P w0 G E h w) {b:Nat} (hb:E.mine b):w0.heap.size≤b∨G b:=by
  rcases hb with ⟨o,ho,rfl⟩ | ⟨k,hk,hb⟩
  · exact I.own o ho
  · obtain ⟨_,_,_,_,_,_,g4⟩:=I.vec k (by rw [← I.m]; exact hk)
    exact (g4 b hb).1
theorem Stepd.under {E2:Env} {h2:Hp} {w2:World} (I:Inv P w0 G E h w) (S:Stepd P w E.mine E h w E2 h2 w2):Stepd P w0 G E h w E2 h2 w2:=by
  have own:∀ b,w.heap.size≤b∨E.mine b→w0.heap.size≤b∨G b:=fun b hb=>by
    rcases hb with h | h
    · exact .inl (Nat.le_trans I.kpt.size h)
    · exact I.mine_own h
  refine ⟨S.ext,⟨I.kpt.then S.inv.kpt fun b hb=>I.mine_own hb,S.inv.m,S.inv.ng,S.inv.gn,S.inv.gnlt,S.inv.live,S.inv.nx,S.inv.ob,fun o ho=>own _ (S.inv.own o ho),S.inv.inj,S.inv.z,S.inv.zob,fun k hk=>?_,S.inv.vinj⟩,S.un,fun b j v hz=>?_⟩
  · obtain ⟨sz,n,xs,g1,g2,g3,g4⟩:=S.inv.vec k hk
    exact ⟨sz,n,xs,g1,g2,g3,fun b hb=>⟨own b (g4 b hb).1,(g4 b hb).2⟩⟩
  · rcases S.zn b j v hz with h | h
    · exact .inl h
    · exact .inr (own b h)
structure Held (w0:World) (G:Nat→Prop) (E:Env) (w:World) (cs:List AV) (b:Nat) (v:Value):Prop where
  ptr:v=.pointer (some ⟨b,0,none⟩)
  ob:∃ vs ob,w.heap[b]?=some ob∧RelL E cs vs∧ObOk ob vs
  own:w0.heap.size≤b∨G b
  nl:∀ o,E.live o→E.β o≠b
  z:∀ j,E.Z b j=none
  nv:∀ k,k<E.m→(E.vc k).ownBlock≠some b
theorem Held.lt {cs:List AV} {b:Nat} {v:Value} (H:Held w0 G E w cs b v):b<w.heap.size:=by
  obtain ⟨_,_,h1,_⟩:=H.ob
  exact (Array.getElem?_eq_some_iff.1 h1).1
theorem Held.not_mine {cs:List AV} {b:Nat} {v:Value} (H:Held w0 G E w cs b v):¬ E.mine b:=by
  rintro (⟨o,ho,e⟩ | ⟨k,hk,e⟩)
  · exact H.nl o ho e
  · exact H.nv k hk e
theorem quiet_ver {h h':Hp} (hq:quietH h h'=true) {o:Nat} (ho:o<h.nx):ver o h'=ver o h:=by
  unfold quietH at hq
  rw [Bool.and_eq_true] at hq
  exact Nat.eq_of_beq_eq_true (List.all_eq_true.1 hq.1 o (List.mem_range.2 ho))
theorem quiet_gn {h h':Hp} (hq:quietH h h'=true) {k:Nat} (hk:k<h.nv) {p:Nat×TypeId} (hp:lookG k h.gn=some p):lookG k h'.gn=some p:=by
  unfold quietH at hq
  rw [Bool.and_eq_true] at hq
  have:=List.all_eq_true.1 hq.2 k (List.mem_range.2 hk)
  obtain ⟨g,e⟩:=p
  rw [hp] at this
  split at this
  · rename_i g1 e1 g2 e2 h1 h2
    cases h1
    simp only [Bool.and_eq_true] at this
    rw [h2,Nat.eq_of_beq_eq_true this.1,Nat.eq_of_beq_eq_true this.2]
  · cases this
section
variable {E2:Env} {h2:Hp} {w2:World}
theorem same_vec (I:Inv P w0 G E h w) (S:Stepd P w0 G E h w E2 h2 w2) (hq:quietH h h2=true) {k:Nat} (hk:k<h.nv):k<h2.nv∧E2.vc k=E.vc k∧E2.gn k=E.gn k∧E2.ve k=E.ve k:=by
  have hk2:k<h2.nv:=by
    have:=S.ext.m
    rw [I.m,S.inv.m] at this
    omega
  have hg:=quiet_gn hq hk (I.gn k hk)
  have hg2:=S.inv.gn k hk2
  rw [hg] at hg2
  injection hg2 with hg2
  have e1:E.gn k=E2.gn k:=congrArg Prod.fst hg2
  have e2:E.ve k=E2.ve k:=congrArg Prod.snd hg2
  refine ⟨hk2,?_,e1.symm,e2.symm⟩
  rcases S.ext.vc k (by rw [I.m]; exact hk) with ⟨a,_⟩ | b
  · exact a
  · rw [← e1,I.ng] at b
    have:=I.gnlt k hk
    omega
theorem Inv.forget (I:Inv P w0 G E h w) (S:Stepd P w0 G E h w E2 h2 w2) (hq:quietH h h2=true):Stepd P w0 G E h w { E with Z:=E2.Z } h w2:=by
  have hx:Ext E { E with Z:=E2.Z }:=⟨fun _ h=>h,fun _ _=>rfl,S.ext.Z,Nat.le_refl _,Nat.le_refl _,fun _ _=>.inl ⟨rfl,rfl⟩⟩
  have hblk:∀ o,E.live o→w2.heap[E.β o]?=w.heap[E.β o]?:=fun o ho=>(S.un o ho).2 (quiet_ver hq (I.nx o ho))
  refine ⟨hx,⟨S.inv.kpt,I.m,I.ng,I.gn,I.gnlt,I.live,I.nx,fun o cs hcs=>?_,I.own,I.inj,S.inv.z,fun o j ho=>?_,fun k hk=>?_,I.vinj⟩,fun o ho=>⟨Nat.le_refl _,fun _=>hblk o ho⟩,S.zn⟩
  · obtain ⟨vs,ob,g1,g2,g3⟩:=I.ob o cs hcs
    have ho:E.live o:=(I.live o).2 (by rw [hcs]; rfl)
    exact ⟨vs,ob,(hblk o ho).trans g1,RelL.mono hx _ _ g2,g3⟩
  · have:=S.inv.zob o j (S.ext.live o ho)
    rw [S.ext.β o ho] at this
    exact this
  · obtain ⟨hk2,e1,e2,e3⟩:=same_vec I S hq hk
    obtain ⟨sz,n,xs,g1,g2,g3,g4⟩:=S.inv.vec k hk2
    rw [e3] at g1 g2
    rw [e1] at g2 g4
    refine ⟨sz,n,xs,g1,g2,g3,fun b hb=>?_⟩
    obtain ⟨q1,q2,q3⟩:=g4 b hb
    exact ⟨q1,fun o ho=>by have:=q2 o (S.ext.live o ho); rwa [S.ext.β o ho] at this,q3⟩
mutual
theorem calm_rel (I:Inv P w0 G E h w) (S:Stepd P w0 G E h w E2 h2 w2) (hq:quietH h h2=true):∀ (x:AV) (v:Value),Rel E2 x v→Rel { E with Z:=E2.Z } (calm h x) v
  | .any,_,_=>trivial
  | .sc _ _,_,H=>H
  | .ep _ _ _ _,_,H=>H
  | .rw _ _,_,H=>H
  | .ptr o off,v,⟨_,hv⟩=>by
    simp only [calm]
    split
    · rename_i cs hcs
      have ho:E.live o:=(I.live o).2 (by rw [hcs]; rfl)
      refine ⟨ho,?_⟩
      rw [S.ext.β o ho] at hv
      exact hv
    · trivial
  | .mp o,v,⟨_,hv⟩=>by
    simp only [calm]
    split
    · rename_i cs hcs
      have ho:E.live o:=(I.live o).2 (by rw [hcs]; rfl)
      refine ⟨ho,?_⟩
      rw [S.ext.β o ho] at hv
      exact hv
    · trivial
  | .rsl kn o n len,v,⟨_,ad,cap,g1,g2,g3,g4,g5⟩=>by
    simp only [calm]
    split
    · rename_i cs hcs
      have ho:E.live o:=(I.live o).2 (by rw [hcs]; rfl)
      refine ⟨ho,ad,cap,g1,g2,g3,g4,fun hn=>?_⟩
      have:=g5 hn
      rw [S.ext.β o ho] at this
      exact this
    · trivial
  | .rp kn o n i j,v,⟨_,hv⟩=>by
    simp only [calm]
    split
    · rename_i cs hcs
      have ho:E.live o:=(I.live o).2 (by rw [hcs]; rfl)
      refine ⟨ho,?_⟩
      rw [S.ext.β o ho] at hv
      exact hv
    · trivial
  | .sl kn es d none,v,H=>H
  | .sl kn es d (some (k,g)),v,⟨hl,h1,h2',h3⟩=>by
    simp only [calm]
    cases hb:Nat.blt k h.nv&&Nat.blt g h.ng
    · exact ⟨hl,trivial⟩
    · simp only [Bool.and_eq_true] at hb
      have hk:k<h.nv:=Nat.le_of_ble_eq_true hb.1
      have hg:g<h.ng:=Nat.le_of_ble_eq_true hb.2
      obtain ⟨_,e1,e2,_⟩:=same_vec I S hq hk
      refine ⟨hl,by show k<E.m; rw [I.m]; exact hk,by show g<E.ng; rw [I.ng]; exact hg,fun he=>?_⟩
      have he':E.gn k=g:=he
      rw [e1] at h3
      exact h3 (e2.trans he')
  | .fn f a c,v,⟨a',c',h1,h2,h3⟩=>⟨a',c',h1,calm_relL I S hq a _ h2,calm_relL I S hq c _ h3⟩
  | .agg cs,v,⟨cs',h1,h2,h3⟩=>⟨cs',h1,calm_relL I S hq cs _ h2,h3⟩
  | .tup vs,v,⟨vs',h1,h2⟩=>⟨vs',h1,calm_relL I S hq vs _ h2⟩
theorem calm_relL (I:Inv P w0 G E h w) (S:Stepd P w0 G E h w E2 h2 w2) (hq:quietH h h2=true):∀ (xs:List AV) (vs:List Value),RelL E2 xs vs→RelL { E with Z:=E2.Z } (calmL h xs) vs
  | [],_,H=>H
  | x :: xs,_,⟨v,vs',h1,h2,h3⟩=>⟨v,vs',h1,calm_rel I S hq x v h2,calm_relL I S hq xs vs' h3⟩
end
theorem Held.step (S:Stepd P w E.mine E h w E2 h2 w2) {cs:List AV} {b:Nat} {v:Value} (H:Held w0 G E w cs b v):Held w0 G { E with Z:=E2.Z } w2 cs b v:=by
  have hlt:=H.lt
  have hx:Ext E { E with Z:=E2.Z }:=⟨fun _ h=>h,fun _ _=>rfl,S.ext.Z,Nat.le_refl _,Nat.le_refl _,fun _ _=>.inl ⟨rfl,rfl⟩⟩
  refine ⟨H.ptr,?_,H.own,H.nl,fun j=>?_,H.nv⟩
  · obtain ⟨vs,ob,g1,g2,g3⟩:=H.ob
    exact ⟨vs,ob,(S.inv.kpt.block b hlt H.not_mine).trans g1,RelL.mono hx _ _ g2,g3⟩
  · cases hz:E2.Z b j with
    | none=>rfl
    | some u =>
      rcases S.zn b j u hz with h | h | h
      · rw [H.z j] at h; cases h
      · omega
      · exact absurd h H.not_mine
theorem held_new (I:Inv P w0 G E h w) {cs:List AV} {v:Value} (S:Stepd P w E.mine E h w E2 (newA cs h).2 w2) (hq:quietH h (newA cs h).2=true) (hv:Rel E2 (.ptr h.nx 0) v) :
    Held w0 G { E with Z:=E2.Z } w2 (calmL h cs) (E2.β h.nx) v∧w.heap.size≤E2.β h.nx:=by
  have hl:lookO h.nx (newA cs h).2.ob=some cs:=by simp [newA,lookO_cons]
  have hlive:E2.live h.nx:=(S.inv.live h.nx).2 (by rw [hl]; rfl)
  have hnl:∀ o,E.live o→E.β o≠E2.β h.nx:=fun o ho e=>by
    rw [← S.ext.β o ho] at e
    have:=S.inv.inj o h.nx (S.ext.live o ho) hlive e
    have:=I.nx o ho
    omega
  have hnv:∀ k,k<E.m→(E.vc k).ownBlock≠some (E2.β h.nx):=fun k hk e=>by
    obtain ⟨hk2,e1,_,_⟩:=same_vec I (S.under I) hq (by rw [← I.m]; exact hk)
    obtain ⟨_,_,_,_,_,_,g4⟩:=S.inv.vec k hk2
    rw [← e1] at e
    exact (g4 _ e).2.1 h.nx hlive rfl
  have hsz:w.heap.size≤E2.β h.nx:=by
    rcases S.inv.own h.nx hlive with h | ⟨o,ho,e⟩ | ⟨k,hk,e⟩
    · exact h
    · exact absurd e (hnl o ho)
    · exact absurd e (hnv k hk)
  obtain ⟨vs,ob,g1,g2,g3⟩:=S.inv.ob h.nx cs hl
  exact ⟨⟨hv.2,⟨vs,ob,g1,calm_relL I (S.under I) hq _ _ g2,g3⟩,.inl (Nat.le_trans I.kpt.size hsz),hnl,fun j=>S.inv.zob h.nx j hlive,hnv⟩,hsz⟩
theorem Inv.adopt (I:Inv P w0 G E h w) {cs:List AV} {b:Nat} {v:Value} (H:Held w0 G E w cs b v) :
    ∃ E',Stepd P w0 G E h w E' (newA cs h).2 w∧Rel E' (newA cs h).1 v∧∀ cs' b' v',b'≠b→Held w0 G E w cs' b' v'→Held w0 G E' w cs' b' v':=by
  have hnl:¬ E.live h.nx:=fun hl=>by have:=I.nx _ hl; omega
  have hext:Ext E { E with β:=fun o=>if o=h.nx then b else E.β o,live:=fun o=>E.live o∨o=h.nx } :=
    ⟨fun o ho=>.inl ho,fun o ho=>if_neg fun e:o=h.nx=>hnl (e ▸ ho),fun _ _ _ hz=>hz,Nat.le_refl _,Nat.le_refl _,fun _ _=>.inl ⟨rfl,rfl⟩⟩
  obtain ⟨vs,t,hblk,hr,h1⟩:=H.ob
  refine ⟨_,⟨hext,⟨I.kpt,I.m,I.ng,I.gn,I.gnlt,fun p=>?_,fun p hp=>?_,fun p cp hp=>?_,fun p hp=>?_,fun p q hp hq=>?_,I.z,fun p j hp=>?_,fun k hkn=>?_,I.vinj⟩,fun p hp=>?_,fun _ _ _ hz=>.inl hz⟩,⟨.inr rfl,by simp only [if_pos]; exact H.ptr⟩,fun cs' b' v' hne H'=>?_⟩
  · simp only [newA,lookO_cons]
    split
    · rename_i e; subst e; simp
    · rename_i e
      rw [← I.live p]
      exact ⟨fun hh=>hh.resolve_right fun e'=>e e'.symm,.inl⟩
  · rcases hp with hp | rfl
    · have:=I.nx p hp; simp only [newA]; omega
    · simp only [newA]; omega
  · simp only [newA,lookO_cons] at hp
    split at hp
    · rename_i e; subst e; cases hp
      exact ⟨vs,t,by simp only [if_pos]; exact hblk,RelL.mono hext _ _ hr,h1⟩
    · rename_i e
      obtain ⟨us,t',g1,g2,g3⟩:=I.ob p cp hp
      refine ⟨us,t',?_,RelL.mono hext _ _ g2,g3⟩
      simp only [if_neg (fun e':p=h.nx=>e (Eq.symm e'))]
      exact g1
  · rcases hp with hp | rfl
    · simp only [if_neg (fun e:p=h.nx=>hnl (e ▸ hp))]; exact I.own p hp
    · simp only [if_pos]; exact H.own
  · intro e
    by_cases ep:p=h.nx <;> by_cases eq:q=h.nx
    · rw [ep,eq]
    · simp only [ep,eq,if_pos,if_neg,not_false_eq_true] at e
      exact absurd e.symm (H.nl q (hq.resolve_right eq))
    · simp only [ep,eq,if_pos,if_neg,not_false_eq_true] at e
      exact absurd e (H.nl p (hp.resolve_right ep))
    · simp only [if_neg ep,if_neg eq] at e
      exact I.inj p q (hp.resolve_right ep) (hq.resolve_right eq) e
  · by_cases ep:p=h.nx
    · simp only [if_pos ep]; exact H.z j
    · simp only [if_neg ep]; exact I.zob p j (hp.resolve_right ep)
  · obtain ⟨sz,n,xs,g1,g2,g3,g4⟩:=I.vec k hkn
    refine ⟨sz,n,xs,g1,g2,g3,fun b' hb'=>⟨(g4 b' hb').1,fun o ho=>?_,(g4 b' hb').2.2⟩⟩
    by_cases ep:o=h.nx
    · simp only [if_pos ep]
      intro e
      exact H.nv k (by rw [I.m]; exact hkn) (by rw [e]; exact hb')
    · simp only [if_neg ep]; exact (g4 b' hb').2.1 o (ho.resolve_right ep)
  · have:p≠h.nx:=fun e=>hnl (e ▸ hp)
    simp only [ver,newA,cnt_cons,if_neg (fun e:h.nx=p=>this (Eq.symm e))]
    exact ⟨Nat.le_refl _,fun _=>by first | rfl | trivial⟩
  · refine ⟨H'.ptr,?_,H'.own,fun o ho=>?_,H'.z,H'.nv⟩
    · obtain ⟨vs',ob',g1,g2,g3⟩:=H'.ob
      exact ⟨vs',ob',g1,RelL.mono hext _ _ g2,g3⟩
    · by_cases ep:o=h.nx
      · simp only [if_pos ep]; exact fun e=>hne e.symm
      · simp only [if_neg ep]; exact H'.nl o (ho.resolve_right ep)
end
theorem det_pick {α:Type} {R:α→Prop}:∀ {x:RT α},(detA x).holds R→∃ y,x.holds (fun z=>z=y)∧R y
  | .ok a,H=>⟨a,rfl,H⟩
  | .bad _,H=>H.elim
  | .all _ _,H=>H.elim
  | .br b x y,H=>by
    cases b
    · obtain ⟨z,h1,h2⟩:=det_pick (x:=y) (H.2 rfl)
      exact ⟨z,⟨(fun h=>by cases h),fun _=>h1⟩,h2⟩
    · obtain ⟨z,h1,h2⟩:=det_pick (x:=x) (H.1 rfl)
      exact ⟨z,⟨fun _=>h1,(fun h=>by cases h)⟩,h2⟩
def LeT (F F':Tm) (t:Nat):Prop:=∀ E v,Rel E (look t F.tm) v→Rel E (look t F'.tm) v
def putQ (o:Oper) (F1:Tm) (h:Hp) (F2:Tm):Tm:=match o.dst with
  | some d=>{ F1 with tm:=(d,calm h (look d F2.tm)) :: F1.tm }
  | none=>F1
structure StepQ (P:Program) (call:FuncId→Spec) (ops:Array Oper) (h:Hp) (o:Oper) (F F1 F':Tm):Prop where
  nt:F1.nt=F.nt
  df:F1.df=F.df
  le:∀ t,LeT F F1 t
  st:(evStep P call ops o (only (o.looksAt ops) F1) h).holds fun r=>quietH h r.2=true∧F'=putQ o F1 h r.1
theorem actQ_st {call:FuncId→Spec} {ops:Array Oper} {o:Oper} {F1 F':Tm} (H:(actQ P call ops o F1 h).holds fun z=>z=F'):(evStep P call ops o (only (o.looksAt ops) F1) h).holds fun r=>quietH h r.2=true∧F'=putQ o F1 h r.1:=by
  unfold actQ at H
  rw [RT.holds_bind] at H
  refine RT.holds_mono (fun r hr=>?_) _ H
  cases hq:quietH h r.2
  · rw [hq] at hr; exact hr.elim
  · rw [hq] at hr
    refine ⟨rfl,?_⟩
    unfold putQ
    simp only [cond_true] at hr
    split at hr
    · rename_i d hd; rw [hd]; exact hr.symm
    · rename_i hd; rw [hd]; exact hr.symm
theorem leT_setA {d:Nat} {kn b:Bool} (hl:look d F.tm=.sc kn (.bool b)) (t:Nat):LeT F (setA F d b) t:=fun E v hv=>by
  simp only [setA,look_cons]
  cases hb:Nat.beq d t
  · exact hv
  · obtain rfl:=Nat.eq_of_beq_eq_true hb
    rw [hl] at hv
    exact ⟨hv.1,rfl⟩
theorem evQ1_st {call:FuncId→Spec} {ops:Array Oper} {o:Oper} {F':Tm} (H:(evQ1 P call ops o F h).holds fun z=>z=F'):∃ F1,StepQ P call ops h o F F1 F':=by
  unfold evQ1 at H
  split at H
  · exact ⟨F,rfl,rfl,fun _ _ _ h=>h,actQ_st H⟩
  · split at H
    · exact H.elim
    · rename_i d hd
      split at H
      · rename_i kn b hl
        rcases brk_holds H with ⟨rfl,H2⟩ | ⟨rfl,H2⟩
        · exact ⟨setA F d true,rfl,rfl,leT_setA hl,actQ_st H2⟩
        · exact ⟨setA F d false,rfl,rfl,leT_setA hl,actQ_st H2⟩
      · exact ⟨F,rfl,rfl,fun _ _ _ h=>h,actQ_st H⟩
      · exact H.elim
theorem evQs_frames {call:FuncId→Spec} {ops:Array Oper} {K:Tm→Prop}:∀ (l:List Oper) (F:Tm),(evQs P call ops h l F).holds K→∃ Fs:Nat→Tm,Fs 0=F∧(∀ i o,l[i]?=some o→∃ F1,StepQ P call ops h o (Fs i) F1 (Fs (i+1)))∧K (Fs l.length)
  | [],F,H=>⟨fun _=>F,rfl,fun i o hi=>by simp at hi,H⟩
  | o :: l,F,H=>by
    have H':((detA (evQ1 P call ops o F h)).bind (evQs P call ops h l)).holds K:=H
    rw [RT.holds_bind] at H'
    obtain ⟨F',h1,h2⟩:=det_pick H'
    obtain ⟨Fs,g1,g2,g3⟩:=evQs_frames l F' h2
    refine ⟨fun i=>match i with | 0=>F | i+1=>Fs i,rfl,fun i o' hi=>?_,g3⟩
    cases i with
    | zero =>
      simp only [List.getElem?_cons_zero,Option.some.injEq] at hi
      subst hi
      obtain ⟨F1,hF⟩:=evQ1_st h1
      exact ⟨F1,by rw [← g1] at hF; exact hF⟩
    | succ i=>exact g2 i o' (by simpa using hi)
def unl (listed:Array Bool):Nat→Nat
  | 0=>0
  | n+1=>unl listed n+if listed.getD n true=true then 0 else 1
theorem unl_le (listed:Array Bool):∀ n,unl listed n≤n
  | 0=>Nat.le_refl _
  | n+1=>by have:=unl_le listed n; unfold unl; split <;> omega
theorem unl_set {listed:Array Bool} {k:Nat} (hk:listed.getD k true=false):∀ n,unl (listed.setIfInBounds k true) n+(if k<n then 1 else 0)=unl listed n
  | 0=>rfl
  | n+1=>by
    have ih:=unl_set hk n
    simp only [unl]
    by_cases hkn:k=n
    · subst hkn
      have h1:(listed.setIfInBounds k true).getD k true=true:=by
        rw [Array.getD_eq_getD_getElem?]
        rcases Nat.lt_or_ge k listed.size with h | h
        · rw [Array.getElem?_setIfInBounds_self_of_lt h]; rfl
        · rw [Array.getElem?_eq_none (by simpa using h)]; rfl
      rw [h1,hk]
      simp only [Nat.lt_irrefl,if_false,Nat.add_zero] at ih
      rw [ih]; simp
    · rw [getD_set_ne true hkn]
      have e:(k<n+1)=(k<n):=by apply propext; omega
      rw [← ih]; simp only [e]; split <;> split <;> omega
end
section
variable {P:Program} {w0:World} {G:Nat→Prop} {Q:Exit→Act→World→Prop}
theorem put_other {a:Act} {dst:Option Tmp} {v:Value} {t:Nat} (h:dst≠some t):(a.put dst v).tmps.getD t undef=a.tmps.getD t undef:=by
  cases dst with
  | none=>rfl
  | some d =>
    have:d≠t:=fun e=>h (by rw [e])
    simp only [Act.put,Array.getD_eq_getD_getElem?,Array.getElem?_setIfInBounds_ne this]
theorem put_size {a:Act} {dst:Option Tmp} {v:Value}:(a.put dst v).tmps.size=a.tmps.size:=by unfold Act.put; split <;> simp
theorem getD_of_true {listed:Array Bool} {k:Nat} (h:listed.getD k false=true) (d:Bool):listed.getD k d=true:=by
  rw [Array.getD_eq_getD_getElem?] at h ⊢
  cases hk:listed[k]? with
  | none=>rw [hk] at h; cases h
  | some x=>rw [hk] at h; exact h
structure OkQ (ops:Array Oper) (m:Nat):Prop where
  le:m≤ops.size
  kind:∀ k o,k<m→ops[k]?=some o→isQuietO o=true
  top:∀ k o,ops[k]?=some o→∀ e ∈ o.after,Region.binds .any e=true→e.on<k
  pair:∀ k ok j oj d,k<m→j<m→ops[k]?=some ok→ops[j]?=some oj→j≠k→oj.dst=some d→ok.dst≠some d∧(d ∈ ok.looksAt ops→waits j ok=true∨waits k oj=true)
  wait:∀ i k,i<m→m≤k→k<ops.size→i ∈ cov ops k m m
  row:∀ k j,m≤k→k<j→j<ops.size→rdyB ops (fun x=>Nat.blt x k) j=false
theorem leadQ_le:∀ l:List Oper,leadQ l≤l.length
  | []=>Nat.le_refl _
  | o :: l=>by
    have:=leadQ_le l
    unfold leadQ
    cases isQuietO o
    · exact Nat.zero_le _
    · simp only [cond_true,List.length_cons]; omega
theorem leadQ_kind:∀ (l:List Oper) (k:Nat) (o:Oper),k<leadQ l→l[k]?=some o→isQuietO o=true
  | [],k,o,h,ho=>by simp at ho
  | x :: l,k,o,h,ho=>by
    unfold leadQ at h
    cases hx:isQuietO x
    · rw [hx] at h; simp at h
    · rw [hx] at h
      simp only [cond_true] at h
      cases k with
      | zero=>simp at ho; subst ho; exact hx
      | succ k=>exact leadQ_kind l k o (by omega) (by simpa using ho)
theorem blt_lt {a b:Nat} (h:Nat.blt a b=true):a<b:=Nat.lt_of_lt_of_le (Nat.lt_succ_self _) (Nat.le_of_ble_eq_true h)
theorem lt_blt {a b:Nat} (h:a<b):Nat.blt a b=true:=Nat.ble_eq_true_of_le h
theorem okQ_ok {ops:Array Oper} (h:quietR ops=true):OkQ ops (leadQ ops.toList):=by
  unfold quietR at h
  cases h0:unord ops
  · rw [h0] at h; cases h
  rw [h0] at h
  simp only [cond_true] at h
  cases h1:okQ ops (leadQ ops.toList)
  · rw [h1] at h; cases h
  rw [h1] at h
  simp only [cond_true] at h
  have hk:∀ k ok,ops[k]?=some ok→(ok.after.all (fun e=>!(Region.binds .any e)||Nat.blt e.on k)&&(bif Nat.blt k (leadQ ops.toList) then (List.range (leadQ ops.toList)).all fun j=>Nat.beq j k||okPair ops k ok j else true))=true:=fun k ok hok=>by
    unfold okQ at h1
    have:=List.all_eq_true.1 h1 k (List.mem_range.2 (Array.getElem?_eq_some_iff.1 hok).1)
    rw [hok] at this
    exact this
  have hs:∀ k,leadQ ops.toList≤k→k<ops.size→((List.range (leadQ ops.toList)).all (fun i=>(cov ops k (leadQ ops.toList) (leadQ ops.toList)).contains i)&&(List.range ops.size).all (fun j=>!(Nat.blt k j)||!(rdyB ops (fun x=>Nat.blt x k) j)))=true:=fun k hk hks=>by
    unfold sufOk at h
    have:=List.all_eq_true.1 h k (List.mem_range.2 hks)
    cases hb:Nat.blt k (leadQ ops.toList)
    · rw [hb,Bool.false_or] at this; exact this
    · have:=blt_lt hb; omega
  refine ⟨by have:=leadQ_le ops.toList; rwa [Array.length_toList] at this,fun k o hk' ho=>leadQ_kind _ k o hk' (by rw [Array.getElem?_toList]; exact ho),fun k o ho e he hb=>?_,fun k ok j oj d hkm hjm hok hoj hne hd=>?_,fun i k hi hm hks=>?_,fun k j hm hkj hjs=>?_⟩
  · have:=hk k o ho
    rw [Bool.and_eq_true] at this
    have h1:=Array.all_eq_true'.1 this.1 e he
    rw [hb,Bool.not_true,Bool.false_or] at h1
    exact blt_lt h1
  · have:=hk k ok hok
    rw [Bool.and_eq_true,lt_blt hkm,cond_true] at this
    have h1:=List.all_eq_true.1 this.2 j (List.mem_range.2 hjm)
    have hjk:Nat.beq j k=false:=by
      cases hb:Nat.beq j k
      · rfl
      · exact absurd (Nat.eq_of_beq_eq_true hb) hne
    rw [hjk,Bool.false_or] at h1
    unfold okPair at h1
    rw [hoj] at h1
    simp only [hd,Bool.and_eq_true,Bool.or_eq_true,Bool.not_eq_true'] at h1
    refine ⟨fun e=>?_,fun hm=>?_⟩
    · have:=h1.1
      unfold sameDst at this
      rw [e] at this
      simp at this
    · rcases h1.2 with (h2 | h2) | h2
      · rw [List.contains_eq_mem,decide_eq_true hm] at h2; cases h2
      · exact .inl h2
      · exact .inr h2
  · have:=hs k hm hks
    rw [Bool.and_eq_true] at this
    have:=List.all_eq_true.1 this.1 i (List.mem_range.2 hi)
    rw [List.contains_eq_mem] at this
    exact of_decide_eq_true this
  · have:=hs k hm (by omega)
    rw [Bool.and_eq_true] at this
    have:=List.all_eq_true.1 this.2 j (List.mem_range.2 hjs)
    rw [lt_blt hkj,Bool.not_true,Bool.false_or,Bool.not_eq_true'] at this
    exact this
theorem waits_on {j:Nat} {o:Oper} (hw:waits j o=true):∃ e ∈ o.after,Region.binds .any e=true∧e.on=j:=by
  unfold waits at hw
  obtain ⟨e,he,h2⟩:=Array.any_eq_true'.1 hw
  simp only [Bool.and_eq_true,beq_iff_eq] at h2
  exact ⟨e,he,h2.1,h2.2⟩
section
variable {ops:Array Oper} {Fs:Nat→Tm} {call:FuncId→Spec} {h:Hp} {m:Nat}
theorem rdy_of {listed:Array Bool} {S:Nat→Bool} {k:Nat} (hk:k ∈ Region.ready .any ops listed) (hS:∀ x,listed.getD x false=true→S x=true):rdyB ops S k=true:=by
  obtain ⟨_,o,ho,hall⟩:=mem_ready.1 hk
  unfold rdyB
  rw [ho]
  refine Array.all_eq_true'.2 fun e he=>?_
  cases hb:Region.binds .any e
  · rfl
  · rw [Bool.not_true,Bool.false_or]; exact hS _ (hall e he hb)
theorem putQ_other {o:Oper} {F1 F2:Tm} {t:Nat} (ht:o.dst≠some t):look t (putQ o F1 h F2).tm=look t F1.tm:=by
  unfold putQ
  split
  · rename_i d hd
    have:d≠t:=fun e=>ht (by rw [hd,e])
    simp only [look_cons]
    cases hb:Nat.beq d t
    · rfl
    · exact absurd (Nat.eq_of_beq_eq_true hb) this
  · rfl
theorem putQ_same {o:Oper} {F1 F2:Tm}:(putQ o F1 h F2).nt=F1.nt∧(putQ o F1 h F2).df=F1.df:=by unfold putQ; split <;> exact ⟨rfl,rfl⟩
structure Frs (P:Program) (call:FuncId→Spec) (ops:Array Oper) (m:Nat) (h:Hp) (Fs:Nat→Tm):Prop where
  st:∀ k o,k<m→ops[k]?=some o→∃ F1,StepQ P call ops h o (Fs k) F1 (Fs (k+1))
  ok:OkQ ops m
theorem Frs.one (fr:Frs P call ops m h Fs) {k:Nat} (hk:k<m):(Fs (k+1)).nt=(Fs k).nt∧(Fs (k+1)).df=(Fs k).df∧∀ t,(∀ o,ops[k]?=some o→o.dst≠some t)→LeT (Fs k) (Fs (k+1)) t:=by
  have hks:k<ops.size:=Nat.lt_of_lt_of_le hk fr.ok.le
  have ho:ops[k]?=some ops[k]:=Array.getElem?_eq_getElem hks
  obtain ⟨F1,S⟩:=fr.st k _ hk ho
  have hl:∃ r:Tm×Hp,Fs (k+1)=putQ ops[k] F1 h r.1:=by
    have:=S.st
    generalize evStep P call ops ops[k] (only (ops[k].looksAt ops) F1) h=T at this
    induction T with
    | ok r=>exact ⟨r,this.2⟩
    | bad _=>exact this.elim
    | br b x y ihx ihy =>
      cases b
      · exact ihy (this.2 rfl)
      · exact ihx (this.1 rfl)
    | all x y ihx _=>exact ihx this.1
  obtain ⟨r,hr⟩:=hl
  rw [hr]
  refine ⟨(putQ_same).1.trans S.nt,(putQ_same).2.trans S.df,fun t ht E v hv=>?_⟩
  rw [putQ_other (ht _ ho)]
  exact S.le t E v hv
theorem Frs.same (fr:Frs P call ops m h Fs):∀ k,k≤m→(Fs k).nt=(Fs 0).nt∧(Fs k).df=(Fs 0).df
  | 0,_=>⟨rfl,rfl⟩
  | k+1,hk=>by
    obtain ⟨h1,h2,_⟩:=fr.one (k:=k) (by omega)
    obtain ⟨h3,h4⟩:=fr.same k (by omega)
    exact ⟨h1.trans h3,h2.trans h4⟩
theorem Frs.mono (fr:Frs P call ops m h Fs) {t i:Nat}:∀ j,i≤j→j≤m→(∀ k o,i≤k→k<j→ops[k]?=some o→o.dst≠some t)→LeT (Fs i) (Fs j) t
  | 0,hi,_,_=>by
    obtain rfl:i=0:=by omega
    exact fun _ _ h=>h
  | j+1,hi,hj,hno=>by
    rcases Nat.lt_or_ge i (j+1) with hlt | hge
    · have ih:=fr.mono (t:=t) (i:=i) j (by omega) (by omega) fun k o h1 h2=>hno k o h1 (by omega)
      obtain ⟨_,_,h3⟩:=fr.one (k:=j) (by omega)
      exact fun E v hv=>h3 t (fun o ho=>hno j o (by omega) (by omega) ho) E v (ih E v hv)
    · obtain rfl:i=j+1:=by omega
      exact fun _ _ h=>h
theorem OkQ.alone (ok:OkQ ops m) {t j i:Nat} {oj oi:Oper} (hjm:j<m) (him:i<m) (hoj:ops[j]?=some oj) (hdj:oj.dst=some t) (hoi:ops[i]?=some oi) (hne:i≠j):oi.dst≠some t :=
  (ok.pair i oi j oj t him hjm hoi hoj (Ne.symm hne) hdj).1
structure InvQ (P:Program) (w0:World) (G:Nat→Prop) (ops:Array Oper) (m:Nat) (h:Hp) (Fs:Nat→Tm) (bl:Nat→Nat) (listed:Array Bool) (E:Env) (w:World) (a:Act):Prop where
  sz:a.tmps.size=(Fs 0).nt
  df:RelD E (Fs 0).df a.defers
  ls:listed.size=ops.size
  put:∀ t k o,k<m→ops[k]?=some o→o.dst=some t→listed.getD k true=true→Rel E (look t (Fs (k+1)).tm) (a.tmps.getD t undef)
  old:∀ t,(∀ k o,k<m→ops[k]?=some o→o.dst=some t→listed.getD k true=false)→Rel E (look t (Fs 0).tm) (a.tmps.getD t undef)
  cl:∀ k o,k<m→ops[k]?=some o→listed.getD k true=true→∀ e ∈ o.after,Region.binds .any e=true→listed.getD e.on false=true
  suf:∀ k,m≤k→k<ops.size→listed.getD k true=false
  al:∀ k o e d,k<m→ops[k]?=some o→isAllocO o=true→o.op=.alloc e→o.dst=some d→listed.getD k true=true→∃ cs,zeroA P e=some cs∧Held w0 G E w (calmL h cs) (bl k) (a.tmps.getD d undef)
  inj:∀ k k' o o',k<m→k'<m→ops[k]?=some o→ops[k']?=some o'→isAllocO o=true→isAllocO o'=true→listed.getD k true=true→listed.getD k' true=true→bl k=bl k'→k=k'
theorem listed_lt {listed:Array Bool} (hs:listed.size=ops.size) {j:Nat} {d:Bool} (hj:j<ops.size) (h:listed.getD j d=true) (d':Bool):listed.getD j d'=true:=by
  rw [Array.getD_eq_getD_getElem?,Array.getElem?_eq_getElem (by omega)] at h ⊢
  exact h
variable {bl:Nat→Nat}
theorem InvQ.looks {listed:Array Bool} {E:Env} {w:World} {a:Act} (fr:Frs P call ops m h Fs) (I:InvQ P w0 G ops m h Fs bl listed E w a) {k:Nat} {o:Oper} (hkm:k<m) (hk:k ∈ Region.ready .any ops listed) (ho:ops[k]?=some o) {t:Nat} (ht:t ∈ o.looksAt ops):Rel E (look t (Fs k).tm) (a.tmps.getD t undef):=by
  obtain ⟨hun,o',ho',hall⟩:=mem_ready.1 hk
  obtain rfl:o=o':=Option.some.inj (ho.symm.trans ho')
  have hms:=fr.ok.le
  by_cases hw:∃ (j:Nat) (oj:Oper),j<m∧ops[j]?=some oj∧oj.dst=some t∧j≠k
  · obtain ⟨j,oj,hjm,hoj,hdj,hne⟩:=hw
    rcases (fr.ok.pair k o j oj t hkm hjm ho hoj hne hdj).2 ht with hwt | hwt
    · obtain ⟨e,he,hb,rfl⟩:=waits_on hwt
      have hlt:=fr.ok.top k o ho e he hb
      have hlj:=getD_of_true (hall e he hb) true
      exact fr.mono k (by omega) (by omega) (fun i oi h1 h2 hoi=>fr.ok.alone hjm (by omega) hoj hdj hoi (by omega)) E _ (I.put t _ oj hjm hoj hdj hlj)
    · obtain ⟨e,he,hb,hek⟩:=waits_on hwt
      have hlt:=fr.ok.top j oj hoj e he hb
      rw [hek] at hlt
      have huj:listed.getD j true=false:=by
        cases hlj:listed.getD j true
        · rfl
        · have:=I.cl j oj hjm hoj hlj e he hb
          rw [hek] at this
          rw [getD_of_true this true] at hun
          cases hun
      refine fr.mono k (Nat.zero_le _) (by omega) (fun i oi _ h2 hoi=>fr.ok.alone hjm (by omega) hoj hdj hoi (by omega)) E _ (I.old t fun i oi him hoi hdi=>?_)
      by_cases hij:i=j
      · subst hij; exact huj
      · exact absurd hdi (fr.ok.alone hjm him hoj hdj hoi hij)
  · refine fr.mono k (Nat.zero_le _) (by omega) (fun i oi _ h2 hoi hdi=>hw ⟨i,oi,by omega,hoi,hdi,by omega⟩) E _ (I.old t fun i oi him hoi hdi=>?_)
    by_cases hik:i=k
    · subst hik; exact hun
    · exact absurd ⟨i,oi,him,hoi,hdi,hik⟩ hw
theorem InvQ.ready_lt {listed:Array Bool} {E:Env} {w:World} {a:Act} (fr:Frs P call ops m h Fs) (I:InvQ P w0 G ops m h Fs bl listed E w a) {i k:Nat} (him:i<m) (hun:listed.getD i true=false) (hk:k ∈ Region.ready .any ops listed):k<m:=by
  have hms:=fr.ok.le
  rcases Nat.lt_or_ge k m with h | hge
  · exact h
  · have hks:k<ops.size:=by
      obtain ⟨_,o,ho,_⟩:=mem_ready.1 hk
      exact (Array.getElem?_eq_some_iff.1 ho).1
    obtain ⟨_,o,ho,hall⟩:=mem_ready.1 hk
    have key:∀ c,c≤m→∀ q ∈ cov ops k m c,q<m∧listed.getD q false=true:=fun c=>by
      induction c with
      | zero=>intro _ q hq; cases hq
      | succ c ih =>
        intro hc q hq
        have ih:=ih (by omega)
        unfold cov at hq
        cases hb:wtB ops (m - (c+1)) k||(cov ops k m c).any (fun j=>wtB ops (m - (c+1)) j)
        · rw [hb] at hq; exact ih q hq
        · rw [hb,cond_true] at hq
          rcases List.mem_cons.1 hq with rfl | hq
          · refine ⟨by omega,?_⟩
            rcases (by simpa only [Bool.or_eq_true] using hb:wtB ops (m - (c+1)) k=true∨(cov ops k m c).any (fun j=>wtB ops (m - (c+1)) j)=true) with h1 | h1
            · unfold wtB at h1
              rw [ho] at h1
              obtain ⟨e,he,hbe,heq⟩:=waits_on h1
              rw [← heq]; exact hall e he hbe
            · obtain ⟨j,hj,h2⟩:=List.any_eq_true.1 h1
              obtain ⟨hjm,hjl⟩:=ih j hj
              unfold wtB at h2
              split at h2
              · rename_i oj hoj
                obtain ⟨e,he,hbe,heq⟩:=waits_on h2
                rw [← heq]; exact I.cl j oj hjm hoj (getD_of_true hjl true) e he hbe
              · cases h2
          · exact ih q hq
    have:=(key m (Nat.le_refl _) i (fr.ok.wait i k him hge hks)).2
    rw [getD_of_true this true] at hun
    cases hun
theorem quietO {o:Oper} (h:isQuietO o=true):∀ F:Tm,deferA o F=none:=fun F=>by
  unfold deferA
  split
  · rename_i c hc
    unfold isQuietO earlyA isCallO isAllocO at h
    rw [hc] at h
    cases h
  · rfl
theorem alloc_step {o:Oper} {F:Tm} {e d:Nat} (ha:isAllocO o=true) (hop:o.op=.alloc e) (hd:o.dst=some d) {K:Tm×Hp→Prop} (H:(evStep P call ops o F h).holds K) :
    (evStep P call ops o F h).holds fun r=>K r∧∃ cs,zeroA P e=some cs∧r.2=(newA cs h).2∧look d r.1.tm=.ptr h.nx 0:=by
  have hg:o.guard=none:=by
    unfold isAllocO at ha
    rw [hop,hd] at ha
    cases hg:o.guard with
    | none=>rfl
    | some _=>rw [hg] at ha; cases ha
  have e1:evStep P call ops o F h=(match zeroA P e with | some cs=>(putA F (some d) (newA cs h).1).bind fun F=>.ok (F,(newA cs h).2) | none=>.bad 84):=by
    unfold evStep guardA
    rw [hg]
    have hdf:deferA o F=none:=by unfold deferA; rw [hop]
    simp only [hdf,evOp,hop]
    cases zeroA P e with
    | none=>rfl
    | some cs=>simp only [hd]; rfl
  rw [e1] at H ⊢
  cases hz:zeroA P e with
  | none=>rw [hz] at H; exact H.elim
  | some cs =>
    rw [hz] at H
    simp only [putA] at H ⊢
    cases hb:Nat.blt d F.nt
    · rw [hb] at H; exact H.elim
    · rw [hb] at H
      refine ⟨H,cs,rfl,rfl,?_⟩
      show look d ((d,AV.ptr h.nx 0) :: F.tm)=_
      simp [look_cons]
theorem part_one (hcall:CallOk P call) (fr:Frs P call ops m h Fs) {Es:Env} {ws:World}
    (hn:∀ n bl E' a' w' listed,unl listed m≤0→ops.size≤n+m→Stepd P w0 G Es h ws E' h w'→InvQ P w0 G ops m h Fs bl listed E' w' a'→wpAny P .any ops Q n listed a' w') :
    ∀ (c n:Nat) {bl:Nat→Nat} {listed:Array Bool} {E:Env} {w:World} {a:Act},unl listed m≤c→c+(ops.size - m)≤n→Stepd P w0 G Es h ws E h w→InvQ P w0 G ops m h Fs bl listed E w a→wpAny P .any ops Q n listed a w
  | 0,n,bl,listed,E,w,a,hu,hcn,S,I=>hn n bl E a w listed hu (by have:=fr.ok.le; omega) S I
  | c+1,n,bl,listed,E,w,a,hu,hcn,S,I=>by
    by_cases hall0:∃ i,i<m∧listed.getD i true=false
    case neg =>
      refine hn n bl E a w listed ?_ (by have:=fr.ok.le; omega) S I
      have:∀ q,q≤m→unl listed q=0:=fun q=>by
        induction q with
        | zero=>intro _; rfl
        | succ q ih =>
          intro hq
          unfold unl
          rw [ih (by omega)]
          have:listed.getD q true=true:=by
            cases hl:listed.getD q true
            · exact absurd ⟨q,by omega,hl⟩ hall0
            · rfl
          rw [this]; rfl
      exact Nat.le_of_eq (this m (Nat.le_refl _))
    obtain ⟨i0,hi0,hun0⟩:=hall0
    have hms:=fr.ok.le
    obtain ⟨n,rfl⟩:∃ n',n=n'+1:=⟨n - 1,by omega⟩
    have hne:Region.ready .any ops listed≠[]:=fun hr=>by
      have:∀ i,i<m→listed.getD i true=true:=by
        intro i
        induction i using Nat.strongRecOn with
        | ind i ih =>
          intro hi
          cases hl:listed.getD i true
          · have ho:ops[i]?=some ops[i]:=Array.getElem?_eq_getElem (by omega)
            have:i ∈ Region.ready .any ops listed:=mem_ready.2 ⟨hl,_,ho,fun e he hb=>by
              have hlt:=fr.ok.top i _ ho e he hb
              exact listed_lt I.ls (by omega) (ih e.on hlt (by omega)) false⟩
            rw [hr] at this
            cases this
          · rfl
      rw [this i0 hi0] at hun0
      cases hun0
    refine ⟨fun hr=>absurd hr hne,fun k hk=>?_⟩
    have hkm:=I.ready_lt fr hi0 hun0 hk
    obtain ⟨hun,o,ho,hall⟩:=mem_ready.1 hk
    have hks:k<ops.size:=(Array.getElem?_eq_some_iff.1 ho).1
    obtain ⟨F1,hS⟩:=fr.st k o hkm ho
    obtain ⟨hnt,hdf⟩:=fr.same k (by omega)
    have hT:RelT E (only (o.looksAt ops) F1) a:=by
      refine ⟨I.sz.trans (hnt.symm.trans hS.nt.symm),fun t=>?_,by show RelD E F1.df _; rw [hS.df,hdf]; exact I.df⟩
      show Rel E (look t ((o.looksAt ops).map fun t=>(t,look t F1.tm))) _
      rw [look_only]
      split
      · rename_i ht; exact hS.le t E _ (I.looks fr hkm hk ho ht)
      · trivial
    have hcount:=unl_set hun m
    rw [if_pos hkm] at hcount
    have hgk:(listed.setIfInBounds k true).getD k true=true:=by
      rw [Array.getD_eq_getD_getElem?,Array.getElem?_setIfInBounds_self_of_lt (by rw [I.ls]; exact hks)]; rfl
    have fin:∀ {F2:Tm} {h2:Hp} {E2:Env} {v:Value} {w2:World},quietH h h2=true→Fs (k+1)=putQ o F1 h F2→Stepd P w E.mine E h w E2 h2 w2→RelT E2 F2 (a.put o.dst v) →
        (∀ e d,isAllocO o=true→o.op=.alloc e→o.dst=some d→∃ cs,zeroA P e=some cs∧h2=(newA cs h).2∧look d F2.tm=.ptr h.nx 0) →
        wpAny P .any ops Q n (listed.setIfInBounds k true) (a.put o.dst v) w2:=fun {F2 h2 E2 v w2} hqu hF hsm hT2 hal=>by
      have hs2:=hsm.under S.inv
      have S3:=S.inv.forget hs2 hqu
      have hcalm:=calm_rel S.inv hs2 hqu
      have hoth:∀ {t i:Nat} {oi:Oper},i<m→ops[i]?=some oi→oi.dst=some t→i≠k→(a.put o.dst v).tmps.getD t undef=a.tmps.getD t undef:=fun him hoi hdi hne=>put_other (fr.ok.alone him hkm hoi hdi ho (Ne.symm hne))
      have hset:∀ {i:Nat},i≠k→(listed.setIfInBounds k true).getD i true=listed.getD i true:=fun hne=>getD_set_ne true (Ne.symm hne)
      refine part_one hcall fr hn c n (bl:=fun i=>if i=k then E2.β h.nx else bl i) (by omega) (by omega) (S.trans S3) ⟨put_size.trans I.sz,by rw [put_defers]; exact I.df.mono S3.ext,by rw [Array.size_setIfInBounds]; exact I.ls,fun t i oi him hoi hdi hli=>?_,fun t hun'=>?_,fun i oi him hoi hli e he hb=>?_,fun i hmi his=>?_,fun i oi e d him hoi hai hopi hdi hli=>?_,fun i i' oi oi' him him' hoi hoi' hai hai' hli hli' heq=>?_⟩
      · by_cases hik:i=k
        · subst hik
          obtain rfl:oi=o:=Option.some.inj (hoi.symm.trans ho)
          rw [hF]
          unfold putQ
          rw [hdi]
          simp only [look_cons]
          have:Nat.beq t t=true:=by simp
          rw [this,cond_true]
          have:=hT2.tm t
          rw [hdi] at this
          exact hcalm _ _ this
        · rw [hoth him hoi hdi hik]
          rw [hset hik] at hli
          exact Rel.mono S3.ext _ _ (I.put t i oi him hoi hdi hli)
      · have hdk:o.dst≠some t:=fun e=>by
          have:=hun' k o hkm ho e
          rw [hgk] at this
          cases this
        rw [put_other hdk]
        refine Rel.mono S3.ext _ _ (I.old t fun i oi him hoi hdi=>?_)
        have hik:i≠k:=fun e=>by subst e; obtain rfl:oi=o:=Option.some.inj (hoi.symm.trans ho); exact hdk hdi
        have:=hun' i oi him hoi hdi
        rwa [hset hik] at this
      · by_cases hik:i=k
        · subst hik
          obtain rfl:oi=o:=Option.some.inj (hoi.symm.trans ho)
          exact getD_set_true (hall e he hb)
        · rw [hset hik] at hli
          exact getD_set_true (I.cl i oi him hoi hli e he hb)
      · rw [hset (by omega)]; exact I.suf i hmi his
      · by_cases hik:i=k
        · subst hik
          obtain rfl:oi=o:=Option.some.inj (hoi.symm.trans ho)
          obtain ⟨cs,hz,rfl,hlk⟩:=hal e d hai hopi hdi
          have hv:=hT2.tm d
          rw [hlk,hdi] at hv
          refine ⟨cs,hz,?_⟩
          rw [if_pos rfl,hdi]
          exact (held_new S.inv hsm hqu hv).1
        · rw [hset hik] at hli
          obtain ⟨cs,hz,hH⟩:=I.al i oi e d him hoi hai hopi hdi hli
          rw [if_neg hik,hoth him hoi hdi hik]
          exact ⟨cs,hz,hH.step hsm⟩
      · have far:∀ {j:Nat} {oj:Oper},j<m→ops[j]?=some oj→isAllocO oj=true→j≠k→listed.getD j true=true→isAllocO o=true→bl j≠E2.β h.nx:=fun {j oj} hjm hoj haj hjk hlj hao he=>by
          obtain ⟨e0,he0,d0,hd0⟩:∃ e0,o.op=.alloc e0∧∃ d0,o.dst=some d0:=by
            unfold isAllocO at hao
            split at hao
            · rename_i h1 _ h3; exact ⟨_,h1,_,h3⟩
            · cases hao
          obtain ⟨e1,he1,d1,hd1⟩:∃ e0,oj.op=.alloc e0∧∃ d0,oj.dst=some d0:=by
            unfold isAllocO at haj
            split at haj
            · rename_i h1 _ h3; exact ⟨_,h1,_,h3⟩
            · cases haj
          obtain ⟨cs,hz,rfl,hlk⟩:=hal e0 d0 hao he0 hd0
          have hv:=hT2.tm d0
          rw [hlk,hd0] at hv
          have h1:=(held_new S.inv hsm hqu hv).2
          obtain ⟨cs',_,hH⟩:=I.al j oj e1 d1 hjm hoj haj he1 hd1 hlj
          have h2:=hH.lt
          rw [he] at h2
          omega
        by_cases hik:i=k <;> by_cases hik':i'=k
        · rw [hik,hik']
        · rw [if_pos hik,if_neg hik'] at heq
          rw [hset hik'] at hli'
          subst hik
          obtain rfl:oi=o:=Option.some.inj (hoi.symm.trans ho)
          exact absurd heq.symm (far him' hoi' hai' hik' hli' hai)
        · rw [if_neg hik,if_pos hik'] at heq
          rw [hset hik] at hli
          subst hik'
          obtain rfl:oi'=o:=Option.some.inj (hoi'.symm.trans ho)
          exact absurd heq (far him hoi hai hik hli hai')
        · rw [if_neg hik,if_neg hik'] at heq
          rw [hset hik] at hli
          rw [hset hik'] at hli'
          exact I.inj i i' oi oi' him him' hoi hoi' hai hai' hli hli' heq
    unfold wpOp
    rw [ho]
    cases hao:isAllocO o
    · exact evStepQ_ok hcall (quietO (fr.ok.kind k o hkm ho)) hS.st S.inv.top hT fun F2 h2 E2 v w2 hk2 hs2 hT2=>fin hk2.1 hk2.2 hs2 hT2 fun e d h1=>by rw [hao] at h1; cases h1
    · obtain ⟨e0,he0,d0,hd0⟩:∃ e0,o.op=.alloc e0∧∃ d0,o.dst=some d0:=by
        have hao':=hao
        unfold isAllocO at hao'
        split at hao'
        · rename_i h1 _ h3; exact ⟨_,h1,_,h3⟩
        · cases hao'
      refine evStepQ_ok hcall (quietO (fr.ok.kind k o hkm ho)) (alloc_step hao he0 hd0 hS.st) S.inv.top hT fun F2 h2 E2 v w2 hk2 hs2 hT2=>fin hk2.1.1 hk2.1.2 hs2 hT2 fun e d _ h1 h2=>?_
      rw [he0] at h1
      rw [hd0] at h2
      cases h1
      cases h2
      exact hk2.2
end
end
section
variable {P:Program} {w0:World} {G:Nat→Prop} {Q:Exit→Act→World→Prop} {ops:Array Oper} {Fs:Nat→Tm} {call:FuncId→Spec} {h:Hp} {m:Nat} {bl:Nat→Nat}
theorem unl_zero {listed:Array Bool}:∀ {n:Nat},unl listed n≤0→∀ i,i<n→listed.getD i true=true
  | 0,_,i,hi=>by omega
  | n+1,hu,i,hi=>by
    unfold unl at hu
    by_cases hin:i=n
    · subst hin
      cases hl:listed.getD i true
      · rw [hl] at hu; simp at hu
      · rfl
    · exact unl_zero (n:=n) (by omega) i (by omega)
theorem part_two (hcall:CallOk P call) (ok:OkQ ops m) {K:Tm×Hp→Prop}:∀ (c n k:Nat) {listed:Array Bool} {F:Tm} {h:Hp} {E:Env} {w:World} {a:Act},ops.size≤k+c→m≤k→k≤ops.size→listed.size=ops.size→(∀ i,i<ops.size→listed.getD i true=Nat.blt i k) →
    (evList P call ops (ops.toList.drop k) F h).holds K→Inv P w0 G E h w→RelT E F a→Cont P w0 G E h w K (Q .normal)→ops.size≤n+k→wpAny P .any ops Q n listed a w:=by
  intro c
  induction c with
  | zero =>
    intro n k listed F h E w a hc hm hks hs hl H I hT hn hnk
    obtain rfl:k=ops.size:=by omega
    have hr:Region.ready .any ops listed=[]:=by
      cases hr:Region.ready .any ops listed with
      | nil=>rfl
      | cons j r =>
        have hj:j ∈ Region.ready .any ops listed:=by rw [hr]; exact List.mem_cons_self
        obtain ⟨hun,o,ho,_⟩:=mem_ready.1 hj
        have hjs:=(Array.getElem?_eq_some_iff.1 ho).1
        rw [hl j hjs,lt_blt hjs] at hun
        cases hun
    have hd:ops.toList.drop ops.size=[]:=List.drop_eq_nil_of_le (by simp)
    rw [hd] at H
    have hq:Q .normal a w:=hn _ _ _ _ _ H (Stepd.refl I) hT
    cases n with
    | zero=>exact ⟨hr,hq⟩
    | succ n=>exact ⟨fun _=>hq,fun j hj=>by rw [hr] at hj; cases hj⟩
  | succ c ih =>
    intro n k listed F h E w a hc hm hks hs hl H I hT hn hnk
    by_cases hke:k=ops.size
    · exact ih n k (by omega) hm hks hs hl H I hT hn hnk
    have hlt:k<ops.size:=by omega
    obtain ⟨n,rfl⟩:∃ n',n=n'+1:=⟨n - 1,by omega⟩
    have ho:ops[k]?=some ops[k]:=Array.getElem?_eq_getElem hlt
    have hself:Nat.blt k k=false:=by
      cases hb:Nat.blt k k
      · rfl
      · have:=blt_lt hb; omega
    have hkr:k ∈ Region.ready .any ops listed:=mem_ready.2 ⟨by rw [hl k hlt]; exact hself,_,ho,fun e he hb=>by
      have h1:=ok.top k _ ho e he hb
      exact listed_lt hs (by omega) (by rw [hl e.on (by omega)]; exact lt_blt h1) false⟩
    refine ⟨fun hr=>(by rw [hr] at hkr; cases hkr),fun j hj=>?_⟩
    have hjk:j=k:=by
      obtain ⟨hun,o,hoj,_⟩:=mem_ready.1 hj
      have hjs:=(Array.getElem?_eq_some_iff.1 hoj).1
      rw [hl j hjs] at hun
      have hge:k≤j:=by
        rcases Nat.lt_or_ge j k with h | h
        · rw [lt_blt h] at hun; cases hun
        · exact h
      rcases Nat.lt_or_ge k j with h | h
      · have:=rdy_of (S:=fun x=>Nat.blt x k) hj fun x hx=>by
          have hxs:x<ops.size:=by
            rw [← hs]
            rcases Nat.lt_or_ge x listed.size with h | h
            · exact h
            · rw [Array.getD_eq_getD_getElem?,Array.getElem?_eq_none h] at hx; cases hx
          have:=listed_lt hs hxs hx true
          rw [hl x hxs] at this
          exact this
        rw [ok.row k j hm h hjs] at this
        cases this
      · omega
    subst hjk
    have hdr:ops.toList.drop j=ops[j] :: ops.toList.drop (j+1):=by
      rw [List.drop_eq_getElem_cons (by simpa using hlt)]
      simp
    rw [hdr,evList_cons,RT.holds_bind] at H
    unfold wpOp
    rw [ho]
    refine evStep_ok hcall H I hT fun F' h' E' a' w' hk hs' hT'=>?_
    refine ih n (j+1) (by omega) (by omega) (by omega) (by rw [Array.size_setIfInBounds]; exact hs) (fun i hi=>?_) hk hs'.inv hT' (hn.step hs') (by omega)
    by_cases hij:i=j
    · subst hij
      rw [Array.getD_eq_getD_getElem?,Array.getElem?_setIfInBounds_self_of_lt (by omega)]
      exact (lt_blt (Nat.lt_succ_self i)).symm
    · rw [getD_set_ne true (Ne.symm hij),hl i hi]
      cases h1:Nat.blt i j <;> cases h2:Nat.blt i (j+1)
      · rfl
      · have:=blt_lt h2
        have h3:i<j:=by omega
        rw [lt_blt h3] at h1; cases h1
      · have:=blt_lt h1
        have h3:i<j+1:=by omega
        rw [lt_blt h3] at h2; cases h2
      · rfl
theorem adopt_ok {h0:Hp} {w:World} {a:Act} {K:Tm×Hp→Prop}:∀ (l:List Oper) (bl:Nat→Nat) (F:Tm) (h:Hp) (E:Env),(adoptQ P h0 l F h).holds K→Inv P w0 G E h w→RelT E F a →
    (∀ i o e d,l[i]?=some o→isAllocO o=true→o.op=.alloc e→o.dst=some d→∃ cs,zeroA P e=some cs∧Held w0 G E w (calmL h0 cs) (bl i) (a.tmps.getD d undef)) →
    (∀ i i' o o',l[i]?=some o→l[i']?=some o'→isAllocO o=true→isAllocO o'=true→bl i=bl i'→i=i') →
    ∃ F' h' E',K (F',h')∧Stepd P w0 G E h w E' h' w∧RelT E' F' a
  | [],bl,F,h,E,H,I,hT,_,_=>⟨F,h,E,H,Stepd.refl I,hT⟩
  | o :: l,bl,F,h,E,H,I,hT,hal,hinj=>by
    have hinj':∀ i i' o o',l[i]?=some o→l[i']?=some o'→isAllocO o=true→isAllocO o'=true→bl (i+1)=bl (i'+1)→i=i':=fun i i' o1 o2 h1 h2 h3 h4 h5=>by
      have:=hinj (i+1) (i'+1) o1 o2 (by simpa using h1) (by simpa using h2) h3 h4 h5
      omega
    have H':(bif isAllocO o then (match o.op,o.dst with
      | .alloc e,some d=>match zeroA P e with
        | some cs=>adoptQ P h0 l { F with tm:=(d,.ptr h.nx 0) :: F.tm } (newA (calmL h0 cs) h).2
        | none=>.bad 235
      | _,_=>.bad 236) else adoptQ P h0 l F h:RT (Tm×Hp)).holds K:=H
    cases ha:isAllocO o
    · rw [ha] at H'
      exact adopt_ok l (fun i=>bl (i+1)) F h E H' I hT (fun i o' e d ho=>hal (i+1) o' e d (by simpa using ho)) hinj'
    · rw [ha] at H'
      simp only [cond_true] at H'
      obtain ⟨e0,he0,d0,hd0⟩:∃ e0,o.op=.alloc e0∧∃ d0,o.dst=some d0:=by
        have ha':=ha
        unfold isAllocO at ha'
        split at ha'
        · rename_i h1 _ h3; exact ⟨_,h1,_,h3⟩
        · cases ha'
      rw [he0,hd0] at H'
      obtain ⟨cs,hz,hH⟩:=hal 0 o e0 d0 rfl ha he0 hd0
      simp only [hz] at H'
      obtain ⟨E1,S1,r1,hk1⟩:=I.adopt hH
      have hT1:RelT E1 { F with tm:=(d0,.ptr h.nx 0) :: F.tm } a:=by
        refine ⟨hT.sz,fun t=>?_,hT.df.mono S1.ext⟩
        simp only [look_cons]
        cases hb:Nat.beq d0 t
        · exact Rel.mono S1.ext _ _ (hT.tm t)
        · obtain rfl:=Nat.eq_of_beq_eq_true hb
          exact r1
      obtain ⟨F',h',E',k1,k2,k3⟩:=adopt_ok l (fun i=>bl (i+1)) _ _ E1 H' S1.inv hT1 (fun i o' e d ho hao' heo hdo=>by
        obtain ⟨cs',hz',hH'⟩:=hal (i+1) o' e d (by simpa using ho) hao' heo hdo
        refine ⟨cs',hz',hk1 _ _ _ (fun heq=>?_) hH'⟩
        have:=hinj (i+1) 0 o' o (by simpa using ho) rfl hao' ha heq
        omega) hinj'
      exact ⟨F',h',E',k1,S1.trans k2,k3⟩
theorem InvQ.done {listed:Array Bool} {E:Env} {w:World} {a:Act} (fr:Frs P call ops m h Fs) (I:InvQ P w0 G ops m h Fs bl listed E w a) (hall:∀ i,i<m→listed.getD i true=true):RelT E (Fs m) a:=by
  obtain ⟨h1,h2⟩:=fr.same m (Nat.le_refl _)
  refine ⟨I.sz.trans h1.symm,fun t=>?_,by rw [h2]; exact I.df⟩
  by_cases hw:∃ (j:Nat) (oj:Oper),j<m∧ops[j]?=some oj∧oj.dst=some t
  · obtain ⟨j,oj,hjm,hoj,hdj⟩:=hw
    exact fr.mono m (by omega) (Nat.le_refl _) (fun i oi h1 h2 hoi=>fr.ok.alone hjm h2 hoj hdj hoi (by omega)) E _ (I.put t j oj hjm hoj hdj (hall j hjm))
  · exact fr.mono m (Nat.zero_le _) (Nat.le_refl _) (fun i oi _ h2 hoi hdi=>hw ⟨i,oi,h2,hoi,hdi⟩) E _ (I.old t fun i oi him hoi hdi=>absurd ⟨i,oi,him,hoi,hdi⟩ hw)
theorem evReg_ok (hcall:CallOk P call) (hr:quietR ops=true) {F:Tm} {K:Tm×Hp→Prop} (H:(evReg P call ops F h).holds K) {E:Env} {w:World} {a:Act} (I:Inv P w0 G E h w) (hT:RelT E F a)
    (hn:Cont P w0 G E h w K (Q .normal)):wpAny P .any ops Q ops.size (Array.replicate ops.size false) a w:=by
  have ok:=okQ_ok hr
  unfold evReg at H
  rw [RT.holds_bind] at H
  generalize hm:leadQ ops.toList=m at H ok
  obtain ⟨Fs,g1,g2,g3⟩:=evQs_frames (ops.toList.take m) F H
  have hle:=ok.le
  have hlen:(ops.toList.take m).length=m:=by rw [List.length_take]; simp; omega
  have hget:∀ (i:Nat) (o:Oper),i<m→((ops.toList.take m)[i]?=some o↔ops[i]?=some o):=fun i o hi=>by
    rw [List.getElem?_take_of_lt hi,Array.getElem?_toList]
  have fr:Frs P call ops m h Fs:=⟨fun k o hk ho=>g2 k o ((hget k o hk).2 ho),ok⟩
  rw [hlen] at g3
  have hf:∀ (k:Nat),k<ops.size→(Array.replicate ops.size false).getD k true=false:=fun k hk=>by
    rw [Array.getD_eq_getD_getElem?,Array.getElem?_replicate,if_pos hk]; rfl
  have hf':∀ (k:Nat) (o:Oper),ops[k]?=some o→(Array.replicate ops.size false).getD k true=false:=fun k o ho=>hf k (Array.getElem?_eq_some_iff.1 ho).1
  refine part_one hcall fr (Es:=E) (ws:=w) (fun n bl E' a' w' listed hu hnm S' I'=>?_) m ops.size (bl:=fun _=>0) (unl_le _ _) (by omega) (Stepd.refl I)
    ⟨by rw [g1]; exact hT.sz,by rw [g1]; exact hT.df,by simp,fun t k o _ ho _ hl=>?_,fun t _=>by rw [g1]; exact hT.tm t,fun k o _ ho hl=>?_,fun k _ hk=>hf k hk,fun k o e d _ ho _ _ _ hl=>?_,fun k k' o o' _ _ ho _ _ _ hl=>?_⟩
  · have hall:=unl_zero hu
    have hT':=I'.done fr hall
    rw [RT.holds_bind] at g3
    obtain ⟨F2,h2,E2,k1,k2,k3⟩:=adopt_ok (ops.toList.take m) bl (Fs m) h E' g3 S'.inv hT'
      (fun i o e d ho hao heo hdo=>by
        have him:i<m:=by have:=(List.getElem?_eq_some_iff.1 ho).1; omega
        exact I'.al i o e d him ((hget i o him).1 ho) hao heo hdo (hall i him))
      (fun i i' o o' ho ho' hao hao' heq=>by
        have him:i<m:=by have:=(List.getElem?_eq_some_iff.1 ho).1; omega
        have him':i'<m:=by have:=(List.getElem?_eq_some_iff.1 ho').1; omega
        exact I'.inj i i' o o' him him' ((hget i o him).1 ho) ((hget i' o' him').1 ho') hao hao' (hall i him) (hall i' him') heq)
    refine part_two hcall ok ops.size n m (by omega) (Nat.le_refl _) hle I'.ls (fun i hi=>?_) k1 k2.inv k3 (hn.step (S'.trans k2)) hnm
    rcases Nat.lt_or_ge i m with h | h
    · rw [hall i h,lt_blt h]
    · rw [I'.suf i h hi]
      cases hb:Nat.blt i m
      · rfl
      · have:=blt_lt hb; omega
  · rw [hf' k o ho] at hl; cases hl
  · rw [hf' k o ho] at hl; cases hl
  · rw [hf' k o ho] at hl; cases hl
  · rw [hf' k o ho] at hl; cases hl
end
end
end Go.Proofs.YtbgmclbcjdbcmaaGreat
namespace Go.Proofs.YtbgmclbcjdbcmaaGreat
set_option linter.unusedSimpArgs false
set_option linter.unusedVariables false
open Go.RowKit
set_option maxRecDepth 10000
noncomputable section
def Ex.to:Ex→Exit
  | .normal=>.normal
  | .exit id=>.exit id
  | .ret=>.ret
def Post (P:Program) (w0:World) (G:Nat→Prop) (E:Env) (h:Hp) (w:World) (K:Out→Prop) (Q:Exit→Act→World→Prop):Prop :=
  ∀ ex F' h' E' a' w',K (ex,F',h')→Stepd P w0 G E h w E' h' w'→RelT E' F' a'→Q ex.to a' w'
theorem Post.step {P:Program} {w0 w w1:World} {G:Nat→Prop} {E E1:Env} {h h1:Hp} {K:Out→Prop} {Q:Exit→Act→World→Prop} (hp:Post P w0 G E h w K Q) (hs:Stepd P w0 G E h w E1 h1 w1):Post P w0 G E1 h1 w1 K Q :=
  fun ex F' h' E' a' w' hk hs' hT=>hp ex F' h' E' a' w' hk (hs.trans hs') hT
def BOk (P:Program) (c:Code) (sp:BSpec):Prop:=∀ F h K,(sp F h).holds K→∀ w0 G E w a Q,Inv P w0 G E h w→RelT E F a→Post P w0 G E h w K Q→c.wp P Q a w
def blocksOf (id:Nat):Code→List Code
  | .seq a b=>blocksOf id a ++ blocksOf id b
  | .cond _ a b=>blocksOf id a ++ blocksOf id b
  | .block j b=>(if j=id then [.block j b] else []) ++ blocksOf id b
  | .loop b=>blocksOf id b
  | _=>[]
def LamOk (P:Program) (Λ:FuncId→Nat→Option BSpec) (f:FuncId) (c:Code):Prop:=∀ id sp,Λ f id=some sp→∀ c' ∈ blocksOf id c,BOk P c' sp
def LamAll (P:Program) (Λ:FuncId→Nat→Option BSpec):Prop:=∀ f fn b,plainF P f=some (fn,b)→LamOk P Λ f b
def SoundF (P:Program) (g:FuncId) (sp:Spec):Prop:=∀ args h K,(sp args h).holds K→∀ w0 G E w vals,Inv P w0 G E h w→RelL E args vals →
  Calls P g vals.toArray w fun e w'=>∃ r h' v E',K (r,h')∧e=.returned v∧Stepd P w0 G E h w E' h' w'∧Rel E' r v
def GamOk (P:Program) (Γ:FuncId→Option Spec):Prop:=∀ g sp,Γ g=some sp→SoundF P g sp
section
variable {P:Program} {E:Env} {F:Tm} {h:Hp} {w w0:World} {G:Nat→Prop} {a:Act} {Γ:FuncId→Option Spec} {Λ:FuncId→Nat→Option BSpec}
theorem Inv.drew (I:Inv P w0 G E h w) (n:Nat):Stepd P w0 G E h w E h { w with drawn:=n } :=
  ⟨Ext.refl E,⟨⟨I.kpt.os,I.kpt.tape,I.kpt.output,I.kpt.size,I.kpt.block⟩,I.m,I.ng,I.gn,I.gnlt,I.live,I.nx,I.ob,I.own,I.inj,I.z,I.zob,I.vec,I.vinj⟩,fun _ _=>⟨Nat.le_refl _,fun _=>rfl⟩,fun _ _ _ hz=>.inl hz⟩
theorem look_zip:∀ (args:List AV) (s i:Nat),look i ((List.range' s args.length).zip args)=if s≤i∧i<s+args.length then (args[i - s]?).getD .any else .any
  | [],s,i=>by simp [look_nil]
  | x :: args,s,i=>by
    simp only [List.length_cons,List.range'_succ,List.zip_cons_cons,look_cons]
    rw [look_zip args (s+1) i]
    cases hb:Nat.beq s i
    · have hne:s≠i:=fun e=>by rw [e] at hb; simp at hb
      simp only [cond_false]
      by_cases hc:s+1≤i∧i<s+1+args.length
      · rw [if_pos hc,if_pos ⟨by omega,by omega⟩,show i - s=(i - (s+1))+1 by omega,List.getElem?_cons_succ]
      · rw [if_neg hc,if_neg (by omega)]
    · obtain rfl:=Nat.eq_of_beq_eq_true hb
      simp
theorem enterA_ok {fn:Func} {args:List AV} {vals:List Value} (hr:RelL E args vals) (hle:args.length≤fn.ntmps):RelT E (enterA fn args) { tmps:=vals.toArray ++ Array.replicate (fn.ntmps - vals.toArray.size) undef,defers:=[] }:=by
  have hl:=hr.length
  refine ⟨by simp [enterA]; omega,fun i=>?_,rfl⟩
  have hz:=look_zip args 0 i
  rw [← List.range_eq_range'] at hz
  simp only [enterA]
  rw [hz]
  by_cases hi:i<args.length
  · rw [if_pos ⟨Nat.zero_le _,by omega⟩,Nat.sub_zero]
    obtain ⟨v,hv,hrv⟩:=hr.get (List.getElem?_eq_getElem hi)
    rw [List.getElem?_eq_getElem hi,Option.getD_some,Array.getD_eq_getD_getElem?,Array.getElem?_append_left (by simpa [← hl] using hi)]
    simpa [hv] using hrv
  · rw [if_neg (by omega)]; exact trivial
theorem run_loadAt_asAddr {t:TypeId} {v u:Value} (hl:(Instr.loadAt t v).run P w=.ok u w):(do loadVar t (← asAddr v):Sem Value).run P w=.ok u w:=by
  cases v with
  | pointer ad =>
    cases ad with
    | some ad=>simpa [Instr.loadAt,Instr.sureAddr,asAddr] using hl
    | none=>simp [Instr.loadAt,Instr.sureAddr,stuck] at hl
  | _=>simp [Instr.loadAt,Instr.sureAddr,stuck] at hl
def rsOf (t:Array Value):ResultVar→Sem Value
  | .tmp x=>pure (t.getD x undef)
  | .cell x ty=>do loadVar ty (← asAddr (t.getD x undef))
theorem resA_ok {K:List AV→Prop}:∀ {rs:List ResultVar},(resA P F h rs).holds K→Inv P w0 G E h w→RelT E F a→∃ vs us,K vs∧RelL E vs us ∧
    (rs.mapM (m:=Sem) (rsOf a.tmps)).run P w=.ok us w
  | [],H,_,_=>⟨[],[],H,rfl,rfl⟩
  | .tmp t :: rs,H,I,hT=>by
    simp only [resA] at H
    rw [RT.holds_bind] at H
    obtain ⟨vs,us,h1,h2,h3⟩:=resA_ok H I hT
    refine ⟨_,a.tmps.getD t undef :: us,h1,⟨_,_,rfl,hT.tm t,h2⟩,?_⟩
    simp only [List.mapM_cons,rsOf,Sem.run_bind,Sem.run_pure,Result.andThen_ok,h3]
  | .cell x t :: rs,H,I,hT=>by
    simp only [resA] at H
    rw [RT.holds_bind] at H
    obtain ⟨av,u,g1,g2,g3⟩:=loadA_ok H I (hT.tm x)
    rw [RT.holds_bind] at g1
    obtain ⟨vs,us,h1,h2,h3⟩:=resA_ok g1 I hT
    refine ⟨_,u :: us,h1,⟨_,_,rfl,g3,h2⟩,?_⟩
    have:=run_loadAt_asAddr (g2 w (I.sees _))
    simp only [Sem.run_bind] at this
    simp only [List.mapM_cons,rsOf,Sem.run_bind,this,Sem.run_pure,Result.andThen_ok,h3]
theorem resultA_ok {K:AV×Hp→Prop} {fn:Func} (H:(resultA P fn F h).holds K) (I:Inv P w0 G E h w) (hT:RelT E F a):∃ r v,K (r,h)∧Rel E r v∧(results fn a.tmps).run P w=.ok v w:=by
  unfold resultA at H
  rw [RT.holds_bind] at H
  obtain ⟨vs,us,h1,h2,h3⟩:=resA_ok H I hT
  have hres:(results fn a.tmps).run P w=.ok (if h:us.toArray.size=1 then us.toArray[0] else .tuple us.toArray) w:=by
    show (do let vs ← fn.results.mapM (rsOf a.tmps); pure (if h:vs.size=1 then vs[0] else .tuple vs):Sem Value).run P w=_
    rw [Array.mapM_eq_mapM_toList]
    have:(List.toArray <$> List.mapM (m:=Sem) (rsOf a.tmps) fn.results.toList).run P w=.ok us.toArray w:=by
      show (List.mapM (m:=Sem) (rsOf a.tmps) fn.results.toList >>= fun l=>pure l.toArray:Sem _).run P w=_
      rw [Sem.run_bind,h3]
      rfl
    rw [Sem.run_bind,this]
    rfl
  split at h1
  · rename_i av
    obtain ⟨u,us',rfl,g1,g2⟩:=h2
    have g2':us'=[]:=g2
    subst g2'
    exact ⟨av,u,h1,g1,by rw [hres]; simp⟩
  · rename_i hne
    refine ⟨.tup vs,.tuple us.toArray,h1,⟨_,rfl,by simpa using h2⟩,?_⟩
    rw [hres]
    have hl:=h2.length
    rw [dif_neg]
    intro h0
    have:vs.length=1:=by rw [hl]; simpa using h0
    obtain ⟨x,rfl⟩:=List.length_eq_one_iff.1 this
    exact hne x rfl
theorem plainF_ok {f:FuncId} {fn:Func} {b:Code} (hp:plainF P f=some (fn,b)):P.funcs[f]?=some fn∧fn.body=some b:=by
  unfold plainF at hp
  split at hp
  · rename_i fn' hf
    split at hp
    · rename_i c hc
      cases hp; exact ⟨hf,hc⟩
    · cases hp
  · cases hp
def CodeOk (P:Program) (Γ:FuncId→Option Spec) (Λ:FuncId→Nat→Option BSpec) (n:Nat):Prop:=∀ f c F h K,(evC P Γ Λ n f c F h).holds K→LamOk P Λ f c→∀ w0 G E w a Q,Inv P w0 G E h w→RelT E F a→Post P w0 G E h w K Q→c.wp P Q a w
def RecOk (P:Program) (b:Code) (T:Tm→Hp→RT Out):Prop:=∀ F h K,(T F h).holds K→∀ w0 G E w a Q,Inv P w0 G E h w→RelT E F a→Post P w0 G E h w K Q→b.wp P Q a w
theorem runDf_ok (hng:noGor P=true) {rec:FuncId→Code→Tm→Hp→RT Out} {fn:Func} {tmps:Array Value} {R:Ending→World→Prop} (hrec:∀ g fn b,plainF P g=some (fn,b)→RecOk P b (rec g b)):∀ {df:List (FuncId×List AV)} {ds:List Deferred} {K:Hp→Prop} {E:Env} {h:Hp} {w:World},
    (runDf P rec df h).holds K→Inv P w0 G E h w→RelD E df ds→(∀ h' E' w',K h'→Stepd P w0 G E h w E' h' w'→∃ v,(results fn tmps).run P w'=.ok v w'∧R (.returned v) w')→Leaves P fn tmps R ds .returning w
  | [],ds,K,E,h,w,H,I,hD,hk=>by
    have:ds=[]:=hD
    subst this
    exact hk h E w H (Stepd.refl I)
  | (g,args) :: df,ds,K,E,h,w,H,I,⟨cap,av,ds',h1,h2,h3⟩,hk=>by
    subst h1
    unfold runDf at H
    split at H
    · exact H.elim
    rename_i gn b hp
    cases hle:Nat.ble args.length gn.ntmps
    · rw [hle] at H; exact H.elim
    rw [hle] at H
    simp only [cond_true] at H
    rw [RT.holds_bind] at H
    obtain ⟨hf,hb⟩:=plainF_ok hp
    refine leaves_cons (f:=g) (args:=(av.toList ++ cap.toList).toArray) (by simp) ?_ ?_
    · have harr:av ++ cap=(av.toList ++ cap.toList).toArray:=by apply Array.ext'; simp
      simp only [invoke]
      rw [callFunc_plain ⟨by rw [hp]; rfl,hng⟩,harr]
    · refine (callsD_of_wp (R:=fun e w'=>∃ v,e=.returned v∧Leaves P fn tmps R ds' .returning w') hf hb (hrec g gn b hp _ _ _ H w0 G E w _ _ I (enterA_ok h2 (Nat.le_of_ble_eq_true hle)) ?_)).mono ?_
      · intro ex F' h' E' a' w' hkx hs hT
        have fin:F'.df=[]→((resultA P gn F' h').bind fun y=>runDf P rec df y.2).holds K→a'.defers=[]∧∃ v,(results gn a'.tmps).run P w'=.ok v w'∧∃ v',Ending.returned v=.returned v'∧Leaves P fn tmps R ds' .returning w':=fun hdf hkx=>by
          rw [RT.holds_bind] at hkx
          obtain ⟨r,v,k1,k2,k3⟩:=resultA_ok hkx hs.inv hT
          have hd0:=hT.df
          rw [hdf] at hd0
          exact ⟨hd0,v,k3,v,rfl,runDf_ok hng hrec k1 hs.inv (h3.mono hs.ext) fun h2 E2 w2 hk2 hs2=>hk h2 E2 w2 hk2 (hs.trans hs2)⟩
        cases ex with
        | exit id=>exact hkx.elim
        | normal =>
          simp only at hkx
          split at hkx
          · rename_i e; cases e
          · rename_i _ hdf; exact fin (by first | exact hdf | assumption) hkx
          · exact hkx.elim
        | ret =>
          simp only at hkx
          split at hkx
          · rename_i e; cases e
          · rename_i _ hdf; exact fin (by first | exact hdf | assumption) hkx
          · exact hkx.elim
      · rintro e u' w' ⟨rfl,v,rfl,hl⟩
        exact hl
theorem bodyE_ok (hng:noGor P=true) {rec:FuncId→Code→Tm→Hp→RT Out} (hrec:∀ g fn b,plainF P g=some (fn,b)→RecOk P b (rec g b)) {f:FuncId} {fn:Func} {b:Code} (hp:plainF P f=some (fn,b)):SoundF P f (bodyE P rec f fn b):=by
  intro args h K H w0 G E w vals I hr
  unfold bodyE at H
  cases hle:Nat.ble args.length fn.ntmps
  · rw [hle] at H; exact H.elim
  rw [hle] at H
  simp only [cond_true] at H
  rw [RT.holds_bind] at H
  obtain ⟨hf,hb⟩:=plainF_ok hp
  refine calls_of_wp_defers hf hb (hrec f fn b hp _ _ _ H w0 G E w _ _ I (enterA_ok hr (Nat.le_of_ble_eq_true hle)) ?_)
  intro ex F' h' E' a' w' hk hs hT
  have fin:((runDf P rec F'.df h').bind fun h=>resultA P fn F' h).holds K→Leaves P fn a'.tmps (fun e w'=>∃ r h' v E',K (r,h')∧e=.returned v∧Stepd P w0 G E h w E' h' w'∧Rel E' r v) a'.defers .returning w':=fun hk=>by
    rw [RT.holds_bind] at hk
    refine runDf_ok hng hrec hk hs.inv hT.df fun h2 E2 w2 hk2 hs2=>?_
    obtain ⟨r,v,k1,k2,k3⟩:=resultA_ok hk2 hs2.inv (hT.mono hs2.ext)
    exact ⟨v,k3,r,h2,v,E2,k1,rfl,hs.trans hs2,k2⟩
  cases ex with
  | normal=>exact fin hk
  | ret=>exact fin hk
  | exit id=>exact hk.elim
theorem callE_ok (hng:noGor P=true) {n:Nat} (hc:CodeOk P Γ Λ n) (hΓ:GamOk P Γ) (hΛ:LamAll P Λ):CallOk P (callE P Γ (evC P Γ Λ n)):=by
  intro g args h K H
  unfold callE at H
  split at H
  · exact H.elim
  · rename_i fn b hp
    refine ⟨⟨by rw [hp]; rfl,hng⟩,fun w0 G E w vals I hr=>?_⟩
    split at H
    · rename_i sp hsp
      exact hΓ g sp hsp args h K H w0 G E w vals I hr
    · exact bodyE_ok hng (fun g fn b hp F h K H=>hc g b F h K H (hΛ g fn b hp)) hp args h K H w0 G E w vals I hr
theorem codeOk (hm:Fit P) (hΓ:GamOk P Γ) (hΛ:LamAll P Λ):∀ n,CodeOk P Γ Λ n ∧
    ∀ f b F h K,(evC P Γ Λ n f (.loop b) F h).holds K→LamOk P Λ f b→∀ w0 G E w a Q,Inv P w0 G E h w→RelT E F a→Post P w0 G E h w K Q→Code.rounds P b Q n a w
  | 0=>⟨fun f c F h K H=>by unfold evC at H; exact H.elim,fun f b F h K H=>by unfold evC at H; exact H.elim⟩
  | n+1=>by
    obtain ⟨ihc,ihl⟩:=codeOk hm hΓ hΛ n
    have hcall:=callE_ok hm.2 ihc hΓ hΛ
    have loop:∀ f b F h K,(evC P Γ Λ (n+1) f (.loop b) F h).holds K→LamOk P Λ f b→∀ w0 G E w a Q,Inv P w0 G E h w→RelT E F a→Post P w0 G E h w K Q→Code.rounds P b Q (n+1) a w:=by
      intro f b F h K H hL w0 G E w a Q I hT hp
      unfold evC at H
      simp only at H
      rw [RT.holds_bind] at H
      rw [rounds_succ]
      refine ihc f b F h _ H hL w0 G E w a _ I hT ?_
      intro ex F' h' E' a' w' hk hs hT'
      cases ex with
      | normal=>exact ihl f b F' h' K hk hL w0 G E' w' a' Q hs.inv hT' (hp.step hs)
      | exit id=>exact hp _ _ _ _ _ _ hk hs hT'
      | ret=>exact hp _ _ _ _ _ _ hk hs hT'
    refine ⟨fun f c F h K H hL w0 G E w a Q I hT hp=>?_,loop⟩
    cases c with
    | skip=>unfold evC at H; exact wp_skip (hp _ _ _ _ _ _ H (Stepd.refl I) hT)
    | ret=>unfold evC at H; exact wp_ret (hp _ _ _ _ _ _ H (Stepd.refl I) hT)
    | exit id=>unfold evC at H; exact wp_exit (hp _ _ _ _ _ _ H (Stepd.refl I) hT)
    | region id ops draw =>
      cases draw with
      | false =>
        unfold evC at H
        simp only at H
        rw [RT.holds_bind] at H
        exact wp_region_list (evList_ok hcall _ H I hT fun F' h' E' a' w' hk hs hT'=>hp _ _ _ _ _ _ hk hs hT')
      | true =>
        unfold evC at H
        simp only at H
        cases hqr:asRow Λ f id ops
        case true =>
          rw [hqr] at H
          simp only [cond_true] at H
          rw [RT.holds_bind] at H
          have hq:quietR ops=true:=by
            unfold asRow at hqr
            split at hqr
            · cases hqr
            · exact hqr
          have hd:=I.drew (w.drawn+1)
          exact Go.wp_mono (Q:=fun e a w=>e=.normal∧Q .normal a w) (wp_region_any hm.1 (evReg_ok hcall hq H hd.inv hT fun F' h' E' a' w' hk hs hT'=>⟨rfl,hp _ _ _ _ _ _ hk (hd.trans hs) hT'⟩)) (fun e a w hq=>by obtain ⟨rfl,hq⟩:=hq; exact hq)
        rw [hqr] at H
        simp only [cond_false] at H
        cases hns:Region.noSelect ops
        · rw [hns] at H; exact H.elim
        rw [hns] at H
        simp only [cond_true] at H
        rw [RT.holds_bind] at H
        have hd:=I.drew (w.drawn+1)
        refine Go.wp_mono (Q:=fun e a w=>e=.normal∧Q .normal a w) (wp_region_any hm.1 (wpL_any _ _ [] _ _ (evDrawn_ok erOf_ok hcall hns (fun _ _ _ _ _ hq=>by cases hq.1) _ H hd.inv hT .nil ?_))) (fun e a w hq=>by obtain ⟨rfl,hq⟩:=hq; exact hq)
        exact fun F' h' E' a' w' hk hs hT'=>⟨rfl,hp _ _ _ _ _ _ hk (hd.trans hs) hT'⟩
    | seq x y =>
      unfold evC at H
      simp only at H
      rw [RT.holds_bind] at H
      refine wp_seq (ihc f x F h _ H (fun id sp hs c' hc'=>hL id sp hs c' (List.mem_append_left _ hc')) w0 G E w a _ I hT ?_)
      intro ex F' h' E' a' w' hk hs hT'
      cases ex with
      | normal=>exact ihc f y F' h' K hk (fun id sp hs c' hc'=>hL id sp hs c' (List.mem_append_right _ hc')) w0 G E' w' a' Q hs.inv hT' (hp.step hs)
      | exit id=>exact hp _ _ _ _ _ _ hk hs hT'
      | ret=>exact hp _ _ _ _ _ _ hk hs hT'
    | cond c x y =>
      unfold evC at H
      simp only at H
      split at H
      · rename_i t
        split at H
        · rename_i kn b hl
          have hv:=hT.tm t
          rw [hl] at hv
          have hev:a.eval (.tmp t)=.bool b:=hv.1
          have hset:=setA_ok hT hl
          rcases brk_holds H with ⟨rfl,H2⟩ | ⟨rfl,H2⟩
          · exact wp_cond_true hev (ihc f x _ h K H2 (fun id sp hs c' hc'=>hL id sp hs c' (List.mem_append_left _ hc')) w0 G E w a Q I hset hp)
          · exact wp_cond_false hev (ihc f y _ h K H2 (fun id sp hs c' hc'=>hL id sp hs c' (List.mem_append_right _ hc')) w0 G E w a Q I hset hp)
        · exact H.elim
      · exact H.elim
    | block id b =>
      unfold evC at H
      simp only at H
      split at H
      · rename_i sp hsp
        exact hL id sp hsp (.block id b) (by simp [blocksOf]) F h K H w0 G E w a Q I hT hp
      · rw [RT.holds_bind] at H
        refine wp_block (ihc f b F h _ H (fun i sp hs c' hc'=>hL i sp hs c' (List.mem_append_right _ hc')) w0 G E w a _ I hT ?_)
        intro ex F' h' E' a' w' hk hs hT'
        cases ex with
        | normal=>exact hp _ _ _ _ _ _ hk hs hT'
        | ret=>exact hp _ _ _ _ _ _ hk hs hT'
        | exit j =>
          simp only at hk
          show Exit.inBlock id Q (.exit j) a' w'
          simp only [Exit.inBlock]
          cases hb:Nat.beq j id
          · rw [hb] at hk
            rw [if_neg (fun e=>by rw [e] at hb; simp at hb)]
            exact hp _ _ _ _ _ _ hk hs hT'
          · rw [hb] at hk
            rw [if_pos (Nat.eq_of_beq_eq_true hb)]
            exact hp _ _ _ _ _ _ hk hs hT'
    | loop b=>exact wp_loop_rounds (n+1) (loop f b F h K H hL w0 G E w a Q I hT hp)
    | rangeFunc _ _ _ _=>unfold evC at H; exact H.elim
    | scope _=>unfold evC at H; exact H.elim
    | label _=>unfold evC at H; exact H.elim
    | goto _=>unfold evC at H; exact H.elim
    | refuse _=>unfold evC at H; exact H.elim
theorem evF_ok (hm:Fit P) (hΓ:GamOk P Γ) (hΛ:LamAll P Λ) (n:Nat) (f:FuncId):SoundF P f (evF P Γ Λ n f):=by
  intro args h K H
  unfold evF at H
  split at H
  · exact H.elim
  · rename_i fn b hp
    exact bodyE_ok hm.2 (fun g fn b hp F h K H=>(codeOk hm hΓ hΛ n).1 g b F h K H (hΛ g fn b hp)) hp args h K H
end
end
end Go.Proofs.YtbgmclbcjdbcmaaGreat
namespace Go.Proofs.YtbgmclbcjdbcmaaGreat
set_option linter.unusedSimpArgs false
set_option linter.unusedVariables false
open Go.RowKit
set_option maxRecDepth 10000
noncomputable section
def ix (o:Nat):List Nat→Nat→Option Nat
  | [],_=>none
  | k :: r,i=>bif Nat.beq k o then some i else ix o r (i+1)
theorem ix_some:∀ {l:List Nat} {o s i:Nat},ix o l s=some i→s≤i∧l[i - s]?=some o
  | [],_,_,_,h=>by cases h
  | k :: r,o,s,i,h=>by
    simp only [ix] at h
    cases hb:Nat.beq k o
    · rw [hb] at h
      obtain ⟨h1,h2⟩:=ix_some (l:=r) h
      refine ⟨by omega,?_⟩
      rw [show i - s=(i - (s+1))+1 by omega]
      simpa using h2
    · rw [hb] at h
      cases h
      obtain rfl:=Nat.eq_of_beq_eq_true hb
      simp
mutual
def ren (os ks:List Nat) (g0:Nat) (gn:List (Nat×Nat×TypeId)):AV→AV
  | .ptr o off=>match ix o os 0 with | some i=>.ptr i off | none=>.any
  | .mp o=>match ix o os 0 with | some i=>.mp i | none=>.any
  | .sl kn es d (some (k,g))=>match ix k ks 0,lookG k gn with
    | some j,some (g',_)=>bif Nat.beq g g' then .sl kn es d (some (j,g0+j)) else .sl kn es d none
    | _,_=>.sl kn es d none
  | .fn f a c=>.fn f (renL os ks g0 gn a) (renL os ks g0 gn c)
  | .agg cs=>.agg (renL os ks g0 gn cs)
  | .tup vs=>.tup (renL os ks g0 gn vs)
  | .sl kn es d none=>.sl kn es d none
  | .any=>.any
  | .sc kn v=>.sc kn v
  | .ep kn es d j=>.ep kn es d j
  | .rsl kn o n len=>match ix o os 0 with | some i=>.rsl kn i n len | none=>.any
  | .rp kn o n i j=>match ix o os 0 with | some q=>.rp kn q n i j | none=>.any
  | .rw es d=>.rw es d
def renL (os ks:List Nat) (g0:Nat) (gn:List (Nat×Nat×TypeId)):List AV→List AV
  | []=>[]
  | x :: xs=>ren os ks g0 gn x :: renL os ks g0 gn xs
end
def obR (os ks:List Nat) (g0:Nat) (h:Hp):List Nat→Nat→List (Nat×List AV)
  | [],_=>[]
  | o :: r,i=>match lookO o h.ob with
    | some cs=>(i,renL os ks g0 h.gn cs) :: obR os ks g0 h r (i+1)
    | none=>obR os ks g0 h r (i+1)
def gnR (g0:Nat) (gn:List (Nat×Nat×TypeId)):List Nat→Nat→List (Nat×Nat×TypeId)
  | [],_=>[]
  | k :: r,j=>match lookG k gn with
    | some (_,e)=>(j,g0+j,e) :: gnR g0 gn r (j+1)
    | none=>gnR g0 gn r (j+1)
def Hp.ren (h:Hp) (os ks:List Nat) (g0 ep:Nat):Hp:=⟨obR os ks g0 h os 0,os.length,gnR g0 h.gn ks 0,ks.length,g0+ks.length,ep⟩
def Env.ren (E:Env) (os ks:List Nat) (g0:Nat):Env :=
  { β:=fun i=>E.β (os.getD i 0),live:=fun i=>∃ o,os[i]?=some o∧E.live o,Z:=E.Z,vc:=fun j=>E.vc (ks.getD j 0),gn:=fun j=>g0+j,ve:=fun j=>E.ve (ks.getD j 0),m:=ks.length,ng:=g0+ks.length }
section
variable {P:Program} {E:Env} {h:Hp} {w w0:World} {G:Nat→Prop} {os ks:List Nat} {g0:Nat}
mutual
theorem ren_rel (I:Inv P w0 G E h w):∀ (x:AV) (v:Value),Rel E x v→Rel (E.ren os ks g0) (ren os ks g0 h.gn x) v
  | .any,_,_=>trivial
  | .sc _ _,_,H=>H
  | .ep _ _ _ _,_,H=>H
  | .rw _ _,_,H=>H
  | .rsl kn o n len,v,⟨hl,ad,cap,g1,g2,g3,g4,g5⟩=>by
    simp only [ren]
    split
    · rename_i i hi
      obtain ⟨_,h1⟩:=ix_some hi
      simp only [Nat.sub_zero] at h1
      refine ⟨⟨o,h1,hl⟩,ad,cap,g1,g2,g3,g4,fun hn=>?_⟩
      simp only [Env.ren,List.getD_eq_getElem?_getD,h1,Option.getD_some]
      exact g5 hn
    · exact trivial
  | .rp kn o n i j,v,⟨hl,hv⟩=>by
    simp only [ren]
    split
    · rename_i q hi
      obtain ⟨_,h1⟩:=ix_some hi
      simp only [Nat.sub_zero] at h1
      refine ⟨⟨o,h1,hl⟩,?_⟩
      simp only [Env.ren,List.getD_eq_getElem?_getD,h1,Option.getD_some]
      exact hv
    · exact trivial
  | .ptr o off,v,⟨hl,hv⟩=>by
    simp only [ren]
    split
    · rename_i i hi
      obtain ⟨_,h1⟩:=ix_some hi
      simp only [Nat.sub_zero] at h1
      refine ⟨⟨o,h1,hl⟩,?_⟩
      simp only [Env.ren,List.getD_eq_getElem?_getD,h1,Option.getD_some]
      exact hv
    · exact trivial
  | .mp o,v,⟨hl,hv⟩=>by
    simp only [ren]
    split
    · rename_i i hi
      obtain ⟨_,h1⟩:=ix_some hi
      simp only [Nat.sub_zero] at h1
      refine ⟨⟨o,h1,hl⟩,?_⟩
      simp only [Env.ren,List.getD_eq_getElem?_getD,h1,Option.getD_some]
      exact hv
    · exact trivial
  | .sl kn es d none,v,H=>H
  | .sl kn es d (some (k,g)),v,⟨h1,hk,hg,hc⟩=>by
    simp only [ren]
    have hno:Rel (E.ren os ks g0) (.sl kn es d none) v:=⟨h1,trivial⟩
    split
    · rename_i j g' e hj hl
      cases hb:Nat.beq g g'
      · exact hno
      · obtain rfl:=Nat.eq_of_beq_eq_true hb
        obtain ⟨_,h2⟩:=ix_some hj
        simp only [Nat.sub_zero] at h2
        have hjl:=(List.getElem?_eq_some_iff.1 h2).1
        have hgn:=(I.gn k (by rw [← I.m]; exact hk)).symm.trans hl
        injection hgn with hgn
        have hg1:E.gn k=g:=congrArg Prod.fst hgn
        refine ⟨h1,hjl,by show g0+j<g0+ks.length; omega,fun _=>?_⟩
        simp only [Env.ren,List.getD_eq_getElem?_getD,h2,Option.getD_some]
        exact hc hg1
    · exact hno
  | .fn f a c,v,⟨a',c',h1,h2,h3⟩=>⟨a',c',h1,ren_relL I a _ h2,ren_relL I c _ h3⟩
  | .agg cs,v,⟨cs',h1,h2,h3⟩=>⟨cs',h1,ren_relL I cs _ h2,h3⟩
  | .tup vs,v,⟨vs',h1,h2⟩=>⟨vs',h1,ren_relL I vs _ h2⟩
theorem ren_relL (I:Inv P w0 G E h w):∀ (xs:List AV) (vs:List Value),RelL E xs vs→RelL (E.ren os ks g0) (renL os ks g0 h.gn xs) vs
  | [],_,H=>H
  | x :: xs,_,⟨v,vs',h1,h2,h3⟩=>⟨v,vs',h1,ren_rel I x v h2,ren_relL I xs vs' h3⟩
end
theorem lookO_obR:∀ (l:List Nat) (s i:Nat),lookO i (obR os ks g0 h l s)=if s≤i then (match l[i - s]? with | some o=>(lookO o h.ob).map (renL os ks g0 h.gn) | none=>none) else none
  | [],s,i=>by simp [obR,lookO_nil]
  | o :: r,s,i=>by
    have ih:=lookO_obR r (s+1) i
    have tail:s≠i→(if s+1≤i then (match r[i - (s+1)]? with | some o=>(lookO o h.ob).map (renL os ks g0 h.gn) | none=>none) else none)=if s≤i then (match (o :: r)[i - s]? with | some o=>(lookO o h.ob).map (renL os ks g0 h.gn) | none=>none) else none:=fun hne=>by
      by_cases hs:s+1≤i
      · rw [if_pos hs,if_pos (by omega),show i - s=(i - (s+1))+1 by omega,List.getElem?_cons_succ]
      · rw [if_neg hs,if_neg (by omega)]
    simp only [obR]
    split
    · rename_i cs hcs
      rw [lookO_cons]
      by_cases e:s=i
      · subst e; simp [hcs]
      · rw [if_neg e,ih,tail e]
    · rename_i hcs
      rw [ih]
      by_cases e:s=i
      · subst e; rw [if_neg (by omega),if_pos (Nat.le_refl _)]; simp [hcs]
      · rw [tail e]
theorem lookG_gnR {gn:List (Nat×Nat×TypeId)}:∀ (l:List Nat) (s j:Nat),lookG j (gnR g0 gn l s)=if s≤j then (match l[j - s]? with | some k=>(lookG k gn).map (fun p=>(g0+j,p.2)) | none=>none) else none
  | [],s,j=>by simp [gnR,lookG_nil]
  | k :: r,s,j=>by
    have ih:=lookG_gnR (gn:=gn) r (s+1) j
    have tail:s≠j→(if s+1≤j then (match r[j - (s+1)]? with | some k=>(lookG k gn).map (fun p=>(g0+j,p.2)) | none=>none) else none)=if s≤j then (match (k :: r)[j - s]? with | some k=>(lookG k gn).map (fun p=>(g0+j,p.2)) | none=>none) else none:=fun hne=>by
      by_cases hs:s+1≤j
      · rw [if_pos hs,if_pos (by omega),show j - s=(j - (s+1))+1 by omega,List.getElem?_cons_succ]
      · rw [if_neg hs,if_neg (by omega)]
    simp only [gnR]
    split
    · rename_i g e hk
      rw [lookG_cons]
      by_cases e:s=j
      · subst e; simp [hk]
      · rw [if_neg e,ih,tail e]
    · rename_i hk
      rw [ih]
      by_cases e:s=j
      · subst e; rw [if_neg (by omega),if_pos (Nat.le_refl _)]; simp [hk]
      · rw [tail e]
theorem Inv.ren (I:Inv P w0 G E h w) (ho:os.Nodup) (hk:ks.Nodup) (hkl:∀ k ∈ ks,k<h.nv) (ep:Nat):Inv P w0 G (E.ren os ks g0) (h.ren os ks g0 ep) w:=by
  have key:∀ {l:List Nat} {i:Nat},i<l.length→∃ o,l[i]?=some o∧l.getD i 0=o∧o ∈ l:=fun {l i} hi=>⟨l[i],List.getElem?_eq_getElem hi,by rw [List.getD_eq_getElem?_getD,List.getElem?_eq_getElem hi]; rfl,List.getElem_mem hi⟩
  have gd:∀ {l:List Nat} {i o:Nat},l[i]?=some o→l.getD i 0=o:=fun {l i o} hi=>by rw [List.getD_eq_getElem?_getD,hi]; rfl
  have ndo:∀ {l:List Nat},l.Nodup→∀ {i j o:Nat},l[i]?=some o→l[j]?=some o→i=j:=fun {l} hl {i j o} h1 h2=>by
    have hi:=(List.getElem?_eq_some_iff.1 h1).1
    exact (List.getElem?_inj hi hl).1 (h1.trans h2.symm)
  refine ⟨I.kpt,rfl,rfl,fun j hj=>?_,fun j hj=>?_,fun i=>?_,fun i hi=>?_,fun i cs hcs=>?_,fun i hi=>?_,fun i i' hi hi' e=>?_,I.z,fun i j hi=>?_,fun j hj=>?_,fun j j' b hj hj' hb hb'=>?_⟩
  · have hjl:j<ks.length:=hj
    obtain ⟨k,h1,h2,h3⟩:=key hjl
    have h4:lookG j (gnR g0 h.gn ks 0)=some (g0+j,E.ve k):=by
      rw [lookG_gnR]
      simp [h1,I.gn k (hkl k h3)]
    simpa [Hp.ren,Env.ren,List.getD_eq_getElem?_getD,h1] using h4
  · have hjl:j<ks.length:=hj
    show g0+j<g0+ks.length
    omega
  · show (∃ o,os[i]?=some o∧E.live o)↔(lookO i (obR os ks g0 h os 0)).isSome=true
    rw [lookO_obR]
    simp only [Nat.zero_le,if_true,Nat.sub_zero]
    cases hi:os[i]? with
    | none=>simp
    | some o=>simp [I.live o]
  · obtain ⟨o,h1,_⟩:=hi
    exact (List.getElem?_eq_some_iff.1 h1).1
  · have hcs':lookO i (obR os ks g0 h os 0)=some cs:=hcs
    rw [lookO_obR] at hcs'
    simp only [Nat.zero_le,if_true,Nat.sub_zero] at hcs'
    cases hi:os[i]? with
    | none=>rw [hi] at hcs'; cases hcs'
    | some o =>
      rw [hi] at hcs'
      cases hc:lookO o h.ob with
      | none=>simp [hc] at hcs'
      | some cs0 =>
        simp only [hc,Option.map_some,Option.some.injEq] at hcs'
        subst hcs'
        obtain ⟨vs,t,g1,g2,g3⟩:=I.ob o cs0 hc
        refine ⟨vs,t,?_,ren_relL I _ _ g2,g3⟩
        show w.heap[E.β (os.getD i 0)]?=_
        rw [gd hi]; exact g1
  · obtain ⟨o,h1,h2⟩:=hi
    show w0.heap.size≤E.β (os.getD i 0)∨G (E.β (os.getD i 0))
    rw [gd h1]; exact I.own o h2
  · obtain ⟨o,h1,h2⟩:=hi
    obtain ⟨o',h1',h2'⟩:=hi'
    have e':E.β (os.getD i 0)=E.β (os.getD i' 0):=e
    rw [gd h1,gd h1'] at e'
    obtain rfl:=I.inj o o' h2 h2' e'
    exact ndo ho h1 h1'
  · obtain ⟨o,h1,h2⟩:=hi
    show E.Z (E.β (os.getD i 0)) j=none
    rw [gd h1]; exact I.zob o j h2
  · have hjl:j<ks.length:=hj
    obtain ⟨k,h1,h2,h3⟩:=key hjl
    obtain ⟨sz,n,xs,g1,g2,g3,g4⟩:=I.vec k (hkl k h3)
    have g4':∀ b,(E.vc k).ownBlock=some b→(w0.heap.size≤b∨G b)∧(∀ i,(E.ren os ks g0).live i→(E.ren os ks g0).β i≠b)∧∀ j,E.Z b j=xs[j]?:=fun b hb=>by
      refine ⟨(g4 b hb).1,fun i hi=>?_,(g4 b hb).2.2⟩
      obtain ⟨o,h5,h6⟩:=hi
      show E.β (os.getD i 0)≠b
      rw [gd h5]; exact (g4 b hb).2.1 o h6
    refine ⟨sz,n,xs,?_,?_,g3,?_⟩
    · show sizeT P (E.ve (ks.getD j 0))=some sz
      rw [h2]; exact g1
    · show w.ownsRow 0 (E.ve (ks.getD j 0)) sz (E.vc (ks.getD j 0)) n xs
      rw [h2]; exact g2
    · show ∀ b,(E.vc (ks.getD j 0)).ownBlock=some b→_
      rw [h2]; exact g4'
  · obtain ⟨k,h1,h2,h3⟩:=key (show j<ks.length from hj)
    obtain ⟨k',h1',h2',h3'⟩:=key (show j'<ks.length from hj')
    have hb1:(E.vc (ks.getD j 0)).ownBlock=some b:=hb
    have hb2:(E.vc (ks.getD j' 0)).ownBlock=some b:=hb'
    rw [h2] at hb1
    rw [h2'] at hb2
    obtain rfl:=I.vinj k k' b (hkl k h3) (hkl k' h3') hb1 hb2
    exact ndo hk h1 h1'
end
end
end Go.Proofs.YtbgmclbcjdbcmaaGreat
namespace Go.Proofs.YtbgmclbcjdbcmaaGreat
set_option linter.unusedSimpArgs false
set_option linter.unusedVariables false
open Go.RowKit
set_option maxRecDepth 10000
noncomputable section
def bk (ks:List Nat) (m j:Nat):Nat:=bif Nat.blt j ks.length then ks.getD j 0 else m+(j - ks.length)
mutual
def bak (os ks:List Nat) (m ng mk:Nat) (gn:List (Nat×Nat×TypeId)):AV→AV
  | .ptr i off=>match os[i]? with | some o=>.ptr o off | none=>.any
  | .mp i=>match os[i]? with | some o=>.mp o | none=>.any
  | .sl kn es d (some (j,g))=>match lookG j gn with
    | some (g',_)=>bif Nat.beq g g'&&Nat.blt j mk then .sl kn es d (some (bk ks m j,ng+j)) else .sl kn es d none
    | _=>.sl kn es d none
  | .fn f a c=>.fn f (bakL os ks m ng mk gn a) (bakL os ks m ng mk gn c)
  | .agg cs=>.agg (bakL os ks m ng mk gn cs)
  | .tup vs=>.tup (bakL os ks m ng mk gn vs)
  | .sl kn es d none=>.sl kn es d none
  | .any=>.any
  | .sc kn v=>.sc kn v
  | .ep kn es d j=>.ep kn es d j
  | .rsl kn i n len=>match os[i]? with | some o=>.rsl kn o n len | none=>.any
  | .rp kn i n e j=>match os[i]? with | some o=>.rp kn o n e j | none=>.any
  | .rw es d=>.rw es d
def bakL (os ks:List Nat) (m ng mk:Nat) (gn:List (Nat×Nat×TypeId)):List AV→List AV
  | []=>[]
  | x :: xs=>bak os ks m ng mk gn x :: bakL os ks m ng mk gn xs
end
def bakO (os ks:List Nat) (m ng mk:Nat) (h':Hp):List Nat→Nat→List (Nat×List AV)
  | [],_=>[]
  | o :: r,i=>match lookO i h'.ob with
    | some cs=>(o,bakL os ks m ng mk h'.gn cs) :: bakO os ks m ng mk h' r (i+1)
    | none=>bakO os ks m ng mk h' r (i+1)
def bakG (ks:List Nat) (m ng:Nat) (gn:List (Nat×Nat×TypeId)):Nat→List (Nat×Nat×TypeId)
  | 0=>[]
  | j+1=>match lookG j gn with
    | some (_,e)=>(bk ks m j,ng+j,e) :: bakG ks m ng gn j
    | none=>bakG ks m ng gn j
def Hp.bak (h:Hp) (os ks:List Nat) (mk:Nat) (h':Hp):Hp :=
  ⟨bakO os ks h.nv h.ng mk h' os 0 ++ h.ob,h.nx,bakG ks h.nv h.ng h'.gn mk ++ h.gn,h.nv+(mk - ks.length),h.ng+mk,h.ep⟩
section
variable {P:Program} {E E':Env} {h h':Hp} {w w0 w':World} {G:Nat→Prop} {os ks:List Nat} {g0 mk ep:Nat}
theorem ndp {l:List Nat} (hl:l.Nodup) {i j o:Nat} (h1:l[i]?=some o) (h2:l[j]?=some o):i=j :=
  (List.getElem?_inj (List.getElem?_eq_some_iff.1 h1).1 hl).1 (h1.trans h2.symm)
theorem gdp {l:List Nat} {i o:Nat} (hi:l[i]?=some o):l.getD i 0=o:=by rw [List.getD_eq_getElem?_getD,hi]; rfl
theorem bk_lt {m j:Nat} (hj:j<ks.length):bk ks m j=ks.getD j 0:=by
  unfold bk
  rw [show Nat.blt j ks.length=true from Nat.ble_eq_true_of_le hj]
  rfl
theorem bk_ge {m j:Nat} (hj:ks.length≤j):bk ks m j=m+(j - ks.length):=by
  unfold bk
  have:Nat.blt j ks.length=false:=by
    cases hb:Nat.blt j ks.length
    · rfl
    · have:=Nat.le_of_ble_eq_true hb; omega
  rw [this]; rfl
theorem bk_inj {m:Nat} (hk:ks.Nodup) (hkl:∀ k ∈ ks,k<m) {i j:Nat} (e:bk ks m i=bk ks m j):i=j:=by
  have hm:∀ {i},i<ks.length→ks.getD i 0<m:=fun {i} hi=>by
    rw [List.getD_eq_getElem?_getD,List.getElem?_eq_getElem hi]; exact hkl _ (List.getElem_mem hi)
  rcases Nat.lt_or_ge i ks.length with hi | hi <;> rcases Nat.lt_or_ge j ks.length with hj | hj
  · rw [bk_lt hi,bk_lt hj] at e
    refine ndp hk (List.getElem?_eq_getElem hi) ?_
    rw [List.getElem?_eq_getElem hj]
    rw [List.getD_eq_getElem?_getD,List.getD_eq_getElem?_getD,List.getElem?_eq_getElem hi,List.getElem?_eq_getElem hj] at e
    simpa using e.symm
  · rw [bk_lt hi,bk_ge hj] at e; have:=hm hi; omega
  · rw [bk_ge hi,bk_lt hj] at e; have:=hm hj; omega
  · rw [bk_ge hi,bk_ge hj] at e; omega
theorem lookG_bakG {m ng:Nat} {gn:List (Nat×Nat×TypeId)} (hk:ks.Nodup) (hkl:∀ k ∈ ks,k<m):∀ (n:Nat),(∀ j,j<n→(lookG j gn).isSome=true)→(∀ j,j<n→lookG (bk ks m j) (bakG ks m ng gn n)=(lookG j gn).map fun p=>(ng+j,p.2))∧∀ k,(∀ j,j<n→bk ks m j≠k)→lookG k (bakG ks m ng gn n)=none
  | 0,_=>⟨fun j hj=>by omega,fun _ _=>rfl⟩
  | n+1,hs=>by
    obtain ⟨h1,h2⟩:=lookG_bakG hk hkl n fun j hj=>hs j (by omega)
    obtain ⟨p,hp⟩:=Option.isSome_iff_exists.1 (hs n (by omega))
    obtain ⟨g,e⟩:=p
    refine ⟨fun j hj=>?_,fun k hne=>?_⟩
    · simp only [bakG,hp]
      rw [lookG_cons]
      by_cases ej:n=j
      · subst ej; rw [if_pos rfl,hp]; rfl
      · rw [if_neg (fun e'=>ej (bk_inj hk hkl e')),h1 j (by omega)]
    · simp only [bakG,hp]
      rw [lookG_cons,if_neg (hne n (by omega)),h2 k fun j hj=>hne j (by omega)]
theorem lookG_append (k:Nat):∀ (a b:List (Nat×Nat×TypeId)),lookG k (a ++ b)=match lookG k a with | some x=>some x | none=>lookG k b
  | [],b=>rfl
  | (i,g) :: a,b=>by
    rw [List.cons_append,lookG_cons,lookG_cons]
    split
    · rfl
    · exact lookG_append k a b
theorem lookO_append (k:Nat):∀ (a b:List (Nat×List AV)),lookO k (a ++ b)=match lookO k a with | some x=>some x | none=>lookO k b
  | [],b=>rfl
  | (i,g) :: a,b=>by
    rw [List.cons_append,lookO_cons,lookO_cons]
    split
    · rfl
    · exact lookO_append k a b
theorem cnt_append (k:Nat):∀ (a b:List (Nat×List AV)),cnt k (a ++ b)=cnt k a+cnt k b
  | [],b=>by simp [cnt_nil]
  | (i,g) :: a,b=>by
    rw [List.cons_append,cnt_cons,cnt_cons,cnt_append k a b]
    split <;> omega
theorem cnt_pos:∀ {k:Nat} {a:List (Nat×List AV)} {x:List AV},lookO k a=some x→0<cnt k a
  | k,[],_,h=>by cases h
  | k,(i,g) :: a,x,h=>by
    rw [lookO_cons] at h
    rw [cnt_cons]
    split
    · omega
    · rename_i e; rw [if_neg e] at h; exact cnt_pos h
theorem lookO_bakO {m ng:Nat} (os0:List Nat):∀ (l:List Nat) (s:Nat),l.Nodup→(∀ i o,l[i]?=some o→(lookO (s+i) h'.ob).isSome=true) →
    (∀ i o,l[i]?=some o→lookO o (bakO os0 ks m ng mk h' l s)=(lookO (s+i) h'.ob).map (bakL os0 ks m ng mk h'.gn))∧∀ o,o ∉ l→lookO o (bakO os0 ks m ng mk h' l s)=none∧cnt o (bakO os0 ks m ng mk h' l s)=0
  | [],s,_,_=>⟨fun i o h=>by simp at h,fun _ _=>⟨rfl,rfl⟩⟩
  | p :: r,s,hn,hs=>by
    obtain ⟨hpr,hr⟩:=List.nodup_cons.1 hn
    obtain ⟨h1,h2⟩:=lookO_bakO os0 r (s+1) hr fun i o hi=>by
      have:=hs (i+1) o (by simpa using hi)
      rwa [show s+(i+1)=s+1+i by omega] at this
    obtain ⟨cs,hcs⟩:=Option.isSome_iff_exists.1 (hs 0 p rfl)
    rw [Nat.add_zero] at hcs
    refine ⟨fun i o hi=>?_,fun o ho=>?_⟩
    · simp only [bakO,hcs]
      rw [lookO_cons]
      cases i with
      | zero=>simp at hi; subst hi; rw [if_pos rfl,Nat.add_zero,hcs]; rfl
      | succ i =>
        have hi':r[i]?=some o:=by simpa using hi
        rw [if_neg (fun e:p=o=>hpr (e ▸ List.mem_of_getElem? hi')),h1 i o hi',show s+(i+1)=s+1+i by omega]
    · simp only [bakO,hcs]
      obtain ⟨ho1,ho2⟩:o≠p∧o ∉ r:=by simpa using ho
      rw [lookO_cons,cnt_cons,if_neg (fun e=>ho1 e.symm),if_neg (fun e=>ho1 e.symm)]
      exact h2 o ho2
def Env.bak (E:Env) (ks:List Nat) (mk ng:Nat) (E':Env):Env :=
  { β:=E.β,live:=E.live,Z:=E'.Z
    vc:=fun k=>if k<E.m then (match ix k ks 0 with | some j=>E'.vc j | none=>E.vc k) else E'.vc (k - E.m+ks.length)
    gn:=fun k=>if k<E.m then (match ix k ks 0 with | some j=>ng+j | none=>E.gn k) else ng+(k - E.m+ks.length)
    ve:=fun k=>if k<E.m then (match ix k ks 0 with | some j=>E'.ve j | none=>E.ve k) else E'.ve (k - E.m+ks.length)
    m:=E.m+(mk - ks.length),ng:=ng+mk }
theorem ix_mem:∀ {l:List Nat} {i k s:Nat},l.Nodup→l[i]?=some k→ix k l s=some (s+i)
  | [],_,_,_,_,h=>by simp at h
  | p :: r,i,k,s,hn,h=>by
    obtain ⟨hpr,hr⟩:=List.nodup_cons.1 hn
    simp only [ix]
    cases i with
    | zero=>simp at h; subst h; simp
    | succ i =>
      have hi:r[i]?=some k:=by simpa using h
      have hne:p≠k:=fun e=>hpr (e ▸ List.mem_of_getElem? hi)
      have hb:Nat.beq p k=false:=by cases hb:Nat.beq p k; rfl; exact absurd (Nat.eq_of_beq_eq_true hb) hne
      rw [hb]
      simp only [cond_false]
      rw [ix_mem hr hi,show s+1+i=s+(i+1) by omega]
theorem ix_none:∀ {l:List Nat} {k s:Nat},k ∉ l→ix k l s=none
  | [],_,_,_=>rfl
  | p :: r,k,s,h=>by
    obtain ⟨h1,h2⟩:k≠p∧k ∉ r:=by simpa using h
    have hb:Nat.beq p k=false:=by cases hb:Nat.beq p k; rfl; exact absurd (Nat.eq_of_beq_eq_true hb).symm h1
    simp only [ix,hb,cond_false]
    exact ix_none h2
theorem bak_bk (hk:ks.Nodup) (hkl:∀ k ∈ ks,k<E.m) {ng j:Nat}:(E.bak ks mk ng E').vc (bk ks E.m j)=E'.vc j∧(E.bak ks mk ng E').gn (bk ks E.m j)=ng+j∧(E.bak ks mk ng E').ve (bk ks E.m j)=E'.ve j:=by
  simp only [Env.bak]
  rcases Nat.lt_or_ge j ks.length with hj | hj
  · have hg:=List.getElem?_eq_getElem hj
    rw [bk_lt hj,gdp hg,if_pos (hkl _ (List.getElem_mem hj)),if_pos (hkl _ (List.getElem_mem hj)),if_pos (hkl _ (List.getElem_mem hj)),ix_mem hk hg]
    simp
  · rw [bk_ge hj,if_neg (by omega),if_neg (by omega),if_neg (by omega),show E.m+(j - ks.length) - E.m+ks.length=j by omega]
    exact ⟨rfl,rfl,rfl⟩
theorem bak_old {ng k:Nat} (hkm:k<E.m) (hkn:k ∉ ks):(E.bak ks mk ng E').vc k=E.vc k∧(E.bak ks mk ng E').gn k=E.gn k∧(E.bak ks mk ng E').ve k=E.ve k:=by
  simp only [Env.bak,if_pos hkm,ix_none hkn]
  exact ⟨trivial,trivial,trivial⟩
theorem bak_cases {k:Nat} (hkm:k<E.m+(mk - ks.length)) (hq:ks.length≤mk):(k<E.m∧k ∉ ks)∨∃ j,j<mk∧k=bk ks E.m j:=by
  by_cases h1:k<E.m
  · by_cases h2:k ∈ ks
    · obtain ⟨j,hj⟩:=List.mem_iff_getElem?.1 h2
      have hjl:=(List.getElem?_eq_some_iff.1 hj).1
      exact .inr ⟨j,by omega,by rw [bk_lt hjl,gdp hj]⟩
    · exact .inl ⟨h1,h2⟩
  · exact .inr ⟨k - E.m+ks.length,by omega,by rw [bk_ge (by omega)]; omega⟩
mutual
theorem bak_rel (I':Inv P w (E.ren os ks g0).mine E' h' w') (hx:Ext (E.ren os ks g0) E') (hk:ks.Nodup) (hkl:∀ k ∈ ks,k<E.m) (hmk:mk≤E'.m) (hq:ks.length≤mk) (hol:∀ o ∈ os,E.live o) (ng:Nat):∀ (x:AV) (v:Value),Rel E' x v→Rel (E.bak ks mk ng E') (bak os ks E.m ng mk h'.gn x) v
  | .any,_,_=>trivial
  | .sc _ _,_,H=>H
  | .ep _ _ _ _,_,H=>H
  | .rw _ _,_,H=>H
  | .rsl _ i _ _,v,⟨hl,ad,cap,g1,g2,g3,g4,g5⟩=>by
    simp only [bak]
    split
    · rename_i o ho
      have hlo:=hol o (List.mem_of_getElem? ho)
      have hb:=hx.β i ⟨o,ho,hlo⟩
      refine ⟨hlo,ad,cap,g1,g2,g3,g4,fun hn=>?_⟩
      rw [g5 hn,hb]
      simp only [Env.ren,Env.bak,gdp ho]
    · exact trivial
  | .rp _ i _ _ _,v,⟨hl,hv⟩=>by
    simp only [bak]
    split
    · rename_i o ho
      have hlo:=hol o (List.mem_of_getElem? ho)
      have hb:=hx.β i ⟨o,ho,hlo⟩
      refine ⟨hlo,?_⟩
      rw [hv,hb]
      simp only [Env.ren,Env.bak,gdp ho]
    · exact trivial
  | .ptr i off,v,⟨hl,hv⟩=>by
    simp only [bak]
    split
    · rename_i o ho
      have hlo:=hol o (List.mem_of_getElem? ho)
      have hb:=hx.β i ⟨o,ho,hlo⟩
      refine ⟨hlo,?_⟩
      rw [hv,hb]
      simp only [Env.ren,Env.bak,gdp ho]
    · exact trivial
  | .mp i,v,⟨hl,hv⟩=>by
    simp only [bak]
    split
    · rename_i o ho
      have hlo:=hol o (List.mem_of_getElem? ho)
      have hb:=hx.β i ⟨o,ho,hlo⟩
      refine ⟨hlo,?_⟩
      rw [hv,hb]
      simp only [Env.ren,Env.bak,gdp ho]
    · exact trivial
  | .sl kn es d none,v,H=>H
  | .sl kn es d (some (j,g)),v,⟨h1,hj,hg,hc⟩=>by
    simp only [bak]
    have hno:Rel (E.bak ks mk ng E') (.sl kn es d none) v:=⟨h1,trivial⟩
    split
    · rename_i g' e hl
      cases hb:Nat.beq g g'&&Nat.blt j mk
      · exact hno
      · simp only [Bool.and_eq_true] at hb
        obtain rfl:=Nat.eq_of_beq_eq_true hb.1
        have hjm:j<mk:=Nat.le_of_ble_eq_true hb.2
        have hgn:=(I'.gn j (by rw [← I'.m]; exact hj)).symm.trans hl
        injection hgn with hgn
        have hg1:E'.gn j=g:=congrArg Prod.fst hgn
        obtain ⟨b1,b2,b3⟩:=bak_bk (E:=E) (E':=E') (mk:=mk) hk hkl (ng:=ng) (j:=j)
        refine ⟨h1,?_,by show ng+j<ng+mk; omega,fun _=>?_⟩
        · show bk ks E.m j<E.m+(mk - ks.length)
          rcases Nat.lt_or_ge j ks.length with h | h
          · rw [bk_lt h,gdp (List.getElem?_eq_getElem h)]
            have:=hkl _ (List.getElem_mem h); omega
          · rw [bk_ge h]; omega
        · rw [b1]; exact hc hg1
    · exact hno
  | .fn f a c,v,⟨a',c',h1,h2,h3⟩=>⟨a',c',h1,bak_relL I' hx hk hkl hmk hq hol ng a _ h2,bak_relL I' hx hk hkl hmk hq hol ng c _ h3⟩
  | .agg cs,v,⟨cs',h1,h2,h3⟩=>⟨cs',h1,bak_relL I' hx hk hkl hmk hq hol ng cs _ h2,h3⟩
  | .tup vs,v,⟨vs',h1,h2⟩=>⟨vs',h1,bak_relL I' hx hk hkl hmk hq hol ng vs _ h2⟩
theorem bak_relL (I':Inv P w (E.ren os ks g0).mine E' h' w') (hx:Ext (E.ren os ks g0) E') (hk:ks.Nodup) (hkl:∀ k ∈ ks,k<E.m) (hmk:mk≤E'.m) (hq:ks.length≤mk) (hol:∀ o ∈ os,E.live o) (ng:Nat):∀ (xs:List AV) (vs:List Value),RelL E' xs vs→RelL (E.bak ks mk ng E') (bakL os ks E.m ng mk h'.gn xs) vs
  | [],_,H=>H
  | x :: xs,_,⟨v,vs',h1,h2,h3⟩=>⟨v,vs',h1,bak_rel I' hx hk hkl hmk hq hol ng x v h2,bak_relL I' hx hk hkl hmk hq hol ng xs vs' h3⟩
end
theorem Inv.bak (I:Inv P w0 G E h w) (hon:os.Nodup) (hol:∀ o ∈ os,E.live o) (hk:ks.Nodup) (hkl:∀ k ∈ ks,k<E.m) (hq:ks.length≤mk) (hmk:mk≤E'.m)
    (S:Stepd P w (E.ren os ks g0).mine (E.ren os ks g0) (h.ren os ks g0 ep) w E' h' w') :
    Stepd P w0 G E h w (E.bak ks mk h.ng E') (h.bak os ks mk h') w':=by
  have I':=S.inv
  have hx:=S.ext
  have hm0:=I.m
  have mine:∀ b,(E.ren os ks g0).mine b→(∃ o,o ∈ os∧E.β o=b)∨∃ k,k ∈ ks∧(E.vc k).ownBlock=some b:=fun b hb=>by
    rcases hb with ⟨i,⟨o,h1,h2⟩,h3⟩ | ⟨j,hj,hb⟩
    · left
      refine ⟨o,List.mem_of_getElem? h1,?_⟩
      have:E.β (os.getD i 0)=b:=h3
      rwa [gdp h1] at this
    · right
      have hj':j<ks.length:=hj
      have hb':(E.vc (ks.getD j 0)).ownBlock=some b:=hb
      rw [gdp (List.getElem?_eq_getElem hj')] at hb'
      exact ⟨_,List.getElem_mem hj',hb'⟩
  have mineG:∀ b,(E.ren os ks g0).mine b→w0.heap.size≤b∨G b:=fun b hb=>by
    rcases mine b hb with ⟨o,h1,rfl⟩ | ⟨k,h1,h2⟩
    · exact I.own o (hol o h1)
    · obtain ⟨_,_,_,_,_,_,g4⟩:=I.vec k (by rw [← I.m]; exact hkl k h1)
      exact (g4 b h2).1
  have notobj:∀ o,E.live o→o ∉ os→¬ (E.ren os ks g0).mine (E.β o):=fun o hl hn hb=>by
    rcases mine _ hb with ⟨o',h1,h2⟩ | ⟨k,h1,h2⟩
    · exact hn (I.inj o' o (hol o' h1) hl h2 ▸ h1)
    · obtain ⟨_,_,_,_,_,_,g4⟩:=I.vec k (by rw [← I.m]; exact hkl k h1)
      exact (g4 _ h2).2.1 o hl rfl
  have notvec:∀ k,k<E.m→k ∉ ks→∀ b,(E.vc k).ownBlock=some b→¬ (E.ren os ks g0).mine b:=fun k hkm hn b hb hmb=>by
    obtain ⟨_,_,_,_,_,_,g4⟩:=I.vec k (by rw [← I.m]; exact hkm)
    rcases mine _ hmb with ⟨o,h1,h2⟩ | ⟨k',h1,h2⟩
    · exact (g4 b hb).2.1 o (hol o h1) h2
    · exact hn (I.vinj k k' b (by rw [← I.m]; exact hkm) (by rw [← I.m]; exact hkl k' h1) hb h2 ▸ h1)
  have same:∀ b,b<w.heap.size→¬ (E.ren os ks g0).mine b→w'.heap[b]?=w.heap[b]?:=fun b hb hn=>I'.kpt.block b hb hn
  have liveE':∀ i o,os[i]?=some o→E'.live i∧E'.β i=E.β o:=fun i o hi=>by
    have hl:(E.ren os ks g0).live i:=⟨o,hi,hol o (List.mem_of_getElem? hi)⟩
    refine ⟨hx.live i hl,(hx.β i hl).trans ?_⟩
    show E.β (os.getD i 0)=E.β o
    rw [gdp hi]
  have zold:∀ b j v,b<w.heap.size→¬ (E.ren os ks g0).mine b→E'.Z b j=some v→E.Z b j=some v:=fun b j v hb hn hz=>by
    rcases S.zn b j v hz with h | h | h
    · exact h
    · omega
    · exact absurd h hn
  have hZ:∀ b j v,E.Z b j=some v→E'.Z b j=some v:=hx.Z
  have hmm:E'.m=h'.nv:=I'.m
  have hGs:∀ j,j<mk→(lookG j h'.gn).isSome=true:=fun j hj=>by rw [I'.gn j (by omega)]; rfl
  have hkl':∀ k ∈ ks,k<h.nv:=fun k hk'=>by rw [← I.m]; exact hkl k hk'
  obtain ⟨bg1,bg2⟩:=lookG_bakG (ng:=h.ng) hk hkl' mk hGs
  have hOs:∀ i o,os[i]?=some o→(lookO (0+i) h'.ob).isSome=true:=fun i o hi=>by
    rw [Nat.zero_add]; exact (I'.live i).1 (liveE' i o hi).1
  obtain ⟨bo1,bo2⟩:=lookO_bakO (ks:=ks) (m:=h.nv) (ng:=h.ng) (mk:=mk) (h':=h') os os 0 hon hOs
  have hext:Ext E (E.bak ks mk h.ng E'):=by
    refine ⟨fun _ h=>h,fun _ _=>rfl,hZ,Nat.le_add_right _ _,by rw [I.ng]; exact Nat.le_add_right _ _,fun k hkm=>?_⟩
    by_cases hn:k ∈ ks
    · obtain ⟨j,hj⟩:=List.mem_iff_getElem?.1 hn
      right
      simp only [Env.bak,if_pos hkm,ix_mem hk hj]
      rw [I.ng]; omega
    · obtain ⟨a1,a2,_⟩:=bak_old (mk:=mk) (E':=E') (ng:=h.ng) hkm hn
      exact .inl ⟨a1,a2⟩
  have hbr:∀ (xs:List AV) (vs:List Value),RelL E' xs vs→RelL (E.bak ks mk h.ng E') (bakL os ks h.nv h.ng mk h'.gn xs) vs:=fun xs vs hr=>by
    rw [← I.m]; exact bak_relL I' hx hk hkl hmk hq hol h.ng xs vs hr
  have partv:∀ j,j<mk→∀ b,(E'.vc j).ownBlock=some b→w.heap.size≤b∨(E.ren os ks g0).mine b:=fun j hj b hb=>by
    obtain ⟨_,_,_,_,_,_,g4⟩:=I'.vec j (by omega)
    exact (g4 b hb).1
  refine ⟨hext,⟨I.kpt.then I'.kpt mineG,by show E.m+(mk - ks.length)=h.nv+(mk - ks.length); rw [I.m],rfl,fun k hkn=>?_,fun k hkn=>?_,fun o=>?_,I.nx,fun o cs hcs=>?_,I.own,I.inj,I'.z,fun o j hlo=>?_,fun k hkn=>?_,fun k k' b hkn hkn' hb hb'=>?_⟩,fun o hlo=>?_,fun b j v hz=>?_⟩
  · -- stamps
    show lookG k (bakG ks h.nv h.ng h'.gn mk ++ h.gn)=_
    rw [lookG_append]
    rcases bak_cases (E:=E) (mk:=mk) (by rw [I.m]; exact hkn) hq with ⟨h1,h2⟩ | ⟨j,h1,rfl⟩
    · obtain ⟨a1,a2,a3⟩:=bak_old (mk:=mk) (E':=E') (ng:=h.ng) h1 h2
      rw [a2,a3,bg2 k fun j hj e=>?_]
      · exact I.gn k (by rw [← I.m]; exact h1)
      · rcases Nat.lt_or_ge j ks.length with hjl | hjl
        · rw [bk_lt hjl,gdp (List.getElem?_eq_getElem hjl)] at e
          exact h2 (e ▸ List.getElem_mem hjl)
        · rw [bk_ge hjl] at e; omega
    · obtain ⟨a1,a2,a3⟩:=bak_bk (E:=E) (E':=E') (mk:=mk) hk hkl (ng:=h.ng) (j:=j)
      have:=bg1 j h1
      rw [a2,a3]
      rw [← I.m] at this ⊢
      rw [this,I'.gn j (by omega)]
      rfl
  · rcases bak_cases (E:=E) (mk:=mk) (by rw [I.m]; exact hkn) hq with ⟨h1,h2⟩ | ⟨j,h1,rfl⟩
    · obtain ⟨a1,a2,a3⟩:=bak_old (mk:=mk) (E':=E') (ng:=h.ng) h1 h2
      rw [a2]
      have:=I.gnlt k (by rw [← I.m]; exact h1)
      show E.gn k<h.ng+mk
      omega
    · obtain ⟨a1,a2,a3⟩:=bak_bk (E:=E) (E':=E') (mk:=mk) hk hkl (ng:=h.ng) (j:=j)
      rw [a2]
      show h.ng+j<h.ng+mk
      omega
  · -- which objects
    show E.live o↔(lookO o (bakO os ks h.nv h.ng mk h' os 0 ++ h.ob)).isSome=true
    rw [lookO_append]
    by_cases ho:o ∈ os
    · obtain ⟨i,hi⟩:=List.mem_iff_getElem?.1 ho
      rw [bo1 i o hi]
      obtain ⟨cs,hcs⟩:=Option.isSome_iff_exists.1 (hOs i o hi)
      rw [hcs]
      simp [hol o ho]
    · rw [(bo2 o ho).1]
      exact I.live o
  · have hcs':lookO o (bakO os ks h.nv h.ng mk h' os 0 ++ h.ob)=some cs:=hcs
    rw [lookO_append] at hcs'
    by_cases ho:o ∈ os
    · obtain ⟨i,hi⟩:=List.mem_iff_getElem?.1 ho
      rw [bo1 i o hi,Nat.zero_add] at hcs'
      cases hc:lookO i h'.ob with
      | none =>
        have:=hOs i o hi
        rw [Nat.zero_add,hc] at this; cases this
      | some cs0 =>
        simp only [hc,Option.map_some,Option.some.injEq] at hcs'
        subst hcs'
        obtain ⟨vs,t,g1,g2,g3⟩:=I'.ob i cs0 hc
        refine ⟨vs,t,?_,hbr _ _ g2,g3⟩
        show w'.heap[E.β o]?=_
        rw [← (liveE' i o hi).2]; exact g1
    · rw [(bo2 o ho).1] at hcs'
      simp only at hcs'
      obtain ⟨vs,t,g1,g2,g3⟩:=I.ob o cs hcs'
      have hlo:E.live o:=(I.live o).2 (by rw [hcs']; rfl)
      exact ⟨vs,t,(same _ (I.live_lt hlo) (notobj o hlo ho)).trans g1,RelL.mono hext _ _ g2,g3⟩
  · show E'.Z (E.β o) j=none
    by_cases ho:o ∈ os
    · obtain ⟨i,hi⟩:=List.mem_iff_getElem?.1 ho
      rw [← (liveE' i o hi).2]
      exact I'.zob i j (liveE' i o hi).1
    · cases hz:E'.Z (E.β o) j with
      | none=>rfl
      | some v =>
        have:=zold _ _ _ (I.live_lt hlo) (notobj o hlo ho) hz
        rw [I.zob o j hlo] at this; cases this
  · -- slices
    rcases bak_cases (E:=E) (mk:=mk) (by rw [I.m]; exact hkn) hq with ⟨h1,h2⟩ | ⟨j,h1,rfl⟩
    · obtain ⟨a1,a2,a3⟩:=bak_old (mk:=mk) (E':=E') (ng:=h.ng) h1 h2
      rw [a1,a3]
      obtain ⟨sz,n,xs,g1,g2,g3,g4⟩:=I.vec k (by rw [← I.m]; exact h1)
      refine ⟨sz,n,xs,g1,owns_same g2 fun b hb=>same b (owns_lt g2 hb) (notvec k h1 h2 b hb),g3,fun b hb=>⟨(g4 b hb).1,(g4 b hb).2.1,fun j=>?_⟩⟩
      show E'.Z b j=xs[j]?
      rw [← (g4 b hb).2.2 j]
      cases hz:E.Z b j with
      | some v=>exact hZ b j v hz
      | none =>
        cases hz':E'.Z b j with
        | none=>rfl
        | some v =>
          have:=zold _ _ _ (owns_lt g2 hb) (notvec k h1 h2 b hb) hz'
          rw [hz] at this; cases this
    · obtain ⟨a1,a2,a3⟩:=bak_bk (E:=E) (E':=E') (mk:=mk) hk hkl (ng:=h.ng) (j:=j)
      rw [a1,a3]
      obtain ⟨sz,n,xs,g1,g2,g3,g4⟩:=I'.vec j (by omega)
      refine ⟨sz,n,xs,g1,g2,g3,fun b hb=>⟨?_,fun o hlo e=>?_,(g4 b hb).2.2⟩⟩
      · rcases (g4 b hb).1 with h | h
        · exact .inl (Nat.le_trans I.kpt.size h)
        · exact mineG b h
      · have e':E.β o=b:=e
        by_cases ho:o ∈ os
        · obtain ⟨i,hi⟩:=List.mem_iff_getElem?.1 ho
          exact (g4 b hb).2.1 i (liveE' i o hi).1 ((liveE' i o hi).2.trans e')
        · rcases (g4 b hb).1 with h | h
          · have:=I.live_lt hlo; omega
          · exact notobj o hlo ho (e' ▸ h)
  · have old:∀ k,k<E.m→k ∉ ks→∀ b,(E.vc k).ownBlock=some b→∀ j,j<mk→(E'.vc j).ownBlock≠some b:=fun k h1 h2 b hb j hj hbj=>by
      obtain ⟨_,_,_,_,g2,_⟩:=I.vec k (by rw [← I.m]; exact h1)
      rcases partv j hj b hbj with h | h
      · have:=owns_lt g2 hb; omega
      · exact notvec k h1 h2 b hb h
    rcases bak_cases (E:=E) (mk:=mk) (by rw [I.m]; exact hkn) hq with ⟨h1,h2⟩ | ⟨j,h1,rfl⟩ <;> rcases bak_cases (E:=E) (mk:=mk) (by rw [I.m]; exact hkn') hq with ⟨h1',h2'⟩ | ⟨j',h1',rfl⟩
    · rw [(bak_old (mk:=mk) (E':=E') (ng:=h.ng) h1 h2).1] at hb
      rw [(bak_old (mk:=mk) (E':=E') (ng:=h.ng) h1' h2').1] at hb'
      exact I.vinj k k' b (by rw [← I.m]; exact h1) (by rw [← I.m]; exact h1') hb hb'
    · rw [(bak_old (mk:=mk) (E':=E') (ng:=h.ng) h1 h2).1] at hb
      rw [(bak_bk (E:=E) (E':=E') (mk:=mk) hk hkl (ng:=h.ng) (j:=j')).1] at hb'
      exact absurd hb' (old k h1 h2 b hb j' h1')
    · rw [(bak_bk (E:=E) (E':=E') (mk:=mk) hk hkl (ng:=h.ng) (j:=j)).1] at hb
      rw [(bak_old (mk:=mk) (E':=E') (ng:=h.ng) h1' h2').1] at hb'
      exact absurd hb (old k' h1' h2' b hb' j h1)
    · rw [(bak_bk (E:=E) (E':=E') (mk:=mk) hk hkl (ng:=h.ng) (j:=j)).1] at hb
      rw [(bak_bk (E:=E) (E':=E') (mk:=mk) hk hkl (ng:=h.ng) (j:=j')).1] at hb'
      rw [I'.vinj j j' b (by omega) (by omega) hb hb']
  · have hv:ver o (h.bak os ks mk h')=h.ep+(cnt o (bakO os ks h.nv h.ng mk h' os 0)+cnt o h.ob):=by
      show h.ep+cnt o (bakO os ks h.nv h.ng mk h' os 0 ++ h.ob)=_
      rw [cnt_append]
    unfold ver at hv ⊢
    rw [hv]
    refine ⟨by omega,fun e=>?_⟩
    by_cases ho:o ∈ os
    · obtain ⟨i,hi⟩:=List.mem_iff_getElem?.1 ho
      have:=bo1 i o hi
      obtain ⟨cs,hcs⟩:=Option.isSome_iff_exists.1 (hOs i o hi)
      rw [hcs] at this
      have:=cnt_pos this
      omega
    · exact same _ (I.live_lt hlo) (notobj o hlo ho)
  · rcases S.zn b j v hz with h | h | h
    · exact .inl h
    · exact .inr (.inl (Nat.le_trans I.kpt.size h))
    · exact .inr (mineG b h)
end
end
end Go.Proofs.YtbgmclbcjdbcmaaGreat
namespace Go.Proofs.YtbgmclbcjdbcmaaGreat
set_option linter.unusedSimpArgs false
set_option linter.unusedVariables false
open Go.RowKit
set_option maxRecDepth 10000
noncomputable section
mutual
def strip:AV→AV
  | .ptr _ _=>.any
  | .mp _=>.any
  | .sl kn es d _=>.sl kn es d none
  | .fn f a c=>.fn f (stripL a) (stripL c)
  | .agg cs=>.agg (stripL cs)
  | .tup vs=>.tup (stripL vs)
  | .any=>.any
  | .sc kn v=>.sc kn v
  | .ep kn es d j=>.ep kn es d j
  | .rsl _ _ _ _=>.any
  | .rp _ _ _ _ _=>.any
  | .rw es d=>.rw es d
def stripL:List AV→List AV
  | []=>[]
  | x :: xs=>strip x :: stripL xs
end
mutual
theorem ren_strip (g0:Nat) (gn:List (Nat×Nat×TypeId)):∀ (x:AV),ren [] [] g0 gn x=strip x
  | .ptr _ _=>rfl
  | .mp _=>rfl
  | .sl _ _ _ none=>rfl
  | .sl _ _ _ (some (_,_))=>rfl
  | .fn f a c=>by simp only [ren,strip,ren_stripL g0 gn a,ren_stripL g0 gn c]
  | .agg cs=>by simp only [ren,strip,ren_stripL g0 gn cs]
  | .tup cs=>by simp only [ren,strip,ren_stripL g0 gn cs]
  | .any=>rfl
  | .sc _ _=>rfl
  | .ep _ _ _ _=>rfl
  | .rsl _ _ _ _=>rfl
  | .rp _ _ _ _ _=>rfl
  | .rw _ _=>rfl
theorem ren_stripL (g0:Nat) (gn:List (Nat×Nat×TypeId)):∀ (xs:List AV),renL [] [] g0 gn xs=stripL xs
  | []=>rfl
  | x :: xs=>by simp only [renL,stripL,ren_strip g0 gn x,ren_stripL g0 gn xs]
end
mutual
theorem bak_strip (m ng:Nat) (gn:List (Nat×Nat×TypeId)):∀ (x:AV),bak [] [] m ng 0 gn x=strip x
  | .ptr _ _=>rfl
  | .mp _=>rfl
  | .sl _ _ _ none=>rfl
  | .sl kn es d (some (j,g))=>by
    simp only [bak,strip]
    split
    · rename_i g' e _
      have:Nat.blt j 0=false:=rfl
      rw [this,Bool.and_false]; rfl
    · rfl
  | .fn f a c=>by simp only [bak,strip,bak_stripL m ng gn a,bak_stripL m ng gn c]
  | .agg cs=>by simp only [bak,strip,bak_stripL m ng gn cs]
  | .tup cs=>by simp only [bak,strip,bak_stripL m ng gn cs]
  | .any=>rfl
  | .sc _ _=>rfl
  | .ep _ _ _ _=>rfl
  | .rsl _ _ _ _=>rfl
  | .rp _ _ _ _ _=>rfl
  | .rw _ _=>rfl
theorem bak_stripL (m ng:Nat) (gn:List (Nat×Nat×TypeId)):∀ (xs:List AV),bakL [] [] m ng 0 gn xs=stripL xs
  | []=>rfl
  | x :: xs=>by simp only [bakL,stripL,bak_strip m ng gn x,bak_stripL m ng gn xs]
end
mutual
theorem strip_strip:∀ (x:AV),strip (strip x)=strip x
  | .ptr _ _=>rfl
  | .mp _=>rfl
  | .sl _ _ _ _=>rfl
  | .fn f a c=>by simp only [strip,strip_stripL a,strip_stripL c]
  | .agg cs=>by simp only [strip,strip_stripL cs]
  | .tup cs=>by simp only [strip,strip_stripL cs]
  | .any=>rfl
  | .sc _ _=>rfl
  | .ep _ _ _ _=>rfl
  | .rsl _ _ _ _=>rfl
  | .rp _ _ _ _ _=>rfl
  | .rw _ _=>rfl
theorem strip_stripL:∀ (xs:List AV),stripL (stripL xs)=stripL xs
  | []=>rfl
  | x :: xs=>by simp only [stripL,strip_strip x,strip_stripL xs]
end
mutual
def dull:AV→AV
  | .sc _ v=>.sc false v
  | .sl _ es d tip=>.sl false es d tip
  | .ep _ es d j=>.ep false es d j
  | .rsl _ o n len=>.rsl false o n len
  | .rp _ o n i j=>.rp false o n i j
  | .rw es d=>.rw es d
  | .fn f a c=>.fn f (dullL a) (dullL c)
  | .agg cs=>.agg (dullL cs)
  | .tup vs=>.tup (dullL vs)
  | .any=>.any
  | .ptr o off=>.ptr o off
  | .mp o=>.mp o
def dullL:List AV→List AV
  | []=>[]
  | x :: xs=>dull x :: dullL xs
end
mutual
theorem dull_rel {E:Env}:∀ (x:AV) (v:Value),Rel E x v→Rel E (dull x) v
  | .sc _ _,_,H=>H
  | .sl _ _ _ _,_,H=>H
  | .ep _ _ _ _,_,H=>H
  | .rsl _ _ _ _,_,H=>H
  | .rp _ _ _ _ _,_,H=>H
  | .rw _ _,_,H=>H
  | .fn f a c,v,⟨a',c',h1,h2,h3⟩=>⟨a',c',h1,dull_relL a _ h2,dull_relL c _ h3⟩
  | .agg cs,v,⟨cs',h1,h2,h3⟩=>⟨cs',h1,dull_relL cs _ h2,h3⟩
  | .tup vs,v,⟨vs',h1,h2⟩=>⟨vs',h1,dull_relL vs _ h2⟩
  | .any,_,H=>H
  | .ptr _ _,_,H=>H
  | .mp _,_,H=>H
theorem dull_relL {E:Env}:∀ (xs:List AV) (vs:List Value),RelL E xs vs→RelL E (dullL xs) vs
  | [],_,H=>H
  | x :: xs,_,⟨v,vs',h1,h2,h3⟩=>⟨v,vs',h1,dull_rel x v h2,dull_relL xs vs' h3⟩
end
mutual
theorem strip_rel {E:Env}:∀ (x:AV) (v:Value),Rel E x v→Rel E (strip x) v
  | .ptr _ _,_,_=>trivial
  | .mp _,_,_=>trivial
  | .sl _ _ _ _,_,⟨h,_⟩=>⟨h,trivial⟩
  | .fn f a c,v,⟨a',c',h1,h2,h3⟩=>⟨a',c',h1,strip_relL a _ h2,strip_relL c _ h3⟩
  | .agg cs,v,⟨cs',h1,h2,h3⟩=>⟨cs',h1,strip_relL cs _ h2,h3⟩
  | .tup vs,v,⟨vs',h1,h2⟩=>⟨vs',h1,strip_relL vs _ h2⟩
  | .any,_,H=>H
  | .sc _ _,_,H=>H
  | .ep _ _ _ _,_,H=>H
  | .rsl _ _ _ _,_,_=>trivial
  | .rp _ _ _ _ _,_,_=>trivial
  | .rw _ _,_,H=>H
theorem strip_relL {E:Env}:∀ (xs:List AV) (vs:List Value),RelL E xs vs→RelL E (stripL xs) vs
  | [],_,H=>H
  | x :: xs,_,⟨v,vs',h1,h2,h3⟩=>⟨v,vs',h1,strip_rel x v h2,strip_relL xs vs' h3⟩
end
def hp0:Hp:=⟨[],0,[],0,0,0⟩
def nilS:Sh→AV→AV
  | .sl es,.sc _ (.slice none 0 0)=>.sl false es (.l []) none
  | _,x=>x
def nilL:List Sh→List AV→List AV
  | s :: ss,x :: xs=>nilS s x :: nilL ss xs
  | _,xs=>xs
def nilA1 (ss:List Sh):AV→AV
  | .agg cs=>.agg (nilL ss cs)
  | x=>match ss with | [s]=>nilS s x | _=>x
def nilAs:List (List Sh)→List AV→List AV
  | ss :: r,x :: xs=>nilA1 ss x :: nilAs r xs
  | _,xs=>xs
theorem nilS_rel {E:Env} (s:Sh) (x:AV) (v:Value) (h:Rel E x v):Rel E (nilS s x) v:=by
  unfold nilS
  split
  · obtain ⟨rfl,_⟩:=h
    have h0:(D.l []).len=0:=by simp [D.len,D.toL,D.raw]
    exact ⟨⟨by rw [h0,Nat.zero_mul]; exact Nat.zero_le _,none,0,by rw [h0],by rw [h0]; exact Nat.le_refl _,Nat.zero_le _,fun _=>rfl,fun hn=>absurd h0 hn⟩,trivial⟩
  · exact h
theorem nilL_rel {E:Env}:∀ (ss:List Sh) (xs:List AV) (vs:List Value),RelL E xs vs→RelL E (nilL ss xs) vs
  | [],xs,_,h=>by cases xs <;> exact h
  | _ :: _,[],_,h=>h
  | s :: ss,x :: xs,_,⟨v,vs',h1,h2,h3⟩=>⟨v,vs',h1,nilS_rel s x v h2,nilL_rel ss xs vs' h3⟩
theorem nilA1_rel {E:Env} (ss:List Sh) (x:AV) (v:Value) (h:Rel E x v):Rel E (nilA1 ss x) v:=by
  unfold nilA1
  split
  · obtain ⟨cs,h1,h2,h3⟩:=h
    exact ⟨cs,h1,nilL_rel ss _ _ h2,h3⟩
  · split
    · exact nilS_rel _ _ _ h
    · exact h
theorem nilAs_rel {E:Env}:∀ (ss:List (List Sh)) (xs:List AV) (vs:List Value),RelL E xs vs→RelL E (nilAs ss xs) vs
  | [],xs,_,h=>by cases xs <;> exact h
  | _ :: _,[],_,h=>h
  | s :: ss,x :: xs,_,⟨v,vs',h1,h2,h3⟩=>⟨v,vs',h1,nilA1_rel s x v h2,nilAs_rel ss xs vs' h3⟩
def argS (P:Program) (f:FuncId):List (List Sh):=match P.funcs[f]? with | some fn=>fn.params.toList.map (shE P) | none=>[]
def args0 (P:Program) (f:FuncId) (args:List AV):List AV:=nilAs (argS P f) (dullL (stripL args))
theorem args0_rel {P:Program} {f:FuncId} {E:Env} {args:List AV} {vals:List Value} (h:RelL E args vals):RelL E (args0 P f args) vals:=nilAs_rel _ _ _ (dull_relL _ _ (strip_relL _ _ h))
mutual
def knowD:D→D
  | .i v=>.ki v | .b v=>.kb v | .s v=>.ks v
  | .l v=>.kl (knowDL v) | .kl v=>.kl (knowDL v) | .t v=>.t (knowDL v)
  | .n=>.n | .ki v=>.ki v | .kb v=>.kb v | .ks v=>.ks v
def knowDL:List D→List D
  | []=>[]
  | d :: ds=>knowD d :: knowDL ds
end
mutual
def deepK:D→Bool
  | .i _=>false | .b _=>false | .s _=>false | .l _=>false
  | .kl v=>deepKL v | .t v=>deepKL v
  | .n=>true | .ki _=>true | .kb _=>true | .ks _=>true
def deepKL:List D→Bool
  | []=>true
  | d :: ds=>deepK d&&deepKL ds
end
def deepKS (d:D):Bool:=deepKL d.raw
mutual
def allK:AV→Bool
  | .sc kn _=>kn
  | .sl kn _ d _=>bif kn then deepKS d else false
  | .agg cs=>allKL cs
  | _=>false
def allKL:List AV→Bool
  | []=>true
  | x :: xs=>bif allK x then allKL xs else false
end
mutual
def knowA:AV→AV
  | .sc _ v=>.sc true v
  | .sl _ es d tip=>.sl true es (knowD d) tip
  | .agg cs=>.agg (knowAL cs)
  | .tup vs=>.tup (knowAL vs)
  | .any=>.any
  | .ptr o off=>.ptr o off
  | .mp o=>.mp o
  | .ep kn es d j=>.ep kn es d j
  | .fn f a c=>.fn f a c
  | .rsl kn o n len=>.rsl kn o n len
  | .rp kn o n i j=>.rp kn o n i j
  | .rw es d=>.rw es d
def knowAL:List AV→List AV
  | []=>[]
  | x :: xs=>knowA x :: knowAL xs
end
theorem knowDL_map:∀ l:List D,knowDL l=l.map knowD
  | []=>rfl
  | _ :: l=>by simp only [knowDL,List.map_cons,knowDL_map l]
theorem knowD_toI:∀ d:D,(knowD d).toI=d.toI:=by intro d; cases d <;> rfl
theorem knowD_toB:∀ d:D,(knowD d).toB=d.toB:=by intro d; cases d <;> rfl
theorem knowD_toS:∀ d:D,(knowD d).toS=d.toS:=by intro d; cases d <;> rfl
theorem knowD_toL:∀ d:D,(knowD d).toL=d.toL.map knowD:=by
  intro d
  cases d <;> simp [knowD,D.toL,D.raw,knowDL_map,List.map_take]
theorem knowD_len (d:D):(knowD d).len=d.len:=by unfold D.len; rw [knowD_toL]; simp
theorem knowD_get (d:D) (i:Nat):(knowD d).get i=knowD (d.get i):=by
  unfold D.get
  rw [knowD_toL,List.getD_eq_getElem?_getD,List.getD_eq_getElem?_getD,List.getElem?_map]
  cases d.toL[i]? <;> rfl
theorem knowD_cell (d:D) (j:Nat):(knowD d).cell j=knowD (d.cell j):=by
  cases d with
  | t cs =>
    show (D.t (knowDL cs)).cell j=knowD ((D.t cs).cell j)
    simp only [D.cell,knowDL_map,List.getD_eq_getElem?_getD,List.getElem?_map]
    cases cs[j]? <;> rfl
  | _=>cases j <;> rfl
mutual
theorem know_lf {Z:Nat→Nat→Option Value}:∀ (s:Sh) (v:Value) (d:D),LF Z s v d→LF Z s v (knowD d)
  | .int _,v,d,H=>by simp only [LF] at H ⊢; rw [knowD_toI]; exact H
  | .bool,v,d,H=>by simp only [LF] at H ⊢; rw [knowD_toB]; exact H
  | .str,v,d,H=>by simp only [LF] at H ⊢; rw [knowD_toS]; exact H
  | .sl es,v,d,⟨h0,ad,cap,h1,h2,h3,h4,h5⟩=>by
    refine ⟨by rw [knowD_len]; exact h0,ad,cap,by rw [knowD_len]; exact h1,by rw [knowD_len]; exact h2,h3,h4,fun hn=>?_⟩
    rw [knowD_len] at hn
    obtain ⟨b,o,h6,h7⟩:=h5 hn
    refine ⟨b,o,h6,fun i hi=>?_⟩
    rw [knowD_len] at hi
    rw [knowD_get]
    exact know_el es _ _ _ _ (h7 i hi)
theorem know_el {Z:Nat→Nat→Option Value}:∀ (es:List Sh) (b o:Nat) (d:D) (j:Nat),EL Z es b o d j→EL Z es b o (knowD d) j
  | [],_,_,_,_,_=>trivial
  | s :: ss,b,o,d,j,⟨⟨v,h1,h2⟩,h3⟩=>⟨⟨v,h1,by rw [knowD_cell]; exact know_lf s v _ h2⟩,know_el ss _ _ _ _ h3⟩
end
mutual
theorem know_rel {E:Env}:∀ (x:AV) (v:Value),Rel E x v→Rel E (knowA x) v
  | .sc _ _,_,H=>H
  | .sl _ es d tip,v,⟨h1,h2⟩=>⟨know_lf (.sl es) v d h1,h2⟩
  | .agg cs,v,⟨cs',h1,h2,h3⟩=>⟨cs',h1,know_relL cs _ h2,h3⟩
  | .tup vs,v,⟨vs',h1,h2⟩=>⟨vs',h1,know_relL vs _ h2⟩
  | .any,_,H=>H
  | .ptr _ _,_,H=>H
  | .mp _,_,H=>H
  | .ep _ _ _ _,_,H=>H
  | .rsl _ _ _ _,_,H=>H
  | .rp _ _ _ _ _,_,H=>H
  | .rw _ _,_,H=>H
  | .fn _ _ _,_,H=>H
theorem know_relL {E:Env}:∀ (xs:List AV) (vs:List Value),RelL E xs vs→RelL E (knowAL xs) vs
  | [],_,H=>H
  | x :: xs,_,⟨v,vs',h1,h2,h3⟩=>⟨v,vs',h1,know_rel x v h2,know_relL xs vs' h3⟩
end
def pureS (P:Program) (f:FuncId) (F:List AV→RT AV):Spec:=fun args h=>(F (args0 P f args)).bind fun r=>.ok (bif allKL args then knowA r else r,h)
theorem hp_bak0 (h h':Hp):h.bak [] [] 0 h'=h:=by
  obtain ⟨a,b,c,d,e,f⟩:=h
  simp [Hp.bak,bakO,bakG]
mutual
def okS:Sh→D→Prop
  | .int _,_=>True
  | .bool,_=>True
  | .str,_=>True
  | .sl es,d=>d.len*szB es≤room∧∀ i,i<d.len→okE es (d.get i) 0
def okE:List Sh→D→Nat→Prop
  | [],_,_=>True
  | s :: ss,d,j=>okS s (d.cell j)∧okE ss d (j+1)
end
mutual
theorem ok_lf {Z:Nat→Nat→Option Value}:∀ (s:Sh) (v:Value) (d:D),LF Z s v d→okS s d
  | .int _,_,_,_=>trivial
  | .bool,_,_,_=>trivial
  | .str,_,_,_=>trivial
  | .sl es,v,d,⟨h0,_,_,_,_,_,_,h5⟩=>⟨h0,fun i hi=>by
      obtain ⟨b,o,_,h7⟩:=h5 (by omega)
      exact ok_el es _ _ _ _ (h7 i hi)⟩
theorem ok_el {Z:Nat→Nat→Option Value}:∀ (es:List Sh) (b o:Nat) (d:D) (j:Nat),EL Z es b o d j→okE es d j
  | [],_,_,_,_,_=>trivial
  | s :: ss,b,o,d,j,⟨⟨v,_,h2⟩,h3⟩=>⟨ok_lf s v _ h2,ok_el ss _ _ _ _ h3⟩
end
mutual
def okA:AV→Prop
  | .sl _ es d _=>okS (.sl es) d
  | .agg cs=>okL cs
  | .tup vs=>okL vs
  | _=>True
def okL:List AV→Prop
  | []=>True
  | x :: xs=>okA x∧okL xs
end
mutual
theorem ok_rel {E:Env}:∀ (x:AV) (v:Value),Rel E x v→okA x
  | .sl _ es d _,v,⟨h,_⟩=>ok_lf (.sl es) v d h
  | .agg cs,_,⟨cs',_,h,_⟩=>ok_relL cs _ h
  | .tup cs,_,⟨cs',_,h⟩=>ok_relL cs _ h
  | .any,_,_=>trivial
  | .sc _ _,_,_=>trivial
  | .ptr _ _,_,_=>trivial
  | .mp _,_,_=>trivial
  | .ep _ _ _ _,_,_=>trivial
  | .rsl _ _ _ _,_,_=>trivial
  | .rp _ _ _ _ _,_,_=>trivial
  | .rw _ _,_,_=>trivial
  | .fn _ _ _,_,_=>trivial
theorem ok_relL {E:Env}:∀ (xs:List AV) (vs:List Value),RelL E xs vs→okL xs
  | [],_,_=>trivial
  | x :: xs,_,⟨v,vs',_,h2,h3⟩=>⟨ok_rel x v h2,ok_relL xs vs' h3⟩
end
def Le (x y:AV):Prop:=∀ E v,Rel E x v→Rel E y v
theorem Le.refl (x:AV):Le x x:=fun _ _ h=>h
theorem pureS_ok2 {P:Program} {f:FuncId} {sp:Spec} (hs:SoundF P f sp) {F:List AV→RT AV} (hF:∀ args K,okL args→(F args).holds K→∃ args',(∀ E vs,RelL E args vs→RelL E args' vs)∧(sp args' hp0).holds fun x=>∃ y,Le (strip x.1) y∧K y):SoundF P f (pureS P f F):=by
  intro args h K H w0 G E w vals I hr
  unfold pureS at H
  rw [RT.holds_bind] at H
  obtain ⟨args',hle,h1⟩:=hF _ _ (ok_relL _ _ (args0_rel hr)) H
  have I2:=(I.ren (os:=[]) (ks:=[]) (g0:=0) .nil .nil (by simp) 0).top
  have hr2:=ren_relL (os:=[]) (ks:=[]) (g0:=0) I _ _ hr
  rw [ren_stripL] at hr2
  refine (hs _ _ _ h1 w _ _ w vals I2 (hle _ _ (nilAs_rel _ _ _ (dull_relL _ _ hr2)))).mono ?_
  rintro e w' ⟨r,h',v,E',hK,rfl,S,hv⟩
  have S3:=Inv.bak (mk:=0) I .nil (by simp) .nil (by simp) (Nat.le_refl _) (Nat.zero_le _) S
  rw [hp_bak0] at S3
  have hv3:=bak_rel (h':=h') S.inv S.ext (mk:=0) .nil (by simp) (Nat.zero_le _) (Nat.le_refl _) (by simp) h.ng r v hv
  rw [bak_strip] at hv3
  obtain ⟨y,hy,hK⟩:=hK
  refine ⟨_,h,v,_,hK,rfl,S3,?_⟩
  cases allKL args
  · exact hy _ _ hv3
  · exact know_rel _ _ (hy _ _ hv3)
theorem pureS_ok {P:Program} {f:FuncId} {sp:Spec} (hs:SoundF P f sp) {F:List AV→RT AV} (hF:∀ args K,okL args→(F args).holds K→(sp args hp0).holds fun x=>∃ y,Le (strip x.1) y∧K y):SoundF P f (pureS P f F) :=
  pureS_ok2 hs fun args K ho H=>⟨args,fun _ _ h=>h,hF args K ho H⟩
theorem pureS_direct {P:Program} {f:FuncId} {F:List AV→RT AV} (hF:∀ args K,(F args).holds K→∀ w0 G E h w vals,Inv P w0 G E h w→RelL E args vals→Calls P f vals.toArray w fun e w'=>∃ r v E',K r∧e=.returned v∧Stepd P w0 G E h w E' h w'∧Rel E' r v):SoundF P f (pureS P f F):=by
  intro args h K H w0 G E w vals I hr
  unfold pureS at H
  rw [RT.holds_bind] at H
  refine (hF _ _ H w0 G E h w vals I (args0_rel hr)).mono ?_
  rintro e w' ⟨r,v,E',hK,rfl,hS,hv⟩
  refine ⟨_,h,v,E',hK,rfl,hS,?_⟩
  cases allKL args
  · exact hv
  · exact know_rel _ _ hv
def treeF (sp:Spec) (args:List AV):RT AV:=(sp args hp0).bind fun x=>.ok (strip x.1)
theorem pureS_tree {P:Program} {f:FuncId} {sp:Spec} (hs:SoundF P f sp) {F:List AV→RT AV} (hF:∀ args K,okL args→(F args).holds K→(treeF sp args).holds fun r=>∃ y,Le r y∧K y):SoundF P f (pureS P f F) :=
  pureS_ok hs fun args K ho H=>by have:=hF args K ho H; unfold treeF at this; rw [RT.holds_bind] at this; exact this
theorem pureS_tree2 {P:Program} {f:FuncId} {sp:Spec} (hs:SoundF P f sp) {F:List AV→RT AV} (hF:∀ args K,okL args→(F args).holds K→∃ args',(∀ E vs,RelL E args vs→RelL E args' vs)∧(treeF sp args').holds fun r=>∃ y,Le r y∧K y):SoundF P f (pureS P f F) :=
  pureS_ok2 hs fun args K ho H=>by
    obtain ⟨args',h1,h2⟩:=hF args K ho H
    refine ⟨args',h1,?_⟩
    unfold treeF at h2
    rw [RT.holds_bind] at h2
    exact h2
theorem le_int {kn kn':Bool} {k:IntKind} {m n:Int} (h:m=n):Le (.sc kn (.int k m)) (.sc kn' (.int k n)):=fun E v hv=>by subst h; exact hv
theorem le_bool {kn kn':Bool} {m n:Bool} (h:m=n):Le (.sc kn (.bool m)) (.sc kn' (.bool n)):=fun E v hv=>by subst h; exact hv
theorem le_str {kn kn':Bool} {m n:ByteArray} (h:m=n):Le (.sc kn (.string m)) (.sc kn' (.string n)):=fun E v hv=>by subst h; exact hv
def eqEl:List Sh→D→D→Nat→Prop
  | [],_,_,_=>True
  | .int _ :: ss,d,e,j=>(d.cell j).toI=(e.cell j).toI∧eqEl ss d e (j+1)
  | .bool :: ss,d,e,j=>(d.cell j).toB=(e.cell j).toB∧eqEl ss d e (j+1)
  | .str :: ss,d,e,j=>(d.cell j).toS=(e.cell j).toS∧eqEl ss d e (j+1)
  | .sl _ :: ss,d,e,j=>d.cell j=e.cell j∧eqEl ss d e (j+1)
theorem el_eq {Z:Nat→Nat→Option Value}:∀ {es:List Sh} {b o:Nat} {d e:D} {j:Nat},eqEl es d e j→EL Z es b o d j→EL Z es b o e j
  | [],_,_,_,_,_,_,_=>trivial
  | .int _ :: ss,_,_,_,_,_,⟨h1,h2⟩,⟨⟨v,g1,g2⟩,g3⟩=>⟨⟨v,g1,by simp only [LF] at g2 ⊢; rw [← h1]; exact g2⟩,el_eq h2 g3⟩
  | .bool :: ss,_,_,_,_,_,⟨h1,h2⟩,⟨⟨v,g1,g2⟩,g3⟩=>⟨⟨v,g1,by simp only [LF] at g2 ⊢; rw [← h1]; exact g2⟩,el_eq h2 g3⟩
  | .str :: ss,_,_,_,_,_,⟨h1,h2⟩,⟨⟨v,g1,g2⟩,g3⟩=>⟨⟨v,g1,by simp only [LF] at g2 ⊢; rw [← h1]; exact g2⟩,el_eq h2 g3⟩
  | .sl _ :: ss,_,_,_,_,_,⟨h1,h2⟩,⟨⟨v,g1,g2⟩,g3⟩=>⟨⟨v,g1,by rw [← h1]; exact g2⟩,el_eq h2 g3⟩
theorem le_sl {kn kn':Bool} {es:List Sh} {d e:D} {tip:Option (Nat×Nat)} (hl:d.len=e.len) (hg:∀ i,i<d.len→eqEl es (d.get i) (e.get i) 0):Le (.sl kn es d tip) (.sl kn' es e none):=fun E v hv=>by
  obtain ⟨⟨h0,ad,cap,h1,h2,h3,h4,h5⟩,_⟩:=hv
  refine ⟨⟨by rw [← hl]; exact h0,ad,cap,by rw [← hl]; exact h1,by rw [← hl]; exact h2,h3,h4,fun hn=>?_⟩,trivial⟩
  obtain ⟨b,o,g1,g2⟩:=h5 (by rw [hl]; exact hn)
  exact ⟨b,o,g1,fun i hi=>el_eq (hg i (by rw [hl]; exact hi)) (g2 i (by rw [hl]; exact hi))⟩
theorem eqEl_refl:∀ (es:List Sh) (d:D) (j:Nat),eqEl es d d j
  | [],_,_=>trivial
  | .int _ :: ss,d,j=>⟨rfl,eqEl_refl ss d (j+1)⟩
  | .bool :: ss,d,j=>⟨rfl,eqEl_refl ss d (j+1)⟩
  | .str :: ss,d,j=>⟨rfl,eqEl_refl ss d (j+1)⟩
  | .sl _ :: ss,d,j=>⟨rfl,eqEl_refl ss d (j+1)⟩
theorem le_nil {kn kn':Bool} {es:List Sh} {d:D} (h:d.len=0):Le (.sc kn (.slice none 0 0)) (.sl kn' es d none):=fun E v hv=>by
  obtain ⟨rfl,_⟩:=hv
  exact ⟨⟨by rw [h,Nat.zero_mul]; exact Nat.zero_le _,none,0,by rw [h],by rw [h]; exact Nat.le_refl _,Nat.zero_le _,fun _=>rfl,fun hn=>absurd h hn⟩,trivial⟩
theorem le_agg {xs ys:List AV} (h:∀ E vs,RelL E xs vs→RelL E ys vs):Le (.agg xs) (.agg ys):=fun E v ⟨cs,h1,h2,h3⟩=>⟨cs,h1,h E _ h2,h3⟩
theorem le_tup {xs ys:List AV} (h:∀ E vs,RelL E xs vs→RelL E ys vs):Le (.tup xs) (.tup ys):=fun E v ⟨cs,h1,h2⟩=>⟨cs,h1,h E _ h2⟩
theorem leL_nil:∀ E vs,RelL E [] vs→RelL E [] vs:=fun _ _ h=>h
theorem leL_cons {x y:AV} {xs ys:List AV} (h:Le x y) (hs:∀ E vs,RelL E xs vs→RelL E ys vs):∀ E vs,RelL E (x :: xs) vs→RelL E (y :: ys) vs:=fun E _ ⟨v,vs',h1,h2,h3⟩=>⟨v,vs',h1,h E v h2,hs E vs' h3⟩
section
variable {P:Program} {Γ:FuncId→Option Spec} {Λ:FuncId→Nat→Option BSpec}
def Hp.dul (h:Hp):Hp:={ h with ob:=h.ob.map fun p=>(p.1,dullL p.2) }
theorem lookO_dul (o:Nat):∀ (l:List (Nat×List AV)),lookO o (l.map fun p=>(p.1,dullL p.2))=(lookO o l).map dullL
  | []=>rfl
  | (k,cs) :: l=>by
    simp only [List.map_cons,lookO_cons]
    split
    · rfl
    · exact lookO_dul o l
theorem cnt_dul (o:Nat):∀ (l:List (Nat×List AV)),cnt o (l.map fun p=>(p.1,dullL p.2))=cnt o l
  | []=>rfl
  | (k,cs) :: l=>by simp only [List.map_cons,cnt_cons,cnt_dul o l]
theorem Inv.dul {w0 w:World} {G:Nat→Prop} {E:Env} {h:Hp} (I:Inv P w0 G E h w):Inv P w0 G E h.dul w:=by
  refine ⟨I.kpt,I.m,I.ng,I.gn,I.gnlt,fun o=>?_,I.nx,fun o cs hcs=>?_,I.own,I.inj,I.z,I.zob,I.vec,I.vinj⟩
  · rw [I.live o]
    show _↔(lookO o (h.ob.map _)).isSome=true
    rw [lookO_dul]
    cases lookO o h.ob <;> simp
  · have hcs':lookO o (h.ob.map fun p=>(p.1,dullL p.2))=some cs:=hcs
    rw [lookO_dul] at hcs'
    cases hc:lookO o h.ob with
    | none=>rw [hc] at hcs'; cases hcs'
    | some c =>
      simp only [hc,Option.map_some,Option.some.injEq] at hcs'
      subst hcs'
      obtain ⟨vs,t,g1,g2,g3⟩:=I.ob o c hc
      exact ⟨vs,t,g1,dull_relL _ _ g2,g3⟩
def Hp.can (h:Hp) (p q N ep:Nat):Hp:=(h.ren (List.range p) (List.range q) N ep).dul
def Tm.can (F:Tm) (h:Hp) (keep:List Nat) (p q N:Nat):Tm:=⟨F.nt,keep.map fun t=>(t,dull (ren (List.range p) (List.range q) N h.gn (look t F.tm))),F.df.map fun x=>(x.1,dullL (renL (List.range p) (List.range q) N h.gn x.2))⟩
theorem look_keep {f:Nat→AV}:∀ (l:List Nat) (t:Nat),look t (l.map fun t=>(t,f t))=if t ∈ l then f t else .any
  | [],t=>by simp [look_nil]
  | k :: l,t=>by
    simp only [List.map_cons,look_cons,look_keep l t]
    cases hb:Nat.beq k t
    · have:t≠k:=fun e=>by rw [e] at hb; simp at hb
      simp [this]
    · obtain rfl:=Nat.eq_of_beq_eq_true hb; simp
theorem relD_map {E E':Env} {f:List AV→List AV} (hf:∀ xs vs,RelL E xs vs→RelL E' (f xs) vs):∀ {l:List (FuncId×List AV)} {ds:List Deferred},RelD E l ds→RelD E' (l.map fun x=>(x.1,f x.2)) ds
  | [],_,h=>h
  | (g,xs) :: r,_,⟨cap,args,ds',h1,h2,h3⟩=>⟨cap,args,ds',h1,hf _ _ h2,relD_map hf h3⟩
theorem Tm.can_ok {w0 w:World} {G:Nat→Prop} {E:Env} {h:Hp} {F:Tm} {t:Act} (I:Inv P w0 G E h w) (hT:RelT E F t) (keep:List Nat) (p q N:Nat):RelT (E.ren (List.range p) (List.range q) N) (F.can h keep p q N) t:=by
  refine ⟨hT.sz,fun i=>?_,relD_map (fun xs vs hr=>dull_relL _ _ (ren_relL I xs vs hr)) hT.df⟩
  show Rel _ (look i (keep.map fun t=>(t,dull (ren (List.range p) (List.range q) N h.gn (look t F.tm))))) _
  rw [look_keep]
  split
  · exact dull_rel _ _ (ren_rel I _ _ (hT.tm i))
  · exact trivial
theorem can_step {w0 we w:World} {G:Nat→Prop} {Ee E:Env} {he h:Hp} (S:Stepd P w0 G Ee he we E h w) (Ie:Inv P w0 G Ee he we) {p q N ep:Nat} (hp:he.nx≤p) (hq:he.nv≤q) (hqh:q≤h.nv) (hN:he.ng≤N) (hep:∀ o,Ee.live o→ver o he<ep) :
    Stepd P w0 G Ee he we (E.ren (List.range p) (List.range q) N) (h.can p q N ep) w:=by
  have gr:∀ {n i:Nat},i<n→(List.range n)[i]?=some i:=fun h=>List.getElem?_range h
  have I2:=(S.inv.ren (os:=List.range p) (ks:=List.range q) (g0:=N) List.nodup_range List.nodup_range (fun k hk=>by have:=List.mem_range.1 hk; omega) ep).dul
  refine ⟨⟨fun o ho=>⟨o,gr (by have:=Ie.nx o ho; omega),S.ext.live o ho⟩,fun o ho=>?_,S.ext.Z,?_,?_,fun k hk=>.inr ?_⟩,I2,fun o ho=>⟨?_,fun e=>?_⟩,S.zn⟩
  · show E.β ((List.range p).getD o 0)=Ee.β o
    rw [gdp (gr (by have:=Ie.nx o ho; omega))]; exact S.ext.β o ho
  · show Ee.m≤(List.range q).length
    rw [List.length_range,Ie.m]; exact hq
  · show Ee.ng≤N+(List.range q).length
    rw [Ie.ng]; omega
  · show Ee.ng≤N+k
    rw [Ie.ng]; omega
  · have:=hep o ho; unfold ver at this ⊢; show _≤ep+_; omega
  · have:=hep o ho
    unfold ver at this e
    have e':ep+cnt o (h.can p q N ep).ob=he.ep+cnt o he.ob:=e
    omega
def RoundOk {α:Type} (mkF:α→Tm) (mkH:α→Hp) (T:α→RT Out) (μ:α→Nat) (id:Nat) (keep:List Nat) (p q N ep:Nat) (x:α) (K:Out→Prop) (r:Out):Prop :=
  q≤r.2.2.nv∧match r.1 with
  | .normal=>∃ x',(r.2.1.can r.2.2 keep p q N=mkF x'∧r.2.2.can p q N ep=mkH x')∧μ x'<μ x∧(T x').holds K
  | .exit j=>if j=id then K (.normal,r.2.1.can r.2.2 keep p q N,r.2.2.can p q N ep) else K (.exit j,r.2.1.can r.2.2 keep p q N,r.2.2.can p q N ep)
  | .ret=>K (.ret,r.2.1.can r.2.2 keep p q N,r.2.2.can p q N ep)
theorem cnt_le (o:Nat):∀ (l:List (Nat×List AV)),cnt o l≤l.length
  | []=>Nat.le_refl _
  | (k,cs) :: l=>by
    rw [cnt_cons]
    have:=cnt_le o l
    simp only [List.length_cons]
    split <;> omega
def proT (P:Program) (e:TypeId) (t:Nat) (s:Tm×Hp):Tm×Hp :=
  match look t s.1.tm,sizeT P e with
  | .sc _ (.slice none 0 0),some _=>({ s.1 with tm:=(t,.sl false (shE P e) (.l []) (some (s.2.nv,s.2.ng))) :: s.1.tm },{ s.2 with gn:=(s.2.nv,s.2.ng,e) :: s.2.gn,nv:=s.2.nv+1,ng:=s.2.ng+1 })
  | _,_=>s
theorem vec_nil {w0 w:World} {G:Nat→Prop} {E:Env} {h:Hp} {e sz:Nat} (I:Inv P w0 G E h w) (hs:sizeT P e=some sz) :
    ∃ E',Stepd P w0 G E h w E' { h with gn:=(h.nv,h.ng,e) :: h.gn,nv:=h.nv+1,ng:=h.ng+1 } w∧Rel E' (.sl false (shE P e) (.l []) (some (h.nv,h.ng))) (.slice none 0 0):=by
  have hst:=I.vec_set (v:=.slice none 0 0) (v':=.slice none 0 0) (k:=h.nv) (m:=h.nv+1) (xs:=[]) (news:=[]) (n':=0) (.inr ⟨rfl,rfl,rfl⟩) (fun b hb=>by cases hb) hs ⟨by simp,.inl ⟨rfl,rfl⟩⟩ (by simp) (Kpt.refl w _) (.inl rfl)
  have h0:(D.l []).len=0:=by simp [D.len,D.toL,D.raw]
  refine ⟨_,hst,⟨by rw [h0,Nat.zero_mul]; exact Nat.zero_le _,none,0,by rw [h0],by rw [h0]; exact Nat.le_refl _,Nat.zero_le _,fun _=>rfl,fun hn=>absurd h0 hn⟩,?_,?_,fun _=>?_⟩
  · show h.nv<h.nv+1; omega
  · show h.ng<h.ng+1; omega
  · simp [Env.grow]
theorem proT_ok {w0 w:World} {G:Nat→Prop} {E:Env} {e t:Nat} {F:Tm} {h:Hp} {a:Act} (I:Inv P w0 G E h w) (hT:RelT E F a):∃ E',Stepd P w0 G E h w E' (proT P e t (F,h)).2 w∧RelT E' (proT P e t (F,h)).1 a:=by
  unfold proT
  split
  · rename_i kn sz hl hs
    obtain ⟨E',h1,h2⟩:=vec_nil I hs
    refine ⟨E',h1,⟨hT.sz,fun i=>?_,hT.df.mono h1.ext⟩⟩
    have hv:=hT.tm t
    rw [show look t F.tm=.sc kn (.slice none 0 0) from hl] at hv
    simp only [look_cons]
    cases hb:Nat.beq t i
    · exact Rel.mono h1.ext _ _ (hT.tm i)
    · obtain rfl:=Nat.eq_of_beq_eq_true hb
      rw [hv.1]; exact h2
  · exact ⟨E,Stepd.refl I,hT⟩
def proO (P:Program) (e:TypeId) (o i:Nat) (s:Tm×Hp):Tm×Hp :=
  match lookO o s.2.ob,sizeT P e with
  | some cs,some _=>match cs[i]? with
    | some (.sc _ (.slice none 0 0))=>(s.1,{ s.2 with ob:=(o,cs.set i (.sl false (shE P e) (.l []) (some (s.2.nv,s.2.ng)))) :: s.2.ob,gn:=(s.2.nv,s.2.ng,e) :: s.2.gn,nv:=s.2.nv+1,ng:=s.2.ng+1 })
    | _=>s
  | _,_=>s
theorem RelL.set {E:Env}:∀ {xs:List AV} {vs:List Value} {i:Nat} {x:AV} {v:Value},RelL E xs vs→vs[i]?=some v→Rel E x v→RelL E (xs.set i x) vs
  | [],_,_,_,_,h,_,_=>h
  | y :: xs,_,i,x,v,⟨u,vs',h,h1,h2⟩,hv,hx=>by
    subst h
    cases i with
    | zero=>simp at hv; subst hv; exact ⟨u,vs',rfl,hx,h2⟩
    | succ i=>exact ⟨u,vs',rfl,h1,RelL.set h2 (by simpa using hv) hx⟩
theorem Inv.say {w0 w:World} {G:Nat→Prop} {E:Env} {h:Hp} (I:Inv P w0 G E h w) {o:Nat} {cs cs':List AV} (ho:lookO o h.ob=some cs) (hr:∀ vs,RelL E cs vs→RelL E cs' vs):Stepd P w0 G E h w E { h with ob:=(o,cs') :: h.ob } w:=by
  obtain ⟨vs,t,g1,g2,g3⟩:=I.ob o cs ho
  exact I.put ho (Kpt.refl w _) g1 (hr vs g2) g3
theorem proO_ok {w0 w:World} {G:Nat→Prop} {E:Env} {e o i:Nat} {F:Tm} {h:Hp} {a:Act} (I:Inv P w0 G E h w) (hT:RelT E F a):∃ E',Stepd P w0 G E h w E' (proO P e o i (F,h)).2 w∧RelT E' (proO P e o i (F,h)).1 a:=by
  unfold proO
  split
  · rename_i cs sz hl hs
    split
    · rename_i kn hc
      obtain ⟨E',h1,h2⟩:=vec_nil I hs
      have hl':lookO o h.ob=some cs:=hl
      have S2:=h1.inv.say (o:=o) (cs:=cs) (cs':=cs.set i (.sl false (shE P e) (.l []) (some (h.nv,h.ng)))) hl' (fun vs hr=>by
        obtain ⟨v,hv,hrv⟩:=hr.get hc
        rw [hrv.1] at hv
        exact hr.set hv h2)
      exact ⟨E',h1.trans S2,hT.mono h1.ext⟩
    · exact ⟨E,Stepd.refl I,hT⟩
  · exact ⟨E,Stepd.refl I,hT⟩
def proL (P:Program):List (Bool×Nat×Nat×TypeId)→Tm×Hp→Tm×Hp
  | [],s=>s
  | (false,t,_,e) :: r,s=>proL P r (proT P e t s)
  | (true,o,i,e) :: r,s=>proL P r (proO P e o i s)
theorem proL_ok {w0 w:World} {G:Nat→Prop} {a:Act}:∀ (l:List (Bool×Nat×Nat×TypeId)) {E:Env} {F:Tm} {h:Hp},Inv P w0 G E h w→RelT E F a→∃ E',Stepd P w0 G E h w E' (proL P l (F,h)).2 w∧RelT E' (proL P l (F,h)).1 a
  | [],E,F,h,I,hT=>⟨E,Stepd.refl I,hT⟩
  | (false,t,_,e) :: r,E,F,h,I,hT=>by
    obtain ⟨E1,h1,h2⟩:=proT_ok (e:=e) (t:=t) I hT
    obtain ⟨E2,h3,h4⟩:=proL_ok r h1.inv h2
    exact ⟨E2,h1.trans h3,h4⟩
  | (true,o,i,e) :: r,E,F,h,I,hT=>by
    obtain ⟨E1,h1,h2⟩:=proO_ok (e:=e) (o:=o) (i:=i) I hT
    obtain ⟨E2,h3,h4⟩:=proL_ok r h1.inv h2
    exact ⟨E2,h1.trans h3,h4⟩
structure Lw where
  keep:List Nat
  pro:List (Bool×Nat×Nat×TypeId)
  p:Nat
  q:Nat
  N:Nat
  ep:Nat
def Lw.in (L:Lw) (P:Program) (F:Tm) (h:Hp):Tm×Hp:=let s:=proL P L.pro (F,h); (s.1.can s.2 L.keep L.p L.q L.N,s.2.can L.p L.q L.N L.ep)
def Lw.fits (L:Lw) (P:Program) (F:Tm) (h:Hp):Bool:=Nat.ble h.nx L.p&&Nat.ble h.nv L.q&&Nat.ble h.ng L.N&&Nat.blt (h.ep+h.ob.length) L.ep&&Nat.beq (proL P L.pro (F,h)).2.nv L.q
def loopS {α:Type} (P:Program) (L:Lw) (dec:Tm→Hp→Option α) (T:α→RT Out):BSpec:=fun F h =>
  bif L.fits P F h then (match dec (L.in P F h).1 (L.in P F h).2 with | some x=>T x | none=>.bad 120) else .bad 121
theorem loop_ok {α:Type} (hm:Fit P) (hΓ:GamOk P Γ) (hΛ:LamAll P Λ) {f:FuncId} {id n:Nat} {b:Code} (hL:LamOk P Λ f b) (L:Lw) {mkF:α→Tm} {mkH:α→Hp} {dec:Tm→Hp→Option α} {T:α→RT Out} (μ:α→Nat)
    (hdec:∀ F h x,dec F h=some x→F=mkF x∧h=mkH x)
    (hbody:∀ x K,(T x).holds K→(evC P Γ Λ n f b (mkF x) (mkH x)).holds (RoundOk mkF mkH T μ id L.keep L.p L.q L.N L.ep x K)):BOk P (.block id (.loop b)) (loopS P L dec T):=by
  intro F h K H w0 G E w a Q I hT hp
  unfold loopS at H
  cases hfit:L.fits P F h
  · rw [hfit] at H; exact H.elim
  rw [hfit] at H
  simp only [cond_true] at H
  split at H
  · rename_i x hx
    obtain ⟨hF,hH⟩:=hdec _ _ _ hx
    unfold Lw.fits at hfit
    simp only [Bool.and_eq_true] at hfit
    obtain ⟨⟨⟨⟨f1,f2⟩,f3⟩,f4⟩,f5⟩:=hfit
    have f1:=Nat.le_of_ble_eq_true f1
    have f2:=Nat.le_of_ble_eq_true f2
    have f3:=Nat.le_of_ble_eq_true f3
    have f4:h.ep+h.ob.length<L.ep:=Nat.le_of_ble_eq_true f4
    have f5:=Nat.eq_of_beq_eq_true f5
    have hep:∀ o,E.live o→ver o h<L.ep:=fun o _=>by
      unfold ver; have:=cnt_le o h.ob; omega
    obtain ⟨E1,S1,hT1⟩:=proL_ok (a:=a) L.pro I hT
    have S2:=can_step S1 I (p:=L.p) (q:=L.q) (N:=L.N) (ep:=L.ep) f1 f2 (by rw [f5]; exact Nat.le_refl _) f3 hep
    have hT2:=Tm.can_ok S1.inv hT1 L.keep L.p L.q L.N
    have e1:(proL P L.pro (F,h)).1.can (proL P L.pro (F,h)).2 L.keep L.p L.q L.N=mkF x:=hF
    have e2:(proL P L.pro (F,h)).2.can L.p L.q L.N L.ep=mkH x:=hH
    rw [e2] at S2
    rw [e1] at hT2
    have rounds:∀ m x,μ x<m→(T x).holds K→∀ (E2:Env) (w2:World) (a2:Act),Stepd P w0 G E h w E2 (mkH x) w2→RelT E2 (mkF x) a2→Code.rounds P b (Exit.inBlock id Q) m a2 w2:=by
      intro m
      induction m with
      | zero=>intro x hx; omega
      | succ m ih =>
        intro x hmx HT E2 w2 a2 S3 hT3
        rw [rounds_succ]
        refine ((codeOk hm hΓ hΛ n).1 f b _ _ _ (hbody x K HT) hL w0 G E2 w2 a2 _ S3.inv hT3 ?_)
        intro ex F' h' E' a' w' hk hs hT'
        obtain ⟨hq,hk⟩:=hk
        have S4:=S3.trans hs
        have S5:=can_step S4 I (p:=L.p) (q:=L.q) (N:=L.N) (ep:=L.ep) f1 f2 hq f3 hep
        have hT5:=Tm.can_ok hs.inv hT' L.keep L.p L.q L.N
        cases ex with
        | normal =>
          obtain ⟨x',⟨g1,g2⟩,g3,g4⟩:=hk
          have g1':F'.can h' L.keep L.p L.q L.N=mkF x':=g1
          have g2':h'.can L.p L.q L.N L.ep=mkH x':=g2
          rw [g2'] at S5
          rw [g1'] at hT5
          exact ih x' (by omega) g4 _ _ _ S5 hT5
        | exit j =>
          show Exit.inBlock id Q (.exit j) a' w'
          simp only [Exit.inBlock]
          simp only at hk
          split
          · rename_i e
            rw [if_pos e] at hk
            exact hp .normal _ _ _ _ _ hk S5 hT5
          · rename_i e
            rw [if_neg e] at hk
            exact hp (.exit j) _ _ _ _ _ hk S5 hT5
        | ret=>exact hp .ret _ _ _ _ _ hk S5 hT5
    exact wp_block (wp_loop_rounds (μ x+1) (rounds _ x (Nat.lt_succ_self _) H _ _ _ S2 hT2))
  · exact H.elim
end
end
end Go.Proofs.YtbgmclbcjdbcmaaGreat
namespace Go.Proofs.YtbgmclbcjdbcmaaGreat
set_option linter.unusedSimpArgs false
set_option linter.unusedVariables false
open Go.RowKit
set_option maxRecDepth 10000
noncomputable section
def gam:List (FuncId×Spec)→FuncId→Option Spec
  | [],_=>none
  | (g,sp) :: r,f=>bif Nat.beq g f then some sp else gam r f
def GamL (P:Program):List (FuncId×Spec)→Prop
  | []=>True
  | (g,sp) :: r=>SoundF P g sp∧GamL P r
theorem gam_ok {P:Program}:∀ {l:List (FuncId×Spec)},GamL P l→GamOk P (gam l)
  | [],_,g,sp,h=>by cases h
  | (k,s) :: r,⟨h1,h2⟩,g,sp,h=>by
    simp only [gam] at h
    cases hb:Nat.beq k g
    · rw [hb] at h; exact gam_ok h2 g sp h
    · rw [hb] at h
      cases h
      obtain rfl:=Nat.eq_of_beq_eq_true hb
      exact h1
def lam:List (FuncId×Nat×BSpec)→FuncId→Nat→Option BSpec
  | [],_,_=>none
  | (g,i,sp) :: r,f,id=>bif Nat.beq g f&&Nat.beq i id then some sp else lam r f id
def LamE (P:Program) (f:FuncId) (id:Nat) (sp:BSpec):Prop:=∀ fn b,plainF P f=some (fn,b)→∀ c ∈ blocksOf id b,BOk P c sp
def LamL (P:Program):List (FuncId×Nat×BSpec)→Prop
  | []=>True
  | (g,i,sp) :: r=>LamE P g i sp∧LamL P r
theorem lam_ok {P:Program}:∀ {l:List (FuncId×Nat×BSpec)},LamL P l→LamAll P (lam l)
  | [],_,f,fn,b,_,id,sp,h=>by cases h
  | (k,i,s) :: r,⟨h1,h2⟩,f,fn,b,hp,id,sp,h=>by
    simp only [lam] at h
    cases hb:Nat.beq k f&&Nat.beq i id
    · rw [hb] at h; exact lam_ok h2 f fn b hp id sp h
    · rw [hb] at h
      cases h
      simp only [Bool.and_eq_true] at hb
      obtain rfl:=Nat.eq_of_beq_eq_true hb.1
      obtain rfl:=Nat.eq_of_beq_eq_true hb.2
      exact h1 fn b hp
def bodyOf (P:Program) (f:FuncId):Code:=match plainF P f with | some (_,b)=>b | none=>.skip
def loopAt (id:Nat) (c:Code):Code:=match blocksOf id c with | [.block _ (.loop b)]=>b | _=>.skip
def isLoop (id:Nat) (c:Code):Bool:=match blocksOf id c with | [.block j (.loop _)]=>Nat.beq j id | _=>false
theorem isLoop_ok {id:Nat} {c:Code} (h:isLoop id c=true):blocksOf id c=[.block id (.loop (loopAt id c))]:=by
  unfold isLoop at h
  unfold loopAt
  split at h
  · rename_i j b hb
    obtain rfl:=Nat.eq_of_beq_eq_true h
    rw [hb]
  · cases h
theorem blocks_in {id i:Nat} {x:Code}:∀ {c b:Code},.block id b ∈ blocksOf id c→x ∈ blocksOf i b→x ∈ blocksOf i c
  | .seq p q,b,h,hx=>by
    simp only [blocksOf,List.mem_append] at h ⊢
    exact h.imp (fun h=>blocks_in h hx) (fun h=>blocks_in h hx)
  | .cond _ p q,b,h,hx=>by
    simp only [blocksOf,List.mem_append] at h ⊢
    exact h.imp (fun h=>blocks_in h hx) (fun h=>blocks_in h hx)
  | .loop p,b,h,hx=>by simp only [blocksOf] at h ⊢; exact blocks_in h hx
  | .block j p,b,h,hx=>by
    simp only [blocksOf,List.mem_append] at h ⊢
    right
    rcases h with h | h
    · split at h
      · simp at h; obtain ⟨_,rfl⟩:=h; exact hx
      · simp at h
    · exact blocks_in h hx
  | .skip,_,h,_ | .region _ _ _,_,h,_ | .rangeFunc _ _ _ _,_,h,_ | .exit _,_,h,_ | .scope _,_,h,_ | .label _,_,h,_ | .goto _,_,h,_ | .ret,_,h,_ | .refuse _,_,h,_=>by simp [blocksOf] at h
theorem loop_in {P:Program} {gs:List (FuncId×Spec)} {ls:List (FuncId×Nat×BSpec)} {α:Type} (hm:Fit P) (hΓ:GamL P gs) (hΛ:LamL P ls) (f id n:Nat) (hl:isLoop id (bodyOf P f)=true) (L:Lw) {mkF:α→Tm} {mkH:α→Hp} {dec:Tm→Hp→Option α} {T:α→RT Out} (μ:α→Nat)
    (hdec:∀ F h x,dec F h=some x→F=mkF x∧h=mkH x)
    (hbody:∀ x K,(T x).holds K→(evC P (gam gs) (lam ls) n f (loopAt id (bodyOf P f)) (mkF x) (mkH x)).holds (RoundOk mkF mkH T μ id L.keep L.p L.q L.N L.ep x K)):LamE P f id (loopS P L dec T):=by
  intro fn b hp c hc
  have hb:bodyOf P f=b:=by unfold bodyOf; rw [hp]
  rw [hb] at hl hbody
  have hbl:=isLoop_ok hl
  rw [hbl] at hc
  obtain rfl:=List.mem_singleton.1 hc
  refine loop_ok hm (gam_ok hΓ) (lam_ok hΛ) (fun i sp hs x hx=>lam_ok hΛ f fn b hp i sp hs x (blocks_in (id:=id) (b:=.loop (loopAt id b)) (by rw [hbl]; exact List.mem_singleton_self _) (by simpa only [blocksOf] using hx))) L μ hdec hbody
def roundT (L:Lw) (t:RT Out):RT Out:=t.bind fun r=>bif Nat.ble L.q r.2.2.nv then .ok (r.1,r.2.1.can r.2.2 L.keep L.p L.q L.N,r.2.2.can L.p L.q L.N L.ep) else .bad 122
def Round {α:Type} (mkF:α→Tm) (mkH:α→Hp) (T:α→RT Out) (μ:α→Nat) (id:Nat) (x:α) (K:Out→Prop) (r:Out):Prop :=
  match r.1 with
  | .normal=>∃ x',(r.2.1=mkF x'∧r.2.2=mkH x')∧μ x'<μ x∧(T x').holds K
  | .exit j=>if j=id then K (.normal,r.2.1,r.2.2) else K (.exit j,r.2.1,r.2.2)
  | .ret=>K (.ret,r.2.1,r.2.2)
theorem loop_in2 {P:Program} {gs:List (FuncId×Spec)} {ls:List (FuncId×Nat×BSpec)} {α:Type} (hm:Fit P) (hΓ:GamL P gs) (hΛ:LamL P ls) (f id n:Nat) (hl:isLoop id (bodyOf P f)=true) (L:Lw) {mkF:α→Tm} {mkH:α→Hp} {dec:Tm→Hp→Option α} {T:α→RT Out} (μ:α→Nat)
    (hdec:∀ F h x,dec F h=some x→F=mkF x∧h=mkH x)
    (hbody:∀ x K,(T x).holds K→(roundT L (evC P (gam gs) (lam ls) n f (loopAt id (bodyOf P f)) (mkF x) (mkH x))).holds (Round mkF mkH T μ id x K)):LamE P f id (loopS P L dec T):=by
  refine loop_in hm hΓ hΛ f id n hl L μ hdec fun x K H=>?_
  have:=hbody x K H
  unfold roundT at this
  rw [RT.holds_bind] at this
  refine RT.holds_mono (fun r hr=>?_) _ this
  cases hq:Nat.ble L.q r.2.2.nv
  · rw [hq] at hr; exact hr.elim
  · rw [hq] at hr
    refine ⟨Nat.le_of_ble_eq_true hq,?_⟩
    have hr':Round mkF mkH T μ id x K (r.1,r.2.1.can r.2.2 L.keep L.p L.q L.N,r.2.2.can L.p L.q L.N L.ep):=hr
    unfold Round at hr'
    split at hr' <;> rename_i he <;> simp only at he <;> simp only [he] <;> exact hr'
theorem pure_in {P:Program} {gs:List (FuncId×Spec)} {ls:List (FuncId×Nat×BSpec)} (hm:Fit P) (hΓ:GamL P gs) (hΛ:LamL P ls) (f n:Nat) {F:List AV→RT AV} (hF:∀ args K,okL args→(F args).holds K→(treeF (evF P (gam gs) (lam ls) n f) args).holds fun r=>∃ y,Le r y∧K y):SoundF P f (pureS P f F) :=
  pureS_tree (evF_ok hm (gam_ok hΓ) (lam_ok hΛ) n f) hF
def altS (c:List AV→Bool) (s1 s2:Spec):Spec:=fun args h=>bif c args then s1 args h else s2 args h
theorem alt_ok {P:Program} {f:FuncId} {c:List AV→Bool} {s1 s2:Spec} (h1:SoundF P f s1) (h2:SoundF P f s2):SoundF P f (altS c s1 s2):=by
  intro args h K H
  unfold altS at H
  cases hc:c args
  · rw [hc] at H; exact h2 args h K H
  · rw [hc] at H; exact h1 args h K H
def head1:List AV→Bool
  | .sl kn _ _ _ :: _=>kn
  | .sc kn (.slice _ _ _) :: _=>kn
  | _=>false
theorem pure_by {P:Program} {gs:List (FuncId×Spec)} {ls:List (FuncId×Nat×BSpec)} (hm:Fit P) (hΓ:GamL P gs) (hΛ:LamL P ls) (f n:Nat) {F:List AV→RT AV} (hF:∀ args K,okL args→(F args).holds K→∃ args',(∀ E vs,RelL E args vs→RelL E args' vs)∧(treeF (evF P (gam gs) (lam ls) n f) args').holds fun r=>∃ y,Le r y∧K y):SoundF P f (pureS P f F) :=
  pureS_tree2 (evF_ok hm (gam_ok hΓ) (lam_ok hΛ) n f) hF
end
end Go.Proofs.YtbgmclbcjdbcmaaGreat
namespace Go.Proofs.YtbgmclbcjdbcmaaGreat
set_option linter.unusedSimpArgs false
set_option linter.unusedVariables false
open Go.RowKit
set_option maxRecDepth 10000
noncomputable section
section
variable {P:Program} {E:Env} {h:Hp} {w w0 w':World} {G:Nat→Prop}
def Env.fresh (E:Env) (w w':World):Env:={ E with Z:=fun b j=>if b<w.heap.size then E.Z b j else w'.cell? ⟨b,j,none⟩ }
theorem Inv.fresh (I:Inv P w0 G E h w) (hb:Below w.heap.size w w'):Stepd P w0 G E h w (E.fresh w w') h w':=by
  have hZ:∀ b j v,E.Z b j=some v→(E.fresh w w').Z b j=some v:=fun b j v hz=>by
    show (if b<w.heap.size then E.Z b j else _)=_
    rw [if_pos (cell_lt (I.z b j v hz))]; exact hz
  have hext:Ext E (E.fresh w w'):=⟨fun _ h=>h,fun _ _=>rfl,hZ,Nat.le_refl _,Nat.le_refl _,fun _ _=>.inl ⟨rfl,rfl⟩⟩
  have same:∀ b,b<w.heap.size→w'.heap[b]?=w.heap[b]?:=fun b h=>hb.block b h
  refine ⟨hext,⟨I.kpt.then (Kpt.of_below hb fun _=>False) (fun _ h=>h.elim),I.m,I.ng,I.gn,I.gnlt,I.live,I.nx,fun o cs hcs=>?_,I.own,I.inj,fun b j v hz=>?_,fun o j hlo=>?_,fun k hk=>?_,I.vinj⟩,fun o hlo=>⟨Nat.le_refl _,fun _=>same _ (I.live_lt hlo)⟩,fun b j v hz=>?_⟩
  · obtain ⟨vs,t,g1,g2,g3⟩:=I.ob o cs hcs
    exact ⟨vs,t,(same _ (Array.getElem?_eq_some_iff.1 g1).1).trans g1,RelL.mono hext _ _ g2,g3⟩
  · have hz':(if b<w.heap.size then E.Z b j else w'.cell? ⟨b,j,none⟩)=some v:=hz
    split at hz'
    · rename_i hlt
      rw [cell_same (same b hlt)]; exact I.z b j v hz'
    · exact hz'
  · show (if E.β o<w.heap.size then E.Z (E.β o) j else _)=none
    rw [if_pos (I.live_lt hlo)]; exact I.zob o j hlo
  · obtain ⟨sz,n,xs,g1,g2,g3,g4⟩:=I.vec k hk
    refine ⟨sz,n,xs,g1,owns_same g2 fun b hb'=>same b (owns_lt g2 hb'),g3,fun b hb'=>⟨(g4 b hb').1,(g4 b hb').2.1,fun j=>?_⟩⟩
    show (if b<w.heap.size then E.Z b j else _)=_
    rw [if_pos (owns_lt g2 hb')]; exact (g4 b hb').2.2 j
  · have hz':(if b<w.heap.size then E.Z b j else w'.cell? ⟨b,j,none⟩)=some v:=hz
    split at hz'
    · exact .inl hz'
    · exact .inr (.inl (Nat.le_trans I.kpt.size (by omega)))
def eB (b:UInt8):D:=.i b.toNat
def eBs (l:List UInt8):D:=.l (l.map eB)
theorem toL_eBs {l:List UInt8} (h:l.length≤maxLen):(eBs l).toL=l.map eB:=toL_l (by simpa using h)
theorem len_eBs {l:List UInt8} (h:l.length≤maxLen):(eBs l).len=l.length:=by unfold D.len; rw [toL_eBs h]; simp
theorem own_bytesE (I:Inv P w0 G E h w) {e:TypeId} {v:Value} {n:Nat} {l:List UInt8} (hb:Below w.heap.size w w') (ho:w'.ownsRow w.heap.size e 1 v n (l.map bv)) (hrm:l.length≤room) :
    ∃ E',Stepd P w0 G E h w E' h w'∧Rel E' (.sl false [.int .u8] (eBs l) none) v:=by
  refine ⟨_,I.fresh hb,?_,trivial⟩
  have hn:n=l.length:=by have:=ho.1; simp at this; omega
  rcases ho.2 with ⟨rfl,h0⟩ | ⟨g,cap,cur,rfl,h0,hg,h1,h2,h3,h4⟩
  · have hl:l=[]:=List.eq_nil_of_length_eq_zero (by omega)
    subst hl
    have h0':(eBs []).len=0:=by simp [eBs,D.len,D.toL,D.raw]
    exact ⟨by rw [h0',Nat.zero_mul]; exact Nat.zero_le _,none,0,by rw [h0'],by rw [h0']; exact Nat.le_refl _,Nat.zero_le _,fun _=>rfl,fun hn=>absurd h0' hn⟩
  · have hlm:l.length≤maxLen:=by omega
    have hlen:=len_eBs hlm
    refine ⟨by rw [hlen,show szB [.int .u8]=1 from by decide,Nat.mul_one]; exact hrm,some ⟨g,0,none⟩,cap,by rw [hlen,hn],by rw [hlen]; omega,h2,(fun h=>by cases h),fun _=>⟨g,0,rfl,fun i hi=>⟨⟨bv (l[i]?.getD 0),?_,?_⟩,trivial⟩⟩⟩
    · rw [hlen] at hi
      show (if g<w.heap.size then E.Z g _ else w'.cell? ⟨g,_,none⟩)=_
      rw [if_neg (by omega),cell_of_row w' g _ _ _ _ hg]
      simp only [List.length_cons,List.length_nil,Nat.zero_add,Nat.mul_one]
      have:(l.map bv)[i]?=some (bv (l[i]?.getD 0)):=by simp [hi]
      rw [← h4,List.getElem?_take_of_lt (by omega)] at this
      simpa using this
    · rw [hlen] at hi
      show bv _=.int .u8 (((eBs l).get i).cell 0).toI
      unfold D.get
      rw [toL_eBs hlm]
      simp [hi,eB,D.cell,D.toI,bv]
end
end
end Go.Proofs.YtbgmclbcjdbcmaaGreat
namespace Go.Proofs.YtbgmclbcjdbcmaaGreat
set_option linter.unusedSimpArgs false
set_option linter.unusedVariables false
open Go.RowKit
set_option maxRecDepth 10000
noncomputable section
mutual
def thaw (h:Hp):AV→AV
  | .rsl kn o n _=>match rowOf o h with
    | some (es,d)=>bif Nat.beq n es.length then .sl kn es d none else .any
    | none=>.any
  | .rp _ _ _ _ _=>.any
  | .rw es d=>.rw es d
  | .ptr _ _=>.any
  | .mp _=>.any
  | .sl kn es d _=>.sl kn es d none
  | .fn _ _ _=>.any
  | .agg cs=>.agg (thawL h cs)
  | .tup vs=>.tup (thawL h vs)
  | .any=>.any
  | .sc kn v=>.sc kn v
  | .ep kn es d j=>.ep kn es d j
def thawL (h:Hp):List AV→List AV
  | []=>[]
  | x :: xs=>thaw h x :: thawL h xs
end
mutual
def thawB (h:Hp):AV→Bool
  | .rsl _ o _ len=>match rowOf o h with
    | some (_,d)=>decide (len=d.len)
    | none=>true
  | .agg cs=>thawBL h cs
  | .tup vs=>thawBL h vs
  | .rw _ _=>false
  | _=>true
def thawBL (h:Hp):List AV→Bool
  | []=>true
  | x :: xs=>bif thawB h x then thawBL h xs else false
end
theorem re_el {Z Z':Nat→Nat→Option Value} (hZ:∀ b j v,Z b j=some v→Z' b j=some v) {cs:Array Value} {b:Nat} (hc:∀ k v,cs[k]?=some v→Z' b k=some v):∀ {es:List Sh} {p:Nat} {d:D} {j:Nat},RE Z es cs p d j→EL Z' es b p d j
  | [],_,_,_,_=>trivial
  | _ :: _,_,_,_,⟨⟨v,h1,h2⟩,h3⟩=>⟨⟨v,hc _ _ h1,LF.mono hZ _ _ _ h2⟩,re_el hZ hc h3⟩
theorem el_re {Z:Nat→Nat→Option Value} {news:List Value} {b o:Nat} (hz:∀ j u,news[j]?=some u→Z b (o+j)=some u):∀ {es:List Sh} {p:Nat} {d:D} {j:Nat},p+es.length≤news.length→EL Z es b (o+p) d j→RE Z es news.toArray p d j
  | [],_,_,_,_,_=>trivial
  | s :: ss,p,d,j,hp,⟨⟨v,h1,h2⟩,h3⟩=>by
    simp only [List.length_cons] at hp
    have hn:news[p]?=some news[p]:=List.getElem?_eq_getElem (by omega)
    have h4:=hz p _ hn
    rw [h1] at h4
    refine ⟨⟨v,by rw [List.getElem?_toArray,hn,← Option.some.inj h4],h2⟩,el_re hz (by omega) (by rwa [show o+p+1=o+(p+1) by omega] at h3)⟩
section
variable {P:Program} {E:Env} {h:Hp} {w w0 w':World} {G:Nat→Prop}
mutual
theorem thaw_rel {Zf:Nat→Nat→Option Value} {Ef:Env} (hEf:Ef.Z=Zf) (hZ:∀ b j v,E.Z b j=some v→Zf b j=some v) (hO:∀ o,E.live o→∀ k v,w'.cell? ⟨E.β o,k,none⟩=some v→Zf (E.β o) k=some v) (I:Inv P w0 G E h w'):∀ (x:AV) (v:Value),Rel E x v→thawB h x=true→Rel Ef (thaw h x) v
  | .any,_,_,_=>trivial
  | .sc _ _,_,H,_=>H
  | .ptr _ _,_,_,_=>trivial
  | .mp _,_,_,_=>trivial
  | .fn _ _ _,_,_,_=>trivial
  | .rp _ _ _ _ _,_,_,_=>trivial
  | .rw _ _,_,_,hb=>by simp [thawB] at hb
  | .sl kn es d tip,v,⟨h1,_⟩,_=>⟨by rw [hEf]; exact LF.mono hZ _ _ _ h1,trivial⟩
  | .ep kn es d j,v,⟨b,o,h1,h2⟩,_=>⟨b,o,h1,by rw [hEf]; exact EL.mono hZ _ _ _ _ _ h2⟩
  | .agg cs,v,⟨vs,h1,h2,h3⟩,hb=>⟨vs,h1,thaw_relL hEf hZ hO I cs _ h2 (by simpa [thawB] using hb),h3⟩
  | .tup cs,v,⟨vs,h1,h2⟩,hb=>⟨vs,h1,thaw_relL hEf hZ hO I cs _ h2 (by simpa [thawB] using hb)⟩
  | .rsl kn o n len,v,⟨hl,ad,cap,g1,g2,g3,g4,g5⟩,hb=>by
    simp only [thaw]
    simp only [thawB] at hb
    cases hr:rowOf o h with
    | none=>exact trivial
    | some p =>
      obtain ⟨es,d⟩:=p
      simp only
      rw [hr] at hb
      have hlen:len=d.len:=of_decide_eq_true hb
      cases hn:Nat.beq n es.length
      · exact trivial
      · obtain rfl:=Nat.eq_of_beq_eq_true hn
        subst hlen
        obtain ⟨_,cs,ty,hblk,hbd,hre⟩:=row_ob I hr
        refine ⟨⟨hbd,ad,cap,g1,g2,g3,g4,fun hne=>⟨E.β o,0,g5 hne,fun i hi=>?_⟩⟩,trivial⟩
        rw [hEf,Nat.zero_add]
        refine re_el hZ (fun k u hk=>hO o hl k u ?_) (hre i hi)
        have hblk':w'.heap[E.β o]?=some (.cells cs.toList.toArray ty (0,0)):=by simpa using hblk
        rw [cell_of_row w' _ k _ _ _ hblk']
        simpa using hk
theorem thaw_relL {Zf:Nat→Nat→Option Value} {Ef:Env} (hEf:Ef.Z=Zf) (hZ:∀ b j v,E.Z b j=some v→Zf b j=some v) (hO:∀ o,E.live o→∀ k v,w'.cell? ⟨E.β o,k,none⟩=some v→Zf (E.β o) k=some v) (I:Inv P w0 G E h w'):∀ (xs:List AV) (vs:List Value),RelL E xs vs→thawBL h xs=true→RelL Ef (thawL h xs) vs
  | [],_,H,_=>H
  | x :: xs,_,⟨v,vs',h1,h2,h3⟩,hb=>by
    simp only [thawBL] at hb
    cases hx:thawB h x
    · rw [hx] at hb; cases hb
    · rw [hx] at hb; exact ⟨v,vs',h1,thaw_rel hEf hZ hO I x v h2 hx,thaw_relL hEf hZ hO I xs vs' h3 hb⟩
end
end
section
variable {P:Program} {E:Env} {h:Hp} {w w0 w':World} {G:Nat→Prop}
theorem newO_at {cs:List AV} {vs:List Value} (t:Obj) (I:Inv P w0 G E h w) {g:Nat} (hbel:Below w.heap.size w w') (hg:w.heap.size≤g) (hblk:w'.heap[g]?=some t) (hr:RelL E cs vs) (h1:ObOk t vs) :
    ∃ E',Stepd P w0 G E h w E' (newA cs h).2 w'∧E'.live h.nx∧E'.β h.nx=g∧E'.Z=E.Z:=by
  have hnl:¬ E.live h.nx:=fun hl=>by have:=I.nx _ hl; omega
  have hext:Ext E { E with β:=fun o=>if o=h.nx then g else E.β o,live:=fun o=>E.live o∨o=h.nx } :=
    ⟨fun o ho=>.inl ho,fun o ho=>if_neg fun e:o=h.nx=>hnl (e ▸ ho),fun _ _ _ hz=>hz,Nat.le_refl _,Nat.le_refl _,fun _ _=>.inl ⟨rfl,rfl⟩⟩
  have hold:∀ k,k<w.heap.size→w'.heap[k]?=w.heap[k]?:=fun k hk=>hbel.block k hk
  have hlt:∀ o,E.live o→E.β o≠g:=fun o ho=>by have:=I.live_lt ho; omega
  refine ⟨_,⟨hext,⟨I.kpt.then (Kpt.of_below hbel fun _=>False) (fun _ hf=>hf.elim),I.m,I.ng,I.gn,I.gnlt,fun p=>?_,fun p hp=>?_,fun p cp hp=>?_,fun p hp=>?_,fun p q hp hq=>?_,fun b j v hz=>?_,fun p j hp=>?_,fun k hkn=>?_,I.vinj⟩,fun p hp=>?_,fun _ _ _ hz=>.inl hz⟩,.inr rfl,by simp,rfl⟩
  · simp only [newA,lookO_cons]
    split
    · rename_i e; subst e; simp
    · rename_i e
      rw [← I.live p]
      exact ⟨fun hh=>hh.resolve_right fun e'=>e e'.symm,.inl⟩
  · rcases hp with hp | rfl
    · have:=I.nx p hp; simp only [newA]; omega
    · simp only [newA]; omega
  · simp only [newA,lookO_cons] at hp
    split at hp
    · rename_i e; subst e; cases hp
      exact ⟨vs,t,by simp only [if_pos]; exact hblk,RelL.mono hext _ _ hr,h1⟩
    · rename_i e
      obtain ⟨us,t',g1,g2,g3⟩:=I.ob p cp hp
      have hlp:E.live p:=(I.live p).2 (by rw [hp]; rfl)
      refine ⟨us,t',?_,RelL.mono hext _ _ g2,g3⟩
      simp only [if_neg (fun e':p=h.nx=>e (Eq.symm e'))]
      exact (hold _ (I.live_lt hlp)).trans g1
  · rcases hp with hp | rfl
    · simp only [if_neg (fun e:p=h.nx=>hnl (e ▸ hp))]; exact I.own p hp
    · simp only [if_pos]; exact .inl (Nat.le_trans I.kpt.size hg)
  · intro e
    by_cases ep:p=h.nx <;> by_cases eq:q=h.nx
    · rw [ep,eq]
    · simp only [ep,eq,if_pos,if_neg,not_false_eq_true] at e
      exact absurd e.symm (hlt q (hq.resolve_right eq))
    · simp only [ep,eq,if_pos,if_neg,not_false_eq_true] at e
      exact absurd e (hlt p (hp.resolve_right ep))
    · simp only [if_neg ep,if_neg eq] at e
      exact I.inj p q (hp.resolve_right ep) (hq.resolve_right eq) e
  · have hc:=I.z b j v hz
    rw [cell_same (hold b (cell_lt hc))]; exact hc
  · by_cases ep:p=h.nx
    · simp only [if_pos ep]; exact I.z_fresh hg j
    · simp only [if_neg ep]; exact I.zob p j (hp.resolve_right ep)
  · obtain ⟨sz,n,xs,g1,g2,g3,g4⟩:=I.vec k hkn
    refine ⟨sz,n,xs,g1,owns_same g2 fun b hb'=>hold b (owns_lt g2 hb'),g3,fun b hb'=>⟨(g4 b hb').1,fun o ho=>?_,(g4 b hb').2.2⟩⟩
    by_cases ep:o=h.nx
    · simp only [if_pos ep]; have:=owns_lt g2 hb'; omega
    · simp only [if_neg ep]; exact (g4 b hb').2.1 o (ho.resolve_right ep)
  · have:p≠h.nx:=fun e=>hnl (e ▸ hp)
    simp only [ver,newA,cnt_cons,if_neg (fun e:h.nx=p=>this (Eq.symm e))]
    exact ⟨Nat.le_refl _,fun _=>hold _ (I.live_lt hp)⟩
theorem own_rowE (I:Inv P w0 G E h w) {e:TypeId} {kn:Bool} {es:List Sh} {d:D} {v:Value} {news:List Value} (hbel:Below w.heap.size w w') (ho:w'.ownsRow w.heap.size e es.length v d.len news) (h0:d.len≠0) (hbd:d.len*szB es≤room)
    (hre:∀ i,i<d.len→RE E.Z es news.toArray (i*es.length) (d.get i) 0) :
    ∃ E',Stepd P w0 G E h w E' (newA [.rw es d] h).2 w'∧Rel E' (.rsl kn h.nx es.length d.len) v:=by
  rcases ho.2 with ⟨_,hz⟩ | ⟨g,cap,cur,rfl,hg,hblk,hnc,hcm,hcs,htk⟩
  · exact absurd hz h0
  · have hre':∀ i,i<d.len→RE E.Z es cur (i*es.length) (d.get i) 0:=fun i hi=>re_iff.2 fun k s hk=>by
      obtain ⟨u,hu,hl⟩:=re_iff.1 (hre i hi) k s hk
      refine ⟨u,?_,hl⟩
      have hu':news[i*es.length+k]?=some u:=by simpa using hu
      rw [← htk,List.getElem?_take] at hu'
      split at hu'
      · simpa using hu'
      · cases hu'
    obtain ⟨E',g1,g2,g3,g4⟩:=newO_at (.cells cur e (0,0)) (cs:=[.rw es d]) (vs:=[.agg cur]) I hbel hg hblk ⟨_,[],rfl,⟨hbd,cur,rfl,hre'⟩,rfl⟩ (.inr (.inr ⟨cur,e,rfl,rfl⟩))
    exact ⟨E',g1,g2,_,cap,rfl,hnc,hcm,(fun hn=>by cases hn),fun _=>by rw [g3]⟩
end
mutual
def thawR (h:Hp):AV→RT AV
  | .rsl kn o n len=>match rowOf o h with
    | some (es,d)=>bif Nat.beq n es.length then need kn (decide (len=d.len)) 213 (.ok (.sl kn es d none)) else .bad 213
    | none=>.ok .any
  | .rp _ _ _ _ _=>.ok .any
  | .rw _ _=>.bad 214
  | .ptr _ _=>.ok .any
  | .mp _=>.ok .any
  | .sl kn es d _=>.ok (.sl kn es d none)
  | .fn _ _ _=>.ok .any
  | .agg cs=>(thawRL h cs).bind fun cs=>.ok (.agg cs)
  | .tup vs=>(thawRL h vs).bind fun vs=>.ok (.tup vs)
  | .any=>.ok .any
  | .sc kn v=>.ok (.sc kn v)
  | .ep kn es d j=>.ok (.ep kn es d j)
def thawRL (h:Hp):List AV→RT (List AV)
  | []=>.ok []
  | x :: xs=>(thawR h x).bind fun x=>(thawRL h xs).bind fun xs=>.ok (x :: xs)
end
mutual
theorem thawR_ok {h:Hp}:∀ {x:AV} {Q:AV→Prop},(thawR h x).holds Q→thawB h x=true∧Q (thaw h x)
  | .rsl kn o n len,Q,H=>by
    simp only [thawR] at H
    simp only [thawB,thaw]
    split at H
    · rename_i es d hr
      cases hn:Nat.beq n es.length
      · rw [hn] at H; exact H.elim
      · rw [hn] at H
        obtain ⟨h1,h2⟩:=need_holds H
        exact ⟨h1,h2⟩
    · exact ⟨rfl,H⟩
  | .rp _ _ _ _ _,Q,H=>⟨rfl,H⟩
  | .rw _ _,Q,H=>H.elim
  | .ptr _ _,Q,H=>⟨rfl,H⟩
  | .mp _,Q,H=>⟨rfl,H⟩
  | .sl _ _ _ _,Q,H=>⟨rfl,H⟩
  | .fn _ _ _,Q,H=>⟨rfl,H⟩
  | .agg cs,Q,H=>by
    simp only [thawR,RT.holds_bind] at H
    simp only [thawB,thaw]
    exact thawRL_ok (Q:=fun cs=>Q (.agg cs)) H
  | .tup cs,Q,H=>by
    simp only [thawR,RT.holds_bind] at H
    simp only [thawB,thaw]
    exact thawRL_ok (Q:=fun cs=>Q (.tup cs)) H
  | .any,Q,H=>⟨rfl,H⟩
  | .sc _ _,Q,H=>⟨rfl,H⟩
  | .ep _ _ _ _,Q,H=>⟨rfl,H⟩
theorem thawRL_ok {h:Hp}:∀ {xs:List AV} {Q:List AV→Prop},(thawRL h xs).holds Q→thawBL h xs=true∧Q (thawL h xs)
  | [],Q,H=>⟨rfl,H⟩
  | x :: xs,Q,H=>by
    simp only [thawRL,RT.holds_bind] at H
    simp only [thawBL,thawL]
    obtain ⟨h1,h2⟩:=thawR_ok (x:=x) (Q:=fun x=>(thawRL h xs).holds fun ys=>Q (x :: ys)) H
    obtain ⟨h3,h4⟩:=thawRL_ok (xs:=xs) (Q:=fun ys=>Q (thaw h x :: ys)) h2
    rw [h1,cond_true]
    exact ⟨h3,h4⟩
end
def treeR (sp:Spec) (args:List AV):RT AV:=(sp args hp0).bind fun x=>thawR x.2 x.1
theorem pureS_row {P:Program} {f:FuncId} {sp:Spec} (hs:SoundF P f sp) {F:List AV→RT AV} (hF:∀ args K,okL args→(F args).holds K→∃ args',(∀ E vs,RelL E args vs→RelL E args' vs)∧(treeR sp args').holds fun r=>∃ y,Le r y∧K y):SoundF P f (pureS P f F):=by
  intro args h K H w0 G E w vals I hr
  unfold pureS at H
  rw [RT.holds_bind] at H
  obtain ⟨args',hle,h1⟩:=hF _ _ (ok_relL _ _ (args0_rel hr)) H
  unfold treeR at h1
  rw [RT.holds_bind] at h1
  have I2:=(I.ren (os:=[]) (ks:=[]) (g0:=0) .nil .nil (by simp) 0).top
  have hr2:=ren_relL (os:=[]) (ks:=[]) (g0:=0) I _ _ hr
  rw [ren_stripL] at hr2
  refine (hs _ _ _ h1 w _ _ w vals I2 (hle _ _ (nilAs_rel _ _ _ (dull_relL _ _ hr2)))).mono ?_
  rintro e w' ⟨r,h',v,E',hK,rfl,S,hv⟩
  have hno:∀ b,¬ (E.ren [] [] 0).mine b:=by
    rintro b (⟨o,⟨p,hp,_⟩,_⟩ | ⟨k,hk,_⟩)
    · simp at hp
    · simp [Env.ren] at hk
  have hbel:Below w.heap.size w w':=S.inv.kpt.below fun k hk=>absurd hk (hno k)
  have S3:=I.fresh hbel
  obtain ⟨hb,y,hy,hK⟩:=thawR_ok hK
  have hv3:Rel (E.fresh w w') (thaw h' r) v:=by
    refine thaw_rel (E:=E') (Zf:=(E.fresh w w').Z) rfl (fun b j u hz=>?_) (fun o ho k u hu=>?_) S.inv r v hv hb
    · show (if b<w.heap.size then E.Z b j else w'.cell? ⟨b,j,none⟩)=some u
      by_cases hlt:b<w.heap.size
      · rw [if_pos hlt]
        rcases S.zn b j u hz with h | h | h
        · exact h
        · omega
        · exact absurd h (hno b)
      · rw [if_neg hlt]; exact S.inv.z b j u hz
    · show (if E'.β o<w.heap.size then E.Z (E'.β o) k else w'.cell? ⟨E'.β o,k,none⟩)=some u
      rcases S.inv.own o ho with h | h
      · rw [if_neg (by omega)]; exact hu
      · exact absurd h (hno _)
  refine ⟨_,h,v,_,hK,rfl,S3,?_⟩
  cases allKL args
  · exact hy _ _ hv3
  · exact know_rel _ _ (hy _ _ hv3)
theorem pure_row {P:Program} {gs:List (FuncId×Spec)} {ls:List (FuncId×Nat×BSpec)} (hm:Fit P) (hΓ:GamL P gs) (hΛ:LamL P ls) (f n:Nat) {F:List AV→RT AV} (hF:∀ args K,okL args→(F args).holds K→(treeR (evF P (gam gs) (lam ls) n f) args).holds fun r=>∃ y,Le r y∧K y):SoundF P f (pureS P f F) :=
  pureS_row (evF_ok hm (gam_ok hΓ) (lam_ok hΛ) n f) fun args K ho H=>⟨args,fun _ _ h=>h,hF args K ho H⟩
def altB (c:Tm→Hp→Bool) (s1 s2:BSpec):BSpec:=fun F h=>bif c F h then s1 F h else s2 F h
theorem altB_ok {P:Program} {f:FuncId} {id:Nat} {c:Tm→Hp→Bool} {s1 s2:BSpec} (h1:LamE P f id s1) (h2:LamE P f id s2):LamE P f id (altB c s1 s2):=by
  intro fn b hp x hx F h K H
  unfold altB at H
  cases hc:c F h
  · rw [hc] at H; exact h2 fn b hp x hx F h K H
  · rw [hc] at H; exact h1 fn b hp x hx F h K H
def runB (P:Program) (gs:List (FuncId×Spec)) (n:Nat) (f:FuncId) (id:Nat):BSpec:=fun F h=>evC P (gam gs) (lam []) n f (.block id (.loop (loopAt id (bodyOf P f)))) F h
theorem runB_ok {P:Program} {gs:List (FuncId×Spec)} (hm:Fit P) (hΓ:GamL P gs) (f id n:Nat) (hl:isLoop id (bodyOf P f)=true):LamE P f id (runB P gs n f id):=by
  intro fn b hp c hc
  have hb:bodyOf P f=b:=by unfold bodyOf; rw [hp]
  have hl':=hl
  rw [hb] at hl'
  rw [isLoop_ok hl'] at hc
  obtain rfl:=List.mem_singleton.1 hc
  intro F h K H
  unfold runB at H
  rw [hb] at H
  exact (codeOk hm (gam_ok hΓ) (lam_ok (l:=[]) trivial) n).1 f _ F h K H (fun i sp hs=>by cases hs)
def knT (t:Nat) (F:Tm) (_:Hp):Bool:=match look t F.tm with | .sc kn _=>kn | _=>false
end
end Go.Proofs.YtbgmclbcjdbcmaaGreat
namespace Go.Proofs.YtbgmclbcjdbcmaaGreat
set_option linter.unusedSimpArgs false
set_option linter.unusedVariables false
open Go.RowKit Go.ChangeShapes Go.WideShapes Go.ChangeAt
end Go.Proofs.YtbgmclbcjdbcmaaGreat
namespace Go.Proofs.YtbgmclbcjdbcmaaGreat
set_option linter.unusedSimpArgs false
set_option linter.unusedVariables false
open Go.RowKit Go.ChangeShapes Go.WideShapes Go.ChangeAt
set_option maxRecDepth 10000
theorem list_of_each {α:Type} {Q:Nat→α→Prop}:∀ (k:Nat),(∀ i,i<k→∃ y,Q i y)→∃ l:List α,l.length=k∧∀ i y,l[i]?=some y→Q i y
  | 0,_=>⟨[],rfl,fun i y h=>by simp at h⟩
  | k+1,h=>by
    obtain ⟨l,h1,h2⟩:=list_of_each k (fun i hi=>h i (by omega))
    obtain ⟨y,hy⟩:=h k (by omega)
    refine ⟨l ++ [y],by simp [h1],fun i z hz=>?_⟩
    by_cases hi:i<l.length
    · rw [List.getElem?_append_left hi] at hz; exact h2 i z hz
    · have hil:=(List.getElem?_eq_some_iff.1 hz).1
      simp only [List.length_append,List.length_cons,List.length_nil] at hil
      obtain rfl:i=k:=by omega
      rw [List.getElem?_append_right (by omega),h1] at hz
      simp only [Nat.sub_self,List.getElem?_cons_zero,Option.some.injEq] at hz
      exact hz ▸ hy
theorem addr_add_eq {b o k:Nat}:(⟨b,o,none⟩:Addr).add k=⟨b,o+k,none⟩:=by unfold Addr.add; split <;> simp_all
theorem arg_agg {P:Program} {w:World} {r:Reach} {b0 t:Nat} {v:Value} {fs:Array Field} (ht:P.underlying t=some (.struct fs)) (h:Value.okWide P w r b0 t v):∃ cs:List Value,v=.agg cs.toArray:=by
  simp only [Value.okWide,ht] at h
  obtain ⟨cs,h1,_⟩:=h
  exact ⟨cs.toList,by rw [h1]⟩
end Go.Proofs.YtbgmclbcjdbcmaaGreat
namespace Go.Proofs.YtbgmclbcjdbcmaaGreat
set_option linter.unusedSimpArgs false
set_option linter.unusedVariables false
open Go.RowKit Go.ChangeShapes Go.WideShapes Go.ChangeAt
set_option maxRecDepth 10000
noncomputable section
mutual
def wfS:Sh→D→Prop
  | .int k,d=>k.min≤d.toI∧d.toI≤k.max
  | .bool,_=>True
  | .str,d=>d.toS.size≤maxLen∧d.toS.size≤reachBytes
  | .sl es,d=>d.len*szB es≤reachBytes∧∀ i,i<d.len→wfE es (d.get i) 0
def wfE:List Sh→D→Nat→Prop
  | [],_,_=>True
  | s :: ss,d,j=>wfS s (d.cell j)∧wfE ss d (j+1)
end
def CL (Z:Nat→Nat→Option Value):List Sh→List Value→List D→Prop
  | [],vs,ds=>vs=[]∧ds=[]
  | s :: ss,vs,ds=>∃ v vs' d ds',vs=v :: vs'∧ds=d :: ds'∧LF Z s v d∧wfS s d∧CL Z ss vs' ds'
def zc (w:World) (b o:Nat):Option Value:=w.cell? ⟨b,o,none⟩
section
variable {Z:Nat→Nat→Option Value}
theorem CL.length:∀ {es:List Sh} {cs:List Value} {ds:List D},CL Z es cs ds→cs.length=es.length∧ds.length=es.length
  | [],_,_,⟨h1,h2⟩=>by subst h1 h2; exact ⟨rfl,rfl⟩
  | _ :: _,_,_,⟨_,_,_,_,h1,h2,_,_,h3⟩=>by
    subst h1 h2
    obtain ⟨a,b⟩:=CL.length h3
    exact ⟨by simp [a],by simp [b]⟩
theorem CL.append:∀ {es es':List Sh} {cs cs':List Value} {ds ds':List D},CL Z es cs ds→CL Z es' cs' ds'→CL Z (es ++ es') (cs ++ cs') (ds ++ ds')
  | [],_,_,_,_,_,⟨h1,h2⟩,h=>by subst h1 h2; exact h
  | _ :: _,_,_,_,_,_,⟨v,vs',d,ds',h1,h2,h3,h4,h5⟩,h=>by
    subst h1 h2
    exact ⟨v,_,d,_,rfl,rfl,h3,h4,CL.append h5 h⟩
theorem CL.el:∀ {es:List Sh} {cs:List Value} {ds:List D} {d:D} {b o j:Nat},CL Z es cs ds→(∀ i v,cs[i]?=some v→Z b (o+i)=some v)→(∀ i x,ds[i]?=some x→d.cell (j+i)=x)→EL Z es b o d j
  | [],_,_,_,_,_,_,_,_,_=>trivial
  | s :: ss,_,_,d,b,o,j,⟨v,vs',x,ds',h1,h2,h3,_,h5⟩,hz,hd=>by
    subst h1 h2
    refine ⟨⟨v,hz 0 v rfl,?_⟩,CL.el h5 (fun i u hu=>?_) fun i y hy=>?_⟩
    · rw [show d.cell j=x from hd 0 x rfl]; exact h3
    · rw [Nat.add_assoc,Nat.add_comm 1 i]; exact hz (i+1) u (by simpa using hu)
    · rw [Nat.add_assoc,Nat.add_comm 1 i]; exact hd (i+1) y (by simpa using hy)
theorem CL.wf:∀ {es:List Sh} {cs:List Value} {ds:List D} {d:D} {j:Nat},CL Z es cs ds→(∀ i x,ds[i]?=some x→d.cell (j+i)=x)→wfE es d j
  | [],_,_,_,_,_,_=>trivial
  | s :: ss,_,_,d,j,⟨v,vs',x,ds',h1,h2,_,h4,h5⟩,hd=>by
    subst h1 h2
    refine ⟨?_,CL.wf h5 fun i y hy=>?_⟩
    · rw [show d.cell j=x from hd 0 x rfl]; exact h4
    · rw [Nat.add_assoc,Nat.add_comm 1 i]; exact hd (i+1) y (by simpa using hy)
end
def OpD (P:Program) (t:TypeId) (es:List Sh):Prop :=
  ∀ (H:Type) (enc:TypeId×Value→H) (w:World) (base:Nat) (spare:Nat→Bool) (held:Bool) (fuel:Nat) (cs:List Value) (x:DataW H×List MemPlace),
    DataW.trod enc P w base spare held fuel t cs=some x→(x.1.weights P t).all (·≤reachBytes)=true→∃ ds,CL (zc w) es cs ds
section
variable {P:Program} {t:TypeId}
theorem opD_one {w:World} {s:Sh} {v:Value} {d:D} (h:LF (zc w) s v d) (hw:wfS s d):∃ ds,CL (zc w) [s] [v] ds:=⟨[d],v,[],d,[],rfl,rfl,h,hw,rfl,rfl⟩
theorem opD_int {k:IntKind} (ht:P.underlying t=some (.int k)):OpD P t [.int k]:=fun H enc w base spare held fuel cs x h _=>by
  obtain ⟨n,rfl,_,h2⟩:=DataW.trod_int ht h
  have h2':k.min≤n∧n≤k.max:=by simpa [Lit.wf] using h2
  exact opD_one (d:=.i n) rfl h2'
theorem opD_bool (ht:P.underlying t=some .bool):OpD P t [.bool]:=fun H enc w base spare held fuel cs x h _=>by
  obtain ⟨b,rfl,_⟩:=DataW.trod_bool ht h
  exact opD_one (d:=.b b) rfl trivial
theorem opD_str (ht:P.underlying t=some .string):OpD P t [.str]:=fun H enc w base spare held fuel cs x h hw=>by
  obtain ⟨s,rfl,rfl,h2⟩:=DataW.trod_string ht h
  refine opD_one (d:=.s s) rfl ⟨h2,?_⟩
  have:s.data.toList.length≤reachBytes:=by simpa [DataW.weights] using hw
  rw [Array.length_toList] at this
  exact this
theorem weightsAll_mem {H:Type} {e:TypeId}:∀ {l:List (DataW H)},(DataW.weightsAll P e l).all (·≤reachBytes)=true→∀ d ∈ l,(d.weights P e).all (·≤reachBytes)=true
  | [],_,_,h=>by cases h
  | x :: l,h,d,hd=>by
    rw [DataW.weightsAll,List.all_append,Bool.and_eq_true] at h
    rcases List.mem_cons.1 hd with rfl | hd
    · exact h.1
    · exact weightsAll_mem h.2 d hd
theorem opD_slice {e:TypeId} {es:List Sh} (ht:P.underlying t=some (.slice e)) (he:OpD P e es) (hn:P.cellsOf e=es.length) (hpos:0<es.length) (hb:szB es≤P.bytesOf e):OpD P t [.sl es]:=fun H enc w base spare held fuel cs x h hw=>by
  have hrr:reachBytes≤room:=by unfold reachBytes room; omega
  rcases DataW.trod_slice ht h with ⟨rfl,_⟩ | ⟨a,len,cap,elems,rest,m,_,rfl,rfl,_,hl,hm,hlen,hel,_,_⟩
  · have h0:(D.l []).len=0:=by simp [D.len,D.toL,D.raw]
    exact opD_one (d:=.l []) ⟨by rw [h0,Nat.zero_mul]; exact Nat.zero_le _,none,0,by rw [h0],by rw [h0]; exact Nat.le_refl _,Nat.zero_le _,fun _=>rfl,fun hn=>absurd h0 hn⟩ ⟨by rw [h0,Nat.zero_mul]; exact Nat.zero_le _,fun i hi=>by omega⟩
  · rw [DataW.weights,ht] at hw
    simp only [List.all_cons,Bool.and_eq_true,decide_eq_true_eq,List.all_append,List.length_map] at hw
    obtain ⟨hw1,hw2,_⟩:=hw
    have hex:∀ i,i<len→∃ ds,∃ cs',w.cells? base (a.add (i*es.length)) es.length=some cs'∧CL (zc w) es cs' ds:=fun i hi=>by
      have:=hel i hi
      rw [hn,List.getElem?_eq_getElem (by omega)] at this
      obtain ⟨cs',h1,h2⟩:=Option.bind_eq_some_iff.1 this
      obtain ⟨ds,hd⟩:=he H enc w base spare held m cs' _ h2 (weightsAll_mem hw2 _ (List.mem_map_of_mem (List.getElem_mem _)))
      exact ⟨ds,cs',h1,hd⟩
    obtain ⟨l,hll,hl2⟩:=list_of_each (Q:=fun i ds=>∃ cs',w.cells? base (a.add (i*es.length)) es.length=some cs'∧CL (zc w) es cs' ds) len hex
    have hlm:(l.map D.t).length≤maxLen:=by simp; omega
    have htl:(D.l (l.map .t)).toL=l.map .t:=toL_l hlm
    have hdl:(D.l (l.map .t)).len=len:=by unfold D.len; rw [htl]; simp [hll]
    have hget:∀ i,i<len→∃ ds,l[i]?=some ds∧(D.l (l.map .t)).get i=.t ds:=fun i hi=>by
      refine ⟨l[i],List.getElem?_eq_getElem (by omega),?_⟩
      unfold D.get; rw [htl,List.getD_eq_getElem?_getD]
      simp [show i<l.length by omega]
    have hsz:len*szB es≤reachBytes:=by
      refine Nat.le_trans (Nat.mul_le_mul_left _ hb) (Nat.le_trans (Nat.mul_le_mul_right _ ?_) hw1)
      omega
    refine opD_one (d:=.l (l.map .t)) ⟨by rw [hdl]; exact Nat.le_trans hsz hrr,some a,cap,by rw [hdl],by rw [hdl]; exact hl,hm,(fun h=>by cases h),fun hne=>?_⟩ ⟨by rw [hdl]; exact hsz,fun i hi=>?_⟩
    · rw [hdl] at hne ⊢
      have cel:∀ i (cs':List Value),w.cells? base (a.add (i*es.length)) es.length=some cs'→cs'.length=es.length∧∀ j,j<es.length→w.cell? ((a.add (i*es.length)).add j)=cs'[j]?:=fun i cs' h=>by
        have:=World.cells?_some h
        exact ⟨this.2.1,this.2.2⟩
      obtain ⟨ds0,h00,_⟩:=hget 0 (by omega)
      obtain ⟨cs0,h0,_⟩:=hl2 0 _ h00
      obtain ⟨k1,k2⟩:=cel 0 cs0 h0
      have hz:=k2 0 hpos
      rw [Nat.zero_mul,List.getElem?_eq_getElem (by omega)] at hz
      have hs:a.spot=none:=by
        have e0:(a.add 0).add 0=a:=rfl
        rw [e0] at hz
        unfold World.cell? at hz
        split at hz
        · split at hz
          · cases hz
          · rename_i hh; simpa using hh
        · cases hz
      obtain ⟨b,o,sp⟩:=a
      obtain rfl:sp=none:=hs
      refine ⟨b,o,rfl,fun i hi=>?_⟩
      obtain ⟨ds,h1,h2⟩:=hget i hi
      obtain ⟨cs',g1,g2⟩:=hl2 i ds h1
      obtain ⟨k3,k4⟩:=cel i cs' g1
      rw [h2]
      refine g2.el (fun j v hv=>?_) fun j y hy=>?_
      · have hj:j<es.length:=by have:=(List.getElem?_eq_some_iff.1 hv).1; omega
        have:=k4 j hj
        rw [addr_add_eq,addr_add_eq] at this
        exact this.trans hv
      · show List.getD ds (0+j) .n=y
        rw [Nat.zero_add,List.getD_eq_getElem?_getD,hy]; rfl
    · rw [hdl] at hi
      obtain ⟨ds,h1,h2⟩:=hget i hi
      obtain ⟨cs',g1,g2⟩:=hl2 i ds h1
      rw [h2]
      exact g2.wf fun j y hy=>by
        show List.getD ds (0+j) .n=y
        rw [Nat.zero_add,List.getD_eq_getElem?_getD,hy]; rfl
theorem opD_fields {H:Type} {enc:TypeId×Value→H} {w:World} {base:Nat} {spare:Nat→Bool} {held:Bool} {fuel:Nat} (g:TypeId→Option (List Sh)) (hg:∀ u es,g u=some es→OpD P u es) (chkF:List Field→Nat→Option (List Sh))
    (hnil:∀ off,chkF [] off=some []) (hcons:∀ f fs off es,chkF (f :: fs) off=some es→∃ a b,g f.type=some a∧f.offset=off∧P.cellsOf f.type=a.length∧chkF fs (off+a.length)=some b∧es=a ++ b) :
    ∀ (fs:List Field) (off:Nat) (es:List Sh) (cs:List Value) (xs:List (DataW H×List MemPlace)),chkF fs off=some es→cs.length=off+es.length→xs.length=fs.length →
      (∀ (i:Nat) (f:Field),fs[i]?=some f→DataW.trod enc P w base spare held fuel f.type ((cs.drop f.offset).take (P.cellsOf f.type))=xs[i]?) →
      (DataW.weightsEach P (fs.map (·.type)) (xs.map (·.1))).all (·≤reachBytes)=true→∃ ds,CL (zc w) es (cs.drop off) ds
  | [],off,es,cs,xs,hc,hl,_,_,_=>by
    rw [hnil] at hc; cases hc
    exact ⟨[],List.drop_eq_nil_of_le (by simp at hl; omega),rfl⟩
  | f :: fs,off,es,cs,[],hc,hl,hx,_,_=>by simp at hx
  | f :: fs,off,es,cs,x :: xs,hc,hl,hx,ht,hw=>by
    obtain ⟨a,b,h1,rfl,h3,h4,rfl⟩:=hcons f fs off es hc
    rw [List.length_append] at hl
    simp only [List.map_cons,DataW.weightsEach,List.all_append,Bool.and_eq_true] at hw
    have h5:=ht 0 f rfl
    rw [h3] at h5
    obtain ⟨ds,hd⟩:=hg _ _ h1 H enc w base spare held fuel _ x h5 hw.1
    obtain ⟨ds',hd'⟩:=opD_fields g hg chkF hnil hcons fs (f.offset+a.length) b cs xs h4 (by omega) (by simpa using hx) (fun i f' hf=>by simpa using ht (i+1) f' (by simpa using hf)) hw.2
    refine ⟨ds ++ ds',?_⟩
    have:=hd.append hd'
    rwa [← List.drop_drop,List.take_append_drop] at this
end
def chkF (P:Program) (g:TypeId→Option (List Sh)):List Field→Nat→Option (List Sh)
  | [],_=>some []
  | f :: fs,off=>match g f.type with
    | some a=>bif Nat.beq f.offset off&&Nat.beq (P.cellsOf f.type) a.length then (match chkF P g fs (off+a.length) with | some b=>some (a ++ b) | none=>none) else none
    | none=>none
def chkT (P:Program):Nat→TypeId→Option (List Sh)
  | 0,_=>none
  | n+1,t=>match P.underlying t with
    | some (.int k)=>some [.int k]
    | some .bool=>some [.bool]
    | some .string=>some [.str]
    | some (.slice e)=>match chkT P n e with
      | some es=>bif Nat.beq (P.cellsOf e) es.length&&Nat.blt 0 es.length&&Nat.ble (szB es) (P.bytesOf e) then some [.sl es] else none
      | none=>none
    | some (.struct fs)=>match chkF P (chkT P n) fs.toList 0 with
      | some es=>bif Nat.beq (P.cellsOf t) es.length then some es else none
      | none=>none
    | some (.array m e)=>match chkT P n e with
      | some es=>bif Nat.beq (P.cellsOf e) es.length&&Nat.beq (P.cellsOf t) (m*es.length) then some (List.replicate m es).flatten else none
      | none=>none
    | _=>none
theorem opD_rows {Z:Nat→Nat→Option Value} {es:List Sh}:∀ (m:Nat) (cs:List Value),cs.length=m*es.length→(∀ i,i<m→∃ ds,CL Z es ((cs.drop (i*es.length)).take es.length) ds)→∃ ds,CL Z (List.replicate m es).flatten cs ds
  | 0,cs,hl,_=>⟨[],List.eq_nil_of_length_eq_zero (by simpa using hl),rfl⟩
  | m+1,cs,hl,h=>by
    obtain ⟨ds,hd⟩:=h 0 (by omega)
    obtain ⟨ds',hd'⟩:=opD_rows (Z:=Z) (es:=es) m (cs.drop es.length) (by rw [List.length_drop,hl,Nat.succ_mul]; omega) (fun i hi=>by
      obtain ⟨x,hx⟩:=h (i+1) (by omega)
      exact ⟨x,by rwa [List.drop_drop,show es.length+i*es.length=(i+1)*es.length by rw [Nat.succ_mul]; omega]⟩)
    refine ⟨ds ++ ds',?_⟩
    rw [Nat.zero_mul,List.drop_zero] at hd
    have:=hd.append hd'
    rw [List.take_append_drop] at this
    rw [List.replicate_succ,List.flatten_cons]
    exact this
theorem opD_of {P:Program}:∀ (n:Nat) (t:TypeId) (es:List Sh),chkT P n t=some es→OpD P t es
  | 0,_,_,h=>by cases h
  | n+1,t,es,h=>by
    simp only [chkT] at h
    split at h
    · rename_i k hu; cases h; exact opD_int hu
    · rename_i hu; cases h; exact opD_bool hu
    · rename_i hu; cases h; exact opD_str hu
    · rename_i e hu
      cases he:chkT P n e with
      | none=>simp [he] at h
      | some es' =>
        simp only [he] at h
        cases hc:Nat.beq (P.cellsOf e) es'.length&&Nat.blt 0 es'.length&&Nat.ble (szB es') (P.bytesOf e)
        · rw [hc] at h; cases h
        · rw [hc] at h; cases h
          simp only [Bool.and_eq_true] at hc
          exact opD_slice hu (opD_of n e es' he) (Nat.eq_of_beq_eq_true hc.1.1) (Nat.le_of_ble_eq_true hc.1.2) (Nat.le_of_ble_eq_true hc.2)
    · rename_i fs hu
      cases hf:chkF P (chkT P n) fs.toList 0 with
      | none=>simp [hf] at h
      | some es' =>
        simp only [hf] at h
        cases hc:Nat.beq (P.cellsOf t) es'.length
        · rw [hc] at h; cases h
        · rw [hc] at h; cases h
          have hl:=Nat.eq_of_beq_eq_true hc
          intro H enc w base spare held fuel cs x hx hw
          obtain ⟨xs,m,_,rfl,h1,h2,h3⟩:=DataW.trod_struct hu hx
          rw [DataW.weights,hu] at hw
          obtain ⟨ds,hd⟩:=opD_fields (chkT P n) (fun u es hu=>opD_of n u es hu) (chkF P (chkT P n)) (fun _=>rfl) (fun f fs off es hc=>by
            simp only [chkF] at hc
            split at hc
            · rename_i a ha
              cases hb:Nat.beq f.offset off&&Nat.beq (P.cellsOf f.type) a.length
              · rw [hb] at hc; cases hc
              · rw [hb] at hc
                simp only [Bool.and_eq_true] at hb
                simp only [cond_true] at hc
                split at hc
                · rename_i b hb'
                  cases hc
                  exact ⟨a,b,ha,Nat.eq_of_beq_eq_true hb.1,Nat.eq_of_beq_eq_true hb.2,hb',rfl⟩
                · cases hc
            · cases hc) fs.toList 0 _ cs xs hf (by rw [h1,hl,Nat.zero_add]) (by simpa using h2) (fun i f hf'=>h3 i f (by simpa using hf')) (by simpa using hw)
          exact ⟨ds,by simpa using hd⟩
    · rename_i m e hu
      cases he:chkT P n e with
      | none=>simp [he] at h
      | some es' =>
        simp only [he] at h
        cases hc:Nat.beq (P.cellsOf e) es'.length&&Nat.beq (P.cellsOf t) (m*es'.length)
        · rw [hc] at h; cases h
        · rw [hc] at h; cases h
          simp only [Bool.and_eq_true] at hc
          have hce:=Nat.eq_of_beq_eq_true hc.1
          intro H enc w base spare held fuel cs x hx hw
          obtain ⟨xs,k,_,rfl,h1,h2,h3⟩:=DataW.trod_array hu hx
          rw [DataW.weights,hu] at hw
          refine opD_rows m cs (by rw [h1,Nat.eq_of_beq_eq_true hc.2]) fun i hi=>?_
          have:=h3 i hi
          rw [hce,List.getElem?_eq_getElem (by omega)] at this
          exact opD_of n e es' he H enc w base spare held k _ _ this (weightsAll_mem hw _ (List.mem_map_of_mem (List.getElem_mem _)))
    · cases h
def avL:List Sh→List D→List AV
  | s :: ss,d :: ds=>leaf false s d :: avL ss ds
  | _,_=>[]
theorem leaf_rel {E:Env} {s:Sh} {v:Value} {d:D} (h:LF E.Z s v d):Rel E (leaf false s d) v:=by
  cases s with
  | int k=>exact ⟨h,rfl⟩
  | bool=>exact ⟨h,rfl⟩
  | str=>exact ⟨h,rfl⟩
  | sl es=>exact ⟨h,trivial⟩
theorem avL_rel {E:Env}:∀ {es:List Sh} {cs:List Value} {ds:List D},CL E.Z es cs ds→RelL E (avL es ds) cs
  | [],_,_,⟨h1,h2⟩=>by subst h1 h2; rfl
  | _ :: _,_,_,⟨v,vs',d,ds',h1,h2,h3,_,h5⟩=>by subst h1 h2; exact ⟨v,vs',rfl,leaf_rel h3,avL_rel h5⟩
theorem cl_one {Z:Nat→Nat→Option Value}:∀ {es:List Sh} {cs:List Value} {ds:List D},CL Z es cs ds→∀ u ∈ cs,u.oneCell'=true
  | [],_,_,⟨h1,_⟩,u,hu=>by subst h1; cases hu
  | s :: _,_,_,⟨v,vs',d,ds',h1,_,h3,_,h5⟩,u,hu=>by
    subst h1
    rcases List.mem_cons.1 hu with rfl | hu
    · cases s with
      | int k=>rw [show u=_ from h3]; rfl
      | bool=>rw [show u=_ from h3]; rfl
      | str=>rw [show u=_ from h3]; rfl
      | sl es=>obtain ⟨_,ad,cap,rfl,_⟩:=h3; rfl
    · exact cl_one h5 u hu
def wfL:List Sh→List D→Prop
  | s :: ss,d :: ds=>wfS s d∧wfL ss ds
  | _,_=>True
theorem cl_wf {Z:Nat→Nat→Option Value}:∀ {es:List Sh} {cs:List Value} {ds:List D},CL Z es cs ds→wfL es ds
  | [],_,_,⟨_,h2⟩=>by subst h2; trivial
  | _ :: _,_,_,⟨_,_,_,_,_,h2,_,h4,h5⟩=>by subst h2; exact ⟨h4,cl_wf h5⟩
def env0 (w:World):Env:={ β:=fun _=>0,live:=fun _=>False,Z:=zc w,vc:=fun _=>.slice none 0 0,gn:=fun _=>0,ve:=fun _=>0,m:=0,ng:=0 }
theorem inv0 {P:Program} (w:World):Inv P w (fun _=>False) (env0 w) hp0 w :=
  ⟨Kpt.refl _ _,rfl,rfl,fun k hk=>absurd hk (Nat.not_lt_zero k),fun k hk=>absurd hk (Nat.not_lt_zero k),fun o=>⟨fun h=>h.elim,fun h=>by simp [hp0,lookO] at h⟩,fun o h=>h.elim,fun o cs h=>by simp [hp0,lookO] at h,fun o h=>h.elim,fun o o' h=>h.elim,fun b j v hv=>hv,fun o j h=>h.elim,fun k hk=>absurd hk (Nat.not_lt_zero k),fun k k' b hk=>absurd hk (Nat.not_lt_zero k)⟩
theorem law_calls {P:Program} {f:FuncId} {sp:Spec} (hs:SoundF P f sp) {args:List AV} {vals:List Value} {w:World} (hr:RelL (env0 w) args vals) (H:(treeF sp args).holds fun r=>Le r (.sc false (.bool true))) :
    Calls P f vals.toArray w fun e w'=>e=.returned (.bool true)∧Below w.heap.size w w':=by
  unfold treeF at H
  rw [RT.holds_bind] at H
  refine (hs args hp0 _ H w (fun _=>False) (env0 w) w vals (inv0 w) hr).mono ?_
  rintro e w' ⟨r,h',v,E',hK,rfl,S,hv⟩
  obtain ⟨rfl,_⟩:=hK E' v (strip_rel _ _ hv)
  exact ⟨rfl,S.inv.kpt.below fun _ h=>h.elim⟩
theorem arg_open {P:Program} {H:Type} {enc:TypeId×Value→H} {w:World} {base:Nat} {spare:Nat→Bool} {held:Bool} {t:TypeId} {v:Value} {d:DataW H} {p:List MemPlace} {es:List Sh} (hc:chkT P 8 t=some es)
    (h:DataW.Trod enc P w base spare held t v d p) (hw:(d.weights P t).all (·≤reachBytes)=true):∃ ds,CL (zc w) es v.cells.toList ds:=by
  obtain ⟨fuel,hf⟩:=h
  exact opD_of 8 t es hc H enc w base spare held fuel _ _ hf hw
theorem list1 {α:Type} {l:List α} (h:l.length=1):∃ x0,l=[x0]:=by
  match l,h with
  | [x0],_=>exact ⟨x0,rfl⟩
theorem list8 {α:Type} {l:List α} (h:l.length=8):∃ x0 x1 x2 x3 x4 x5 x6 x7,l=[x0,x1,x2,x3,x4,x5,x6,x7]:=by
  match l,h with
  | [x0,x1,x2,x3,x4,x5,x6,x7],_=>exact ⟨x0,x1,x2,x3,x4,x5,x6,x7,rfl⟩
theorem relL_head {E:Env} {x:AV} {v:Value} (h:RelL E [x] [v]):Rel E x v:=by
  obtain ⟨u,r,h1,h2,_⟩:=h
  cases h1
  exact h2
theorem relL_nil {E:Env}:RelL E [] []:=rfl
theorem relL_cons {E:Env} {x:AV} {v:Value} {xs:List AV} {vs:List Value} (h:Rel E x v) (hs:RelL E xs vs):RelL E (x :: xs) (v :: vs):=⟨v,vs,rfl,h,hs⟩
end
end Go.Proofs.YtbgmclbcjdbcmaaGreat
namespace Go.Proofs.YtbgmclbcjdbcmaaGreat
set_option linter.unusedSimpArgs false
set_option linter.unusedVariables false
open Go.RowKit
set_option maxRecDepth 10000
def putCell (n k j:Nat):Value:=if 8 - k≤j then .int .u8 ((n:Int) / 2 ^ (8*(7 - j)) % 256) else .int .u8 0
def putArr (n k:Nat):Array Value:=#[putCell n k 0,putCell n k 1,putCell n k 2,putCell n k 3,putCell n k 4,putCell n k 5,putCell n k 6,putCell n k 7]
theorem putArr_get (n k j:Nat) (h:j<8):(putArr n k)[j]?=some (putCell n k j):=by
  rcases (by omega:j=0∨j=1∨j=2∨j=3∨j=4∨j=5∨j=6∨j=7) with rfl | rfl | rfl | rfl | rfl | rfl | rfl | rfl <;> rfl
theorem putArr_set (n k:Nat) (h:k<8):(putArr n k).setIfInBounds (7 - k) (.int .u8 ((n:Int) / 2 ^ (8*k) % 256))=putArr n (k+1):=by
  rcases (by omega:k=0∨k=1∨k=2∨k=3∨k=4∨k=5∨k=6∨k=7) with rfl | rfl | rfl | rfl | rfl | rfl | rfl | rfl <;> rfl
theorem el_u8:ElemOf Tryz.prog 46 5 1 1 (.int .u8 0):=⟨by kernel_rfl,⟨_,rfl,rfl,rfl,rfl⟩,rfl,by decide,by decide⟩
def beByte (n i:Nat):UInt8:=UInt8.ofNat (n / 2 ^ (8*i))
def be (n size:Nat):List UInt8:=(List.range size).map fun i=>beByte n (size - 1 - i)
theorem beByte_int (n i:Nat):((n:Int) / 2 ^ (8*i) % 256)=((beByte n i).toNat:Int):=by
  simp [beByte]
theorem putCell_be (n j:Nat):putCell n 8 j=bv (beByte n (7 - j)):=by
  unfold putCell
  rw [if_pos (by omega),beByte_int]
theorem put_src (n s:Nat) (hs1:1≤s) (hs8:s≤8) (w:World) (o:Obj):SrcOf ((w.alloc (.cells (putArr n 8) 185)).alloc o) 1 (.slice (some ⟨w.heap.size,8 - s,none⟩) (8 - (8 - s)) (8 - (8 - s))) s ((be n s).map bv):=by
  rw [show 8 - (8 - s)=s by omega]
  refine .inr ⟨_,_,rfl,by simp [be],?_,?_⟩
  · intro j u hu
    rw [List.getElem?_map] at hu
    by_cases hj:j<s
    · simp [be,hj] at hu
      subst hu
      have:(⟨w.heap.size,8 - s,none⟩:Addr).add j=⟨w.heap.size,8 - s+j,none⟩:=by
        unfold Addr.add; split <;> simp_all
      rw [this]
      have hc:=putArr_get n 8 (8 - s+j) (by omega)
      rw [putCell_be,show 7 - (8 - s+j)=s - 1 - j by omega] at hc
      refine (World.cell?_alloc_lt _ _ _ (by show w.heap.size<_; rw [World.size_alloc]; omega)).trans ?_
      rw [cell_of_row (w.alloc (.cells (putArr n 8) 185)) w.heap.size _ (putArr n 8) 185 (0,0) (heap_alloc_new _ _)]
      exact hc
    · simp [be,hj] at hu
  · intro u hu
    obtain ⟨_,_,rfl⟩:=List.mem_map.1 hu
    rfl
theorem put_any (n:Nat) (_hn:n<18446744073709551616) (s:Nat) (h1:1≤s) (h8:s≤8) (w:World) :
    Calls Tryz.prog 67 #[.int .u64 n,.int .i64 s] w fun e w'=>∃ v,e=.returned v∧Below w.heap.size w w'∧w'.ownsRow w.heap.size 5 1 v s ((be n s).map bv):=by
  have i1:(1:Int)≤s:=by omega
  have i2:(s:Int)≤8:=by omega
  go_enter Tryz.func67,Tryz.ntmps67
  go_wp2
  go_loopw [6,10] (fun _ i wr=>∃ k:Nat,k≤8∧i=.int .i64 k∧wr=w.alloc (.cells (putArr n k) 185)) (fun _ i _=>8 - (intOf i).toNat)
  case atStart=>exact ⟨0,by omega,rfl,rfl⟩
  case round =>
    obtain ⟨k,hk,rfl,rfl⟩:=hrel
    by_cases hlt:k<8
    · have g:=putArr_get n k (7 - k) (by omega)
      have s:=Lib.hid (putArr_set n k hlt)
      go_wp2
      rw [s.out]
      go_roundw
      case rel=>exact ⟨k+1,by omega,by go_num,rfl⟩
      case measure=>simp [intOf]; omega
    · obtain rfl:k=8:=by omega
      have hsrc:=Lib.hid (put_src n s h1 h8 w (.cells #[] 5))
      generalize hp:putArr n 8=arr at hsrc
      have Hp:=Lib.hid hp
      clear hp
      have hown:((w.alloc (.cells arr 185)).alloc (.cells #[] 5)).ownsRow w.heap.size 5 1 (.slice (some ⟨w.heap.size+1,0,none⟩) 0 0) 0 []:=by
        have:=World.ownsRow_made (w.alloc (.cells arr 185)) (base:=w.heap.size) (e := 5) (size:=1) #[] 0 (by simp) (by simp) (by simp)
        rw [World.size_alloc] at this
        exact this
      have hown:=Lib.hid hown
      have hA:Tryz.prog.arrayLen 185 = 8:=by kernel_rfl
      have h8':(8:Int) - s≤8:=by omega
      have h0':(0:Int)≤8 - s:=by omega
      have hx:8 - (8 - (s:Int)).toNat=s:=by omega
      have hx2:(8 - (s:Int)).toNat=8 - s:=by omega
      go_wp2_with (at_builtin; go_loud (refine wpList_append_from rfl _ _ _ rfl (w.heap.size) el_u8 rfl hown.out rfl hsrc.out ?c4 ?c5 ?_))
      case c4=>simp; omega
      case c5=>simp; omega
      intro v' w' ho hg hb
      go_wp2
      go_ret
      exact ⟨_,rfl,(((Below.refl _ _).alloc (Nat.le_refl _) _).alloc (by simp) _).trans hb,ho⟩
def rputRow (n s k:Nat):List UInt8:=(List.range s).map fun i=>if s - k≤i then beByte n (s - 1 - i) else 0
theorem rputRow_zero (n s:Nat):(rputRow n s 0).map bv=(madeCells #[.int .u8 0] (s*1)).toList:=by
  rw [Nat.mul_one,toList_madeCells_one]
  apply List.ext_getElem
  · simp [rputRow]
  · intro i h1 h2
    simp [rputRow] at h1 ⊢
    rw [if_neg (by omega)]; rfl
theorem rputRow_set (n s k:Nat) (h:k<s):((rputRow n s k).map bv).set (s - 1 - k) (bv (beByte n k))=(rputRow n s (k+1)).map bv:=by
  apply List.ext_getElem
  · simp [rputRow]
  · intro i h1 h2
    simp [rputRow] at h1 h2
    simp only [rputRow,List.map_map,List.getElem_set,List.getElem_map,List.getElem_range,Function.comp]
    by_cases he:s - 1 - k=i
    · rw [if_pos he,if_pos (by omega),show s - 1 - i=k by omega]
    · rw [if_neg he]
      by_cases hk:s - k≤i
      · rw [if_pos hk,if_pos (by omega)]
      · rw [if_neg hk,if_neg (by omega)]
theorem rputRow_get (n s k:Nat) (h:k<s):((rputRow n s k).map bv)[s - 1 - k]?=some (bv 0):=by
  rw [List.getElem?_eq_getElem (by simp [rputRow]; omega)]
  simp [rputRow]
  rw [if_neg (by omega)]; rfl
theorem rputRow_full (n s:Nat):rputRow n s s=be n s:=by
  simp [rputRow,be]
def RPutRel (w:World) (n s:Nat) (p i:Value) (wr:World):Prop :=
  ∃ k:Nat,k≤s∧i=.int .i64 k∧p=.int .u64 ((n / 256 ^ k:Nat):Int)∧Below w.heap.size w wr∧wr.ownsRow w.heap.size 5 1 (.slice (some ⟨w.heap.size,0,none⟩) s s) s ((rputRow n s k).map bv)
theorem RPutRel.step {w wr:World} {n s k:Nat} (hk:k<s) (hb:Below w.heap.size w wr) (ho:wr.ownsRow w.heap.size 5 1 (.slice (some ⟨w.heap.size,0,none⟩) s s) s ((rputRow n s k).map bv)) :
    RPutRel w n s (.int .u64 (((n / 256 ^ k:Nat):Int) / 256)) (.int .i64 ((k:Int)+1)) (wr.setCell ⟨w.heap.size,s - 1 - k,none⟩ (.int .u8 (((n / 256 ^ k:Nat):Int) % 256))):=by
  refine ⟨k+1,hk,by simp,?_,hb.setCell (Nat.le_refl _) _,?_⟩
  · rw [Nat.pow_succ,← Nat.div_div_eq_div_mul]; simp
  · have:=own_set ho (s - 1 - k) (bv (beByte n k))
    rw [rputRow_set n s k hk] at this
    have e:((n / 256 ^ k:Nat):Int) % 256=((beByte n k).toNat:Int):=by
      rw [beByte,show (2:Nat) ^ (8*k)=256 ^ k by rw [Nat.pow_mul]]
      simp
    rw [e]
    exact this
theorem rput_any (n:Nat) (hn:n<18446744073709551616) (s:Nat) (h1:1≤s) (h8:s≤8) (w:World) :
    Calls Tryz.prog 75 #[.int .u64 n,.int .i64 s] w fun e w'=>∃ v,e=.returned v∧Below w.heap.size w w'∧w'.ownsRow w.heap.size 5 1 v s ((be n s).map bv):=by
  have i1:(1:Int)≤s:=by omega
  have i2:(s:Int)≤8:=by omega
  obtain ⟨w1,hmk,hown,hbel,hsz⟩:=run_make_own_full el_u8 w w.heap.size .i64 .i64 s (by omega) (by unfold maxLen; omega) (Nat.le_refl _)
  have Hown:=Lib.hid hown
  have Hsz:=Lib.hid hsz
  have Hbel:=Lib.hid hbel
  clear hown hsz hbel
  go_enter Tryz.func75,Tryz.ntmps75
  go_wp2
  go_loopw [0,6] (fun p i wr=>RPutRel w n s p i wr) (fun _ i _=>s - (intOf i).toNat)
  case atStart=>exact ⟨0,Nat.zero_le _,rfl,by simp,Hbel.out,by rw [rputRow_zero]; exact Hown.out⟩
  case round =>
    obtain ⟨k,hk,rfl,rfl,hb,ho⟩:=hrel
    by_cases hlt:k<s
    · have hc:=own_cell ho _ _ (rputRow_get n s k hlt)
      have hf:=own_frozen ho (s - 1 - k)
      have hq:n / 256 ^ k<18446744073709551616:=Nat.lt_of_le_of_lt (Nat.div_le_self _ _) hn
      have hst:=Lib.hid (RPutRel.step hlt hb ho)
      clear ho hb
      generalize n / 256 ^ k=q at *
      have e1:((s:Int) - 1 - k).toNat=s - 1 - k:=by omega
      go_wp2
      exact ⟨hst.out,by simp [intOf]; omega⟩
    · obtain rfl:k=s:=by omega
      rw [rputRow_full] at ho
      go_wp2
      go_ret
      exact ⟨_,rfl,hb,ho⟩
theorem put_bad (n s:Int) (h:s<1∨8<s) (w:World) :
    Calls Tryz.prog 67 #[.int .u64 n,.int .i64 s] w fun e w'=>e=.returned (.slice none 0 0)∧w'=w:=by
  by_cases a1:1≤s
  · have a2:¬ s≤8:=by omega
    clear h
    go_enter Tryz.func67,Tryz.ntmps67
    go_wp2
    go_ret
    exact ⟨rfl,rfl⟩
  · clear h
    go_enter Tryz.func67,Tryz.ntmps67
    go_wp2
    go_ret
    exact ⟨rfl,rfl⟩
theorem rput_bad (n s:Int) (h:s<1∨8<s) (w:World) :
    Calls Tryz.prog 75 #[.int .u64 n,.int .i64 s] w fun e w'=>e=.returned (.slice none 0 0)∧w'=w:=by
  by_cases a1:1≤s
  · have a2:¬ s≤8:=by omega
    clear h
    go_enter Tryz.func75,Tryz.ntmps75
    go_wp2
    go_ret
    exact ⟨rfl,rfl⟩
  · clear h
    go_enter Tryz.func75,Tryz.ntmps75
    go_wp2
    go_ret
    exact ⟨rfl,rfl⟩
def beI (n:Nat) (s:Int):List UInt8:=if 1≤s∧s≤8 then be n s.toNat else []
end Go.Proofs.YtbgmclbcjdbcmaaGreat
namespace Go.Proofs.YtbgmclbcjdbcmaaGreat
set_option linter.unusedSimpArgs false
set_option linter.unusedVariables false
open Go.RowKit
set_option maxRecDepth 100000
noncomputable section
abbrev zi (n:Int):AV:=.sc false (.int .i64 n)
abbrev zb (b:Bool):AV:=.sc false (.bool b)
abbrev zs (es:List Sh) (d:D):AV:=.sl false es d none
abbrev zU:List Sh:=[.int .u8]
abbrev zN:List Sh:=[.int .i64]
abbrev zO:List Sh:=[.int .i64,.sl [.int .u8]]
abbrev zC:List Sh:=[.int .i64,.int .i64,.sl [.int .u8]]
abbrev zz:AV:=.sc true (.slice none 0 0)
abbrev zy:AV:=.sc false (.slice none 0 0)
abbrev zk (n:Int):AV:=.sc true (.int .i64 n)
abbrev zR:List Sh:=[.int .i64,.int .i64,.int .i64,.int .i64,.int .i64,.int .i64,.bool]
theorem odt {p:Prop} [Decidable p] (h:decide p=true):p:=of_decide_eq_true h
theorem odf {p:Prop} [Decidable p] (h:decide p=false):¬ p:=of_decide_eq_false h
theorem det {p:Prop} [Decidable p] (h:p):decide p=true:=decide_eq_true h
theorem def_ {p:Prop} [Decidable p] (h:¬ p):decide p=false:=decide_eq_false h
theorem mixed:Fit Tryz.prog:=⟨by kernel_rfl,by kernel_rfl⟩
abbrev ai (n:Int):AV:=.sc false (.int .i64 n)
abbrev ab (b:Bool):AV:=.sc false (.bool b)
abbrev asl (es:List Sh) (d:D):AV:=.sl false es d none
abbrev byS:List Sh:=[.int .u8]
theorem relL_two {E:Env} {x y:AV} {vals:List Value} (h:RelL E [x,y] vals):∃ u v,vals=[u,v]∧Rel E x u∧Rel E y v:=by
  obtain ⟨u,r,rfl,h1,v,r',rfl,h2,h3⟩:=h
  have h3':r'=[]:=h3
  subst h3'
  exact ⟨u,v,rfl,h1,h2⟩
def byI (n:Int) (s i:Nat):Int:=(beByte n.toNat (s - 1 - i)).toNat
def beD (n s:Int):D:=bif decide (1≤s∧s≤8) then .l ((List.range s.toNat).map fun i=>.i (byI n s.toNat i)) else .l []
theorem beD_eq (n s:Int):beD n s=eBs (beI n.toNat s):=by
  unfold beD beI
  by_cases h:1≤s∧s≤8
  · rw [decide_eq_true h,if_pos h]
    show D.l _=D.l _
    unfold be
    rw [List.map_map]; rfl
  · rw [decide_eq_false h,if_neg h]; rfl
def FPut:List AV→RT AV
  | [.sc _ (.int .u64 n),.sc _ (.int .i64 s)]=>need false (decide (0≤n∧n<18446744073709551616)) 200 (.ok (.sl true byS (beD n s) none))
  | _=>.bad 201
theorem put_soundF:SoundF Tryz.prog 67 (pureS Tryz.prog 67 FPut):=by
  refine pureS_direct fun args K H w0 G E h w vals I hr=>?_
  unfold FPut at H
  split at H
  · rename_i n s
    obtain ⟨hc,H⟩:=need_holds H
    obtain ⟨h0,h1⟩:=of_decide_eq_true hc
    obtain ⟨u,v,rfl,hu,hv⟩:=relL_two hr
    obtain rfl:=rel_int hu
    obtain rfl:=rel_int hv
    obtain ⟨m,rfl⟩:=Int.eq_ofNat_of_zero_le h0
    by_cases hs:1≤s∧s≤8
    · obtain ⟨k,rfl⟩:=Int.eq_ofNat_of_zero_le (show 0≤s by omega)
      refine (put_any m (by omega) k (by omega) (by omega) w).mono ?_
      rintro e w' ⟨v,rfl,hb,ho⟩
      obtain ⟨E',h2,h3⟩:=own_bytesE I hb ho (by simp [be,room]; omega)
      refine ⟨_,v,E',H,rfl,h2,?_⟩
      have hk:beI m (k:Int)=be m k:=by unfold beI; rw [if_pos hs]; rfl
      rw [beD_eq,Int.toNat_natCast,hk]; exact h3
    · refine (put_bad m s (by omega) w).mono ?_
      rintro e w' ⟨rfl,rfl⟩
      refine ⟨_,_,E,H,rfl,Stepd.refl I,?_⟩
      have hk:beI m s=[]:=by unfold beI; rw [if_neg hs]
      rw [beD_eq,Int.toNat_natCast,hk]
      exact le_nil (kn:=true) (by simp [eBs,D.len,D.toL,D.raw]) E _ ⟨rfl,rfl⟩
  · exact H.elim
theorem rput_soundF:SoundF Tryz.prog 75 (pureS Tryz.prog 75 FPut):=by
  refine pureS_direct fun args K H w0 G E h w vals I hr=>?_
  unfold FPut at H
  split at H
  · rename_i n s
    obtain ⟨hc,H⟩:=need_holds H
    obtain ⟨h0,h1⟩:=of_decide_eq_true hc
    obtain ⟨u,v,rfl,hu,hv⟩:=relL_two hr
    obtain rfl:=rel_int hu
    obtain rfl:=rel_int hv
    obtain ⟨m,rfl⟩:=Int.eq_ofNat_of_zero_le h0
    by_cases hs:1≤s∧s≤8
    · obtain ⟨k,rfl⟩:=Int.eq_ofNat_of_zero_le (show 0≤s by omega)
      refine (rput_any m (by omega) k (by omega) (by omega) w).mono ?_
      rintro e w' ⟨v,rfl,hb,ho⟩
      obtain ⟨E',h2,h3⟩:=own_bytesE I hb ho (by simp [be,room]; omega)
      refine ⟨_,v,E',H,rfl,h2,?_⟩
      have hk:beI m (k:Int)=be m k:=by unfold beI; rw [if_pos hs]; rfl
      rw [beD_eq,Int.toNat_natCast,hk]; exact h3
    · refine (rput_bad m s (by omega) w).mono ?_
      rintro e w' ⟨rfl,rfl⟩
      refine ⟨_,_,E,H,rfl,Stepd.refl I,?_⟩
      have hk:beI m s=[]:=by unfold beI; rw [if_neg hs]
      rw [beD_eq,Int.toNat_natCast,hk]
      exact le_nil (kn:=true) (by simp [eBs,D.len,D.toL,D.raw]) E _ ⟨rfl,rfl⟩
  · exact H.elim
def inB (n lo hi:Int):Bool:=decide (lo≤n∧n≤hi)
def fitsB (a b c d e f g:Int):Bool:=inB a 128 1492&&inB b 1 1000&&inB c 1 1000&&inB d 0 1000&&inB e 1 1048576&&inB f 0 1048576&&inB g 1 1000
theorem fits_tree (a b c d e f g:Int):treeF (evF Tryz.prog (gam ([])) (lam ([])) 100 92) [.agg [ai a,ai b,ai c,ai d,ai e,ai f,ai g]] =
RT.br (decide (128≤a)) (RT.br (decide (a≤1492)) (RT.br (decide (1≤b)) (RT.br (decide (b≤1000)) (RT.br (decide (1≤c)) (RT.br (decide (c≤1000)) (RT.br (decide (0≤d)) (RT.br (decide (d≤1000)) (RT.br (decide (1≤e)) (RT.br (decide (e≤1048576)) (RT.br (decide (0≤f)) (RT.br (decide (f≤1048576)) (RT.br (decide (1≤g)) (RT.ok (zb (decide (g≤1000)))) (RT.ok (AV.sc true (Value.bool false)))) (RT.ok (AV.sc true (Value.bool false)))) (RT.ok (AV.sc true (Value.bool false)))) (RT.ok (AV.sc true (Value.bool false)))) (RT.ok (AV.sc true (Value.bool false)))) (RT.ok (AV.sc true (Value.bool false)))) (RT.ok (AV.sc true (Value.bool false)))) (RT.ok (AV.sc true (Value.bool false)))) (RT.ok (AV.sc true (Value.bool false)))) (RT.ok (AV.sc true (Value.bool false)))) (RT.ok (AV.sc true (Value.bool false)))) (RT.ok (AV.sc true (Value.bool false)))) (RT.ok (AV.sc true (Value.bool false))):=by kernel_rfl
theorem isconf_tree (a b c d e f g:Int):treeF (evF Tryz.prog (gam ([])) (lam ([])) 100 190) [.agg [ai a,ai b,ai c,ai d,ai e,ai f,ai g]] =
RT.br (decide (128≤a)) (RT.br (decide (a≤1492)) (RT.br (decide (1≤b)) (RT.br (decide (b≤1000)) (RT.br (decide (1≤c)) (RT.br (decide (c≤1000)) (RT.br (decide (0≤d)) (RT.br (decide (d≤1000)) (RT.br (decide (1≤e)) (RT.br (decide (e≤1048576)) (RT.br (decide (0≤f)) (RT.br (decide (f≤1048576)) (RT.br (decide (1≤g)) (RT.ok (zb (decide (g≤1000)))) (RT.ok (AV.sc true (Value.bool false)))) (RT.ok (AV.sc true (Value.bool false)))) (RT.ok (AV.sc true (Value.bool false)))) (RT.ok (AV.sc true (Value.bool false)))) (RT.ok (AV.sc true (Value.bool false)))) (RT.ok (AV.sc true (Value.bool false)))) (RT.ok (AV.sc true (Value.bool false)))) (RT.ok (AV.sc true (Value.bool false)))) (RT.ok (AV.sc true (Value.bool false)))) (RT.ok (AV.sc true (Value.bool false)))) (RT.ok (AV.sc true (Value.bool false)))) (RT.ok (AV.sc true (Value.bool false)))) (RT.ok (AV.sc true (Value.bool false))):=by kernel_rfl
def FFits:List AV→RT AV
  | [.agg [.sc false (.int .i64 a),.sc false (.int .i64 b),.sc false (.int .i64 c),.sc false (.int .i64 d),.sc false (.int .i64 e),.sc false (.int .i64 f),.sc false (.int .i64 g)]]=>.ok (ab (fitsB a b c d e f g))
  | _=>.bad 202
theorem fits_soundF:SoundF Tryz.prog 92 (pureS Tryz.prog 92 FFits):=by
  refine pure_in (gs:=[]) (ls:=[]) mixed trivial trivial 92 100 fun args K _ H=>?_
  unfold FFits at H
  split at H
  · rw [fits_tree]
    simp only [RT.holds]
    repeat' refine And.intro (fun _=>?_) (fun _=>?_)
    all_goals exact ⟨_,le_bool (by simp_all [fitsB,inB] <;> omega),H⟩
  · exact H.elim
theorem isconf_soundF:SoundF Tryz.prog 190 (pureS Tryz.prog 190 FFits):=by
  refine pure_in (gs:=[]) (ls:=[]) mixed trivial trivial 190 100 fun args K _ H=>?_
  unfold FFits at H
  split at H
  · rw [isconf_tree]
    simp only [RT.holds]
    repeat' refine And.intro (fun _=>?_) (fun _=>?_)
    all_goals exact ⟨_,le_bool (by simp_all [fitsB,inB] <;> omega),H⟩
  · exact H.elim
abbrev opS:List Sh:=[.int .i64,.sl [.int .u8]]
theorem app_nil_len (d:D):((D.l []).app d).len=d.len:=by
  have h0:(D.l []).len=0:=by simp [D.len,D.toL,D.raw]
  rw [app_len (by rw [h0,Nat.zero_add]; exact d.len_le),h0,Nat.zero_add]
theorem app_nil_get (d:D) (i:Nat):((D.l []).app d).get i=d.get i:=by
  have h0:(D.l []).len=0:=by simp [D.len,D.toL,D.raw]
  rw [app_get (by rw [h0,Nat.zero_add]; exact d.len_le),if_neg (by omega),h0,Nat.sub_zero]
theorem le_app_nil {kn kn':Bool} {es:List Sh} {d:D} {tip:Option (Nat×Nat)}:Le (.sl kn es ((D.l []).app d) tip) (.sl kn' es d none) :=
  le_sl (app_nil_len d) fun i _=>by rw [app_nil_get]; exact eqEl_refl _ _ _
theorem cloneb_tree (d:D):treeF (evF Tryz.prog (gam ([])) (lam ([])) 100 162) [asl byS d] =
RT.br (decide (D.len d=0)) (RT.all (RT.ok zz) (RT.ok (zs zU (D.app (D.l []) d)))) (RT.ok (zs zU (D.app (D.l []) d))):=by kernel_rfl
def FCloneB:List AV→RT AV
  | [.sl false [.int .u8] d none]=>.ok (asl byS d)
  | _=>.bad 203
theorem cloneb_soundF:SoundF Tryz.prog 162 (pureS Tryz.prog 162 FCloneB):=by
  refine pure_in (gs:=[]) (ls:=[]) mixed trivial trivial 162 100 fun args K _ H=>?_
  unfold FCloneB at H
  split at H
  · rw [cloneb_tree]
    exact ⟨fun h0=>⟨⟨_,le_nil (odt h0),H⟩,⟨_,le_app_nil,H⟩⟩,fun _=>⟨_,le_app_nil,H⟩⟩
  · exact H.elim
def cloneG (P:Program):List (FuncId×Spec):=[(162,pureS P 162 FCloneB)]
abbrev sh (es:List Sh) (d:D) (k g:Nat):AV:=.sl false es d (some (k,g))
theorem cloneG_ok:GamL Tryz.prog (cloneG Tryz.prog):=⟨cloneb_soundF,trivial⟩
def tabD (f:Nat→D) (n:Nat):D:=.l ((List.range n).map f)
theorem tabD_toL {f:Nat→D} {n:Nat} (h:n≤maxLen):(tabD f n).toL=(List.range n).map f:=toL_l (by simpa using h)
theorem tabD_len {f:Nat→D} {n:Nat} (h:n≤maxLen):(tabD f n).len=n:=by unfold D.len; rw [tabD_toL h]; simp
theorem tabD_get {f:Nat→D} {n:Nat} (h:n≤maxLen) {i:Nat} (hi:i<n):(tabD f n).get i=f i:=by
  unfold D.get; rw [tabD_toL h,List.getD_eq_getElem?_getD]; simp [hi]
theorem tabD_succ {f:Nat→D} {n:Nat} (h:n≤maxLen):(tabD f n).app (.l [f n])=tabD f (n+1):=by
  unfold D.app
  rw [tabD_toL h,toL_l (show [f n].length≤maxLen by simp; unfold maxLen; omega)]
  unfold tabD
  rw [List.range_succ,List.map_append]; rfl
theorem wrap_succ {i n:Nat} (hi:i<n) (hn:n≤maxLen):IntKind.i64.wrap ((i:Int)+1)=((i+1:Nat):Int):=by
  unfold maxLen at hn
  rw [IntWalk.i64_left]
  unfold wrap64
  omega
def copL:Lw:=⟨[3,6,7,8],[(false,3,0, 52)],0,1,1000,1000⟩
def copF (d:D) (n:Int) (i:Nat) (out:D):Tm:=⟨23,[(3,sh opS out 0 1000),(6,asl opS d),(7,ai n),(8,ai i)],[]⟩
def copH:Hp:=⟨[],0,[(0,1000, 52)],1,1001,1000⟩
theorem cop_body (d out:D) (n i:Int):roundT (⟨[3,6,7,8],[(false,3,0, 52)],0,1,1000,1000⟩) (evC Tryz.prog (gam (cloneG Tryz.prog)) (lam ([])) 100 156 (loopAt 0 (bodyOf Tryz.prog 156)) (⟨23,[(3,sh opS out 0 1000),(6,asl opS d),(7,ai n),(8,ai i)],[]⟩) (⟨[],0,[(0,1000, 52)],1,1001,1000⟩)) =
RT.br (decide (i<n)) (RT.br (decide (0≤i∧i<(↑(D.len d):Int))) (RT.br (decide ((D.len out+1)*32≤140737488355328)) (RT.ok (Ex.normal,(Tm.mk 23 [(3,AV.sl false zO (D.app out (D.l [D.t [D.i (D.toI (D.cell (D.get d (Int.toNat i)) 0)),D.cell (D.get d (Int.toNat i)) 1]])) (some (0,1000))),(6,zs zO d),(7,zi n),(8,zi (IntKind.wrap IntKind.i64 (i+1)))] []),(Hp.mk [] 0 [(0,1000, 52)] 1 1001 1000))) (RT.bad 70)) (RT.bad 42)) (RT.ok (Ex.exit 0,(Tm.mk 23 [(3,AV.sl false zO out (some (0,1000))),(6,zs zO d),(7,zi n),(8,zi i)] []),(Hp.mk [] 0 [(0,1000, 52)] 1 1001 1000))):=by kernel_rfl
def copE (d:D) (i:Nat):D:=.t [.i ((d.get i).cell 0).toI,(d.get i).cell 1]
def copDec (F:Tm) (h:Hp):Option (D×Int×Nat):=match F,h with
  | ⟨23,[(3,.sl false [.int .i64,.sl [.int .u8]] (.l []) (some (0,1000))),(6,.sl false [.int .i64,.sl [.int .u8]] d none),(7,.sc false (.int .i64 n)),(8,.sc false (.int .i64 0))],[]⟩,⟨[],0,[(0,1000, 52)],1,1001,1000⟩=>some (d,n,0)
  | _,_=>none
def copT (x:D×Int×Nat):RT Out:=need false (decide (x.2.1=(x.1.len:Int)∧x.2.2≤x.1.len∧x.1.len*32≤room)) 210 (.ok (.normal,copF x.1 x.2.1 x.1.len (tabD (copE x.1) x.1.len),copH))
theorem cop_loop:LamE Tryz.prog 156 0 (loopS Tryz.prog copL copDec copT):=by
  refine loop_in2 (gs:=cloneG Tryz.prog) (ls:=[]) mixed cloneG_ok trivial _ 0 100 (by kernel_rfl) copL (mkF:=fun x=>copF x.1 x.2.1 x.2.2 (tabD (copE x.1) x.2.2)) (mkH:=fun _=>copH) (fun x=>x.1.len - x.2.2) ?_ ?_
  · intro F h x hx
    unfold copDec at hx
    split at hx
    · cases hx; exact ⟨rfl,rfl⟩
    · cases hx
  · rintro ⟨d,n,i⟩ K H
    obtain ⟨hc,H⟩:=need_holds H
    obtain ⟨rfl,hi,hb⟩:n=(d.len:Int)∧i≤d.len∧d.len*32≤room:=odt hc
    have hm:=d.len_le
    show (roundT copL (evC _ _ _ _ _ _ (copF d d.len i (tabD (copE d) i)) copH)).holds _
    unfold copL copF copH
    rw [cop_body]
    refine ⟨fun h1=>⟨fun h2=>⟨fun h3=>?_,fun h3=>?_⟩,fun h2=>?_⟩,fun h1=>?_⟩
    · have h1:i<d.len:=by have:=odt h1; omega
      refine ⟨(d,d.len,i+1),⟨?_,rfl⟩,by show d.len - (i+1)<d.len - i; omega,?_⟩
      · rw [wrap_succ h1 hm]
        exact congrArg (fun o=>copF d d.len (i+1) o) (tabD_succ (f:=copE d) (n:=i) (by omega))
      · exact ⟨fun _=>H,fun hf=>by
          have:=odf hf
          exact absurd ⟨rfl,by show i+1≤d.len; omega,hb⟩ this⟩
    · have h1:i<d.len:=by have:=odt h1; omega
      have h3:=odf h3
      refine absurd ?_ h3
      rw [tabD_len (by omega)]
      unfold room at hb
      omega
    · have h1:i<d.len:=by have:=odt h1; omega
      have h2:=odf h2
      omega
    · have h1:i=d.len:=by have:=odf h1; omega
      subst h1
      exact H
def copLs (P:Program):List (FuncId×Nat×BSpec):=[(156,0,loopS P copL copDec copT)]
theorem copLs_ok:LamL Tryz.prog (copLs Tryz.prog):=⟨cop_loop,trivial⟩
theorem cop_tree (d:D):treeF (evF Tryz.prog (gam (cloneG Tryz.prog)) (lam (copLs Tryz.prog)) 100 156) [asl opS d] =
RT.br (decide ((↑(D.len d):Int)=(↑(D.len d):Int)∧0≤D.len d∧D.len d*32≤140737488355328)) (RT.ok (zs zO (tabD (copE d) (D.len d)))) (RT.bad 210):=by kernel_rfl
theorem copE_eq (d:D) (i:Nat):eqEl opS (copE d i) (d.get i) 0:=⟨rfl,rfl,trivial⟩
theorem le_cop (d:D):Le (.sl false opS (tabD (copE d) d.len) none) (asl opS d) :=
  le_sl (tabD_len d.len_le) fun i hi=>by
    rw [tabD_len d.len_le] at hi
    rw [tabD_get d.len_le hi]; exact copE_eq d i
def FCopied:List AV→RT AV
  | [.sl false [.int .i64,.sl [.int .u8]] d none]=>.ok (asl opS d)
  | _=>.bad 204
theorem copied_soundF:SoundF Tryz.prog 156 (pureS Tryz.prog 156 FCopied):=by
  refine pure_in (gs:=cloneG Tryz.prog) (ls:=copLs Tryz.prog) mixed cloneG_ok copLs_ok 156 100 fun args K ho H=>?_
  unfold FCopied at H
  split at H
  · rename_i d
    rw [cop_tree]
    have h0:=ho.1.1
    refine ⟨fun h1=>⟨_,le_cop d,H⟩,fun h1=>?_⟩
    exact absurd ⟨rfl,Nat.zero_le _,h0⟩ (odf h1)
  · exact H.elim
abbrev nf:AV:=.sc false (.slice none 0 0)
def okFrom (p:Nat→Bool):Nat→Nat→Bool
  | 0,_=>true
  | n+1,i=>p i&&okFrom p n (i+1)
def badFrom (p:Nat→Bool):Nat→Nat→Nat
  | 0,i=>i
  | n+1,i=>if p i then badFrom p n (i+1) else i
theorem okFrom_iff {p:Nat→Bool}:∀ {n i:Nat},okFrom p n i=true ↔ ∀ j,i≤j→j<i+n→p j=true
  | 0,i=>by simp [okFrom]; omega
  | n+1,i=>by
    simp only [okFrom,Bool.and_eq_true,okFrom_iff (n:=n) (i:=i+1)]
    exact ⟨fun ⟨h1,h2⟩ j hj hj2=>by
      by_cases e:j=i
      · rw [e]; exact h1
      · exact h2 j (by omega) (by omega),fun h=>⟨h i (by omega) (by omega),fun j h1 h2=>h j (by omega) (by omega)⟩⟩
theorem okFrom_snoc {p:Nat→Bool} {n:Nat} (h:okFrom p n 0=true) (hp:p n=true):okFrom p (n+1) 0=true:=by
  rw [okFrom_iff] at h ⊢
  intro j _ hj
  by_cases e:j=n
  · rw [e]; exact hp
  · exact h j (by omega) (by omega)
theorem okFrom_false {p:Nat→Bool} {n i j:Nat} (h1:i≤j) (h2:j<i+n) (hp:p j=false):okFrom p n i=false:=by
  cases h:okFrom p n i
  · rfl
  · rw [okFrom_iff] at h
    have:=h j h1 h2
    rw [hp] at this; cases this
theorem badFrom_cons {p:Nat→Bool} {n i:Nat} (hp:p i=true):badFrom p (n+1) i=badFrom p n (i+1):=by simp [badFrom,hp]
theorem badFrom_here {p:Nat→Bool} {n i:Nat} (hp:p i=false):badFrom p (n+1) i=i:=by simp [badFrom,hp]
def optT (d:D) (i:Nat):Int:=((d.get i).cell 0).toI
def optB (d:D) (i:Nat):D:=(d.get i).cell 1
def optOk (d:D) (i:Nat):Bool:=decide (0≤optT d i∧optT d i≤255∧(optB d i).len≤253)
def headD (d:D) (i:Nat):D:=.l [.t [.i (IntKind.u8.wrap (optT d i))],.t [.i (IntKind.u8.wrap (IntKind.i64.wrap (((optB d i).len:Int)+2)))]]
def encP (d:D):Nat→D
  | 0=>.l []
  | i+1=>((encP d i).app (headD d i)).app (optB d i)
def encE (d:D):Int:=if 64<d.len then 3 else if okFrom (optOk d) d.len 0 then (if 1488<(encP d d.len).len then 2 else 0) else 80
def encO (d:D):D:=if encE d=0 then encP d d.len else .l []
theorem nil_len:(D.l []).len=0:=by simp [D.len,D.toL,D.raw]
theorem head_len (d:D) (i:Nat):(headD d i).len=2:=by
  unfold D.len headD
  rw [toL_l (by simp; unfold maxLen; omega)]; rfl
theorem enc_len {d:D}:∀ {i:Nat},i≤64→okFrom (optOk d) i 0=true→(encP d i).len≤255*i
  | 0,_,_=>by simp [encP,nil_len]
  | i+1,hi,h=>by
    have h':=okFrom_iff.1 h
    have ih:=enc_len (d:=d) (i:=i) (by omega) (okFrom_iff.2 fun j h1 h2=>h' j h1 (by omega))
    have ho:=odt (h' i (by omega) (by omega))
    simp only [encP]
    have e1:((encP d i).app (headD d i)).len=(encP d i).len+2:=by rw [app_len (by rw [head_len]; unfold maxLen; omega),head_len]
    rw [app_len (by rw [e1]; unfold maxLen; omega),e1]
    omega
def encL:Lw:=⟨[2,3,4,10,11,12],[(false,4,0, 5)],0,1,1000,1000⟩
def encF (d:D) (n:Int) (i:Nat):Tm:=⟨45,[(2,nf),(3,ai 0),(4,sh byS (encP d i) 0 1000),(10,asl opS d),(11,ai n),(12,ai i)],[]⟩
def encR (d:D) (n:Int) (i:Nat):Tm:=⟨45,[(2,nf),(3,ai 80),(4,sh byS (encP d i) 0 1000),(10,asl opS d),(11,ai n),(12,ai i)],[]⟩
def encH:Hp:=⟨[],0,[(0,1000, 5)],1,1001,1000⟩
theorem enc_body (d out:D) (n i:Int):roundT (⟨[2,3,4,10,11,12],[(false,4,0, 5)],0,1,1000,1000⟩) (evC Tryz.prog (gam ([])) (lam ([])) 100 155 (loopAt 0 (bodyOf Tryz.prog 155)) (⟨45,[(2,nf),(3,ai 0),(4,sh byS out 0 1000),(10,asl opS d),(11,ai n),(12,ai i)],[]⟩) (⟨[],0,[(0,1000, 5)],1,1001,1000⟩)) =
RT.br (decide (i<n)) (RT.br (decide (0≤i∧i<(↑(D.len d):Int))) (RT.br (decide (0≤D.toI (D.cell (D.get d (Int.toNat i)) 0))) (RT.br (!decide (D.toI (D.cell (D.get d (Int.toNat i)) 0)≤255)) (RT.ok (Ex.ret,(Tm.mk 45 [(2,zy),(3,zi 80),(4,AV.sl false zU out (some (0,1000))),(10,zs zO d),(11,zi n),(12,zi i)] []),(Hp.mk [] 0 [(0,1000, 5)] 1 1001 1000))) (RT.br (decide (253<(↑(D.len (D.cell (D.get d (Int.toNat i)) 1)):Int))) (RT.ok (Ex.ret,(Tm.mk 45 [(2,zy),(3,zi 80),(4,AV.sl false zU out (some (0,1000))),(10,zs zO d),(11,zi n),(12,zi i)] []),(Hp.mk [] 0 [(0,1000, 5)] 1 1001 1000))) (RT.br (decide ((D.len out+2)*1≤140737488355328)) (RT.br (decide ((D.len (D.app out (D.l [D.t [D.i (IntKind.wrap IntKind.u8 (D.toI (D.cell (D.get d (Int.toNat i)) 0)))],D.t [D.i (IntKind.wrap IntKind.u8 (IntKind.wrap IntKind.i64 ((↑(D.len (D.cell (D.get d (Int.toNat i)) 1)):Int)+2)))]]))+D.len (D.cell (D.get d (Int.toNat i)) 1))*1≤140737488355328)) (RT.ok (Ex.normal,(Tm.mk 45 [(2,zy),(3,zi 0),(4,AV.sl false zU (D.app (D.app out (D.l [D.t [D.i (IntKind.wrap IntKind.u8 (D.toI (D.cell (D.get d (Int.toNat i)) 0)))],D.t [D.i (IntKind.wrap IntKind.u8 (IntKind.wrap IntKind.i64 ((↑(D.len (D.cell (D.get d (Int.toNat i)) 1)):Int)+2)))]])) (D.cell (D.get d (Int.toNat i)) 1)) (some (0,1000))),(10,zs zO d),(11,zi n),(12,zi (IntKind.wrap IntKind.i64 (i+1)))] []),(Hp.mk [] 0 [(0,1000, 5)] 1 1001 1000))) (RT.bad 70)) (RT.bad 70)))) (RT.ok (Ex.ret,(Tm.mk 45 [(2,zy),(3,zi 80),(4,AV.sl false zU out (some (0,1000))),(10,zs zO d),(11,zi n),(12,zi i)] []),(Hp.mk [] 0 [(0,1000, 5)] 1 1001 1000)))) (RT.bad 42)) (RT.ok (Ex.exit 0,(Tm.mk 45 [(2,zy),(3,zi 0),(4,AV.sl false zU out (some (0,1000))),(10,zs zO d),(11,zi n),(12,zi i)] []),(Hp.mk [] 0 [(0,1000, 5)] 1 1001 1000))):=by kernel_rfl
def encDec (F:Tm) (h:Hp):Option (D×Int×Nat):=match F,h with
  | ⟨45,[(2,.sc false (.slice none 0 0)),(3,.sc false (.int .i64 0)),(4,.sl false [.int .u8] (.l []) (some (0,1000))),(10,.sl false [.int .i64,.sl [.int .u8]] d none),(11,.sc false (.int .i64 n)),(12,.sc false (.int .i64 0))],[]⟩,⟨[],0,[(0,1000, 5)],1,1001,1000⟩=>some (d,n,0)
  | _,_=>none
def encT (x:D×Int×Nat):RT Out:=need false (decide (x.2.1=(x.1.len:Int)∧x.2.2≤x.1.len∧x.1.len≤64∧okFrom (optOk x.1) x.2.2 0=true)) 210
  (.br (okFrom (optOk x.1) (x.1.len - x.2.2) x.2.2) (.ok (.normal,encF x.1 x.2.1 x.1.len,encH)) (.ok (.ret,encR x.1 x.2.1 (badFrom (optOk x.1) (x.1.len - x.2.2) x.2.2),encH)))
def encLs (P:Program):List (FuncId×Nat×BSpec):=[(155,0,loopS P encL encDec encT)]
theorem enc_loop:LamE Tryz.prog 155 0 (loopS Tryz.prog encL encDec encT):=by
  refine loop_in2 (gs:=[]) (ls:=[]) mixed trivial trivial _ 0 100 (by kernel_rfl) encL (mkF:=fun x=>encF x.1 x.2.1 x.2.2) (mkH:=fun _=>encH) (fun x=>x.1.len - x.2.2) ?_ ?_
  · intro F h x hx
    unfold encDec at hx
    split at hx
    · cases hx; exact ⟨rfl,rfl⟩
    · cases hx
  · rintro ⟨d,n,i⟩ K H
    obtain ⟨hc,H⟩:=need_holds H
    obtain ⟨rfl,hi,h64,hok⟩:n=(d.len:Int)∧i≤d.len∧d.len≤64∧okFrom (optOk d) i 0=true:=odt hc
    have hm:=d.len_le
    have hel:=enc_len (by omega) hok
    show (roundT encL (evC _ _ _ _ _ _ (encF d d.len i) encH)).holds _
    unfold encL encF encH
    rw [enc_body]
    simp only [Int.toNat_natCast]
    by_cases hlt:i<d.len
    · cases hp:optOk d i
      · have hret:K (.ret,encR d d.len i,encH):=by
          have:=H.2 (okFrom_false (Nat.le_refl _) (show i<i+(d.len - i) by omega) hp)
          dsimp only at this
          rwa [show d.len - i=(d.len - i - 1)+1 by omega,badFrom_here hp] at this
        have hp':=odf hp
        unfold optT optB at hp'
        repeat' refine And.intro (fun _=>?_) (fun _=>?_)
        all_goals first | exact hret | (exfalso; clear H hret; simp only [decide_eq_true_eq,decide_eq_false_iff_not,Bool.not_eq_true',Bool.not_eq_false'] at *; omega)
      · have hnext:∃ x':D×Int×Nat,(encF d d.len (i+1)=encF x'.1 x'.2.1 x'.2.2∧encH=encH)∧x'.1.len - x'.2.2<d.len - i∧(encT x').holds K:=by
          refine ⟨(d,d.len,i+1),⟨rfl,rfl⟩,by show d.len - (i+1)<d.len - i; omega,?_⟩
          refine ⟨fun _=>?_,fun hf=>absurd ⟨rfl,by show i+1≤d.len; omega,h64,okFrom_snoc hok hp⟩ (odf hf)⟩
          have e:d.len - i=(d.len - (i+1))+1:=by omega
          have e1:okFrom (optOk d) (d.len - i) i=okFrom (optOk d) (d.len - (i+1)) (i+1):=by rw [e]; simp only [okFrom,hp,Bool.true_and]
          have e2:badFrom (optOk d) (d.len - i) i=badFrom (optOk d) (d.len - (i+1)) (i+1):=by rw [e,badFrom_cons hp]
          dsimp only at H
          rw [e1,e2] at H
          exact H
        have hp':=odt hp
        unfold optT optB at hp'
        have hap:((encP d i).app (headD d i)).len=(encP d i).len+2:=by rw [app_len (by rw [head_len]; unfold maxLen; omega),head_len]
        unfold headD optT optB at hap
        repeat' refine And.intro (fun _=>?_) (fun _=>?_)
        all_goals first | (rw [wrap_succ hlt hm]; exact hnext) | (exfalso; clear H hnext; simp only [decide_eq_true_eq,decide_eq_false_iff_not,Bool.not_eq_true',Bool.not_eq_false'] at *; omega)
    · have:i=d.len:=by omega
      subst this
      refine ⟨fun h1=>?_,fun h1=>H.1 (by rw [Nat.sub_self]; rfl)⟩
      have:=odt h1
      omega
theorem encLs_ok:LamL Tryz.prog (encLs Tryz.prog):=⟨enc_loop,trivial⟩
theorem enc_tree (d:D):treeF (evF Tryz.prog (gam ([])) (lam (encLs Tryz.prog)) 100 155) [asl opS d] =
RT.br (decide (64<(↑(D.len d):Int))) (RT.ok (AV.tup [zz,zk 3])) (RT.br (decide ((↑(D.len d):Int)=(↑(D.len d):Int)∧0≤D.len d∧D.len d≤64∧true=true)) (RT.br (okFrom (optOk d) (D.len d - 0) 0) (RT.br (decide (1488<(↑(D.len (encP d (D.len d))):Int))) (RT.ok (AV.tup [zz,zk 2])) (RT.ok (AV.tup [zs zU (encP d (D.len d)),zk 0]))) (RT.ok (AV.tup [zy,zi 80]))) (RT.bad 210)):=by kernel_rfl
def FEnc:List AV→RT AV
  | [.sl false [.int .i64,.sl [.int .u8]] d none]=>.ok (.tup [asl byS (encO d),ai (encE d)])
  | _=>.bad 205
theorem encE_many {d:D} (h:64<d.len):encE d=3:=by unfold encE; rw [if_pos h]
theorem encE_bad {d:D} (h:¬ 64<d.len) (h2:okFrom (optOk d) d.len 0=false):encE d=80:=by unfold encE; rw [if_neg h,h2]; rfl
theorem encE_long {d:D} (h:¬ 64<d.len) (h2:okFrom (optOk d) d.len 0=true) (h3:1488<(encP d d.len).len):encE d=2:=by unfold encE; rw [if_neg h,h2,if_pos rfl,if_pos h3]
theorem encE_ok {d:D} (h:¬ 64<d.len) (h2:okFrom (optOk d) d.len 0=true) (h3:¬ 1488<(encP d d.len).len):encE d=0:=by unfold encE; rw [if_neg h,h2,if_pos rfl,if_neg h3]
theorem encO_none {d:D} (h:encE d≠0):encO d=.l []:=by unfold encO; rw [if_neg h]
theorem encO_some {d:D} (h:encE d=0):encO d=encP d d.len:=by unfold encO; rw [if_pos h]
theorem le_two {a b c d:AV} (h1:Le a c) (h2:Le b d):Le (.tup [a,b]) (.tup [c,d]):=le_tup (leL_cons h1 (leL_cons h2 leL_nil))
theorem le_enc {d:D} {kn:Bool} {e:Int} (h:encE d=e) (he:e≠0) {kn':Bool}:Le (.tup [.sc kn (.slice none 0 0),.sc kn' (.int .i64 e)]) (.tup [asl byS (encO d),ai (encE d)]) :=
  le_two (le_nil (by rw [encO_none (by rw [h]; exact he)]; exact nil_len)) (le_int h.symm)
theorem le_encok {d:D} (h:encE d=0) {kn kn':Bool} {tip:Option (Nat×Nat)}:Le (.tup [.sl kn byS (encP d d.len) tip,.sc kn' (.int .i64 0)]) (.tup [asl byS (encO d),ai (encE d)]) :=
  le_two (le_sl (by rw [encO_some h]) fun i _=>by rw [encO_some h]; exact eqEl_refl _ _ _) (le_int h.symm)
theorem encode_soundF:SoundF Tryz.prog 155 (pureS Tryz.prog 155 FEnc):=by
  refine pure_in (gs:=[]) (ls:=encLs Tryz.prog) mixed trivial encLs_ok 155 100 fun args K ho H=>?_
  unfold FEnc at H
  split at H
  · rename_i d
    rw [enc_tree]
    refine ⟨fun h1=>?_,fun h1=>⟨fun h2=>⟨fun h3=>⟨fun h4=>?_,fun h4=>?_⟩,fun h3=>?_⟩,fun h2=>?_⟩⟩
    · exact ⟨_,le_enc (encE_many (by have:=odt h1; omega)) (by decide),H⟩
    · have h1:=odf h1
      exact ⟨_,le_enc (encE_long (by omega) h3 (by have:=odt h4; omega)) (by decide),H⟩
    · have h1:=odf h1
      exact ⟨_,le_encok (encE_ok (by omega) h3 (by have:=odf h4; omega)),H⟩
    · have h1:=odf h1
      exact ⟨_,le_enc (encE_bad (by omega) h3) (by decide),H⟩
    · have h1:=odf h1
      have h2:=odf h2
      exact absurd ⟨rfl,Nat.zero_le _,by omega,rfl⟩ h2
  · exact H.elim
def ren1L:Lw:=⟨[0,2,3,4],[],0,0,1000,1000⟩
def ren1F (d:D) (e:Int) (i:Nat):Tm:=⟨56,[(0,asl opS d),(2,nf),(3,ai e),(4,ai i)],[]⟩
def ren1H:Hp:=⟨[],0,[],0,1000,1000⟩
def ren2L:Lw:=⟨[0,2,3,5,6],[(false,5,0, 5)],0,1,2000,2000⟩
def ren2H:Hp:=⟨[],0,[(0,2000, 5)],1,2001,2000⟩
theorem ren1_body (d:D) (i:Int):roundT (⟨[0,2,3,4],[],0,0,1000,1000⟩) (evC Tryz.prog (gam ([])) (lam ([])) 100 36 (loopAt 0 (bodyOf Tryz.prog 36)) (⟨56,[(0,asl opS d),(2,nf),(3,ai 0),(4,ai i)],[]⟩) (⟨[],0,[],0,1000,1000⟩)) =
RT.br (decide (i<(↑(D.len d):Int))) (RT.br (decide (0≤i∧i<(↑(D.len d):Int))) (RT.br (decide (0≤D.toI (D.cell (D.get d (Int.toNat i)) 0))) (RT.br (decide (D.toI (D.cell (D.get d (Int.toNat i)) 0)≤255)) (RT.br (!decide ((↑(D.len (D.cell (D.get d (Int.toNat i)) 1)):Int)≤253)) (RT.ok (Ex.ret,(Tm.mk 56 [(0,zs zO d),(2,zy),(3,zi 80),(4,zi i)] []),(Hp.mk [] 0 [] 0 1000 1000))) (RT.ok (Ex.normal,(Tm.mk 56 [(0,zs zO d),(2,zy),(3,zi 0),(4,zi (IntKind.wrap IntKind.i64 (i+1)))] []),(Hp.mk [] 0 [] 0 1000 1000)))) (RT.ok (Ex.ret,(Tm.mk 56 [(0,zs zO d),(2,zy),(3,zi 80),(4,zi i)] []),(Hp.mk [] 0 [] 0 1000 1000)))) (RT.ok (Ex.ret,(Tm.mk 56 [(0,zs zO d),(2,zy),(3,zi 80),(4,zi i)] []),(Hp.mk [] 0 [] 0 1000 1000)))) (RT.bad 42)) (RT.ok (Ex.exit 0,(Tm.mk 56 [(0,zs zO d),(2,zy),(3,zi 0),(4,zi i)] []),(Hp.mk [] 0 [] 0 1000 1000))):=by kernel_rfl
theorem ren2_body (d out:D) (i:Int):roundT (⟨[0,2,3,5,6],[(false,5,0, 5)],0,1,2000,2000⟩) (evC Tryz.prog (gam ([])) (lam ([])) 100 36 (loopAt 2 (bodyOf Tryz.prog 36)) (⟨56,[(0,asl opS d),(2,nf),(3,ai 0),(5,sh byS out 0 2000),(6,ai i)],[]⟩) (⟨[],0,[(0,2000, 5)],1,2001,2000⟩)) =
RT.br (decide (i<(↑(D.len d):Int))) (RT.br (decide (0≤i∧i<(↑(D.len d):Int))) (RT.br (decide (0≤i∧i<(↑(D.len d):Int))) (RT.br (decide ((D.len out+2)*1≤140737488355328)) (RT.br (decide (0≤i∧i<(↑(D.len d):Int))) (RT.br (decide ((D.len (D.app out (D.l [D.t [D.i (IntKind.wrap IntKind.u8 (D.toI (D.cell (D.get d (Int.toNat i)) 0)))],D.t [D.i (IntKind.wrap IntKind.u8 (IntKind.wrap IntKind.i64 ((↑(D.len (D.cell (D.get d (Int.toNat i)) 1)):Int)+2)))]]))+D.len (D.cell (D.get d (Int.toNat i)) 1))*1≤140737488355328)) (RT.ok (Ex.normal,(Tm.mk 56 [(0,zs zO d),(2,zy),(3,zi 0),(5,AV.sl false zU (D.app (D.app out (D.l [D.t [D.i (IntKind.wrap IntKind.u8 (D.toI (D.cell (D.get d (Int.toNat i)) 0)))],D.t [D.i (IntKind.wrap IntKind.u8 (IntKind.wrap IntKind.i64 ((↑(D.len (D.cell (D.get d (Int.toNat i)) 1)):Int)+2)))]])) (D.cell (D.get d (Int.toNat i)) 1)) (some (0,2000))),(6,zi (IntKind.wrap IntKind.i64 (i+1)))] []),(Hp.mk [] 0 [(0,2000, 5)] 1 2001 2000))) (RT.bad 70)) (RT.bad 42)) (RT.bad 70)) (RT.bad 42)) (RT.bad 42)) (RT.ok (Ex.exit 2,(Tm.mk 56 [(0,zs zO d),(2,zy),(3,zi 0),(5,AV.sl false zU out (some (0,2000))),(6,zi i)] []),(Hp.mk [] 0 [(0,2000, 5)] 1 2001 2000))):=by kernel_rfl
def ren2F (d:D) (i:Nat):Tm:=⟨56,[(0,asl opS d),(2,nf),(3,ai 0),(5,sh byS (encP d i) 0 2000),(6,ai i)],[]⟩
def ren1Dec (F:Tm) (h:Hp):Option (D×Nat):=match F,h with
  | ⟨56,[(0,.sl false [.int .i64,.sl [.int .u8]] d none),(2,.sc false (.slice none 0 0)),(3,.sc false (.int .i64 0)),(4,.sc false (.int .i64 0))],[]⟩,⟨[],0,[],0,1000,1000⟩=>some (d,0)
  | _,_=>none
def ren1T (x:D×Nat):RT Out:=need false (decide (x.2≤x.1.len)) 210
  (.br (okFrom (optOk x.1) (x.1.len - x.2) x.2) (.ok (.normal,ren1F x.1 0 x.1.len,ren1H)) (.ok (.ret,ren1F x.1 80 (badFrom (optOk x.1) (x.1.len - x.2) x.2),ren1H)))
def ren2Dec (F:Tm) (h:Hp):Option (D×Nat):=match F,h with
  | ⟨56,[(0,.sl false [.int .i64,.sl [.int .u8]] d none),(2,.sc false (.slice none 0 0)),(3,.sc false (.int .i64 0)),(5,.sl false [.int .u8] (.l []) (some (0,2000))),(6,.sc false (.int .i64 0))],[]⟩,⟨[],0,[(0,2000, 5)],1,2001,2000⟩=>some (d,0)
  | _,_=>none
def ren2T (x:D×Nat):RT Out:=need false (decide (x.2≤x.1.len∧x.1.len≤64∧okFrom (optOk x.1) x.1.len 0=true)) 210 (.ok (.normal,ren2F x.1 x.1.len,ren2H))
def renLs (P:Program):List (FuncId×Nat×BSpec):=[(36,0,loopS P ren1L ren1Dec ren1T),(36,2,loopS P ren2L ren2Dec ren2T)]
theorem ren1_loop:LamE Tryz.prog 36 0 (loopS Tryz.prog ren1L ren1Dec ren1T):=by
  refine loop_in2 (gs:=[]) (ls:=[]) mixed trivial trivial _ 0 100 (by kernel_rfl) ren1L (mkF:=fun x=>ren1F x.1 0 x.2) (mkH:=fun _=>ren1H) (fun x=>x.1.len - x.2) ?_ ?_
  · intro F h x hx
    unfold ren1Dec at hx
    split at hx
    · cases hx; exact ⟨rfl,rfl⟩
    · cases hx
  · rintro ⟨d,i⟩ K H
    obtain ⟨hc,H⟩:=need_holds H
    have hi:i≤d.len:=odt hc
    have hm:=d.len_le
    show (roundT ren1L (evC _ _ _ _ _ _ (ren1F d 0 i) ren1H)).holds _
    unfold ren1L ren1F ren1H
    rw [ren1_body]
    simp only [Int.toNat_natCast]
    by_cases hlt:i<d.len
    · cases hp:optOk d i
      · have hret:K (.ret,ren1F d 80 i,ren1H):=by
          have:=H.2 (okFrom_false (Nat.le_refl _) (show i<i+(d.len - i) by omega) hp)
          dsimp only at this
          rwa [show d.len - i=(d.len - i - 1)+1 by omega,badFrom_here hp] at this
        have hp':=odf hp
        unfold optT optB at hp'
        repeat' refine And.intro (fun _=>?_) (fun _=>?_)
        all_goals first | exact hret | (exfalso; clear H hret; simp only [decide_eq_true_eq,decide_eq_false_iff_not,Bool.not_eq_true',Bool.not_eq_false'] at *; omega)
      · have hnext:∃ x':D×Nat,(ren1F d 0 (i+1)=ren1F x'.1 0 x'.2∧ren1H=ren1H)∧x'.1.len - x'.2<d.len - i∧(ren1T x').holds K:=by
          refine ⟨(d,i+1),⟨rfl,rfl⟩,by show d.len - (i+1)<d.len - i; omega,?_⟩
          refine ⟨fun _=>?_,fun hf=>absurd (show i+1≤d.len by omega) (odf hf)⟩
          have e:d.len - i=(d.len - (i+1))+1:=by omega
          have e1:okFrom (optOk d) (d.len - i) i=okFrom (optOk d) (d.len - (i+1)) (i+1):=by rw [e]; simp only [okFrom,hp,Bool.true_and]
          have e2:badFrom (optOk d) (d.len - i) i=badFrom (optOk d) (d.len - (i+1)) (i+1):=by rw [e,badFrom_cons hp]
          dsimp only at H
          rw [e1,e2] at H
          exact H
        have hp':=odt hp
        unfold optT optB at hp'
        repeat' refine And.intro (fun _=>?_) (fun _=>?_)
        all_goals first | (rw [wrap_succ hlt hm]; exact hnext) | (exfalso; clear H hnext; simp only [decide_eq_true_eq,decide_eq_false_iff_not,Bool.not_eq_true',Bool.not_eq_false'] at *; omega)
    · have:i=d.len:=by omega
      subst this
      refine ⟨fun h1=>?_,fun h1=>H.1 (by rw [Nat.sub_self]; rfl)⟩
      have:=odt h1
      omega
theorem ren2_loop:LamE Tryz.prog 36 2 (loopS Tryz.prog ren2L ren2Dec ren2T):=by
  refine loop_in2 (gs:=[]) (ls:=[]) mixed trivial trivial _ 2 100 (by kernel_rfl) ren2L (mkF:=fun x=>ren2F x.1 x.2) (mkH:=fun _=>ren2H) (fun x=>x.1.len - x.2) ?_ ?_
  · intro F h x hx
    unfold ren2Dec at hx
    split at hx
    · cases hx; exact ⟨rfl,rfl⟩
    · cases hx
  · rintro ⟨d,i⟩ K H
    obtain ⟨hc,H⟩:=need_holds H
    obtain ⟨hi,h64,hall⟩:i≤d.len∧d.len≤64∧okFrom (optOk d) d.len 0=true:=odt hc
    have hm:=d.len_le
    have hok:okFrom (optOk d) i 0=true:=okFrom_iff.2 fun j h1 h2=>okFrom_iff.1 hall j h1 (by omega)
    have hel:=enc_len (by omega) hok
    show (roundT ren2L (evC _ _ _ _ _ _ (ren2F d i) ren2H)).holds _
    unfold ren2L ren2F ren2H
    rw [ren2_body]
    simp only [Int.toNat_natCast]
    by_cases hlt:i<d.len
    · have hp:=okFrom_iff.1 hall i (by omega) (by omega)
      have hnext:∃ x':D×Nat,(ren2F d (i+1)=ren2F x'.1 x'.2∧ren2H=ren2H)∧x'.1.len - x'.2<d.len - i∧(ren2T x').holds K :=
        ⟨(d,i+1),⟨rfl,rfl⟩,by show d.len - (i+1)<d.len - i; omega,fun _=>H,fun hf=>absurd ⟨show i+1≤d.len by omega,h64,hall⟩ (odf hf)⟩
      have hp':=odt hp
      unfold optT optB at hp'
      have hap:((encP d i).app (headD d i)).len=(encP d i).len+2:=by rw [app_len (by rw [head_len]; unfold maxLen; omega),head_len]
      unfold headD optT optB at hap
      repeat' refine And.intro (fun _=>?_) (fun _=>?_)
      all_goals first | (rw [wrap_succ hlt hm]; exact hnext) | (exfalso; clear H hnext; simp only [decide_eq_true_eq,decide_eq_false_iff_not,Bool.not_eq_true',Bool.not_eq_false'] at *; omega)
    · have:i=d.len:=by omega
      subst this
      refine ⟨fun h1=>?_,fun h1=>H⟩
      have:=odt h1
      omega
theorem renLs_ok:LamL Tryz.prog (renLs Tryz.prog):=⟨ren1_loop,ren2_loop,trivial⟩
theorem ren_tree (d:D):treeF (evF Tryz.prog (gam ([])) (lam (renLs Tryz.prog)) 100 36) [asl opS d] =
RT.br (decide (64<(↑(D.len d):Int))) (RT.ok (AV.tup [zz,zk 3])) (RT.br true (RT.br (okFrom (optOk d) (D.len d - 0) 0) (RT.br (decide (0≤D.len d∧D.len d≤64∧okFrom (optOk d) (D.len d) 0=true)) (RT.br (decide (1488<(↑(D.len (encP d (D.len d))):Int))) (RT.ok (AV.tup [zz,zk 2])) (RT.ok (AV.tup [zs zU (encP d (D.len d)),zk 0]))) (RT.bad 210)) (RT.ok (AV.tup [zy,zi 80]))) (RT.bad 210)):=by kernel_rfl
theorem rencode_soundF:SoundF Tryz.prog 36 (pureS Tryz.prog 36 FEnc):=by
  refine pure_in (gs:=[]) (ls:=renLs Tryz.prog) mixed trivial renLs_ok 36 100 fun args K ho H=>?_
  unfold FEnc at H
  split at H
  · rename_i d
    rw [ren_tree]
    refine ⟨fun h1=>?_,fun h1=>⟨fun _=>⟨fun h3=>⟨fun h2=>⟨fun h4=>?_,fun h4=>?_⟩,fun h2=>?_⟩,fun h3=>?_⟩,fun h2=>?_⟩⟩
    · exact ⟨_,le_enc (encE_many (by have:=odt h1; omega)) (by decide),H⟩
    · have h1:=odf h1
      exact ⟨_,le_enc (encE_long (by omega) h3 (by have:=odt h4; omega)) (by decide),H⟩
    · have h1:=odf h1
      exact ⟨_,le_encok (encE_ok (by omega) h3 (by have:=odf h4; omega)),H⟩
    · have h1:=odf h1
      have h2:=odf h2
      exact absurd ⟨Nat.zero_le _,by omega,h3⟩ h2
    · have h1:=odf h1
      exact ⟨_,le_enc (encE_bad (by omega) h3) (by decide),H⟩
    · cases h2
  · exact H.elim
def oneE (a b:D) (i:Nat):Bool:=((a.get i).cell 0).toI==((b.get i).cell 0).toI&&(((a.get i).cell 1).str.toList==((b.get i).cell 1).str.toList)
def sameO (a b:D):Bool:=decide (a.len=b.len)&&okFrom (oneE a b) a.len 0
def rsaL:Lw:=⟨[0,1,4,5],[],0,0,1000,1000⟩
def rsaF (a b:D) (i:Nat):Tm:=⟨27,[(0,asl opS a),(1,asl opS b),(4,ab false),(5,ai i)],[]⟩
def eqfL:Lw:=⟨[1,2,6,15,16,17],[],0,0,1000,1000⟩
abbrev smeF:AV:=.fn (.func 206) [] []
def eqfF (a b:D) (n:Int) (i:Nat):Tm:=⟨32,[(1,asl opS b),(2,smeF),(6,ab false),(15,asl opS a),(16,ai n),(17,ai i)],[]⟩
theorem rsa_body (a b:D) (i:Int):roundT (⟨[0,1,4,5],[],0,0,1000,1000⟩) (evC Tryz.prog (gam ([])) (lam ([])) 100 135 (loopAt 0 (bodyOf Tryz.prog 135)) (⟨27,[(0,asl opS a),(1,asl opS b),(4,ab false),(5,ai i)],[]⟩) (⟨[],0,[],0,1000,1000⟩)) =
RT.br (decide (i<(↑(D.len a):Int))) (RT.br (decide (0≤i∧i<(↑(D.len a):Int))) (RT.br (decide (0≤i∧i<(↑(D.len b):Int))) (RT.br (D.toI (D.cell (D.get a (Int.toNat i)) 0)==D.toI (D.cell (D.get b (Int.toNat i)) 0)) (RT.br (!ByteArray.toList (D.str (D.cell (D.get a (Int.toNat i)) (0+1)))==ByteArray.toList (D.str (D.cell (D.get b (Int.toNat i)) (0+1)))) (RT.ok (Ex.ret,(Tm.mk 27 [(0,zs zO a),(1,zs zO b),(4,zb false),(5,zi i)] []),(Hp.mk [] 0 [] 0 1000 1000))) (RT.ok (Ex.normal,(Tm.mk 27 [(0,zs zO a),(1,zs zO b),(4,zb false),(5,zi (IntKind.wrap IntKind.i64 (i+1)))] []),(Hp.mk [] 0 [] 0 1000 1000)))) (RT.ok (Ex.ret,(Tm.mk 27 [(0,zs zO a),(1,zs zO b),(4,zb false),(5,zi i)] []),(Hp.mk [] 0 [] 0 1000 1000)))) (RT.bad 42)) (RT.bad 42)) (RT.ok (Ex.exit 0,(Tm.mk 27 [(0,zs zO a),(1,zs zO b),(4,zb false),(5,zi i)] []),(Hp.mk [] 0 [] 0 1000 1000))):=by kernel_rfl
theorem eqf_body (a b:D) (n i:Int):roundT (⟨[1,2,6,15,16,17],[],0,0,1000,1000⟩) (evC Tryz.prog (gam ([])) (lam ([])) 100 205 (loopAt 0 (bodyOf Tryz.prog 205)) (⟨32,[(1,asl opS b),(2,smeF),(6,ab false),(15,asl opS a),(16,ai n),(17,ai i)],[]⟩) (⟨[],0,[],0,1000,1000⟩)) =
RT.br (decide (i<n)) (RT.br (decide (0≤i∧i<(↑(D.len a):Int))) (RT.br (decide (0≤i∧i<(↑(D.len b):Int))) (RT.br (D.toI (D.cell (D.get a (Int.toNat i)) 0)==D.toI (D.cell (D.get b (Int.toNat i)) 0)) (RT.br (!ByteArray.toList (D.str (D.cell (D.get a (Int.toNat i)) (0+1)))==ByteArray.toList (D.str (D.cell (D.get b (Int.toNat i)) (0+1)))) (RT.ok (Ex.ret,(Tm.mk 32 [(1,zs zO b),(2,AV.fn (Fn.func 206) [] []),(6,zb false),(15,zs zO a),(16,zi n),(17,zi i)] []),(Hp.mk [] 0 [] 0 1000 1000))) (RT.ok (Ex.normal,(Tm.mk 32 [(1,zs zO b),(2,AV.fn (Fn.func 206) [] []),(6,zb false),(15,zs zO a),(16,zi n),(17,zi (IntKind.wrap IntKind.i64 (i+1)))] []),(Hp.mk [] 0 [] 0 1000 1000)))) (RT.ok (Ex.ret,(Tm.mk 32 [(1,zs zO b),(2,AV.fn (Fn.func 206) [] []),(6,zb false),(15,zs zO a),(16,zi n),(17,zi i)] []),(Hp.mk [] 0 [] 0 1000 1000)))) (RT.bad 42)) (RT.bad 42)) (RT.ok (Ex.exit 0,(Tm.mk 32 [(1,zs zO b),(2,AV.fn (Fn.func 206) [] []),(6,zb false),(15,zs zO a),(16,zi n),(17,zi i)] []),(Hp.mk [] 0 [] 0 1000 1000))):=by kernel_rfl
def rsaDec (F:Tm) (h:Hp):Option (D×D×Nat):=match F,h with
  | ⟨27,[(0,.sl false [.int .i64,.sl [.int .u8]] a none),(1,.sl false [.int .i64,.sl [.int .u8]] b none),(4,.sc false (.bool false)),(5,.sc false (.int .i64 0))],[]⟩,⟨[],0,[],0,1000,1000⟩=>some (a,b,0)
  | _,_=>none
def rsaT (x:D×D×Nat):RT Out:=need false (decide (x.1.len=x.2.1.len∧x.2.2≤x.1.len)) 210
  (.br (okFrom (oneE x.1 x.2.1) (x.1.len - x.2.2) x.2.2) (.ok (.normal,rsaF x.1 x.2.1 x.1.len,ren1H)) (.ok (.ret,rsaF x.1 x.2.1 (badFrom (oneE x.1 x.2.1) (x.1.len - x.2.2) x.2.2),ren1H)))
def rsaLs (P:Program):List (FuncId×Nat×BSpec):=[(135,0,loopS P rsaL rsaDec rsaT)]
def eqfDec (F:Tm) (h:Hp):Option (D×D×Int×Nat):=match F,h with
  | ⟨32,[(1,.sl false [.int .i64,.sl [.int .u8]] b none),(2,.fn (.func 206) [] []),(6,.sc false (.bool false)),(15,.sl false [.int .i64,.sl [.int .u8]] a none),(16,.sc false (.int .i64 n)),(17,.sc false (.int .i64 0))],[]⟩,⟨[],0,[],0,1000,1000⟩=>some (a,b,n,0)
  | _,_=>none
def eqfT (x:D×D×Int×Nat):RT Out:=need false (decide (x.2.2.1=(x.1.len:Int)∧x.1.len=x.2.1.len∧x.2.2.2≤x.1.len)) 210
  (.br (okFrom (oneE x.1 x.2.1) (x.1.len - x.2.2.2) x.2.2.2) (.ok (.normal,eqfF x.1 x.2.1 x.2.2.1 x.1.len,ren1H)) (.ok (.ret,eqfF x.1 x.2.1 x.2.2.1 (badFrom (oneE x.1 x.2.1) (x.1.len - x.2.2.2) x.2.2.2),ren1H)))
def eqfLs (P:Program):List (FuncId×Nat×BSpec):=[(205,0,loopS P eqfL eqfDec eqfT)]
theorem rsa_loop:LamE Tryz.prog 135 0 (loopS Tryz.prog rsaL rsaDec rsaT):=by
  refine loop_in2 (gs:=[]) (ls:=[]) mixed trivial trivial _ 0 100 (by kernel_rfl) rsaL (mkF:=fun x=>rsaF x.1 x.2.1 x.2.2) (mkH:=fun _=>ren1H) (fun x=>x.1.len - x.2.2) ?_ ?_
  · intro F h x hx
    unfold rsaDec at hx
    split at hx
    · cases hx; exact ⟨rfl,rfl⟩
    · cases hx
  · rintro ⟨a,b,i⟩ K H
    obtain ⟨hc,H⟩:=need_holds H
    obtain ⟨hab,hi⟩:a.len=b.len∧i≤a.len:=odt hc
    have hm:=a.len_le
    show (roundT rsaL (evC _ _ _ _ _ _ (rsaF a b i) ren1H)).holds _
    unfold rsaL rsaF ren1H
    rw [rsa_body]
    simp only [Int.toNat_natCast]
    by_cases hlt:i<a.len
    · cases hp:oneE a b i
      · have hret:K (.ret,rsaF a b i,ren1H):=by
          have:=H.2 (okFrom_false (Nat.le_refl _) (show i<i+(a.len - i) by omega) hp)
          dsimp only at this
          rwa [show a.len - i=(a.len - i - 1)+1 by omega,badFrom_here hp] at this
        unfold oneE at hp
        repeat' refine And.intro (fun _=>?_) (fun _=>?_)
        all_goals first | exact hret | (exfalso; clear H hret; simp only [decide_eq_true_eq,decide_eq_false_iff_not,Bool.not_eq_true',Bool.not_eq_false'] at *; omega) | (exfalso; clear H hret; simp_all)
      · have hnext:∃ x':D×D×Nat,(rsaF a b (i+1)=rsaF x'.1 x'.2.1 x'.2.2∧ren1H=ren1H)∧x'.1.len - x'.2.2<a.len - i∧(rsaT x').holds K:=by
          refine ⟨(a,b,i+1),⟨rfl,rfl⟩,by show a.len - (i+1)<a.len - i; omega,?_⟩
          refine ⟨fun _=>?_,fun hf=>absurd (show a.len=b.len∧i+1≤a.len from ⟨hab,by omega⟩) (odf hf)⟩
          have e:a.len - i=(a.len - (i+1))+1:=by omega
          have e1:okFrom (oneE a b) (a.len - i) i=okFrom (oneE a b) (a.len - (i+1)) (i+1):=by rw [e]; simp only [okFrom,hp,Bool.true_and]
          have e2:badFrom (oneE a b) (a.len - i) i=badFrom (oneE a b) (a.len - (i+1)) (i+1):=by rw [e,badFrom_cons hp]
          dsimp only at H
          rw [e1,e2] at H
          exact H
        unfold oneE at hp
        repeat' refine And.intro (fun _=>?_) (fun _=>?_)
        all_goals first | (rw [wrap_succ hlt hm]; exact hnext) | (exfalso; clear H hnext; simp only [decide_eq_true_eq,decide_eq_false_iff_not,Bool.not_eq_true',Bool.not_eq_false'] at *; omega) | (exfalso; clear H hnext; simp_all)
    · have:i=a.len:=by omega
      subst this
      refine ⟨fun h1=>?_,fun h1=>H.1 (by rw [Nat.sub_self]; rfl)⟩
      have:=odt h1
      omega
theorem rsaLs_ok:LamL Tryz.prog (rsaLs Tryz.prog):=⟨rsa_loop,trivial⟩
theorem eqf_loop:LamE Tryz.prog 205 0 (loopS Tryz.prog eqfL eqfDec eqfT):=by
  refine loop_in2 (gs:=[]) (ls:=[]) mixed trivial trivial _ 0 100 (by kernel_rfl) eqfL (mkF:=fun x=>eqfF x.1 x.2.1 x.2.2.1 x.2.2.2) (mkH:=fun _=>ren1H) (fun x=>x.1.len - x.2.2.2) ?_ ?_
  · intro F h x hx
    unfold eqfDec at hx
    split at hx
    · cases hx; exact ⟨rfl,rfl⟩
    · cases hx
  · rintro ⟨a,b,n,i⟩ K H
    obtain ⟨hc,H⟩:=need_holds H
    obtain ⟨rfl,hab,hi⟩:n=(a.len:Int)∧a.len=b.len∧i≤a.len:=odt hc
    have hm:=a.len_le
    show (roundT eqfL (evC _ _ _ _ _ _ (eqfF a b a.len i) ren1H)).holds _
    unfold eqfL eqfF ren1H
    rw [eqf_body]
    simp only [Int.toNat_natCast]
    by_cases hlt:i<a.len
    · cases hp:oneE a b i
      · have hret:K (.ret,eqfF a b a.len i,ren1H):=by
          have:=H.2 (okFrom_false (Nat.le_refl _) (show i<i+(a.len - i) by omega) hp)
          dsimp only at this
          rwa [show a.len - i=(a.len - i - 1)+1 by omega,badFrom_here hp] at this
        unfold oneE at hp
        repeat' refine And.intro (fun _=>?_) (fun _=>?_)
        all_goals first | exact hret | (exfalso; clear H hret; simp only [decide_eq_true_eq,decide_eq_false_iff_not,Bool.not_eq_true',Bool.not_eq_false'] at *; omega) | (exfalso; clear H hret; simp_all)
      · have hnext:∃ x':D×D×Int×Nat,(eqfF a b a.len (i+1)=eqfF x'.1 x'.2.1 x'.2.2.1 x'.2.2.2∧ren1H=ren1H)∧x'.1.len - x'.2.2.2<a.len - i∧(eqfT x').holds K:=by
          refine ⟨(a,b,a.len,i+1),⟨rfl,rfl⟩,by show a.len - (i+1)<a.len - i; omega,?_⟩
          refine ⟨fun _=>?_,fun hf=>absurd (show (a.len:Int)=a.len∧a.len=b.len∧i+1≤a.len from ⟨rfl,hab,by omega⟩) (odf hf)⟩
          have e:a.len - i=(a.len - (i+1))+1:=by omega
          have e1:okFrom (oneE a b) (a.len - i) i=okFrom (oneE a b) (a.len - (i+1)) (i+1):=by rw [e]; simp only [okFrom,hp,Bool.true_and]
          have e2:badFrom (oneE a b) (a.len - i) i=badFrom (oneE a b) (a.len - (i+1)) (i+1):=by rw [e,badFrom_cons hp]
          dsimp only at H
          rw [e1,e2] at H
          exact H
        unfold oneE at hp
        repeat' refine And.intro (fun _=>?_) (fun _=>?_)
        all_goals first | (rw [wrap_succ hlt hm]; exact hnext) | (exfalso; clear H hnext; simp only [decide_eq_true_eq,decide_eq_false_iff_not,Bool.not_eq_true',Bool.not_eq_false'] at *; omega) | (exfalso; clear H hnext; simp_all)
    · have:i=a.len:=by omega
      subst this
      refine ⟨fun h1=>?_,fun h1=>H.1 (by rw [Nat.sub_self]; rfl)⟩
      have:=odt h1
      omega
theorem eqfLs_ok:LamL Tryz.prog (eqfLs Tryz.prog):=⟨eqf_loop,trivial⟩
theorem rsa_tree (a b:D):treeF (evF Tryz.prog (gam ([])) (lam (rsaLs Tryz.prog)) 100 135) [asl opS a,asl opS b] =
RT.br ((↑(D.len a):Int) != (↑(D.len b):Int)) (RT.ok (AV.sc true (Value.bool false))) (RT.br (decide (D.len a=D.len b∧0≤D.len a)) (RT.br (okFrom (oneE a b) (D.len a - 0) 0) (RT.ok (AV.sc true (Value.bool true))) (RT.ok (zb false))) (RT.bad 210)):=by kernel_rfl
theorem osa_tree (a b:D):treeF (evF Tryz.prog (gam ([])) (lam (eqfLs Tryz.prog)) 100 159) [asl opS a,asl opS b] =
RT.br ((↑(D.len a):Int) != (↑(D.len b):Int)) (RT.ok (AV.sc true (Value.bool false))) (RT.br (decide ((↑(D.len a):Int)=(↑(D.len a):Int)∧D.len a=D.len b∧0≤D.len a)) (RT.br (okFrom (oneE a b) (D.len a - 0) 0) (RT.ok (AV.sc true (Value.bool true))) (RT.ok (zb false))) (RT.bad 210)):=by kernel_rfl
def FSameO:List AV→RT AV
  | [.sl false [.int .i64,.sl [.int .u8]] a none,.sl false [.int .i64,.sl [.int .u8]] b none]=>.ok (ab (sameO a b))
  | _=>.bad 205
theorem rsame_soundF:SoundF Tryz.prog 135 (pureS Tryz.prog 135 FSameO):=by
  refine pure_in (gs:=[]) (ls:=rsaLs Tryz.prog) mixed trivial rsaLs_ok 135 100 fun args K ho H=>?_
  unfold FSameO at H
  split at H
  · rename_i a b
    rw [rsa_tree]
    refine ⟨fun h1=>⟨_,le_bool ?_,H⟩,fun h1=>⟨fun h2=>⟨fun h3=>⟨_,le_bool ?_,H⟩,fun h3=>⟨_,le_bool ?_,H⟩⟩,fun h2=>?_⟩⟩
    · have:a.len≠b.len:=by intro e; simp [e] at h1
      simp [sameO,this]
    · have:=(odt h2).1
      unfold sameO; rw [det this,show okFrom (oneE a b) a.len 0=true from h3]; rfl
    · have:=(odt h2).1
      unfold sameO; rw [det this,show okFrom (oneE a b) a.len 0=false from h3]; rfl
    · have:a.len=b.len:=by simp at h1; omega
      exact absurd ⟨this,Nat.zero_le _⟩ (odf h2)
  · exact H.elim
theorem osame_soundF:SoundF Tryz.prog 159 (pureS Tryz.prog 159 FSameO):=by
  refine pure_in (gs:=[]) (ls:=eqfLs Tryz.prog) mixed trivial eqfLs_ok 159 100 fun args K ho H=>?_
  unfold FSameO at H
  split at H
  · rename_i a b
    rw [osa_tree]
    refine ⟨fun h1=>⟨_,le_bool ?_,H⟩,fun h1=>⟨fun h2=>⟨fun h3=>⟨_,le_bool ?_,H⟩,fun h3=>⟨_,le_bool ?_,H⟩⟩,fun h2=>?_⟩⟩
    · have:a.len≠b.len:=by intro e; simp [e] at h1
      simp [sameO,this]
    · have:=(odt h2).2.1
      unfold sameO; rw [det this,show okFrom (oneE a b) a.len 0=true from h3]; rfl
    · have:=(odt h2).2.1
      unfold sameO; rw [det this,show okFrom (oneE a b) a.len 0=false from h3]; rfl
    · have:a.len=b.len:=by simp at h1; omega
      exact absurd ⟨rfl,this,Nat.zero_le _⟩ (odf h2)
  · exact H.elim
abbrev autA (st id rq:Int) (d:D) (ct tm nk:Int):AV:=.agg [ai st,ai id,ai rq,asl opS d,ai ct,ai tm,ai nk]
abbrev lcpA (st id rq:Int) (d:D) (ct tm nk mg pr mu pe ne:Int):AV:=.agg [ai st,ai id,ai rq,asl opS d,ai ct,ai tm,ai nk,ai mg,ai pr,ai mu,ai pe,ai ne]
def sameG (P:Program):List (FuncId×Spec):=[(159,pureS P 159 FSameO),(135,pureS P 135 FSameO)]
theorem sameG_ok:GamL Tryz.prog (sameG Tryz.prog):=⟨osame_soundF,rsame_soundF,trivial⟩
theorem rlsa_tree (st id rq:Int) (d:D) (ct tm nk mg pr mu pe ne:Int) (st' id' rq':Int) (d':D) (ct' tm' nk' mg' pr' mu' pe' ne':Int):treeF (evF Tryz.prog (gam (sameG Tryz.prog)) (lam ([])) 100 38) [lcpA st id rq d ct tm nk mg pr mu pe ne,lcpA st' id' rq' d' ct' tm' nk' mg' pr' mu' pe' ne'] =
RT.br (st==st') (RT.br (id==id') (RT.br (rq==rq') (RT.br (ct==ct') (RT.br (tm==tm') (RT.br (nk==nk') (RT.br (sameO d d') (RT.br (mg==mg') (RT.br (pr==pr') (RT.br (mu==mu') (RT.br (pe==pe') (RT.ok (zb (ne==ne'))) (RT.ok (AV.sc true (Value.bool false)))) (RT.ok (AV.sc true (Value.bool false)))) (RT.ok (AV.sc true (Value.bool false)))) (RT.ok (AV.sc true (Value.bool false)))) (RT.ok (AV.sc true (Value.bool false)))) (RT.ok (AV.sc true (Value.bool false)))) (RT.ok (AV.sc true (Value.bool false)))) (RT.ok (AV.sc true (Value.bool false)))) (RT.ok (AV.sc true (Value.bool false)))) (RT.ok (AV.sc true (Value.bool false)))) (RT.ok (AV.sc true (Value.bool false))):=by kernel_rfl
def sameL (st id rq:Int) (d:D) (ct tm nk mg pr mu pe ne:Int) (st' id' rq':Int) (d':D) (ct' tm' nk' mg' pr' mu' pe' ne':Int):Bool :=
  st==st'&&(id==id'&&(rq==rq'&&(ct==ct'&&(tm==tm'&&(nk==nk'&&(sameO d d'&&(mg==mg'&&(pr==pr'&&(mu==mu'&&(pe==pe'&&ne==ne'))))))))))
def FSameL:List AV→RT AV
  | [.agg [.sc false (.int .i64 st),.sc false (.int .i64 id),.sc false (.int .i64 rq),.sl false [.int .i64,.sl [.int .u8]] d none,.sc false (.int .i64 ct),.sc false (.int .i64 tm),.sc false (.int .i64 nk),.sc false (.int .i64 mg),.sc false (.int .i64 pr),.sc false (.int .i64 mu),.sc false (.int .i64 pe),.sc false (.int .i64 ne)],
     .agg [.sc false (.int .i64 st'),.sc false (.int .i64 id'),.sc false (.int .i64 rq'),.sl false [.int .i64,.sl [.int .u8]] d' none,.sc false (.int .i64 ct'),.sc false (.int .i64 tm'),.sc false (.int .i64 nk'),.sc false (.int .i64 mg'),.sc false (.int .i64 pr'),.sc false (.int .i64 mu'),.sc false (.int .i64 pe'),.sc false (.int .i64 ne')]] =>
      .ok (ab (sameL st id rq d ct tm nk mg pr mu pe ne st' id' rq' d' ct' tm' nk' mg' pr' mu' pe' ne'))
  | _=>.bad 206
theorem rlsame_soundF:SoundF Tryz.prog 38 (pureS Tryz.prog 38 FSameL):=by
  refine pure_in (gs:=sameG Tryz.prog) (ls:=[]) mixed sameG_ok trivial 38 100 fun args K ho H=>?_
  unfold FSameL at H
  split at H
  · rw [rlsa_tree]
    simp only [RT.holds]
    repeat' refine And.intro (fun _=>?_) (fun _=>?_)
    all_goals exact ⟨_,le_bool (by simp_all only [sameL,Bool.true_and,Bool.false_and]),H⟩
  · exact H.elim
abbrev cfgA (a b c d e f g:Int):AV:=.agg [ai a,ai b,ai c,ai d,ai e,ai f,ai g]
abbrev rlS:List Sh:=[.int .i64,.int .i64,.int .i64,.int .i64,.int .i64,.int .i64,.bool]
abbrev rulD (m g:Int):D:=.l [.t [.ki 1,.ki 2,.ki 2,.ki 128,.ki 1492,.ki 1492,.kb false],.t [.ki 5,.ki 4,.ki 4,.i m,.ki 0,.i g,.kb false]]
theorem lau_tree (a b c d e f g m:Int):treeF (evF Tryz.prog (gam ([])) (lam ([])) 100 96) [cfgA a b c d e f g,ai m] =
RT.br (IntKind.wrap IntKind.i64 (↑(BitVec.toNat (BitVec.ofInt (IntKind.bits IntKind.i64) m ^^^ BitVec.ofInt (IntKind.bits IntKind.i64) 1)):Int)==0) (RT.ok (AV.agg [AV.sl true zR (D.l [D.t [D.ki 1,D.ki 2,D.ki 2,D.ki 128,D.ki 1492,D.ki 1492,D.kb false],D.t [D.ki 5,D.ki 4,D.ki 4,D.i m,D.ki 0,D.ki 2,D.kb false]]) none,zi b,zi c,zi d,zi e])) (RT.ok (AV.agg [AV.sl true zR (D.l [D.t [D.ki 1,D.ki 2,D.ki 2,D.ki 128,D.ki 1492,D.ki 1492,D.kb false],D.t [D.ki 5,D.ki 4,D.ki 4,D.i m,D.ki 0,D.i (IntKind.wrap IntKind.i64 (↑(BitVec.toNat (BitVec.ofInt (IntKind.bits IntKind.i64) m ^^^ BitVec.ofInt (IntKind.bits IntKind.i64) 1)):Int)),D.kb false]]) none,zi b,zi c,zi d,zi e])):=by kernel_rfl
theorem rlau_tree (a b c d e f g m:Int):treeF (evF Tryz.prog (gam ([])) (lam ([])) 100 153) [cfgA a b c d e f g,ai m] =
RT.br true (RT.br (Int.tmod m 2 != 0) (RT.br (IntKind.wrap IntKind.i64 (m - 1)==0) (RT.ok (AV.agg [AV.sl true zR (D.l [D.t [D.ki 1,D.ki 2,D.ki 2,D.ki 128,D.ki 1492,D.ki 1492,D.kb false],D.t [D.ki 5,D.ki 4,D.ki 4,D.i m,D.ki 0,D.ki 2,D.kb false]]) none,zi b,zi c,zi d,zi e])) (RT.ok (AV.agg [AV.sl true zR (D.l [D.t [D.ki 1,D.ki 2,D.ki 2,D.ki 128,D.ki 1492,D.ki 1492,D.kb false],D.t [D.ki 5,D.ki 4,D.ki 4,D.i m,D.ki 0,D.i (IntKind.wrap IntKind.i64 (m - 1)),D.kb false]]) none,zi b,zi c,zi d,zi e]))) (RT.br (IntKind.wrap IntKind.i64 (m+1)==0) (RT.ok (AV.agg [AV.sl true zR (D.l [D.t [D.ki 1,D.ki 2,D.ki 2,D.ki 128,D.ki 1492,D.ki 1492,D.kb false],D.t [D.ki 5,D.ki 4,D.ki 4,D.i m,D.ki 0,D.ki 2,D.kb false]]) none,zi b,zi c,zi d,zi e])) (RT.ok (AV.agg [AV.sl true zR (D.l [D.t [D.ki 1,D.ki 2,D.ki 2,D.ki 128,D.ki 1492,D.ki 1492,D.kb false],D.t [D.ki 5,D.ki 4,D.ki 4,D.i m,D.ki 0,D.i (IntKind.wrap IntKind.i64 (m+1)),D.kb false]]) none,zi b,zi c,zi d,zi e])))) (RT.bad 21):=by kernel_rfl
theorem chk_tree (m g:Int):treeF (evF Tryz.prog (gam ([])) (lam ([])) 100 203) [.sl true rlS (rulD m g) none] =
RT.br (decide (m<0)) (RT.ok (zk 150)) (RT.br (decide (4294967296≤m)) (RT.ok (zk 150)) (RT.br (decide (g<0)) (RT.ok (zk 150)) (RT.br (decide (4294967296≤g)) (RT.ok (zk 150)) (RT.br (!g != m) (RT.ok (zk 150)) (RT.ok (zk 0)))))):=by kernel_rfl
theorem are_tree (m g:Int):treeF (evF Tryz.prog (gam ([])) (lam ([])) 100 216) [.sl true rlS (rulD m g) none] =
RT.br (decide (0≤m)) (RT.br (decide (m<4294967296)) (RT.br (decide (0≤g)) (RT.br (decide (g<4294967296)) (RT.br (!g != m) (RT.ok (AV.sc true (Value.bool false))) (RT.ok (AV.sc true (Value.bool true)))) (RT.ok (AV.sc true (Value.bool false)))) (RT.ok (AV.sc true (Value.bool false)))) (RT.ok (AV.sc true (Value.bool false)))) (RT.ok (AV.sc true (Value.bool false))):=by kernel_rfl
end
end Go.Proofs.YtbgmclbcjdbcmaaGreat
