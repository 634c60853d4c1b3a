/- Mm, 1: texts of this claim, one behind the other: Base Rg2 Gw Zon Arm Ev1 Ev2 Ev3 Ev4 Ev5 Ev6 Ev7 Ev8 Ev9. No condition. -/
import Derived.WalkKit
import Derived.Below
import Derived.Lib.Hide
import Derived.Laws.BytesArg
import Derived.Laws.BitsAllLaws
import Derived.Laws.AppendOwnNone
import Derived.Lib.SlBytesConst
import Derived.Deep.QuietTactic
import Derived.BigQuiet
import Derived.IntWalk
import Derived.WalkLawsBesides
import Derived.WalkSpells
import Derived.StillTailTactics
import Derived.Deep.RegionHeld3
import Derived.Deep.RegionLaw
import Derived.Test.YtbgmclbcjdbcmaaGreatProg
import Derived.Deep.MidRow
import Derived.Great.BuildSlice
import Derived.Maps.AppendAt
import Derived.Laws.ResultCell
namespace Go.Proofs.YtbgmclbcjdbcmaaGreat
set_option linter.unusedSimpArgs false
set_option linter.unusedVariables false
open Go.RowKit
def SrcOf (w:World) (size:Nat) (src:Value) (m:Nat) (news:List Value):Prop :=
  (src=.slice none 0 0∧m=0∧news=[]) ∨
  ∃ ad c,src=.slice (some ad) m c∧news.length=m*size∧(∀ j u,news[j]?=some u→w.cell? (ad.add j)=some u)∧∀ u ∈ news,u.oneCell'=true
structure ElemOf (P:Program) (t e:TypeId) (size bytes:Nat) (z:Value):Prop where
  ht:P.underlying t=some (.slice e)
  ex:∃ i,P.info? e=some i∧i.zero=some z∧i.size=size∧i.bytes=bytes
  hzs:z.cells.size=size
  pos:0<size
  one:1≤bytes
theorem wp_append_from {P:Program} {w:World} {o:Oper} {a:Act} {K:Act→World→Prop} {Q:Exit→Act→World→Prop} (s x:Operand) (t:TypeId)
    (ho:o.op=.call { callee:=.builtin .append,args:=#[s,x],argTypes:=#[t,t] })
    (base:Nat) {e:TypeId} {size bytes:Nat} {z:Value} (hE:ElemOf P t e size bytes z)
    {v:Value} {n:Nat} {xs:List Value} (hs:a.eval s=v) (hown:w.ownsRow base e size v n xs)
    {src:Value} {m:Nat} {news:List Value} (hx:a.eval x=src) (hsrc:SrcOf w size src m news)
    (hbytes:(n+m)*bytes≤140737488355328) (hbase:base≤w.heap.size)
    (h:∀ v' w',w'.ownsRow base e size v' (n+m) (xs ++ news)→w.grownBy w' v.ownBlock→Below base w w'→K (a.put o.dst v') w'):o.wp P a w K Q:=by
  obtain ⟨ht,⟨i,hi,hz,hsize,hby⟩,hzs,hpos,hone⟩:=hE
  have hlt:=hown.lt
  have h63:n+m≤maxLen:=by
    have:=Nat.le_trans (Nat.le_mul_of_pos_right (n+m) hone) hbytes
    unfold maxLen; omega
  rcases hsrc with ⟨rfl,rfl,rfl⟩ | ⟨ad,c,rfl,hl,hnews,h1⟩
  · have hrun:=run_append_owned_none (P:=P) (w:=w) base t o.type e i size ht hi v n xs hown
    have hk:=h v w (by simpa using hown) ⟨rfl,rfl,rfl,Nat.le_refl _,fun _ _ _=>rfl⟩ (Below.refl _ _)
    unfold Oper.wp
    simp [execOp,ho,resolve,invoke,builtin,hs,hx,hrun,Result.andThen]
    exact hk
  · refine wp_append_own w s x t ho base e i z size bytes ht hi hz hsize hby hzs hpos v n xs hs hown ad m c news hx hl hnews h1 h63 hbytes hbase ?_
    intro v' w' ho' hg' _
    exact h v' w' ho' hg' ((Below.refl base w).grown hg' hbase (fun k hk=>(hlt k hk).1))
theorem wpList_append_from {P:Program} {w:World} {ops:Array Oper} {rest:List Oper} {o:Oper} {a:Act} {Q:Exit→Act→World→Prop} (hgd:o.guard=none) (s x:Operand) (t:TypeId)
    (ho:o.op=.call { callee:=.builtin .append,args:=#[s,x],argTypes:=#[t,t] })
    (base:Nat) {e:TypeId} {size bytes:Nat} {z:Value} (hE:ElemOf P t e size bytes z)
    {v:Value} {n:Nat} {xs:List Value} (hs:a.eval s=v) (hown:w.ownsRow base e size v n xs)
    {src:Value} {m:Nat} {news:List Value} (hx:a.eval x=src) (hsrc:SrcOf w size src m news)
    (hbytes:(n+m)*bytes≤140737488355328) (hbase:base≤w.heap.size)
    (h:∀ v' w',w'.ownsRow base e size v' (n+m) (xs ++ news)→w.grownBy w' v.ownBlock→Below base w w'→wpList P ops Q rest (a.put o.dst v') w'):wpList P ops Q (o :: rest) a w :=
  wpList_plain hgd fun _ hK=>wp_append_from s x t ho base hE hs hown hx hsrc hbytes hbase fun v' w' h1 h2 h3=>hK _ _ (h v' w' h1 h2 h3)
abbrev bv (b:UInt8):Value:=.int .u8 (b.toNat:Int)
theorem SrcOf.alloc {w:World} {size:Nat} {src:Value} {m:Nat} {news:List Value} (h:SrcOf w size src m news) (o:Obj):SrcOf (w.alloc o) size src m news:=by
  rcases h with h | ⟨ad,c,rfl,h1,h2,h3⟩
  · exact .inl h
  · exact .inr ⟨ad,c,rfl,h1,fun j u hu=>(World.cell?_alloc_lt _ _ _ (World.block_lt_of_cell? w _ (h2 j u hu))).trans (h2 j u hu),h3⟩
theorem own_empty (w:World) (base:Nat) (hb:base≤w.heap.size) (e:TypeId) (size:Nat):(w.alloc (.cells #[] e)).ownsRow base e size (.slice (some ⟨w.heap.size,0,none⟩) 0 0) 0 [] :=
  World.ownsRow_made w #[] 0 hb (by simp) (by simp)
theorem own_frozen {w:World} {base:Nat} {e:TypeId} {size:Nat} {g n c:Nat} {xs:List Value} (h:w.ownsRow base e size (.slice (some ⟨g,0,none⟩) n c) n xs) (j:Nat):w.frozen? ⟨g,j,none⟩=false:=by
  obtain ⟨_,h⟩:=h
  rcases h with ⟨h,_⟩ | ⟨g',cap,cur,hv,_,hg,_⟩
  · cases h
  · cases hv
    simp [World.frozen?,hg]
theorem own_cell {w:World} {base:Nat} {e:TypeId} {size:Nat} {g n c:Nat} {xs:List Value} (h:w.ownsRow base e size (.slice (some ⟨g,0,none⟩) n c) n xs) (j:Nat) (u:Value) (hu:xs[j]?=some u):w.cell? ⟨g,j,none⟩=some u:=by
  have:=h.cells (g:=g) rfl j u hu
  rwa [show (⟨g,0,none⟩:Addr).add j=⟨g,j,none⟩ by unfold Addr.add; split <;> simp_all] at this
theorem own_set {w:World} {base:Nat} {e:TypeId} {size:Nat} {g n c:Nat} {xs:List Value} (h:w.ownsRow base e size (.slice (some ⟨g,0,none⟩) n c) n xs) (j:Nat) (u:Value) :
    (w.setCell ⟨g,j,none⟩ u).ownsRow base e size (.slice (some ⟨g,0,none⟩) n c) n (xs.set j u):=by
  obtain ⟨hl,h⟩:=h
  refine ⟨by simpa using hl,?_⟩
  rcases h with ⟨h,_⟩ | ⟨g',cap,cur,hv,hb,hg,h1,h2,h3,h4⟩
  · cases h
  · cases hv
    refine .inr ⟨g,c,cur.setIfInBounds j u,rfl,hb,?_,h1,h2,by simpa using h3,?_⟩
    · simp [World.setCell,Array.getElem?_modify,hg]
    · rw [Array.toList_setIfInBounds,List.take_set,h4]
theorem run_make_own_full {P:Program} {t e:TypeId} {size bytes:Nat} {z:Value} (hE:ElemOf P t e size bytes z) (w:World) (base:Nat) (kl kc:IntKind) (n:Nat) (hbytes:bytes*n≤281474976710656) (h63:n≤maxLen) (hbase:base≤w.heap.size) :
    ∃ w',(Instr.makeSlice t (.int kl (n:Int)) (.int kc (n:Int))).run P w=.ok (.slice (some ⟨w.heap.size,0,none⟩) n n) w' ∧
      w'.ownsRow base e size (.slice (some ⟨w.heap.size,0,none⟩) n n) n (madeCells z.cells (n*size)).toList∧Below w.heap.size w w'∧w'.heap.size=w.heap.size+1:=by
  obtain ⟨ht,⟨i,hi,hz,rfl,rfl⟩,hzs,hpos,hone⟩:=hE
  have h63':(n:Int)≤9223372036854775807:=by unfold maxLen at h63; omega
  have hr:=run_make (P:=P) w t e i z ht hi hz kl kc (n:Int) (n:Int) (by omega) (Int.le_refl _) (by rw [← Int.natCast_mul]; exact Int.ofNat_le.2 hbytes) h63'
  simp only [Int.toNat_natCast] at hr
  have hsz:(madeCells z.cells (n*i.size)).size=n*i.size:=by
    simp [madeCells]
  refine ⟨_,hr,⟨by simpa using hsz,.inr ⟨w.heap.size,n,_,rfl,hbase,heap_alloc_new w _,Nat.le_refl _,h63,hsz,?_⟩⟩,(Below.refl _ _).alloc (Nat.le_refl _) _,by simp⟩
  rw [List.take_of_length_le (by simp [hsz])]
section rg
variable {P:Program} {ops:Array Oper} {Q:Exit→Act→World→Prop} {md:Region.Mode}
end rg
end Go.Proofs.YtbgmclbcjdbcmaaGreat
namespace Go.Proofs.YtbgmclbcjdbcmaaGreat
set_option linter.unusedSimpArgs false
set_option linter.unusedVariables false
open Go.RowKit
section rg
variable {P:Program} {ops:Array Oper} {Q:Exit→Act→World→Prop} {md:Region.Mode} {B:Nat}
/- the same,with whatever holds throughout -/
variable {S:World→Prop}
end rg
end Go.Proofs.YtbgmclbcjdbcmaaGreat
namespace Go.Proofs.YtbgmclbcjdbcmaaGreat
set_option linter.unusedSimpArgs false
set_option linter.unusedVariables false
open Go.RowKit
set_option maxRecDepth 10000
end Go.Proofs.YtbgmclbcjdbcmaaGreat
namespace Go.Proofs.YtbgmclbcjdbcmaaGreat
set_option linter.unusedSimpArgs false
set_option linter.unusedVariables false
open Go.RowKit
set_option maxRecDepth 10000
structure Kpt (w w':World) (S:Nat→Prop):Prop where
  os:w'.os=w.os
  tape:w'.tape=w.tape
  output:w'.output=w.output
  size:w.heap.size≤w'.heap.size
  block:∀ k,k<w.heap.size→¬ S k→w'.heap[k]?=w.heap[k]?
theorem Kpt.refl (w:World) (S:Nat→Prop):Kpt w w S:=⟨rfl,rfl,rfl,Nat.le_refl _,fun _ _ _=>rfl⟩
theorem Kpt.of_below {w w':World} (h:Below w.heap.size w w') (S:Nat→Prop):Kpt w w' S:=⟨h.os,h.tape,h.output,h.size,fun k hk _=>h.block k hk⟩
theorem Kpt.below {w w':World} {S:Nat→Prop} (h:Kpt w w' S) (hS:∀ k,S k→w.heap.size≤k):Below w.heap.size w w':=⟨h.os,h.tape,h.output,h.size,fun k hk=>h.block k hk (fun e=>by have:=hS k e; omega)⟩
section
variable {w0 w:World} {G z:Nat→Prop}
end
end Go.Proofs.YtbgmclbcjdbcmaaGreat
namespace Go.Proofs.YtbgmclbcjdbcmaaGreat
set_option linter.unusedSimpArgs false
set_option linter.unusedVariables false
open Go.RowKit
set_option maxRecDepth 10000
def putAt (cs:List Value) (o:Nat) (new:List Value):List Value:=cs.take o ++ new ++ cs.drop (o+new.length)
section
variable {P:Program} {ops:Array Oper} {Q:Exit→Act→World→Prop} {w0 w:World} {G z:Nat→Prop} {l rest:List Oper} {o:Oper} {a:Act}
theorem run_storeCells {t:TypeId} {B:Nat}:∀ (new:List Value) (cs:List Value) (off i:Nat) (w:World),w.heap[B]?=some (.cells cs.toArray t (0,0))→off+i+new.length≤cs.length→(∀ u ∈ new,u.oneCell'=true) →
    ∃ w',(storeCells ⟨B,off,none⟩ new i).run P w=.ok () w'∧w'.heap[B]?=some (.cells (putAt cs (off+i) new).toArray t (0,0))∧Kpt w w' (fun b=>b=B)
  | [],cs,off,i,w,hb,_,_=>⟨w,rfl,by rw [hb]; simp [putAt],Kpt.refl _ _⟩
  | v :: new,cs,off,i,w,hb,hle,h1=>by
    have hv:=h1 v List.mem_cons_self
    simp only [List.length_cons] at hle
    have hadd:(⟨B,off,none⟩:Addr).add i=⟨B,off+i,none⟩:=by unfold Addr.add; split <;> simp_all
    have hc:w.cell? ⟨B,off+i,none⟩=some cs[off+i]:=by rw [cell_of_row w B _ _ _ _ hb]; simp
    have hset:(w.setCell ⟨B,off+i,none⟩ v).heap[B]?=some (.cells (cs.set (off+i) v).toArray t (0,0)):=by
      simp [World.setCell,Array.getElem?_modify,hb]
    obtain ⟨w',h2,h3,h4⟩:=run_storeCells new (cs.set (off+i) v) off (i+1) (w.setCell ⟨B,off+i,none⟩ v) hset (by simp; omega) (fun u hu=>h1 u (List.mem_cons_of_mem _ hu))
    refine ⟨w',?_,?_,?_⟩
    · have hst:(store ((⟨B,off,none⟩:Addr).add i) v).run P w=.ok () (w.setCell ⟨B,off+i,none⟩ v):=by
        rw [hadd]
        unfold store
        cases v <;> simp [Value.oneCell'] at hv <;> simp [Sem.run,hc,frozen_of_row w B _ _ _ hb]
      unfold storeCells
      simp only [Sem.run_bind,hst,Result.andThen_ok,h2]
    · rw [h3]
      congr 3
      unfold putAt
      rw [show off+(i+1)=off+i+1 by omega,List.take_add_one,List.take_set_of_le (by omega),List.getElem?_set_self (by omega),List.drop_set_of_lt (by omega)]
      simp only [List.length_cons,Option.toList_some,List.append_assoc,List.cons_append,List.nil_append]
      rw [show off+i+1+new.length=off+i+(new.length+1) by omega]
    · refine ⟨h4.os.trans rfl,h4.tape.trans rfl,h4.output.trans rfl,Nat.le_trans (by simp [World.setCell]) h4.size,fun k hk hn=>(h4.block k (by simpa [World.setCell] using hk) hn).trans ?_⟩
      exact Below.heap_setCell w _ v k hn
end
end Go.Proofs.YtbgmclbcjdbcmaaGreat
namespace Go.Proofs.YtbgmclbcjdbcmaaGreat
set_option linter.unusedSimpArgs false
set_option linter.unusedVariables false
open Go.RowKit
set_option maxRecDepth 10000
noncomputable section
inductive D where
  | n | i (v:Int) | b (v:Bool) | s (v:ByteArray) | l (v:List D) | t (v:List D)
  | ki (v:Int) | kb (v:Bool) | ks (v:ByteArray) | kl (v:List D)
namespace D
def toI:D→Int | .i v=>v | .ki v=>v | _=>0
def toB:D→Bool | .b v=>v | .kb v=>v | _=>false
def toS:D→ByteArray | .s v=>v | .ks v=>v | _=>.empty
def raw:D→List D | .l v=>v | .kl v=>v | _=>[]
def isK:D→Bool | .ki _=>true | .kb _=>true | .ks _=>true | .kl _=>true | _=>false
def mkK (kn:Bool) (d:D):D:=bif kn then .kl d.raw else d
def toL (d:D):List D:=d.raw.take maxLen
def len (d:D):Nat:=d.toL.length
def get (d:D) (i:Nat):D:=d.toL.getD i .n
def cell (d:D) (j:Nat):D:=match d with | .t cs=>cs.getD j .n | e=>match j with | 0=>e | _=>.n
def app (a b:D):D:=.l (a.toL ++ b.toL)
def sub (a:D) (lo hi:Nat):D:=.l ((a.toL.take hi).drop lo)
def setE (d:D) (i:Nat) (e:D):D:=.l (d.toL.set i e)
def str (d:D):ByteArray:=⟨(d.toL.map fun e=>UInt8.ofNat (e.cell 0).toI.toNat).toArray⟩
theorem mkK_raw (kn:Bool) (d:D):(mkK kn d).raw=d.raw:=by cases kn <;> rfl
theorem mkK_len (kn:Bool) (d:D):(mkK kn d).len=d.len:=by unfold len toL; rw [mkK_raw]
theorem mkK_get (kn:Bool) (d:D) (i:Nat):(mkK kn d).get i=d.get i:=by unfold get toL; rw [mkK_raw]
theorem len_le (d:D):d.len≤maxLen:=by unfold len toL; exact List.length_take_le _ _
end D
inductive Sh where
  | int (k:IntKind) | bool | str | sl (es:List Sh)
mutual
def Sh.eqs:Sh→Sh→Bool
  | .int k,.int k'=>decide (k=k')
  | .bool,.bool=>true
  | .str,.str=>true
  | .sl a,.sl b=>Sh.eqsL a b
  | _,_=>false
def Sh.eqsL:List Sh→List Sh→Bool
  | [],[]=>true
  | a :: xs,b :: ys=>Sh.eqs a b&&Sh.eqsL xs ys
  | _,_=>false
end
mutual
theorem Sh.eqs_eq:∀ (a b:Sh),Sh.eqs a b=true→a=b
  | .int k,.int k',h=>by simp [Sh.eqs] at h; rw [h]
  | .bool,.bool,_=>rfl
  | .str,.str,_=>rfl
  | .sl a,.sl b,h=>by rw [Sh.eqsL_eq a b (by simpa [Sh.eqs] using h)]
  | .int _,.bool,h | .int _,.str,h | .int _,.sl _,h | .bool,.int _,h | .bool,.str,h | .bool,.sl _,h | .str,.int _,h | .str,.bool,h | .str,.sl _,h | .sl _,.int _,h | .sl _,.bool,h | .sl _,.str,h=>by simp [Sh.eqs] at h
theorem Sh.eqsL_eq:∀ (a b:List Sh),Sh.eqsL a b=true→a=b
  | [],[],_=>rfl
  | a :: xs,b :: ys,h=>by
    simp [Sh.eqsL] at h
    rw [Sh.eqs_eq a b h.1,Sh.eqsL_eq xs ys h.2]
  | [],_ :: _,h | _ :: _,[],h=>by simp [Sh.eqsL] at h
end
def shOf (P:Program):Nat→TypeId→Option (List Sh)
  | 0,_=>none
  | n+1,t=>match P.underlying t with
    | some (.int k)=>some [.int k]
    | some .bool=>some [.bool]
    | some .string=>some [.str]
    | some (.slice e)=>(shOf P n e).map fun es=>[.sl es]
    | some (.struct fs)=>fs.toList.foldr (fun f r=>match shOf P n f.type,r with | some a,some b=>some (a ++ b) | _,_=>none) (some [])
    | some (.array m e)=>(shOf P n e).map fun es=>(List.replicate m es).flatten
    | _=>none
def shE (P:Program) (t:TypeId):List Sh:=(shOf P 8 t).getD []
inductive AV where
  | any
  | sc (kn:Bool) (v:Value)
  | sl (kn:Bool) (es:List Sh) (d:D) (tip:Option (Nat×Nat))
  | ptr (o off:Nat)
  | mp (o:Nat)
  | ep (kn:Bool) (es:List Sh) (d:D) (j:Nat)
  | fn (f:Fn) (a c:List AV)
  | agg (cs:List AV)
  | tup (vs:List AV)
  | rsl (kn:Bool) (o n len:Nat)
  | rp (kn:Bool) (o n i j:Nat)
  | rw (es:List Sh) (d:D)
inductive RT (α:Type) where
  | ok (a:α) | bad (why:Nat) | br (b:Bool) (x y:RT α) | all (x y:RT α)
namespace RT
variable {α β:Type}
noncomputable def bind (x:RT α) (f:α→RT β):RT β:=@RT.rec α (fun _=>RT β) f (fun w=>.bad w) (fun b _ _ x y=>.br b x y) (fun _ _ x y=>.all x y) x
theorem bind_br (b:Bool) (x y:RT α) (f:α→RT β):(RT.br b x y).bind f=.br b (x.bind f) (y.bind f):=rfl
theorem bind_all (x y:RT α) (f:α→RT β):(RT.all x y).bind f=.all (x.bind f) (y.bind f):=rfl
def holds:RT α→(α→Prop)→Prop
  | .ok a,Q=>Q a
  | .bad _,_=>False
  | .br b x y,Q=>(b=true→x.holds Q)∧(b=false→y.holds Q)
  | .all x y,Q=>x.holds Q∧y.holds Q
theorem holds_bind {Q:β→Prop} (x:RT α) (f:α→RT β):(x.bind f).holds Q↔x.holds fun a=>(f a).holds Q:=by
  induction x with
  | ok a=>exact Iff.rfl
  | bad w=>exact Iff.rfl
  | br b x y ihx ihy=>simp only [bind_br,holds,ihx,ihy]
  | all x y ihx ihy=>simp only [bind_all,holds,ihx,ihy]
theorem holds_mono {Q Q':α→Prop} (h:∀ a,Q a→Q' a):∀ (x:RT α),x.holds Q→x.holds Q'
  | .ok a,H=>h a H
  | .bad _,H=>H
  | .br b x y,H=>⟨fun hb=>holds_mono h x (H.1 hb),fun hb=>holds_mono h y (H.2 hb)⟩
  | .all x y,H=>⟨holds_mono h x H.1,holds_mono h y H.2⟩
end RT
def brk {α:Type} (kn b:Bool) (x y:RT α):RT α:=bif kn then (bif b then x else y) else .br b x y
theorem brk_holds {α:Type} {Q:α→Prop} {kn b:Bool} {x y:RT α} (h:(brk kn b x y).holds Q):(b=true∧x.holds Q)∨(b=false∧y.holds Q):=by
  cases kn <;> cases b
  · exact .inr ⟨rfl,h.2 rfl⟩
  · exact .inl ⟨rfl,h.1 rfl⟩
  · exact .inr ⟨rfl,h⟩
  · exact .inl ⟨rfl,h⟩
def need {α:Type} (kn b:Bool) (why:Nat) (x:RT α):RT α:=brk kn b x (.bad why)
theorem need_holds {α:Type} {Q:α→Prop} {kn b:Bool} {why:Nat} {x:RT α} (h:(need kn b why x).holds Q):b=true∧x.holds Q:=by
  rcases brk_holds h with h | ⟨_,h⟩
  · exact h
  · exact h.elim
structure Hp where
  ob:List (Nat×List AV)
  nx:Nat
  gn:List (Nat×Nat×TypeId)
  nv:Nat
  ng:Nat
  ep:Nat
structure Tm where
  nt:Nat
  tm:List (Nat×AV)
  df:List (FuncId×List AV)
noncomputable def look (t:Nat) (l:List (Nat×AV)):AV:=@List.rec (Nat×AV) (fun _=>AV) .any (fun kv _ r=>bif Nat.beq kv.1 t then kv.2 else r) l
theorem look_nil (t:Nat):look t []=.any:=rfl
theorem look_cons (t k:Nat) (v:AV) (r:List (Nat×AV)):look t ((k,v) :: r)=bif Nat.beq k t then v else look t r:=rfl
noncomputable def lookO (o:Nat) (l:List (Nat×List AV)):Option (List AV):=@List.rec (Nat×List AV) (fun _=>Option (List AV)) none (fun kv _ r=>bif Nat.beq kv.1 o then some kv.2 else r) l
theorem lookO_nil (o:Nat):lookO o []=none:=rfl
theorem lookO_con (o k:Nat) (v:List AV) (r:List (Nat×List AV)):lookO o ((k,v) :: r)=bif Nat.beq k o then some v else lookO o r:=rfl
noncomputable def lookG (k:Nat) (l:List (Nat×Nat×TypeId)):Option (Nat×TypeId):=@List.rec (Nat×Nat×TypeId) (fun _=>Option (Nat×TypeId)) none (fun kv _ r=>bif Nat.beq kv.1 k then some kv.2 else r) l
theorem lookG_nil (k:Nat):lookG k []=none:=rfl
theorem lookG_con (k i:Nat) (g:Nat×TypeId) (r:List (Nat×Nat×TypeId)):lookG k ((i,g) :: r)=bif Nat.beq i k then some g else lookG k r:=rfl
def room:Nat:=140737488355328
def Sh.al:Sh→Nat
  | .int k=>k.bits / 8
  | .bool=>1
  | _=>8
def Sh.by:Sh→Nat
  | .int k=>k.bits / 8
  | .bool=>1
  | .str=>16
  | .sl _=>24
def upTo (n a:Nat):Nat:=(n+(a - 1)) / a*a
def szF:List Sh→Nat→Nat→Nat
  | [],n,m=>upTo n m
  | s :: ss,n,m=>szF ss (upTo n s.al+s.by) (max m s.al)
def szB (es:List Sh):Nat:=szF es 0 1
structure Env where
  β:Nat→Nat
  live:Nat→Prop
  Z:Nat→Nat→Option Value
  vc:Nat→Value
  gn:Nat→Nat
  ve:Nat→TypeId
  m:Nat
  ng:Nat
mutual
def LF (Z:Nat→Nat→Option Value):Sh→Value→D→Prop
  | .int k,v,d=>v=.int k d.toI
  | .bool,v,d=>v=.bool d.toB
  | .str,v,d=>v=.string d.toS
  | .sl es,v,d=>d.len*szB es≤room∧∃ ad cap,v=.slice ad d.len cap∧d.len≤cap∧cap≤maxLen∧(ad=none→cap=0) ∧
      (d.len≠0→∃ b o,ad=some ⟨b,o,none⟩∧∀ i,i<d.len→EL Z es b (o+i*es.length) (d.get i) 0)
def EL (Z:Nat→Nat→Option Value):List Sh→Nat→Nat→D→Nat→Prop
  | [],_,_,_,_=>True
  | s :: ss,b,o,d,j=>(∃ v,Z b o=some v∧LF Z s v (d.cell j))∧EL Z ss b (o+1) d (j+1)
end
def RE (Z:Nat→Nat→Option Value):List Sh→Array Value→Nat→D→Nat→Prop
  | [],_,_,_,_=>True
  | s :: ss,cs,p,d,j=>(∃ v,cs[p]?=some v∧LF Z s v (d.cell j))∧RE Z ss cs (p+1) d (j+1)
mutual
def Rel (E:Env):AV→Value→Prop
  | .any,_=>True
  | .sc _ u,v=>v=u∧u.oneCell'=true
  | .sl _ es d tip,v=>LF E.Z (.sl es) v d∧match tip with | none=>True | some (k,g)=>k<E.m∧g<E.ng∧(E.gn k=g→v=E.vc k)
  | .ptr o off,v=>E.live o∧v=.pointer (some ⟨E.β o,off,none⟩)
  | .mp o,v=>E.live o∧v=.map (some (E.β o))
  | .ep _ es d j,v=>∃ b o,v=.pointer (some ⟨b,o,none⟩)∧EL E.Z es b o d j
  | .fn f a c,v=>∃ a' c',v=.func f a' c'∧RelL E a a'.toList∧RelL E c c'.toList
  | .agg cs,v=>∃ cs',v=.agg cs'∧RelL E cs cs'.toList∧∀ u ∈ cs'.toList,u.oneCell'=true
  | .tup vs,v=>∃ vs',v=.tuple vs'∧RelL E vs vs'.toList
  | .rsl _ o _ len,v=>E.live o∧∃ ad cap,v=.slice ad len cap∧len≤cap∧cap≤maxLen∧(ad=none→cap=0)∧(len≠0→ad=some ⟨E.β o,0,none⟩)
  | .rp _ o n i j,v=>E.live o∧v=.pointer (some ⟨E.β o,i*n+j,none⟩)
  | .rw es d,v=>d.len*szB es≤room∧∃ cs,v=.agg cs∧∀ i,i<d.len→RE E.Z es cs (i*es.length) (d.get i) 0
def RelL (E:Env):List AV→List Value→Prop
  | [],vs=>vs=[]
  | a :: xs,vs=>∃ v vs',vs=v :: vs'∧Rel E a v∧RelL E xs vs'
end
structure Ext (E E':Env):Prop where
  live:∀ o,E.live o→E'.live o
  β:∀ o,E.live o→E'.β o=E.β o
  Z:∀ b o v,E.Z b o=some v→E'.Z b o=some v
  m:E.m≤E'.m
  ng:E.ng≤E'.ng
  vc:∀ k,k<E.m→(E'.vc k=E.vc k∧E'.gn k=E.gn k)∨E.ng≤E'.gn k
theorem Ext.refl (E:Env):Ext E E:=⟨fun _ h=>h,fun _ _=>rfl,fun _ _ _ h=>h,Nat.le_refl _,Nat.le_refl _,fun _ _=>.inl ⟨rfl,rfl⟩⟩
theorem Ext.trans {E E1 E2:Env} (h:Ext E E1) (h2:Ext E1 E2):Ext E E2:=by
  refine ⟨fun o ho=>h2.live o (h.live o ho),fun o ho=>(h2.β o (h.live o ho)).trans (h.β o ho),fun b o v hv=>h2.Z _ _ _ (h.Z _ _ _ hv),Nat.le_trans h.m h2.m,Nat.le_trans h.ng h2.ng,fun k hk=>?_⟩
  rcases h2.vc k (Nat.lt_of_lt_of_le hk h.m) with ⟨a,b⟩ | a
  · rcases h.vc k hk with ⟨c,d⟩ | c
    · exact .inl ⟨a.trans c,b.trans d⟩
    · exact .inr (b ▸ c)
  · exact .inr (Nat.le_trans h.ng a)
mutual
theorem LF.mono {Z Z':Nat→Nat→Option Value} (h:∀ b o v,Z b o=some v→Z' b o=some v):∀ (s:Sh) (v:Value) (d:D),LF Z s v d→LF Z' s v d
  | .int _,_,_,H=>H
  | .bool,_,_,H=>H
  | .str,_,_,H=>H
  | .sl es,v,d,⟨h0,ad,cap,h1,h2,h3,h4,h5⟩=>⟨h0,ad,cap,h1,h2,h3,h4,fun hn=>by
      obtain ⟨b,o,h6,h7⟩:=h5 hn
      exact ⟨b,o,h6,fun i hi=>EL.mono h es _ _ _ _ (h7 i hi)⟩⟩
theorem EL.mono {Z Z':Nat→Nat→Option Value} (h:∀ b o v,Z b o=some v→Z' b o=some v):∀ (es:List Sh) (b o:Nat) (d:D) (j:Nat),EL Z es b o d j→EL Z' es b o d j
  | [],_,_,_,_,_=>trivial
  | s :: ss,b,o,d,j,⟨⟨v,h1,h2⟩,h3⟩=>⟨⟨v,h _ _ _ h1,LF.mono h s v _ h2⟩,EL.mono h ss _ _ _ _ h3⟩
end
theorem RE.mono {Z Z':Nat→Nat→Option Value} (h:∀ b o v,Z b o=some v→Z' b o=some v):∀ (es:List Sh) (cs:Array Value) (p:Nat) (d:D) (j:Nat),RE Z es cs p d j→RE Z' es cs p d j
  | [],_,_,_,_,_=>trivial
  | s :: ss,cs,p,d,j,⟨⟨v,h1,h2⟩,h3⟩=>⟨⟨v,h1,LF.mono h s v _ h2⟩,RE.mono h ss _ _ _ _ h3⟩
mutual
theorem Rel.mono {E E':Env} (h:Ext E E'):∀ (a:AV) (v:Value),Rel E a v→Rel E' a v
  | .any,_,H=>H
  | .sc _ _,_,H=>H
  | .sl _ es d tip,v,⟨h1,h2⟩=>⟨LF.mono h.Z _ _ _ h1,by
      cases tip with
      | none=>trivial
      | some kg =>
        obtain ⟨k,g⟩:=kg
        obtain ⟨h3,h4,h5⟩:=h2
        refine ⟨Nat.lt_of_lt_of_le h3 h.m,Nat.lt_of_lt_of_le h4 h.ng,fun hg=>?_⟩
        rcases h.vc k h3 with ⟨a,b⟩ | a
        · rw [a]; exact h5 (b ▸ hg)
        · have h6:E'.gn k=g:=hg
          omega⟩
  | .ptr o off,v,⟨h1,h2⟩=>⟨h.live o h1,by rw [h.β o h1]; exact h2⟩
  | .mp o,v,⟨h1,h2⟩=>⟨h.live o h1,by rw [h.β o h1]; exact h2⟩
  | .ep _ es d j,v,⟨b,o,h1,h2⟩=>⟨b,o,h1,EL.mono h.Z _ _ _ _ _ h2⟩
  | .fn f a c,v,⟨a',c',h1,h2,h3⟩=>⟨a',c',h1,RelL.mono h a _ h2,RelL.mono h c _ h3⟩
  | .agg cs,v,⟨cs',h1,h2,h3⟩=>⟨cs',h1,RelL.mono h cs _ h2,h3⟩
  | .tup vs,v,⟨vs',h1,h2⟩=>⟨vs',h1,RelL.mono h vs _ h2⟩
  | .rsl _ o _ len,v,⟨h1,ad,cap,g1,g2,g3,g4,g5⟩=>⟨h.live o h1,ad,cap,g1,g2,g3,g4,fun hn=>by rw [h.β o h1]; exact g5 hn⟩
  | .rp _ o _ _ _,v,⟨h1,h2⟩=>⟨h.live o h1,by rw [h.β o h1]; exact h2⟩
  | .rw es d,v,⟨h0,cs,h1,h2⟩=>⟨h0,cs,h1,fun i hi=>RE.mono h.Z _ _ _ _ _ (h2 i hi)⟩
theorem RelL.mono {E E':Env} (h:Ext E E'):∀ (xs:List AV) (vs:List Value),RelL E xs vs→RelL E' xs vs
  | [],_,H=>H
  | a :: xs,_,⟨v,vs',h1,h2,h3⟩=>⟨v,vs',h1,Rel.mono h a v h2,RelL.mono h xs vs' h3⟩
end
section
variable {E:Env}
theorem RelL.length:∀ {xs:List AV} {vs:List Value},RelL E xs vs→xs.length=vs.length
  | [],_,h=>by have h':_=([]:List Value):=h; rw [h']; rfl
  | _ :: xs,_,⟨_,vs',h,_,h2⟩=>by subst h; simp [RelL.length (xs:=xs) h2]
theorem RelL.get:∀ {xs:List AV} {vs:List Value},RelL E xs vs→∀ {i:Nat} {a:AV},xs[i]?=some a→∃ v,vs[i]?=some v∧Rel E a v
  | [],_,_,i,a,h=>by simp at h
  | b :: xs,_,⟨v,vs',h,h1,h2⟩,i,a,hi=>by
    subst h
    cases i with
    | zero=>simp at hi; subst hi; exact ⟨v,rfl,h1⟩
    | succ i=>simp at hi; simpa using RelL.get h2 hi
theorem RelL.append:∀ {xs:List AV} {vs:List Value} {ys:List AV} {us:List Value},RelL E xs vs→RelL E ys us→RelL E (xs ++ ys) (vs ++ us)
  | [],_,_,_,h,h2=>by rw [show _=[] from h]; exact h2
  | a :: xs,_,_,_,⟨v,vs',h,h1,h3⟩,h2=>by subst h; exact ⟨v,_,rfl,h1,RelL.append h3 h2⟩
theorem RelL.take:∀ (n:Nat) {xs:List AV} {vs:List Value},RelL E xs vs→RelL E (xs.take n) (vs.take n)
  | 0,_,_,_=>by simp [RelL]
  | n+1,[],_,h=>by rw [show _=[] from h]; simp [RelL]
  | n+1,a :: xs,_,⟨v,vs',h,h1,h3⟩=>by subst h; exact ⟨v,_,rfl,h1,RelL.take n h3⟩
theorem RelL.drop:∀ (n:Nat) {xs:List AV} {vs:List Value},RelL E xs vs→RelL E (xs.drop n) (vs.drop n)
  | 0,_,_,h=>by simpa using h
  | n+1,[],_,h=>by rw [show _=[] from h]; simp [RelL]
  | n+1,a :: xs,_,⟨v,vs',h,h1,h3⟩=>by subst h; simpa using RelL.drop n h3
theorem RelL.map_sc (kn:Bool):∀ (vs:List Value),(∀ u ∈ vs,u.oneCell'=true)→RelL E (vs.map (.sc kn)) vs
  | [],_=>rfl
  | v :: vs,h=>⟨v,vs,rfl,⟨rfl,h v (by simp)⟩,RelL.map_sc kn vs fun u hu=>h u (by simp [hu])⟩
end
end
end Go.Proofs.YtbgmclbcjdbcmaaGreat
namespace Go.Proofs.YtbgmclbcjdbcmaaGreat
set_option linter.unusedSimpArgs false
set_option linter.unusedVariables false
open Go.RowKit
set_option maxRecDepth 10000
noncomputable section
def noGor (P:Program):Bool:=P.funcs.toList.all fun fn=>!(fn.name == "runtime.NumGoroutine")
def Fit (P:Program):Prop:=P.follows .mixedOrders=true∧noGor P=true
abbrev Spec:=List AV→Hp→RT (AV×Hp)
inductive Ex where | normal | exit (id:Nat) | ret
abbrev Out:=Ex×Tm×Hp
abbrev BSpec:=Tm→Hp→RT Out
section
variable (P:Program)
def ofConst:Value→AV
  | .agg cs=>bif cs.toList.all Value.oneCell' then .agg (cs.toList.map (.sc true)) else .any
  | .tuple _=>.any
  | v=>.sc true v
def opnd (F:Tm):Operand→AV
  | .tmp t=>look t F.tm
  | .const v=>ofConst v
  | .global _=>.any
  | .func f=>.fn (.func f) [] []
def cellsA:AV→Option (List AV)
  | .agg cs=>some cs
  | .any=>none
  | .tup _=>none
  | .rw _ _=>none
  | x=>some [x]
def sizeT (t:TypeId):Option Nat:=(P.info? t).map (·.size)
def hint (kn:Bool) (d:D):Bool:=bif kn then d.isK else false
def hintAll (kn:Bool) (d:D):Bool:=bif kn then d.toL.all (fun e=>(e.cell 0).isK) else false
def leaf (kn:Bool):Sh→D→AV
  | .int k,d=>.sc (hint kn d) (.int k d.toI)
  | .bool,d=>.sc (hint kn d) (.bool d.toB)
  | .str,d=>.sc (hint kn d) (.string d.toS)
  | .sl es,d=>.sl (hint kn d) es d none
def leaves (kn:Bool):List Sh→D→Nat→List AV
  | [],_,_=>[]
  | s :: ss,d,j=>leaf kn s (d.cell j) :: leaves kn ss d (j+1)
def isVar:List AV→Bool
  | [.tup _]=>false
  | [.any]=>false
  | [.agg _]=>false
  | [.rw _ _]=>false
  | _=>true
def rowOf (o:Nat) (h:Hp):Option (List Sh×D):=match lookO o h.ob with | some [.rw es d]=>some (es,d) | _=>none
def putC:List Sh→Nat→Nat→List D→D→List D
  | [],_,_,_,_=>[]
  | _ :: ss,k,j,[],e=>e.cell k :: putC ss (k+1) j [] e
  | _ :: ss,k,j,x :: r,e=>bif Nat.ble j k then x :: putC ss (k+1) j r e else e.cell k :: putC ss (k+1) j (x :: r) e
def loadA (t:TypeId) (a:AV) (h:Hp):RT AV :=
  match sizeT P t with
  | none=>.bad 1
  | some n=>match P.underlying t with
    | none=>.bad 11
    | some td=>match a with
      | .ptr o off=>match lookO o h.ob with
        | none=>.bad 2
        | some cs=>bif isVar cs then (bif td.isRow then (bif Nat.ble (off+n) cs.length then .ok (.agg ((cs.drop off).take n)) else .bad 3)
          else match cs[off]? with | some x=>.ok x | none=>.bad 4) else .bad 160
      | .ep kn es d j=>bif td.isRow then (bif Nat.ble n es.length then .ok (.agg (leaves kn (es.take n) d j)) else .bad 5)
          else match es with | s :: _=>.ok (leaf kn s (d.cell j)) | []=>.bad 6
      | .rp kn o m i j=>match rowOf o h with
        | some (es,d)=>bif Nat.beq m es.length then need kn (decide (i<d.len)) 170 (bif td.isRow then (bif Nat.ble (j+n) es.length then .ok (.agg (leaves kn ((es.drop j).take n) (d.get i) j)) else .bad 171)
          else match es.drop j with | s :: _=>.ok (leaf kn s ((d.get i).cell j)) | []=>.bad 172) else .bad 173
        | none=>.bad 174
      | _=>.bad 7
def confA:Sh→AV→Option D
  | .int k,.sc kn (.int k' v)=>bif decide (k=k') then some (bif kn then .ki v else .i v) else none
  | .bool,.sc kn (.bool v)=>some (bif kn then .kb v else .b v)
  | .str,.sc kn (.string v)=>some (bif kn then .ks v else .s v)
  | .sl es,.sl kn es' d _=>bif Sh.eqsL es es' then some (d.mkK kn) else none
  | .sl _,.sc _ (.slice none 0 0)=>some (.kl [])
  | _,_=>none
def confL:List Sh→List AV→Option (List D)
  | [],[]=>some []
  | s :: ss,x :: xs=>match confA s x,confL ss xs with | some d,some ds=>some (d :: ds) | _,_=>none
  | _,_=>none
def storeA (t:TypeId) (a x:AV) (h:Hp):RT Hp :=
  match sizeT P t,a,cellsA x with
  | some n,.ptr o off,some new=>match lookO o h.ob with
    | some cs=>bif isVar cs&&Nat.beq new.length n&&Nat.ble (off+n) cs.length then .ok { h with ob:=(o,cs.take off ++ new ++ cs.drop (off+n)) :: h.ob } else .bad 8
    | none=>.bad 9
  | some n,.rp kn o m i j,some new=>match rowOf o h with
    | some (es,d)=>bif Nat.beq m es.length&&Nat.beq new.length n&&Nat.ble (j+n) es.length&&Nat.ble 1 es.length then (match confL ((es.drop j).take n) new with
      | some ds=>need kn (decide (i<d.len)) 175 (.ok { h with ob:=(o,[.rw es (d.setE i (.t (putC es 0 j ds (d.get i))))]) :: h.ob })
      | none=>.bad 176) else .bad 177
    | none=>.bad 178
  | _,_,_=>.bad 10
def findE (k:IntKind) (kn:Bool) (n:Int):List AV→Nat→RT (Option (Nat×AV))
  | .sc k1 (.int k' m) :: v :: r,i=>bif decide (k=k') then brk (kn&&k1) (n==m) (.ok (some (i,v))) (findE k kn n r (i+1)) else .bad 161
  | [],_=>.ok none
  | _,_=>.bad 162
def setE (k v:AV):List AV→Nat→List AV
  | _ :: _ :: r,0=>k :: v :: r
  | a :: b :: r,i+1=>a :: b :: setE k v r i
  | l,_=>l
def mapOf (o:Nat) (h:Hp):Option (List AV):=match lookO o h.ob with | some [.tup kvs]=>some kvs | _=>none
def lookupA (t:TypeId) (m k:AV) (two:Bool) (h:Hp):RT AV :=
  match P.underlying t,m,k with
  | some (.map kt vt),.mp o,.sc kn (.int kk n)=>match P.underlying kt,mapOf o h with
    | some (.int _),some kvs=>(findE kk kn n kvs 0).bind fun r=>match r with
      | some (_,v)=>.ok (bif two then .tup [v,.sc true (.bool true)] else v)
      | none=>match (P.info? vt).bind (·.zero) with
        | some z=>.ok (bif two then .tup [ofConst z,.sc true (.bool false)] else ofConst z)
        | none=>.bad 163
    | _,_=>.bad 164
  | _,_,_=>.bad 165
def updateA (t:TypeId) (m k x:AV) (h:Hp):RT Hp :=
  match P.underlying t,m,k with
  | some (.map kt _),.mp o,.sc kn (.int kk n)=>match P.underlying kt,mapOf o h with
    | some (.int _),some kvs=>(findE kk kn n kvs 0).bind fun r=>match r with
      | some (i,_)=>.ok { h with ob:=(o,[.tup (setE k x kvs i)]) :: h.ob }
      | none=>.ok { h with ob:=(o,[.tup (kvs ++ [k,x])]) :: h.ob }
    | _,_=>.bad 166
  | _,_,_=>.bad 167
def newM (h:Hp):AV×Hp:=(.mp h.nx,{ h with ob:=(h.nx,[.tup []]) :: h.ob,nx:=h.nx+1 })
def newA (cs:List AV) (h:Hp):AV×Hp:=(.ptr h.nx 0,{ h with ob:=(h.nx,cs) :: h.ob,nx:=h.nx+1 })
def fillA (place:Nat→Option (Nat×Nat)):List AV→List (Nat×AV)→Option (List AV)
  | cells,[]=>some cells
  | cells,(i,x) :: rest=>match place i,cellsA x with
    | some (off,n),some new=>bif Nat.beq new.length n&&Nat.ble (off+n) cells.length then fillA place (cells.take off ++ new ++ cells.drop (off+n)) rest else none
    | _,_=>none
def zeroA (t:TypeId):Option (List AV):=match (P.info? t).bind (·.zero) with
  | some z=>cellsA (ofConst z)
  | none=>none
def fieldsA (fs:Array Field) (i:Nat):Option (Nat×Nat):=match fs[i]? with
  | some f=>(sizeT P f.type).map fun n=>(f.offset,n)
  | none=>none
def elsA (es:List Sh):Nat→List AV→Option (List D)
  | 0,_=>some []
  | m+1,cs=>match confL es (cs.take es.length),elsA es m (cs.drop es.length) with | some d,some ds=>some (.t d :: ds) | _,_=>none
def asSl (es0:List Sh):AV→Option (Bool×List Sh×D)
  | .sl kn es d _=>some (kn,es,d)
  | .sc _ (.slice none 0 0)=>some (true,es0,.l [])
  | _=>none
def newVec (kn:Bool) (es:List Sh) (d:D) (e:TypeId) (h:Hp):AV×Hp :=
  (.sl kn es d (some (h.nv,h.ng)),{ h with gn:=(h.nv,h.ng,e) :: h.gn,nv:=h.nv+1,ng:=h.ng+1 })
def elemA (t:TypeId):Option TypeId:=match P.underlying t with | some (.slice e)=>some e | _=>none
def partA (t:TypeId) (cs:List AV) (off:Nat):Option AV :=
  match P.underlying t,sizeT P t with
  | some td,some n=>bif td.isRow then some (.agg ((cs.drop off).take n)) else cs[off]?
  | _,_=>none
def bothB (a b:Bool×Bool):Bool×Bool:=bif a.1 then (bif a.2 then b else (true,false)) else (a.1&&b.1,a.2&&b.2)
def eqFs (eq:TypeId→AV→AV→Option (Bool×Bool)) (xs ys:List AV):List Field→Option (Bool×Bool)
  | []=>some (true,true)
  | f :: fs=>bif decide (f.name = "_") then none else match partA P f.type xs f.offset,partA P f.type ys f.offset with
    | some a,some b=>match eq f.type a b,eqFs eq xs ys fs with
      | some r,some s=>some (bothB r s)
      | _,_=>none
    | _,_=>none
def eqIs (eq:AV→AV→Option (Bool×Bool)) (e:TypeId) (c:Nat) (xs ys:List AV):List Nat→Option (Bool×Bool)
  | []=>some (true,true)
  | i :: is=>match partA P e xs (i*c),partA P e ys (i*c) with
    | some a,some b=>match eq a b,eqIs eq e c xs ys is with
      | some r,some s=>some (bothB r s)
      | _,_=>none
    | _,_=>none
def eqAV:Nat→TypeId→AV→AV→Option (Bool×Bool)
  | 0,_,_,_=>none
  | n+1,t,x,y=>match P.underlying t,x,y with
    | some (.int _),.sc k1 (.int k a),.sc k2 (.int k' b)=>bif decide (k=k') then some (k1&&k2,a==b) else none
    | some .string,.sc k1 (.string a),.sc k2 (.string b)=>some (k1&&k2,a.toList==b.toList)
    | some .bool,.sc k1 (.bool a),.sc k2 (.bool b)=>some (k1&&k2,a==b)
    | some (.struct fs),.agg xs,.agg ys=>bif P.stoodInHeld t then none else eqFs P (eqAV n) xs ys fs.toList
    | some (.array m e),.agg xs,.agg ys=>match sizeT P e with
      | some c=>eqIs P (eqAV n e) e c xs ys (List.range m)
      | none=>none
    | _,_,_=>none
def indexA (t:TypeId) (x i:AV):RT AV :=
  match P.underlying t,x,i with
  | some (.array m e),.agg cs,.sc true (.int _ n)=>match sizeT P e with
    | some k=>bif decide (0≤n∧n<m) then (match partA P e cs (n.toNat*k) with | some v=>.ok v | none=>.bad 152) else .bad 153
    | none=>.bad 154
  | some .string,.sc k1 (.string s),.sc k2 (.int _ n)=>need (k1&&k2) (decide (0≤n∧n<s.size)) 155 (.ok (.sc (k1&&k2) (.int .u8 (s.data.getD n.toNat 0).toNat)))
  | _,_,_=>.bad 156
def fieldA (t:TypeId) (x:AV) (f:Nat):RT AV :=
  match P.underlying t,x with
  | some (.struct fs),.agg cs=>match fs[f]? with
    | some fd=>match partA P fd.type cs fd.offset with | some v=>.ok v | none=>.bad 157
    | none=>.bad 158
  | _,_=>.bad 159
def intOp (op:BinOp) (k:IntKind) (kn:Bool) (a b:Int):RT AV :=
  let r (n:Int):RT AV:=.ok (.sc kn (.int k n))
  let c (v:Bool):RT AV:=.ok (.sc kn (.bool v))
  match op with
  | .add=>r (k.wrap (a+b))
  | .sub=>r (k.wrap (a - b))
  | .mul=>r (k.wrap (a*b))
  | .quo=>need kn (b != 0) 20 (r (k.wrap (a.tdiv b)))
  | .rem=>need kn (b != 0) 21 (r (a.tmod b))
  | .and=>r (k.wrap (BitVec.ofInt k.bits a &&& BitVec.ofInt k.bits b).toNat)
  | .or=>r (k.wrap (BitVec.ofInt k.bits a ||| BitVec.ofInt k.bits b).toNat)
  | .xor=>r (k.wrap (BitVec.ofInt k.bits a ^^^ BitVec.ofInt k.bits b).toNat)
  | .andNot=>r (k.wrap (BitVec.ofInt k.bits a &&& ~~~ BitVec.ofInt k.bits b).toNat)
  | .eql=>c (a==b)
  | .neq=>c (a != b)
  | .lss=>c (decide (a<b))
  | .leq=>c (decide (a≤b))
  | .gtr=>c (decide (a > b))
  | .geq=>c (decide (a ≥ b))
  | _=>.bad 22
def strOp (op:BinOp) (kn:Bool) (a b:ByteArray):RT AV :=
  match op with
  | .eql=>.ok (.sc kn (.bool (a.toList==b.toList)))
  | .neq=>.ok (.sc kn (.bool (!(a.toList==b.toList))))
  | .lss=>.ok (.sc kn (.bool (Op.bytesLess a.toList b.toList)))
  | .add=>need kn (decide (a.size+b.size≤maxLen)) 23 (.ok (.sc kn (.string (a ++ b))))
  | _=>.bad 24
def binA (op:BinOp) (t:TypeId) (x y:AV):RT AV :=
  match x,y with
  | .sc k1 (.int k a),.sc k2 (.int k' b)=>match op with
    | .shl=>need (k1&&k2) (decide (0≤b)) 25 (.ok (.sc (k1&&k2) (.int k (k.wrap (a*2 ^ (min b.toNat k.bits))))))
    | .shr=>need (k1&&k2) (decide (0≤b)) 26 (.ok (.sc (k1&&k2) (.int k (a.fdiv (2 ^ (min b.toNat k.bits))))))
    | op=>bif decide (k=k') then intOp op k (k1&&k2) a b else .bad 27
  | .sc k1 (.string a),.sc k2 (.string b)=>strOp op (k1&&k2) a b
  | .sc k1 (.bool a),.sc k2 (.bool b)=>match P.underlying t with
    | some .bool=>match op with
      | .eql=>.ok (.sc (k1&&k2) (.bool (a==b)))
      | .neq=>.ok (.sc (k1&&k2) (.bool (!(a==b))))
      | _=>.bad 28
    | _=>.bad 29
  | .sc _ .nilFunc,.sc _ .nilFunc=>match P.underlying t,op with
    | some (.func ..),.eql=>.ok (.sc true (.bool true))
    | some (.func ..),.neq=>.ok (.sc true (.bool false))
    | _,_=>.bad 30
  | .sl kn _ d _,.sc _ (.slice none 0 0)=>match P.underlying t,op with
    | some (.slice _),.eql=>brk kn (decide (d.len=0)) (.all (.ok (.sc true (.bool true))) (.ok (.sc true (.bool false)))) (.ok (.sc true (.bool false)))
    | some (.slice _),.neq=>brk kn (decide (d.len=0)) (.all (.ok (.sc true (.bool false))) (.ok (.sc true (.bool true)))) (.ok (.sc true (.bool true)))
    | _,_=>.bad 33
  | .sc _ (.slice none 0 0),.sc _ (.slice none 0 0)=>match P.underlying t,op with
    | some (.slice _),.eql=>.ok (.sc true (.bool true))
    | some (.slice _),.neq=>.ok (.sc true (.bool false))
    | _,_=>.bad 34
  | .agg xs,.agg ys=>bif P.eqGuardType P.depth t then .bad 150 else match op,eqAV P 16 t (.agg xs) (.agg ys) with
    | .eql,some (kn,r)=>.ok (.sc kn (.bool r))
    | .neq,some (kn,r)=>.ok (.sc kn (.bool (!r)))
    | _,_=>.bad 151
  | .fn _ _ _,.sc _ .nilFunc=>match P.underlying t,op with
    | some (.func ..),.eql=>.ok (.sc true (.bool false))
    | some (.func ..),.neq=>.ok (.sc true (.bool true))
    | _,_=>.bad 31
  | _,_=>.bad 32
def unA (op:UnOp) (x:AV):RT AV :=
  match op,x with
  | .not,.sc kn (.bool b)=>.ok (.sc kn (.bool (!b)))
  | .neg,.sc kn (.int k n)=>.ok (.sc kn (.int k (k.wrap (0 - n))))
  | _,_=>.bad 33
def convA (src dst:TypeId) (x:AV) (h:Hp):RT AV :=
  match P.underlying src,P.underlying dst,x with
  | some (.int _),some (.int k),.sc kn (.int _ n)=>.ok (.sc kn (.int k (k.wrap n)))
  | some (.slice e),some .string,.sl kn es d _=>match P.underlying e,es with
    | some (.int .u8),[.int .u8]=>.ok (.sc (hintAll kn d) (.string d.str))
    | _,_=>.bad 34
  | some (.slice e),some .string,.sc _ (.slice none 0 0)=>match P.underlying e with
    | some (.int .u8)=>.ok (.sc true (.string .empty))
    | _=>.bad 35
  | _,_,_=>.bad 36
def boundA (dflt:Int):Option AV→Option (Bool×Int)
  | none=>some (true,dflt)
  | some (.sc kn (.int _ n))=>some (kn,n)
  | _=>none
def sliceA (t:TypeId) (x:AV) (lo hi mx:Option AV):RT AV :=
  match elemA P t with
  | some e=>match asSl (shE P e) x,sizeT P e with
    | some (kn,es,d),some n=>match boundA 0 lo,boundA d.len hi,boundA d.len mx with
      | some (k1,l),some (k2,u),some (k3,m)=>bif Nat.beq n es.length&&(mx.isNone||hi.isSome) then
          need (kn&&k1&&k2&&k3) (decide (0≤l∧l≤u∧u≤m∧m≤d.len)) 37 (.ok (.sl (kn&&k1&&k2) es (d.sub l.toNat u.toNat) none)) else .bad 38
      | _,_,_=>.bad 39
    | _,_=>.bad 40
  | none=>match P.underlying t,x,mx with
    | some .string,.sc kn (.string s),none=>match boundA 0 lo,boundA s.size hi with
      | some (k1,l),some (k2,u)=>need (kn&&k1&&k2) (decide (0≤l∧l≤u∧u≤(s.size:Int))) 271 (.ok (.sc (kn&&k1&&k2) (.string (s.extract l.toNat u.toNat))))
      | _,_=>.bad 272
    | _,_,_=>.bad 41
def indexAddrA (t:TypeId) (x i:AV):RT AV :=
  match P.underlying t,x,i with
  | some (.slice e),.sl kn es d _,.sc k2 (.int _ n)=>bif (match sizeT P e with | some m=>Nat.beq m es.length | none=>false) then
      need (kn&&k2) (decide (0≤n∧n<d.len)) 42 (.ok (.ep (kn&&k2) es (d.get n.toNat) 0)) else .bad 43
  | some (.slice _),.sc _ (.slice none 0 0),.sc k2 (.int _ _)=>need k2 false 48 (.bad 49)
  | some (.slice e),.rsl kn o m len,.sc k2 (.int _ n)=>bif (match sizeT P e with | some k=>Nat.beq k m | none=>false) then
      need (kn&&k2) (decide (0≤n∧n<(len:Int))) 179 (.ok (.rp (kn&&k2) o m n.toNat 0)) else .bad 180
  | some (.array m e),.ptr o off,.sc true (.int _ n)=>match sizeT P e with
    | some k=>bif decide (0≤n∧n<m) then .ok (.ptr o (off+n.toNat*k)) else .bad 44
    | none=>.bad 45
  | some (.array m e),.ep kn es d j,.sc true (.int _ n)=>match sizeT P e with
    | some k=>bif decide (0≤n∧n<m)&&Nat.ble (n.toNat*k) es.length then .ok (.ep kn (es.drop (n.toNat*k)) d (j+n.toNat*k)) else .bad 46
    | none=>.bad 47
  | _,_,_=>.bad 50
def fieldAddrA (s:TypeId) (x:AV) (f:Nat):RT AV :=
  match P.underlying s with
  | some (.struct fs)=>match fs[f]? with
    | some fd=>match sizeT P fd.type with
      | some (_+1)=>match x with
        | .ptr o off=>.ok (.ptr o (off+fd.offset))
        | .ep kn es d j=>bif Nat.ble fd.offset es.length then .ok (.ep kn (es.drop fd.offset) d (j+fd.offset)) else .bad 51
        | .rp kn o m i j=>.ok (.rp kn o m i (j+fd.offset))
        | _=>.bad 52
      | _=>.bad 53
    | none=>.bad 54
  | _=>.bad 55
def buildA (t:TypeId) (parts:List (Nat×AV)):RT AV :=
  match zeroA P t with
  | none=>.bad 56
  | some z=>match P.underlying t with
    | some (.struct fs)=>bif fs.toList.all (fun f=>(sizeT P f.type).isSome) then (match fillA (fieldsA P fs) z parts with | some cs=>.ok (.agg cs) | none=>.bad 57) else .bad 79
    | some (.array _ e)=>match sizeT P e with
      | some n=>match fillA (fun i=>some (i*n,n)) z parts with | some cs=>.ok (.agg cs) | none=>.bad 58
      | none=>.bad 59
    | _=>.bad 60
def rep {α:Type} (z:List α):Nat→List α
  | 0=>[]
  | m+1=>z ++ rep z m
def buildSliceA (t:TypeId) (len:Nat) (parts:List (Nat×AV)) (h:Hp):RT (AV×Hp) :=
  match elemA P t with
  | none=>.bad 61
  | some e=>match sizeT P e,zeroA P e with
    | some n,some z=>bif Nat.ble (len*n) 16777216&&Nat.beq z.length n&&Nat.beq (shE P e).length n&&Nat.ble 1 n&&Nat.ble (len*szB (shE P e)) room then
        match fillA (fun i=>some (i*n,n)) (rep z len) parts with
        | some cs=>match elsA (shE P e) len cs with
          | some ds=>.ok (newVec true (shE P e) (.l ds) e h)
          | none=>.bad 62
        | none=>.bad 63 else .bad 64
    | _,_=>.bad 65
def appendA (t0:TypeId) (s x:AV) (h:Hp):RT (AV×Hp) :=
  match elemA P t0 with
  | none=>.bad 66
  | some e=>match P.info? e with
    | none=>.bad 67
    | some inf=>match inf.zero with
      | none=>.bad 68
      | some z=>bif Nat.beq z.cells.size inf.size&&Nat.ble 1 inf.size&&Nat.ble 1 inf.bytes&&Nat.beq (shE P e).length inf.size&&Nat.ble inf.bytes (szB (shE P e)) then
        match asSl (shE P e) x with
        | none=>.bad 69
        | some (k2,es',d')=>match s with
          | .sl k1 es d (some (k,g))=>match lookG k h.gn with
            | some (g',e')=>bif Nat.beq g g'&&Nat.beq e e'&&Sh.eqsL es es'&&Sh.eqsL es (shE P e) then
                let r:RT (AV×Hp):=.ok (.sl (k1&&k2) es (d.app d') (some (k,h.ng)),{ h with gn:=(k,h.ng,e) :: h.gn,ng:=h.ng+1 })
                bif k1&&Nat.beq d.len 0 then r else need (k1&&k2) (decide ((d.len+d'.len)*szB es≤room)) 70 r else .bad 71
            | none=>.bad 72
          | .sc _ (.slice none 0 0)=>bif Sh.eqsL (shE P e) es' then .ok (newVec k2 es' ((D.l []).app d') e h) else .bad 74
          | _=>.bad 75 else .bad 76
def lenA (t:TypeId) (x:AV):RT AV :=
  match P.underlying t,x with
  | some (.slice _),.sl kn _ d _=>.ok (.sc kn (.int .i64 d.len))
  | some (.slice _),.sc _ (.slice none 0 0)=>.ok (.sc true (.int .i64 0))
  | some (.slice _),.rsl kn _ _ len=>.ok (.sc kn (.int .i64 len))
  | some .string,.sc kn (.string s)=>.ok (.sc kn (.int .i64 s.size))
  | some (.array m _),_=>.ok (.sc true (.int .i64 m))
  | _,_=>.bad 77
def imin (a b:Int):Int:=if b<a then b else a
def imax (a b:Int):Int:=if b > a then b else a
def minA:List AV→RT AV
  | [.sc k1 (.int k a),.sc k2 (.int _ b)]=>.ok (.sc (k1&&k2) (.int k (imin a b)))
  | _=>.bad 78
def maxA:List AV→RT AV
  | [.sc k1 (.int k a),.sc k2 (.int _ b)]=>.ok (.sc (k1&&k2) (.int k (imax a b)))
  | _=>.bad 78
def builtinA (b:Builtin) (ts:Array TypeId) (xs:List AV) (h:Hp):RT (AV×Hp) :=
  match b,xs with
  | .len,[x]=>match ts.toList with | [t]=>(lenA P t x).bind fun v=>.ok (v,h) | _=>.bad 79
  | .append,[s,x]=>match ts.toList with
    | [t,t']=>bif Nat.beq t t' then appendA P t s x h else .bad 80
    | _=>.bad 81
  | .min,xs=>(minA xs).bind fun v=>.ok (v,h)
  | .max,xs=>(maxA xs).bind fun v=>.ok (v,h)
  | _,_=>.bad 82
def evOp (call:FuncId→Spec) (o:Oper) (F:Tm) (h:Hp):RT (AV×Hp) :=
  let v (r:RT AV):RT (AV×Hp):=r.bind fun a=>.ok (a,h)
  match o.op with
  | .move x=>.ok (opnd F x,h)
  | .assign x=>.ok (opnd F x,h)
  | .pick c a b=>match opnd F c with | .sc kn (.bool t)=>brk kn t (.ok (opnd F a,h)) (.ok (opnd F b,h)) | _=>.bad 83
  | .alloc e=>match zeroA P e with | some cs=>.ok (newA cs h) | none=>.bad 84
  | .box _ x=>match cellsA (opnd F x) with | some cs=>.ok (newA cs h) | none=>.bad 85
  | .build t ps=>v (buildA P t (ps.toList.map fun p=>(p.1,opnd F p.2)))
  | .buildSlice t n ps=>buildSliceA P t n (ps.toList.map fun p=>(p.1,opnd F p.2)) h
  | .load t a=>v (loadA P t (opnd F a) h)
  | .store t a x=>(storeA P t (opnd F a) (opnd F x) h).bind fun h=>.ok (.any,h)
  | .makeMap _ none=>.ok (newM h)
  | .lookup t m k two=>v (lookupA P t (opnd F m) (opnd F k) two h)
  | .mapUpdate t m k x=>(updateA P t (opnd F m) (opnd F k) (opnd F x) h).bind fun h=>.ok (.any,h)
  | .nilCheck x=>match opnd F x with
    | .ptr o off=>.ok (.ptr o off,h)
    | .ep kn es d j=>.ok (.ep kn es d j,h)
    | .rp kn o n i j=>.ok (.rp kn o n i j,h)
    | .fn (.func f) a c=>.ok (.fn (.func f) a c,h)
    | _=>.bad 86
  | .binOp op t x y _=>v (binA P op t (opnd F x) (opnd F y))
  | .unOp op _ x=>v (unA op (opnd F x))
  | .convert s d x=>v (convA P s d (opnd F x) h)
  | .makeFunc f a c=>.ok (.fn f (a.toList.map (opnd F)) (c.toList.map (opnd F)),h)
  | .slice t x lo hi mx=>v (sliceA P t (opnd F x) (lo.map (opnd F)) (hi.map (opnd F)) (mx.map (opnd F)))
  | .fieldAddr s x f=>v (fieldAddrA P s (opnd F x) f)
  | .indexAddr t x i=>v (indexAddrA P t (opnd F x) (opnd F i))
  | .index t x i=>v (indexA P t (opnd F x) (opnd F i))
  | .field t x f=>v (fieldA P t (opnd F x) f)
  | .extract t i=>match opnd F t with | .tup vs=>(match vs[i]? with | some a=>.ok (a,h) | none=>.bad 87) | _=>.bad 88
  | .call c=>match c.callee with
    | .value f=>match opnd F f with
      | .fn (.func g) a cap=>call g (a ++ c.args.toList.map (opnd F) ++ cap) h
      | _=>.bad 89
    | .builtin b=>builtinA P b c.argTypes (c.args.toList.map (opnd F)) h
    | _=>.bad 90
  | _=>.bad 91
def putA (F:Tm) (dst:Option Tmp) (v:AV):RT Tm :=
  match dst with
  | none=>.ok F
  | some d=>bif Nat.blt d F.nt then .ok { F with tm:=(d,v) :: F.tm } else .bad 92
def setA (F:Tm) (d:Nat) (b:Bool):Tm:={ F with tm:=(d,.sc true (.bool b)) :: F.tm }
def guardA {α:Type} (ops:Array Oper) (o:Oper) (F:Tm) (go skip:Tm→RT α):RT α :=
  match o.guard with
  | none=>go F
  | some (j,want)=>match (ops[j]?).bind (·.dst) with
    | none=>.bad 93
    | some d=>match look d F.tm with
      | .sc kn (.bool b)=>brk kn b (bif want then go (setA F d true) else skip (setA F d true)) (bif want then skip (setA F d false) else go (setA F d false))
      | .tup []=>skip F
      | _=>.bad 94
def deferA (o:Oper) (F:Tm):Option (RT Tm) :=
  match o.op with
  | .defer c=>some (match c.callee with
    | .value f=>match opnd F f with
      | .fn (.func g) a cap=>putA { F with df:=(g,a ++ c.args.toList.map (opnd F) ++ cap) :: F.df } o.dst .any
      | _=>.bad 110
    | _=>.bad 111)
  | _=>none
def evStep (call:FuncId→Spec) (ops:Array Oper) (o:Oper) (F:Tm) (h:Hp):RT (Tm×Hp) :=
  guardA ops o F (fun F=>match deferA o F with
    | some r=>r.bind fun F=>.ok (F,h)
    | none=>(evOp P call o F h).bind fun r=>(putA F o.dst r.1).bind fun F=>.ok (F,r.2)) (fun F=>(putA F o.dst (.tup [])).bind fun F=>.ok (F,h))
def evList (call:FuncId→Spec) (ops:Array Oper) (l:List Oper):Tm→Hp→RT (Tm×Hp) :=
  @List.rec Oper (fun _=>Tm→Hp→RT (Tm×Hp)) (fun F h=>.ok (F,h)) (fun o _ r F h=>(evStep P call ops o F h).bind fun x=>r x.1 x.2) l
theorem evList_cons (call:FuncId→Spec) (ops:Array Oper) (o:Oper) (rest:List Oper) (F:Tm) (h:Hp):evList P call ops (o :: rest) F h=(evStep P call ops o F h).bind fun r=>evList P call ops rest r.1 r.2:=rfl
def cnt (o:Nat) (l:List (Nat×List AV)):Nat:=@List.rec (Nat×List AV) (fun _=>Nat) 0 (fun kv _ r=>bif Nat.beq kv.1 o then Nat.succ r else r) l
theorem cnt_nil (o:Nat):cnt o []=0:=rfl
theorem cnt_con (o k:Nat) (v:List AV) (r:List (Nat×List AV)):cnt o ((k,v) :: r)=bif Nat.beq k o then cnt o r+1 else cnt o r:=rfl
def ver (o:Nat) (h:Hp):Nat:=h.ep+cnt o h.ob
def waits (i:Nat) (o:Oper):Bool:=o.after.any fun e=>Region.binds .any e&&e.on==i
def earlyA (o:Oper):Bool :=
  match o.op with
  | .move _ | .assign _ | .pick .. | .build .. | .load .. | .nilCheck _ | .binOp .. | .unOp .. | .convert .. | .makeFunc .. | .slice .. | .fieldAddr .. | .indexAddr .. | .extract .. | .index .. | .field ..=>true
  | .call { callee:=.builtin .len,.. } | .call { callee:=.builtin .min,.. } | .call { callee:=.builtin .max,.. }=>true
  | _=>false
def earlyN (o:Oper):Bool:=match o.op with | .load ..=>false | _=>earlyA o
def erOf (Λ:FuncId→Nat→Option (Tm→Hp→RT (Ex×Tm×Hp))) (f:FuncId) (id:Nat):Oper→Bool:=match Λ f (2000+id) with | some _=>earlyN | none=>earlyA
abbrev Prm:=List (Nat×Nat×Nat)
def tgt:AV→Option Nat
  | .ptr o _=>some o
  | .rp _ o _ _ _=>some o
  | _=>none
def promise (i:Nat) (o:Oper) (F:Tm) (h:Hp):Prm :=
  match o.op with
  | .load _ a=>match tgt (opnd F a) with | some b=>[(i,b,ver b h)] | none=>[]
  | _=>[]
def keepP (oj:Oper):Prm→Prm
  | []=>[]
  | p :: r=>bif waits p.1 oj then keepP oj r else p :: keepP oj r
def keeps (h:Hp):Prm→Bool
  | []=>true
  | (_,b,n) :: r=>Nat.beq (ver b h) n&&keeps h r
def evDrawn (er:Oper→Bool) (call:FuncId→Spec) (ops:Array Oper):Nat→Array Bool→Prm→Tm→Hp→RT (Tm×Hp)
  | 0,listed,_,F,h=>match Region.ready .any ops listed with | []=>.ok (F,h) | _=>.bad 95
  | n+1,listed,pr,F,h =>
    let rdy:=Region.ready .any ops listed
    match rdy.find? (fun i=>match ops[i]? with | some o=>er o | none=>false) with
    | some i=>match ops[i]? with
      | some o=>bif Region.free .any ops listed i then
          (evStep P call ops o F h).bind fun r=>evDrawn er call ops n (listed.setIfInBounds i true) (promise i o F h ++ pr) r.1 r.2 else .bad 96
      | none=>.bad 97
    | none =>
      let one (i:Nat):RT (Tm×Hp):=match ops[i]? with
        | some o=>(evStep P call ops o F h).bind fun r=>bif keeps r.2 (keepP o pr) then evDrawn er call ops n (listed.setIfInBounds i true) (keepP o pr) r.1 r.2 else .bad 98
        | none=>.bad 99
      match rdy with
      | []=>.ok (F,h)
      | [i]=>one i
      | [i,j]=>.all (one i) (one j)
      | [i,j,k]=>.all (one i) (.all (one j) (one k))
      | _=>.bad 100
mutual
def calm (h:Hp):AV→AV
  | .ptr o off=>match lookO o h.ob with | some _=>.ptr o off | none=>.any
  | .mp o=>match lookO o h.ob with | some _=>.mp o | none=>.any
  | .rsl kn o n len=>match lookO o h.ob with | some _=>.rsl kn o n len | none=>.any
  | .rp kn o n i j=>match lookO o h.ob with | some _=>.rp kn o n i j | none=>.any
  | .sl kn es d tip=>match tip with
    | some (k,g)=>bif Nat.blt k h.nv&&Nat.blt g h.ng then .sl kn es d (some (k,g)) else .sl kn es d none
    | none=>.sl kn es d none
  | .fn f a c=>.fn f (calmL h a) (calmL h c)
  | .agg cs=>.agg (calmL h cs)
  | .tup vs=>.tup (calmL h vs)
  | .any=>.any
  | .sc kn v=>.sc kn v
  | .ep kn es d j=>.ep kn es d j
  | .rw es d=>.rw es d
def calmL (h:Hp):List AV→List AV
  | []=>[]
  | x :: xs=>calm h x :: calmL h xs
end
def quietH (h h':Hp):Bool :=
  (List.range h.nx).all (fun o=>Nat.beq (ver o h') (ver o h))&&(List.range h.nv).all (fun k=>match lookG k h.gn,lookG k h'.gn with
    | some (g,e),some (g',e')=>Nat.beq g g'&&Nat.beq e e'
    | _,_=>false)
def only (ls:List Nat) (F:Tm):Tm:={ F with tm:=ls.map fun t=>(t,look t F.tm) }
def isCallO (o:Oper):Bool:=match o.op with | .call { callee:=.value _,.. }=>true | _=>false
def sameDst (o:Oper) (d:Nat):Bool:=match o.dst with | some k=>Nat.beq k d | none=>false
def okPair (ops:Array Oper) (k:Nat) (ok:Oper) (j:Nat):Bool:=match ops[j]? with
  | some oj=>match oj.dst with
    | some d=>!(sameDst ok d)&&(!((ok.looksAt ops).contains d)||waits j ok||waits k oj)
    | none=>true
  | none=>true
def okQ (ops:Array Oper) (m:Nat):Bool:=(List.range ops.size).all fun k=>match ops[k]? with
  | some ok=>ok.after.all (fun e=>!(Region.binds .any e)||Nat.blt e.on k)&&(bif Nat.blt k m then (List.range m).all fun j=>Nat.beq j k||okPair ops k ok j else true)
  | none=>false
def isAllocO (o:Oper):Bool:=match o.op,o.guard,o.dst with | .alloc _,none,some _=>true | _,_,_=>false
def isQuietO (o:Oper):Bool:=earlyA o||isCallO o||isAllocO o
def leadQ:List Oper→Nat
  | []=>0
  | o :: r=>bif isQuietO o then leadQ r+1 else 0
def rdyB (ops:Array Oper) (S:Nat→Bool) (k:Nat):Bool:=match ops[k]? with
  | some o=>o.after.all fun e=>!(Region.binds .any e)||S e.on
  | none=>false
def wtB (ops:Array Oper) (i j:Nat):Bool:=match ops[j]? with | some o=>waits i o | none=>false
def cov (ops:Array Oper) (k m:Nat):Nat→List Nat
  | 0=>[]
  | c+1=>bif wtB ops (m - (c+1)) k||(cov ops k m c).any (fun j=>wtB ops (m - (c+1)) j) then (m - (c+1)) :: cov ops k m c else cov ops k m c
def sufOk (ops:Array Oper) (m:Nat):Bool:=(List.range ops.size).all fun k=>Nat.blt k m ||
  ((List.range m).all (fun i=>(cov ops k m m).contains i)&&(List.range ops.size).all (fun j=>!(Nat.blt k j)||!(rdyB ops (fun x=>Nat.blt x k) j)))
def ancs (ops:List Oper):List Nat:=ops.foldl (fun acc o=>acc ++ [o.after.toList.foldl (fun m e=>bif Region.binds .any e then Nat.lor (Nat.lor m (Nat.shiftLeft 1 e.on)) (acc.getD e.on 0) else m) 0]) []
def unordB:List (Bool×Nat)→Nat→List Nat→Bool
  | [],_,_=>false
  | (c,m) :: r,i,cs=>bif c then (bif cs.all (fun k=>Nat.testBit m k) then unordB r (i+1) (i :: cs) else true) else unordB r (i+1) cs
def unord (ops:Array Oper):Bool:=bif ops.toList.any isAllocO then unordB ((ops.toList.map fun o=>!(earlyA o)).zip (ancs ops.toList)) 0 [] else false
def quietR (ops:Array Oper):Bool:=bif unord ops then (bif okQ ops (leadQ ops.toList) then sufOk ops (leadQ ops.toList) else false) else false
def actQ (call:FuncId→Spec) (ops:Array Oper) (o:Oper) (F:Tm) (h:Hp):RT Tm:=(evStep P call ops o (only (o.looksAt ops) F) h).bind fun r=>bif quietH h r.2 then (match o.dst with
  | some d=>.ok { F with tm:=(d,calm h (look d r.1.tm)) :: F.tm }
  | none=>.ok F) else .bad 231
def evQ1 (call:FuncId→Spec) (ops:Array Oper) (o:Oper) (F:Tm) (h:Hp):RT Tm:=match o.guard with
  | none=>actQ P call ops o F h
  | some (j,_)=>match (ops[j]?).bind (·.dst) with
    | none=>.bad 232
    | some d=>match look d F.tm with
      | .sc kn (.bool b)=>brk kn b (actQ P call ops o (setA F d true) h) (actQ P call ops o (setA F d false) h)
      | .tup []=>actQ P call ops o F h
      | _=>.bad 233
def detA {α:Type} (x:RT α):RT α:=@RT.rec α (fun _=>RT α) (fun a=>.ok a) (fun w=>.bad w) (fun b _ _ x y=>.br b x y) (fun _ _ _ _=>.bad 234) x
def adoptQ (h0:Hp) (l:List Oper):Tm→Hp→RT (Tm×Hp) :=
  @List.rec Oper (fun _=>Tm→Hp→RT (Tm×Hp)) (fun F h=>.ok (F,h)) (fun o _ r F h=>bif isAllocO o then (match o.op,o.dst with
    | .alloc e,some d=>match zeroA P e with
      | some cs=>r { F with tm:=(d,.ptr h.nx 0) :: F.tm } (newA (calmL h0 cs) h).2
      | none=>.bad 235
    | _,_=>.bad 236) else r F h) l
def evQs (call:FuncId→Spec) (ops:Array Oper) (h:Hp) (l:List Oper):Tm→RT Tm :=
  @List.rec Oper (fun _=>Tm→RT Tm) (fun F=>.ok F) (fun o _ r F=>(detA (evQ1 P call ops o F h)).bind r) l
def evReg (call:FuncId→Spec) (ops:Array Oper) (F:Tm) (h:Hp):RT (Tm×Hp) :=
  (evQs P call ops h (ops.toList.take (leadQ ops.toList)) F).bind fun F=>(adoptQ P h (ops.toList.take (leadQ ops.toList)) F h).bind fun r=>evList P call ops (ops.toList.drop (leadQ ops.toList)) r.1 r.2
variable (Γ:FuncId→Option Spec) (Λ:FuncId→Nat→Option BSpec)
def enterA (fn:Func) (args:List AV):Tm:=⟨fn.ntmps,(List.range args.length).zip args,[]⟩
def resA (F:Tm) (h:Hp):List ResultVar→RT (List AV)
  | []=>.ok []
  | .tmp t :: r=>(resA F h r).bind fun vs=>.ok (look t F.tm :: vs)
  | .cell a t :: r=>(loadA P t (look a F.tm) h).bind fun v=>(resA F h r).bind fun vs=>.ok (v :: vs)
def resultA (fn:Func) (F:Tm) (h:Hp):RT (AV×Hp) :=
  (resA P F h fn.results.toList).bind fun vs=>match vs with
    | [v]=>.ok (v,h)
    | vs=>.ok (.tup vs,h)
def plainF (f:FuncId):Option (Func×Code):=match P.funcs[f]? with
  | some fn=>match fn.body with
    | some c=>some (fn,c)
    | none=>none
  | none=>none
def runDf (rec:FuncId→Code→Tm→Hp→RT Out):List (FuncId×List AV)→Hp→RT Hp
  | [],h=>.ok h
  | (g,args) :: r,h=>match plainF P g with
    | none=>.bad 112
    | some (fn,b)=>bif Nat.ble args.length fn.ntmps then (rec g b (enterA fn args) h).bind fun x=>match x.1,x.2.1.df with
      | .exit _,_=>.bad 113
      | _,[]=>(resultA P fn x.2.1 x.2.2).bind fun y=>runDf rec r y.2
      | _,_=>.bad 114 else .bad 115
def bodyE (rec:FuncId→Code→Tm→Hp→RT Out) (g:FuncId) (fn:Func) (b:Code):Spec:=fun args h =>
  bif Nat.ble args.length fn.ntmps then (rec g b (enterA fn args) h).bind fun r=>match r.1 with
    | .exit _=>.bad 103
    | _=>(runDf P rec r.2.1.df r.2.2).bind fun h=>resultA P fn r.2.1 h else .bad 107
def callE (rec:FuncId→Code→Tm→Hp→RT Out):FuncId→Spec:=fun g args h=>match plainF P g with
  | none=>.bad 102
  | some (fn,b)=>match Γ g with
    | some sp=>sp args h
    | none=>bodyE P rec g fn b args h
def asRow (Λ:FuncId→Nat→Option BSpec) (f:FuncId) (id:Nat) (ops:Array Oper):Bool:=match Λ f (1000+id) with
  | some _=>false
  | none=>quietR ops
def evC:Nat→FuncId→Code→Tm→Hp→RT Out
  | 0,_,_,_,_=>.bad 101
  | n+1,f,c,F,h =>
    match c with
    | .skip=>.ok (.normal,F,h)
    | .region _ ops false=>(evList P (callE P Γ (evC n)) ops ops.toList F h).bind fun r=>.ok (.normal,r.1,r.2)
    | .region id ops true=>bif asRow Λ f id ops then (evReg P (callE P Γ (evC n)) ops F h).bind fun r=>.ok (.normal,r.1,r.2) else bif Region.noSelect ops then (evDrawn P (erOf Λ f id) (callE P Γ (evC n)) ops ops.size (Array.replicate ops.size false) [] F h).bind fun r=>.ok (.normal,r.1,r.2) else .bad 108
    | .seq a b=>(evC n f a F h).bind fun r=>match r.1 with | .normal=>evC n f b r.2.1 r.2.2 | e=>.ok (e,r.2.1,r.2.2)
    | .cond c a b=>match c with
      | .tmp t=>match look t F.tm with
        | .sc kn (.bool v)=>brk kn v (evC n f a (setA F t true) h) (evC n f b (setA F t false) h)
        | _=>.bad 104
      | _=>.bad 105
    | .block id b=>match Λ f id with
      | some sp=>sp F h
      | none=>(evC n f b F h).bind fun r=>match r.1 with
        | .exit j=>bif Nat.beq j id then .ok (.normal,r.2.1,r.2.2) else .ok (.exit j,r.2.1,r.2.2)
        | e=>.ok (e,r.2.1,r.2.2)
    | .loop b=>(evC n f b F h).bind fun r=>match r.1 with
      | .normal=>evC n f (.loop b) r.2.1 r.2.2
      | e=>.ok (e,r.2.1,r.2.2)
    | .exit id=>.ok (.exit id,F,h)
    | .ret=>.ok (.ret,F,h)
    | _=>.bad 106
def evF (n:Nat) (f:FuncId):Spec:=fun args h=>match plainF P f with
  | none=>.bad 102
  | some (fn,b)=>bodyE P (evC P Γ Λ n) f fn b args h
end
end
end Go.Proofs.YtbgmclbcjdbcmaaGreat
namespace Go.Proofs.YtbgmclbcjdbcmaaGreat
set_option linter.unusedSimpArgs false
set_option linter.unusedVariables false
open Go.RowKit
set_option maxRecDepth 10000
noncomputable section
def flat (es:List MapEntry):List Value:=es.flatMap fun e=>[e.key,e.val]
def ObOk (ob:Obj) (vs:List Value):Prop:=(∃ t,ob=.cells vs.toArray t (0,0)∧∀ u ∈ vs,u.oneCell'=true)∨(∃ es clock,ob=.map es clock∧vs=[.tuple (flat es.toList).toArray]) ∨
  ∃ cs t,ob=.cells cs t (0,0)∧vs=[.agg cs]
theorem ob_cells {E:Env} {cs:List AV} {vs:List Value} {ob:Obj} (hv:isVar cs=true) (hr:RelL E cs vs) (ho:ObOk ob vs):∃ t,ob=.cells vs.toArray t (0,0)∧∀ u ∈ vs,u.oneCell'=true:=by
  have key:∀ x,vs=[x]→((∃ l,x=.tuple l)∨∃ l,x=.agg l)→False:=by
    rintro v0 rfl hx
    cases cs with
    | nil=>cases hr
    | cons x cs =>
      obtain ⟨v,vs',h1,h2,h3⟩:=hr
      cases h1
      cases cs with
      | nil =>
        cases x with
        | any=>cases hv
        | tup vs=>cases hv
        | sc kn u =>
          obtain ⟨rfl,h⟩:=h2
          rcases hx with ⟨_,rfl⟩ | ⟨_,rfl⟩ <;> cases h
        | sl kn es d tip=>obtain ⟨⟨_,ad,cap,h,_⟩,_⟩:=h2; rcases hx with ⟨_,rfl⟩ | ⟨_,rfl⟩ <;> cases h
        | ptr o off=>obtain ⟨_,h⟩:=h2; rcases hx with ⟨_,rfl⟩ | ⟨_,rfl⟩ <;> cases h
        | mp o=>obtain ⟨_,h⟩:=h2; rcases hx with ⟨_,rfl⟩ | ⟨_,rfl⟩ <;> cases h
        | ep kn es d j=>obtain ⟨_,_,h,_⟩:=h2; rcases hx with ⟨_,rfl⟩ | ⟨_,rfl⟩ <;> cases h
        | fn f a c=>obtain ⟨_,_,h,_⟩:=h2; rcases hx with ⟨_,rfl⟩ | ⟨_,rfl⟩ <;> cases h
        | agg cs=>cases hv
        | rsl kn o n len=>obtain ⟨_,ad,cap,h,_⟩:=h2; rcases hx with ⟨_,rfl⟩ | ⟨_,rfl⟩ <;> cases h
        | rp kn o n i j=>obtain ⟨_,h⟩:=h2; rcases hx with ⟨_,rfl⟩ | ⟨_,rfl⟩ <;> cases h
        | rw es d=>cases hv
      | cons _ _=>obtain ⟨_,_,h,_⟩:=h3; cases h
  rcases ho with ho | ⟨es,clock,_,h⟩ | ⟨c,t,_,h⟩
  · exact ho
  · exact (key _ h (.inl ⟨_,rfl⟩)).elim
  · exact (key _ h (.inr ⟨_,rfl⟩)).elim
structure Inv (P:Program) (w0:World) (G:Nat→Prop) (E:Env) (h:Hp) (w:World):Prop where
  kpt:Kpt w0 w G
  m:E.m=h.nv
  ng:E.ng=h.ng
  gn:∀ k,k<h.nv→lookG k h.gn=some (E.gn k,E.ve k)
  gnlt:∀ k,k<h.nv→E.gn k<h.ng
  live:∀ o,E.live o↔(lookO o h.ob).isSome=true
  nx:∀ o,E.live o→o<h.nx
  ob:∀ o cs,lookO o h.ob=some cs→∃ vs ob,w.heap[E.β o]?=some ob∧RelL E cs vs∧ObOk ob vs
  own:∀ o,E.live o→w0.heap.size≤E.β o∨G (E.β o)
  inj:∀ o o',E.live o→E.live o'→E.β o=E.β o'→o=o'
  z:∀ b j v,E.Z b j=some v→w.cell? ⟨b,j,none⟩=some v
  zob:∀ o j,E.live o→E.Z (E.β o) j=none
  vec:∀ k,k<h.nv→∃ sz n xs,sizeT P (E.ve k)=some sz∧w.ownsRow 0 (E.ve k) sz (E.vc k) n xs∧(∀ u ∈ xs,u.oneCell'=true) ∧
    ∀ b,(E.vc k).ownBlock=some b→(w0.heap.size≤b∨G b)∧(∀ o,E.live o→E.β o≠b)∧∀ j,E.Z b j=xs[j]?
  vinj:∀ k k' b,k<h.nv→k'<h.nv→(E.vc k).ownBlock=some b→(E.vc k').ownBlock=some b→k=k'
def RelD (E:Env):List (FuncId×List AV)→List Deferred→Prop
  | [],ds=>ds=[]
  | (g,xs) :: r,ds=>∃ cap args ds',ds=⟨.fn (.func g) cap,args⟩ :: ds'∧RelL E xs (args.toList ++ cap.toList)∧RelD E r ds'
theorem RelD.mono {E E':Env} (hx:Ext E E'):∀ {l:List (FuncId×List AV)} {ds:List Deferred},RelD E l ds→RelD E' l ds
  | [],_,h=>h
  | (g,xs) :: r,_,⟨cap,args,ds',h1,h2,h3⟩=>⟨cap,args,ds',h1,RelL.mono hx _ _ h2,RelD.mono hx h3⟩
structure RelT (E:Env) (F:Tm) (a:Act):Prop where
  sz:a.tmps.size=F.nt
  tm:∀ i,Rel E (look i F.tm) (a.tmps.getD i undef)
  df:RelD E F.df a.defers
theorem RelT.mono {E E':Env} {F:Tm} {a:Act} (h:RelT E F a) (hx:Ext E E'):RelT E' F a:=⟨h.sz,fun i=>Rel.mono hx _ _ (h.tm i),h.df.mono hx⟩
theorem one_cells {v:Value} (h:v.oneCell'=true):v.cells=#[v]:=by cases v <;> first | rfl | simp [Value.oneCell'] at h
theorem one_of {v:Value} (h1:∀ cs,v≠.agg cs) (h2:∀ cs,v≠.tuple cs):v.oneCell'=true:=by cases v <;> first | rfl | exact absurd rfl (h1 _) | exact absurd rfl (h2 _)
section
variable {P:Program} {E:Env} {F:Tm} {h:Hp} {w w0:World} {G:Nat→Prop} {a:Act}
theorem rel_const (v:Value):Rel E (ofConst v) v:=by
  unfold ofConst
  split
  · rename_i cs
    cases hc:cs.toList.all Value.oneCell'
    · exact trivial
    · have:=List.all_eq_true.1 hc
      exact ⟨cs,rfl,RelL.map_sc true _ this,this⟩
  · exact trivial
  · rename_i h1 h2
    exact ⟨rfl,one_of (fun cs e=>h1 cs e) (fun cs e=>h2 cs e)⟩
theorem rel_opnd (hT:RelT E F a) (x:Operand):Rel E (opnd F x) (a.eval x):=by
  cases x with
  | tmp t=>exact hT.tm t
  | const v=>exact rel_const v
  | global g=>exact trivial
  | func f=>exact ⟨#[],#[],rfl,rfl,rfl⟩
theorem rel_map (hT:RelT E F a):∀ (l:List Operand),RelL E (l.map (opnd F)) (l.map a.eval)
  | []=>rfl
  | x :: l=>⟨_,_,rfl,rel_opnd hT x,rel_map hT l⟩
theorem rel_cells:∀ {x:AV} {v:Value} {cs:List AV},Rel E x v→cellsA x=some cs→RelL E cs v.cells.toList∧∀ u ∈ v.cells.toList,u.oneCell'=true:=by
  intro x v cs hr hc
  have one:v.oneCell'=true→RelL E [x] v.cells.toList∧∀ u ∈ v.cells.toList,u.oneCell'=true:=fun h1=>by
    rw [one_cells h1]
    exact ⟨⟨v,[],rfl,hr,rfl⟩,by simpa using h1⟩
  cases x with
  | any=>cases hc
  | tup vs=>cases hc
  | agg cs' =>
    cases hc
    obtain ⟨vs,rfl,h1,h2⟩:=hr
    exact ⟨h1,h2⟩
  | sc kn u=>cases hc; obtain ⟨rfl,h1⟩:=hr; exact one h1
  | sl kn es d tip=>cases hc; obtain ⟨⟨_,ad,cap,rfl,_⟩,_⟩:=hr; exact one rfl
  | ptr o off=>cases hc; obtain ⟨_,rfl⟩:=hr; exact one rfl
  | mp o=>cases hc; obtain ⟨_,rfl⟩:=hr; exact one rfl
  | ep kn es d j=>cases hc; obtain ⟨b,o,rfl,_⟩:=hr; exact one rfl
  | rsl kn o n len=>cases hc; obtain ⟨_,ad,cap,rfl,_⟩:=hr; exact one rfl
  | rp kn o n i j=>cases hc; obtain ⟨_,rfl⟩:=hr; exact one rfl
  | rw es d=>cases hc
  | fn f c d=>cases hc; obtain ⟨_,_,rfl,_⟩:=hr; exact one rfl
theorem rel_leaf {kn:Bool}:∀ {s:Sh} {v:Value} {d:D},LF E.Z s v d→Rel E (leaf kn s d) v∧v.oneCell'=true
  | .int _,_,_,rfl=>⟨⟨rfl,rfl⟩,rfl⟩
  | .bool,_,_,rfl=>⟨⟨rfl,rfl⟩,rfl⟩
  | .str,_,_,rfl=>⟨⟨rfl,rfl⟩,rfl⟩
  | .sl es,v,d,h=>⟨⟨h,trivial⟩,by obtain ⟨_,_,_,rfl,_⟩:=h; rfl⟩
theorem el_leaves {kn:Bool}:∀ {es:List Sh} {b o:Nat} {d:D} {j:Nat},EL E.Z es b o d j→∃ vs:List Value,vs.length=es.length∧(∀ i v,vs[i]?=some v→E.Z b (o+i)=some v)∧RelL E (leaves kn es d j) vs∧∀ u ∈ vs,u.oneCell'=true
  | [],_,_,_,_,_=>⟨[],rfl,by simp,rfl,by simp⟩
  | s :: es,b,o,d,j,⟨⟨v,hz,hl⟩,h⟩=>by
    obtain ⟨vs,h1,h2,h3,h4⟩:=el_leaves (kn:=kn) h
    obtain ⟨g1,g2⟩:=rel_leaf (kn:=kn) hl
    refine ⟨v :: vs,by simp [h1],fun i u hu=>?_,⟨v,vs,rfl,g1,h3⟩,by simpa using ⟨g2,h4⟩⟩
    cases i with
    | zero=>simp at hu; subst hu; exact hz
    | succ i=>have:=h2 i u (by simpa using hu); rwa [show o+(i+1)=o+1+i by omega]
theorem el_take {Z:Nat→Nat→Option Value}:∀ (n:Nat) {es:List Sh} {b o:Nat} {d:D} {j:Nat},EL Z es b o d j→EL Z (es.take n) b o d j
  | 0,_,_,_,_,_,_=>by simp [EL]
  | n+1,[],_,_,_,_,_=>by simp [EL]
  | n+1,s :: es,_,_,_,_,⟨h1,h2⟩=>by simp only [List.take_succ_cons]; exact ⟨h1,el_take n h2⟩
theorem el_drop {Z:Nat→Nat→Option Value}:∀ (n:Nat) {es:List Sh} {b o:Nat} {d:D} {j:Nat},EL Z es b o d j→EL Z (es.drop n) b (o+n) d (j+n)
  | 0,_,_,_,_,_,h=>by simpa using h
  | n+1,[],_,_,_,_,_=>by simp [EL]
  | n+1,s :: es,b,o,d,j,⟨_,h2⟩=>by
    have:=el_drop n h2
    simp only [List.drop_succ_cons]
    rwa [show o+1+n=o+(n+1) by omega,show j+1+n=j+(n+1) by omega] at this
theorem sizeT_info {t:TypeId} {n:Nat} (hs:sizeT P t=some n):∃ i,P.info? t=some i∧i.size=n:=by
  unfold sizeT at hs
  cases hi:P.info? t with
  | none=>rw [hi] at hs; cases hs
  | some i=>rw [hi] at hs; exact ⟨i,rfl,Option.some.inj hs⟩
theorem run_sizeOf {t:TypeId} {n:Nat} (hs:sizeT P t=some n):(sizeOf t).run P w=.ok n w:=by
  obtain ⟨i,hi,rfl⟩:=sizeT_info hs
  simp [sizeOf,typeInfo,hi]
theorem addr_add' (b o n:Nat):(⟨b,o,none⟩:Addr).add n=⟨b,o+n,none⟩:=by unfold Addr.add; split <;> simp_all
theorem re_leaves {kn:Bool} {cs:Array Value}:∀ {es:List Sh} {p:Nat} {d:D} {j:Nat},RE E.Z es cs p d j→∃ vs:List Value,vs.length=es.length∧(∀ i v,vs[i]?=some v→cs[p+i]?=some v)∧RelL E (leaves kn es d j) vs∧∀ u ∈ vs,u.oneCell'=true
  | [],_,_,_,_=>⟨[],rfl,by simp,rfl,by simp⟩
  | s :: es,p,d,j,⟨⟨v,hz,hl⟩,h⟩=>by
    obtain ⟨vs,h1,h2,h3,h4⟩:=re_leaves (kn:=kn) h
    obtain ⟨g1,g2⟩:=rel_leaf (kn:=kn) hl
    refine ⟨v :: vs,by simp [h1],fun i u hu=>?_,⟨v,vs,rfl,g1,h3⟩,by simpa using ⟨g2,h4⟩⟩
    cases i with
    | zero=>simp at hu; subst hu; exact hz
    | succ i=>have:=h2 i u (by simpa using hu); rwa [show p+(i+1)=p+1+i by omega]
theorem re_take {Z:Nat→Nat→Option Value} {cs:Array Value}:∀ (n:Nat) {es:List Sh} {p:Nat} {d:D} {j:Nat},RE Z es cs p d j→RE Z (es.take n) cs p d j
  | 0,_,_,_,_,_=>by simp [RE]
  | n+1,[],_,_,_,_=>by simp [RE]
  | n+1,s :: es,_,_,_,⟨h1,h2⟩=>by simp only [List.take_succ_cons]; exact ⟨h1,re_take n h2⟩
theorem re_drop {Z:Nat→Nat→Option Value} {cs:Array Value}:∀ (n:Nat) {es:List Sh} {p:Nat} {d:D} {j:Nat},RE Z es cs p d j→RE Z (es.drop n) cs (p+n) d (j+n)
  | 0,_,_,_,_,h=>by simpa using h
  | n+1,[],_,_,_,_=>by simp [RE]
  | n+1,s :: es,p,d,j,⟨_,h2⟩=>by
    have:=re_drop n h2
    simp only [List.drop_succ_cons]
    rwa [show p+1+n=p+(n+1) by omega,show j+1+n=j+(n+1) by omega] at this
theorem row_ob (I:Inv P w0 G E h w) {o:Nat} {es:List Sh} {d:D} (H:rowOf o h=some (es,d)):lookO o h.ob=some [.rw es d]∧∃ cs t,w.heap[E.β o]?=some (.cells cs t (0,0))∧d.len*szB es≤room∧∀ i,i<d.len→RE E.Z es cs (i*es.length) (d.get i) 0:=by
  unfold rowOf at H
  split at H
  · rename_i es' d' hl
    cases H
    refine ⟨hl,?_⟩
    obtain ⟨vs,ob,hb,hr,hok⟩:=I.ob o _ hl
    obtain ⟨v,vs',rfl,⟨h0,cs,rfl,h2⟩,h3⟩:=hr
    have h3:vs'=[]:=h3
    subst h3
    rcases hok with ⟨t,_,h1⟩ | ⟨_,_,_,h1⟩ | ⟨cs',t,h1,h4⟩
    · have:=h1 _ List.mem_cons_self; cases this
    · cases h1
    · cases h4
      exact ⟨cs,t,h1 ▸ hb,h0,h2⟩
  · cases H
def Sees (E:Env) (x:AV) (w W:World):Prop:=(∀ b j v,E.Z b j=some v→W.cell? ⟨b,j,none⟩=some v)∧∀ o,tgt x=some o→W.heap[E.β o]?=w.heap[E.β o]?
theorem Inv.sees (I:Inv P w0 G E h w) (x:AV):Sees E x w w:=⟨I.z,fun _ _=>rfl⟩
theorem loadA_ok {K:AV→Prop} {t:TypeId} {x:AV} {v:Value} (H:(loadA P t x h).holds K) (I:Inv P w0 G E h w) (hx:Rel E x v) :
    ∃ av u,K av∧(∀ W,Sees E x w W→(Instr.loadAt t v).run P W=.ok u W)∧Rel E av u:=by
  unfold loadA at H
  split at H
  · exact H.elim
  rename_i n hn
  cases hu:P.underlying t with
  | none=>simp only [hu] at H; exact H.elim
  | some d =>
    simp only [hu] at H
    split at H
    · -- a variable
      rename_i o off
      obtain ⟨hlive,rfl⟩:=hx
      split at H
      · exact H.elim
      rename_i cs hcs
      cases hvar:isVar cs
      · rw [hvar] at H; exact H.elim
      rw [hvar] at H
      simp only [cond_true] at H
      obtain ⟨vs,ob,hb,hrel,hok⟩:=I.ob o cs hcs
      obtain ⟨ty,rfl,h1⟩:=ob_cells hvar hrel hok
      have hcell:∀ W,Sees E (.ptr o off) w W→∀ j,W.cell? ⟨E.β o,j,none⟩=vs[j]?:=fun W hW j=>by rw [cell_of_row W _ j _ _ _ ((hW.2 o rfl).trans hb)]; simp
      cases hr:d.isRow
      · simp only [hr,cond_false] at H
        split at H
        · rename_i y hy
          obtain ⟨u,hu',hru⟩:=RelL.get hrel hy
          refine ⟨y,u,H,fun W hW=>?_,hru⟩
          have hag:(isAgg t).run P W=.ok false W:=by
            unfold isAgg
            simp only [Sem.run_bind,run_underlying hu,Result.andThen_ok]
            cases d <;> first | rfl | simp [TypeDesc.isRow] at hr
          simp [Instr.loadAt,Instr.sureAddr,loadVar,hag,hcell W hW,hu']
        · exact H.elim
      · simp only [hr,cond_true] at H
        cases hle:Nat.ble (off+n) cs.length
        · rw [hle] at H; exact H.elim
        · rw [hle] at H
          have hle':=Nat.le_of_ble_eq_true hle
          have hlen:vs.length=cs.length:=hrel.length.symm
          refine ⟨_,.agg ((vs.drop off).take n).toArray,H,fun W hW=>?_,⟨_,rfl,by simpa using (hrel.drop off).take n,fun u hu'=>h1 u (List.mem_of_mem_drop (List.mem_of_mem_take (by simpa using hu')))⟩⟩
          have hrow:W.rangeAt (E.β o) off ((vs.drop off).take n):=fun j u hu'=>by
            rw [hcell W hW]
            rw [List.getElem?_take] at hu'
            split at hu'
            · rwa [List.getElem?_drop] at hu'
            · cases hu'
          have hsz:(P.info? t).map (·.size)=some ((vs.drop off).take n).length:=by
            obtain ⟨i,hi,hi2⟩:=sizeT_info hn
            rw [hi]; simp [hi2]; omega
          have:=run_loadVar_mid (P:=P) W (E.β o) off t _ d hrow hu hr hsz
          simp [Instr.loadAt,Instr.sureAddr,this]
    · -- an element
      rename_i kn es d' j
      obtain ⟨b,o,rfl,hel⟩:=hx
      cases hr:d.isRow
      · simp only [hr,cond_false] at H
        split at H
        · rename_i s es'
          obtain ⟨⟨u,hz,hl⟩,_⟩:=hel
          obtain ⟨g1,g2⟩:=rel_leaf (kn:=kn) hl
          refine ⟨_,u,H,fun W hW=>?_,g1⟩
          have hl:=hW.1 _ _ _ hz
          have hag:(isAgg t).run P W=.ok false W:=by
            unfold isAgg
            simp only [Sem.run_bind,run_underlying hu,Result.andThen_ok]
            cases d <;> first | rfl | simp [TypeDesc.isRow] at hr
          simp [Instr.loadAt,Instr.sureAddr,loadVar,hag,hl]
        · exact H.elim
      · simp only [hr,cond_true] at H
        cases hle:Nat.ble n es.length
        · rw [hle] at H; exact H.elim
        · rw [hle] at H
          have hle':=Nat.le_of_ble_eq_true hle
          obtain ⟨vs,g1,g2,g3,g4⟩:=el_leaves (kn:=kn) (el_take n hel)
          refine ⟨_,.agg vs.toArray,H,fun W hW=>?_,⟨_,rfl,by simpa using g3,by simpa using g4⟩⟩
          have hsz:(P.info? t).map (·.size)=some vs.length:=by
            obtain ⟨i,hi,hi2⟩:=sizeT_info hn
            rw [hi,g1]; simp [hi2]; omega
          have:=run_loadVar_mid (P:=P) W b o t _ d (fun j v hv=>hW.1 _ _ _ (g2 j v hv)) hu hr hsz
          simp [Instr.loadAt,Instr.sureAddr,this]
    · -- an element of a row
      rename_i kn o m i j
      obtain ⟨hlive,rfl⟩:=hx
      split at H
      · rename_i es d' hrow
        obtain ⟨hlk,cs,ty,hb,_,hre⟩:=row_ob I hrow
        cases hm:Nat.beq m es.length
        · rw [hm] at H; exact H.elim
        rw [hm] at H
        obtain rfl:=Nat.eq_of_beq_eq_true hm
        obtain ⟨hc,H⟩:=need_holds H
        have hc:=of_decide_eq_true hc
        have hre:=hre i hc
        have hcell:∀ W,Sees E (.rp kn o es.length i j) w W→∀ q,W.cell? ⟨E.β o,q,none⟩=cs[q]?:=fun W hW q=>by
          have hb':W.heap[E.β o]?=some (.cells cs.toList.toArray ty (0,0)):=(hW.2 o rfl).trans (by simpa using hb)
          rw [cell_of_row W _ q _ _ _ hb']
        cases hr:d.isRow
        · simp only [hr,cond_false] at H
          split at H
          · rename_i s es' hes
            have hel:=re_drop j hre
            rw [hes,Nat.zero_add] at hel
            obtain ⟨⟨u,hz,hl⟩,_⟩:=hel
            obtain ⟨g1,g2⟩:=rel_leaf (kn:=kn) hl
            refine ⟨_,u,H,fun W hW=>?_,g1⟩
            have hl:=(hcell W hW _).trans hz
            have hag:(isAgg t).run P W=.ok false W:=by
              unfold isAgg
              simp only [Sem.run_bind,run_underlying hu,Result.andThen_ok]
              cases d <;> first | rfl | simp [TypeDesc.isRow] at hr
            simp [Instr.loadAt,Instr.sureAddr,loadVar,hag,hl]
          · exact H.elim
        · simp only [hr,cond_true] at H
          cases hle:Nat.ble (j+n) es.length
          · rw [hle] at H; exact H.elim
          · rw [hle] at H
            have hle':=Nat.le_of_ble_eq_true hle
            obtain ⟨vs,g1,g2,g3,g4⟩:=re_leaves (kn:=kn) (re_take n (re_drop j hre))
            rw [Nat.zero_add] at g3
            refine ⟨_,.agg vs.toArray,H,fun W hW=>?_,⟨_,rfl,by simpa using g3,by simpa using g4⟩⟩
            have hsz:(P.info? t).map (·.size)=some vs.length:=by
              obtain ⟨i,hi,hi2⟩:=sizeT_info hn
              rw [hi,g1]; simp [hi2]; omega
            have:=run_loadVar_mid (P:=P) W (E.β o) (i*es.length+j) t _ d (fun q v hv=>(hcell W hW _).trans (g2 q v hv)) hu hr hsz
            simp [Instr.loadAt,Instr.sureAddr,this]
      · exact H.elim
    · exact H.elim
theorem fieldAddrA_ok {K:AV→Prop} {s:TypeId} {x:AV} {f:Nat} {v:Value} (H:(fieldAddrA P s x f).holds K) (hx:Rel E x v) :
    ∃ av u,K av∧(∀ w,(Instr.fieldAt s v f).run P w=.ok u w)∧Rel E av u:=by
  unfold fieldAddrA at H
  split at H
  · rename_i fs hu
    split at H
    · rename_i fd hf
      split at H
      · rename_i n hn
        have hn0:¬ n+1=0:=by omega
        have key:∀ b o w,(Instr.fieldAt s (.pointer (some ⟨b,o,none⟩)) f).run P w=.ok (.pointer (some ⟨b,o+fd.offset,none⟩)) w:=fun b o w=>by
          simp [Instr.fieldAt,run_underlying hu,hf,Instr.sureAddr,fieldPlace,run_sizeOf hn,addr_add']
        split at H
        · rename_i o off
          obtain ⟨h1,rfl⟩:=hx
          exact ⟨_,_,H,key _ _,h1,rfl⟩
        · rename_i kn es d j
          obtain ⟨b,o,rfl,h1⟩:=hx
          cases hle:Nat.ble fd.offset es.length
          · rw [hle] at H; exact H.elim
          · rw [hle] at H
            exact ⟨_,_,H,key _ _,b,_,rfl,el_drop _ h1⟩
        · rename_i kn o m i j
          obtain ⟨h1,rfl⟩:=hx
          exact ⟨_,_,H,key _ _,h1,by rw [Nat.add_assoc]⟩
        · exact H.elim
      · exact H.elim
    · exact H.elim
  · exact H.elim
end
end
end Go.Proofs.YtbgmclbcjdbcmaaGreat
namespace Go.Proofs.YtbgmclbcjdbcmaaGreat
set_option linter.unusedSimpArgs false
set_option linter.unusedVariables false
open Go.RowKit
set_option maxRecDepth 10000
noncomputable section
section
variable {P:Program} {E:Env} {F:Tm} {h:Hp} {w w0:World} {G:Nat→Prop} {a:Act}
theorem rel_int {kn:Bool} {k:IntKind} {n:Int} {v:Value} (h:Rel E (.sc kn (.int k n)) v):v=.int k n:=h.1
theorem indexAddrA_ok {K:AV→Prop} {t:TypeId} {x i:AV} {v iv:Value} (H:(indexAddrA P t x i).holds K) (hx:Rel E x v) (hi:Rel E i iv) :
    ∃ av u,K av∧(∀ w,(Instr.indexAt t v iv).run P w=.ok u w)∧Rel E av u:=by
  unfold indexAddrA at H
  split at H
  · rename_i e kn es d tip k2 ik n hu
    obtain ⟨⟨_,ad,cap,rfl,h1,h2,h3,h4⟩,_⟩:=hx
    obtain rfl:=rel_int hi
    split at H
    · rename_i m hm
      cases hb:Nat.beq m es.length
      · rw [hb] at H; exact H.elim
      · rw [hb] at H
        obtain rfl:=Nat.eq_of_beq_eq_true hb
        obtain ⟨hc,H⟩:=need_holds H
        obtain ⟨hn0,hn1⟩:0≤n∧n<(d.len:Int):=of_decide_eq_true hc
        obtain ⟨b,o,rfl,h5⟩:=h4 (by omega)
        refine ⟨_,.pointer (some ⟨b,o+n.toNat*es.length,none⟩),H,fun w=>?_,b,_,rfl,h5 n.toNat (by omega)⟩
        simp [Instr.indexAt,asIntOf,run_underlying hu,hn0,hn1,run_sizeOf hm,addr_add']
    · exact H.elim
  · obtain ⟨hc,_⟩:=need_holds H; cases hc
  · rename_i e kn o m len k2 ik n hu
    obtain ⟨hl,ad,cap,rfl,h1,h2,h3,h4⟩:=hx
    obtain rfl:=rel_int hi
    split at H
    · rename_i k hk
      cases hb:Nat.beq k m
      · rw [hb] at H; exact H.elim
      · rw [hb] at H
        obtain rfl:=Nat.eq_of_beq_eq_true hb
        obtain ⟨hc,H⟩:=need_holds H
        obtain ⟨hn0,hn1⟩:0≤n∧n<(len:Int):=of_decide_eq_true hc
        obtain rfl:=h4 (by omega)
        refine ⟨_,.pointer (some ⟨E.β o,n.toNat*k,none⟩),H,fun w=>?_,hl,by simp⟩
        simp [Instr.indexAt,asIntOf,run_underlying hu,hn0,hn1,run_sizeOf hk,addr_add']
    · exact H.elim
  · rename_i m e o off ik n hu
    obtain ⟨hl,rfl⟩:=hx
    obtain rfl:=rel_int hi
    split at H
    · rename_i k hk
      cases hc:decide (0≤n∧n<(m:Int))
      · rw [hc] at H; exact H.elim
      · rw [hc] at H
        obtain ⟨hn0,hn1⟩:=of_decide_eq_true hc
        refine ⟨_,.pointer (some ⟨E.β o,off+n.toNat*k,none⟩),H,fun w=>?_,hl,rfl⟩
        simp [Instr.indexAt,asIntOf,run_underlying hu,Instr.sureAddr,hn0,hn1,run_sizeOf hk,addr_add']
    · exact H.elim
  · rename_i m e kn es d j ik n hu
    obtain ⟨b,o,rfl,h1⟩:=hx
    obtain rfl:=rel_int hi
    split at H
    · rename_i k hk
      cases hc:decide (0≤n∧n<(m:Int))&&Nat.ble (n.toNat*k) es.length
      · rw [hc] at H; exact H.elim
      · rw [hc] at H
        simp only [Bool.and_eq_true] at hc
        obtain ⟨hn0,hn1⟩:=of_decide_eq_true hc.1
        refine ⟨_,.pointer (some ⟨b,o+n.toNat*k,none⟩),H,fun w=>?_,b,_,rfl,el_drop _ h1⟩
        simp [Instr.indexAt,asIntOf,run_underlying hu,Instr.sureAddr,hn0,hn1,run_sizeOf hk,addr_add']
    · exact H.elim
  · exact H.elim
theorem asSl_ok {es0:List Sh} {x:AV} {kn:Bool} {es:List Sh} {d:D} {v:Value} (hs:asSl es0 x=some (kn,es,d)) (hx:Rel E x v):LF E.Z (.sl es) v d:=by
  unfold asSl at hs
  split at hs
  · cases hs; exact hx.1
  · cases hs
    obtain ⟨rfl,_⟩:=hx
    exact ⟨by simp [D.len,D.toL,D.raw],none,0,rfl,Nat.le_refl _,Nat.zero_le _,fun _=>rfl,fun hn=>absurd (by simp [D.len,D.toL,D.raw]) hn⟩
  · cases hs
theorem toL_sub {d:D} {l u:Nat}:(d.sub l u).toL=(d.toL.take u).drop l:=by
  have h1:((d.toL.take u).drop l).length≤maxLen:=by
    have:=d.len_le; unfold D.len at this
    simp only [List.length_drop,List.length_take]; omega
  show List.take maxLen _=_
  exact List.take_of_length_le h1
theorem boundA_ok {dflt:Int} {x:Option AV} {v:Option Value} {k:Bool} {n:Int} (hb:boundA dflt x=some (k,n)) (hr:∀ y,x=some y→∃ u,v=some u∧Rel E y u) (hn:x=none→v=none) :
    (x=none∧v=none∧n=dflt)∨∃ ik,v=some (.int ik n):=by
  unfold boundA at hb
  split at hb
  · cases hb; exact .inl ⟨rfl,hn rfl,rfl⟩
  · cases hb
    obtain ⟨u,rfl,h1⟩:=hr _ rfl
    exact .inr ⟨_,by rw [rel_int h1]⟩
  · cases hb
theorem run_sliceBound {ik:IntKind} {n:Int} {y:Nat} {c:BoundsCode} (h0:0≤n) (h1:n≤y):(Instr.sliceBound (.int ik n) y c).run P w=.ok n.toNat w:=by
  simp [Instr.sliceBound,asIntOf,h0,h1]
theorem sliceA_ok {K:AV→Prop} {t:TypeId} {x:AV} {v:Value} {lo hi:Option Operand} {mx:Option Operand} (hT:RelT E F a) (H:(sliceA P t x (lo.map (opnd F)) (hi.map (opnd F)) (mx.map (opnd F))).holds K) (hx:Rel E x v) :
    ∃ av u,K av∧(∀ w,(Instr.sliceAt t v (lo.map a.eval) (hi.map a.eval) (mx.map a.eval)).run P w=.ok u w)∧Rel E av u:=by
  unfold sliceA at H
  split at H
  · rename_i e hel
    have hu:P.underlying t=some (.slice e):=by
      unfold elemA at hel
      split at hel
      · cases hel; assumption
      · cases hel
    split at H
    · rename_i kn es d n hs hn
      split at H
      · rename_i k1 l k2 u k3 m hb1 hb2 hb3
        cases hb:Nat.beq n es.length&&((mx.map (opnd F)).isNone||(hi.map (opnd F)).isSome)
        · rw [hb] at H; exact H.elim
        · rw [hb] at H
          simp only [Bool.and_eq_true] at hb
          obtain rfl:=Nat.eq_of_beq_eq_true hb.1
          have hmh:mx=none∨∃ o,hi=some o:=by
            have:=hb.2
            cases mx with
            | none=>exact .inl rfl
            | some _=>cases hi with
              | none=>simp at this
              | some o=>exact .inr ⟨o,rfl⟩
          obtain ⟨hc,H⟩:=need_holds H
          obtain ⟨h0,h1,h2',h2⟩:0≤l∧l≤u∧u≤m∧m≤(d.len:Int):=of_decide_eq_true hc
          obtain ⟨g0,ad,cap,rfl,g1,g2,g3,g4⟩:=asSl_ok hs hx
          have rl:∀ z y,(z:Option Operand).map (opnd F)=some y→∃ u,z.map a.eval=some u∧Rel E y u:=fun z y hy=>by
            cases z with
            | none=>cases hy
            | some o=>cases hy; exact ⟨_,rfl,rel_opnd hT o⟩
          obtain ⟨M,hM,hMu,hMc⟩:∃ M:Nat,(∀ w c,((match mx.map a.eval with | some v=>Instr.sliceBound v cap c | none=>pure cap):Sem Nat).run P w=.ok M w)∧u≤M∧M≤cap:=by
            rcases boundA_ok hb3 (rl mx) (fun hh=>by cases mx <;> simp_all) with ⟨_,hv,rfl⟩ | ⟨ik,hv⟩
            · exact ⟨cap,fun w c=>by rw [hv]; simp,by omega,Nat.le_refl _⟩
            · exact ⟨m.toNat,fun w c=>by rw [hv]; exact run_sliceBound (by omega) (by omega),by omega,by omega⟩
          have hhi:∀ w c,((match hi.map a.eval with | some v=>Instr.sliceBound v M c | none=>pure d.len):Sem Nat).run P w=.ok u.toNat w:=fun w c=>by
            rcases boundA_ok hb2 (rl hi) (fun hh=>by cases hi <;> simp_all) with ⟨_,hv,rfl⟩ | ⟨ik,hv⟩
            · rw [hv]; simp
            · rw [hv]; exact run_sliceBound (by omega) (by omega)
          have hlo:∀ w c,((match lo.map a.eval with | some v=>Instr.sliceBound v u.toNat c | none=>pure 0):Sem Nat).run P w=.ok l.toNat w:=fun w c=>by
            rcases boundA_ok hb1 (rl lo) (fun hh=>by cases lo <;> simp_all) with ⟨_,hv,rfl⟩ | ⟨ik,hv⟩
            · rw [hv]; simp
            · rw [hv]; exact run_sliceBound (by omega) (by omega)
          have hlen:(d.sub l.toNat u.toNat).len=u.toNat - l.toNat:=by
            have h5:u.toNat≤d.toL.length:=by unfold D.len at h2; omega
            unfold D.len; rw [toL_sub]; simp only [List.length_drop,List.length_take]; omega
          refine ⟨_,.slice (if M=l.toNat then ad else ad.map (·.add (l.toNat*es.length))) (u.toNat - l.toNat) (M - l.toNat),H,fun w=>?_,⟨by rw [hlen]; exact Nat.le_trans (Nat.mul_le_mul_right _ (by omega)) g0,_,_,by rw [hlen],by omega,by omega,?_,?_⟩,trivial⟩
          · have hsb:(Instr.sliceBounds true d.len cap (lo.map a.eval) (hi.map a.eval) (mx.map a.eval)).run P w=.ok (l.toNat,u.toNat,M) w:=by
              unfold Instr.sliceBounds
              have e1:=hhi w .sliceAcap
              have e1':=hhi w .slice3B
              have e2:=hlo w .sliceB
              have e2':=hlo w .slice3C
              have e3:=hM w .slice3Acap
              rcases hmh with rfl | ⟨o,rfl⟩
              · cases lo <;> cases hi <;> simp_all
              · cases lo <;> cases mx <;> simp_all
            unfold Instr.sliceAt
            simp only [Sem.run_bind,run_underlying hu,Result.andThen_ok,Instr.slice,hsb,run_sizeOf hn]
            rfl
          · intro hh
            split at hh
            · have:=g3 hh; omega
            · cases ad with
              | none=>have:=g3 rfl; omega
              | some _=>cases hh
          · intro hne
            rw [hlen] at hne
            obtain ⟨b,o,rfl,g5⟩:=g4 (by omega)
            rw [if_neg (by omega)]
            refine ⟨b,o+l.toNat*es.length,by simp [addr_add'],fun i hi=>?_⟩
            rw [hlen] at hi
            have:=g5 (l.toNat+i) (by omega)
            rw [show o+l.toNat*es.length+i*es.length=o+(l.toNat+i)*es.length by rw [Nat.add_mul,Nat.add_assoc]]
            have hg:(d.sub l.toNat u.toNat).get i=d.get (l.toNat+i):=by
              unfold D.get
              rw [toL_sub,List.getD_eq_getElem?_getD,List.getD_eq_getElem?_getD,List.getElem?_drop,List.getElem?_take_of_lt (by omega)]
            rw [hg]; exact this
      · exact H.elim
    · exact H.elim
  · split at H
    · rename_i kn sv hu hmx
      obtain ⟨rfl,_⟩:=hx
      split at H
      · rename_i k1 l k2 u hb1 hb2
        obtain ⟨hc,H⟩:=need_holds H
        obtain ⟨h0,h1,h2⟩:0≤l∧l≤u∧u≤(sv.size:Int):=of_decide_eq_true hc
        have hmx':mx=none:=by cases mx <;> simp_all
        subst hmx'
        have rl:∀ z y,(z:Option Operand).map (opnd F)=some y→∃ u,z.map a.eval=some u∧Rel E y u:=fun z y hy=>by
          cases z with
          | none=>cases hy
          | some o=>cases hy; exact ⟨_,rfl,rel_opnd hT o⟩
        have hhi:∀ w c,((match hi.map a.eval with | some v=>Instr.sliceBound v sv.size c | none=>pure sv.size):Sem Nat).run P w=.ok u.toNat w:=fun w c=>by
          rcases boundA_ok hb2 (rl hi) (fun hh=>by cases hi <;> simp_all) with ⟨_,hv,rfl⟩ | ⟨ik,hv⟩
          · rw [hv]; simp
          · rw [hv]; exact run_sliceBound (by omega) (by omega)
        have hlo:∀ w c,((match lo.map a.eval with | some v=>Instr.sliceBound v u.toNat c | none=>pure 0):Sem Nat).run P w=.ok l.toNat w:=fun w c=>by
          rcases boundA_ok hb1 (rl lo) (fun hh=>by cases lo <;> simp_all) with ⟨_,hv,rfl⟩ | ⟨ik,hv⟩
          · rw [hv]; simp
          · rw [hv]; exact run_sliceBound (by omega) (by omega)
        refine ⟨_,.string (sv.extract l.toNat u.toNat),H,fun w=>?_,rfl,rfl⟩
        have hsb:(Instr.sliceBounds false sv.size sv.size (lo.map a.eval) (hi.map a.eval) none).run P w=.ok (l.toNat,u.toNat,sv.size) w:=by
          unfold Instr.sliceBounds
          have e1:=hhi w .sliceAlen
          have e2:=hlo w .sliceB
          cases lo <;> cases hi <;> simp_all
        unfold Instr.sliceAt
        simp only [Sem.run_bind,run_underlying hu,Result.andThen_ok,Instr.slice,Option.map_none,Option.isSome_none,Bool.false_eq_true,if_false,hsb]
        rfl
      · exact H.elim
    · exact H.elim
theorem lenA_ok {K:AV→Prop} {t ty:TypeId} {x:AV} {v:Value} (H:(lenA P t x).holds K) (hx:Rel E x v) :
    ∃ av u,K av∧(∀ w,(Builtin.len_ #[t] ty #[v]).run P w=.ok u w)∧Rel E av u:=by
  unfold lenA at H
  split at H
  · rename_i hu
    obtain ⟨⟨_,ad,cap,rfl,_⟩,_⟩:=hx
    exact ⟨_,_,H,fun w=>by simp [Builtin.len_,run_underlying hu]; rfl,rfl,rfl⟩
  · rename_i hu
    obtain ⟨rfl,_⟩:=hx
    exact ⟨_,_,H,fun w=>by simp [Builtin.len_,run_underlying hu]; rfl,rfl,rfl⟩
  · rename_i hu
    obtain ⟨_,ad,cap,rfl,_⟩:=hx
    exact ⟨_,_,H,fun w=>by simp [Builtin.len_,run_underlying hu]; rfl,rfl,rfl⟩
  · rename_i hu
    obtain ⟨rfl,_⟩:=hx
    exact ⟨_,_,H,fun w=>by simp [Builtin.len_,run_underlying hu]; rfl,rfl,rfl⟩
  · rename_i hu
    exact ⟨_,_,H,fun w=>by simp [Builtin.len_,run_underlying hu]; rfl,rfl,rfl⟩
  · exact H.elim
theorem intOp_ok {K:AV→Prop} {op:BinOp} {k:IntKind} {kn:Bool} {x y:Int} (t:TypeId) (hsh:op≠.shl∧op≠.shr) (H:(intOp op k kn x y).holds K) :
    ∃ av u,K av∧(∀ w,(binOp op t (.int k x) (.int k y)).run P w=.ok u w)∧Rel E av u:=by
  cases op <;> simp only [intOp] at H
  case shl=>exact absurd rfl hsh.1
  case shr=>exact absurd rfl hsh.2
  case quo =>
    obtain ⟨hc,H⟩:=need_holds H
    have hy:¬ y=0:=by simpa using hc
    exact ⟨_,_,H,fun w=>by simp [binOp,Op.intDiv,hy],rfl,rfl⟩
  case rem =>
    obtain ⟨hc,H⟩:=need_holds H
    have hy:¬ y=0:=by simpa using hc
    exact ⟨_,_,H,fun w=>by simp [binOp,Op.intDiv,hy],rfl,rfl⟩
  all_goals first
    | exact H.elim
    | exact ⟨_,_,H,fun w=>by simp [binOp,Op.intArith,Op.intBits,Op.intCmp]; rfl,rfl,rfl⟩
    | exact ⟨_,_,H,fun w=>by simp [binOp,Op.intArith,Op.intBits,Op.intCmp],rfl,rfl⟩
theorem strOp_ok {K:AV→Prop} {op:BinOp} {kn:Bool} {x y:ByteArray} (t:TypeId) (H:(strOp op kn x y).holds K) :
    ∃ av u,K av∧(∀ w,(binOp op t (.string x) (.string y)).run P w=.ok u w)∧Rel E av u:=by
  cases op <;> simp only [strOp] at H
  case add =>
    obtain ⟨hc,H⟩:=need_holds H
    have hc':x.size+y.size≤maxLen:=of_decide_eq_true hc
    refine ⟨_,_,H,fun w=>?_,rfl,rfl⟩
    have h0:IntKind.i64.max=9223372036854775807:=by decide
    have:¬ (((x.size+y.size:Nat):Int) > IntKind.i64.max):=by
      rw [h0]; unfold maxLen at hc'; omega
    simp only [binOp,Op.stringOp]
    rw [if_neg this]
    rfl
  all_goals first
    | exact H.elim
    | exact ⟨_,_,H,fun w=>by simp [binOp,Op.stringOp]; rfl,rfl,rfl⟩
    | exact ⟨_,_,H,fun w=>by simp [binOp,Op.stringOp],rfl,rfl⟩
theorem run_guard_sc {op:BinOp} {t:TypeId} {x y:Operand} {p q:Value} (hp:(∀ cs,p≠.agg cs)∧p≠.nilIface):(eqGuard op t x y p q).run P w=.ok () w:=by
  unfold eqGuard
  cases op <;> simp
  all_goals
    cases p <;> first
      | exact absurd rfl (hp.1 _)
      | exact absurd rfl hp.2
      | (cases q <;> simp)
theorem run_equal_bool {t:TypeId} (hu:P.underlying t=some .bool) (x y:Bool):(Op.equal t (.bool x) (.bool y)).run P w=.ok (x==y) w:=by
  unfold Op.equal Op.maxDepth
  rw [Op.equalIn]
  simp [run_underlying hu]
theorem run_equal_nilf {t:TypeId} {p r:Array TypeId} {b:Bool} (hu:P.underlying t=some (.func p r b)):(Op.equal t .nilFunc .nilFunc).run P w=.ok true w:=by
  unfold Op.equal Op.maxDepth
  rw [Op.equalIn]
  simp [run_underlying hu]
theorem run_equal_fn {t:TypeId} {p r:Array TypeId} {b:Bool} (hu:P.underlying t=some (.func p r b)) (f:Fn) (x y:Array Value):(Op.equal t (.func f x y) .nilFunc).run P w=.ok false w:=by
  unfold Op.equal Op.maxDepth
  rw [Op.equalIn]
  simp [run_underlying hu]
theorem run_equal_slice {t e:TypeId} (hu:P.underlying t=some (.slice e)) (ad:Option Addr) (n c:Nat):(Op.equal t (.slice ad n c) (.slice none 0 0)).run P w=.ok ad.isNone w:=by
  unfold Op.equal Op.maxDepth
  rw [Op.equalIn]
  cases ad <;> simp [run_underlying hu]
theorem isAgg_row {t:TypeId} {td:TypeDesc} (hu:P.underlying t=some td) (W:World):(isAgg t).run P W=.ok td.isRow W:=by
  unfold isAgg
  simp only [Sem.run_bind,run_underlying hu,Result.andThen_ok]
  cases td <;> rfl
theorem partA_ok {t:TypeId} {cs:List AV} {off:Nat} {av:AV} {vs:Array Value} (H:partA P t cs off=some av) (hr:RelL E cs vs.toList) (h1:∀ u ∈ vs.toList,u.oneCell'=true):∃ v,Rel E av v∧∀ w,(part t vs off).run P w=.ok v w:=by
  unfold partA at H
  split at H
  · rename_i td n hu hn
    cases hrow:td.isRow
    · rw [hrow] at H
      obtain ⟨v,hv,hrel⟩:=hr.get H
      refine ⟨v,hrel,fun w=>?_⟩
      have hv':vs[off]?=some v:=by simpa using hv
      simp [part,isAgg_row hu,hrow,hv']
    · rw [hrow] at H
      cases H
      refine ⟨.agg (vs.extract off (off+n)),⟨_,rfl,?_,fun u hu'=>?_⟩,fun w=>?_⟩
      · have:(vs.extract off (off+n)).toList=(vs.toList.drop off).take n:=by simp [List.take_drop]
        rw [this]; exact (hr.drop off).take n
      · have:(vs.extract off (off+n)).toList=(vs.toList.drop off).take n:=by simp [List.take_drop]
        rw [this] at hu'
        exact h1 u (List.mem_of_mem_drop (List.mem_of_mem_take hu'))
      · simp [part,isAgg_row hu,hrow,run_sizeOf hn]
  · cases H
theorem bothB_snd (a b:Bool×Bool):(bothB a b).2=(a.2&&b.2):=by
  obtain ⟨a1,a2⟩:=a
  cases a1 <;> cases a2 <;> simp [bothB]
def EqAt (P:Program) (E:Env) (D:Nat) (eq:TypeId→AV→AV→Option (Bool×Bool)):Prop:=∀ t x y r v u,eq t x y=some r→Rel E x v→Rel E y u→∀ w,(Op.equalIn D t v u).run P w=.ok r.2 w
theorem eqFs_ok {D:Nat} {eq:TypeId→AV→AV→Option (Bool×Bool)} (he:EqAt P E D eq) {xs ys:List AV} {vs us:Array Value} (hx:RelL E xs vs.toList) (hy:RelL E ys us.toList) (hx1:∀ u ∈ vs.toList,u.oneCell'=true) (hy1:∀ u ∈ us.toList,u.oneCell'=true) (w:World) :
    ∀ (fs:List Field) (r:Bool×Bool),eqFs P eq xs ys fs=some r→(Op.eqFields D vs us fs).run P w=.ok r.2 w
  | [],r,H=>by cases H; simp [Op.eqFields]
  | f :: fs,r,H=>by
    simp only [eqFs] at H
    cases hn:decide (f.name = "_")
    · rw [hn] at H
      simp only [cond_false] at H
      split at H
      · rename_i a b ha hb
        split at H
        · rename_i p q hp hq
          cases H
          obtain ⟨v,hv,hvr⟩:=partA_ok ha hx hx1
          obtain ⟨u,hu,hur⟩:=partA_ok hb hy hy1
          have h1:=he f.type a b p v u hp hv hu w
          have h2:=eqFs_ok he hx hy hx1 hy1 w fs q hq
          rw [Op.eqFields,if_pos (of_decide_eq_false hn)]
          simp only [Sem.run_bind,hvr,hur,h1,Result.andThen_ok,bothB_snd]
          cases p.2 <;> simp [h2]
        · cases H
      · cases H
    · rw [hn] at H; cases H
theorem eqIs_ok {D:Nat} {e:TypeId} {eq:AV→AV→Option (Bool×Bool)} (he:∀ x y r v u,eq x y=some r→Rel E x v→Rel E y u→∀ w,(Op.equalIn D e v u).run P w=.ok r.2 w) {c:Nat} {xs ys:List AV} {vs us:Array Value} (hx:RelL E xs vs.toList) (hy:RelL E ys us.toList) (hx1:∀ u ∈ vs.toList,u.oneCell'=true) (hy1:∀ u ∈ us.toList,u.oneCell'=true) (w:World) :
    ∀ (is:List Nat) (r:Bool×Bool),eqIs P eq e c xs ys is=some r→(Op.eqItems D e c vs us is).run P w=.ok r.2 w
  | [],r,H=>by cases H; simp [Op.eqItems]
  | i :: is,r,H=>by
    simp only [eqIs] at H
    split at H
    · rename_i a b ha hb
      split at H
      · rename_i p q hp hq
        cases H
        obtain ⟨v,hv,hvr⟩:=partA_ok ha hx hx1
        obtain ⟨u,hu,hur⟩:=partA_ok hb hy hy1
        have h1:=he a b p v u hp hv hu w
        have h2:=eqIs_ok he hx hy hx1 hy1 w is q hq
        rw [Op.eqItems]
        simp only [Sem.run_bind,hvr,hur,h1,Result.andThen_ok,bothB_snd]
        cases p.2 <;> simp [h2]
      · cases H
    · cases H
theorem eqAV_ok:∀ (n D:Nat),n≤D→EqAt P E D (eqAV P n)
  | 0,_,_=>fun t x y r v u H _ _=>by cases H
  | n+1,0,h=>by omega
  | n+1,D+1,h=>fun t x y r v u H hx hy w=>by
    have ih:=eqAV_ok n D (by omega)
    simp only [eqAV] at H
    split at H
    · rename_i kk k1 k a k2 k' b hu
      cases hk:decide (k=k')
      · rw [hk] at H; cases H
      · rw [hk] at H
        obtain rfl:=of_decide_eq_true hk
        obtain rfl:=rel_int hx
        obtain rfl:=rel_int hy
        cases H
        exact run_equalIn_int w D t k kk a b hu
    · rename_i hu
      obtain ⟨rfl,_⟩:=hx
      obtain ⟨rfl,_⟩:=hy
      cases H
      exact run_equalIn_string w D t _ _ hu
    · rename_i hu
      obtain ⟨rfl,_⟩:=hx
      obtain ⟨rfl,_⟩:=hy
      cases H
      exact run_equalIn_bool' w D t _ _ hu
    · rename_i fs xs ys hu
      obtain ⟨vs,rfl,hx,hx1⟩:=hx
      obtain ⟨us,rfl,hy,hy1⟩:=hy
      cases hs:P.stoodInHeld t
      · rw [hs] at H
        have hf:P.fieldsOf t=fs:=by unfold Program.fieldsOf; rw [hu]
        rw [run_equalIn_struct w D t vs us (by rw [hf]; exact hu) hs,hf]
        exact eqFs_ok ih hx hy hx1 hy1 w _ _ H
      · rw [hs] at H; cases H
    · rename_i m e xs ys hu
      obtain ⟨vs,rfl,hx,hx1⟩:=hx
      obtain ⟨us,rfl,hy,hy1⟩:=hy
      split at H
      · rename_i c hc
        obtain ⟨i,hi,hi2⟩:=sizeT_info hc
        have hco:P.cellsOf e=c:=by unfold Program.cellsOf; rw [hi]; exact hi2
        rw [run_equalIn_array w D vs us hu hi,hco]
        exact eqIs_ok (fun x y r v u h=>ih e x y r v u h) hx hy hx1 hy1 w _ _ H
      · cases H
    · cases H
theorem indexA_ok {K:AV→Prop} {t:TypeId} {x i:AV} {v iv:Value} (H:(indexA P t x i).holds K) (hx:Rel E x v) (hi:Rel E i iv):∃ av u,K av∧(∀ w,(Instr.index t v iv).run P w=.ok u w)∧Rel E av u:=by
  unfold indexA at H
  split at H
  · rename_i m e cs kk n hu
    obtain ⟨vs,rfl,hx,hx1⟩:=hx
    obtain rfl:=rel_int hi
    split at H
    · rename_i k hk
      cases hd:decide (0≤n∧n<(m:Int))
      · rw [hd] at H; exact H.elim
      · rw [hd] at H
        simp only [cond_true] at H
        split at H
        · rename_i av hp
          obtain ⟨u,g1,g2⟩:=partA_ok hp hx hx1
          refine ⟨av,u,H,fun w=>?_,g1⟩
          simp only [Instr.index,asIntOf,Sem.run_bind,Sem.run_pure,Result.andThen_ok,run_underlying hu]
          rw [if_pos (of_decide_eq_true hd)]
          simp only [Sem.run_bind,run_sizeOf hk,Result.andThen_ok,g2]
        · exact H.elim
    · exact H.elim
  · rename_i k1 s k2 kk n hu
    obtain ⟨rfl,_⟩:=hx
    obtain rfl:=rel_int hi
    obtain ⟨hc,H⟩:=need_holds H
    obtain ⟨h0,h1⟩:=of_decide_eq_true hc
    refine ⟨_,_,H,fun w=>?_,rfl,rfl⟩
    have hl:n.toNat<s.size:=by omega
    have hg:s[n.toNat]?=some (s.data.getD n.toNat 0):=by
      rw [getElem?_pos s n.toNat hl]
      have hl':n.toNat<s.data.size:=hl
      unfold Array.getD
      rw [dif_pos hl']; rfl
    simp only [Instr.index,asIntOf,Sem.run_bind,Sem.run_pure,Result.andThen_ok,run_underlying hu]
    rw [if_pos h0,hg]
    rfl
  · exact H.elim
theorem fieldA_ok {K:AV→Prop} {t:TypeId} {x:AV} {f:Nat} {v:Value} (H:(fieldA P t x f).holds K) (hx:Rel E x v):∃ av u,K av∧(∀ w,(Instr.field t v f).run P w=.ok u w)∧Rel E av u:=by
  unfold fieldA at H
  split at H
  · rename_i fs cs hu
    obtain ⟨vs,rfl,hx,hx1⟩:=hx
    split at H
    · rename_i fd hf
      split at H
      · rename_i av hp
        obtain ⟨u,g1,g2⟩:=partA_ok hp hx hx1
        refine ⟨av,u,H,fun w=>?_,g1⟩
        simp [Instr.field,run_underlying hu,hf,asAgg,g2]
      · exact H.elim
    · exact H.elim
  · exact H.elim
theorem binA_ok {K:AV→Prop} {op:BinOp} {t:TypeId} {x y:AV} {v u:Value} {ox oy:Operand} (H:(binA P op t x y).holds K) (hx:Rel E x v) (hy:Rel E y u) :
    ∃ av r,K av∧(∀ w,(do eqGuard op t ox oy v u; binOp op t v u:Sem Value).run P w=.ok r w)∧Rel E av r:=by
  have fin:(∀ cs,v≠.agg cs)∧v≠.nilIface→(∃ av r,K av∧(∀ w,(binOp op t v u).run P w=.ok r w)∧Rel E av r)→∃ av r,K av∧(∀ w,(do eqGuard op t ox oy v u; binOp op t v u:Sem Value).run P w=.ok r w)∧Rel E av r:=by
    rintro hp ⟨av,r,h1,h2,h3⟩
    exact ⟨av,r,h1,fun w=>by simp only [Sem.run_bind,run_guard_sc hp,Result.andThen_ok,h2],h3⟩
  unfold binA at H
  split at H
  · obtain rfl:=rel_int hx
    obtain rfl:=rel_int hy
    refine fin (by simp) ?_
    split at H
    · obtain ⟨hc,H⟩:=need_holds H
      have hc':=of_decide_eq_true hc
      refine ⟨_,_,H,fun w=>?_,rfl,rfl⟩
      simp only [binOp,Op.shift]
      rw [if_neg (by omega)]
      rfl
    · obtain ⟨hc,H⟩:=need_holds H
      have hc':=of_decide_eq_true hc
      refine ⟨_,_,H,fun w=>?_,rfl,rfl⟩
      simp only [binOp,Op.shift]
      rw [if_neg (by omega)]
      rfl
    · rename_i _ k p _ k' q _ h1 h2
      cases hk:decide (k=k')
      · rw [hk] at H; exact H.elim
      · rw [hk] at H
        obtain rfl:=of_decide_eq_true hk
        exact intOp_ok t ⟨fun e=>h1 e,fun e=>h2 e⟩ H
  · obtain ⟨rfl,_⟩:=hx
    obtain ⟨rfl,_⟩:=hy
    exact fin (by simp) (strOp_ok t H)
  · obtain ⟨rfl,_⟩:=hx
    obtain ⟨rfl,_⟩:=hy
    refine fin (by simp) ?_
    split at H
    · rename_i hu
      split at H
      · exact ⟨_,_,H,fun w=>by simp [binOp,run_equal_bool hu],rfl,rfl⟩
      · exact ⟨_,_,H,fun w=>by simp [binOp,run_equal_bool hu],rfl,rfl⟩
      · exact H.elim
    · exact H.elim
  · obtain ⟨rfl,_⟩:=hx
    obtain ⟨rfl,_⟩:=hy
    refine fin (by simp) ?_
    split at H
    · rename_i hu
      exact ⟨_,_,H,fun w=>by simp [binOp,run_equal_nilf hu],rfl,rfl⟩
    · rename_i hu
      exact ⟨_,_,H,fun w=>by simp [binOp,run_equal_nilf hu],rfl,rfl⟩
    · exact H.elim
  · rename_i kn es d tip _
    obtain ⟨⟨_,ad,cap,rfl,g1,g2,g3,g4⟩,_⟩:=hx
    obtain ⟨rfl,_⟩:=hy
    refine fin (by simp) ?_
    have hnn:d.len≠0→ad.isNone=false:=fun h0=>by
      obtain ⟨b,o,rfl,_⟩:=g4 h0
      rfl
    split at H
    · rename_i hu
      rcases brk_holds H with ⟨_,H⟩ | ⟨h0,H⟩
      · cases hb:ad.isNone
        · exact ⟨_,.bool false,H.2,fun w=>by simp [binOp,run_equal_slice hu,hb],rfl,rfl⟩
        · exact ⟨_,.bool true,H.1,fun w=>by simp [binOp,run_equal_slice hu,hb],rfl,rfl⟩
      · have hb:=hnn (of_decide_eq_false h0)
        exact ⟨_,.bool false,H,fun w=>by simp [binOp,run_equal_slice hu,hb],rfl,rfl⟩
    · rename_i hu
      rcases brk_holds H with ⟨_,H⟩ | ⟨h0,H⟩
      · cases hb:ad.isNone
        · exact ⟨_,.bool true,H.2,fun w=>by simp [binOp,run_equal_slice hu,hb],rfl,rfl⟩
        · exact ⟨_,.bool false,H.1,fun w=>by simp [binOp,run_equal_slice hu,hb],rfl,rfl⟩
      · have hb:=hnn (of_decide_eq_false h0)
        exact ⟨_,.bool true,H,fun w=>by simp [binOp,run_equal_slice hu,hb],rfl,rfl⟩
    · exact H.elim
  · obtain ⟨rfl,_⟩:=hx
    obtain ⟨rfl,_⟩:=hy
    refine fin (by simp) ?_
    split at H
    · rename_i hu
      exact ⟨_,_,H,fun w=>by simp [binOp,run_equal_slice hu],rfl,rfl⟩
    · rename_i hu
      exact ⟨_,_,H,fun w=>by simp [binOp,run_equal_slice hu],rfl,rfl⟩
    · exact H.elim
  · obtain ⟨vs,rfl,hx2,hx1⟩:=hx
    obtain ⟨us,rfl,hy2,hy1⟩:=hy
    cases hg:P.eqGuardType P.depth t
    · rw [hg] at H
      simp only [cond_false] at H
      split at H
      · rename_i kn r hr
        have:=fun w=>eqAV_ok (P:=P) (E:=E) 16 10000 (by omega) t _ _ _ _ _ hr ⟨vs,rfl,hx2,hx1⟩ ⟨us,rfl,hy2,hy1⟩ w
        refine ⟨_,.bool r,H,fun w=>?_,rfl,rfl⟩
        simp only [Sem.run_bind,run_eqGuard_agg w _ t _ _ vs us hg,Result.andThen_ok,binOp,Op.equal,Op.maxDepth,this,Sem.run_pure]
      · rename_i kn r hr
        have:=fun w=>eqAV_ok (P:=P) (E:=E) 16 10000 (by omega) t _ _ _ _ _ hr ⟨vs,rfl,hx2,hx1⟩ ⟨us,rfl,hy2,hy1⟩ w
        refine ⟨_,.bool (!r),H,fun w=>?_,rfl,rfl⟩
        simp only [Sem.run_bind,run_eqGuard_agg w _ t _ _ vs us hg,Result.andThen_ok,binOp,Op.equal,Op.maxDepth,this,Sem.run_pure]
      · exact H.elim
    · rw [hg] at H; exact H.elim
  · obtain ⟨_,_,rfl,_⟩:=hx
    obtain ⟨rfl,_⟩:=hy
    refine fin (by simp) ?_
    split at H
    · rename_i hu
      exact ⟨_,_,H,fun w=>by simp [binOp,run_equal_fn hu],rfl,rfl⟩
    · rename_i hu
      exact ⟨_,_,H,fun w=>by simp [binOp,run_equal_fn hu],rfl,rfl⟩
    · exact H.elim
  · exact H.elim
theorem unA_ok {K:AV→Prop} {op:UnOp} {x:AV} {v:Value} (H:(unA op x).holds K) (hx:Rel E x v):∃ av r,K av∧(∀ w,(Op.unary op v).run P w=.ok r w)∧Rel E av r:=by
  unfold unA at H
  split at H
  · obtain ⟨rfl,_⟩:=hx
    exact ⟨_,_,H,fun w=>by simp [Op.unary],rfl,rfl⟩
  · obtain ⟨rfl,_⟩:=hx
    exact ⟨_,_,H,fun w=>by simp [Op.unary,Op.intArith],rfl,rfl⟩
  · exact H.elim
theorem minA_ok {K:AV→Prop} {l:List Operand} {ts:Array TypeId} {ty:TypeId} (hT:RelT E F a) (H:(minA (l.map (opnd F))).holds K):∃ av r,K av∧(∀ w,(Builtin.min_ ts ty (l.map a.eval).toArray).run P w=.ok r w)∧Rel E av r:=by
  unfold minA at H
  split at H
  · rename_i k1 k p k2 k' q hl
    match l,hl with
    | [x,y],hl =>
      simp only [List.map_cons,List.map_nil,List.cons.injEq,and_true] at hl
      have h1:=rel_opnd hT x
      have h2:=rel_opnd hT y
      rw [hl.1] at h1
      rw [hl.2] at h2
      exact ⟨_,_,H,fun w=>by simp [Builtin.min_,h1.1,h2.1,List.foldlM,Builtin.min2,imin],rfl,rfl⟩
    | [],hl=>simp at hl
    | [_],hl=>simp at hl
    | _ :: _ :: _ :: _,hl=>simp at hl
  · exact H.elim
theorem maxA_ok {K:AV→Prop} {l:List Operand} {ts:Array TypeId} {ty:TypeId} (hT:RelT E F a) (H:(maxA (l.map (opnd F))).holds K):∃ av r,K av∧(∀ w,(Builtin.max_ ts ty (l.map a.eval).toArray).run P w=.ok r w)∧Rel E av r:=by
  unfold maxA at H
  split at H
  · rename_i k1 k p k2 k' q hl
    match l,hl with
    | [x,y],hl =>
      simp only [List.map_cons,List.map_nil,List.cons.injEq,and_true] at hl
      have h1:=rel_opnd hT x
      have h2:=rel_opnd hT y
      rw [hl.1] at h1
      rw [hl.2] at h2
      exact ⟨_,_,H,fun w=>by simp [Builtin.max_,h1.1,h2.1,List.foldlM,Builtin.max2,imax],rfl,rfl⟩
    | [],hl=>simp at hl
    | [_],hl=>simp at hl
    | _ :: _ :: _ :: _,hl=>simp at hl
  · exact H.elim
theorem foldl_sets:∀ (new:List Value) (cells:Array Value) (off j:Nat),off+j+new.length≤cells.size →
    ((new.zipIdx j).foldl (fun cs (p:Value×Nat)=>cs.setIfInBounds (off+p.2) p.1) cells).toList=cells.toList.take (off+j) ++ new ++ cells.toList.drop (off+j+new.length)
  | [],cells,off,j,_=>by simp
  | v :: new,cells,off,j,h=>by
    simp only [List.length_cons] at h
    rw [List.zipIdx_cons,List.foldl_cons,foldl_sets new _ off (j+1) (by simp; omega)]
    simp only [Array.toList_setIfInBounds]
    rw [show off+(j+1)=off+j+1 by omega,List.take_add_one,List.take_set_of_le (by omega),List.getElem?_set_self (by simp; omega),List.drop_set_of_lt (by omega)]
    simp only [List.length_cons,Option.toList_some,List.append_assoc,List.cons_append,List.nil_append]
    rw [show off+j+1+new.length=off+j+(new.length+1) by omega]
theorem fill_step {cells new:Array Value} {off:Nat} (h:off+new.size≤cells.size) :
    (new.zipIdx.foldl (fun cs (p:Value×Nat)=>cs.setIfInBounds (off+p.2) p.1) cells).toList=cells.toList.take off ++ new.toList ++ cells.toList.drop (off+new.size):=by
  rw [← Array.foldl_toList,Array.toList_zipIdx]
  have:=foldl_sets new.toList cells off 0 (by simpa using h)
  simpa using this
theorem fillA_ok {place:Nat→Option (Nat×Nat)}:∀ {parts:List (Nat×AV)} {vs:List (Nat×Value)} {cs out:List AV} {cells:Array Value},
    fillA place cs parts=some out→RelL E cs cells.toList→(∀ u ∈ cells.toList,u.oneCell'=true)→parts.length=vs.length→(∀ (i:Nat) (p:Nat×AV) (q:Nat×Value),parts[i]?=some p→vs[i]?=some q→p.1=q.1∧Rel E p.2 q.2) →
    ∃ r,Instr.fill place cells vs=some r∧RelL E out r.toList∧(∀ u ∈ r.toList,u.oneCell'=true)∧r.size=cells.size
  | [],vs,cs,out,cells,hf,hr,h1,hl,_=>by
    simp only [fillA] at hf
    cases hf
    obtain rfl:vs=[]:=by simpa using hl.symm
    exact ⟨cells,rfl,hr,h1,rfl⟩
  | (i,x) :: parts,[],_,_,_,_,_,_,hl,_=>by simp at hl
  | (i,x) :: parts,(i',v) :: vs,cs,out,cells,hf,hr,h1,hl,hp=>by
    obtain ⟨rfl,hx⟩:i=i'∧Rel E x v:=hp 0 _ _ rfl rfl
    simp only [fillA] at hf
    split at hf
    · rename_i off n new hpl hc
      cases hb:Nat.beq new.length n&&Nat.ble (off+n) cs.length
      · rw [hb] at hf; cases hf
      · rw [hb] at hf
        simp only [Bool.and_eq_true,cond_true] at hb hf
        obtain rfl:=Nat.eq_of_beq_eq_true hb.1
        have hle:=Nat.le_of_ble_eq_true hb.2
        obtain ⟨g1,g2⟩:=rel_cells hx hc
        have l1:new.length=v.cells.size:=by have:=g1.length; simpa using this
        have l2:cs.length=cells.size:=by have:=hr.length; simpa using this
        have hfit:off+v.cells.size≤cells.size:=by omega
        have hstep:=fill_step (cells:=cells) (new:=v.cells) hfit
        obtain ⟨r,e1,e2,e3,e4⟩:=fillA_ok (parts:=parts) (vs:=vs) (cells:=v.cells.zipIdx.foldl (fun cs (p:Value×Nat)=>cs.setIfInBounds (off+p.2) p.1) cells) hf
          (by rw [hstep]; have:=((hr.take off).append g1).append (hr.drop (off+new.length)); rw [l1] at this ⊢; exact this)
          (by
            rw [hstep]
            intro u hu
            simp only [List.mem_append] at hu
            rcases hu with (hu | hu) | hu
            · exact h1 u (List.mem_of_mem_take hu)
            · exact g2 u hu
            · exact h1 u (List.mem_of_mem_drop hu))
          (by simpa using hl) (fun j p q hj hq=>hp (j+1) p q (by simpa using hj) (by simpa using hq))
        have hsz:(v.cells.zipIdx.foldl (fun cs (p:Value×Nat)=>cs.setIfInBounds (off+p.2) p.1) cells).size=cells.size:=by
          rw [← Array.length_toList,hstep]
          simp only [List.length_append,List.length_take,List.length_drop,Array.length_toList]; omega
        refine ⟨r,?_,e2,e3,e4.trans hsz⟩
        unfold Instr.fill
        simp only [hpl]
        rw [if_neg (by simp [l1]; omega)]
        exact e1
    · cases hf
theorem rel_parts {ps:List (Nat×Operand)} (hT:RelT E F a) (i:Nat) (p:Nat×AV) (q:Nat×Value) (h1:(ps.map fun p=>(p.1,opnd F p.2))[i]?=some p) (h2:(ps.map fun p=>(p.1,a.eval p.2))[i]?=some q):p.1=q.1∧Rel E p.2 q.2:=by
  rw [List.getElem?_map] at h1 h2
  cases hp:ps[i]? with
  | none=>rw [hp] at h1; cases h1
  | some x=>rw [hp] at h1 h2; cases h1; cases h2; exact ⟨rfl,rel_opnd hT _⟩
theorem zeroA_ok {t:TypeId} {cs:List AV} (hz:zeroA P t=some cs):∃ z,(∀ w,(zeroValue t).run P w=.ok z w)∧(∃ i,P.info? t=some i∧i.zero=some z)∧RelL E cs z.cells.toList∧∀ u ∈ z.cells.toList,u.oneCell'=true:=by
  unfold zeroA at hz
  split at hz
  · rename_i z hz'
    cases hi:P.info? t with
    | none=>rw [hi] at hz'; cases hz'
    | some i =>
      rw [hi] at hz'
      have hz'':i.zero=some z:=hz'
      obtain ⟨g1,g2⟩:=rel_cells (E:=E) (rel_const z) hz
      exact ⟨z,fun w=>by simp [zeroValue,typeInfo,hi,hz''],⟨i,rfl,hz''⟩,g1,g2⟩
  · cases hz
theorem run_places:∀ {fs:List Field},(∀ f ∈ fs,∃ n,sizeT P f.type=some n)→(fs.mapM (m:=Sem) fun f=>do pure (f.offset,← sizeOf f.type)).run P w=.ok (fs.map fun f=>(f.offset,(sizeT P f.type).getD 0)) w
  | [],_=>rfl
  | f :: fs,h=>by
    obtain ⟨n,hn⟩:=h f (by simp)
    have ih:=run_places (fs:=fs) fun f hf=>h f (List.mem_cons_of_mem _ hf)
    simp only [List.mapM_cons,Sem.run_bind,run_sizeOf hn,Result.andThen_ok,Sem.run_pure,List.map_cons,hn,Option.getD_some]
    rw [ih]
    rfl
theorem fill_congr {p q:Nat→Option (Nat×Nat)}:∀ {vs:List (Nat×Value)} {cells:Array Value},(∀ v ∈ vs,p v.1=q v.1)→Instr.fill p cells vs=Instr.fill q cells vs
  | [],_,_=>rfl
  | (i,v) :: vs,cells,h=>by
    have h0:=h (i,v) (by simp)
    simp only at h0
    unfold Instr.fill
    rw [h0]
    split
    · rfl
    · split
      · rfl
      · exact fill_congr fun v hv=>h v (by simp [hv])
theorem fillA_places {place:Nat→Option (Nat×Nat)}:∀ {parts:List (Nat×AV)} {cs out:List AV},fillA place cs parts=some out→∀ p ∈ parts,(place p.1).isSome=true
  | [],_,_,_,_,hp=>by simp at hp
  | (i,x) :: parts,cs,out,hf,p,hp=>by
    simp only [fillA] at hf
    split at hf
    · rename_i off n new hpl hc
      cases hb:Nat.beq new.length n&&Nat.ble (off+n) cs.length
      · rw [hb] at hf; cases hf
      · rw [hb] at hf
        rcases List.mem_cons.1 hp with rfl | hp
        · simp [hpl]
        · exact fillA_places hf p hp
    · cases hf
theorem buildA_ok {K:AV→Prop} {t:TypeId} {ps:Array (Nat×Operand)} {vps:Array (Nat×Value)} (hps:vps.toList=ps.toList.map fun p=>(p.1,a.eval p.2)) (hT:RelT E F a) (H:(buildA P t (ps.toList.map fun p=>(p.1,opnd F p.2))).holds K) :
    ∃ av u,K av∧(∀ w,(Instr.build t vps).run P w=.ok u w)∧Rel E av u:=by
  unfold buildA at H
  split at H
  · exact H.elim
  rename_i z hz
  obtain ⟨zv,hzr,_,g1,g2⟩:=zeroA_ok (E:=E) hz
  split at H
  · rename_i fs hu
    cases hall:fs.toList.all (fun f=>(sizeT P f.type).isSome)
    · rw [hall] at H; exact H.elim
    rw [hall] at H
    simp only [cond_true] at H
    have hall':∀ f ∈ fs.toList,∃ n,sizeT P f.type=some n:=fun f hf=>Option.isSome_iff_exists.1 (List.all_eq_true.1 hall f hf)
    split at H
    · rename_i cs hf
      obtain ⟨r,e1,e2,e3,_⟩:=fillA_ok (vs:=ps.toList.map fun p=>(p.1,a.eval p.2)) hf g1 g2 (by simp) (fun i p q=>rel_parts hT i p q)
      refine ⟨_,.agg r,H,fun w=>?_,r,rfl,e2,e3⟩
      have hpl:=run_places (P:=P) (w:=w) hall'
      have hm:(fs.mapM (m:=Sem) fun f=>do pure (f.offset,← sizeOf f.type)).run P w=.ok (fs.map fun f=>(f.offset,(sizeT P f.type).getD 0)) w:=by
        rw [Array.mapM_eq_mapM_toList]
        show (List.mapM (m:=Sem) (fun f:Field=>do pure (f.offset,← sizeOf f.type)) fs.toList >>= fun l=>pure l.toArray:Sem _).run P w=_
        rw [Sem.run_bind,hpl]
        simp only [Result.andThen_ok,Sem.run_pure]
        congr 1
        apply Array.ext'
        simp
      have hfe:Instr.fill ((fs.map fun f=>(f.offset,(sizeT P f.type).getD 0))[·]?) zv.cells vps.toList=some r:=by
        rw [hps,← e1]
        refine fill_congr fun v hv=>?_
        obtain ⟨q,hq,rfl⟩:=List.mem_map.1 hv
        have hs:=fillA_places hf (q.1,opnd F q.2) (List.mem_map.2 ⟨q,hq,rfl⟩)
        unfold fieldsA at hs ⊢
        simp only [Array.getElem?_map]
        cases hfi:fs[q.1]? with
        | none=>rw [hfi] at hs; cases hs
        | some f =>
          obtain ⟨n,hn⟩:=hall' f (by simpa using Array.mem_of_getElem? hfi)
          simp [hn]
      simp only [Instr.build,Sem.run_bind,hzr,Result.andThen_ok,run_underlying hu,hm,hfe,Sem.run_pure]
    · exact H.elim
  · rename_i m e hu
    split at H
    · rename_i n hn
      split at H
      · rename_i cs hf
        obtain ⟨r,e1,e2,e3,_⟩:=fillA_ok (vs:=ps.toList.map fun p=>(p.1,a.eval p.2)) hf g1 g2 (by simp) (fun i p q=>rel_parts hT i p q)
        refine ⟨_,.agg r,H,fun w=>?_,r,rfl,e2,e3⟩
        rw [← hps] at e1
        simp only [Instr.build,Sem.run_bind,hzr,Result.andThen_ok,run_underlying hu,run_sizeOf hn,e1,Sem.run_pure]
      · exact H.elim
    · exact H.elim
  · exact H.elim
end
end
end Go.Proofs.YtbgmclbcjdbcmaaGreat
namespace Go.Proofs.YtbgmclbcjdbcmaaGreat
set_option linter.unusedSimpArgs false
set_option linter.unusedVariables false
open Go.RowKit
set_option maxRecDepth 10000
noncomputable section
def Unch (E:Env) (h h':Hp) (w w':World):Prop:=∀ o,E.live o→ver o h≤ver o h'∧(ver o h'=ver o h→w'.heap[E.β o]?=w.heap[E.β o]?)
structure Stepd (P:Program) (w0:World) (G:Nat→Prop) (E:Env) (h:Hp) (w:World) (E':Env) (h':Hp) (w':World):Prop where
  ext:Ext E E'
  inv:Inv P w0 G E' h' w'
  un:Unch E h h' w w'
  zn:∀ b j v,E'.Z b j=some v→E.Z b j=some v∨w0.heap.size≤b∨G b
theorem Unch.refl (E:Env) (h:Hp) (w:World):Unch E h h w w:=fun _ _=>⟨Nat.le_refl _,fun _=>rfl⟩
theorem Unch.trans {E E1:Env} {h h1 h2:Hp} {w w1 w2:World} (a:Unch E h h1 w w1) (hx:Ext E E1) (b:Unch E1 h1 h2 w1 w2):Unch E h h2 w w2:=fun o ho=>by
  obtain ⟨a1,a2⟩:=a o ho
  obtain ⟨b1,b2⟩:=b o (hx.live o ho)
  rw [hx.β o ho] at b2
  exact ⟨Nat.le_trans a1 b1,fun e=>(b2 (by omega)).trans (a2 (by omega))⟩
theorem Stepd.trans {P:Program} {w0:World} {G:Nat→Prop} {E E1 E2:Env} {h h1 h2:Hp} {w w1 w2:World} (a:Stepd P w0 G E h w E1 h1 w1) (b:Stepd P w0 G E1 h1 w1 E2 h2 w2):Stepd P w0 G E h w E2 h2 w2 :=
  ⟨a.ext.trans b.ext,b.inv,a.un.trans a.ext b.un,fun p j v hz=>by
    rcases b.zn p j v hz with h | h
    · exact a.zn p j v h
    · exact .inr h⟩
theorem Stepd.refl {P:Program} {w0:World} {G:Nat→Prop} {E:Env} {h:Hp} {w:World} (I:Inv P w0 G E h w):Stepd P w0 G E h w E h w:=⟨Ext.refl E,I,Unch.refl E h w,fun _ _ _ hz=>.inl hz⟩
theorem Kpt.then {w0 w w':World} {G S:Nat→Prop} (a:Kpt w0 w G) (b:Kpt w w' S) (hS:∀ k,S k→w0.heap.size≤k∨G k):Kpt w0 w' G :=
  ⟨b.os.trans a.os,b.tape.trans a.tape,b.output.trans a.output,Nat.le_trans a.size b.size,fun k hk hn=>(b.block k (Nat.lt_of_lt_of_le hk a.size) (fun hs=>by
    rcases hS k hs with h | h
    · omega
    · exact hn h)).trans (a.block k hk hn)⟩
theorem alloc_old {w:World} {k:Nat} (x:Obj) (hk:k<w.heap.size):(w.alloc x).heap[k]?=w.heap[k]?:=by
  show (w.heap.push x)[k]?=_
  rw [Array.getElem?_push,if_neg (by omega)]
theorem owns_same {w w':World} {e sz n:Nat} {v:Value} {xs:List Value} (h:w.ownsRow 0 e sz v n xs) (hb:∀ b,v.ownBlock=some b→w'.heap[b]?=w.heap[b]?):w'.ownsRow 0 e sz v n xs:=by
  refine ⟨h.1,?_⟩
  rcases h.2 with h2 | ⟨g,cap,cur,rfl,h0,hg,r⟩
  · exact .inl h2
  · exact .inr ⟨g,cap,cur,rfl,h0,(hb g rfl).trans hg,r⟩
theorem owns_lt {w:World} {e sz n b:Nat} {v:Value} {xs:List Value} (h:w.ownsRow 0 e sz v n xs) (hb:v.ownBlock=some b):b<w.heap.size:=by
  rcases h.2 with ⟨rfl,_⟩ | ⟨g,cap,cur,rfl,h0,hg,r⟩
  · cases hb
  · cases hb; exact (Array.getElem?_eq_some_iff.1 hg).1
theorem cell_lt {w:World} {b j:Nat} {v:Value} (h:w.cell? ⟨b,j,none⟩=some v):b<w.heap.size:=World.block_lt_of_cell? w ⟨b,j,none⟩ h
theorem cell_same {w w':World} {b j:Nat} (h:w'.heap[b]?=w.heap[b]?):w'.cell? ⟨b,j,none⟩=w.cell? ⟨b,j,none⟩:=World.cell?_of_block h
section
variable {P:Program} {E:Env} {F:Tm} {h:Hp} {w w0:World} {G:Nat→Prop} {a:Act}
theorem Inv.live_lt (I:Inv P w0 G E h w) {o:Nat} (ho:E.live o):E.β o<w.heap.size:=by
  obtain ⟨cs,hcs⟩:=Option.isSome_iff_exists.1 ((I.live o).1 ho)
  obtain ⟨vs,t,hb,_⟩:=I.ob o cs hcs
  exact (Array.getElem?_eq_some_iff.1 hb).1
theorem Inv.z_fresh (I:Inv P w0 G E h w) {b:Nat} (hb:w.heap.size≤b) (j:Nat):E.Z b j=none:=by
  cases hz:E.Z b j with
  | none=>rfl
  | some v=>have:=cell_lt (I.z b j v hz); omega
theorem lookO_cons {o k:Nat} {cs:List AV} {l:List (Nat×List AV)}:lookO o ((k,cs) :: l)=if k=o then some cs else lookO o l:=by
  simp only [lookO_con]
  by_cases e:k=o
  · subst e; simp
  · have:Nat.beq k o=false:=by cases hb:Nat.beq k o; rfl; exact absurd (Nat.eq_of_beq_eq_true hb) e
    simp [this,e]
theorem lookG_cons {o k:Nat} {g:Nat×TypeId} {l:List (Nat×Nat×TypeId)}:lookG o ((k,g) :: l)=if k=o then some g else lookG o l:=by
  simp only [lookG_con]
  by_cases e:k=o
  · subst e; simp
  · have:Nat.beq k o=false:=by cases hb:Nat.beq k o; rfl; exact absurd (Nat.eq_of_beq_eq_true hb) e
    simp [this,e]
theorem cnt_cons {o k:Nat} {cs:List AV} {l:List (Nat×List AV)}:cnt o ((k,cs) :: l)=if k=o then cnt o l+1 else cnt o l:=by
  simp only [cnt_con]
  by_cases e:k=o
  · subst e; simp
  · have:Nat.beq k o=false:=by cases hb:Nat.beq k o; rfl; exact absurd (Nat.eq_of_beq_eq_true hb) e
    simp [this,e]
theorem Inv.put (I:Inv P w0 G E h w) {o:Nat} {cs cs':List AV} (ho:lookO o h.ob=some cs) {w':World} (hk:Kpt w w' (fun k=>k=E.β o)) {vs':List Value} {t:Obj} (hb:w'.heap[E.β o]?=some t)
    (hr:RelL E cs' vs') (h1:ObOk t vs'):Stepd P w0 G E h w E { h with ob:=(o,cs') :: h.ob } w':=by
  have hlo:E.live o:=(I.live o).2 (by rw [ho]; rfl)
  have hother:∀ k,k<w.heap.size→k≠E.β o→w'.heap[k]?=w.heap[k]?:=fun k hk1 hne=>hk.block k hk1 hne
  refine ⟨Ext.refl E,⟨I.kpt.then hk (by rintro k rfl; exact I.own o hlo),I.m,I.ng,I.gn,I.gnlt,fun p=>?_,I.nx,fun p cp hp=>?_,I.own,I.inj,fun b j v hz=>?_,I.zob,fun k hkn=>?_,I.vinj⟩,fun p hp=>?_,fun _ _ _ hz=>.inl hz⟩
  · rw [lookO_cons]
    split
    · rename_i e; subst e; simp [hlo]
    · exact I.live p
  · rw [lookO_cons] at hp
    split at hp
    · rename_i e; subst e; cases hp; exact ⟨vs',t,hb,hr,h1⟩
    · rename_i e
      obtain ⟨vs,t',g1,g2,g3⟩:=I.ob p cp hp
      have hlp:E.live p:=(I.live p).2 (by rw [hp]; rfl)
      exact ⟨vs,t',(hother _ (I.live_lt hlp) (fun e'=>e (I.inj _ _ hlo hlp e'.symm))).trans g1,g2,g3⟩
  · have hne:b≠E.β o:=fun e=>by rw [e,I.zob o j hlo] at hz; cases hz
    have hc:=I.z b j v hz
    rw [cell_same (hother b (cell_lt hc) hne)]; exact hc
  · obtain ⟨sz,n,xs,g1,g2,g3,g4⟩:=I.vec k hkn
    exact ⟨sz,n,xs,g1,owns_same g2 fun b hb'=>hother b (owns_lt g2 hb') fun e=>(g4 b hb').2.1 o hlo e.symm,g3,g4⟩
  · simp only [ver,cnt_cons]
    split
    · exact ⟨by omega,fun e=>by omega⟩
    · rename_i e
      exact ⟨Nat.le_refl _,fun _=>hother _ (I.live_lt hp) fun e'=>e (I.inj _ _ hlo hp e'.symm)⟩
theorem toK {α:Type} (f:D→α) {x:α} (kn:Bool) {d e:D} (h1:x=f d) (h2:x=f e):x=f (bif kn then d else e):=by cases kn <;> assumption
theorem confA_ok {s:Sh} {x:AV} {d:D} {v:Value} (hc:confA s x=some d) (hr:Rel E x v):LF E.Z s v d:=by
  unfold confA at hc
  split at hc
  · rename_i k _ k' n
    cases hk:decide (k=k')
    · rw [hk] at hc; cases hc
    · rw [hk] at hc
      cases hc
      obtain rfl:=of_decide_eq_true hk
      exact hr.1.trans (congrArg _ (toK _ _ rfl rfl))
  · cases hc; exact hr.1.trans (congrArg _ (toK _ _ rfl rfl))
  · cases hc; exact hr.1.trans (congrArg _ (toK _ _ rfl rfl))
  · rename_i es _ es' d' _
    cases hk:Sh.eqsL es es'
    · rw [hk] at hc; cases hc
    · rw [hk] at hc
      cases hc
      obtain rfl:=Sh.eqsL_eq _ _ hk
      obtain ⟨g0,ad,cap,g1,g2,g3,g4,g5⟩:=hr.1
      refine ⟨by rw [D.mkK_len]; exact g0,ad,cap,by rw [D.mkK_len]; exact g1,by rw [D.mkK_len]; exact g2,g3,g4,fun hn=>?_⟩
      rw [D.mkK_len] at hn
      obtain ⟨b,o,g6,g7⟩:=g5 hn
      refine ⟨b,o,g6,fun i hi=>?_⟩
      rw [D.mkK_len] at hi
      rw [D.mkK_get]; exact g7 i hi
  · cases hc
    obtain ⟨rfl,_⟩:=hr
    exact ⟨by simp [D.len,D.toL,D.raw],none,0,rfl,Nat.le_refl _,Nat.zero_le _,fun _=>rfl,fun hn=>absurd (by simp [D.len,D.toL,D.raw]) hn⟩
  · cases hc
theorem toL_l {ds:List D} (h:ds.length≤maxLen):(D.l ds).toL=ds:=List.take_of_length_le h
theorem setE_toL (d:D) (i:Nat) (e:D):(d.setE i e).toL=d.toL.set i e:=toL_l (by rw [List.length_set]; exact d.len_le)
theorem setE_len (d:D) (i:Nat) (e:D):(d.setE i e).len=d.len:=by unfold D.len; rw [setE_toL,List.length_set]
theorem setE_get {d:D} {i:Nat} {e:D} (hi:i<d.len) (q:Nat):(d.setE i e).get q=if q=i then e else d.get q:=by
  unfold D.get
  rw [setE_toL,List.getD_eq_getElem?_getD,List.getElem?_set,List.getD_eq_getElem?_getD]
  by_cases h:q=i
  · subst h
    have:q<d.toL.length:=hi
    simp [this]
  · rw [if_neg (Ne.symm h),if_neg h]
theorem re_iff {Z:Nat→Nat→Option Value} {cs:Array Value}:∀ {es:List Sh} {p:Nat} {d:D} {j:Nat},RE Z es cs p d j ↔ ∀ k s,es[k]?=some s→∃ v,cs[p+k]?=some v∧LF Z s v (d.cell (j+k))
  | [],p,d,j=>by simp [RE]
  | s :: es,p,d,j=>by
    constructor
    · rintro ⟨h1,h2⟩ k s' hk
      cases k with
      | zero=>cases hk; exact h1
      | succ k =>
        have:=re_iff.1 h2 k s' (by simpa using hk)
        rwa [show p+1+k=p+(k+1) by omega,show j+1+k=j+(k+1) by omega] at this
    · intro h
      refine ⟨h 0 s rfl,re_iff.2 fun k s' hk=>?_⟩
      have:=h (k+1) s' (by simpa using hk)
      rwa [show p+(k+1)=p+1+k by omega,show j+(k+1)=j+1+k by omega] at this
theorem confL_at:∀ {ss:List Sh} {xs:List AV} {ds:List D} {vs:List Value},confL ss xs=some ds→RelL E xs vs→ds.length=ss.length∧∀ k s,ss[k]?=some s→∃ v,vs[k]?=some v∧LF E.Z s v (ds.getD k .n)
  | [],[],ds,_,hc,_=>by simp only [confL] at hc; cases hc; simp
  | s :: ss,x :: xs,ds,vs,hc,hr=>by
    simp only [confL] at hc
    split at hc
    · rename_i d ds' h1 h2
      cases hc
      obtain ⟨v,vs',rfl,g1,g2⟩:=hr
      obtain ⟨h3,h4⟩:=confL_at h2 g2
      refine ⟨by simp [h3],fun k s' hk=>?_⟩
      cases k with
      | zero=>cases hk; exact ⟨v,rfl,confA_ok h1 g1⟩
      | succ k=>simpa using h4 k s' (by simpa using hk)
    · cases hc
  | [],_ :: _,_,_,hc,_=>by simp [confL] at hc
  | _ :: _,[],_,_,hc,_=>by simp [confL] at hc
theorem putC_ge {e:D} {j:Nat}:∀ {es:List Sh} {ds:List D} {k m:Nat},j≤k→m<es.length→(putC es k j ds e).getD m .n=if m<ds.length then ds.getD m .n else e.cell (k+m)
  | [],_,k,m,_,h=>by simp at h
  | s :: es,[],k,m,hj,h=>by
    cases m with
    | zero=>simp [putC]
    | succ m =>
      simp only [putC,List.getD_cons_succ]
      rw [putC_ge (by omega) (by simpa using h)]
      simp only [List.length_nil,Nat.not_lt_zero,if_false]
      rw [show k+1+m=k+(m+1) by omega]
  | s :: es,x :: r,k,m,hj,h=>by
    have e1:Nat.ble j k=true:=Nat.ble_eq_true_of_le hj
    simp only [putC,e1,cond_true]
    cases m with
    | zero=>simp
    | succ m =>
      simp only [List.getD_cons_succ]
      rw [putC_ge (by omega) (by simpa using h),show k+1+m=k+(m+1) by omega]
      simp only [List.length_cons,Nat.add_lt_add_iff_right]
theorem putC_get {e:D} {j:Nat}:∀ {es:List Sh} {ds:List D} {k m:Nat},k≤j→m<es.length→(putC es k j ds e).getD m .n=if j≤k+m∧k+m<j+ds.length then ds.getD (k+m - j) .n else e.cell (k+m)
  | es,ds,k,m,hk,h=>by
    by_cases hkj:k=j
    · subst hkj
      rw [putC_ge (Nat.le_refl _) h]
      by_cases hm:m<ds.length
      · rw [if_pos hm,if_pos (by omega),show k+m - k=m by omega]
      · rw [if_neg hm,if_neg (by omega)]
    · match es,h with
      | s :: es,h =>
        have e1:Nat.ble j k=false:=by
          cases hb:Nat.ble j k
          · rfl
          · have:=Nat.le_of_ble_eq_true hb; omega
        have hp:putC (s :: es) k j ds e=e.cell k :: putC es (k+1) j ds e:=by
          cases ds with
          | nil=>simp only [putC]
          | cons x r=>simp only [putC,e1,cond_false]
        rw [hp]
        cases m with
        | zero=>rw [if_neg (by omega)]; simp
        | succ m =>
          simp only [List.getD_cons_succ]
          rw [putC_get (by omega) (by simpa using h),show k+1+m=k+(m+1) by omega]
theorem putAt_get {xs new:List Value} {o:Nat} (h:o+new.length≤xs.length) (k:Nat):(putAt xs o new)[k]?=if o≤k∧k<o+new.length then new[k - o]? else xs[k]?:=by
  unfold putAt
  have hl:(xs.take o).length=o:=by rw [List.length_take]; omega
  by_cases h1:k<o
  · rw [if_neg (by omega),List.append_assoc,List.getElem?_append_left (by omega),List.getElem?_take_of_lt h1]
  · by_cases h2:k<o+new.length
    · rw [if_pos ⟨by omega,h2⟩,List.append_assoc,List.getElem?_append_right (by omega),hl,List.getElem?_append_left (by omega)]
    · rw [if_neg (by omega),List.getElem?_append_right (by simp only [List.length_append,hl]; omega),List.getElem?_drop]
      congr 1
      simp only [List.length_append,hl]
      omega
theorem storeA_ok {K:Hp→Prop} {t:TypeId} {x y:AV} {vx vy:Value} (H:(storeA P t x y h).holds K) (I:Inv P w0 G E h w) (hx:Rel E x vx) (hy:Rel E y vy) :
    ∃ h' w',K h'∧(Instr.storeAt t vx vy).run P w=.ok () w'∧Stepd P w0 G E h w E h' w':=by
  unfold storeA at H
  split at H
  · rename_i n o off new hn hc
    obtain ⟨hl,rfl⟩:=hx
    split at H
    · rename_i cs hcs
      cases hb:isVar cs&&Nat.beq new.length n&&Nat.ble (off+n) cs.length
      · rw [hb] at H; exact H.elim
      · rw [hb] at H
        simp only [Bool.and_eq_true] at hb
        obtain ⟨⟨hvar,hb1⟩,hb2⟩:=hb
        have hb:=And.intro hb1 hb2
        obtain rfl:=Nat.eq_of_beq_eq_true hb.1
        have hle:=Nat.le_of_ble_eq_true hb.2
        obtain ⟨vs,ob,hblk,hrel,hok⟩:=I.ob o cs hcs
        obtain ⟨ty,rfl,h1⟩:=ob_cells hvar hrel hok
        obtain ⟨g1,g2⟩:=rel_cells hy hc
        have l1:new.length=vy.cells.toList.length:=g1.length
        have l2:cs.length=vs.length:=hrel.length
        obtain ⟨w',e1,e2,e3⟩:=run_storeCells (P:=P) vy.cells.toList vs off 0 w hblk (by omega) g2
        refine ⟨_,w',H,?_,I.put hcs e3 (vs':=putAt vs (off+0) vy.cells.toList) e2 ?_ ?_⟩
        · have hsz:¬ vy.cells.size≠new.length:=by simpa using l1.symm
          simp [Instr.storeAt,Instr.sureAddr,storeVar,run_sizeOf hn,e1]
          omega
        · unfold putAt
          rw [l1]
          exact ((hrel.take off).append g1).append (hrel.drop _)
        · refine .inl ⟨_,rfl,?_⟩
          intro u hu
          unfold putAt at hu
          simp only [List.mem_append] at hu
          rcases hu with (hu | hu) | hu
          · exact h1 u (List.mem_of_mem_take hu)
          · exact g2 u hu
          · exact h1 u (List.mem_of_mem_drop hu)
    · exact H.elim
  · rename_i n kn o m i j new hn hc
    obtain ⟨hl,rfl⟩:=hx
    split at H
    · rename_i es d hrow
      obtain ⟨hlk,cs,ty,hblk,hbd,hre⟩:=row_ob I hrow
      cases hb:Nat.beq m es.length&&Nat.beq new.length n&&Nat.ble (j+n) es.length&&Nat.ble 1 es.length
      · rw [hb] at H; exact H.elim
      rw [hb] at H
      simp only [Bool.and_eq_true] at hb
      obtain ⟨⟨⟨hb1,hb2⟩,hb3⟩,hb4⟩:=hb
      obtain rfl:=Nat.eq_of_beq_eq_true hb1
      obtain rfl:=Nat.eq_of_beq_eq_true hb2
      have hpos:=Nat.le_of_ble_eq_true hb4
      have hle:=Nat.le_of_ble_eq_true hb3
      simp only [cond_true] at H
      split at H
      · rename_i ds hconf
        obtain ⟨hc',H⟩:=need_holds H
        have hi:=of_decide_eq_true hc'
        obtain ⟨g1,g2⟩:=rel_cells hy hc
        have l1:new.length=vy.cells.toList.length:=g1.length
        obtain ⟨hdl,hat⟩:=confL_at hconf g1
        have hssl:((es.drop j).take new.length).length=new.length:=by rw [List.length_take,List.length_drop]; omega
        have l1':new.length=vy.cells.size:=by simpa using l1
        have hin:i*es.length+j+vy.cells.toList.length≤cs.toList.length:=by
          obtain ⟨v,hv,_⟩:=re_iff.1 (hre i hi) (es.length - 1) es[es.length - 1] (List.getElem?_eq_getElem (by omega))
          have:=(Array.getElem?_eq_some_iff.1 hv).1
          simp only [Array.length_toList]
          omega
        obtain ⟨w',e1,e2,e3⟩:=run_storeCells (P:=P) vy.cells.toList cs.toList (i*es.length+j) 0 w (t:=ty) (by simpa using hblk) (by simpa using hin) g2
        refine ⟨_,w',H,?_,I.put hlk e3 (vs':=[.agg (putAt cs.toList (i*es.length+j) vy.cells.toList).toArray]) e2 ?_ ?_⟩
        · have hsz:¬ vy.cells.size≠new.length:=by simpa using l1.symm
          simp [Instr.storeAt,Instr.sureAddr,storeVar,run_sizeOf hn,e1]
          omega
        · refine ⟨_,[],rfl,⟨by rw [setE_len]; exact hbd,_,rfl,fun q hq=>?_⟩,rfl⟩
          rw [setE_len] at hq
          refine re_iff.2 fun k s hk=>?_
          have hkl:=(List.getElem?_eq_some_iff.1 hk).1
          obtain ⟨v,hv,hlf⟩:=re_iff.1 (hre q hq) k s hk
          have hput:=putAt_get (xs:=cs.toList) (new:=vy.cells.toList) hin (q*es.length+k)
          simp only [List.getElem?_toArray]
          rw [hput,setE_get hi]
          by_cases hqi:q=i
          · subst hqi
            rw [if_pos rfl]
            simp only [D.cell,Nat.zero_add]
            rw [putC_get (Nat.zero_le _) hkl,Nat.zero_add]
            by_cases hk2:j≤k∧k<j+ds.length
            · rw [if_pos hk2,if_pos (by omega)]
              obtain ⟨v',hv',hlf'⟩:=hat (k - j) s (by rw [List.getElem?_take_of_lt (by omega),List.getElem?_drop,show j+(k - j)=k by omega]; exact hk)
              exact ⟨v',by rw [show q*es.length+k - (q*es.length+j)=k - j by omega]; exact hv',hlf'⟩
            · rw [if_neg hk2,if_neg (by omega)]
              exact ⟨v,by simpa using hv,by simpa using hlf⟩
          · rw [if_neg hqi,if_neg ?_]
            · exact ⟨v,by simpa using hv,hlf⟩
            · rintro ⟨h1,h2⟩
              rcases Nat.lt_or_gt_of_ne hqi with h | h
              · have:=Nat.mul_le_mul_right es.length (show q+1≤i by omega)
                rw [Nat.add_mul,Nat.one_mul] at this
                omega
              · have:=Nat.mul_le_mul_right es.length (show i+1≤q by omega)
                rw [Nat.add_mul,Nat.one_mul] at this
                omega
        · exact .inr (.inr ⟨_,_,rfl,rfl⟩)
      · exact H.elim
    · exact H.elim
  · exact H.elim
theorem newO_ok {cs:List AV} {vs:List Value} (t:Obj) (I:Inv P w0 G E h w) (hr:RelL E cs vs) (h1:ObOk t vs) :
    ∃ E',Stepd P w0 G E h w E' (newA cs h).2 (w.alloc t)∧E'.live h.nx∧E'.β h.nx=w.heap.size:=by
  have hnl:¬ E.live h.nx:=fun hl=>by have:=I.nx _ hl; omega
  have hext:Ext E { E with β:=fun o=>if o=h.nx then w.heap.size else E.β o,live:=fun o=>E.live o∨o=h.nx } :=
    ⟨fun o ho=>.inl ho,fun o ho=>if_neg fun e:o=h.nx=>hnl (e ▸ ho),fun _ _ _ hz=>hz,Nat.le_refl _,Nat.le_refl _,fun _ _=>.inl ⟨rfl,rfl⟩⟩
  have hold:∀ k,k<w.heap.size→(w.alloc t).heap[k]?=w.heap[k]?:=fun k hk=>alloc_old _ hk
  have hlt:∀ o,E.live o→E.β o≠w.heap.size:=fun o ho=>by have:=I.live_lt ho; omega
  refine ⟨_,⟨hext,⟨I.kpt.then (S:=fun _=>False) ⟨rfl,rfl,rfl,by simp,fun k hk _=>hold k hk⟩ (fun _ hf=>hf.elim),I.m,I.ng,I.gn,I.gnlt,fun p=>?_,fun p hp=>?_,fun p cp hp=>?_,fun p hp=>?_,fun p q hp hq=>?_,fun b j v hz=>?_,fun p j hp=>?_,fun k hkn=>?_,I.vinj⟩,fun p hp=>?_,fun _ _ _ hz=>.inl hz⟩,.inr rfl,by simp⟩
  · simp only [newA,lookO_cons]
    split
    · rename_i e; subst e; simp
    · rename_i e
      rw [← I.live p]
      exact ⟨fun hh=>hh.resolve_right fun e'=>e e'.symm,.inl⟩
  · rcases hp with hp | rfl
    · have:=I.nx p hp; simp only [newA]; omega
    · simp only [newA]; omega
  · simp only [newA,lookO_cons] at hp
    split at hp
    · rename_i e; subst e; cases hp
      exact ⟨vs,t,by simp only [if_pos]; exact heap_alloc_new w _,RelL.mono hext _ _ hr,h1⟩
    · rename_i e
      obtain ⟨us,t',g1,g2,g3⟩:=I.ob p cp hp
      have hlp:E.live p:=(I.live p).2 (by rw [hp]; rfl)
      refine ⟨us,t',?_,RelL.mono hext _ _ g2,g3⟩
      simp only [if_neg (fun e':p=h.nx=>e (Eq.symm e'))]
      exact (hold _ (I.live_lt hlp)).trans g1
  · rcases hp with hp | rfl
    · simp only [if_neg (fun e:p=h.nx=>hnl (e ▸ hp))]; exact I.own p hp
    · simp only [if_pos]; exact .inl I.kpt.size
  · intro e
    by_cases ep:p=h.nx <;> by_cases eq:q=h.nx
    · rw [ep,eq]
    · simp only [ep,eq,if_pos,if_neg,not_false_eq_true] at e
      exact absurd e.symm (hlt q (hq.resolve_right eq))
    · simp only [ep,eq,if_pos,if_neg,not_false_eq_true] at e
      exact absurd e (hlt p (hp.resolve_right ep))
    · simp only [if_neg ep,if_neg eq] at e
      exact I.inj p q (hp.resolve_right ep) (hq.resolve_right eq) e
  · have hc:=I.z b j v hz
    rw [cell_same (hold b (cell_lt hc))]; exact hc
  · by_cases ep:p=h.nx
    · simp only [if_pos ep]; exact I.z_fresh (Nat.le_refl _) j
    · simp only [if_neg ep]; exact I.zob p j (hp.resolve_right ep)
  · obtain ⟨sz,n,xs,g1,g2,g3,g4⟩:=I.vec k hkn
    refine ⟨sz,n,xs,g1,owns_same g2 fun b hb'=>hold b (owns_lt g2 hb'),g3,fun b hb'=>⟨(g4 b hb').1,fun o ho=>?_,(g4 b hb').2.2⟩⟩
    by_cases ep:o=h.nx
    · simp only [if_pos ep]; have:=owns_lt g2 hb'; omega
    · simp only [if_neg ep]; exact (g4 b hb').2.1 o (ho.resolve_right ep)
  · have:p≠h.nx:=fun e=>hnl (e ▸ hp)
    simp only [ver,newA,cnt_cons,if_neg (fun e:h.nx=p=>this (Eq.symm e))]
    exact ⟨Nat.le_refl _,fun _=>hold _ (I.live_lt hp)⟩
theorem newA_ok {cs:List AV} {vs:List Value} (t:TypeId) (I:Inv P w0 G E h w) (hr:RelL E cs vs) (h1:∀ u ∈ vs,u.oneCell'=true) :
    ∃ E',Stepd P w0 G E h w E' (newA cs h).2 (w.alloc (.cells vs.toArray t))∧Rel E' (newA cs h).1 (.pointer (some ⟨w.heap.size,0,none⟩)):=by
  obtain ⟨E',g1,g2,g3⟩:=newO_ok (.cells vs.toArray t) I hr (.inl ⟨t,rfl,h1⟩)
  exact ⟨E',g1,g2,by rw [g3]⟩
theorem newM_ok (I:Inv P w0 G E h w):∃ E',Stepd P w0 G E h w E' (newM h).2 (w.alloc (.map #[] 0))∧Rel E' (newM h).1 (.map (some w.heap.size)):=by
  obtain ⟨E',g1,g2,g3⟩:=newO_ok (cs:=[.tup []]) (vs:=[.tuple #[]]) (.map #[] 0) I ⟨_,_,rfl,⟨#[],rfl,rfl⟩,rfl⟩ (.inr (.inl ⟨#[],0,rfl,rfl⟩))
  exact ⟨E',g1,g2,by rw [g3]⟩
theorem flat_cons (e:MapEntry) (es:List MapEntry):flat (e :: es)=e.key :: e.val :: flat es:=rfl
theorem findE_ok {K:Option (Nat×AV)→Prop} {k:IntKind} {kn:Bool} {n:Int} {kk:IntKind}:∀ {kvs:List AV} {es:List MapEntry} {i:Nat},RelL E kvs (flat es)→(findE k kn n kvs i).holds K →
    ∃ r r',K r∧Instr.findNow (.int kk) (.int k n) es i=some r'∧match r with
      | none=>r'=none
      | some (j,av)=>∃ v q e,r'=some (j,v)∧Rel E av v∧j=i+q∧es[q]?=some e∧e.key=.int k n
  | [],[],i,_,H=>⟨_,none,H,rfl,rfl⟩
  | [],e :: es,i,hr,_=>by have:(e.key :: e.val :: flat es)=[]:=hr; cases this
  | x :: xs,[],i,hr,_=>by obtain ⟨_,_,h,_⟩:=hr; cases h
  | [x],e :: es,i,hr,_=>by obtain ⟨_,_,h,_,h2⟩:=hr; cases h; cases h2
  | x :: y :: r,e :: es,i,hr,H=>by
    obtain ⟨v,vs',h1,h2,u,us',h3,h4,h5⟩:=hr
    subst h3
    rw [flat_cons] at h1
    obtain ⟨hk,hv⟩:=List.cons.inj h1
    obtain ⟨hv,hes⟩:=List.cons.inj hv
    subst hk hv hes
    cases x with
    | sc k1 ux =>
      cases ux with
      | int k' m =>
        simp only [findE] at H
        have e1:e.key=.int k' m:=h2.1
        cases hd:decide (k=k')
        · rw [hd] at H; exact H.elim
        rw [hd] at H
        obtain rfl:=of_decide_eq_true hd
        have hs:Instr.sameNow (.int kk) (.int k n) e.key=some (n==m):=by rw [e1]; simp [Instr.sameNow]
        rcases brk_holds H with ⟨hb,H⟩ | ⟨hb,H⟩
        · refine ⟨_,some (i,e.val),H,?_,e.val,0,e,rfl,h4,rfl,rfl,?_⟩
          · simp [Instr.findNow,hs,hb]
          · have:n=m:=by simpa using hb
            rw [e1,this]
        · obtain ⟨r1,r',g1,g2,g3⟩:=findE_ok (kk:=kk) h5 H
          refine ⟨r1,r',g1,?_,?_⟩
          · simp [Instr.findNow,hs,hb,g2]
          · cases r1 with
            | none=>exact g3
            | some p =>
              obtain ⟨v,q,e',a1,a2,a3,a4,a5⟩:=g3
              exact ⟨v,q+1,e',a1,a2,by omega,by simpa using a4,a5⟩
      | _=>exact H.elim
    | _=>exact H.elim
theorem run_checkKey_int {kt:TypeId} {kk:IntKind} (hk:P.underlying kt=some (.int kk)) (w:World) (b:Bool) (v:Value):(Instr.checkKey b 10000 kt v).run P w=.ok () w:=by
  rw [show (10000:Nat)=9999+1 from rfl,Instr.checkKey]
  simp only [Sem.run_bind,run_underlying hk,Result.andThen_ok]
  simp
theorem run_findKey_int {kt:TypeId} {kk:IntKind} (hk:P.underlying kt=some (.int kk)) (w:World) {v:Value} {es:List MapEntry} {r:Option (Nat×Value)} (h:Instr.findNow (.int kk) v es 0=some r):(Instr.findKey kt v es).run P w=.ok r w:=by
  unfold Instr.findKey
  simp only [Sem.run_bind,run_underlying hk,Result.andThen_ok,h,Sem.run_pure]
theorem run_getMap {r:Nat} {es:Array MapEntry} {clock:Nat} (h:w.heap[r]?=some (.map es clock)):(getObj r).run P w=.ok (.map es clock) w:=by simp [getObj,Sem.run,h]
def World.setOb (w:World) (M:Nat) (o:Obj):World:={ w with heap:=w.heap.setIfInBounds M o }
theorem run_setMap {r:Nat} {es:Array MapEntry} {clock:Nat} (h:w.heap[r]?=some (.map es clock)) (es':Array MapEntry) (c':Nat):(setObj r (.map es' c')).run P w=.ok () (World.setOb w r (.map es' c')):=by
  simp [setObj,Sem.run,h,World.setOb]
theorem setOb_at {M:Nat} {o':Obj} (h:w.heap[M]?=some o') (o:Obj):(World.setOb w M o).heap[M]?=some o:=by
  have:=(Array.getElem?_eq_some_iff.1 h).1
  simp [World.setOb,this]
theorem kpt_setOb (w:World) (M:Nat) (o:Obj):Kpt w (World.setOb w M o) (fun k=>k=M) :=
  ⟨rfl,rfl,rfl,by simp [World.setOb],fun k _ hn=>by simp [World.setOb,Array.getElem?_setIfInBounds_ne (fun e=>hn e.symm)]⟩
theorem mapOf_ok (I:Inv P w0 G E h w) {o:Nat} {kvs:List AV} (H:mapOf o h=some kvs):lookO o h.ob=some [.tup kvs]∧∃ es clock,w.heap[E.β o]?=some (.map es clock)∧RelL E kvs (flat es.toList):=by
  unfold mapOf at H
  split at H
  · rename_i l hl
    cases H
    refine ⟨hl,?_⟩
    obtain ⟨vs,ob,g1,g2,g3⟩:=I.ob o _ hl
    obtain ⟨v,vs',rfl,⟨us,rfl,hus⟩,hvs⟩:=g2
    have hvs:vs'=[]:=hvs
    subst hvs
    rcases g3 with ⟨t,_,h⟩ | ⟨es,clock,rfl,h⟩ | ⟨_,_,_,h⟩
    · have:=h (.tuple us) (by simp); cases this
    · simp only [List.cons.injEq,Value.tuple.injEq,and_true] at h
      subst h
      exact ⟨es,clock,g1,by simpa using hus⟩
    · cases h
  · cases H
theorem lookupA_ok {K:AV→Prop} {t:TypeId} {m k:AV} {two:Bool} {vm vk:Value} (H:(lookupA P t m k two h).holds K) (I:Inv P w0 G E h w) (hm:Rel E m vm) (hk:Rel E k vk) :
    ∃ av u,K av∧(Instr.lookup t vm vk two).run P w=.ok u w∧Rel E av u:=by
  unfold lookupA at H
  split at H
  · rename_i kt vt o kn kk n hu
    obtain ⟨hl,rfl⟩:=hm
    obtain rfl:=rel_int hk
    split at H
    · rename_i k2 kvs hkt hmo
      obtain ⟨hlo,es,clock,g1,g2⟩:=mapOf_ok I hmo
      rw [RT.holds_bind] at H
      obtain ⟨r,r',a1,a2,a3⟩:=findE_ok (kk:=k2) g2 H
      have hrun:∀ (q:Value×Bool),(match r' with | some (_,v)=>q=(v,true) | none=>∃ z,(zeroValue vt).run P w=.ok z w∧q=(z,false))→(Instr.lookup t (.map (some (E.β o))) (.int kk n) two).run P w=.ok (if two=true then .tuple #[q.1,.bool q.2] else q.1) w:=by
        intro q hq
        unfold Instr.lookup
        simp only [Sem.run_bind,run_underlying hu,Result.andThen_ok,run_getMap g1,Sem.run_pure,run_checkKey_int hkt,run_findKey_int hkt w a2]
        cases r' with
        | none=>obtain ⟨z,hz,rfl⟩:=hq; simp only [Sem.run_bind,hz,Result.andThen_ok,Sem.run_pure]
        | some p=>subst hq; simp only [Sem.run_bind,Result.andThen_ok,Sem.run_pure]
      cases r with
      | none =>
        have a3:r'=none:=a3
        subst a3
        simp only at a1
        split at a1
        · rename_i z hz
          have hzr:(zeroValue vt).run P w=.ok z w:=by
            cases hi:P.info? vt with
            | none=>rw [hi] at hz; cases hz
            | some i=>rw [hi] at hz; simp [zeroValue,typeInfo,hi,show i.zero=some z from hz]
          refine ⟨_,_,a1,hrun (z,false) ⟨z,hzr,rfl⟩,?_⟩
          cases two
          · exact rel_const z
          · exact ⟨_,rfl,_,_,rfl,rel_const z,_,_,rfl,⟨rfl,rfl⟩,rfl⟩
        · exact a1.elim
      | some p =>
        obtain ⟨j,av⟩:=p
        obtain ⟨v,q,e,rfl,b2,b3,b4,b5⟩:=a3
        refine ⟨_,_,a1,hrun (v,true) rfl,?_⟩
        cases two
        · exact b2
        · exact ⟨_,rfl,_,_,rfl,b2,_,_,rfl,⟨rfl,rfl⟩,rfl⟩
    · exact H.elim
  · exact H.elim
theorem setE_rel {k v:AV} {vk vv:Value} (hk:Rel E k vk) (hv:Rel E v vv):∀ {kvs:List AV} {es:List MapEntry} {q:Nat} {e:MapEntry},RelL E kvs (flat es)→es[q]?=some e→RelL E (setE k v kvs q) (flat (es.modify q fun e=>⟨vk,vv,e.born⟩))
  | _,[],q,e,_,h=>by simp at h
  | [],e :: es,_,_,hr,_=>by have:(e.key :: e.val :: flat es)=[]:=hr; cases this
  | [x],e :: es,_,_,hr,_=>by obtain ⟨_,_,h,_,h2⟩:=hr; cases h; cases h2
  | x :: y :: r,e :: es,q,e',hr,h=>by
    obtain ⟨v1,vs',h1,h2,u,us',h3,h4,h5⟩:=hr
    subst h3
    rw [flat_cons] at h1
    obtain ⟨hk1,hv1⟩:=List.cons.inj h1
    obtain ⟨hv1,hes⟩:=List.cons.inj hv1
    subst hk1 hv1 hes
    cases q with
    | zero=>exact ⟨_,_,rfl,hk,_,_,rfl,hv,h5⟩
    | succ q=>exact ⟨_,_,rfl,h2,_,_,rfl,h4,setE_rel hk hv h5 (by simpa using h)⟩
theorem updateA_ok {K:Hp→Prop} {t:TypeId} {m k x:AV} {vm vk vx:Value} (H:(updateA P t m k x h).holds K) (I:Inv P w0 G E h w) (hm:Rel E m vm) (hk:Rel E k vk) (hx:Rel E x vx) :
    ∃ h' w',K h'∧(Instr.mapUpdate t vm vk vx).run P w=.ok () w'∧Stepd P w0 G E h w E h' w':=by
  unfold updateA at H
  split at H
  · rename_i kt vt o kn kk n hu
    obtain ⟨hl,rfl⟩:=hm
    have hk':=hk
    obtain rfl:=rel_int hk
    split at H
    · rename_i k2 kvs hkt hmo
      obtain ⟨hlo,es,clock,g1,g2⟩:=mapOf_ok I hmo
      rw [RT.holds_bind] at H
      obtain ⟨r,r',a1,a2,a3⟩:=findE_ok (kk:=k2) g2 H
      cases r with
      | none =>
        have a3:r'=none:=a3
        subst a3
        refine ⟨_,_,a1,?_,I.put hlo (kpt_setOb w _ (.map (es.push ⟨.int kk n,vx,clock⟩) (clock+1))) (setOb_at g1 _) (vs':=[.tuple (flat (es.push ⟨.int kk n,vx,clock⟩).toList).toArray]) ?_ (.inr (.inl ⟨_,_,rfl,rfl⟩))⟩
        · unfold Instr.mapUpdate
          simp only [Sem.run_bind,run_underlying hu,Result.andThen_ok,run_getMap g1,run_checkKey_int hkt,run_findKey_int hkt w a2]
          exact run_setMap g1 _ _
        · refine ⟨_,_,rfl,⟨_,rfl,?_⟩,rfl⟩
          have:flat (es.push ⟨.int kk n,vx,clock⟩).toList=flat es.toList ++ [.int kk n,vx]:=by simp [flat]
          rw [show (flat (es.push ⟨.int kk n,vx,clock⟩).toList).toArray.toList=flat (es.push ⟨.int kk n,vx,clock⟩).toList from rfl,this]
          exact g2.append ⟨_,_,rfl,hk',_,_,rfl,hx,rfl⟩
      | some p =>
        obtain ⟨j,av⟩:=p
        obtain ⟨v,q,e,rfl,b2,b3,b4,b5⟩:=a3
        obtain rfl:j=q:=by omega
        have hke:es[j]?=some e:=by simpa using b4
        refine ⟨_,_,a1,?_,I.put hlo (kpt_setOb w _ (.map (es.modify j fun e=>⟨.int kk n,vx,e.born⟩) clock)) (setOb_at g1 _) (vs':=[.tuple (flat (es.modify j fun e=>⟨.int kk n,vx,e.born⟩).toList).toArray]) ?_ (.inr (.inl ⟨_,_,rfl,rfl⟩))⟩
        · unfold Instr.mapUpdate
          simp only [Sem.run_bind,run_underlying hu,Result.andThen_ok,run_getMap g1,run_checkKey_int hkt,run_findKey_int hkt w a2,hke,Option.map_some,Option.getD_some,b5]
          have hsb:Instr.sameBits 10000 (.int kk n) (.int kk n)=true:=by simp [Instr.sameBits]
          simp only [Instr.keyThatStays,hsb,if_true,Sem.run_pure,Result.andThen_ok]
          exact run_setMap g1 _ _
        · refine ⟨_,_,rfl,⟨_,rfl,?_⟩,rfl⟩
          rw [show (flat (es.modify j fun e=>⟨.int kk n,vx,e.born⟩).toList).toArray.toList=flat (es.modify j fun e=>⟨.int kk n,vx,e.born⟩).toList from rfl,Array.toList_modify]
          exact setE_rel hk' hx g2 (by simpa using hke)
    · exact H.elim
  · exact H.elim
end
end
end Go.Proofs.YtbgmclbcjdbcmaaGreat
namespace Go.Proofs.YtbgmclbcjdbcmaaGreat
set_option linter.unusedSimpArgs false
set_option linter.unusedVariables false
open Go.RowKit
set_option maxRecDepth 10000
noncomputable section
section
variable {P:Program} {E:Env} {F:Tm} {h:Hp} {w w0:World} {G:Nat→Prop} {a:Act}
def Env.grow (E:Env) (k:Nat) (v':Value) (g:Nat) (e:TypeId) (m:Nat) (xs:List Value):Env :=
  { E with Z:=fun b j=>if v'.ownBlock=some b then xs[j]? else E.Z b j,vc:=fun i=>if i=k then v' else E.vc i,gn:=fun i=>if i=k then g else E.gn i,ve:=fun i=>if i=k then e else E.ve i,m:=m,ng:=g+1 }
theorem Inv.vec_setG (I:Inv P w0 G E h w) {k m e sz n':Nat} {v v':Value} {xs news:List Value} (hk:k<h.nv∧m=h.nv∧E.vc k=v∨k=h.nv∧m=h.nv+1∧v.ownBlock=none)
    (hold:∀ b,v.ownBlock=some b→(w0.heap.size≤b∨G b)∧(∀ o,E.live o→E.β o≠b)∧∀ j,E.Z b j=xs[j]?) (hsz:sizeT P e=some sz)
    {w':World} (ho:w'.ownsRow 0 e sz v' n' (xs ++ news)) (h1:∀ u ∈ xs ++ news,u.oneCell'=true) (hK:Kpt w w' (fun b=>v.ownBlock=some b∧v'.ownBlock=some b))
    (hat:v'.ownBlock=v.ownBlock∨∃ g,v'.ownBlock=some g∧w.heap.size≤g) :
    Stepd P w0 G E h w (E.grow k v' h.ng e m (xs ++ news)) { h with gn:=(k,h.ng,e) :: h.gn,nv:=m,ng:=h.ng+1 } w':=by
  have hm:h.nv≤m:=by rcases hk with ⟨_,rfl,_⟩ | ⟨_,rfl,_⟩ <;> omega
  have hkm:k<m:=by rcases hk with ⟨h1,rfl,_⟩ | ⟨rfl,rfl,_⟩ <;> omega
  have hb':∀ b,v'.ownBlock=some b→(v.ownBlock=some b)∨w.heap.size≤b:=fun b hb=>by
    rcases hat with e | ⟨g,e,hg⟩
    · exact .inl (e ▸ hb)
    · rw [e] at hb; cases hb; exact .inr hg
  have hsame:∀ b,b<w.heap.size→v'.ownBlock≠some b→w'.heap[b]?=w.heap[b]?:=fun b hb hne=>hK.block b hb fun hs=>hne hs.2
  have hother:∀ i,i<h.nv→i≠k→∀ b,(E.vc i).ownBlock=some b→v'.ownBlock≠some b:=fun i hi hne b hbi hbv=>by
    rcases hb' b hbv with e | hge
    · rcases hk with ⟨hkn,_,rfl⟩ | ⟨_,_,hnone⟩
      · exact hne (I.vinj i k b hi hkn hbi e)
      · rw [hnone] at e; cases e
    · obtain ⟨_,_,_,_,g2,_⟩:=I.vec i hi
      have:=owns_lt g2 hbi; omega
  have hlive:∀ o,E.live o→v'.ownBlock≠some (E.β o):=fun o hlo hbv=>by
    rcases hb' _ hbv with e | e
    · exact (hold _ e).2.1 o hlo rfl
    · have:=I.live_lt hlo; omega
  have hZ:∀ b j u,E.Z b j=some u→(if v'.ownBlock=some b then (xs ++ news)[j]? else E.Z b j)=some u:=fun b j u hz=>by
    split
    · rename_i hbv
      rcases hb' b hbv with e | hge
      · rw [(hold b e).2.2 j] at hz
        rw [List.getElem?_append_left (List.getElem?_eq_some_iff.1 hz).1]; exact hz
      · rw [I.z_fresh hge] at hz; cases hz
    · exact hz
  have hext:Ext E (E.grow k v' h.ng e m (xs ++ news)):=by
    refine ⟨fun _ h=>h,fun _ _=>rfl,hZ,by rw [I.m]; exact hm,by rw [I.ng]; exact Nat.le_succ _,fun i hi=>?_⟩
    by_cases e:i=k
    · subst e; right; simp only [Env.grow,if_pos]; rw [I.ng]; exact Nat.le_refl _
    · left; simp only [Env.grow,if_neg e]; exact ⟨trivial,trivial⟩
  refine ⟨hext,⟨I.kpt.then hK (fun b hb=>(hold b hb.1).1),rfl,rfl,fun i hi=>?_,fun i hi=>?_,I.live,I.nx,fun o cs ho'=>?_,I.own,I.inj,fun b j u hz=>?_,fun o j hlo=>?_,fun i hi=>?_,fun i i' b hi hi' hb1 hb2=>?_⟩,fun o hlo=>⟨Nat.le_refl _,fun _=>hsame _ (I.live_lt hlo) (hlive o hlo)⟩,fun b j u hz=>?_⟩
  · simp only [lookG_cons,Env.grow]
    by_cases e:i=k
    · subst e; simp
    · rw [if_neg (fun h=>e h.symm),if_neg e,if_neg e]
      refine I.gn i ?_
      rcases hk with ⟨_,rfl,_⟩ | ⟨rfl,rfl,_⟩
      · exact hi
      · have:i<h.nv+1:=hi
        omega
  · simp only [Env.grow]
    by_cases e:i=k
    · rw [if_pos e]; omega
    · rw [if_neg e]
      have:i<h.nv:=by
        rcases hk with ⟨_,rfl,_⟩ | ⟨rfl,rfl,_⟩
        · exact hi
        · have:i<h.nv+1:=hi
          omega
      have:=I.gnlt i this; omega
  · obtain ⟨vs,t,g1,g2,g3⟩:=I.ob o cs ho'
    have hlo:E.live o:=(I.live o).2 (by rw [ho']; rfl)
    exact ⟨vs,t,(hsame _ (I.live_lt hlo) (hlive o hlo)).trans g1,RelL.mono hext _ _ g2,g3⟩
  · simp only [Env.grow] at hz
    split at hz
    · rename_i hbv
      rcases ho.2 with ⟨rfl,_⟩ | ⟨g,cap,cur,rfl,h0,hg,_,_,hcs,htk⟩
      · cases hbv
      · cases hbv
        have:=ho.cells (g:=g) rfl j u hz
        rwa [addr_add',Nat.zero_add] at this
    · rename_i hbv
      have hc:=I.z b j u hz
      rw [cell_same (hsame b (cell_lt hc) hbv)]; exact hc
  · simp only [Env.grow]
    rw [if_neg (hlive o hlo)]; exact I.zob o j hlo
  · simp only [Env.grow]
    by_cases e:i=k
    · simp only [if_pos e]
      refine ⟨sz,n',xs ++ news,hsz,ho,h1,fun b hb=>⟨?_,fun o hlo e'=>hlive o hlo (e' ▸ hb),fun j=>by rw [if_pos hb]⟩⟩
      rcases hb' b hb with e | hge
      · exact (hold b e).1
      · exact .inl (Nat.le_trans I.kpt.size hge)
    · simp only [if_neg e]
      have hin:i<h.nv:=by
        rcases hk with ⟨_,rfl,_⟩ | ⟨rfl,rfl,_⟩
        · exact hi
        · have:i<h.nv+1:=hi
          omega
      obtain ⟨s,n,ys,g1,g2,g3,g4⟩:=I.vec i hin
      refine ⟨s,n,ys,g1,owns_same g2 fun b hb=>hsame b (owns_lt g2 hb) (hother i hin e b hb),g3,fun b hb=>⟨(g4 b hb).1,(g4 b hb).2.1,fun j=>?_⟩⟩
      rw [if_neg (hother i hin e b hb)]; exact (g4 b hb).2.2 j
  · have lt:∀ i,i<m→i≠k→i<h.nv:=fun i hi e=>by
      rcases hk with ⟨_,rfl,_⟩ | ⟨rfl,rfl,_⟩
      · exact hi
      · omega
    simp only [Env.grow] at hb1 hb2
    by_cases e:i=k <;> by_cases e':i'=k
    · rw [e,e']
    · simp only [if_pos e,if_neg e'] at hb1 hb2
      exact absurd hb1 (hother i' (lt i' hi' e') e' b hb2)
    · simp only [if_neg e,if_pos e'] at hb1 hb2
      exact absurd hb2 (hother i (lt i hi e) e b hb1)
    · simp only [if_neg e,if_neg e'] at hb1 hb2
      exact I.vinj i i' b (lt i hi e) (lt i' hi' e') hb1 hb2
  · simp only [Env.grow] at hz
    split at hz
    · rename_i hbv
      rcases hb' b hbv with e | hge
      · exact .inr (hold b e).1
      · exact .inr (.inl (Nat.le_trans I.kpt.size hge))
    · exact .inl hz
theorem Inv.vec_set (I:Inv P w0 G E h w) {k m e sz n':Nat} {v v':Value} {xs news:List Value} (hk:k<h.nv∧m=h.nv∧E.vc k=v∨k=h.nv∧m=h.nv+1∧v.ownBlock=none)
    (hold:∀ b,v.ownBlock=some b→(w0.heap.size≤b∨G b)∧(∀ o,E.live o→E.β o≠b)∧∀ j,E.Z b j=xs[j]?) (hsz:sizeT P e=some sz)
    {w':World} (ho:w'.ownsRow 0 e sz v' n' (xs ++ news)) (h1:∀ u ∈ xs ++ news,u.oneCell'=true) (hK:Kpt w w' (fun b=>v.ownBlock=some b∧v'.ownBlock=some b))
    (hat:v'.ownBlock=v.ownBlock∨v'.ownBlock=some w.heap.size) :
    Stepd P w0 G E h w (E.grow k v' h.ng e m (xs ++ news)) { h with gn:=(k,h.ng,e) :: h.gn,nv:=m,ng:=h.ng+1 } w' :=
  I.vec_setG hk hold hsz ho h1 hK (hat.imp_right fun e=>⟨_,e,Nat.le_refl _⟩)
theorem confL_ok {Z:Nat→Nat→Option Value} (hZ:∀ b j v,E.Z b j=some v→Z b j=some v) {b:Nat} {e:D}:∀ {ss:List Sh} {xs:List AV} {ds:List D} {vs:List Value} {o j:Nat},confL ss xs=some ds→RelL E xs vs→(∀ i v,vs[i]?=some v→Z b (o+i)=some v) →
    (∀ i,i<ds.length→e.cell (j+i)=ds.getD i .n)→EL Z ss b o e j
  | [],[],_,_,_,_,_,_,_,_=>trivial
  | s :: ss,x :: xs,ds,vs,o,j,hc,hr,hz,he=>by
    simp only [confL] at hc
    split at hc
    · rename_i d ds' h1 h2
      cases hc
      obtain ⟨v,vs',rfl,g1,g2⟩:=hr
      refine ⟨⟨v,hz 0 v rfl,?_⟩,confL_ok hZ h2 g2 (fun i u hu=>?_) (fun i hi=>?_)⟩
      · have:=he 0 (by simp)
        simp only [Nat.add_zero,List.getD_cons_zero] at this
        rw [this]
        exact LF.mono hZ _ _ _ (confA_ok h1 g1)
      · rw [show o+1+i=o+(i+1) by omega]; exact hz (i+1) u (by simpa using hu)
      · rw [show j+1+i=j+(i+1) by omega]; simpa using he (i+1) (by simpa using hi)
    · cases hc
  | [],_ :: _,_,_,_,_,hc,_,_,_=>by simp [confL] at hc
  | _ :: _,[],_,_,_,_,hc,_,_,_=>by simp [confL] at hc
theorem elsA_ok {Z:Nat→Nat→Option Value} (hZ:∀ b j v,E.Z b j=some v→Z b j=some v) {b:Nat} {es:List Sh}:∀ {m:Nat} {cs:List AV} {ds:List D} {vs:List Value} {o:Nat},elsA es m cs=some ds→RelL E cs vs→(∀ i v,vs[i]?=some v→Z b (o+i)=some v) →
    ds.length=m∧∀ i,i<m→EL Z es b (o+i*es.length) (ds.getD i .n) 0
  | 0,cs,ds,vs,o,hc,_,_=>by simp only [elsA] at hc; cases hc; exact ⟨rfl,fun i hi=>by omega⟩
  | m+1,cs,ds,vs,o,hc,hr,hz=>by
    simp only [elsA] at hc
    split at hc
    · rename_i d ds' h1 h2
      cases hc
      obtain ⟨g1,g2⟩:=elsA_ok hZ (o:=o+es.length) h2 (hr.drop es.length) (fun i u hu=>by
        rw [List.getElem?_drop] at hu
        rw [show o+es.length+i=o+(es.length+i) by omega]; exact hz _ u hu)
      refine ⟨by simp [g1],fun i hi=>?_⟩
      cases i with
      | zero =>
        simp only [List.getD_cons_zero,Nat.zero_mul,Nat.add_zero]
        refine confL_ok hZ h1 (hr.take es.length) (fun i u hu=>?_) (fun i hi=>?_)
        · rw [List.getElem?_take] at hu
          split at hu
          · exact hz i u hu
          · cases hu
        · simp [D.cell]
      | succ i =>
        have:=g2 i (by omega)
        simp only [List.getD_cons_succ]
        rwa [show o+(i+1)*es.length=o+es.length+i*es.length by rw [Nat.succ_mul]; omega]
    · cases hc
theorem rep_len {α:Type} (z:List α) (m:Nat):(rep z m).length=m*z.length:=by
  induction m with
  | zero=>simp [rep]
  | succ m ih=>simp only [rep,List.length_append,ih,Nat.succ_mul]; omega
theorem rep_rel {z:List AV} {vs:List Value} (hr:RelL E z vs):∀ m,RelL E (rep z m) (rep vs m)
  | 0=>rfl
  | m+1=>hr.append (rep_rel hr m)
theorem rep_get {α:Type} (z:List α):∀ (m i:Nat),i<m*z.length→(rep z m)[i]?=z[i % z.length]?
  | 0,i,h=>by simp at h
  | m+1,i,h=>by
    simp only [rep]
    by_cases hi:i<z.length
    · rw [List.getElem?_append_left hi,Nat.mod_eq_of_lt hi]
    · rw [List.getElem?_append_right (by omega),rep_get z m (i - z.length) (by rw [Nat.succ_mul] at h; omega)]
      congr 1
      exact (Nat.mod_eq_sub_mod (by omega)).symm
theorem rep_zero {z:Array Value} {n m:Nat} (hz:z.size=n) (hn:0<n):((Array.range (m*n)).map (z[· % z.size]!)).toList=rep z.toList m:=by
  refine List.ext_getElem? fun i=>?_
  by_cases hi:i<m*n
  · rw [rep_get _ _ _ (by simpa [hz] using hi)]
    have:i % z.size<z.size:=Nat.mod_lt _ (by omega)
    simp [hi,this]
  · rw [List.getElem?_eq_none (by simp; omega),List.getElem?_eq_none (by rw [rep_len]; simp [hz]; omega)]
theorem elemA_ok {t e:TypeId} (h:elemA P t=some e):P.underlying t=some (.slice e):=by
  unfold elemA at h
  split at h
  · cases h; assumption
  · cases h
theorem buildSliceA_ok {K:AV×Hp→Prop} {t:TypeId} {len:Nat} {ps:Array (Nat×Operand)} {vps:Array (Nat×Value)} (hps:vps.toList=ps.toList.map fun p=>(p.1,a.eval p.2)) (hT:RelT E F a) (I:Inv P w0 G E h w) (H:(buildSliceA P t len (ps.toList.map fun p=>(p.1,opnd F p.2)) h).holds K) :
    ∃ av h' u w' E',K (av,h')∧(Instr.buildSlice t len vps).run P w=.ok u w'∧Stepd P w0 G E h w E' h' w'∧Rel E' av u:=by
  unfold buildSliceA at H
  split at H
  · exact H.elim
  rename_i e he
  have hu:=elemA_ok he
  split at H
  · rename_i n z hn hz
    cases hb:Nat.ble (len*n) 16777216&&Nat.beq z.length n&&Nat.beq (shE P e).length n&&Nat.ble 1 n&&Nat.ble (len*szB (shE P e)) room
    · rw [hb] at H; exact H.elim
    rw [hb] at H
    simp only [Bool.and_eq_true,cond_true] at hb H
    obtain ⟨⟨⟨⟨b1,b2⟩,b3⟩,b4⟩,b5⟩:=hb
    have hle:=Nat.le_of_ble_eq_true b1
    have hzl:=Nat.eq_of_beq_eq_true b2
    have hes:=Nat.eq_of_beq_eq_true b3
    have hn1:=Nat.le_of_ble_eq_true b4
    split at H
    · rename_i cs hf
      split at H
      · rename_i ds hds
        obtain ⟨zv,hzr,_,g1,g2⟩:=zeroA_ok (E:=E) hz
        have hzs:zv.cells.size=n:=by have:=g1.length; simp at this; omega
        have hrz:=rep_zero (z:=zv.cells) (m:=len) hzs (by omega)
        obtain ⟨r,e1,e2,e3,e4⟩:=fillA_ok (vs:=ps.toList.map fun p=>(p.1,a.eval p.2)) (cells:=(Array.range (len*n)).map (zv.cells[· % zv.cells.size]!)) hf (by rw [hrz]; exact rep_rel g1 len)
          (by
            rw [hrz]
            intro u hu
            obtain ⟨i,hi⟩:=List.mem_iff_getElem?.1 hu
            have hil:=(List.getElem?_eq_some_iff.1 hi).1
            rw [rep_len] at hil
            rw [rep_get _ _ _ hil] at hi
            exact g2 u (List.mem_of_getElem? hi)) (by simp) (fun i p q=>rel_parts hT i p q)
        have hrs:r.size=len*n:=by rw [e4]; simp
        have hl63:len≤maxLen:=by
          have:len*1≤len*n:=Nat.mul_le_mul_left _ hn1
          unfold maxLen; omega
        have hv:(w.alloc (.cells r e)).ownsRow 0 e n (.slice (some ⟨w.heap.size,0,none⟩) len len) len ([] ++ r.toList):=by
          refine ⟨by simp [hrs],.inr ⟨w.heap.size,len,r,rfl,Nat.zero_le _,?_,Nat.le_refl _,hl63,hrs,?_⟩⟩
          · show (w.heap.push _)[w.heap.size]?=_
            simp
          · rw [List.take_of_length_le (by simp [hrs])]; rfl
        have hst:=I.vec_set (v:=.slice none 0 0) (k:=h.nv) (m:=h.nv+1) (.inr ⟨rfl,rfl,rfl⟩) (fun b hb=>by cases hb) hn hv (by simpa using e3) ⟨rfl,rfl,rfl,by simp,fun k hk _=>alloc_old _ hk⟩ (.inr rfl)
        obtain ⟨d1,d2⟩:=elsA_ok (Z:=(E.grow h.nv (.slice (some ⟨w.heap.size,0,none⟩) len len) h.ng e (h.nv+1) ([] ++ r.toList)).Z) hst.ext.Z (b:=w.heap.size) (o:=0) hds e2
          (fun i v hv=>by simp only [Env.grow,Value.ownBlock,if_pos,List.nil_append,Nat.zero_add]; exact hv)
        have htl:(D.l ds).toL=ds:=toL_l (by omega)
        refine ⟨_,_,.slice (some ⟨w.heap.size,0,none⟩) len len,w.alloc (.cells r e),_,H,?_,hst,⟨⟨by unfold D.len; rw [htl,d1]; exact Nat.le_of_ble_eq_true b5,some ⟨w.heap.size,0,none⟩,len,?_,?_,hl63,(by intro hh; cases hh),fun _=>⟨w.heap.size,0,rfl,fun i hi=>?_⟩⟩,by simp [Env.grow],by simp [Env.grow],fun _=>by simp [Env.grow]⟩⟩
        · have hne:len*n=0∨¬ len*n=0:=by omega
          unfold Instr.buildSlice
          simp only [Sem.run_bind,run_underlying hu,Result.andThen_ok,run_sizeOf hn]
          rw [if_neg (by omega)]
          rcases hne with h0 | h0
          · have hl0:len=0:=by
              rcases Nat.eq_zero_or_pos len with h | h
              · exact h
              · have:=Nat.mul_pos h (show 0<n by omega); omega
            subst hl0
            have hr0:∀ (g:Nat→Value),Array.map g (Array.range 0)=#[]:=fun g=>by simp
            simp only [Nat.zero_mul,hr0] at e1
            simp only [Nat.zero_mul,if_true,Sem.run_bind,Sem.run_pure,Result.andThen_ok,hr0,hps,e1]
            rfl
          · simp only [if_neg h0,Sem.run_bind,hzr,Result.andThen_ok,Sem.run_pure]
            rw [hps,e1]
            rfl
        · unfold D.len; rw [htl,d1]
        · unfold D.len; rw [htl,d1]; exact Nat.le_refl _
        · unfold D.len at hi
          rw [htl,d1] at hi
          have:=d2 i hi
          unfold D.get
          rw [htl]
          simpa using this
      · exact H.elim
    · exact H.elim
  · exact H.elim
end
end
end Go.Proofs.YtbgmclbcjdbcmaaGreat
namespace Go.Proofs.YtbgmclbcjdbcmaaGreat
set_option linter.unusedSimpArgs false
set_option linter.unusedVariables false
open Go.RowKit
set_option maxRecDepth 10000
noncomputable section
section
variable {P:Program} {E:Env} {F:Tm} {h:Hp} {w w0:World} {G:Nat→Prop} {a:Act}
theorem run_append_own2 {t e:TypeId} {i:TypeInfo} {zv:Value} (ht:P.underlying t=some (.slice e)) (hi:P.info? e=some i) (hz:i.zero=some zv) (hzs:zv.cells.size=i.size) (hpos:0<i.size) (hone:1≤i.bytes)
    {ty:TypeId} {v:Value} {n:Nat} {xs:List Value} (hown:w.ownsRow 0 e i.size v n xs) {src:Value} {m:Nat} {news:List Value} (hsrc:SrcOf w i.size src m news) (hbytes:(n+m)*i.bytes≤140737488355328) :
    ∃ v' w',(Builtin.append_ #[t,t] ty #[v,src]).run P w=.ok v' w'∧w'.ownsRow 0 e i.size v' (n+m) (xs ++ news)∧Kpt w w' (fun b=>v.ownBlock=some b∧v'.ownBlock=some b)∧(v'.ownBlock=v.ownBlock∨v'.ownBlock=some w.heap.size):=by
  have h63:n+m≤maxLen:=by
    have:=Nat.le_trans (Nat.le_mul_of_pos_right (n+m) hone) hbytes
    unfold maxLen; omega
  rcases hsrc with ⟨rfl,rfl,rfl⟩ | ⟨ad,c,rfl,hl,hnews,h1⟩
  · exact ⟨v,w,run_append_owned_none (P:=P) w 0 t ty e i i.size ht hi v n xs hown,by simpa using hown,Kpt.refl _ _,.inl rfl⟩
  · obtain ⟨v',w',h2,h3,h4,_,h5⟩:=run_append_own_at (P:=P) (w:=w) 0 t ty e i zv i.size i.bytes ht hi hz rfl rfl hzs hpos v n xs hown ad m c news hl hnews h1 h63 hbytes (Nat.zero_le _)
    refine ⟨v',w',h2,h3,?_,h5⟩
    rcases hown.2 with ⟨rfl,rfl⟩ | ⟨g,cap,cur,rfl,hbg,hg,hnc,hcm,hcs,htake⟩
    · exact ⟨h4.os,h4.tape,h4.output,h4.size,fun k hk _=>h4.block k hk (by simp [Value.ownBlock])⟩
    · by_cases hroom:n+m≤cap
      · have hfit:n*i.size+news.length≤cur.size:=by rw [hl,hcs,← Nat.add_mul]; exact Nat.mul_le_mul_right _ hroom
        have hr:=run_append_room (P:=P) w t ty e i ht hi g n cap cur hg ad m c news hl hnews h1 hroom hfit
        have he:=hr.symm.trans h2
        injection he with e1 e2
        subst e1
        exact ⟨h4.os,h4.tape,h4.output,h4.size,fun k hk hs=>h4.block k hk fun e=>hs ⟨e.symm,e.symm⟩⟩
      · have holds:∀ j u,xs[j]?=some u→w.cell? ((⟨g,0,none⟩:Addr).add j)=some u:=hown.cells (g:=g) rfl
        have hsmall:n+m≤9223372036854775807:=by simp only [maxLen] at h63; omega
        have hr:=run_append_grow (P:=P) w t ty e i zv ht hi hz ⟨g,0,none⟩ n cap xs hown.1 holds ad m c news hl hnews (by omega) (by omega) (growslice_fits (by omega) hbytes)
        have he:=hr.symm.trans h2
        injection he with e1 e2
        subst e2
        exact ⟨h4.os,h4.tape,h4.output,h4.size,fun k hk _=>alloc_old _ (by simpa using hk)⟩
theorem el_move {Z Z':Nat→Nat→Option Value} (hZ:∀ b j v,Z b j=some v→Z' b j=some v):∀ {es:List Sh} {b o b' o':Nat} {d:D} {j:Nat},EL Z es b o d j→(∀ i v,i<es.length→Z b (o+i)=some v→Z' b' (o'+i)=some v)→EL Z' es b' o' d j
  | [],_,_,_,_,_,_,_,_=>trivial
  | s :: es,b,o,b',o',d,j,⟨⟨v,h1,h2⟩,h3⟩,hm=>⟨⟨v,hm 0 v (by simp) h1,LF.mono hZ _ _ _ h2⟩,el_move hZ h3 fun i u hi hu=>by
      have:=hm (i+1) u (by simpa using hi) (by rwa [show o+(i+1)=o+1+i by omega])
      rwa [show o'+1+i=o'+(i+1) by omega]⟩
theorem slice_cells (I:Inv P w0 G E h w) {es:List Sh} {v:Value} {d:D} (hl:LF E.Z (.sl es) v d):∃ news:List Value,SrcOf w es.length v d.len news∧news.length=d.len*es.length∧(∀ u ∈ news,u.oneCell'=true) ∧
    (d.len≠0→∃ b o,(∃ n c,v=.slice (some ⟨b,o,none⟩) n c)∧(∀ i,i<d.len→EL E.Z es b (o+i*es.length) (d.get i) 0)∧∀ j u,news[j]?=some u→E.Z b (o+j)=some u):=by
  obtain ⟨_,ad,cap,rfl,h1,h2,h3,h4⟩:=hl
  by_cases h0:d.len=0
  · refine ⟨[],?_,by simp [h0],by simp,fun h=>absurd h0 h⟩
    cases ad with
    | none=>have:=h3 rfl; exact .inl ⟨by rw [h0,this],h0,rfl⟩
    | some ad=>exact .inr ⟨ad,cap,rfl,by simp [h0],by simp,by simp⟩
  · obtain ⟨b,o,rfl,h5⟩:=h4 h0
    have hc:∀ j,j<d.len*es.length→∃ u,E.Z b (o+j)=some u∧u.oneCell'=true:=fun j hj=>by
      have hp:0<es.length:=by
        rcases Nat.eq_zero_or_pos es.length with h | h
        · rw [h] at hj; omega
        · exact h
      have hq:j / es.length<d.len:=by rw [Nat.div_lt_iff_lt_mul hp]; exact hj
      obtain ⟨vs,g1,g2,_,g4⟩:=el_leaves (kn:=false) (E:=E) (h5 _ hq)
      have hr:j % es.length<vs.length:=by rw [g1]; exact Nat.mod_lt _ hp
      refine ⟨vs[j % es.length],?_,g4 _ (List.getElem_mem hr)⟩
      have:=g2 (j % es.length) _ (List.getElem?_eq_getElem hr)
      rw [show o+j=o+j / es.length*es.length+j % es.length by have:=Nat.div_add_mod' j es.length; omega]
      exact this
    refine ⟨(List.range (d.len*es.length)).map fun j=>(E.Z b (o+j)).getD undef,?_,by simp,?_,fun _=>⟨b,o,⟨_,_,rfl⟩,h5,fun j u hu=>?_⟩⟩
    · refine .inr ⟨⟨b,o,none⟩,cap,rfl,by simp,fun j u hu=>?_,fun u hu=>?_⟩
      · rw [List.getElem?_map] at hu
        have hj:j<d.len*es.length:=by
          rcases Nat.lt_or_ge j (d.len*es.length) with h | h
          · exact h
          · rw [List.getElem?_eq_none (by simpa using h)] at hu; cases hu
        rw [List.getElem?_range hj] at hu
        obtain ⟨x,hx,_⟩:=hc j hj
        simp only [Option.map_some,hx,Option.getD_some,Option.some.injEq] at hu
        subst hu
        rw [addr_add']
        exact I.z _ _ _ hx
      · obtain ⟨j,hj,rfl⟩:=List.mem_map.1 hu
        obtain ⟨x,hx,h6⟩:=hc j (List.mem_range.1 hj)
        simp only [hx,Option.getD_some]; exact h6
    · intro u hu
      obtain ⟨j,hj,rfl⟩:=List.mem_map.1 hu
      obtain ⟨x,hx,h6⟩:=hc j (List.mem_range.1 hj)
      simp only [hx,Option.getD_some]; exact h6
    · rw [List.getElem?_map] at hu
      have hj:j<d.len*es.length:=by
        rcases Nat.lt_or_ge j (d.len*es.length) with h | h
        · exact h
        · rw [List.getElem?_eq_none (by simpa using h)] at hu; cases hu
      rw [List.getElem?_range hj] at hu
      obtain ⟨x,hx,_⟩:=hc j hj
      simp only [Option.map_some,hx,Option.getD_some,Option.some.injEq] at hu
      subst hu; exact hx
theorem app_len {d d':D} (hle:d.len+d'.len≤maxLen):(d.app d').len=d.len+d'.len:=by
  unfold D.len D.app at *
  rw [toL_l (by simpa using hle)]; simp
theorem app_get {d d':D} (hle:d.len+d'.len≤maxLen) (i:Nat):(d.app d').get i=if i<d.len then d.get i else d'.get (i - d.len):=by
  unfold D.get D.app D.len at *
  rw [toL_l (by simpa using hle)]
  split
  · rename_i h; rw [List.getD_eq_getElem?_getD,List.getD_eq_getElem?_getD,List.getElem?_append_left h]
  · rename_i h; rw [List.getD_eq_getElem?_getD,List.getD_eq_getElem?_getD,List.getElem?_append_right (by omega)]
theorem append_core (I:Inv P w0 G E h w) {t e:TypeId} {i:TypeInfo} {zv:Value} (ht:P.underlying t=some (.slice e)) (hi:P.info? e=some i) (hz:i.zero=some zv) (hzs:zv.cells.size=i.size) (hpos:0<i.size) (hone:1≤i.bytes)
    {ty:TypeId} {v:Value} {es:List Sh} {d d':D} (hes:es.length=i.size) {k m:Nat} (hk:k<h.nv∧m=h.nv∧E.vc k=v∨k=h.nv∧m=h.nv+1∧v.ownBlock=none)
    {n:Nat} {xs:List Value} (hown:w.ownsRow 0 e i.size v n xs) (hx1:∀ u ∈ xs,u.oneCell'=true)
    (hold:∀ b,v.ownBlock=some b→(w0.heap.size≤b∨G b)∧(∀ o,E.live o→E.β o≠b)∧∀ j,E.Z b j=xs[j]?) (hv:LF E.Z (.sl es) v d)
    {src:Value} (hs:LF E.Z (.sl es) src d') (hbz:(d.len+d'.len)*szB es≤room) (hbb:i.bytes≤szB es) :
    ∃ v' w' E',(Builtin.append_ #[t,t] ty #[v,src]).run P w=.ok v' w'∧Stepd P w0 G E h w E' { h with gn:=(k,h.ng,e) :: h.gn,nv:=m,ng:=h.ng+1 } w' ∧
      LF E'.Z (.sl es) v' (d.app d')∧k<E'.m∧h.ng<E'.ng∧E'.gn k=h.ng∧v'=E'.vc k:=by
  have hb:(d.len+d'.len)*i.bytes≤room:=Nat.le_trans (Nat.mul_le_mul_left _ hbb) hbz
  obtain ⟨news,hsrc,hnl,hn1,hnz⟩:=slice_cells I hs
  rw [hes] at hsrc hnl
  have hvn:n=d.len:=by
    obtain ⟨_,ad,cap,rfl,_⟩:=hv
    rcases hown.2 with ⟨h0,h1⟩ | ⟨g,cap',cur,h0,_⟩
    · injection h0 with _ h2 _; omega
    · injection h0 with _ h2 _; exact h2.symm
  subst hvn
  have hle:d.len+d'.len≤maxLen:=by
    have:=Nat.le_trans (Nat.le_mul_of_pos_right (d.len+d'.len) hone) hb
    unfold room at this; unfold maxLen; omega
  obtain ⟨v',w',e1,e2,e3,e4⟩:=run_append_own2 (ty:=ty) ht hi hz hzs hpos hone hown hsrc hb
  have hst:=I.vec_set hk hold (sz:=i.size) (by unfold sizeT; rw [hi]; rfl) e2 (by
    intro u hu
    rcases List.mem_append.1 hu with h | h
    · exact hx1 u h
    · exact hn1 u h) e3 e4
  refine ⟨v',w',_,e1,hst,?_,?_,by simp [Env.grow],by simp [Env.grow],by simp [Env.grow]⟩
  · have hv':∃ ad cap,v'=.slice ad (d.len+d'.len) cap∧d.len+d'.len≤cap∧cap≤maxLen∧(ad=none→cap=0)∧∀ b,v'.ownBlock=some b→ad=some ⟨b,0,none⟩:=by
      rcases e2.2 with ⟨rfl,h0⟩ | ⟨g,cap,cur,rfl,_,_,h1,h2,_⟩
      · exact ⟨none,0,by rw [h0],by omega,Nat.zero_le _,fun _=>rfl,fun b hb=>by cases hb⟩
      · exact ⟨some ⟨g,0,none⟩,cap,rfl,h1,h2,(fun h=>by cases h),(fun b hb=>by cases hb; rfl)⟩
    obtain ⟨ad,cap,f1,f2,f3,f4,f5⟩:=hv'
    refine ⟨by rw [app_len hle]; exact hbz,ad,cap,by rw [app_len hle]; exact f1,by rw [app_len hle]; exact f2,f3,f4,fun hne=>?_⟩
    rw [app_len hle] at hne
    obtain ⟨b,hbo⟩:∃ b,v'.ownBlock=some b:=by
      rcases e2.2 with ⟨rfl,h0⟩ | ⟨g,_,_,rfl,_⟩
      · omega
      · exact ⟨g,rfl⟩
    refine ⟨b,0,f5 b hbo,fun q hq=>?_⟩
    rw [app_len hle] at hq
    rw [app_get hle]
    have hxl:xs.length=d.len*i.size:=hown.1
    have hZb:∀ j,(E.grow k v' h.ng e m (xs ++ news)).Z b j=(xs ++ news)[j]?:=fun j=>by simp only [Env.grow,if_pos hbo]
    by_cases hqd:q<d.len
    · rw [if_pos hqd]
      obtain ⟨_,ad0,cap0,rfl,g1,g2,g3,g4⟩:=hv
      obtain ⟨b0,o0,rfl,g5⟩:=g4 (by omega)
      have ho0:o0=0:=by
        rcases hown.2 with ⟨h0,_⟩ | ⟨g,_,_,h0,_⟩
        · cases h0
        · injection h0 with h0 _ _; injection h0 with h0; injection h0
      subst ho0
      refine el_move hst.ext.Z (g5 q hqd) fun t u ht hu=>?_
      rw [hZb]
      rw [(hold b0 rfl).2.2] at hu
      rw [List.getElem?_append_left (List.getElem?_eq_some_iff.1 hu).1]
      exact hu
    · rw [if_neg hqd]
      obtain ⟨bs,os,_,g5,g6⟩:=hnz (by omega)
      refine el_move hst.ext.Z (g5 (q - d.len) (by omega)) fun t u ht hu=>?_
      rw [hZb]
      have hidx:0+q*es.length+t=xs.length+((q - d.len)*es.length+t):=by
        rw [hxl,hes]
        have:q*i.size=d.len*i.size+(q - d.len)*i.size:=by rw [← Nat.add_mul]; congr 1; omega
        omega
      rw [hidx,List.getElem?_append_right (by omega),Nat.add_sub_cancel_left]
      have hlt:(q - d.len)*es.length+t<news.length:=by
        rw [hnl,← hes]
        have:(q - d.len)*es.length+es.length≤d'.len*es.length:=by rw [← Nat.succ_mul]; exact Nat.mul_le_mul_right _ (by omega)
        omega
      have:=g6 _ _ (List.getElem?_eq_getElem hlt)
      rw [← Nat.add_assoc,hu] at this
      rw [List.getElem?_eq_getElem hlt]
      exact this.symm
  · rcases hk with ⟨h1,rfl,_⟩ | ⟨rfl,rfl,_⟩
    · exact h1
    · exact Nat.lt_succ_self _
theorem ble_lt {n:Nat} (h:Nat.ble 1 n=true):0<n:=Nat.le_of_ble_eq_true h
theorem appendA_ok {K:AV×Hp→Prop} {t ty:TypeId} {s x:AV} {vs vx:Value} (H:(appendA P t s x h).holds K) (I:Inv P w0 G E h w) (hs:Rel E s vs) (hx:Rel E x vx) :
    ∃ av h' u w' E',K (av,h')∧(Builtin.append_ #[t,t] ty #[vs,vx]).run P w=.ok u w'∧Stepd P w0 G E h w E' h' w'∧Rel E' av u:=by
  unfold appendA at H
  split at H
  · exact H.elim
  rename_i e he
  have hu:=elemA_ok he
  split at H
  · exact H.elim
  rename_i i hi
  split at H
  · exact H.elim
  rename_i z hz
  cases hb:Nat.beq z.cells.size i.size&&Nat.ble 1 i.size&&Nat.ble 1 i.bytes&&Nat.beq (shE P e).length i.size&&Nat.ble i.bytes (szB (shE P e))
  · rw [hb] at H; exact H.elim
  rw [hb] at H
  simp only [Bool.and_eq_true,cond_true] at hb H
  obtain ⟨⟨⟨⟨b1,b2⟩,b3⟩,b4⟩,b5⟩:=hb
  have hbb:=Nat.le_of_ble_eq_true b5
  have hzs:=Nat.eq_of_beq_eq_true b1
  have hes:=Nat.eq_of_beq_eq_true b4
  split at H
  · exact H.elim
  rename_i k2 es' d' hasl
  have hsrc:=asSl_ok hasl hx
  split at H
  · rename_i k1 es d k g
    obtain ⟨hv,hkm,hgn,hcur⟩:=hs
    have hknv:k<h.nv:=by rw [← I.m]; exact hkm
    split at H
    · rename_i g' e' hlg
      cases hc:Nat.beq g g'&&Nat.beq e e'&&Sh.eqsL es es'&&Sh.eqsL es (shE P e)
      · rw [hc] at H; exact H.elim
      rw [hc] at H
      simp only [Bool.and_eq_true,cond_true] at hc H
      obtain ⟨⟨⟨c1,c2⟩,c3⟩,c4⟩:=hc
      obtain rfl:=Nat.eq_of_beq_eq_true c1
      obtain rfl:=Nat.eq_of_beq_eq_true c2
      obtain rfl:=Sh.eqsL_eq _ _ c3
      have hes':=Sh.eqsL_eq _ _ c4
      have hH:(d.len+d'.len)*szB es≤room∧K (.sl (k1&&k2) es (d.app d') (some (k,h.ng)),{ h with gn:=(k,h.ng,e) :: h.gn,ng:=h.ng+1 }):=by
        cases h0:k1&&Nat.beq d.len 0
        · rw [h0] at H
          obtain ⟨hroom,H⟩:=need_holds H
          exact ⟨of_decide_eq_true hroom,H⟩
        · rw [h0] at H
          simp only [Bool.and_eq_true] at h0
          have h00:=Nat.eq_of_beq_eq_true h0.2
          exact ⟨by rw [h00,Nat.zero_add]; exact hsrc.1,H⟩
      obtain ⟨hroom',H⟩:=hH
      have hgn2:=(I.gn k hknv).symm.trans hlg
      injection hgn2 with hgn2
      have hg1:E.gn k=g:=congrArg Prod.fst hgn2
      have hg2:E.ve k=e:=congrArg Prod.snd hgn2
      obtain ⟨sz,n,xs,f1,f2,f3,f4⟩:=I.vec k hknv
      have hsz:sz=i.size:=by rw [hg2] at f1; unfold sizeT at f1; rw [hi] at f1; exact (Option.some.inj f1).symm
      subst hsz
      rw [hg2,← hcur hg1] at f2
      rw [← hcur hg1] at f4
      obtain ⟨v',w',E',e1,e2,e3,e4,e5,e6,e7⟩:=append_core (ty:=ty) I hu hi hz hzs (ble_lt b2) (ble_lt b3) (es:=es) (by rw [hes']; exact hes) (k:=k) (m:=h.nv) (.inl ⟨hknv,rfl,(hcur hg1).symm⟩) f2 f3 f4 hv hsrc hroom' (by rw [hes']; exact hbb)
      exact ⟨_,_,v',w',E',H,e1,e2,e3,e4,e5,fun _=>e7⟩
    · exact H.elim
  · obtain ⟨rfl,_⟩:=hs
    cases hc:Sh.eqsL (shE P e) es'
    · rw [hc] at H; exact H.elim
    rw [hc] at H
    obtain rfl:=Sh.eqsL_eq _ _ hc
    have hroom':=hsrc.1
    have h0:(D.l []).len=0:=by simp [D.len,D.toL,D.raw]
    obtain ⟨v',w',E',e1,e2,e3,e4,e5,e6,e7⟩:=append_core (ty:=ty) (v:=.slice none 0 0) (d:=.l []) I hu hi hz hzs (ble_lt b2) (ble_lt b3) hes (k:=h.nv) (m:=h.nv+1) (.inr ⟨rfl,rfl,rfl⟩) (n:=0) (xs:=[]) ⟨by simp,.inl ⟨rfl,rfl⟩⟩ (by simp) (fun b hb=>by cases hb)
      ⟨by rw [h0,Nat.zero_mul]; exact Nat.zero_le _,none,0,by rw [h0],by rw [h0]; exact Nat.le_refl _,Nat.zero_le _,fun _=>rfl,fun hn=>absurd h0 hn⟩ hsrc (by rw [h0,Nat.zero_add]; exact hroom') hbb
    exact ⟨_,_,v',w',E',H,e1,e2,e3,e4,e5,fun _=>e7⟩
  · exact H.elim
theorem foldl_push_int:∀ (l:List Int) (s:ByteArray),l.foldl (fun r n=>r.push (UInt8.ofNat n.toNat)) s=⟨s.data ++ (l.map fun n=>UInt8.ofNat n.toNat).toArray⟩
  | [],s=>by simp
  | b :: l,s=>by
    rw [List.foldl_cons,foldl_push_int l]
    simp [ByteArray.push]
theorem convA_ok {K:AV→Prop} {src dst:TypeId} {x:AV} {v:Value} (H:(convA P src dst x h).holds K) (I:Inv P w0 G E h w) (hx:Rel E x v) :
    ∃ av u,K av∧(∀ W,Sees E x w W→(convert src dst v).run P W=.ok u W)∧Rel E av u:=by
  unfold convA at H
  split at H
  · rename_i k hs hd
    obtain ⟨rfl,_⟩:=hx
    exact ⟨_,_,H,fun W hW=>by simp [convert,run_underlying hs,run_underlying hd,Conv.intToInt],rfl,rfl⟩
  · rename_i e kn es d tip hs hd
    obtain ⟨hl,_⟩:=hx
    split at H
    · rename_i he
      obtain ⟨_,ad,cap,rfl,g1,g2,g3,g4⟩:=hl
      by_cases h0:d.len=0
      · have hstr:d.str=.empty:=by
          have:d.toL=[]:=List.eq_nil_of_length_eq_zero h0
          unfold D.str; rw [this]; rfl
        refine ⟨_,.string .empty,H,fun W hW=>?_,by rw [hstr],rfl⟩
        cases ad with
        | none=>rw [h0]; exact run_convert_bytes_nil W src e hs he 0 cap dst hd
        | some x =>
          have hl:(loadCells x d.len).run P W=.ok (([]:List Int).map (Value.int .u8)).toArray W:=by rw [h0]; rfl
          rw [run_convert_bytes_string W src dst e _ _ cap hs he hd,run_bytesToString W _ _ cap _ hl]
          rfl
      · obtain ⟨b,o,rfl,g5⟩:=g4 h0
        have hl:∀ W,Sees E (.sl kn [.int .u8] d tip) w W→(loadCells ⟨b,o,none⟩ d.len).run P W=.ok ((d.toL.map fun e=>(e.cell 0).toI).map (Value.int .u8)).toArray W:=fun W hW=>by
          have:=run_loadCells_list (P:=P) W ⟨b,o,none⟩ ((d.toL.map fun e=>(e.cell 0).toI).map (Value.int .u8)) (fun j u hu=>by
            rw [addr_add']
            have hj:j<d.len:=by
              rcases Nat.lt_or_ge j d.len with h | h
              · exact h
              · rw [List.getElem?_eq_none (by simpa [D.len] using h)] at hu; cases hu
            obtain ⟨⟨c,hc,hlf⟩,_⟩:=g5 j hj
            simp only [List.length_cons,List.length_nil,Nat.zero_add,Nat.mul_one] at hc
            rw [hW.1 _ _ _ hc,← hu]
            have hlf':c=.int .u8 ((d.get j).cell 0).toI:=hlf
            rw [hlf']
            unfold D.get
            have hj':j<d.toL.length:=hj
            rw [List.getElem?_map,List.getElem?_map,List.getElem?_eq_getElem hj',List.getD_eq_getElem?_getD,List.getElem?_eq_getElem hj']
            rfl)
          simpa [D.len] using this
        refine ⟨_,.string d.str,H,fun W hW=>?_,rfl,rfl⟩
        rw [run_convert_bytes_string W src dst e _ _ cap hs he hd,run_bytesToString W _ _ cap _ (hl W hW),foldl_push_int]
        simp [ByteArray.empty,ByteArray.emptyWithCapacity,D.str,Function.comp_def]
        rfl
    · exact H.elim
  · rename_i e kn hs hd
    obtain ⟨rfl,_⟩:=hx
    split at H
    · rename_i he
      exact ⟨_,_,H,fun W _=>run_convert_bytes_nil W src e hs he 0 0 dst hd,rfl,rfl⟩
    · exact H.elim
  · exact H.elim
end
end
end Go.Proofs.YtbgmclbcjdbcmaaGreat
namespace Go.Proofs.YtbgmclbcjdbcmaaGreat
set_option linter.unusedSimpArgs false
set_option linter.unusedVariables false
open Go.RowKit
set_option maxRecDepth 10000
noncomputable section
def CallOk (P:Program) (call:FuncId→Spec):Prop:=∀ g args h K,(call g args h).holds K→((plainF P g).isSome=true∧noGor P=true)∧∀ w0 G E w vals,Inv P w0 G E h w→RelL E args vals →
  Calls P g vals.toArray w fun e w'=>∃ r h' v E',K (r,h')∧e=.returned v∧Stepd P w0 G E h w E' h' w'∧Rel E' r v
theorem callFunc_plain {P:Program} {g:FuncId} {vals:Array Value} {w:World} (hh:(plainF P g).isSome=true∧noGor P=true):(callFunc g vals).run P w=.ok (.enter g vals) w:=by
  obtain ⟨h,hng⟩:=hh
  unfold plainF at h
  split at h
  · rename_i fn hf
    split at h
    · rename_i c hc
      have hmem:fn ∈ P.funcs.toList:=by
        obtain ⟨hlt,he⟩:=Array.getElem?_eq_some_iff.1 hf
        exact he ▸ Array.getElem_mem_toList hlt
      have hn:=List.all_eq_true.1 hng fn hmem
      have hn':¬ fn.name = "runtime.NumGoroutine":=by simpa using hn
      simp [callFunc,hf,hn',hc]
    · cases h
  · cases h
section
variable {P:Program} {E:Env} {F:Tm} {h:Hp} {w w0:World} {G:Nat→Prop} {a:Act} {Q:Exit→Act→World→Prop}
theorem v_holds {r:RT AV} {K:AV×Hp→Prop} (H:(r.bind fun a=>.ok (a,h)).holds K):r.holds fun a=>K (a,h):=by rw [RT.holds_bind] at H; exact H
def SeesO (E:Env) (F:Tm) (o:Oper) (w W:World):Prop:=(∀ b j v,E.Z b j=some v→W.cell? ⟨b,j,none⟩=some v)∧∀ t x b,o.op=.load t x→tgt (opnd F x)=some b→W.heap[E.β b]?=w.heap[E.β b]?
set_option maxHeartbeats 1000000 in
theorem evEarly_ok {call:FuncId→Spec} {o:Oper} {K:AV×Hp→Prop} (he:earlyA o=true) (H:(evOp P call o F h).holds K) (I:Inv P w0 G E h w) (hT:RelT E F a) :
    ∃ av v,K (av,h)∧Rel E av v∧∀ W,SeesO E F o w W→(execOp a.eval o).run P W=.ok (.value v) W:=by
  have val:∀ {s:Sem Value},execOp a.eval o=(do pure (.value (← s)))→(∃ av u,K (av,h)∧(∀ W,s.run P W=.ok u W)∧Rel E av u)→∃ av v,K (av,h)∧Rel E av v∧∀ W,SeesO E F o w W→(execOp a.eval o).run P W=.ok (.value v) W:=by
    rintro s hs ⟨av,u,h1,h2,h3⟩
    refine ⟨av,u,h1,h3,fun W _=>?_⟩
    rw [hs]
    simp only [Sem.run_bind,h2,Result.andThen_ok,Sem.run_pure]
  have pur:∀ {av:AV} {v:Value},execOp a.eval o=pure (.value v)→K (av,h)→Rel E av v→∃ av v,K (av,h)∧Rel E av v∧∀ W,SeesO E F o w W→(execOp a.eval o).run P W=.ok (.value v) W:=by
    intro av v hs h1 h2
    refine ⟨av,v,h1,h2,fun W _=>?_⟩
    rw [hs]
    rfl
  obtain ⟨dst,op,type,pos,after,guard⟩:=o
  cases op <;> simp only [evOp] at H <;> first | (exact H.elim) | skip
  case alloc e=>cases he
  case box e x=>cases he
  case makeMap t r=>cases he
  case lookup t m k two=>cases he
  case mapUpdate t m k x=>cases he
  case buildSlice t n ps=>cases he
  case store t x y=>cases he
  case move x=>exact pur rfl H (rel_opnd hT x)
  case assign x=>exact pur rfl H (rel_opnd hT x)
  case pick c x y =>
    have hc:=rel_opnd hT c
    split at H
    · rename_i kn b hcb
      rw [hcb] at hc
      have hcv:a.eval c=.bool b:=hc.1
      rcases brk_holds H with ⟨rfl,H2⟩ | ⟨rfl,H2⟩
      · exact pur (v:=a.eval x) (by simp only [execOp,hcv]; rfl) H2 (rel_opnd hT x)
      · exact pur (v:=a.eval y) (by simp only [execOp,hcv]; rfl) H2 (rel_opnd hT y)
    · exact H.elim
  case build t ps=>exact val (s:=Instr.build t _) rfl (buildA_ok (by simp) hT (v_holds H))
  case load t x =>
    obtain ⟨av,u,h1,h2,h3⟩:=loadA_ok (v_holds H) I (rel_opnd hT x)
    refine ⟨av,u,h1,h3,fun W hW=>?_⟩
    have:=h2 W ⟨hW.1,fun o hx=>hW.2 t x o rfl hx⟩
    simp only [execOp,Sem.run_bind,this,Result.andThen_ok,Sem.run_pure]
  case nilCheck x =>
    have hx:=rel_opnd hT x
    split at H
    · rename_i o off hxo
      rw [hxo] at hx
      obtain ⟨hl,hv⟩:=hx
      exact pur (v:=a.eval x) (by simp only [execOp,hv]) H ⟨hl,hv⟩
    · rename_i kn es d j hxo
      rw [hxo] at hx
      obtain ⟨b,o,hv,he⟩:=hx
      exact pur (v:=a.eval x) (by simp only [execOp,hv]) H ⟨b,o,hv,he⟩
    · rename_i kn o n i j hxo
      rw [hxo] at hx
      obtain ⟨hl,hv⟩:=hx
      exact pur (v:=a.eval x) (by simp only [execOp,hv]) H ⟨hl,hv⟩
    · rename_i f c d hxo
      rw [hxo] at hx
      obtain ⟨a',c',hv,g1,g2⟩:=hx
      exact pur (v:=a.eval x) (by simp only [execOp,hv]) H ⟨a',c',hv,g1,g2⟩
    · exact H.elim
  case binOp op t x y yt=>exact val (s:=do eqGuard op t x y (a.eval x) (a.eval y); Go.binOp op t (a.eval x) (a.eval y)) rfl (binA_ok (v_holds H) (rel_opnd hT x) (rel_opnd hT y))
  case unOp op t x=>exact val (s:=Op.unary op (a.eval x)) rfl (unA_ok (v_holds H) (rel_opnd hT x))
  case convert s d x =>
    obtain ⟨av,u,h1,h2,h3⟩:=convA_ok (v_holds H) I (rel_opnd hT x)
    refine ⟨av,u,h1,h3,fun W hW=>?_⟩
    have hp:∀ o,tgt (opnd F x)≠some o:=fun o hx=>by
      have H':=v_holds H
      revert hx H'
      generalize opnd F x=X
      intro hx H'
      unfold convA at H'
      split at H' <;> first | exact H'.elim | (simp only [tgt] at hx; cases hx)
    have:=h2 W ⟨hW.1,fun o hx=>absurd hx (hp o)⟩
    simp only [execOp,Sem.run_bind,this,Result.andThen_ok,Sem.run_pure]
  case makeFunc f x c =>
    refine val (s:=Instr.makeFunc f (x.map a.eval) (c.map a.eval)) rfl ⟨_,_,H,fun W=>rfl,_,_,rfl,?_,?_⟩
    · simpa using rel_map hT x.toList
    · simpa using rel_map hT c.toList
  case slice t x lo hi mx=>exact val (s:=Instr.sliceAt t (a.eval x) (lo.map a.eval) (hi.map a.eval) (mx.map a.eval)) rfl (sliceA_ok hT (v_holds H) (rel_opnd hT x))
  case fieldAddr s x f=>exact val (s:=Instr.fieldAt s (a.eval x) f) rfl (fieldAddrA_ok (v_holds H) (rel_opnd hT x))
  case indexAddr t x i=>exact val (s:=Instr.indexAt t (a.eval x) (a.eval i)) rfl (indexAddrA_ok (v_holds H) (rel_opnd hT x) (rel_opnd hT i))
  case index t x i=>exact val (s:=Instr.index t (a.eval x) (a.eval i)) rfl (indexA_ok (v_holds H) (rel_opnd hT x) (rel_opnd hT i))
  case field t x f=>exact val (s:=Instr.field t (a.eval x) f) rfl (fieldA_ok (v_holds H) (rel_opnd hT x))
  case extract t i =>
    have ht:=rel_opnd hT t
    split at H
    · rename_i vs hvs
      rw [hvs] at ht
      obtain ⟨vs',hv,hr⟩:=ht
      split at H
      · rename_i av hi
        obtain ⟨u,hu,hru⟩:=RelL.get hr hi
        have hu':vs'[i]?=some u:=by simpa using hu
        refine val (s:=Instr.extract (a.eval t) i) rfl ⟨av,u,H,fun W=>?_,hru⟩
        simp [Instr.extract,hv,hu']
      · exact H.elim
    · exact H.elim
  case call c =>
    obtain ⟨callee,args,ts⟩:=c
    cases callee with
    | invoke r m=>exact H.elim
    | value f=>cases he
    | builtin b =>
      simp only at H
      have hexec:∀ s:Sem Value,Go.builtin b ts type (args.map fun | .const _=>true | _=>false) (args.map a.eval)=(do pure (.value (← s)))→execOp a.eval { dst:=dst,op:=.call ⟨.builtin b,args,ts⟩,type:=type,pos:=pos,after:=after,guard:=guard }=(do pure (.value (← s))):=fun s hs=>by
        simp only [execOp,resolve]
        exact hs
      unfold builtinA at H
      split at H
      · rename_i x hx
        split at H
        · rename_i t ht
          have H:=v_holds H
          obtain ⟨y,hy⟩:∃ y,args.toList=[y]:=by
            cases hl:args.toList with
            | nil=>rw [hl] at hx; cases hx
            | cons y l=>cases l with
              | nil=>exact ⟨y,rfl⟩
              | cons _ _=>rw [hl] at hx; simp at hx
          rw [hy] at hx
          simp only [List.map_cons,List.map_nil,List.cons.injEq,and_true] at hx
          have hargs:args.map a.eval=#[a.eval y]:=by apply Array.ext'; simp [hy]
          have hts:ts=#[t]:=by apply Array.ext'; simpa using ht
          have hxr:=rel_opnd hT y
          rw [hx] at hxr
          refine val (hexec (Builtin.len_ ts type (args.map a.eval)) rfl) ?_
          rw [hargs,hts]
          exact lenA_ok H hxr
        · exact H.elim
      · cases he
      · have H:=v_holds H
        refine val (hexec (Builtin.min_ ts type (args.map a.eval)) rfl) ?_
        have:=minA_ok (P:=P) (ts:=ts) (ty:=type) hT H
        rwa [show ((args.toList.map a.eval).toArray)=args.map a.eval by apply Array.ext'; simp] at this
      · have H:=v_holds H
        refine val (hexec (Builtin.max_ ts type (args.map a.eval)) rfl) ?_
        have:=maxA_ok (P:=P) (ts:=ts) (ty:=type) hT H
        rwa [show ((args.toList.map a.eval).toArray)=args.map a.eval by apply Array.ext'; simp] at this
      · exact H.elim
theorem seesO_self (I:Inv P w0 G E h w) (o:Oper):SeesO E F o w w:=⟨I.z,fun _ _ _ _ _=>rfl⟩
set_option maxHeartbeats 1000000 in
theorem evOp_ok {call:FuncId→Spec} (hcall:CallOk P call) {o:Oper} {K:AV×Hp→Prop} {next:Act→World→Prop} (H:(evOp P call o F h).holds K) (I:Inv P w0 G E h w) (hT:RelT E F a)
    (hn:∀ av h' v w' E',K (av,h')→Stepd P w0 G E h w E' h' w'→Rel E' av v→next (a.put o.dst v) w'):o.wp P a w next Q:=by
  cases he:earlyA o
  case true =>
    obtain ⟨av,v,h1,h2,h3⟩:=evEarly_ok he H I hT
    unfold Oper.wp
    rw [h3 w (seesO_self I o),Oper.upon_value]
    exact hn _ _ _ _ _ h1 (Stepd.refl I) h2
  have chg:∀ {s:Sem Value},execOp a.eval o=(do pure (.value (← s)))→(∃ av h' u w' E',K (av,h')∧s.run P w=.ok u w'∧Stepd P w0 G E h w E' h' w'∧Rel E' av u)→o.wp P a w next Q:=by
    rintro s hs ⟨av,h',u,w',E',h1,h2,h3,h4⟩
    unfold Oper.wp
    rw [hs]
    simp only [Sem.run_bind,h2,Result.andThen_ok,Sem.run_pure,Oper.upon_value]
    exact hn _ _ _ _ _ h1 h3 h4
  obtain ⟨dst,op,type,pos,after,guard⟩:=o
  cases op <;> simp only [evOp] at H <;> first | (exact H.elim) | (cases he; done) | skip
  case alloc e =>
    split at H
    · rename_i cs hz
      obtain ⟨z,hzr,_,g1,g2⟩:=zeroA_ok (E:=E) hz
      obtain ⟨E',h1,h2⟩:=newA_ok (h:=h) e I g1 g2
      refine chg (s:=Instr.alloc e true (.tuple #[])) rfl ⟨_,_,_,_,E',H,?_,h1,h2⟩
      simp [Instr.alloc,hzr,newVar,newRow,newObj]
      rfl
    · exact H.elim
  case box e x =>
    split at H
    · rename_i cs hc
      obtain ⟨g1,g2⟩:=rel_cells (rel_opnd hT x) hc
      obtain ⟨E',h1,h2⟩:=newA_ok (h:=h) e I g1 g2
      refine chg (s:=Instr.box e (a.eval x)) rfl ⟨_,_,_,_,E',H,?_,h1,h2⟩
      simp [Instr.box,newVar,newRow,newObj]
      rfl
    · exact H.elim
  case buildSlice t n ps=>exact chg (s:=Instr.buildSlice t n _) rfl (buildSliceA_ok (by simp) hT I H)
  case makeMap t r =>
    cases r with
    | none =>
      obtain ⟨E',h1,h2⟩:=newM_ok I
      refine chg (s:=Instr.makeMap t none) rfl ⟨_,_,_,_,E',H,?_,h1,h2⟩
      simp [Instr.makeMap,newObj]
      rfl
    | some r=>exact H.elim
  case lookup t m k two =>
    obtain ⟨av,u,h1,h2,h3⟩:=lookupA_ok (v_holds H) I (rel_opnd hT m) (rel_opnd hT k)
    exact chg (s:=Instr.lookup t (a.eval m) (a.eval k) two) rfl ⟨_,_,_,_,E,h1,h2,Stepd.refl I,h3⟩
  case mapUpdate t m k x =>
    rw [RT.holds_bind] at H
    obtain ⟨h',w',h1,h2,h3⟩:=updateA_ok H I (rel_opnd hT m) (rel_opnd hT k) (rel_opnd hT x)
    unfold Oper.wp
    have:(execOp a.eval { dst:=dst,op:=.mapUpdate t m k x,type:=type,pos:=pos,after:=after,guard:=guard }).run P w=.ok .skip w':=by
      simp only [execOp,Sem.run_bind,h2,Result.andThen_ok,Sem.run_pure]
    rw [this,Oper.upon_skip]
    exact hn _ _ _ _ _ h1 h3 trivial
  case store t x y =>
    rw [RT.holds_bind] at H
    obtain ⟨h',w',h1,h2,h3⟩:=storeA_ok H I (rel_opnd hT x) (rel_opnd hT y)
    unfold Oper.wp
    have:(execOp a.eval { dst:=dst,op:=.store t x y,type:=type,pos:=pos,after:=after,guard:=guard }).run P w=.ok .skip w':=by
      simp only [execOp,Sem.run_bind,h2,Result.andThen_ok,Sem.run_pure]
    rw [this,Oper.upon_skip]
    exact hn _ _ _ _ _ h1 h3 trivial
  case call c =>
    obtain ⟨callee,args,ts⟩:=c
    cases callee with
    | invoke r m=>exact H.elim
    | value f =>
      have hf:=rel_opnd hT f
      simp only at H
      split at H
      · rename_i g x cap hfo
        rw [hfo] at hf
        obtain ⟨x',cap',hv,g1,g2⟩:=hf
        obtain ⟨hpl,hc⟩:=hcall _ _ _ _ H
        have hrel:=(g1.append (rel_map hT args.toList)).append g2
        have hC:=hc w0 G E w _ I hrel
        unfold Oper.wp
        have hrun:(execOp a.eval { dst:=dst,op:=.call ⟨.value f,args,ts⟩,type:=type,pos:=pos,after:=after,guard:=guard }).run P w=.ok (.enter g (x'.toList ++ args.toList.map a.eval ++ cap'.toList).toArray) w:=by
          have harr:(x' ++ args.map a.eval) ++ cap'=(x'.toList ++ args.toList.map a.eval ++ cap'.toList).toArray:=by
            apply Array.ext'; simp
          simp only [execOp,resolve,hv,Deferred.ofValue,Sem.run_bind,Sem.run_pure,Result.andThen_ok,invoke]
          rw [callFunc_plain hpl,harr]
        rw [hrun,Oper.upon_enter]
        refine hC.mono ?_
        rintro e w' ⟨r,h',v,E',k1,rfl,k2,k3⟩
        exact hn _ _ _ _ _ k1 k2 k3
      · exact H.elim
    | builtin b =>
      simp only at H
      have hexec:∀ s:Sem Value,Go.builtin b ts type (args.map fun | .const _=>true | _=>false) (args.map a.eval)=(do pure (.value (← s)))→execOp a.eval { dst:=dst,op:=.call ⟨.builtin b,args,ts⟩,type:=type,pos:=pos,after:=after,guard:=guard }=(do pure (.value (← s))):=fun s hs=>by
        simp only [execOp,resolve]
        exact hs
      unfold builtinA at H
      split at H
      · cases he
      · rename_i s x hx
        split at H
        · rename_i t t' ht
          cases hb:Nat.beq t t'
          · rw [hb] at H; exact H.elim
          rw [hb] at H
          simp only [cond_true] at H
          obtain rfl:=Nat.eq_of_beq_eq_true hb
          obtain ⟨y,z,hy⟩:∃ y z,args.toList=[y,z]:=by
            cases hl:args.toList with
            | nil=>rw [hl] at hx; cases hx
            | cons y l=>cases l with
              | nil=>rw [hl] at hx; simp at hx
              | cons z l=>cases l with
                | nil=>exact ⟨y,z,rfl⟩
                | cons _ _=>rw [hl] at hx; simp at hx
          rw [hy] at hx
          simp only [List.map_cons,List.map_nil,List.cons.injEq,and_true] at hx
          have hargs:args.map a.eval=#[a.eval y,a.eval z]:=by apply Array.ext'; simp [hy]
          have hts:ts=#[t,t]:=by apply Array.ext'; simpa using ht
          have h1:=rel_opnd hT y
          have h2:=rel_opnd hT z
          rw [hx.1] at h1
          rw [hx.2] at h2
          refine chg (hexec (Builtin.append_ ts type (args.map a.eval)) rfl) ?_
          rw [hargs,hts]
          exact appendA_ok H I h1 h2
        · exact H.elim
      · cases he
      · cases he
      · exact H.elim
theorem setA_ok (hT:RelT E F a) {d:Nat} {kn b:Bool} (hl:look d F.tm=.sc kn (.bool b)):RelT E (setA F d b) a:=by
  refine ⟨hT.sz,fun i=>?_,hT.df⟩
  have h0:=hT.tm d
  rw [hl] at h0
  simp only [setA,look_cons]
  cases hb:Nat.beq d i
  · exact hT.tm i
  · obtain rfl:=Nat.eq_of_beq_eq_true hb
    exact ⟨h0.1,rfl⟩
theorem putA_ok {K:Tm→Prop} {dst:Option Tmp} {v:AV} {u:Value} (H:(putA F dst v).holds K) (hT:RelT E F a) (hr:Rel E v u):∃ F',K F'∧RelT E F' (a.put dst u):=by
  unfold putA at H
  split at H
  · exact ⟨F,H,hT⟩
  · rename_i d
    cases hb:Nat.blt d F.nt
    · rw [hb] at H; exact H.elim
    · rw [hb] at H
      refine ⟨_,H,by simp only [Act.put,Array.size_setIfInBounds]; exact hT.sz,fun i=>?_,hT.df⟩
      have hd:d<a.tmps.size:=by rw [hT.sz]; exact Nat.lt_of_lt_of_le (Nat.lt_succ_self d) (Nat.le_of_ble_eq_true hb)
      simp only [look_cons,Act.put]
      cases hi:Nat.beq d i
      · have:d≠i:=fun e=>by rw [e] at hi; simp at hi
        have h2:=hT.tm i
        rw [Array.getD_eq_getD_getElem?] at h2 ⊢
        rw [Array.getElem?_setIfInBounds_ne this]
        exact h2
      · obtain rfl:=Nat.eq_of_beq_eq_true hi
        rw [Array.getD_eq_getD_getElem?,Array.getElem?_setIfInBounds_self_of_lt hd]
        exact hr
theorem put_defers {dst:Option Tmp} {u:Value}:(a.put dst u).defers=a.defers:=by unfold Act.put; split <;> rfl
theorem deferA_ok {K:Tm→Prop} {o:Oper} {r:RT Tm} (hr:deferA o F=some r) (H:r.holds K) (hT:RelT E F a):∃ F' d,K F'∧RelT E F' ({ a with defers:=d :: a.defers }.put o.dst undef)∧(execOp a.eval o).run P w=.ok (.defer d) w:=by
  unfold deferA at hr
  split at hr
  · rename_i c hc
    cases hr
    obtain ⟨callee,args,ts⟩:=c
    cases callee with
    | invoke _ _=>exact H.elim
    | builtin _=>exact H.elim
    | value f =>
      simp only at H
      have hf:=rel_opnd hT f
      split at H
      · rename_i g x cap hfo
        rw [hfo] at hf
        obtain ⟨x',cap',hv,g1,g2⟩:=hf
        have hT':RelT E { F with df:=(g,x ++ args.toList.map (opnd F) ++ cap) :: F.df } { a with defers:=⟨.fn (.func g) cap',x' ++ args.map a.eval⟩ :: a.defers } :=
          ⟨hT.sz,hT.tm,_,_,_,rfl,by simpa using (g1.append (rel_map hT args.toList)).append g2,hT.df⟩
        obtain ⟨F',k1,k2⟩:=putA_ok (u:=undef) H hT' trivial
        refine ⟨F',_,k1,k2,?_⟩
        simp only [execOp,hc,resolve,hv,Deferred.ofValue,Sem.run_bind,Sem.run_pure,Result.andThen_ok]
      · exact H.elim
  · cases hr
def Cont (P:Program) (w0:World) (G:Nat→Prop) (E:Env) (h:Hp) (w:World) (K:Tm×Hp→Prop) (next:Act→World→Prop):Prop :=
  ∀ F' h' E' a' w',K (F',h')→Stepd P w0 G E h w E' h' w'→RelT E' F' a'→next a' w'
theorem evStep_ok {call:FuncId→Spec} (hcall:CallOk P call) {ops:Array Oper} {o:Oper} {K:Tm×Hp→Prop} {next:Act→World→Prop} (H:(evStep P call ops o F h).holds K) (I:Inv P w0 G E h w) (hT:RelT E F a)
    (hn:Cont P w0 G E h w K next):if Region.wanted o (yielded ops a.tmps)=true then o.wp P a w next Q∨(o.asks P a w∧LetsOut Q) else next (a.put o.dst undef) w:=by
  have go:∀ F,RelT E F a→(match deferA o F with
      | some r=>r.bind fun F=>.ok (F,h)
      | none=>(evOp P call o F h).bind fun r=>(putA F o.dst r.1).bind fun F=>.ok (F,r.2):RT (Tm×Hp)).holds K→o.wp P a w next Q:=fun F hT H=>by
    split at H
    · rename_i r hr
      rw [RT.holds_bind] at H
      obtain ⟨F',a',h1,h2,h3⟩:=deferA_ok hr H hT
      unfold Oper.wp
      rw [h3,Oper.upon_defer]
      exact hn _ _ _ _ _ h1 (Stepd.refl I) h2
    rw [RT.holds_bind] at H
    refine evOp_ok hcall H I hT fun av h' v w' E' hk hs hr=>?_
    rw [RT.holds_bind] at hk
    obtain ⟨F',k1,k2⟩:=putA_ok hk (hT.mono hs.ext) hr
    exact hn _ _ _ _ _ k1 hs k2
  have skip:∀ F,RelT E F a→((putA F o.dst (.tup [])).bind fun F=>.ok (F,h)).holds K→next (a.put o.dst undef) w:=fun F hT H=>by
    rw [RT.holds_bind] at H
    obtain ⟨F',k1,k2⟩:=putA_ok (u:=undef) H hT ⟨#[],rfl,rfl⟩
    exact hn _ _ _ _ _ k1 (Stepd.refl I) k2
  unfold evStep guardA at H
  split at H
  · rename_i hg
    have hw:Region.wanted o (yielded ops a.tmps)=true:=by simp [Region.wanted,hg]
    rw [if_pos hw]
    exact .inl (go F hT H)
  · rename_i j want hg
    split at H
    · exact H.elim
    · rename_i d hd
      split at H
      · rename_i kn b hl
        have hv:=hT.tm d
        rw [hl] at hv
        have hy:yielded ops a.tmps j=some b:=by
          unfold yielded
          rw [hd]
          have hv1:=hv.1
          rw [Array.getD_eq_getD_getElem?] at hv1
          cases ht:a.tmps[d]? with
          | none=>rw [ht] at hv1; cases hv1
          | some x=>rw [ht] at hv1; simp only [Option.getD_some] at hv1; simp [ht,hv1]
        have hwant:Region.wanted o (yielded ops a.tmps)=(b==want):=by
          simp only [Region.wanted,hg,hy]
          cases b <;> cases want <;> rfl
        have hset:=setA_ok hT hl
        rcases brk_holds H with ⟨rfl,H2⟩ | ⟨rfl,H2⟩
        · cases want
          · rw [if_neg (by rw [hwant]; decide)]; exact skip _ hset H2
          · rw [if_pos (by rw [hwant]; decide)]; exact .inl (go _ hset H2)
        · cases want
          · rw [if_pos (by rw [hwant]; decide)]; exact .inl (go _ hset H2)
          · rw [if_neg (by rw [hwant]; decide)]; exact skip _ hset H2
      · rename_i hl
        have hv:=hT.tm d
        rw [hl] at hv
        obtain ⟨us,hv1,hus⟩:=hv
        have hus:us=#[]:=by cases us with | mk l=>have:l=[]:=hus; subst this; rfl
        subst hus
        have hy:yielded ops a.tmps j=none:=by
          unfold yielded
          rw [hd]
          rw [Array.getD_eq_getD_getElem?] at hv1
          cases ht:a.tmps[d]? with
          | none=>simp [ht]
          | some x=>rw [ht] at hv1; simp only [Option.getD_some] at hv1; simp [ht,hv1]
        have hwant:Region.wanted o (yielded ops a.tmps)=false:=by simp [Region.wanted,hg,hy]
        rw [if_neg (by rw [hwant]; decide)]; exact skip _ hT H
      · exact H.elim
theorem Cont.step {K:Tm×Hp→Prop} {next:Act→World→Prop} (hn:Cont P w0 G E h w K next) {E1:Env} {h1:Hp} {w1:World} (hs:Stepd P w0 G E h w E1 h1 w1):Cont P w0 G E1 h1 w1 K next :=
  fun F' h' E' a' w' hk hs' hT=>hn F' h' E' a' w' hk (hs.trans hs') hT
theorem evList_ok {call:FuncId→Spec} (hcall:CallOk P call) {ops:Array Oper} {K:Tm×Hp→Prop}:∀ (l:List Oper) {F:Tm} {h:Hp} {E:Env} {w:World} {a:Act},(evList P call ops l F h).holds K→Inv P w0 G E h w→RelT E F a →
    Cont P w0 G E h w K (Q .normal)→wpList P ops Q l a w
  | [],F,h,E,w,a,H,I,hT,hn=>hn _ _ _ _ _ H (Stepd.refl I) hT
  | o :: l,F,h,E,w,a,H,I,hT,hn=>by
    rw [evList_cons] at H
    rw [RT.holds_bind] at H
    have:=evStep_ok (Q:=Q) (next:=wpList P ops Q l) hcall H I hT (fun F' h' E' a' w' hk hs hT'=>evList_ok hcall l hk hs.inv hT' (hn.step hs))
    unfold wpList
    split
    · rename_i hw; rw [if_pos hw] at this; exact this
    · rename_i hw; rw [if_neg hw] at this; exact this
end
end
end Go.Proofs.YtbgmclbcjdbcmaaGreat
namespace Go.Proofs.YtbgmclbcjdbcmaaGreat
set_option linter.unusedSimpArgs false
set_option linter.unusedVariables false
open Go.RowKit
set_option maxRecDepth 10000
noncomputable section
section
variable {P:Program} {ops:Array Oper} {Q:Exit→Act→World→Prop}
def depends (ops:Array Oper) (i j:Nat):Bool:=match ops[j]? with | some o=>waits i o | none=>false
abbrev SPrm:=List (Nat×(World→Prop))
def kept (ops:Array Oper) (j:Nat) (pr:SPrm):SPrm:=pr.filter fun p=>!depends ops p.1 j
def wpL (P:Program) (ops:Array Oper) (Q:Exit→Act→World→Prop):Nat→Array Bool→SPrm→Act→World→Prop
  | 0,listed,_,a,w=>Region.ready .any ops listed=[]∧Q .normal a w
  | n+1,listed,pr,a,w=>(Region.ready .any ops listed=[]→Q .normal a w) ∧
    ∀ j ∈ Region.ready .any ops listed,wpOp P ops Q j (fun a' w'=>(∀ p ∈ kept ops j pr,p.2 w')∧wpL P ops Q n (listed.setIfInBounds j true) (kept ops j pr) a' w') a w
theorem wpL_any:∀ (n:Nat) (listed:Array Bool) (pr:SPrm) (a:Act) (w:World),wpL P ops Q n listed pr a w→wpAny P .any ops Q n listed a w
  | 0,_,_,_,_,h=>h
  | n+1,_,_,_,_,h=>⟨h.1,fun i hi=>wpOp_mono (fun a' w' h'=>wpL_any n _ _ a' w' h'.2) (h.2 i hi)⟩
theorem kept_sub {j:Nat} {pr pr':SPrm} (h:∀ p ∈ pr',p ∈ pr):∀ p ∈ kept ops j pr',p ∈ kept ops j pr:=fun p hp=>by
  unfold kept at *
  rw [List.mem_filter] at *
  exact ⟨h p hp.1,hp.2⟩
theorem wpL_weaken:∀ (n:Nat) (listed:Array Bool) (pr pr':SPrm) (a:Act) (w:World),(∀ p ∈ pr',p ∈ pr)→wpL P ops Q n listed pr a w→wpL P ops Q n listed pr' a w
  | 0,_,_,_,_,_,_,h=>h
  | n+1,_,_,_,_,_,hs,h=>⟨h.1,fun i hi=>wpOp_mono (fun a' w' h'=>⟨fun p hp=>h'.1 p (kept_sub hs p hp),wpL_weaken n _ _ _ a' w' (kept_sub hs) h'.2⟩) (h.2 i hi)⟩
theorem waits_ready {i j:Nat} {listed:Array Bool} (hj:j ∈ Region.ready .any ops listed) (hi:listed.getD i true=false):depends ops i j=false:=by
  obtain ⟨_,oj,hoj,hall⟩:=mem_ready.1 hj
  unfold depends
  rw [hoj]
  simp only [waits]
  cases hw:(oj.after.any fun e=>Region.binds .any e&&e.on==i)
  · rfl
  · obtain ⟨e,he,h2⟩:=Array.any_eq_true'.1 hw
    simp only [Bool.and_eq_true,beq_iff_eq] at h2
    have h1:=hall e he h2.1
    rw [h2.2] at h1
    rcases Nat.lt_or_ge i listed.size with h' | h'
    · simp [h'] at hi h1; rw [hi] at h1; cases h1
    · simp [Array.getElem?_eq_none h'] at h1
theorem wpL_first {i:Nat} {oi:Oper} {v:Value} {T:World→Prop} (hi:ops[i]?=some oi) (hsel:∀ (j:Nat) (o:Oper) cs b,ops[j]?=some o→o.op≠.select cs b)
    (hQ:∀ c a w,Q (.panic c) (a.put oi.dst v) w→Q (.panic c) a w) :
    ∀ (n:Nat) (listed:Array Bool) (pr:SPrm) (a:Act) (w:World),
      (∀ j oj,ops[j]?=some oj→j≠i→listed.getD j true=false→(∀ e ∈ oj.after,Region.binds .any e=true→e.on≠i)→oi.apart ops oj=true) →
      i ∈ Region.ready .any ops listed→YieldsIf P ops T oi v a→T w→(∀ p ∈ pr,p.2 w) →
      wpL P ops Q n (listed.setIfInBounds i true) ((i,T) :: pr) (a.put oi.dst v) w→wpL P ops Q (n+1) listed pr a w:=by
  intro n
  induction n with
  | zero =>
    intro listed pr a w _ hr hy hT hpr H
    refine ⟨fun h=>(by rw [h] at hr; cases hr),fun j hj=>?_⟩
    by_cases hji:j=i
    · subst hji; exact hy.wpOp hi hT ⟨fun p hp=>hpr p (List.mem_filter.1 hp).1,H⟩
    · have:=ready_mono hj hji
      rw [H.1] at this
      cases this
  | succ n ih =>
    intro listed pr a w hfree hr hy hT hpr H
    refine ⟨fun h=>(by rw [h] at hr; cases hr),fun j hj=>?_⟩
    by_cases hji:j=i
    · subst hji
      exact hy.wpOp hi hT ⟨fun p hp=>hpr p (List.mem_filter.1 hp).1,wpL_weaken _ _ _ _ _ _ (fun p hp=>List.mem_cons_of_mem _ (List.mem_filter.1 hp).1) H⟩
    · have h1:=H.2 j (ready_mono hj hji)
      obtain ⟨hjun,oj,hoj,hall⟩:=mem_ready.1 hj
      have hiun:=(mem_ready.1 hr).1
      have hdep:=waits_ready hj hiun
      have hnot:∀ e ∈ oj.after,Region.binds .any e=true→e.on≠i:=fun e he hb heq=>by
        have h1:=hall e he hb
        rw [heq] at h1
        rcases Nat.lt_or_ge i listed.size with h' | h'
        · simp [h'] at hiun h1; rw [hiun] at h1; cases h1
        · simp [Array.getElem?_eq_none h'] at h1
      have hkept:kept ops j ((i,T) :: pr)=(i,T) :: kept ops j pr:=by
        unfold kept
        rw [List.filter_cons]
        simp [hdep]
      rw [hkept] at h1
      have h2:=wpOp_putIf hoj (hfree j oj hoj hji hjun hnot) (fun cs b=>hsel i oi cs b hi) (fun cs b=>hsel j oj cs b hoj) hQ hy h1
      have hfree':∀ k ok,ops[k]?=some ok→k≠i→(listed.setIfInBounds j true).getD k true=false →
          (∀ e ∈ ok.after,Region.binds .any e=true→e.on≠i)→oi.apart ops ok=true:=fun k ok hk hki hun hno=>by
        refine hfree k ok hk hki ?_ hno
        by_cases hjk:j=k
        · subst hjk; exact hjun
        · rw [getD_set_ne true hjk] at hun; exact hun
      refine wpOp_mono (fun a' w' h3=>?_) h2
      obtain ⟨h4,h5,h6⟩:=h3
      refine ⟨fun p hp=>h5 p (List.mem_cons_of_mem _ hp),ih (listed.setIfInBounds j true) (kept ops j pr) a' w' hfree' (ready_mono hr (Ne.symm hji)) h4 (h5 (i,T) List.mem_cons_self) (fun p hp=>h5 p (List.mem_cons_of_mem _ hp)) ?_⟩
      rw [Array.setIfInBounds_comm _ _ hji]
      exact h6
variable {E:Env} {F:Tm} {h:Hp} {w w0:World} {G:Nat→Prop} {a:Act}
inductive Met (E:Env) (h:Hp) (w:World):Prm→SPrm→Prop
  | nil:Met E h w [] []
  | pure {pr:Prm} {spr:SPrm} (i:Nat) (T:World→Prop) (hz:∀ W,(∀ b j v,E.Z b j=some v→W.cell? ⟨b,j,none⟩=some v)→T W):Met E h w pr spr→Met E h w pr ((i,T) :: spr)
  | load {pr:Prm} {spr:SPrm} (i b n:Nat) (T:World→Prop) (hl:E.live b) (hc:ver b h=n) (hz:∀ W,(∀ b j v,E.Z b j=some v→W.cell? ⟨b,j,none⟩=some v)→W.heap[E.β b]?=w.heap[E.β b]?→T W) :
      Met E h w pr spr→Met E h w ((i,b,n) :: pr) ((i,T) :: spr)
theorem Met.hold (I:Inv P w0 G E h w) {pr:Prm} {spr:SPrm} (H:Met E h w pr spr):∀ p ∈ spr,p.2 w:=by
  induction H with
  | nil=>simp
  | pure i T hz _ ih =>
    intro p hp
    rcases List.mem_cons.1 hp with rfl | hp
    · exact hz w I.z
    · exact ih p hp
  | load i b n T hl hc hz _ ih =>
    intro p hp
    rcases List.mem_cons.1 hp with rfl | hp
    · exact hz w I.z rfl
    · exact ih p hp
theorem Met.step {oj:Oper} {j:Nat} (hj:ops[j]?=some oj) {E':Env} {h':Hp} {w':World} (hs:Stepd P w0 G E h w E' h' w') {pr:Prm} {spr:SPrm} (H:Met E h w pr spr):keeps h' (keepP oj pr)=true→Met E' h' w' (keepP oj pr) (kept ops j spr):=by
  have hd:∀ i,depends ops i j=waits i oj:=fun i=>by unfold depends; rw [hj]
  induction H with
  | nil=>intro _; exact .nil
  | pure i T hz _ ih =>
    intro hk
    unfold kept
    rw [List.filter_cons]
    split
    · exact .pure i T (fun W hW=>hz W fun b q v hv=>hW b q v (hs.ext.Z b q v hv)) (ih hk)
    · exact ih hk
  | load i b n T hl hc hz _ ih =>
    intro hk
    simp only [keepP] at hk ⊢
    unfold kept
    rw [List.filter_cons,hd]
    cases hw:waits i oj
    · rw [hw] at hk
      simp only [cond_false,keeps,Bool.and_eq_true] at hk
      simp only [cond_false,Bool.not_false,if_true]
      have hc':=Nat.eq_of_beq_eq_true hk.1
      refine .load i b n T (hs.ext.live b hl) hc' (fun W hW hb=>hz W (fun b q v hv=>hW b q v (hs.ext.Z b q v hv)) ?_) (ih hk.2)
      rw [hs.ext.β b hl] at hb
      rw [hb]
      exact (hs.un b hl).2 (by rw [hc',hc])
    · rw [hw] at hk
      simp only [cond_true,Bool.not_true,Bool.false_eq_true,if_false]
      exact ih hk
theorem opnd_setA {d:Nat} {b:Bool} {x:Operand} {o:Nat} (hx:tgt (opnd (setA F d b) x)=some o):tgt (opnd F x)=some o:=by
  cases x with
  | tmp t =>
    simp only [opnd,setA,look_cons] at hx ⊢
    cases hb:Nat.beq d t
    · rw [hb] at hx; exact hx
    · rw [hb] at hx; cases hx
  | const v=>exact hx
  | global g=>exact hx
  | func f=>exact hx
theorem seesO_setA {d:Nat} {b:Bool} {o:Oper} {W:World} (hW:SeesO E F o w W):SeesO E (setA F d b) o w W:=⟨hW.1,fun t x p h1 h2=>hW.2 t x p h1 (opnd_setA h2)⟩
theorem evStepEarly_ok {call:FuncId→Spec} {o:Oper} {K:Tm×Hp→Prop} (he:earlyA o=true) (H:(evStep P call ops o F h).holds K) (I:Inv P w0 G E h w) (hT:RelT E F a) :
    ∃ F' v,K (F',h)∧RelT E F' (a.put o.dst v)∧YieldsIf P ops (SeesO E F o w) o v a:=by
  have go:∀ F1,RelT E F1 a→(∀ W,SeesO E F o w W→SeesO E F1 o w W)→Region.wanted o (yielded ops a.tmps)=true→(match deferA o F1 with
      | some r=>r.bind fun F=>.ok (F,h)
      | none=>(evOp P call o F1 h).bind fun r=>(putA F1 o.dst r.1).bind fun F=>.ok (F,r.2):RT (Tm×Hp)).holds K →
      ∃ F' v,K (F',h)∧RelT E F' (a.put o.dst v)∧YieldsIf P ops (SeesO E F o w) o v a:=fun F1 hT1 hS hw H=>by
    have hnd:deferA o F1=none:=by
      unfold deferA
      split
      · rename_i c hc; unfold earlyA at he; rw [hc] at he; cases he
      · rfl
    rw [hnd] at H
    simp only at H
    rw [RT.holds_bind] at H
    obtain ⟨av,v,h1,h2,h3⟩:=evEarly_ok he H I hT1
    rw [RT.holds_bind] at h1
    obtain ⟨F',k1,k2⟩:=putA_ok h1 hT1 h2
    exact ⟨F',v,k1,k2,.inl ⟨hw,fun W hW=>h3 W (hS W hW)⟩⟩
  have skip:∀ F1,RelT E F1 a→Region.wanted o (yielded ops a.tmps)=false→((putA F1 o.dst (.tup [])).bind fun F=>.ok (F,h)).holds K→∃ F' v,K (F',h)∧RelT E F' (a.put o.dst v)∧YieldsIf P ops (SeesO E F o w) o v a:=fun F1 hT1 hw H=>by
    rw [RT.holds_bind] at H
    obtain ⟨F',k1,k2⟩:=putA_ok (u:=undef) H hT1 ⟨#[],rfl,rfl⟩
    exact ⟨F',undef,k1,k2,.inr ⟨hw,rfl⟩⟩
  unfold evStep guardA at H
  split at H
  · rename_i hg
    have hw:Region.wanted o (yielded ops a.tmps)=true:=by simp [Region.wanted,hg]
    exact go F hT (fun W h=>h) hw H
  · rename_i j want hg
    split at H
    · exact H.elim
    · rename_i d hd
      split at H
      · rename_i kn b hl
        have hv:=hT.tm d
        rw [hl] at hv
        have hy:yielded ops a.tmps j=some b:=by
          unfold yielded
          rw [hd]
          have hv1:=hv.1
          rw [Array.getD_eq_getD_getElem?] at hv1
          cases ht:a.tmps[d]? with
          | none=>rw [ht] at hv1; cases hv1
          | some x=>rw [ht] at hv1; simp only [Option.getD_some] at hv1; simp [ht,hv1]
        have hwant:Region.wanted o (yielded ops a.tmps)=(b==want):=by
          simp only [Region.wanted,hg,hy]
          cases b <;> cases want <;> rfl
        have hset:=setA_ok hT hl
        rcases brk_holds H with ⟨rfl,H2⟩ | ⟨rfl,H2⟩
        · cases want
          · exact skip _ hset (by rw [hwant]; decide) H2
          · exact go _ hset (fun W h=>seesO_setA h) (by rw [hwant]; decide) H2
        · cases want
          · exact go _ hset (fun W h=>seesO_setA h) (by rw [hwant]; decide) H2
          · exact skip _ hset (by rw [hwant]; decide) H2
      · rename_i hl
        have hv:=hT.tm d
        rw [hl] at hv
        obtain ⟨us,hv1,hus⟩:=hv
        have hus:us=#[]:=by cases us with | mk l=>have:l=[]:=hus; subst this; rfl
        subst hus
        have hy:yielded ops a.tmps j=none:=by
          unfold yielded
          rw [hd]
          rw [Array.getD_eq_getD_getElem?] at hv1
          cases ht:a.tmps[d]? with
          | none=>simp [ht]
          | some x=>rw [ht] at hv1; simp only [Option.getD_some] at hv1; simp [ht,hv1]
        have hwant:Region.wanted o (yielded ops a.tmps)=false:=by simp [Region.wanted,hg,hy]
        exact skip _ hT hwant H
      · exact H.elim
theorem met_promise {o:Oper} {i:Nat} {pr:Prm} {spr:SPrm} (hT:RelT E F a) (H:Met E h w pr spr):Met E h w (promise i o F h ++ pr) ((i,SeesO E F o w) :: spr):=by
  have pure':(∀ t x b,o.op=.load t x→tgt (opnd F x)≠some b)→Met E h w pr ((i,SeesO E F o w) :: spr):=fun hn=>.pure i _ (fun W hW=>⟨hW,fun t x b h1 h2=>absurd h2 (hn t x b h1)⟩) H
  unfold promise
  split
  · rename_i t x hop
    split
    · rename_i b hx
      have hr:=rel_opnd hT x
      have hlb:E.live b:=by
        revert hx hr
        generalize opnd F x=X
        intro hx hr
        cases X <;> simp only [tgt] at hx <;> cases hx <;> exact hr.1
      refine .load i b _ _ hlb rfl (fun W hW hb=>⟨hW,fun t' x' b' h1 h2=>?_⟩) H
      rw [hop] at h1
      injection h1 with _ h1
      subst h1
      rw [hx] at h2
      injection h2 with h2
      subst h2
      exact hb
    · rename_i hx
      refine pure' fun t' x' b h1 h2=>?_
      rw [hop] at h1
      injection h1 with _ h1
      subst h1
      rw [hx] at h2; cases h2
  · rename_i hop
    exact pure' fun t x b h1 _=>hop t x h1
theorem earlyN_ok (o:Oper) (h:earlyN o=true):earlyA o=true:=by
  unfold earlyN at h
  split at h
  · cases h
  · exact h
theorem erOf_ok {Λ:FuncId→Nat→Option (Tm→Hp→RT (Ex×Tm×Hp))} {f id:Nat} (o:Oper) (h:erOf Λ f id o=true):earlyA o=true:=by
  unfold erOf at h
  cases hl:Λ f (2000+id) with
  | none=>rw [hl] at h; exact h
  | some x=>rw [hl] at h; exact earlyN_ok o h
theorem evDrawn_ok {er:Oper→Bool} (her:∀ o,er o=true→earlyA o=true) {call:FuncId→Spec} (hcall:CallOk P call) (hns:Region.noSelect ops=true) (hQ:∀ d v c a w,Q (.panic c) (Act.put a d v) w→Q (.panic c) a w) {K:Tm×Hp→Prop} :
    ∀ (n:Nat) {listed:Array Bool} {pr:Prm} {spr:SPrm} {F:Tm} {h:Hp} {E:Env} {w:World} {a:Act},(evDrawn P er call ops n listed pr F h).holds K→Inv P w0 G E h w→RelT E F a→Met E h w pr spr→
      Cont P w0 G E h w K (Q .normal)→wpL P ops Q n listed spr a w
  | 0,listed,pr,spr,F,h,E,w,a,H,I,hT,hM,hn=>by
    unfold evDrawn at H
    split at H
    · rename_i hr
      exact ⟨hr,hn _ _ _ _ _ H (Stepd.refl I) hT⟩
    · exact H.elim
  | n+1,listed,pr,spr,F,h,E,w,a,H,I,hT,hM,hn=>by
    unfold evDrawn at H
    simp only at H
    split at H
    · rename_i i hfind
      split at H
      · rename_i o ho
        cases hf:Region.free .any ops listed i
        · rw [hf] at H; exact H.elim
        rw [hf] at H
        simp only [cond_true] at H
        have he:earlyA o=true:=by
          have:=List.find?_some hfind
          rw [ho] at this
          exact her o this
        have hir:i ∈ Region.ready .any ops listed:=List.mem_of_find?_eq_some hfind
        rw [RT.holds_bind] at H
        obtain ⟨F',v,k1,k2,k3⟩:=evStepEarly_ok he H I hT
        have hM':=met_promise (i:=i) (o:=o) hT hM
        have hself:SeesO E F o w w:=seesO_self I o
        exact wpL_first ho (Region.noSelect_spec hns) (hQ _ _) n listed spr a w (Region.free_spec ho hf) hir k3 hself (hM.hold I)
          (evDrawn_ok her hcall hns hQ n k1 I k2 hM' hn)
      · exact H.elim
    · rename_i hnone
      have one:∀ i,(match ops[i]? with
          | some o=>(evStep P call ops o F h).bind fun r=>bif keeps r.2 (keepP o pr) then evDrawn P er call ops n (listed.setIfInBounds i true) (keepP o pr) r.1 r.2 else .bad 98
          | none=>.bad 99:RT (Tm×Hp)).holds K→wpOp P ops Q i (fun a' w'=>(∀ p ∈ kept ops i spr,p.2 w')∧wpL P ops Q n (listed.setIfInBounds i true) (kept ops i spr) a' w') a w:=fun i Hi=>by
        split at Hi
        · rename_i o ho
          rw [RT.holds_bind] at Hi
          unfold wpOp
          rw [ho]
          refine evStep_ok hcall Hi I hT fun F' h' E' a' w' hk hs hT'=>?_
          cases hkp:keeps h' (keepP o pr)
          · rw [hkp] at hk; exact hk.elim
          · rw [hkp] at hk
            have hM':=hM.step ho hs hkp
            exact ⟨hM'.hold hs.inv,evDrawn_ok her hcall hns hQ n hk hs.inv hT' hM' (hn.step hs)⟩
        · exact Hi.elim
      split at H
      · rename_i hr
        exact ⟨fun _=>hn _ _ _ _ _ H (Stepd.refl I) hT,by rw [hr]; simp⟩
      · rename_i i hr
        refine ⟨(fun h0=>by rw [hr] at h0; cases h0),?_⟩
        rw [hr]
        intro j hj
        obtain rfl:j=i:=by simpa using hj
        exact one _ H
      · rename_i i j hr
        refine ⟨(fun h0=>by rw [hr] at h0; cases h0),?_⟩
        rw [hr]
        intro q hq
        rcases (by simpa using hq:q=i∨q=j) with rfl | rfl
        · exact one _ H.1
        · exact one _ H.2
      · rename_i i j k hr
        refine ⟨(fun h0=>by rw [hr] at h0; cases h0),?_⟩
        rw [hr]
        intro q hq
        rcases (by simpa using hq:q=i∨q=j∨q=k) with rfl | rfl | rfl
        · exact one _ H.1
        · exact one _ H.2.1
        · exact one _ H.2.2
      · exact H.elim
end
end
end Go.Proofs.YtbgmclbcjdbcmaaGreat
