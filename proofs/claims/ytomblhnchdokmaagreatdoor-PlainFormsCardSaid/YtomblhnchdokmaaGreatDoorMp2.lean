/- Mp2: texts of this claim, one behind the other: Ev1 Ev2 Ev3 Ev4. No condition. -/
import Derived.Test.YtomblhnchdokmaaGreatDoorMp1
import Derived.Test.YtomblhnchdokmaaGreatDoorLay
namespace Go.Proofs.YtomblhnchdokmaaGreatDoor
set_option linter.unusedSimpArgs false
set_option linter.unusedVariables false
open Go.RowKit
set_option maxRecDepth 10000
noncomputable section

/-- plain data: what lies in a slice's elements -/
inductive D where
  | n | i (v : Int) | b (v : Bool) | s (v : ByteArray) | l (v : List D) | t (v : List D)
  | ki (v : Int) | kb (v : Bool) | ks (v : ByteArray) | kl (v : List D)
namespace D
def toI : D → Int | .i v => v | .ki v => v | _ => 0
def toB : D → Bool | .b v => v | .kb v => v | _ => false
def toS : D → ByteArray | .s v => v | .ks v => v | _ => .empty
def raw : D → List D | .l v => v | .kl v => v | _ => []
/-- what was told as known ahead (a hint alone) -/
def isK : D → Bool | .ki _ => true | .kb _ => true | .ks _ => true | .kl _ => true | _ => false
def mkK (kn : Bool) (d : D) : D := bif kn then .kl d.raw else d
def toL (d : D) : List D := d.raw.take maxLen
def len (d : D) : Nat := d.toL.length
def get (d : D) (i : Nat) : D := d.toL.getD i .n
def cell (d : D) (j : Nat) : D := match d with | .t cs => cs.getD j .n | e => match j with | 0 => e | _ => .n
def app (a b : D) : D := .l (a.toL ++ b.toL)
def sub (a : D) (lo hi : Nat) : D := .l ((a.toL.take hi).drop lo)
def ofS (s : ByteArray) : D := .l (s.toList.map fun c => .i c.toNat)
def setE (d : D) (i : Nat) (e : D) : D := .l (d.toL.set i e)
def str (d : D) : ByteArray := ⟨(d.toL.map fun e => UInt8.ofNat (e.cell 0).toI.toNat).toArray⟩
theorem mkK_raw (kn : Bool) (d : D) : (mkK kn d).raw = d.raw := by cases kn <;> rfl
theorem mkK_len (kn : Bool) (d : D) : (mkK kn d).len = d.len := by unfold len toL; rw [mkK_raw]
theorem mkK_get (kn : Bool) (d : D) (i : Nat) : (mkK kn d).get i = d.get i := by unfold get toL; rw [mkK_raw]
theorem len_le (d : D) : d.len ≤ maxLen := by unfold len toL; exact List.length_take_le _ _
end D

/-- what a cell of an element is -/
inductive Sh where
  | int (k : IntKind) | bool | str | sl (es : List Sh)
mutual
def Sh.eqs : Sh → Sh → Bool
  | .int k, .int k' => decide (k = k')
  | .bool, .bool => true
  | .str, .str => true
  | .sl a, .sl b => Sh.eqsL a b
  | _, _ => false
def Sh.eqsL : List Sh → List Sh → Bool
  | [], [] => true
  | a :: xs, b :: ys => Sh.eqs a b && Sh.eqsL xs ys
  | _, _ => false
end
mutual
theorem Sh.eqs_eq : ∀ (a b : Sh), Sh.eqs a b = true → a = b
  | .int k, .int k', h => by simp [Sh.eqs] at h; rw [h]
  | .bool, .bool, _ => rfl
  | .str, .str, _ => rfl
  | .sl a, .sl b, h => by rw [Sh.eqsL_eq a b (by simpa [Sh.eqs] using h)]
  | .int _, .bool, h | .int _, .str, h | .int _, .sl _, h | .bool, .int _, h | .bool, .str, h | .bool, .sl _, h | .str, .int _, h | .str, .bool, h | .str, .sl _, h | .sl _, .int _, h | .sl _, .bool, h | .sl _, .str, h => by simp [Sh.eqs] at h
theorem Sh.eqsL_eq : ∀ (a b : List Sh), Sh.eqsL a b = true → a = b
  | [], [], _ => rfl
  | a :: xs, b :: ys, h => by
    simp [Sh.eqsL] at h
    rw [Sh.eqs_eq a b h.1, Sh.eqsL_eq xs ys h.2]
  | [], _ :: _, h | _ :: _, [], h => by simp [Sh.eqsL] at h
end
/-- the cells of a type -/
def shOf (P : Program) : Nat → TypeId → Option (List Sh)
  | 0, _ => none
  | n + 1, t => match P.underlying t with
    | some (.int k) => some [.int k]
    | some .bool => some [.bool]
    | some .string => some [.str]
    | some (.slice e) => (shOf P n e).map fun es => [.sl es]
    | some (.struct fs) => fs.toList.foldr (fun f r => match shOf P n f.type, r with | some a, some b => some (a ++ b) | _, _ => none) (some [])
    | some (.array m e) => (shOf P n e).map fun es => (List.replicate m es).flatten
    | _ => none
def shE (P : Program) (t : TypeId) : List Sh := (shOf P 8 t).getD []

/-- an abstract value: kn: it is made of constants -/
inductive AV where
  | any
  | sc (kn : Bool) (v : Value)
  | sl (kn : Bool) (es : List Sh) (d : D) (tip : Option (Nat × Nat))
  | ptr (o off : Nat)
  | mp (o : Nat)
  | ep (kn : Bool) (es : List Sh) (d : D) (j : Nat)
  | fn (f : Fn) (a c : List AV)
  | agg (cs : List AV)
  | tup (vs : List AV)
  | rsl (kn : Bool) (o n len : Nat)
  | rp (kn : Bool) (o n i j : Nat)
  | rw (es : List Sh) (d : D)
  | vsl (o off n len cap : Nat)
  | al (n len : Nat) (cs : List AV) (tip : Option (Nat × Nat))
  | ea (cs : List AV)

/-- a tree of answers -/
inductive RT (α : Type) where
  | ok (a : α) | bad (why : Nat) | br (b : Bool) (x y : RT α) | all (x y : RT α)
namespace RT
variable {α β : Type}
noncomputable def bind (x : RT α) (f : α → RT β) : RT β := @RT.rec α (fun _ => RT β) f (fun w => .bad w) (fun b _ _ x y => .br b x y) (fun _ _ x y => .all x y) x
theorem bind_br (b : Bool) (x y : RT α) (f : α → RT β) : (RT.br b x y).bind f = .br b (x.bind f) (y.bind f) := rfl
theorem bind_all (x y : RT α) (f : α → RT β) : (RT.all x y).bind f = .all (x.bind f) (y.bind f) := rfl
def holds : RT α → (α → Prop) → Prop
  | .ok a, Q => Q a
  | .bad _, _ => False
  | .br b x y, Q => (b = true → x.holds Q) ∧ (b = false → y.holds Q)
  | .all x y, Q => x.holds Q ∧ y.holds Q
theorem holds_bind {Q : β → Prop} (x : RT α) (f : α → RT β) : (x.bind f).holds Q ↔ x.holds fun a => (f a).holds Q := by
  induction x with
  | ok a => exact Iff.rfl
  | bad w => exact Iff.rfl
  | br b x y ihx ihy => simp only [bind_br, holds, ihx, ihy]
  | all x y ihx ihy => simp only [bind_all, holds, ihx, ihy]
theorem holds_mono {Q Q' : α → Prop} (h : ∀ a, Q a → Q' a) : ∀ (x : RT α), x.holds Q → x.holds Q'
  | .ok a, H => h a H
  | .bad _, H => H
  | .br b x y, H => ⟨fun hb => holds_mono h x (H.1 hb), fun hb => holds_mono h y (H.2 hb)⟩
  | .all x y, H => ⟨holds_mono h x H.1, holds_mono h y H.2⟩
end RT
/-- a branch: at what is known it is taken at once -/
def brk {α : Type} (kn b : Bool) (x y : RT α) : RT α := bif kn then (bif b then x else y) else .br b x y
theorem brk_holds {α : Type} {Q : α → Prop} {kn b : Bool} {x y : RT α} (h : (brk kn b x y).holds Q) : (b = true ∧ x.holds Q) ∨ (b = false ∧ y.holds Q) := by
  cases kn <;> cases b
  · exact .inr ⟨rfl, h.2 rfl⟩
  · exact .inl ⟨rfl, h.1 rfl⟩
  · exact .inr ⟨rfl, h⟩
  · exact .inl ⟨rfl, h⟩
/-- a condition that must hold -/
def need {α : Type} (kn b : Bool) (why : Nat) (x : RT α) : RT α := brk kn b x (.bad why)
theorem need_holds {α : Type} {Q : α → Prop} {kn b : Bool} {why : Nat} {x : RT α} (h : (need kn b why x).holds Q) : b = true ∧ x.holds Q := by
  rcases brk_holds h with h | ⟨_, h⟩
  · exact h
  · exact h.elim

/-- what the heap is -/
structure Hp where
  ob : List (Nat × List AV)
  nx : Nat
  gn : List (Nat × Nat × TypeId)
  nv : Nat
  ng : Nat
  ep : Nat
/-- a frame's temporaries -/
structure Tm where
  nt : Nat
  tm : List (Nat × AV)
  df : List (FuncId × List AV)

noncomputable def look (t : Nat) (l : List (Nat × AV)) : AV := @List.rec (Nat × AV) (fun _ => AV) .any (fun kv _ r => bif Nat.beq kv.1 t then kv.2 else r) l
theorem look_nil (t : Nat) : look t [] = .any := rfl
theorem look_cons (t k : Nat) (v : AV) (r : List (Nat × AV)) : look t ((k, v) :: r) = bif Nat.beq k t then v else look t r := rfl
noncomputable def lookO (o : Nat) (l : List (Nat × List AV)) : Option (List AV) := @List.rec (Nat × List AV) (fun _ => Option (List AV)) none (fun kv _ r => bif Nat.beq kv.1 o then some kv.2 else r) l
theorem lookO_nil (o : Nat) : lookO o [] = none := rfl
theorem lookO_con (o k : Nat) (v : List AV) (r : List (Nat × List AV)) : lookO o ((k, v) :: r) = bif Nat.beq k o then some v else lookO o r := rfl
noncomputable def lookG (k : Nat) (l : List (Nat × Nat × TypeId)) : Option (Nat × TypeId) := @List.rec (Nat × Nat × TypeId) (fun _ => Option (Nat × TypeId)) none (fun kv _ r => bif Nat.beq kv.1 k then some kv.2 else r) l
theorem lookG_nil (k : Nat) : lookG k [] = none := rfl
theorem lookG_con (k i : Nat) (g : Nat × TypeId) (r : List (Nat × Nat × TypeId)) : lookG k ((i, g) :: r) = bif Nat.beq i k then some g else lookG k r := rfl

def room : Nat := 140737488355328
/-- how many bytes an element takes: laid cell by cell -/
def Sh.al : Sh → Nat
  | .int k => k.bits / 8
  | .bool => 1
  | _ => 8
def Sh.by : Sh → Nat
  | .int k => k.bits / 8
  | .bool => 1
  | .str => 16
  | .sl _ => 24
def upTo (n a : Nat) : Nat := (n + (a - 1)) / a * a
def szF : List Sh → Nat → Nat → Nat
  | [], n, m => upTo n m
  | s :: ss, n, m => szF ss (upTo n s.al + s.by) (max m s.al)
def szB (es : List Sh) : Nat := szF es 0 1
/-! What abstract values mean. -/
structure Env where
  β : Nat → Nat
  live : Nat → Prop
  Z : Nat → Nat → Option Value
  vc : Nat → Value
  gn : Nat → Nat
  ve : Nat → TypeId
  m : Nat
  ng : Nat
  yl : Nat := 0
/-- a function's value: the running loop's yield is '.method' -/
def ylF (y : Nat) : Fn → Fn
  | .method _ => .yield y
  | f => f

mutual
def LF (Z : Nat → Nat → Option Value) : Sh → Value → D → Prop
  | .int k, v, d => v = .int k d.toI
  | .bool, v, d => v = .bool d.toB
  | .str, v, d => v = .string d.toS
  | .sl es, v, d => d.len * szB es ≤ room ∧ ∃ ad cap, v = .slice ad d.len cap ∧ d.len ≤ cap ∧ cap ≤ maxLen ∧ (ad = none → cap = 0) ∧
      (d.len ≠ 0 → ∃ b o, ad = some ⟨b, o, none⟩ ∧ ∀ i, i < d.len → EL Z es b (o + i * es.length) (d.get i) 0)
def EL (Z : Nat → Nat → Option Value) : List Sh → Nat → Nat → D → Nat → Prop
  | [], _, _, _, _ => True
  | s :: ss, b, o, d, j => (∃ v, Z b o = some v ∧ LF Z s v (d.cell j)) ∧ EL Z ss b (o + 1) d (j + 1)
end
/-- an element's cells within a row of values -/
def RE (Z : Nat → Nat → Option Value) : List Sh → Array Value → Nat → D → Nat → Prop
  | [], _, _, _, _ => True
  | s :: ss, cs, p, d, j => (∃ v, cs[p]? = some v ∧ LF Z s v (d.cell j)) ∧ RE Z ss cs (p + 1) d (j + 1)
/-- a slice that is its block's last one -/
def TipOk (E : Env) (tip : Option (Nat × Nat)) (v : Value) : Prop := match tip with | none => True | some (k, g) => k < E.m ∧ g < E.ng ∧ (E.gn k = g → v = E.vc k)
/-- values in cells that stay -/
def ZAt (E : Env) (vs : List Value) (b o : Nat) : Prop := ∀ i u, vs[i]? = some u → E.Z b (o + i) = some u
mutual
def Rel (E : Env) : AV → Value → Prop
  | .any, _ => True
  | .sc _ u, v => v = u ∧ u.oneCell' = true
  | .sl _ es d tip, v => LF E.Z (.sl es) v d ∧ match tip with | none => True | some (k, g) => k < E.m ∧ g < E.ng ∧ (E.gn k = g → v = E.vc k)
  | .ptr o off, v => E.live o ∧ v = .pointer (some ⟨E.β o, off, none⟩)
  | .mp o, v => E.live o ∧ v = .map (some (E.β o))
  | .ep _ es d j, v => ∃ b o, v = .pointer (some ⟨b, o, none⟩) ∧ EL E.Z es b o d j
  | .fn f a c, v => ∃ a' c', v = .func (ylF E.yl f) a' c' ∧ RelL E a a'.toList ∧ RelL E c c'.toList
  | .agg cs, v => ∃ cs', v = .agg cs' ∧ RelL E cs cs'.toList ∧ ∀ u ∈ cs'.toList, u.oneCell' = true
  | .tup vs, v => ∃ vs', v = .tuple vs' ∧ RelL E vs vs'.toList
  | .rsl _ o _ len, v => E.live o ∧ ∃ ad cap, v = .slice ad len cap ∧ len ≤ cap ∧ cap ≤ maxLen ∧ (ad = none → cap = 0) ∧ (len ≠ 0 → ad = some ⟨E.β o, 0, none⟩)
  | .rp _ o n i j, v => E.live o ∧ v = .pointer (some ⟨E.β o, i * n + j, none⟩)
  | .rw es d, v => d.len * szB es ≤ room ∧ ∃ cs, v = .agg cs ∧ ∀ i, i < d.len → RE E.Z es cs (i * es.length) (d.get i) 0
  | .vsl o off _ len cap, v => E.live o ∧ len ≤ cap ∧ cap ≤ maxLen ∧ v = .slice (some ⟨E.β o, off, none⟩) len cap
  | .al n len cs tip, v => (∃ vs b o cap, RelL E cs vs ∧ (∀ u ∈ vs, u.oneCell' = true) ∧ cs.length = len * n ∧ v = .slice (some ⟨b, o, none⟩) len cap ∧ len ≤ cap ∧ cap ≤ maxLen ∧ ZAt E vs b o) ∧ TipOk E tip v
  | .ea cs, v => ∃ vs b o, RelL E cs vs ∧ (∀ u ∈ vs, u.oneCell' = true) ∧ v = .pointer (some ⟨b, o, none⟩) ∧ ZAt E vs b o
def RelL (E : Env) : List AV → List Value → Prop
  | [], vs => vs = []
  | a :: xs, vs => ∃ v vs', vs = v :: vs' ∧ Rel E a v ∧ RelL E xs vs'
end

/-- a wider meaning -/
structure Ext (E E' : Env) : Prop where
  live : ∀ o, E.live o → E'.live o
  β : ∀ o, E.live o → E'.β o = E.β o
  Z : ∀ b o v, E.Z b o = some v → E'.Z b o = some v
  m : E.m ≤ E'.m
  ng : E.ng ≤ E'.ng
  vc : ∀ k, k < E.m → (E'.vc k = E.vc k ∧ E'.gn k = E.gn k) ∨ E.ng ≤ E'.gn k
  yl : E'.yl = E.yl := by rfl
theorem Ext.refl (E : Env) : Ext E E := ⟨fun _ h => h, fun _ _ => rfl, fun _ _ _ h => h, Nat.le_refl _, Nat.le_refl _, fun _ _ => .inl ⟨rfl, rfl⟩, rfl⟩
theorem Ext.trans {E E1 E2 : Env} (h : Ext E E1) (h2 : Ext E1 E2) : Ext E E2 := by
  refine ⟨fun o ho => h2.live o (h.live o ho), fun o ho => (h2.β o (h.live o ho)).trans (h.β o ho), fun b o v hv => h2.Z _ _ _ (h.Z _ _ _ hv), Nat.le_trans h.m h2.m, Nat.le_trans h.ng h2.ng, fun k hk => ?_, h2.yl.trans h.yl⟩
  rcases h2.vc k (Nat.lt_of_lt_of_le hk h.m) with ⟨a, b⟩ | a
  · rcases h.vc k hk with ⟨c, d⟩ | c
    · exact .inl ⟨a.trans c, b.trans d⟩
    · exact .inr (b ▸ c)
  · exact .inr (Nat.le_trans h.ng a)
mutual
theorem LF.mono {Z Z' : Nat → Nat → Option Value} (h : ∀ b o v, Z b o = some v → Z' b o = some v) : ∀ (s : Sh) (v : Value) (d : D), LF Z s v d → LF Z' s v d
  | .int _, _, _, H => H
  | .bool, _, _, H => H
  | .str, _, _, H => H
  | .sl es, v, d, ⟨h0, ad, cap, h1, h2, h3, h4, h5⟩ => ⟨h0, ad, cap, h1, h2, h3, h4, fun hn => by
      obtain ⟨b, o, h6, h7⟩ := h5 hn
      exact ⟨b, o, h6, fun i hi => EL.mono h es _ _ _ _ (h7 i hi)⟩⟩
theorem EL.mono {Z Z' : Nat → Nat → Option Value} (h : ∀ b o v, Z b o = some v → Z' b o = some v) : ∀ (es : List Sh) (b o : Nat) (d : D) (j : Nat), EL Z es b o d j → EL Z' es b o d j
  | [], _, _, _, _, _ => trivial
  | s :: ss, b, o, d, j, ⟨⟨v, h1, h2⟩, h3⟩ => ⟨⟨v, h _ _ _ h1, LF.mono h s v _ h2⟩, EL.mono h ss _ _ _ _ h3⟩
end
theorem RE.mono {Z Z' : Nat → Nat → Option Value} (h : ∀ b o v, Z b o = some v → Z' b o = some v) : ∀ (es : List Sh) (cs : Array Value) (p : Nat) (d : D) (j : Nat), RE Z es cs p d j → RE Z' es cs p d j
  | [], _, _, _, _, _ => trivial
  | s :: ss, cs, p, d, j, ⟨⟨v, h1, h2⟩, h3⟩ => ⟨⟨v, h1, LF.mono h s v _ h2⟩, RE.mono h ss _ _ _ _ h3⟩
theorem TipOk.mono {E E' : Env} (h : Ext E E') {tip : Option (Nat × Nat)} {v : Value} (H : TipOk E tip v) : TipOk E' tip v := by
  cases tip with
  | none => trivial
  | some kg =>
    obtain ⟨k, g⟩ := kg
    obtain ⟨h3, h4, h5⟩ := H
    refine ⟨Nat.lt_of_lt_of_le h3 h.m, Nat.lt_of_lt_of_le h4 h.ng, fun hg => ?_⟩
    rcases h.vc k h3 with ⟨a, b⟩ | a
    · rw [a]; exact h5 (b ▸ hg)
    · have h6 : E'.gn k = g := hg
      omega
/-- what a listed package variable holds -/
def layF (g : Nat) : List (Nat × List Value) → Option (List Value)
  | [] => none
  | (k, vs) :: r => bif Nat.beq k g then some vs else layF g r
/-- the listed package variables lie as they are listed -/
def Laid (E : Env) : Prop := ∀ g vs, layF g layT = some vs → ZAt E vs g 0 ∧ ∀ u ∈ vs, u.oneCell' = true
theorem ZAt.mono {E E' : Env} (h : Ext E E') {vs : List Value} {b o : Nat} (H : ZAt E vs b o) : ZAt E' vs b o := fun i u hu => h.Z _ _ _ (H i u hu)
theorem Laid.mono {E E' : Env} (h : Ext E E') (H : Laid E) : Laid E' := fun g vs hg => ⟨ZAt.mono h (H g vs hg).1, (H g vs hg).2⟩
mutual
theorem Rel.mono {E E' : Env} (h : Ext E E') : ∀ (a : AV) (v : Value), Rel E a v → Rel E' a v
  | .any, _, H => H
  | .sc _ _, _, H => H
  | .sl _ es d tip, v, ⟨h1, h2⟩ => ⟨LF.mono h.Z _ _ _ h1, by
      cases tip with
      | none => trivial
      | some kg =>
        obtain ⟨k, g⟩ := kg
        obtain ⟨h3, h4, h5⟩ := h2
        refine ⟨Nat.lt_of_lt_of_le h3 h.m, Nat.lt_of_lt_of_le h4 h.ng, fun hg => ?_⟩
        rcases h.vc k h3 with ⟨a, b⟩ | a
        · rw [a]; exact h5 (b ▸ hg)
        · have h6 : E'.gn k = g := hg
          omega⟩
  | .ptr o off, v, ⟨h1, h2⟩ => ⟨h.live o h1, by rw [h.β o h1]; exact h2⟩
  | .mp o, v, ⟨h1, h2⟩ => ⟨h.live o h1, by rw [h.β o h1]; exact h2⟩
  | .ep _ es d j, v, ⟨b, o, h1, h2⟩ => ⟨b, o, h1, EL.mono h.Z _ _ _ _ _ h2⟩
  | .fn f a c, v, ⟨a', c', h1, h2, h3⟩ => ⟨a', c', by rw [h.yl]; exact h1, RelL.mono h a _ h2, RelL.mono h c _ h3⟩
  | .agg cs, v, ⟨cs', h1, h2, h3⟩ => ⟨cs', h1, RelL.mono h cs _ h2, h3⟩
  | .tup vs, v, ⟨vs', h1, h2⟩ => ⟨vs', h1, RelL.mono h vs _ h2⟩
  | .rsl _ o _ len, v, ⟨h1, ad, cap, g1, g2, g3, g4, g5⟩ => ⟨h.live o h1, ad, cap, g1, g2, g3, g4, fun hn => by rw [h.β o h1]; exact g5 hn⟩
  | .rp _ o _ _ _, v, ⟨h1, h2⟩ => ⟨h.live o h1, by rw [h.β o h1]; exact h2⟩
  | .rw es d, v, ⟨h0, cs, h1, h2⟩ => ⟨h0, cs, h1, fun i hi => RE.mono h.Z _ _ _ _ _ (h2 i hi)⟩
  | .vsl o _ _ _ _, v, ⟨h1, h2, h3, h4⟩ => ⟨h.live o h1, h2, h3, by rw [h.β o h1]; exact h4⟩
  | .al _ _ cs _, v, ⟨⟨vs, b, o, cap, h1, h2, h3, h4, h5, h6, h7⟩, h9⟩ => ⟨⟨vs, b, o, cap, RelL.mono h cs _ h1, h2, h3, h4, h5, h6, h7.mono h⟩, h9.mono h⟩
  | .ea cs, v, ⟨vs, b, o, h1, h2, h3, h4⟩ => ⟨vs, b, o, RelL.mono h cs _ h1, h2, h3, h4.mono h⟩
theorem RelL.mono {E E' : Env} (h : Ext E E') : ∀ (xs : List AV) (vs : List Value), RelL E xs vs → RelL E' xs vs
  | [], _, H => H
  | a :: xs, _, ⟨v, vs', h1, h2, h3⟩ => ⟨v, vs', h1, Rel.mono h a v h2, RelL.mono h xs vs' h3⟩
end

section
variable {E : Env}
theorem RelL.length : ∀ {xs : List AV} {vs : List Value}, RelL E xs vs → xs.length = vs.length
  | [], _, h => by have h' : _ = ([] : List Value) := h; rw [h']; rfl
  | _ :: xs, _, ⟨_, vs', h, _, h2⟩ => by subst h; simp [RelL.length (xs := xs) h2]
theorem RelL.get : ∀ {xs : List AV} {vs : List Value}, RelL E xs vs → ∀ {i : Nat} {a : AV}, xs[i]? = some a → ∃ v, vs[i]? = some v ∧ Rel E a v
  | [], _, _, i, a, h => by simp at h
  | b :: xs, _, ⟨v, vs', h, h1, h2⟩, i, a, hi => by
    subst h
    cases i with
    | zero => simp at hi; subst hi; exact ⟨v, rfl, h1⟩
    | succ i => simp at hi; simpa using RelL.get h2 hi
theorem RelL.append : ∀ {xs : List AV} {vs : List Value} {ys : List AV} {us : List Value}, RelL E xs vs → RelL E ys us → RelL E (xs ++ ys) (vs ++ us)
  | [], _, _, _, h, h2 => by rw [show _ = [] from h]; exact h2
  | a :: xs, _, _, _, ⟨v, vs', h, h1, h3⟩, h2 => by subst h; exact ⟨v, _, rfl, h1, RelL.append h3 h2⟩
theorem RelL.take : ∀ (n : Nat) {xs : List AV} {vs : List Value}, RelL E xs vs → RelL E (xs.take n) (vs.take n)
  | 0, _, _, _ => by simp [RelL]
  | n + 1, [], _, h => by rw [show _ = [] from h]; simp [RelL]
  | n + 1, a :: xs, _, ⟨v, vs', h, h1, h3⟩ => by subst h; exact ⟨v, _, rfl, h1, RelL.take n h3⟩
theorem RelL.drop : ∀ (n : Nat) {xs : List AV} {vs : List Value}, RelL E xs vs → RelL E (xs.drop n) (vs.drop n)
  | 0, _, _, h => by simpa using h
  | n + 1, [], _, h => by rw [show _ = [] from h]; simp [RelL]
  | n + 1, a :: xs, _, ⟨v, vs', h, h1, h3⟩ => by subst h; simpa using RelL.drop n h3
theorem RelL.map_sc (kn : Bool) : ∀ (vs : List Value), (∀ u ∈ vs, u.oneCell' = true) → RelL E (vs.map (.sc kn)) vs
  | [], _ => rfl
  | v :: vs, h => ⟨v, vs, rfl, ⟨rfl, h v (by simp)⟩, RelL.map_sc kn vs fun u hu => h u (by simp [hu])⟩
end
end
end Go.Proofs.YtomblhnchdokmaaGreatDoor

namespace Go.Proofs.YtomblhnchdokmaaGreatDoor
set_option linter.unusedSimpArgs false
set_option linter.unusedVariables false
open Go.RowKit
set_option maxRecDepth 10000

noncomputable section
/-- no function of the program bears the name that calls treat apart -/
def noGor (P : Program) : Bool := P.funcs.toList.all fun fn => !(fn.name == "runtime.NumGoroutine")
def Fit (P : Program) : Prop := P.follows .mixedOrders = true ∧ noGor P = true
abbrev Spec := List AV → Hp → RT (AV × Hp)
inductive Ex where | normal | exit (id : Nat) | ret
abbrev Out := Ex × Tm × Hp
/-- what a block of a function does, where it is told -/
abbrev BSpec := Tm → Hp → RT Out

section
variable (P : Program)

def ofConst : Value → AV
  | .agg cs => bif cs.toList.all Value.oneCell' then .agg (cs.toList.map (.sc true)) else .any
  | .tuple _ => .any
  | v => .sc true v
def opnd (F : Tm) : Operand → AV
  | .tmp t => look t F.tm
  | .const v => ofConst v
  | .global g => match layF g layT with | some vs => .ea (vs.map (.sc true)) | none => .any
  | .func f => .fn (.func f) [] []
/-- a value's cells -/
def cellsA : AV → Option (List AV)
  | .agg cs => some cs
  | .any => none
  | .tup _ => none
  | .rw _ _ => none
  | x => some [x]
def sizeT (t : TypeId) : Option Nat := (P.info? t).map (·.size)
/-- a slice whose structure is known tells of each element whether it is known -/
def hint (kn : Bool) (d : D) : Bool := bif kn then d.isK else false
def hintAll (kn : Bool) (d : D) : Bool := bif kn then d.toL.all (fun e => (e.cell 0).isK) else false
def leaf (kn : Bool) : Sh → D → AV
  | .int k, d => .sc (hint kn d) (.int k d.toI)
  | .bool, d => .sc (hint kn d) (.bool d.toB)
  | .str, d => .sc (hint kn d) (.string d.toS)
  | .sl es, d => .sl (hint kn d) es d none
def leaves (kn : Bool) : List Sh → D → Nat → List AV
  | [], _, _ => []
  | s :: ss, d, j => leaf kn s (d.cell j) :: leaves kn ss d (j + 1)
/-- cells, and no map -/
def isVar : List AV → Bool
  | [.tup _] => false
  | [.any] => false
  | [.agg _] => false
  | [.rw _ _] => false
  | _ => true
/-- a row's data -/
def rowOf (o : Nat) (h : Hp) : Option (List Sh × D) := match lookO o h.ob with | some [.rw es d] => some (es, d) | _ => none
/-- an element with other cells from j on -/
def putC : List Sh → Nat → Nat → List D → D → List D
  | [], _, _, _, _ => []
  | _ :: ss, k, j, [], e => e.cell k :: putC ss (k + 1) j [] e
  | _ :: ss, k, j, x :: r, e => bif Nat.ble j k then x :: putC ss (k + 1) j r e else e.cell k :: putC ss (k + 1) j (x :: r) e
def loadA (t : TypeId) (a : AV) (h : Hp) : RT AV :=
  match sizeT P t with
  | none => .bad 1
  | some n => match P.underlying t with
    | none => .bad 11
    | some td => match a with
      | .ptr o off => match lookO o h.ob with
        | none => .bad 2
        | some cs => bif isVar cs then (bif td.isRow then (bif Nat.ble (off + n) cs.length then .ok (.agg ((cs.drop off).take n)) else .bad 3)
          else match cs[off]? with | some x => .ok x | none => .bad 4) else .bad 160
      | .ep kn es d j => bif td.isRow then (bif Nat.ble n es.length then .ok (.agg (leaves kn (es.take n) d j)) else .bad 5)
          else match es with | s :: _ => .ok (leaf kn s (d.cell j)) | [] => .bad 6
      | .rp kn o m i j => match rowOf o h with
        | some (es, d) => bif Nat.beq m es.length then need kn (decide (i < d.len)) 170 (bif td.isRow then (bif Nat.ble (j + n) es.length then .ok (.agg (leaves kn ((es.drop j).take n) (d.get i) j)) else .bad 171)
          else match es.drop j with | s :: _ => .ok (leaf kn s ((d.get i).cell j)) | [] => .bad 172) else .bad 173
        | none => .bad 174
      | .ea cs => bif td.isRow then (bif Nat.ble n cs.length then .ok (.agg (cs.take n)) else .bad 300)
          else match cs with | x :: _ => .ok x | [] => .bad 301
      | _ => .bad 7
def confA : Sh → AV → Option D
  | .int k, .sc kn (.int k' v) => bif decide (k = k') then some (bif kn then .ki v else .i v) else none
  | .bool, .sc kn (.bool v) => some (bif kn then .kb v else .b v)
  | .str, .sc kn (.string v) => some (bif kn then .ks v else .s v)
  | .sl es, .sl kn es' d _ => bif Sh.eqsL es es' then some (d.mkK kn) else none
  | .sl _, .sc _ (.slice none 0 0) => some (.kl [])
  | _, _ => none
def confL : List Sh → List AV → Option (List D)
  | [], [] => some []
  | s :: ss, x :: xs => match confA s x, confL ss xs with | some d, some ds => some (d :: ds) | _, _ => none
  | _, _ => none
def storeA (t : TypeId) (a x : AV) (h : Hp) : RT Hp :=
  match sizeT P t, a, cellsA x with
  | some n, .ptr o off, some new => match lookO o h.ob with
    | some cs => bif isVar cs && Nat.beq new.length n && Nat.ble (off + n) cs.length then .ok { h with ob := (o, cs.take off ++ new ++ cs.drop (off + n)) :: h.ob } else .bad 8
    | none => .bad 9
  | some n, .rp kn o m i j, some new => match rowOf o h with
    | some (es, d) => bif Nat.beq m es.length && Nat.beq new.length n && Nat.ble (j + n) es.length && Nat.ble 1 es.length then (match confL ((es.drop j).take n) new with
      | some ds => need kn (decide (i < d.len)) 175 (.ok { h with ob := (o, [.rw es (d.setE i (.t (putC es 0 j ds (d.get i))))]) :: h.ob })
      | none => .bad 176) else .bad 177
    | none => .bad 178
  | _, _, _ => .bad 10
/-- a new variable -/
def newA (cs : List AV) (h : Hp) : AV × Hp := (.ptr h.nx 0, { h with ob := (h.nx, cs) :: h.ob, nx := h.nx + 1 })
def fillA (place : Nat → Option (Nat × Nat)) : List AV → List (Nat × AV) → Option (List AV)
  | cells, [] => some cells
  | cells, (i, x) :: rest => match place i, cellsA x with
    | some (off, n), some new => bif Nat.beq new.length n && Nat.ble (off + n) cells.length then fillA place (cells.take off ++ new ++ cells.drop (off + n)) rest else none
    | _, _ => none
def zeroA (t : TypeId) : Option (List AV) := match (P.info? t).bind (·.zero) with
  | some z => cellsA (ofConst z)
  | none => none
def fieldsA (fs : Array Field) (i : Nat) : Option (Nat × Nat) := match fs[i]? with
  | some f => (sizeT P f.type).map fun n => (f.offset, n)
  | none => none
def knownA : AV → Bool
  | .sc kn _ => kn
  | .sl kn _ _ _ => kn
  | _ => false
/-- the elements of a row of cells -/
def elsA (es : List Sh) : Nat → List AV → Option (List D)
  | 0, _ => some []
  | m + 1, cs => match confL es (cs.take es.length), elsA es m (cs.drop es.length) with | some d, some ds => some (.t d :: ds) | _, _ => none
/-- a slice: its shapes, its data -/
def asSl (es0 : List Sh) : AV → Option (Bool × List Sh × D)
  | .sl kn es d _ => some (kn, es, d)
  | .sc _ (.slice none 0 0) => some (true, es0, .l [])
  | _ => none
def newVec (kn : Bool) (es : List Sh) (d : D) (e : TypeId) (h : Hp) : AV × Hp :=
  (.sl kn es d (some (h.nv, h.ng)), { h with gn := (h.nv, h.ng, e) :: h.gn, nv := h.nv + 1, ng := h.ng + 1 })
def elemA (t : TypeId) : Option TypeId := match P.underlying t with | some (.slice e) => some e | _ => none

/-- a part of a row of cells -/
def partA (t : TypeId) (cs : List AV) (off : Nat) : Option AV :=
  match P.underlying t, sizeT P t with
  | some td, some n => bif td.isRow then some (.agg ((cs.drop off).take n)) else cs[off]?
  | _, _ => none
/-- both: (known, value) -/
def bothB (a b : Bool × Bool) : Bool × Bool := bif a.1 then (bif a.2 then b else (true, false)) else (a.1 && b.1, a.2 && b.2)
def eqFs (eq : TypeId → AV → AV → Option (Bool × Bool)) (xs ys : List AV) : List Field → Option (Bool × Bool)
  | [] => some (true, true)
  | f :: fs => bif decide (f.name = "_") then none else match partA P f.type xs f.offset, partA P f.type ys f.offset with
    | some a, some b => match eq f.type a b, eqFs eq xs ys fs with
      | some r, some s => some (bothB r s)
      | _, _ => none
    | _, _ => none
def eqIs (eq : AV → AV → Option (Bool × Bool)) (e : TypeId) (c : Nat) (xs ys : List AV) : List Nat → Option (Bool × Bool)
  | [] => some (true, true)
  | i :: is => match partA P e xs (i * c), partA P e ys (i * c) with
    | some a, some b => match eq a b, eqIs eq e c xs ys is with
      | some r, some s => some (bothB r s)
      | _, _ => none
    | _, _ => none
/-- whether two values are the same -/
def eqAV : Nat → TypeId → AV → AV → Option (Bool × Bool)
  | 0, _, _, _ => none
  | n + 1, t, x, y => match P.underlying t, x, y with
    | some (.int _), .sc k1 (.int k a), .sc k2 (.int k' b) => bif decide (k = k') then some (k1 && k2, a == b) else none
    | some .string, .sc k1 (.string a), .sc k2 (.string b) => some (k1 && k2, a.toList == b.toList)
    | some .bool, .sc k1 (.bool a), .sc k2 (.bool b) => some (k1 && k2, a == b)
    | some (.struct fs), .agg xs, .agg ys => bif P.stoodInHeld t then none else eqFs P (eqAV n) xs ys fs.toList
    | some (.array m e), .agg xs, .agg ys => match sizeT P e with
      | some c => eqIs P (eqAV n e) e c xs ys (List.range m)
      | none => none
    | _, _, _ => none
/-- which entry of a map has a key: its place, its stamp, its value -/
def findE (kt : TypeId) (k : AV) : List AV → Nat → RT (Option (Nat × AV × AV))
  | b :: k1 :: v :: r, i => match eqAV P 16 kt k k1 with
    | some (kn, e) => brk kn e (.ok (some (i, b, v))) (findE kt k r (i + 1))
    | none => .bad 161
  | [], _ => .ok none
  | _, _ => .bad 162
def setE (k v : AV) : List AV → Nat → List AV
  | b :: _ :: _ :: r, 0 => b :: k :: v :: r
  | b :: k1 :: v1 :: r, i + 1 => b :: k1 :: v1 :: setE k v r i
  | l, _ => l
def delE : List AV → Nat → List AV
  | _ :: _ :: _ :: r, 0 => r
  | b :: k :: v :: r, i + 1 => b :: k :: v :: delE r i
  | l, _ => l
/-- the key of entry i -/
def keyE : List AV → Nat → AV
  | _ :: k :: _ :: _, 0 => k
  | _ :: _ :: _ :: r, i + 1 => keyE r i
  | _, _ => .any
/-- a map's clock, its entries: stamp, key, value -/
def mapOf (o : Nat) (h : Hp) : Option (Int × List AV) := match lookO o h.ob with | some [.tup (.sc _ (.int .i64 c) :: kvs)] => some (c, kvs) | _ => none
/-- types of keys that are looked at -/
def keyOk (t : TypeId) : Bool := match P.underlying t with
  | some (.int _) => true
  | some .string => true
  | some .bool => true
  | some (.array _ e) => (match P.underlying e with | some (.int _) => true | _ => false)
  | _ => false
/-- a value that such a key may be -/
def isKey (t : TypeId) (k : AV) : Bool := match P.underlying t, k with
  | some (.array m e), .agg cs => (match sizeT P e with | some 1 => Nat.beq cs.length m | _ => false)
  | some (.array _ _), _ => false
  | _, _ => true
def bitP (p : AV × AV) (r : Bool × Bool) : Bool × Bool := match p.1, p.2 with
  | .sc k1 (.int k a), .sc k2 (.int k' b) => (k1 && k2 && r.1, decide (k = k') && a == b && r.2)
  | _, _ => (true, false)
/-- whether two keys are bit by bit the same -/
def bitsA : AV → AV → Bool × Bool
  | .sc k1 (.int k a), .sc k2 (.int k' b) => (k1 && k2, decide (k = k') && a == b)
  | .sc k1 (.string a), .sc k2 (.string b) => (k1 && k2, a == b)
  | .sc k1 (.bool a), .sc k2 (.bool b) => (k1 && k2, a == b)
  | .agg xs, .agg ys => (List.zip xs ys).foldr bitP (true, Nat.beq xs.length ys.length)
  | _, _ => (true, false)
def zeroV (t : TypeId) : Option AV := ((P.info? t).bind (·.zero)).map ofConst
def lookupA (t : TypeId) (m k : AV) (two : Bool) (h : Hp) : RT AV :=
  match P.underlying t with
  | some (.map kt vt) => bif keyOk P kt && isKey P kt k then (match m with
    | .mp o => match mapOf o h with
      | some (_, kvs) => (findE P kt k kvs 0).bind fun r => match r with
        | some (_, _, v) => .ok (bif two then .tup [v, .sc true (.bool true)] else v)
        | none => match zeroV P vt with
          | some z => .ok (bif two then .tup [z, .sc true (.bool false)] else z)
          | none => .bad 163
      | none => .bad 164
    | .sc _ (.map none) => match zeroV P vt with
      | some z => .ok (bif two then .tup [z, .sc true (.bool false)] else z)
      | none => .bad 351
    | _ => .bad 165) else .bad 352
  | _ => .bad 353
def updateA (t : TypeId) (m k x : AV) (h : Hp) : RT Hp :=
  match P.underlying t, m with
  | some (.map kt _), .mp o => bif keyOk P kt && isKey P kt k then (match mapOf o h with
    | some (c, kvs) => (findE P kt k kvs 0).bind fun r => match r with
      | some (i, _, _) => (fun b : Bool × Bool => need b.1 b.2 354 (.ok { h with ob := (o, [.tup (.sc true (.int .i64 c) :: setE k x kvs i)]) :: h.ob })) (bitsA (keyE kvs i) k)
      | none => .ok { h with ob := (o, [.tup (.sc true (.int .i64 (c + 1)) :: (kvs ++ [.sc true (.int .i64 c), k, x]))]) :: h.ob }
    | none => .bad 166) else .bad 355
  | _, _ => .bad 167
/-- an entry to be changed: its value, its stamp -/
def entryA (t : TypeId) (m k : AV) (h : Hp) : RT (AV × Hp) :=
  match P.underlying t, m with
  | some (.map kt vt), .mp o => bif keyOk P kt && isKey P kt k then (match mapOf o h with
    | some (c, kvs) => (findE P kt k kvs 0).bind fun r => match r with
      | some (i, b, v) => (fun q : Bool × Bool => need q.1 q.2 356 (.ok (.tup [v, b], { h with ob := (o, [.tup (.sc true (.int .i64 c) :: setE k v kvs i)]) :: h.ob }))) (bitsA (keyE kvs i) k)
      | none => match zeroV P vt with
        | some z => .ok (.tup [z, .sc true (.int .i64 c)], { h with ob := (o, [.tup (.sc true (.int .i64 (c + 1)) :: (kvs ++ [.sc true (.int .i64 c), k, z]))]) :: h.ob })
        | none => .bad 357
    | none => .bad 358) else .bad 359
  | _, _ => .bad 400
/-- the entry of a stamp -/
def findB (b : Int) : List AV → Nat → RT Nat
  | .sc k1 (.int .i64 c) :: _ :: _ :: r, i => brk k1 (c == b) (.ok i) (findB b r (i + 1))
  | _, _ => .bad 401
def entryPutA (m s x : AV) (h : Hp) : RT Hp :=
  match m, s with
  | .mp o, .sc _ (.int .i64 b) => match mapOf o h with
    | some (c, kvs) => (findB b kvs 0).bind fun i => .ok { h with ob := (o, [.tup (.sc true (.int .i64 c) :: setE (keyE kvs i) x kvs i)]) :: h.ob }
    | none => .bad 402
  | _, _ => .bad 403
def deleteA (t : TypeId) (m k : AV) (h : Hp) : RT Hp :=
  match P.underlying t, m with
  | some (.map kt _), .mp o => bif keyOk P kt && isKey P kt k then (match mapOf o h with
    | some (c, kvs) => (findE P kt k kvs 0).bind fun r => match r with
      | some (i, _, _) => .ok { h with ob := (o, [.tup (.sc true (.int .i64 c) :: delE kvs i)]) :: h.ob }
      | none => .ok { h with ob := (o, [.tup (.sc true (.int .i64 c) :: kvs)]) :: h.ob }
    | none => .bad 404) else .bad 405
  | _, _ => .bad 406
/-! A range over a map. -/
def iterOf (r : Nat) (h : Hp) : Option (Nat × Int × Int × List AV) := match lookO r h.ob with
  | some [.tup [.mp o, .sc _ (.int .i64 a), .sc _ (.int .i64 b), .tup seen]] => some (o, a, b, seen)
  | _ => none
def stampsE : List AV → Option (List (Int × AV × AV))
  | .sc _ (.int .i64 b) :: k :: v :: r => (match stampsE r with | some l => some ((b, k, v) :: l) | none => none)
  | [] => some []
  | _ => none
def seenL : List AV → Option (List Int)
  | .sc _ (.int .i64 b) :: r => (match seenL r with | some l => some (b :: l) | none => none)
  | [] => some []
  | _ => none
def rangeA (t : TypeId) (x : AV) (h : Hp) : RT (AV × Hp) := match P.underlying t, x with
  | some (.map _ _), .mp o => match mapOf o h with
    | some (c, _) => .ok (.ptr h.nx 0, (newA [.tup [.mp o, .sc true (.int .i64 c), .sc true (.int .i64 c), .tup []]] h).2)
    | none => .bad 417
  | _, _ => .bad 418
def stepE (r o : Nat) (since c : Int) (seen : List AV) (h : Hp) (e : Int × AV × AV) : RT (AV × Hp) :=
  .ok (.tup [.sc true (.bool true), e.2.1, e.2.2], { h with ob := (r, [.tup [.mp o, .sc true (.int .i64 since), .sc true (.int .i64 c), .tup (seen ++ [.sc true (.int .i64 e.1)])]]) :: h.ob })
def stepsE (r o : Nat) (since c : Int) (seen : List AV) (h : Hp) : Int × AV × AV → List (Int × AV × AV) → RT (AV × Hp)
  | e, [] => stepE r o since c seen h e
  | e, e2 :: l => .all (stepE r o since c seen h e) (stepsE r o since c seen h e2 l)
def nextA (x : AV) (h : Hp) : RT (AV × Hp) := match x with
  | .ptr r 0 => match iterOf r h with
    | some (o, since, last, seen) => match mapOf o h with
      | some (c, kvs) => match stampsE kvs, seenL seen with
        | some es, some sl => bif es.all (fun e => decide (e.1 < since)) && decide (since ≤ last) then
            (match es.filter (fun e => !(sl.contains e.1)) with
            | [] => .ok (.tup [.sc true (.bool false)], h)
            | e :: l => stepsE r o since c seen h e l) else .bad 419
        | _, _ => .bad 420
      | none => .bad 421
    | none => .bad 422
  | _ => .bad 423
def entryI (x : AV) (h : Hp) : RT (AV × Hp) := match x with
  | .ptr r 0 => match iterOf r h with
    | some (o, _, last, seen) => match mapOf o h, seenL seen with
      | some (c, kvs), some sl => match stampsE kvs, sl.getLast? with
        | some es, some b => bif decide (c = last) then (match es.find? (fun e => e.1 == b) with
          | some e => .ok (.tup [e.2.1, e.2.2], h)
          | none => .bad 424) else .bad 425
        | _, _ => .bad 426
      | _, _ => .bad 427
    | none => .bad 428
  | _ => .bad 429
def newM (h : Hp) : AV × Hp := (.mp h.nx, { h with ob := (h.nx, [.tup [.sc true (.int .i64 0)]]) :: h.ob, nx := h.nx + 1 })
def indexA (t : TypeId) (x i : AV) : RT AV :=
  match P.underlying t, x, i with
  | some (.array m e), .agg cs, .sc true (.int _ n) => match sizeT P e with
    | some k => bif decide (0 ≤ n ∧ n < m) then (match partA P e cs (n.toNat * k) with | some v => .ok v | none => .bad 152) else .bad 153
    | none => .bad 154
  | some .string, .sc k1 (.string s), .sc k2 (.int _ n) => need (k1 && k2) (decide (0 ≤ n ∧ n < s.size)) 155 (.ok (.sc (k1 && k2) (.int .u8 (s.data.getD n.toNat 0).toNat)))
  | _, _, _ => .bad 156
def fieldA (t : TypeId) (x : AV) (f : Nat) : RT AV :=
  match P.underlying t, x with
  | some (.struct fs), .agg cs => match fs[f]? with
    | some fd => match partA P fd.type cs fd.offset with | some v => .ok v | none => .bad 157
    | none => .bad 158
  | _, _ => .bad 159
def intOp (op : BinOp) (k : IntKind) (kn : Bool) (a b : Int) : RT AV :=
  let r (n : Int) : RT AV := .ok (.sc kn (.int k n))
  let c (v : Bool) : RT AV := .ok (.sc kn (.bool v))
  match op with
  | .add => r (k.wrap (a + b))
  | .sub => r (k.wrap (a - b))
  | .mul => r (k.wrap (a * b))
  | .quo => need kn (b != 0) 20 (r (k.wrap (a.tdiv b)))
  | .rem => need kn (b != 0) 21 (r (a.tmod b))
  | .and => r (k.wrap (BitVec.ofInt k.bits a &&& BitVec.ofInt k.bits b).toNat)
  | .or => r (k.wrap (BitVec.ofInt k.bits a ||| BitVec.ofInt k.bits b).toNat)
  | .xor => r (k.wrap (BitVec.ofInt k.bits a ^^^ BitVec.ofInt k.bits b).toNat)
  | .andNot => r (k.wrap (BitVec.ofInt k.bits a &&& ~~~ BitVec.ofInt k.bits b).toNat)
  | .eql => c (a == b)
  | .neq => c (a != b)
  | .lss => c (decide (a < b))
  | .leq => c (decide (a ≤ b))
  | .gtr => c (decide (a > b))
  | .geq => c (decide (a ≥ b))
  | _ => .bad 22
def strOp (op : BinOp) (kn : Bool) (a b : ByteArray) : RT AV :=
  match op with
  | .eql => .ok (.sc kn (.bool (a.toList == b.toList)))
  | .neq => .ok (.sc kn (.bool (!(a.toList == b.toList))))
  | .lss => .ok (.sc kn (.bool (Op.bytesLess a.toList b.toList)))
  | .add => need kn (decide (a.size + b.size ≤ maxLen)) 23 (.ok (.sc kn (.string (a ++ b))))
  | _ => .bad 24
/-- whether an address, a map, a slice is nil, where that is known -/
def nilP : AV → Option Bool
  | .sc _ (.pointer none) => some true
  | .ptr .. => some false
  | .ep .. => some false
  | .ea _ => some false
  | .rp .. => some false
  | _ => none
def nilM : AV → Option Bool
  | .sc _ (.map none) => some true
  | .mp _ => some false
  | _ => none
def nilV : AV → Option Bool
  | .vsl .. => some false
  | .al .. => some false
  | .rsl true _ _ (_ + 1) => some false
  | _ => none
def nilB (t : TypeId) (x y : AV) : Option Bool := match P.underlying t, y with
  | some (.pointer _), .sc _ (.pointer none) => nilP x
  | some (.map _ _), .sc _ (.map none) => nilM x
  | some (.slice _), .sc _ (.slice none 0 0) => nilV x
  | _, _ => none
def nilOp (op : BinOp) : Option Bool → RT AV
  | some b => match op with
    | .eql => .ok (.sc true (.bool b))
    | .neq => .ok (.sc true (.bool (!b)))
    | _ => .bad 350
  | none => .bad 32
def binA (op : BinOp) (t : TypeId) (x y : AV) : RT AV :=
  match x, y with
  | .sc k1 (.int k a), .sc k2 (.int k' b) => match op with
    | .shl => need (k1 && k2) (decide (0 ≤ b)) 25 (.ok (.sc (k1 && k2) (.int k (k.wrap (a * 2 ^ (min b.toNat k.bits))))))
    | .shr => need (k1 && k2) (decide (0 ≤ b)) 26 (.ok (.sc (k1 && k2) (.int k (a.fdiv (2 ^ (min b.toNat k.bits))))))
    | op => bif decide (k = k') then intOp op k (k1 && k2) a b else .bad 27
  | .sc k1 (.string a), .sc k2 (.string b) => strOp op (k1 && k2) a b
  | .sc k1 (.bool a), .sc k2 (.bool b) => match P.underlying t with
    | some .bool => match op with
      | .eql => .ok (.sc (k1 && k2) (.bool (a == b)))
      | .neq => .ok (.sc (k1 && k2) (.bool (!(a == b))))
      | _ => .bad 28
    | _ => .bad 29
  | .sc _ .nilFunc, .sc _ .nilFunc => match P.underlying t, op with
    | some (.func ..), .eql => .ok (.sc true (.bool true))
    | some (.func ..), .neq => .ok (.sc true (.bool false))
    | _, _ => .bad 30
  | .sl kn _ d _, .sc _ (.slice none 0 0) => match P.underlying t, op with
    | some (.slice _), .eql => brk kn (decide (d.len = 0)) (.all (.ok (.sc true (.bool true))) (.ok (.sc true (.bool false)))) (.ok (.sc true (.bool false)))
    | some (.slice _), .neq => brk kn (decide (d.len = 0)) (.all (.ok (.sc true (.bool false))) (.ok (.sc true (.bool true)))) (.ok (.sc true (.bool true)))
    | _, _ => .bad 33
  | .sc _ (.slice none 0 0), .sc _ (.slice none 0 0) => match P.underlying t, op with
    | some (.slice _), .eql => .ok (.sc true (.bool true))
    | some (.slice _), .neq => .ok (.sc true (.bool false))
    | _, _ => .bad 34
  | .agg xs, .agg ys => bif P.eqGuardType P.depth t then .bad 150 else match op, eqAV P 16 t (.agg xs) (.agg ys) with
    | .eql, some (kn, r) => .ok (.sc kn (.bool r))
    | .neq, some (kn, r) => .ok (.sc kn (.bool (!r)))
    | _, _ => .bad 151
  | .fn _ _ _, .sc _ .nilFunc => match P.underlying t, op with
    | some (.func ..), .eql => .ok (.sc true (.bool false))
    | some (.func ..), .neq => .ok (.sc true (.bool true))
    | _, _ => .bad 31
  | x, y => nilOp op (nilB P t x y)
def unA (op : UnOp) (x : AV) : RT AV :=
  match op, x with
  | .not, .sc kn (.bool b) => .ok (.sc kn (.bool (!b)))
  | .neg, .sc kn (.int k n) => .ok (.sc kn (.int k (k.wrap (0 - n))))
  | .xor, .sc kn (.int k n) => .ok (.sc kn (.int k (k.wrap (BitVec.ofInt k.bits (bif k.signed then -1 else k.max) ^^^ BitVec.ofInt k.bits n).toNat)))
  | _, _ => .bad 33
def boundA (dflt : Int) : Option AV → Option (Bool × Int)
  | none => some (true, dflt)
  | some (.sc kn (.int _ n)) => some (kn, n)
  | _ => none
/-- the bounds of a slice of a row of m, all of them known -/
def boundsV (len m : Nat) (lo hi mx : Option AV) : Option (Nat × Nat × Nat) := match boundA 0 lo, boundA len hi, boundA m mx with
  | some (true, l), some (true, u), some (true, q) => bif decide (0 ≤ l ∧ l ≤ u ∧ u ≤ q ∧ q ≤ (m : Int)) && (mx.isNone || hi.isSome) then some (l.toNat, u.toNat, q.toNat) else none
  | _, _, _ => none
def cutV (o off n : Nat) : Option (Nat × Nat × Nat) → RT AV
  | some (l, u, q) => .ok (.vsl o (bif Nat.beq q l then off else off + l * n) n (u - l) (q - l))
  | none => .bad 309
/-- a slice of a row that may change -/
def sliceV (t : TypeId) (x : AV) (lo hi mx : Option AV) : RT AV := match P.underlying t, x with
  | some (.slice e), .vsl o off n len cap => match sizeT P e with
    | some k => bif Nat.beq k n then cutV o off n (boundsV len cap lo hi mx) else .bad 310
    | none => .bad 311
  | some (.array m e), .ptr o off => match sizeT P e with
    | some k => bif Nat.ble m maxLen then cutV o off k (boundsV m m lo hi mx) else .bad 312
    | none => .bad 313
  | some (.slice e), .al n len cs _ => match sizeT P e, mx with
    | some k, none => match boundsV len len lo hi none with
      | some (l, u, _) => bif Nat.beq k n then .ok (.al n (u - l) ((cs.drop (l * n)).take ((u - l) * n)) none) else .bad 315
      | none => .bad 316
    | _, _ => .bad 317
  | _, _ => .bad 318
def isV : AV → Bool
  | .vsl .. => true
  | .al .. => true
  | .ptr .. => true
  | _ => false
def sliceB (t : TypeId) (x : AV) (lo hi mx : Option AV) : RT AV :=
  match elemA P t with
  | some e => match asSl (shE P e) x, sizeT P e with
    | some (kn, es, d), some n => match boundA 0 lo, boundA d.len hi, boundA d.len mx with
      | some (k1, l), some (k2, u), some (k3, m) => bif Nat.beq n es.length && (mx.isNone || hi.isSome) then
          need (kn && k1 && k2 && k3) (decide (0 ≤ l ∧ l ≤ u ∧ u ≤ m ∧ m ≤ d.len)) 37 (bif bif kn && k1 && k2 then decide (l = u) && !(Nat.beq d.len 0) else false then .ok (.al es.length 0 [] none) else .ok (.sl (kn && k1 && k2) es (d.sub l.toNat u.toNat) none)) else .bad 38
      | _, _, _ => .bad 39
    | _, _ => .bad 40
  | none => match P.underlying t, x, mx with
    | some .string, .sc kn (.string s), none => match boundA 0 lo, boundA s.size hi with
      | some (k1, l), some (k2, u) => need (kn && k1 && k2) (decide (0 ≤ l ∧ l ≤ u ∧ u ≤ (s.size : Int))) 271 (.ok (.sc (kn && k1 && k2) (.string (s.extract l.toNat u.toNat))))
      | _, _ => .bad 272
    | _, _, _ => .bad 41
def sliceA (t : TypeId) (x : AV) (lo hi mx : Option AV) : RT AV := bif isV x then sliceV P t x lo hi mx else sliceB P t x lo hi mx
def indexAddrA (t : TypeId) (x i : AV) : RT AV :=
  match P.underlying t, x, i with
  | some (.slice e), .sl kn es d _, .sc k2 (.int _ n) => bif (match sizeT P e with | some m => Nat.beq m es.length | none => false) then
      need (kn && k2) (decide (0 ≤ n ∧ n < d.len)) 42 (.ok (.ep (kn && k2) es (d.get n.toNat) 0)) else .bad 43
  | some (.slice _), .sc _ (.slice none 0 0), .sc k2 (.int _ _) => need k2 false 48 (.bad 49)
  | some (.slice e), .rsl kn o m len, .sc k2 (.int _ n) => bif (match sizeT P e with | some k => Nat.beq k m | none => false) then
      need (kn && k2) (decide (0 ≤ n ∧ n < (len : Int))) 179 (.ok (.rp (kn && k2) o m n.toNat 0)) else .bad 180
  | some (.array m e), .ptr o off, .sc true (.int _ n) => match sizeT P e with
    | some k => bif decide (0 ≤ n ∧ n < m) then .ok (.ptr o (off + n.toNat * k)) else .bad 44
    | none => .bad 45
  | some (.array m e), .ep kn es d j, .sc true (.int _ n) => match sizeT P e with
    | some k => bif decide (0 ≤ n ∧ n < m) && Nat.ble (n.toNat * k) es.length then .ok (.ep kn (es.drop (n.toNat * k)) d (j + n.toNat * k)) else .bad 46
    | none => .bad 47
  | some (.slice e), .vsl o off m len _, .sc true (.int _ n) => match sizeT P e with
    | some k => bif Nat.beq k m && decide (0 ≤ n ∧ n < (len : Int)) then .ok (.ptr o (off + n.toNat * k)) else .bad 303
    | none => .bad 304
  | some (.slice e), .al m len cs _, .sc true (.int _ n) => match sizeT P e with
    | some k => bif Nat.beq k m && decide (0 ≤ n ∧ n < (len : Int)) then .ok (.ea (cs.drop (n.toNat * k))) else .bad 305
    | none => .bad 306
  | some (.array m e), .ea cs, .sc true (.int _ n) => match sizeT P e with
    | some k => bif decide (0 ≤ n ∧ n < m) then .ok (.ea (cs.drop (n.toNat * k))) else .bad 307
    | none => .bad 308
  | _, _, _ => .bad 50
def fieldAddrA (s : TypeId) (x : AV) (f : Nat) : RT AV :=
  match P.underlying s with
  | some (.struct fs) => match fs[f]? with
    | some fd => match sizeT P fd.type with
      | some (_ + 1) => match x with
        | .ptr o off => .ok (.ptr o (off + fd.offset))
        | .ep kn es d j => bif Nat.ble fd.offset es.length then .ok (.ep kn (es.drop fd.offset) d (j + fd.offset)) else .bad 51
        | .rp kn o m i j => .ok (.rp kn o m i (j + fd.offset))
        | .ea cs => .ok (.ea (cs.drop fd.offset))
        | _ => .bad 52
      | _ => .bad 53
    | none => .bad 54
  | _ => .bad 55
def buildA (t : TypeId) (parts : List (Nat × AV)) : RT AV :=
  match zeroA P t with
  | none => .bad 56
  | some z => match P.underlying t with
    | some (.struct fs) => bif fs.toList.all (fun f => (sizeT P f.type).isSome) then (match fillA (fieldsA P fs) z parts with | some cs => .ok (.agg cs) | none => .bad 57) else .bad 79
    | some (.array _ e) => match sizeT P e with
      | some n => match fillA (fun i => some (i * n, n)) z parts with | some cs => .ok (.agg cs) | none => .bad 58
      | none => .bad 59
    | _ => .bad 60
def rep {α : Type} (z : List α) : Nat → List α
  | 0 => []
  | m + 1 => z ++ rep z m
/-- slices whose elements are no data -/
def buildSliceG (t : TypeId) (len : Nat) (parts : List (Nat × AV)) (h : Hp) : RT (AV × Hp) :=
  match elemA P t with
  | none => .bad 321
  | some e => match sizeT P e, zeroA P e with
    | some n, some z => bif Nat.ble (len * n) 16777216 && Nat.beq z.length n && Nat.ble 1 n then
        match fillA (fun i => some (i * n, n)) (rep z len) parts with
        | some cs => .ok (.al n len cs (some (h.nv, h.ng)), { h with gn := (h.nv, h.ng, e) :: h.gn, nv := h.nv + 1, ng := h.ng + 1 })
        | none => .bad 322 else .bad 323
    | _, _ => .bad 324
def buildSliceA (t : TypeId) (len : Nat) (parts : List (Nat × AV)) (h : Hp) : RT (AV × Hp) :=
  match elemA P t with
  | none => .bad 61
  | some e => match sizeT P e, zeroA P e with
    | some n, some z => bif Nat.ble (len * n) 16777216 && Nat.beq z.length n && Nat.beq (shE P e).length n && Nat.ble 1 n && Nat.ble (len * szB (shE P e)) room && Nat.ble 1 len then
        match fillA (fun i => some (i * n, n)) (rep z len) parts with
        | some cs => match elsA (shE P e) len cs with
          | some ds => .ok (newVec true (shE P e) (.l ds) e h)
          | none => buildSliceG P t len parts h
        | none => .bad 63 else buildSliceG P t len parts h
    | _, _ => .bad 65
/-- the cells of a slice's elements: how many elements, their cells -/
def srcC (h : Hp) (n : Nat) : AV → Option (Nat × List AV)
  | .vsl o off m len _ => bif Nat.beq m n then (match lookO o h.ob with
    | some cs => bif isVar cs && Nat.ble (off + len * n) cs.length then some (len, (cs.drop off).take (len * n)) else none
    | none => none) else none
  | .al m len cs _ => bif Nat.beq m n then some (len, cs) else none
  | .sl kn es d _ => bif kn && Nat.beq es.length n then some (d.len, (d.toL.map fun e => leaves true es e 0).flatten) else none
  | .sc _ (.slice none 0 0) => some (0, [])
  | _ => none
/-- a slice of cells that stay: as data, where it may be -/
def mkSl (es : List Sh) (n len : Nat) (cs : List AV) (tip : Option (Nat × Nat)) : AV :=
  bif Nat.beq es.length n && Nat.ble (len * szB es) room then (match elsA es len cs with | some ds => .sl true es (.l ds) tip | none => .al n len cs tip) else .al n len cs tip
/-- the bytes of cells -/
def bytesC : List AV → Option (Bool × List Int)
  | [] => some (true, [])
  | .sc kn (.int .u8 n) :: r => match bytesC r with | some p => some (kn && p.1, n :: p.2) | none => none
  | _ => none
def strOf (l : List Int) : ByteArray := ⟨(l.map fun n => UInt8.ofNat n.toNat).toArray⟩
def convA (src dst : TypeId) (x : AV) (h : Hp) : RT AV :=
  match P.underlying src, P.underlying dst, x with
  | some (.int _), some (.int k), .sc kn (.int _ n) => .ok (.sc kn (.int k (k.wrap n)))
  | some (.slice e), some .string, .sl kn es d _ => match P.underlying e, es with
    | some (.int .u8), [.int .u8] => .ok (.sc (hintAll kn d) (.string d.str))
    | _, _ => .bad 34
  | some (.slice e), some .string, .sc _ (.slice none 0 0) => match P.underlying e with
    | some (.int .u8) => .ok (.sc true (.string .empty))
    | _ => .bad 35
  | some (.slice e), some .string, x => match P.underlying e, srcC h 1 x with
    | some (.int .u8), some (_, cs) => match bytesC cs with | some p => .ok (.sc p.1 (.string (strOf p.2))) | none => .bad 38
    | _, _ => .bad 37
  | _, _, _ => .bad 36
/-- a bound of a slice -/
def isG : AV → Bool
  | .vsl .. => true
  | .al .. => true
  | .rsl .. => true
  | _ => false
/-- the cells of a slice's elements, rows that may change too -/
def srcX (h : Hp) (n : Nat) (x : AV) : Option (Nat × List AV) := match x with
  | .rsl kn o m len => bif kn && Nat.beq m n then (match rowOf o h with
    | some (es, d) => bif Nat.beq es.length n && Nat.beq d.len len then some (len, (d.toL.map fun e => leaves true es e 0).flatten) else none
    | none => none) else none
  | x => srcC h n x
def isSlc : AV → Bool
  | .vsl .. => true
  | .al .. => true
  | .sl .. => true
  | .sc _ (.slice none 0 0) => true
  | _ => false
/-- an empty slice to which data come -/
def normS (es : List Sh) (x : AV) : AV → AV
  | .al n 0 cs tip => match x with
    | .sl .. => .sl true es (.l []) tip
    | _ => .al n 0 cs tip
  | s => s
/-- elements are data -/
def shapely (t : TypeId) : Bool := match elemA P t with
  | some e => (match sizeT P e with | some n => Nat.beq (shE P e).length n | none => true)
  | none => true
/-- which slice grows: a new one, or k with stamp g -/
def tipS : AV → Option (Option (Nat × Nat))
  | .sc _ (.slice none 0 0) => some none
  | .al _ _ _ (some kg) => some (some kg)
  | .sl _ _ _ (some kg) => some (some kg)
  | _ => none
/-- what stands behind m cells of a row from off on -/
def putR (cs : List AV) (off : Nat) (new : List AV) : List AV := cs.take off ++ new ++ cs.drop (off + new.length)
def appendG (t0 : TypeId) (s x : AV) (h : Hp) : RT (AV × Hp) :=
  match elemA P t0 with
  | none => .bad 325
  | some e => match P.info? e with
    | none => .bad 326
    | some inf => match inf.zero with
      | none => .bad 327
      | some z => bif Nat.beq z.cells.size inf.size && Nat.ble 1 inf.size && Nat.ble 1 inf.bytes then
        match srcX h inf.size x with
        | none => .bad 328
        | some (0, _) => bif isSlc s then .ok (s, h) else .bad 416
        | some (m, cs') => match s with
          | .vsl o off n len cap => bif Nat.beq n inf.size && Nat.ble (len + m) cap && Nat.beq cs'.length (m * inf.size) then (match lookO o h.ob with
            | some cs => bif isVar cs && Nat.ble (off + (len + m) * n) cs.length then .ok (.vsl o off n (len + m) cap, { h with ob := (o, putR cs (off + len * n) cs') :: h.ob }) else .bad 329
            | none => .bad 330) else (bif Nat.beq n inf.size && Nat.blt cap (len + m) && Nat.ble ((len + m) * inf.bytes) room then (match srcC h inf.size (.vsl o off n len cap) with
            | some (len', cs0) => bif Nat.beq len' len then .ok (mkSl (shE P e) inf.size (len + m) (cs0 ++ cs') (some (h.nv, h.ng)), { h with gn := (h.nv, h.ng, e) :: h.gn, nv := h.nv + 1, ng := h.ng + 1 }) else .bad 335
            | none => .bad 336) else .bad 331)
          | s => match srcC h inf.size s, tipS s with
            | some (len, cs0), some (some (k, g)) => match lookG k h.gn with
              | some (g', e') => bif Nat.beq g g' && Nat.beq e e' && Nat.ble ((len + m) * inf.bytes) room then .ok (mkSl (shE P e) inf.size (len + m) (cs0 ++ cs') (some (k, h.ng)), { h with gn := (k, h.ng, e) :: h.gn, ng := h.ng + 1 }) else .bad 332
              | none => .bad 333
            | some (len, cs0), some none => bif Nat.ble ((len + m) * inf.bytes) room then .ok (mkSl (shE P e) inf.size (len + m) (cs0 ++ cs') (some (h.nv, h.ng)), { h with gn := (h.nv, h.ng, e) :: h.gn, nv := h.nv + 1, ng := h.ng + 1 }) else .bad 334
            | _, _ => .bad 335 else .bad 336
/-- a new row that may change -/
def makeA (t : TypeId) (l c : AV) (h : Hp) : RT (AV × Hp) :=
  match elemA P t with
  | none => .bad 337
  | some e => match P.info? e, zeroA P e, l, c with
    | some inf, some z, .sc true (.int _ len), .sc true (.int _ cap) => bif decide (0 ≤ len ∧ len ≤ cap ∧ cap ≤ 16777216) && Nat.ble 1 inf.size && Nat.beq z.length inf.size && Nat.ble (inf.bytes * cap.toNat) room then
        .ok (.vsl h.nx 0 inf.size len.toNat cap.toNat, (newA (rep z cap.toNat) h).2) else .bad 338
    | _, _, _, _ => .bad 339
def repD (n : Nat) (e : D) : D := .l (List.replicate n e)
/-- a new row that may change, whose length is not known ahead -/
def makeR (t : TypeId) (l c : AV) (h : Hp) : RT (AV × Hp) :=
  match elemA P t with
  | none => .bad 650
  | some e => match P.info? e, zeroA P e, l, c with
    | some inf, some z, .sc kl (.int _ n), .sc kc (.int _ m) => match confL (shE P e) z with
      | some ds => bif Nat.ble 1 inf.size && Nat.beq z.length inf.size && Nat.beq (shE P e).length inf.size && Nat.ble (inf.bytes * 16777216) room && Nat.ble (16777216 * szB (shE P e)) room then
          need (kl && kc) (decide (0 ≤ n ∧ n = m ∧ n ≤ 16777216)) 651 (.ok (.rsl (kl && kc) h.nx (shE P e).length n.toNat, (newA [.rw (shE P e) (repD n.toNat (.t ds))] h).2)) else .bad 652
      | none => .bad 653
    | _, _, _, _ => .bad 654
def makeB (t : TypeId) (l c : AV) (h : Hp) : RT (AV × Hp) := match l, c with
  | .sc true _, .sc true _ => makeA P t l c h
  | _, _ => makeR P t l c h
/-- a row's data become another's -/
def copyR (td : TypeId) (d x : AV) (h : Hp) : RT (AV × Hp) :=
  match elemA P td, d, x with
  | some e, .rsl kn o n len, .rsl kn' o' n' len' => match rowOf o h, rowOf o' h, sizeT P e with
    | some (es, dd), some (es', dd'), some k => bif Nat.beq k n && Nat.beq n n' && Nat.beq es.length n && Sh.eqsL es es' && Nat.ble 1 n then
        need (kn && kn') (decide (len = dd.len ∧ len' = dd'.len ∧ len = len')) 655 (.ok (.sc (kn && kn') (.int .i64 len), { h with ob := (o, [.rw es dd']) :: h.ob })) else .bad 656
    | _, _, _ => .bad 657
  | _, _, _ => .bad 658
def isRsl : AV → Bool
  | .rsl .. => true
  | _ => false
/-- the first cells of another slice are put into a row -/
def copyA (td : TypeId) (d x : AV) (h : Hp) : RT (AV × Hp) :=
  match elemA P td, d with
  | some e, .vsl o off n len cap => match sizeT P e, srcC h n x, lookO o h.ob with
    | some k, some (m, cs'), some cs => bif Nat.beq k n && isVar cs && Nat.ble (off + len * n) cs.length && Nat.beq cs'.length (m * n) then
        .ok (.sc true (.int .i64 (Nat.min m len)), { h with ob := (o, putR cs off (cs'.take (Nat.min m len * n))) :: h.ob }) else .bad 340
    | none, _, _ => .bad 341
    | _, none, _ => .bad 344
    | _, _, none => .bad 345
  | _, _ => .bad 342
def appendA (t0 : TypeId) (s x : AV) (h : Hp) : RT (AV × Hp) :=
  match elemA P t0 with
  | none => .bad 66
  | some e => match P.info? e with
    | none => .bad 67
    | some inf => match inf.zero with
      | none => .bad 68
      | some z => bif Nat.beq z.cells.size inf.size && Nat.ble 1 inf.size && Nat.ble 1 inf.bytes && Nat.beq (shE P e).length inf.size && Nat.ble inf.bytes (szB (shE P e)) then
        match asSl (shE P e) x with
        | none => .bad 69
        | some (k2, es', d') => match s with
          | .sl k1 es d (some (k, g)) => match lookG k h.gn with
            | some (g', e') => bif Nat.beq g g' && Nat.beq e e' && Sh.eqsL es es' && Sh.eqsL es (shE P e) then
                let r : RT (AV × Hp) := .ok (.sl (k1 && k2) es (d.app d') (some (k, h.ng)), { h with gn := (k, h.ng, e) :: h.gn, ng := h.ng + 1 })
                bif k1 && Nat.beq d.len 0 then r else need (k1 && k2) (decide ((d.len + d'.len) * szB es ≤ room)) 70 r else .bad 71
            | none => .bad 72
          | .sc _ (.slice none 0 0) => bif Sh.eqsL (shE P e) es' then .ok (newVec k2 es' ((D.l []).app d') e h) else .bad 74
          | _ => .bad 75 else .bad 76
/-- rows that may change come of an append to nothing, for the types that the seat lists -/
def rowE (t : TypeId) (s x : AV) : Bool := match elemA P t, s, x with
  | some e, .sc _ (.slice none 0 0), .sl true es d _ => rowT.contains e && (!(Nat.beq d.len 0) && Sh.eqsL (shE P e) es)
  | _, _, _ => false
def appendR (t0 : TypeId) (x : AV) (h : Hp) : RT (AV × Hp) := match elemA P t0, x with
  | some e, .sl kn es d _ => match P.info? e with
    | some inf => match inf.zero with
      | some z => bif Nat.beq z.cells.size inf.size && Nat.ble 1 inf.size && Nat.ble 1 inf.bytes && Nat.beq es.length inf.size && Nat.ble inf.bytes (szB es) && Nat.ble (d.len * szB es) room && !(Nat.beq d.len 0) then
          .ok (.rsl kn h.nx es.length d.len, (newA [.rw es d] h).2) else .bad 620
      | none => .bad 621
    | none => .bad 622
  | _, _ => .bad 623
def lenA (t : TypeId) (x : AV) : RT AV :=
  match P.underlying t, x with
  | some (.slice _), .sl kn _ d _ => .ok (.sc kn (.int .i64 d.len))
  | some (.slice _), .sc _ (.slice none 0 0) => .ok (.sc true (.int .i64 0))
  | some (.slice _), .rsl kn _ _ len => .ok (.sc kn (.int .i64 len))
  | some (.slice _), .vsl _ _ _ len _ => .ok (.sc true (.int .i64 len))
  | some (.slice _), .al _ len _ _ => .ok (.sc true (.int .i64 len))
  | some .string, .sc kn (.string s) => .ok (.sc kn (.int .i64 s.size))
  | some (.array m _), _ => .ok (.sc true (.int .i64 m))
  | _, _ => .bad 77
def imin (a b : Int) : Int := if b < a then b else a
def imax (a b : Int) : Int := if b > a then b else a
def minA : List AV → RT AV
  | [.sc k1 (.int k a), .sc k2 (.int _ b)] => .ok (.sc (k1 && k2) (.int k (imin a b)))
  | _ => .bad 78
def maxA : List AV → RT AV
  | [.sc k1 (.int k a), .sc k2 (.int _ b)] => .ok (.sc (k1 && k2) (.int k (imax a b)))
  | _ => .bad 78
/-- a string's bytes -/
def isToB (s d : TypeId) : Bool := match P.underlying s, P.underlying d with
  | some .string, some (.slice _) => true
  | some (.slice _), some (.slice _) => true
  | _, _ => false
def isMapT (ts : Array TypeId) : Bool := match ts.toList with
  | [t] => (match P.underlying t with | some (.map _ _) => true | _ => false)
  | _ => false
def bytesD (kn : Bool) (s : ByteArray) : D := .l (s.data.toList.map fun c => bif kn then .ki c.toNat else .i c.toNat)
def toBA (s d : TypeId) (x : AV) (h : Hp) : RT (AV × Hp) := match P.underlying d, x with
  | some (.slice e), .sl kn es dd (some (k, g)) => match P.underlying s, P.underlying e, lookG k h.gn with
    | some (.slice e2), some (.int .u8), some (g', e') => bif Nat.beq s d && Nat.beq e e2 && Nat.beq g g' && Nat.beq e e' then need kn (decide (dd.len ≠ 0)) 413 (.ok (.sl kn es dd none, { h with gn := (k, h.ng, e) :: h.gn, ng := h.ng + 1 })) else .bad 414
    | _, _, _ => .bad 415
  | some (.slice e), .sc kn (.string s) => match P.underlying e, sizeT P e with
    | some (.int .u8), some 1 => need kn (decide (s.size ≤ room)) 407 (.ok (newVec kn [.int .u8] (bytesD kn s) e h))
    | _, _ => .bad 408
  | _, _ => .bad 409
/-- how many entries a map has -/
def lenM (x : AV) (h : Hp) : RT (AV × Hp) := match x with
  | .mp o => match mapOf o h with
    | some (_, kvs) => .ok (.sc true (.int .i64 (kvs.length / 3 : Nat)), h)
    | none => .bad 410
  | .sc _ (.map none) => .ok (.sc true (.int .i64 0), h)
  | _ => .bad 411
def builtinA (b : Builtin) (ts : Array TypeId) (xs : List AV) (h : Hp) : RT (AV × Hp) :=
  match b, xs with
  | .len, [x] => bif isMapT P ts then lenM x h else match ts.toList with | [t] => (lenA P t x).bind fun v => .ok (v, h) | _ => .bad 79
  | .delete, [m, k] => match ts.toList with
    | t :: _ => (deleteA P t m k h).bind fun h => .ok (.any, h)
    | _ => .bad 412
  | .append, [s, x] => match ts.toList with
    | [t, t'] => bif Nat.beq t t' then (bif rowE P t s x then appendR P t x h else bif isG (normS (shE P ((elemA P t).getD 0)) x s) || isG x || !(shapely P t) then appendG P t s x h else appendA P t (normS (shE P ((elemA P t).getD 0)) x s) x h) else .bad 80
    | _ => .bad 81
  | .copy, [d, x] => match ts.toList with
    | [t, t'] => bif Nat.beq t t' then (bif isRsl d then copyR P t d x h else copyA P t d x h) else .bad 343
    | _ => .bad 344
  | .min, xs => (minA xs).bind fun v => .ok (v, h)
  | .max, xs => (maxA xs).bind fun v => .ok (v, h)
  | _, _ => .bad 82
def evOp (call : FuncId → Spec) (o : Oper) (F : Tm) (h : Hp) : RT (AV × Hp) :=
  let v (r : RT AV) : RT (AV × Hp) := r.bind fun a => .ok (a, h)
  match o.op with
  | .move x => .ok (opnd F x, h)
  | .assign x => .ok (opnd F x, h)
  | .pick c a b => match opnd F c with | .sc kn (.bool t) => brk kn t (.ok (opnd F a, h)) (.ok (opnd F b, h)) | _ => .bad 83
  | .alloc e => match zeroA P e with | some cs => .ok (newA cs h) | none => .bad 84
  | .box _ x => match cellsA (opnd F x) with | some cs => .ok (newA cs h) | none => .bad 85
  | .build t ps => v (buildA P t (ps.toList.map fun p => (p.1, opnd F p.2)))
  | .buildSlice t n ps => buildSliceA P t n (ps.toList.map fun p => (p.1, opnd F p.2)) h
  | .makeSlice t l c => makeB P t (opnd F l) (opnd F c) h
  | .load t a => v (loadA P t (opnd F a) h)
  | .store t a x => (storeA P t (opnd F a) (opnd F x) h).bind fun h => .ok (.any, h)
  | .makeMap _ none => .ok (newM h)
  | .lookup t m k two => v (lookupA P t (opnd F m) (opnd F k) two h)
  | .mapUpdate t m k x => (updateA P t (opnd F m) (opnd F k) (opnd F x) h).bind fun h => .ok (.any, h)
  | .range t x => rangeA P t (opnd F x) h
  | .next it false => nextA (opnd F it) h
  | .entry it => entryI (opnd F it) h
  | .mapEntry t m k => entryA P t (opnd F m) (opnd F k) h
  | .entryStore _ m s x => (entryPutA (opnd F m) (opnd F s) (opnd F x) h).bind fun h => .ok (.any, h)
  | .nilCheck x => match opnd F x with
    | .ptr o off => .ok (.ptr o off, h)
    | .ep kn es d j => .ok (.ep kn es d j, h)
    | .rp kn o n i j => .ok (.rp kn o n i j, h)
    | .ea cs => .ok (.ea cs, h)
    | .fn (.func f) a c => .ok (.fn (.func f) a c, h)
    | _ => .bad 86
  | .binOp op t x y _ => v (binA P op t (opnd F x) (opnd F y))
  | .unOp op _ x => v (unA op (opnd F x))
  | .convert s d x => bif isToB P s d then toBA P s d (opnd F x) h else v (convA P s d (opnd F x) h)
  | .makeFunc (.func f) a c => .ok (.fn (.func f) (a.toList.map (opnd F)) (c.toList.map (opnd F)), h)
  | .makeFunc _ _ _ => .bad 181
  | .slice t x lo hi mx => v (sliceA P t (opnd F x) (lo.map (opnd F)) (hi.map (opnd F)) (mx.map (opnd F)))
  | .fieldAddr s x f => v (fieldAddrA P s (opnd F x) f)
  | .indexAddr t x i => v (indexAddrA P t (opnd F x) (opnd F i))
  | .index t x i => v (indexA P t (opnd F x) (opnd F i))
  | .field t x f => v (fieldA P t (opnd F x) f)
  | .extract t i => match opnd F t with | .tup vs => (match vs[i]? with | some a => .ok (a, h) | none => .bad 87) | _ => .bad 88
  | .call c => match c.callee with
    | .value f => match opnd F f with
      | .fn (.func g) a cap => call g (a ++ c.args.toList.map (opnd F) ++ cap) h
      | _ => .bad 89
    | .builtin b => builtinA P b c.argTypes (c.args.toList.map (opnd F)) h
    | _ => .bad 90
  | _ => .bad 91

def putA (F : Tm) (dst : Option Tmp) (v : AV) : RT Tm :=
  match dst with
  | none => .ok F
  | some d => bif Nat.blt d F.nt then .ok { F with tm := (d, v) :: F.tm } else .bad 92
def setA (F : Tm) (d : Nat) (b : Bool) : Tm := { F with tm := (d, .sc true (.bool b)) :: F.tm }
/-- a guard: go on, or leave out -/
def guardA {α : Type} (ops : Array Oper) (o : Oper) (F : Tm) (go skip : Tm → RT α) : RT α :=
  match o.guard with
  | none => go F
  | some (j, want) => match (ops[j]?).bind (·.dst) with
    | none => .bad 93
    | some d => match look d F.tm with
      | .sc kn (.bool b) => brk kn b (bif want then go (setA F d true) else skip (setA F d true)) (bif want then skip (setA F d false) else go (setA F d false))
      | .tup [] => skip F
      | _ => .bad 94
/-- a call that is put off -/
def deferA (o : Oper) (F : Tm) : Option (RT Tm) :=
  match o.op with
  | .defer c => some (match c.callee with
    | .value f => match opnd F f with
      | .fn (.func g) a cap => putA { F with df := (g, a ++ c.args.toList.map (opnd F) ++ cap) :: F.df } o.dst .any
      | _ => .bad 110
    | _ => .bad 111)
  | _ => none
def evStep (call : FuncId → Spec) (ops : Array Oper) (o : Oper) (F : Tm) (h : Hp) : RT (Tm × Hp) :=
  guardA ops o F (fun F => match deferA o F with
    | some r => r.bind fun F => .ok (F, h)
    | none => (evOp P call o F h).bind fun r => (putA F o.dst r.1).bind fun F => .ok (F, r.2)) (fun F => (putA F o.dst (.tup [])).bind fun F => .ok (F, h))
def evList (call : FuncId → Spec) (ops : Array Oper) (l : List Oper) : Tm → Hp → RT (Tm × Hp) :=
  @List.rec Oper (fun _ => Tm → Hp → RT (Tm × Hp)) (fun F h => .ok (F, h)) (fun o _ r F h => (evStep P call ops o F h).bind fun x => r x.1 x.2) l
theorem evList_nil (call : FuncId → Spec) (ops : Array Oper) (F : Tm) (h : Hp) : evList P call ops [] F h = .ok (F, h) := rfl
theorem evList_cons (call : FuncId → Spec) (ops : Array Oper) (o : Oper) (rest : List Oper) (F : Tm) (h : Hp) : evList P call ops (o :: rest) F h = (evStep P call ops o F h).bind fun r => evList P call ops rest r.1 r.2 := rfl

/-! A region that draws its order. -/
def cnt (o : Nat) (l : List (Nat × List AV)) : Nat := @List.rec (Nat × List AV) (fun _ => Nat) 0 (fun kv _ r => bif Nat.beq kv.1 o then Nat.succ r else r) l
theorem cnt_nil (o : Nat) : cnt o [] = 0 := rfl
theorem cnt_con (o k : Nat) (v : List AV) (r : List (Nat × List AV)) : cnt o ((k, v) :: r) = bif Nat.beq k o then cnt o r + 1 else cnt o r := rfl
/-- how often a block was written -/
def ver (o : Nat) (h : Hp) : Nat := h.ep + cnt o h.ob
/-- what waits for what -/
def waits (i : Nat) (o : Oper) : Bool := o.after.any fun e => Region.binds .any e && e.on == i
/-- an operation that reads alone: it may be taken first -/
def earlyA (o : Oper) : Bool :=
  match o.op with
  | .move _ | .assign _ | .pick .. | .build .. | .load .. | .nilCheck _ | .binOp .. | .unOp .. | .makeFunc .. | .slice .. | .fieldAddr .. | .indexAddr .. | .extract .. | .index .. | .field .. => true
  | .convert s d _ => !(isToB P s d)
  | .call { callee := .builtin .len, args := _, argTypes := ts } => !(isMapT P ts)
  | .call { callee := .builtin .min, .. } | .call { callee := .builtin .max, .. } => true
  | _ => false
/-- the same, loads set apart: they are taken in each order -/
def earlyN (o : Oper) : Bool := match o.op with | .load .. => false | _ => earlyA P o
/-- which operations a region takes first (a table of loops may say: no loads) -/
def erOf (Λ : FuncId → Nat → Option (Tm → Hp → RT (Ex × Tm × Hp))) (f : FuncId) (id : Nat) : Oper → Bool := match Λ f (2000 + id) with | some _ => earlyN P | none => earlyA P
/-- what a promise is: operation i read block o when it had been written n times -/
abbrev Prm := List (Nat × Nat × Nat)
/-- the block that an address points into, where it may change -/
def tgt : AV → Option Nat
  | .ptr o _ => some o
  | .rp _ o _ _ _ => some o
  | .vsl o _ _ _ _ => some o
  | _ => none
/-- what an operation reads through -/
def rdOf (o : Oper) : Option Operand := match o.op with
  | .load _ a => some a
  | .convert _ _ a => some a
  | _ => none
def promise (i : Nat) (o : Oper) (F : Tm) (h : Hp) : Prm :=
  match rdOf o with
  | some a => match tgt (opnd F a) with | some b => [(i, b, ver b h)] | none => []
  | none => []
def keepP (oj : Oper) : Prm → Prm
  | [] => []
  | p :: r => bif waits p.1 oj then keepP oj r else p :: keepP oj r
def keeps (h : Hp) : Prm → Bool
  | [] => true
  | (_, b, n) :: r => Nat.beq (ver b h) n && keeps h r
def evDrawn (er : Oper → Bool) (call : FuncId → Spec) (ops : Array Oper) : Nat → Array Bool → Prm → Tm → Hp → RT (Tm × Hp)
  | 0, listed, _, F, h => match Region.ready .any ops listed with | [] => .ok (F, h) | _ => .bad 95
  | n + 1, listed, pr, F, h =>
    let rdy := Region.ready .any ops listed
    match rdy.find? (fun i => match ops[i]? with | some o => er o | none => false) with
    | some i => match ops[i]? with
      | some o => bif Region.free .any ops listed i then
          (evStep P call ops o F h).bind fun r => evDrawn er call ops n (listed.setIfInBounds i true) (promise i o F h ++ pr) r.1 r.2 else .bad 96
      | none => .bad 97
    | none =>
      let one (i : Nat) : RT (Tm × Hp) := match ops[i]? with
        | some o => (evStep P call ops o F h).bind fun r => bif keeps r.2 (keepP o pr) then evDrawn er call ops n (listed.setIfInBounds i true) (keepP o pr) r.1 r.2 else .bad 98
        | none => .bad 99
      match rdy with
      | [] => .ok (F, h)
      | [i] => one i
      | [i, j] => .all (one i) (one j)
      | [i, j, k] => .all (one i) (.all (one j) (one k))
      | [i, j, k, l] => .all (one i) (.all (one j) (.all (one k) (one l)))
      | _ => .bad 100

/-! A region in which nothing changes: whatever the order, the same comes out: so it is read in the text's order. -/
mutual
/-- a value, what the heap h does not know left out -/
def calm (h : Hp) : AV → AV
  | .ptr o off => match lookO o h.ob with | some _ => .ptr o off | none => .any
  | .mp o => match lookO o h.ob with | some _ => .mp o | none => .any
  | .rsl kn o n len => match lookO o h.ob with | some _ => .rsl kn o n len | none => .any
  | .rp kn o n i j => match lookO o h.ob with | some _ => .rp kn o n i j | none => .any
  | .sl kn es d tip => match tip with
    | some (k, g) => bif Nat.blt k h.nv && Nat.blt g h.ng then .sl kn es d (some (k, g)) else .sl kn es d none
    | none => .sl kn es d none
  | .fn f a c => .fn f (calmL h a) (calmL h c)
  | .agg cs => .agg (calmL h cs)
  | .tup vs => .tup (calmL h vs)
  | .any => .any
  | .sc kn v => .sc kn v
  | .ep kn es d j => .ep kn es d j
  | .rw es d => .rw es d
  | .vsl o off n len cap => match lookO o h.ob with | some _ => .vsl o off n len cap | none => .any
  | .al n len cs tip => match tip with
    | some (k, g) => bif Nat.blt k h.nv && Nat.blt g h.ng then .al n len (calmL h cs) (some (k, g)) else .al n len (calmL h cs) none
    | none => .al n len (calmL h cs) none
  | .ea cs => .ea (calmL h cs)
def calmL (h : Hp) : List AV → List AV
  | [] => []
  | x :: xs => calm h x :: calmL h xs
end
/-- what was there is as it was -/
def quietH (h h' : Hp) : Bool :=
  (List.range h.nx).all (fun o => Nat.beq (ver o h') (ver o h)) && (List.range h.nv).all (fun k => match lookG k h.gn, lookG k h'.gn with
    | some (g, e), some (g', e') => Nat.beq g g' && Nat.beq e e'
    | _, _ => false)
def only (ls : List Nat) (F : Tm) : Tm := { F with tm := ls.map fun t => (t, look t F.tm) }
def isCallO (o : Oper) : Bool := match o.op with | .call { callee := .value _, .. } => true | _ => false
def sameDst (o : Oper) (d : Nat) : Bool := match o.dst with | some k => Nat.beq k d | none => false
def okPair (ops : Array Oper) (k : Nat) (ok : Oper) (j : Nat) : Bool := match ops[j]? with
  | some oj => match oj.dst with
    | some d => !(sameDst ok d) && (!((ok.looksAt ops).contains d) || waits j ok || waits k oj)
    | none => true
  | none => true
def okQ (ops : Array Oper) (m : Nat) : Bool := (List.range ops.size).all fun k => match ops[k]? with
  | some ok => ok.after.all (fun e => !(Region.binds .any e) || Nat.blt e.on k) && (bif Nat.blt k m then (List.range m).all fun j => Nat.beq j k || okPair ops k ok j else true)
  | none => false
/-- a new variable, whatever stands around -/
def isAllocO (o : Oper) : Bool := match o.op, o.guard, o.dst with | .alloc _, none, some _ => true | _, _, _ => false
def isQuietO (o : Oper) : Bool := earlyA P o || isCallO o || isAllocO o
def leadQ : List Oper → Nat
  | [] => 0
  | o :: r => bif isQuietO P o then leadQ r + 1 else 0
def rdyB (ops : Array Oper) (S : Nat → Bool) (k : Nat) : Bool := match ops[k]? with
  | some o => o.after.all fun e => !(Region.binds .any e) || S e.on
  | none => false
def wtB (ops : Array Oper) (i j : Nat) : Bool := match ops[j]? with | some o => waits i o | none => false
/-- which of the first m operation k waits for, near or far -/
def cov (ops : Array Oper) (k m : Nat) : Nat → List Nat
  | 0 => []
  | c + 1 => bif wtB ops (m - (c + 1)) k || (cov ops k m c).any (fun j => wtB ops (m - (c + 1)) j) then (m - (c + 1)) :: cov ops k m c else cov ops k m c
/-- behind the first m all come in their row -/
def sufOk (ops : Array Oper) (m : Nat) : Bool := (List.range ops.size).all fun k => Nat.blt k m ||
  ((List.range m).all (fun i => (cov ops k m m).contains i) && (List.range ops.size).all (fun j => !(Nat.blt k j) || !(rdyB ops (fun x => Nat.blt x k) j)))
/-- what each operation waits for, as bits -/
def ancs (ops : List Oper) : List Nat := ops.foldl (fun acc o => acc ++ [o.after.toList.foldl (fun m e => bif Region.binds .any e then Nat.lor (Nat.lor m (Nat.shiftLeft 1 e.on)) (acc.getD e.on 0) else m) 0]) []
def unordB : List (Bool × Nat) → Nat → List Nat → Bool
  | [], _, _ => false
  | (c, m) :: r, i, cs => bif c then (bif cs.all (fun k => Nat.testBit m k) then unordB r (i + 1) (i :: cs) else true) else unordB r (i + 1) cs
/-- two operations that may come up in either order, a new variable among them -/
def unord (ops : Array Oper) : Bool := bif ops.toList.any isAllocO then unordB ((ops.toList.map fun o => !(earlyA P o)).zip (ancs ops.toList)) 0 [] else false
def quietR (ops : Array Oper) : Bool := bif unord P ops then (bif okQ ops (leadQ P ops.toList) then sufOk ops (leadQ P ops.toList) else false) else false
def actQ (call : FuncId → Spec) (ops : Array Oper) (o : Oper) (F : Tm) (h : Hp) : RT Tm := (evStep P call ops o (only (o.looksAt ops) F) h).bind fun r => bif quietH h r.2 then (match o.dst with
  | some d => .ok { F with tm := (d, calm h (look d r.1.tm)) :: F.tm }
  | none => .ok F) else .bad 231
def evQ1 (call : FuncId → Spec) (ops : Array Oper) (o : Oper) (F : Tm) (h : Hp) : RT Tm := match o.guard with
  | none => actQ P call ops o F h
  | some (j, _) => match (ops[j]?).bind (·.dst) with
    | none => .bad 232
    | some d => match look d F.tm with
      | .sc kn (.bool b) => brk kn b (actQ P call ops o (setA F d true) h) (actQ P call ops o (setA F d false) h)
      | .tup [] => actQ P call ops o F h
      | _ => .bad 233
/-- where the answer is one -/
def detA {α : Type} (x : RT α) : RT α := @RT.rec α (fun _ => RT α) (fun a => .ok a) (fun w => .bad w) (fun b _ _ x y => .br b x y) (fun _ _ _ _ => .bad 234) x
/-- the new variables, in the text's order -/
def adoptQ (h0 : Hp) (l : List Oper) : Tm → Hp → RT (Tm × Hp) :=
  @List.rec Oper (fun _ => Tm → Hp → RT (Tm × Hp)) (fun F h => .ok (F, h)) (fun o _ r F h => bif isAllocO o then (match o.op, o.dst with
    | .alloc e, some d => match zeroA P e with
      | some cs => r { F with tm := (d, .ptr h.nx 0) :: F.tm } (newA (calmL h0 cs) h).2
      | none => .bad 235
    | _, _ => .bad 236) else r F h) l
def evQs (call : FuncId → Spec) (ops : Array Oper) (h : Hp) (l : List Oper) : Tm → RT Tm :=
  @List.rec Oper (fun _ => Tm → RT Tm) (fun F => .ok F) (fun o _ r F => (detA (evQ1 P call ops o F h)).bind r) l
def evReg (call : FuncId → Spec) (ops : Array Oper) (F : Tm) (h : Hp) : RT (Tm × Hp) :=
  (evQs P call ops h (ops.toList.take (leadQ P ops.toList)) F).bind fun F => (adoptQ P h (ops.toList.take (leadQ P ops.toList)) F h).bind fun r => evList P call ops (ops.toList.drop (leadQ P ops.toList)) r.1 r.2

/-! New variables that may come up at any time. -/
def allocF (o : Oper) : Bool := isAllocO o && !(o.after.any fun e => Region.binds .any e) && (match o.op with | .alloc e => (zeroA P e).isSome | _ => false)
def isLA (ops : Array Oper) (i : Nat) : Bool := match ops[i]? with | some o => allocF P o | none => false
/-- what could come up, were all new variables there -/
def candB (ops : Array Oper) (listed : Array Bool) (i : Nat) : Bool := match ops[i]? with
  | some o => !(listed.getD i true) && !(allocF P o) && o.after.all (fun e => !(Region.binds .any e) || listed.getD e.on false || isLA P ops e.on)
  | none => false
def candL (ops : Array Oper) (listed : Array Bool) : List Nat := (List.range ops.size).filter (candB P ops listed)
def nextV (ops : Array Oper) (listed : Array Bool) (k : Option Oper) : Option Nat := (List.range ops.size).find? fun i => !(listed.getD i true) && isLA P ops i && (match k with | some o => waits i o | none => true)
def noWait (ops : Array Oper) (listed : Array Bool) (k : Nat) : Bool := match ops[k]? with | some o => (nextV P ops listed (some o)).isNone | none => false
inductive Pick where | early (i : Nat) | fresh (i : Nat) | other (i : Nat) (l : List Nat) | done | no
/-- what is read next -/
def pickL (ops : Array Oper) (listed : Array Bool) : Pick :=
  match (Region.ready .any ops listed).find? (fun i => match ops[i]? with | some o => earlyA P o | none => false) with
  | some i => bif Region.free .any ops listed i then .early i else .no
  | none => match candL P ops listed with
    | [k] => match ops[k]? with
      | some o => match nextV P ops listed (some o) with
        | some i => .fresh i
        | none => .other k []
      | none => .no
    | [] => match nextV P ops listed none with
      | some i => .fresh i
      | none => .done
    | k :: l => bif Nat.blt l.length 3 && (k :: l).all (noWait P ops listed) then .other k l else .no
def lateSim (ops : Array Oper) : Nat → Array Bool → Bool
  | 0, _ => true
  | n + 1, listed => match pickL P ops listed with
    | .early i => lateSim ops n (listed.setIfInBounds i true)
    | .fresh i => lateSim ops n (listed.setIfInBounds i true)
    | .other i _ => lateSim ops n (listed.setIfInBounds i true)
    | .done => true
    | .no => false
def notDf (o : Oper) : Bool := match o.op with | .defer _ => false | _ => true
def dstL (ops : Array Oper) : Bool := (List.range ops.size).all fun i => !(isLA P ops i) || (List.range ops.size).all fun j => Nat.beq i j || (match (ops[i]?).bind (·.dst), ops[j]? with
  | some d, some oj => !(sameDst oj d)
  | _, _ => false)
def lateR (ops : Array Oper) : Bool := bif unord P ops then (Region.noSelect ops && ops.toList.all notDf && dstL P ops && lateSim P ops ops.size (Array.replicate ops.size false)) else false
def allR {α : Type} : RT α → List (RT α) → RT α
  | x, [] => x
  | x, y :: r => .all x (allR y r)
def oneL (call : FuncId → Spec) (ops : Array Oper) (pr : Prm) (F : Tm) (h : Hp) (rec : Nat → Prm → Tm → Hp → RT (Tm × Hp)) (i : Nat) : RT (Tm × Hp) := match ops[i]? with
  | some o => (evStep P call ops o F h).bind fun r => bif keeps r.2 (keepP o pr) then rec i (keepP o pr) r.1 r.2 else .bad 98
  | none => .bad 99
def evLate (call : FuncId → Spec) (ops : Array Oper) : Nat → Array Bool → Prm → Tm → Hp → RT (Tm × Hp)
  | 0, listed, _, F, h => bif (List.range ops.size).all (fun i => listed.getD i true) then .ok (F, h) else .bad 420
  | n + 1, listed, pr, F, h =>
    match pickL P ops listed with
    | .early i => match ops[i]? with
      | some o => (evStep P call ops o F h).bind fun r => evLate call ops n (listed.setIfInBounds i true) (promise i o F h ++ pr) r.1 r.2
      | none => .bad 421
    | .fresh i => oneL P call ops pr F h (fun i => evLate call ops n (listed.setIfInBounds i true)) i
    | .other i l => allR (oneL P call ops pr F h (fun i => evLate call ops n (listed.setIfInBounds i true)) i) (l.map (oneL P call ops pr F h (fun i => evLate call ops n (listed.setIfInBounds i true))))
    | .done => bif (List.range ops.size).all (fun i => listed.getD i true) then .ok (F, h) else .bad 423
    | .no => .bad 422
/-- the new variables' places are empty -/
def forgetL (l : List Oper) (F : Tm) : Tm := l.foldr (fun o F => bif allocF P o then (match o.dst with | some d => { F with tm := (d, .any) :: F.tm } | none => F) else F) F
def fitO (nt : Nat) (o : Oper) : Bool := !(allocF P o) || (match o.dst with | some d => Nat.blt d nt | none => false)
def evLateR (call : FuncId → Spec) (ops : Array Oper) (F : Tm) (h : Hp) : RT (Tm × Hp) := bif ops.toList.all (fitO P F.nt) then evLate P call ops ops.size (Array.replicate ops.size false) [] (forgetL P ops.toList F) h else .bad 424
def asLate (Λ : FuncId → Nat → Option BSpec) (f : FuncId) (id : Nat) (ops : Array Oper) : Bool := match Λ f (1000 + id) with
  | some _ => false
  | none => lateR P ops

/-! Code and calls. -/
variable (Γ : FuncId → Option Spec) (Λ : FuncId → Nat → Option BSpec)
def enterA (fn : Func) (args : List AV) : Tm := ⟨fn.ntmps, (List.range args.length).zip args, []⟩
def resA (F : Tm) (h : Hp) : List ResultVar → RT (List AV)
  | [] => .ok []
  | .tmp t :: r => (resA F h r).bind fun vs => .ok (look t F.tm :: vs)
  | .cell a t :: r => (loadA P t (look a F.tm) h).bind fun v => (resA F h r).bind fun vs => .ok (v :: vs)
def resultA (fn : Func) (F : Tm) (h : Hp) : RT (AV × Hp) :=
  (resA P F h fn.results.toList).bind fun vs => match vs with
    | [v] => .ok (v, h)
    | vs => .ok (.tup vs, h)
def plainF (f : FuncId) : Option (Func × Code) := match P.funcs[f]? with
  | some fn => match fn.body with
    | some c => some (fn, c)
    | none => none
  | none => none
/-- the calls that were put off -/
def runDf (rec : FuncId → Code → Tm → Hp → RT Out) : List (FuncId × List AV) → Hp → RT Hp
  | [], h => .ok h
  | (g, args) :: r, h => match plainF P g with
    | none => .bad 112
    | some (fn, b) => bif Nat.ble args.length fn.ntmps then (rec g b (enterA fn args) h).bind fun x => match x.1, x.2.1.df with
      | .exit _, _ => .bad 113
      | _, [] => (resultA P fn x.2.1 x.2.2).bind fun y => runDf rec r y.2
      | _, _ => .bad 114 else .bad 115
/-- a function's own code -/
def bodyE (rec : FuncId → Code → Tm → Hp → RT Out) (g : FuncId) (fn : Func) (b : Code) : Spec := fun args h =>
  bif Nat.ble args.length fn.ntmps then (rec g b (enterA fn args) h).bind fun r => match r.1 with
    | .exit _ => .bad 103
    | _ => (runDf P rec r.2.1.df r.2.2).bind fun h => resultA P fn r.2.1 h else .bad 107
def callE (rec : FuncId → Code → Tm → Hp → RT Out) : FuncId → Spec := fun g args h => match plainF P g with
  | none => .bad 102
  | some (fn, b) => match Γ g with
    | some sp => sp args h
    | none => bodyE P rec g fn b args h
/-- whether a region is read in the text's order (a table of loops may say no) -/
def asRow (Λ : FuncId → Nat → Option BSpec) (f : FuncId) (id : Nat) (ops : Array Oper) : Bool := match Λ f (1000 + id) with
  | some _ => false
  | none => quietR P ops
def evC : Nat → FuncId → Code → Tm → Hp → RT Out
  | 0, _, _, _, _ => .bad 101
  | n + 1, f, c, F, h =>
    match c with
    | .skip => .ok (.normal, F, h)
    | .region _ ops false => (evList P (callE P Γ (evC n)) ops ops.toList F h).bind fun r => .ok (.normal, r.1, r.2)
    | .region id ops true => bif asRow P Λ f id ops then (evReg P (callE P Γ (evC n)) ops F h).bind fun r => .ok (.normal, r.1, r.2) else bif asLate P Λ f id ops then (evLateR P (callE P Γ (evC n)) ops F h).bind fun r => .ok (.normal, r.1, r.2) else bif Region.noSelect ops then (evDrawn P (erOf P Λ f id) (callE P Γ (evC n)) ops ops.size (Array.replicate ops.size false) [] F h).bind fun r => .ok (.normal, r.1, r.2) else .bad 108
    | .seq a b => (evC n f a F h).bind fun r => match r.1 with | .normal => evC n f b r.2.1 r.2.2 | e => .ok (e, r.2.1, r.2.2)
    | .cond c a b => match c with
      | .tmp t => match look t F.tm with
        | .sc kn (.bool v) => brk kn v (evC n f a (setA F t true) h) (evC n f b (setA F t false) h)
        | _ => .bad 104
      | .const (.bool true) => evC n f a F h
      | .const (.bool false) => evC n f b F h
      | _ => .bad 105
    | .block id b => match Λ f id with
      | some sp => sp F h
      | none => (evC n f b F h).bind fun r => match r.1 with
        | .exit j => bif Nat.beq j id then .ok (.normal, r.2.1, r.2.2) else .ok (.exit j, r.2.1, r.2.2)
        | e => .ok (e, r.2.1, r.2.2)
    | .loop b => (evC n f b F h).bind fun r => match r.1 with
      | .normal => evC n f (.loop b) r.2.1 r.2.2
      | e => .ok (e, r.2.1, r.2.2)
    | .exit id => .ok (.exit id, F, h)
    | .ret => .ok (.ret, F, h)
    | .scope b => evC n f b F h
    | .label _ => .ok (.normal, F, h)
    | _ => .bad 106
/-- a call, by the function's own code -/
def evF (n : Nat) (f : FuncId) : Spec := fun args h => match plainF P f with
  | none => .bad 102
  | some (fn, b) => bodyE P (evC P Γ Λ n) f fn b args h
end
end
end Go.Proofs.YtomblhnchdokmaaGreatDoor

namespace Go.Proofs.YtomblhnchdokmaaGreatDoor
set_option linter.unusedSimpArgs false
set_option linter.unusedVariables false
open Go.RowKit
set_option maxRecDepth 10000
noncomputable section

/-- a block's things -/
def flat (es : List MapEntry) : List Value := es.flatMap fun e => [.int .i64 e.born, e.key, e.val]
def ObMap (ob : Obj) (vs : List Value) : Prop := (∃ es clock, ob = .map es clock ∧ vs = [.tuple (.int .i64 (clock : Nat) :: flat es.toList).toArray]) ∨
  ∃ m since seen last, ob = .mapIter (some m) since seen last ∧ vs = [.tuple #[.map (some m), .int .i64 (since : Nat), .int .i64 (last : Nat), .tuple (seen.map fun b : Nat => Value.int .i64 b)]]
def ObOk (ob : Obj) (vs : List Value) : Prop := (∃ t, ob = .cells vs.toArray t (0, 0) ∧ ∀ u ∈ vs, u.oneCell' = true) ∨ ObMap ob vs ∨
  ∃ cs t, ob = .cells cs t (0, 0) ∧ vs = [.agg cs]
theorem ob_cells {E : Env} {cs : List AV} {vs : List Value} {ob : Obj} (hv : isVar cs = true) (hr : RelL E cs vs) (ho : ObOk ob vs) : ∃ t, ob = .cells vs.toArray t (0, 0) ∧ ∀ u ∈ vs, u.oneCell' = true := by
  have key : ∀ x, vs = [x] → ((∃ l, x = .tuple l) ∨ ∃ l, x = .agg l) → False := by
    rintro v0 rfl hx
    cases cs with
    | nil => cases hr
    | cons x cs =>
      obtain ⟨v, vs', h1, h2, h3⟩ := hr
      cases h1
      cases cs with
      | nil =>
        cases x with
        | any => cases hv
        | tup vs => cases hv
        | sc kn u =>
          obtain ⟨rfl, h⟩ := h2
          rcases hx with ⟨_, rfl⟩ | ⟨_, rfl⟩ <;> cases h
        | sl kn es d tip => obtain ⟨⟨_, ad, cap, h, _⟩, _⟩ := h2; rcases hx with ⟨_, rfl⟩ | ⟨_, rfl⟩ <;> cases h
        | ptr o off => obtain ⟨_, h⟩ := h2; rcases hx with ⟨_, rfl⟩ | ⟨_, rfl⟩ <;> cases h
        | mp o => obtain ⟨_, h⟩ := h2; rcases hx with ⟨_, rfl⟩ | ⟨_, rfl⟩ <;> cases h
        | ep kn es d j => obtain ⟨_, _, h, _⟩ := h2; rcases hx with ⟨_, rfl⟩ | ⟨_, rfl⟩ <;> cases h
        | fn f a c => obtain ⟨_, _, h, _⟩ := h2; rcases hx with ⟨_, rfl⟩ | ⟨_, rfl⟩ <;> cases h
        | agg cs => cases hv
        | rsl kn o n len => obtain ⟨_, ad, cap, h, _⟩ := h2; rcases hx with ⟨_, rfl⟩ | ⟨_, rfl⟩ <;> cases h
        | rp kn o n i j => obtain ⟨_, h⟩ := h2; rcases hx with ⟨_, rfl⟩ | ⟨_, rfl⟩ <;> cases h
        | rw es d => cases hv
        | vsl o off n len cap => obtain ⟨_, _, _, h⟩ := h2; rcases hx with ⟨_, rfl⟩ | ⟨_, rfl⟩ <;> cases h
        | al n len cs tip => obtain ⟨⟨_, _, _, _, _, _, _, h, _⟩, _⟩ := h2; rcases hx with ⟨_, rfl⟩ | ⟨_, rfl⟩ <;> cases h
        | ea cs => obtain ⟨_, _, _, _, _, h, _⟩ := h2; rcases hx with ⟨_, rfl⟩ | ⟨_, rfl⟩ <;> cases h
      | cons _ _ => obtain ⟨_, _, h, _⟩ := h3; cases h
  rcases ho with ho | (⟨es, clock, _, h⟩ | ⟨_, _, _, _, _, h⟩) | ⟨c, t, _, h⟩
  · exact ho
  · exact (key _ h (.inl ⟨_, rfl⟩)).elim
  · exact (key _ h (.inl ⟨_, rfl⟩)).elim
  · exact (key _ h (.inr ⟨_, rfl⟩)).elim
/-- a row that may be written, up to its last cell -/
def RowAt (w : World) (g : Nat) (cur : Array Value) (e : TypeId) (size : Nat) : Prop := ∃ fr : Nat × Nat, w.heap[g]? = some (.cells cur e fr) ∧ (fr = (0, 0) ∨ (size = 1 ∧ cur.size ≤ fr.1))
/-- v owns its row (which may bear a mark behind its last cell) -/
def ownsR (w : World) (base : Nat) (e : TypeId) (size : Nat) (v : Value) (n : Nat) (xs : List Value) : Prop :=
  xs.length = n * size ∧ ((v = .slice none 0 0 ∧ n = 0) ∨
    ∃ g cap cur, v = .slice (some ⟨g, 0, none⟩) n cap ∧ base ≤ g ∧ RowAt w g cur e size ∧ n ≤ cap ∧ cap ≤ maxLen ∧ cur.size = cap * size ∧ cur.toList.take (n * size) = xs)
theorem owns_r {w : World} {base e size n : Nat} {v : Value} {xs : List Value} (h : w.ownsRow base e size v n xs) : ownsR w 0 e size v n xs := by
  refine ⟨h.1, h.2.imp_right ?_⟩
  rintro ⟨g, cap, cur, h1, _, h3, h4⟩
  exact ⟨g, cap, cur, h1, Nat.zero_le _, ⟨_, h3, .inl rfl⟩, h4⟩
theorem ownsR.cells {w : World} {base e size n : Nat} {v : Value} {xs : List Value} (h : ownsR w base e size v n xs) {g : Nat} (hg : v.ownBlock = some g) : ∀ j u, xs[j]? = some u → w.cell? ((⟨g, 0, none⟩ : Addr).add j) = some u := by
  intro j u hu
  rcases h.2 with ⟨rfl, _⟩ | ⟨g', cap, cur, rfl, _, ⟨fr, hgg, _⟩, _, _, _, htake⟩
  · simp [Value.ownBlock] at hg
  · simp [Value.ownBlock] at hg
    subst hg
    have hadd : (⟨g', 0, none⟩ : Addr).add j = ⟨g', j, none⟩ := by unfold Addr.add; split <;> simp_all
    rw [hadd, cell_of_row w g' j cur e fr hgg]
    rw [← htake, List.getElem?_take] at hu
    split at hu
    · simpa using hu
    · cases hu
structure Inv (P : Program) (w0 : World) (G : Nat → Prop) (E : Env) (h : Hp) (w : World) : Prop where
  kpt : Kpt w0 w G
  m : E.m = h.nv
  ng : E.ng = h.ng
  gn : ∀ k, k < h.nv → lookG k h.gn = some (E.gn k, E.ve k)
  gnlt : ∀ k, k < h.nv → E.gn k < h.ng
  live : ∀ o, E.live o ↔ (lookO o h.ob).isSome = true
  nx : ∀ o, E.live o → o < h.nx
  ob : ∀ o cs, lookO o h.ob = some cs → ∃ vs ob, w.heap[E.β o]? = some ob ∧ RelL E cs vs ∧ ObOk ob vs
  own : ∀ o, E.live o → w0.heap.size ≤ E.β o ∨ G (E.β o)
  inj : ∀ o o', E.live o → E.live o' → E.β o = E.β o' → o = o'
  z : ∀ b j v, E.Z b j = some v → w.cell? ⟨b, j, none⟩ = some v
  zob : ∀ o j, E.live o → E.Z (E.β o) j = none
  vec : ∀ k, k < h.nv → ∃ sz n xs, sizeT P (E.ve k) = some sz ∧ ownsR w 0 (E.ve k) sz (E.vc k) n xs ∧ (∀ u ∈ xs, u.oneCell' = true) ∧
    ∀ b, (E.vc k).ownBlock = some b → (w0.heap.size ≤ b ∨ G b) ∧ (∀ o, E.live o → E.β o ≠ b) ∧ ∀ j, E.Z b j = xs[j]?
  vinj : ∀ k k' b, k < h.nv → k' < h.nv → (E.vc k).ownBlock = some b → (E.vc k').ownBlock = some b → k = k'
  laid : Laid E
/-- temporaries -/
def RelD (E : Env) : List (FuncId × List AV) → List Deferred → Prop
  | [], ds => ds = []
  | (g, xs) :: r, ds => ∃ cap args ds', ds = ⟨.fn (.func g) cap, args⟩ :: ds' ∧ RelL E xs (args.toList ++ cap.toList) ∧ RelD E r ds'
theorem RelD.mono {E E' : Env} (hx : Ext E E') : ∀ {l : List (FuncId × List AV)} {ds : List Deferred}, RelD E l ds → RelD E' l ds
  | [], _, h => h
  | (g, xs) :: r, _, ⟨cap, args, ds', h1, h2, h3⟩ => ⟨cap, args, ds', h1, RelL.mono hx _ _ h2, RelD.mono hx h3⟩
def LaidD (E : Env) (l : List (FuncId × List AV)) (ds : List Deferred) : Prop := Laid E ∧ RelD E l ds
theorem LaidD.mono {E E' : Env} (hx : Ext E E') {l : List (FuncId × List AV)} {ds : List Deferred} (H : LaidD E l ds) : LaidD E' l ds := ⟨H.1.mono hx, H.2.mono hx⟩
structure RelT (E : Env) (F : Tm) (a : Act) : Prop where
  sz : a.tmps.size = F.nt
  tm : ∀ i, Rel E (look i F.tm) (a.tmps.getD i undef)
  df : LaidD E F.df a.defers
theorem RelT.mono {E E' : Env} {F : Tm} {a : Act} (h : RelT E F a) (hx : Ext E E') : RelT E' F a := ⟨h.sz, fun i => Rel.mono hx _ _ (h.tm i), h.df.mono hx⟩

theorem one_cells {v : Value} (h : v.oneCell' = true) : v.cells = #[v] := by cases v <;> first | rfl | simp [Value.oneCell'] at h
theorem one_of {v : Value} (h1 : ∀ cs, v ≠ .agg cs) (h2 : ∀ cs, v ≠ .tuple cs) : v.oneCell' = true := by cases v <;> first | rfl | exact absurd rfl (h1 _) | exact absurd rfl (h2 _)
section
variable {P : Program} {E : Env} {F : Tm} {h : Hp} {w w0 : World} {G : Nat → Prop} {a : Act}

theorem rel_const (v : Value) : Rel E (ofConst v) v := by
  unfold ofConst
  split
  · rename_i cs
    cases hc : cs.toList.all Value.oneCell'
    · exact trivial
    · have := List.all_eq_true.1 hc
      exact ⟨cs, rfl, RelL.map_sc true _ this, this⟩
  · exact trivial
  · rename_i h1 h2
    exact ⟨rfl, one_of (fun cs e => h1 cs e) (fun cs e => h2 cs e)⟩
theorem rel_opnd (hT : RelT E F a) (x : Operand) : Rel E (opnd F x) (a.eval x) := by
  cases x with
  | tmp t => exact hT.tm t
  | const v => exact rel_const v
  | global g =>
    show Rel E (match layF g layT with | some vs => .ea (vs.map (.sc true)) | none => .any) _
    split
    · rename_i vs hg
      obtain ⟨h1, h2⟩ := hT.df.1 g vs hg
      exact ⟨vs, g, 0, RelL.map_sc true vs h2, h2, rfl, h1⟩
    · exact trivial
  | func f => exact ⟨#[], #[], rfl, rfl, rfl⟩
theorem rel_map (hT : RelT E F a) : ∀ (l : List Operand), RelL E (l.map (opnd F)) (l.map a.eval)
  | [] => rfl
  | x :: l => ⟨_, _, rfl, rel_opnd hT x, rel_map hT l⟩
theorem rel_cells : ∀ {x : AV} {v : Value} {cs : List AV}, Rel E x v → cellsA x = some cs → RelL E cs v.cells.toList ∧ ∀ u ∈ v.cells.toList, u.oneCell' = true := by
  intro x v cs hr hc
  have one : v.oneCell' = true → RelL E [x] v.cells.toList ∧ ∀ u ∈ v.cells.toList, u.oneCell' = true := fun h1 => by
    rw [one_cells h1]
    exact ⟨⟨v, [], rfl, hr, rfl⟩, by simpa using h1⟩
  cases x with
  | any => cases hc
  | tup vs => cases hc
  | agg cs' =>
    cases hc
    obtain ⟨vs, rfl, h1, h2⟩ := hr
    exact ⟨h1, h2⟩
  | sc kn u => cases hc; obtain ⟨rfl, h1⟩ := hr; exact one h1
  | sl kn es d tip => cases hc; obtain ⟨⟨_, ad, cap, rfl, _⟩, _⟩ := hr; exact one rfl
  | ptr o off => cases hc; obtain ⟨_, rfl⟩ := hr; exact one rfl
  | mp o => cases hc; obtain ⟨_, rfl⟩ := hr; exact one rfl
  | ep kn es d j => cases hc; obtain ⟨b, o, rfl, _⟩ := hr; exact one rfl
  | rsl kn o n len => cases hc; obtain ⟨_, ad, cap, rfl, _⟩ := hr; exact one rfl
  | rp kn o n i j => cases hc; obtain ⟨_, rfl⟩ := hr; exact one rfl
  | rw es d => cases hc
  | vsl o off n len cap => cases hc; obtain ⟨_, _, _, rfl⟩ := hr; exact one rfl
  | al n len cs tip => cases hc; obtain ⟨⟨_, _, _, _, _, _, _, rfl, _⟩, _⟩ := hr; exact one rfl
  | ea cs => cases hc; obtain ⟨_, _, _, _, _, rfl, _⟩ := hr; exact one rfl
  | fn f c d => cases hc; obtain ⟨_, _, rfl, _⟩ := hr; exact one rfl
theorem rel_leaf {kn : Bool} : ∀ {s : Sh} {v : Value} {d : D}, LF E.Z s v d → Rel E (leaf kn s d) v ∧ v.oneCell' = true
  | .int _, _, _, rfl => ⟨⟨rfl, rfl⟩, rfl⟩
  | .bool, _, _, rfl => ⟨⟨rfl, rfl⟩, rfl⟩
  | .str, _, _, rfl => ⟨⟨rfl, rfl⟩, rfl⟩
  | .sl es, v, d, h => ⟨⟨h, trivial⟩, by obtain ⟨_, _, _, rfl, _⟩ := h; rfl⟩
theorem el_leaves {kn : Bool} : ∀ {es : List Sh} {b o : Nat} {d : D} {j : Nat}, EL E.Z es b o d j → ∃ vs : List Value, vs.length = es.length ∧ (∀ i v, vs[i]? = some v → E.Z b (o + i) = some v) ∧ RelL E (leaves kn es d j) vs ∧ ∀ u ∈ vs, u.oneCell' = true
  | [], _, _, _, _, _ => ⟨[], rfl, by simp, rfl, by simp⟩
  | s :: es, b, o, d, j, ⟨⟨v, hz, hl⟩, h⟩ => by
    obtain ⟨vs, h1, h2, h3, h4⟩ := el_leaves (kn := kn) h
    obtain ⟨g1, g2⟩ := rel_leaf (kn := kn) hl
    refine ⟨v :: vs, by simp [h1], fun i u hu => ?_, ⟨v, vs, rfl, g1, h3⟩, by simpa using ⟨g2, h4⟩⟩
    cases i with
    | zero => simp at hu; subst hu; exact hz
    | succ i => have := h2 i u (by simpa using hu); rwa [show o + (i + 1) = o + 1 + i by omega]
theorem el_take {Z : Nat → Nat → Option Value} : ∀ (n : Nat) {es : List Sh} {b o : Nat} {d : D} {j : Nat}, EL Z es b o d j → EL Z (es.take n) b o d j
  | 0, _, _, _, _, _, _ => by simp [EL]
  | n + 1, [], _, _, _, _, _ => by simp [EL]
  | n + 1, s :: es, _, _, _, _, ⟨h1, h2⟩ => by simp only [List.take_succ_cons]; exact ⟨h1, el_take n h2⟩
theorem el_drop {Z : Nat → Nat → Option Value} : ∀ (n : Nat) {es : List Sh} {b o : Nat} {d : D} {j : Nat}, EL Z es b o d j → EL Z (es.drop n) b (o + n) d (j + n)
  | 0, _, _, _, _, _, h => by simpa using h
  | n + 1, [], _, _, _, _, _ => by simp [EL]
  | n + 1, s :: es, b, o, d, j, ⟨_, h2⟩ => by
    have := el_drop n h2
    simp only [List.drop_succ_cons]
    rwa [show o + 1 + n = o + (n + 1) by omega, show j + 1 + n = j + (n + 1) by omega] at this

theorem sizeT_info {t : TypeId} {n : Nat} (hs : sizeT P t = some n) : ∃ i, P.info? t = some i ∧ i.size = n := by
  unfold sizeT at hs
  cases hi : P.info? t with
  | none => rw [hi] at hs; cases hs
  | some i => rw [hi] at hs; exact ⟨i, rfl, Option.some.inj hs⟩
theorem run_sizeOf {t : TypeId} {n : Nat} (hs : sizeT P t = some n) : (sizeOf t).run P w = .ok n w := by
  obtain ⟨i, hi, rfl⟩ := sizeT_info hs
  simp [sizeOf, typeInfo, hi]
theorem addr_add' (b o n : Nat) : (⟨b, o, none⟩ : Addr).add n = ⟨b, o + n, none⟩ := by unfold Addr.add; split <;> simp_all

theorem re_leaves {kn : Bool} {cs : Array Value} : ∀ {es : List Sh} {p : Nat} {d : D} {j : Nat}, RE E.Z es cs p d j → ∃ vs : List Value, vs.length = es.length ∧ (∀ i v, vs[i]? = some v → cs[p + i]? = some v) ∧ RelL E (leaves kn es d j) vs ∧ ∀ u ∈ vs, u.oneCell' = true
  | [], _, _, _, _ => ⟨[], rfl, by simp, rfl, by simp⟩
  | s :: es, p, d, j, ⟨⟨v, hz, hl⟩, h⟩ => by
    obtain ⟨vs, h1, h2, h3, h4⟩ := re_leaves (kn := kn) h
    obtain ⟨g1, g2⟩ := rel_leaf (kn := kn) hl
    refine ⟨v :: vs, by simp [h1], fun i u hu => ?_, ⟨v, vs, rfl, g1, h3⟩, by simpa using ⟨g2, h4⟩⟩
    cases i with
    | zero => simp at hu; subst hu; exact hz
    | succ i => have := h2 i u (by simpa using hu); rwa [show p + (i + 1) = p + 1 + i by omega]
theorem re_take {Z : Nat → Nat → Option Value} {cs : Array Value} : ∀ (n : Nat) {es : List Sh} {p : Nat} {d : D} {j : Nat}, RE Z es cs p d j → RE Z (es.take n) cs p d j
  | 0, _, _, _, _, _ => by simp [RE]
  | n + 1, [], _, _, _, _ => by simp [RE]
  | n + 1, s :: es, _, _, _, ⟨h1, h2⟩ => by simp only [List.take_succ_cons]; exact ⟨h1, re_take n h2⟩
theorem re_drop {Z : Nat → Nat → Option Value} {cs : Array Value} : ∀ (n : Nat) {es : List Sh} {p : Nat} {d : D} {j : Nat}, RE Z es cs p d j → RE Z (es.drop n) cs (p + n) d (j + n)
  | 0, _, _, _, _, h => by simpa using h
  | n + 1, [], _, _, _, _ => by simp [RE]
  | n + 1, s :: es, p, d, j, ⟨_, h2⟩ => by
    have := re_drop n h2
    simp only [List.drop_succ_cons]
    rwa [show p + 1 + n = p + (n + 1) by omega, show j + 1 + n = j + (n + 1) by omega] at this
/-- a row's block -/
theorem row_ob (I : Inv P w0 G E h w) {o : Nat} {es : List Sh} {d : D} (H : rowOf o h = some (es, d)) : lookO o h.ob = some [.rw es d] ∧ ∃ cs t, w.heap[E.β o]? = some (.cells cs t (0, 0)) ∧ d.len * szB es ≤ room ∧ ∀ i, i < d.len → RE E.Z es cs (i * es.length) (d.get i) 0 := by
  unfold rowOf at H
  split at H
  · rename_i es' d' hl
    cases H
    refine ⟨hl, ?_⟩
    obtain ⟨vs, ob, hb, hr, hok⟩ := I.ob o _ hl
    obtain ⟨v, vs', rfl, ⟨h0, cs, rfl, h2⟩, h3⟩ := hr
    have h3 : vs' = [] := h3
    subst h3
    rcases hok with ⟨t, _, h1⟩ | (⟨_, _, _, h1⟩ | ⟨_, _, _, _, _, h1⟩) | ⟨cs', t, h1, h4⟩
    · have := h1 _ List.mem_cons_self; cases this
    · cases h1
    · cases h1
    · cases h4
      exact ⟨cs, t, h1 ▸ hb, h0, h2⟩
  · cases H

/-- a row of values in immutable cells -/
theorem z_range (I : Inv P w0 G E h w) {b o : Nat} {vs : List Value} (hz : ∀ i v, vs[i]? = some v → E.Z b (o + i) = some v) : w.rangeAt b o vs := fun j v hv => I.z _ _ _ (hz j v hv)

theorem ZAt.drop {vs : List Value} {b o : Nat} (h : ZAt E vs b o) (n : Nat) : ZAt E (vs.drop n) b (o + n) := fun i u hu => by
  rw [List.getElem?_drop] at hu
  rw [Nat.add_assoc]; exact h _ u hu
theorem ZAt.take {vs : List Value} {b o : Nat} (h : ZAt E vs b o) (n : Nat) : ZAt E (vs.take n) b o := fun i u hu => by
  rw [List.getElem?_take] at hu
  split at hu
  · exact h i u hu
  · cases hu
/-- a world in which what is read is as it is in w -/
def Sees (E : Env) (x : AV) (w W : World) : Prop := (∀ b j v, E.Z b j = some v → W.cell? ⟨b, j, none⟩ = some v) ∧ ∀ o, tgt x = some o → W.heap[E.β o]? = w.heap[E.β o]?
theorem Inv.sees (I : Inv P w0 G E h w) (x : AV) : Sees E x w w := ⟨I.z, fun _ _ => rfl⟩
theorem loadA_ok {K : AV → Prop} {t : TypeId} {x : AV} {v : Value} (H : (loadA P t x h).holds K) (I : Inv P w0 G E h w) (hx : Rel E x v) :
    ∃ av u, K av ∧ (∀ W, Sees E x w W → (Instr.loadAt t v).run P W = .ok u W) ∧ Rel E av u := by
  unfold loadA at H
  split at H
  · exact H.elim
  rename_i n hn
  cases hu : P.underlying t with
  | none => simp only [hu] at H; exact H.elim
  | some d =>
    simp only [hu] at H
    split at H
    · -- a variable
      rename_i o off
      obtain ⟨hlive, rfl⟩ := hx
      split at H
      · exact H.elim
      rename_i cs hcs
      cases hvar : isVar cs
      · rw [hvar] at H; exact H.elim
      rw [hvar] at H
      simp only [cond_true] at H
      obtain ⟨vs, ob, hb, hrel, hok⟩ := I.ob o cs hcs
      obtain ⟨ty, rfl, h1⟩ := ob_cells hvar hrel hok
      have hcell : ∀ W, Sees E (.ptr o off) w W → ∀ j, W.cell? ⟨E.β o, j, none⟩ = vs[j]? := fun W hW j => by rw [cell_of_row W _ j _ _ _ ((hW.2 o rfl).trans hb)]; simp
      cases hr : d.isRow
      · simp only [hr, cond_false] at H
        split at H
        · rename_i y hy
          obtain ⟨u, hu', hru⟩ := RelL.get hrel hy
          refine ⟨y, u, H, fun W hW => ?_, hru⟩
          have hag : (isAgg t).run P W = .ok false W := by
            unfold isAgg
            simp only [Sem.run_bind, run_underlying hu, Result.andThen_ok]
            cases d <;> first | rfl | simp [TypeDesc.isRow] at hr
          simp [Instr.loadAt, Instr.sureAddr, loadVar, hag, hcell W hW, hu']
        · exact H.elim
      · simp only [hr, cond_true] at H
        cases hle : Nat.ble (off + n) cs.length
        · rw [hle] at H; exact H.elim
        · rw [hle] at H
          have hle' := Nat.le_of_ble_eq_true hle
          have hlen : vs.length = cs.length := hrel.length.symm
          refine ⟨_, .agg ((vs.drop off).take n).toArray, H, fun W hW => ?_, ⟨_, rfl, by simpa using (hrel.drop off).take n, fun u hu' => h1 u (List.mem_of_mem_drop (List.mem_of_mem_take (by simpa using hu')))⟩⟩
          have hrow : W.rangeAt (E.β o) off ((vs.drop off).take n) := fun j u hu' => by
            rw [hcell W hW]
            rw [List.getElem?_take] at hu'
            split at hu'
            · rwa [List.getElem?_drop] at hu'
            · cases hu'
          have hsz : (P.info? t).map (·.size) = some ((vs.drop off).take n).length := by
            obtain ⟨i, hi, hi2⟩ := sizeT_info hn
            rw [hi]; simp [hi2]; omega
          have := run_loadVar_mid (P := P) W (E.β o) off t _ d hrow hu hr hsz
          simp [Instr.loadAt, Instr.sureAddr, this]
    · -- an element
      rename_i kn es d' j
      obtain ⟨b, o, rfl, hel⟩ := hx
      cases hr : d.isRow
      · simp only [hr, cond_false] at H
        split at H
        · rename_i s es'
          obtain ⟨⟨u, hz, hl⟩, _⟩ := hel
          obtain ⟨g1, g2⟩ := rel_leaf (kn := kn) hl
          refine ⟨_, u, H, fun W hW => ?_, g1⟩
          have hl := hW.1 _ _ _ hz
          have hag : (isAgg t).run P W = .ok false W := by
            unfold isAgg
            simp only [Sem.run_bind, run_underlying hu, Result.andThen_ok]
            cases d <;> first | rfl | simp [TypeDesc.isRow] at hr
          simp [Instr.loadAt, Instr.sureAddr, loadVar, hag, hl]
        · exact H.elim
      · simp only [hr, cond_true] at H
        cases hle : Nat.ble n es.length
        · rw [hle] at H; exact H.elim
        · rw [hle] at H
          have hle' := Nat.le_of_ble_eq_true hle
          obtain ⟨vs, g1, g2, g3, g4⟩ := el_leaves (kn := kn) (el_take n hel)
          refine ⟨_, .agg vs.toArray, H, fun W hW => ?_, ⟨_, rfl, by simpa using g3, by simpa using g4⟩⟩
          have hsz : (P.info? t).map (·.size) = some vs.length := by
            obtain ⟨i, hi, hi2⟩ := sizeT_info hn
            rw [hi, g1]; simp [hi2]; omega
          have := run_loadVar_mid (P := P) W b o t _ d (fun j v hv => hW.1 _ _ _ (g2 j v hv)) hu hr hsz
          simp [Instr.loadAt, Instr.sureAddr, this]
    · -- an element of a row
      rename_i kn o m i j
      obtain ⟨hlive, rfl⟩ := hx
      split at H
      · rename_i es d' hrow
        obtain ⟨hlk, cs, ty, hb, _, hre⟩ := row_ob I hrow
        cases hm : Nat.beq m es.length
        · rw [hm] at H; exact H.elim
        rw [hm] at H
        obtain rfl := Nat.eq_of_beq_eq_true hm
        obtain ⟨hc, H⟩ := need_holds H
        have hc := of_decide_eq_true hc
        have hre := hre i hc
        have hcell : ∀ W, Sees E (.rp kn o es.length i j) w W → ∀ q, W.cell? ⟨E.β o, q, none⟩ = cs[q]? := fun W hW q => by
          have hb' : W.heap[E.β o]? = some (.cells cs.toList.toArray ty (0, 0)) := (hW.2 o rfl).trans (by simpa using hb)
          rw [cell_of_row W _ q _ _ _ hb']
        cases hr : d.isRow
        · simp only [hr, cond_false] at H
          split at H
          · rename_i s es' hes
            have hel := re_drop j hre
            rw [hes, Nat.zero_add] at hel
            obtain ⟨⟨u, hz, hl⟩, _⟩ := hel
            obtain ⟨g1, g2⟩ := rel_leaf (kn := kn) hl
            refine ⟨_, u, H, fun W hW => ?_, g1⟩
            have hl := (hcell W hW _).trans hz
            have hag : (isAgg t).run P W = .ok false W := by
              unfold isAgg
              simp only [Sem.run_bind, run_underlying hu, Result.andThen_ok]
              cases d <;> first | rfl | simp [TypeDesc.isRow] at hr
            simp [Instr.loadAt, Instr.sureAddr, loadVar, hag, hl]
          · exact H.elim
        · simp only [hr, cond_true] at H
          cases hle : Nat.ble (j + n) es.length
          · rw [hle] at H; exact H.elim
          · rw [hle] at H
            have hle' := Nat.le_of_ble_eq_true hle
            obtain ⟨vs, g1, g2, g3, g4⟩ := re_leaves (kn := kn) (re_take n (re_drop j hre))
            rw [Nat.zero_add] at g3
            refine ⟨_, .agg vs.toArray, H, fun W hW => ?_, ⟨_, rfl, by simpa using g3, by simpa using g4⟩⟩
            have hsz : (P.info? t).map (·.size) = some vs.length := by
              obtain ⟨i, hi, hi2⟩ := sizeT_info hn
              rw [hi, g1]; simp [hi2]; omega
            have := run_loadVar_mid (P := P) W (E.β o) (i * es.length + j) t _ d (fun q v hv => (hcell W hW _).trans (g2 q v hv)) hu hr hsz
            simp [Instr.loadAt, Instr.sureAddr, this]
      · exact H.elim
    · -- cells that stay
      rename_i cs'
      obtain ⟨vs, b, o, hr', h1', rfl, hz⟩ := hx
      cases hr : d.isRow
      · simp only [hr, cond_false] at H
        split at H
        · rename_i y ys
          obtain ⟨u, vs', rfl, hy, _⟩ := hr'
          refine ⟨y, u, H, fun W hW => ?_, hy⟩
          have hl := hW.1 _ _ _ (hz 0 u rfl)
          rw [Nat.add_zero] at hl
          have hag : (isAgg t).run P W = .ok false W := by
            unfold isAgg
            simp only [Sem.run_bind, run_underlying hu, Result.andThen_ok]
            cases d <;> first | rfl | simp [TypeDesc.isRow] at hr
          simp [Instr.loadAt, Instr.sureAddr, loadVar, hag, hl]
        · exact H.elim
      · simp only [hr, cond_true] at H
        cases hle : Nat.ble n cs'.length
        · rw [hle] at H; exact H.elim
        · rw [hle] at H
          have hle' := Nat.le_of_ble_eq_true hle
          have hlen := hr'.length
          refine ⟨_, .agg (vs.take n).toArray, H, fun W hW => ?_, ⟨_, rfl, by simpa using hr'.take n, fun u hu' => h1' u (List.mem_of_mem_take (by simpa using hu'))⟩⟩
          have hsz : (P.info? t).map (·.size) = some (vs.take n).length := by
            obtain ⟨i, hi, hi2⟩ := sizeT_info hn
            rw [hi]; simp [hi2]; omega
          have := run_loadVar_mid (P := P) W b o t _ d (fun j v hv => hW.1 _ _ _ (hz.take n j v hv)) hu hr hsz
          simp [Instr.loadAt, Instr.sureAddr, this]
    · exact H.elim

theorem fieldAddrA_ok {K : AV → Prop} {s : TypeId} {x : AV} {f : Nat} {v : Value} (H : (fieldAddrA P s x f).holds K) (hx : Rel E x v) :
    ∃ av u, K av ∧ (∀ w, (Instr.fieldAt s v f).run P w = .ok u w) ∧ Rel E av u := by
  unfold fieldAddrA at H
  split at H
  · rename_i fs hu
    split at H
    · rename_i fd hf
      split at H
      · rename_i n hn
        have hn0 : ¬ n + 1 = 0 := by omega
        have key : ∀ b o w, (Instr.fieldAt s (.pointer (some ⟨b, o, none⟩)) f).run P w = .ok (.pointer (some ⟨b, o + fd.offset, none⟩)) w := fun b o w => by
          simp [Instr.fieldAt, run_underlying hu, hf, Instr.sureAddr, fieldPlace, run_sizeOf hn, addr_add']
        split at H
        · rename_i o off
          obtain ⟨h1, rfl⟩ := hx
          exact ⟨_, _, H, key _ _, h1, rfl⟩
        · rename_i kn es d j
          obtain ⟨b, o, rfl, h1⟩ := hx
          cases hle : Nat.ble fd.offset es.length
          · rw [hle] at H; exact H.elim
          · rw [hle] at H
            exact ⟨_, _, H, key _ _, b, _, rfl, el_drop _ h1⟩
        · rename_i kn o m i j
          obtain ⟨h1, rfl⟩ := hx
          exact ⟨_, _, H, key _ _, h1, by rw [Nat.add_assoc]⟩
        · rename_i cs
          obtain ⟨vs, b, o, h1, h2, rfl, h3⟩ := hx
          exact ⟨_, _, H, key _ _, vs.drop fd.offset, b, _, h1.drop _, (fun u hu => h2 u (List.mem_of_mem_drop hu)), rfl, h3.drop _⟩
        · exact H.elim
      · exact H.elim
    · exact H.elim
  · exact H.elim
end
end
end Go.Proofs.YtomblhnchdokmaaGreatDoor

namespace Go.Proofs.YtomblhnchdokmaaGreatDoor
set_option linter.unusedSimpArgs false
set_option linter.unusedVariables false
open Go.RowKit
set_option maxRecDepth 10000
noncomputable section
section
variable {P : Program} {E : Env} {F : Tm} {h : Hp} {w w0 : World} {G : Nat → Prop} {a : Act}

theorem rel_int {kn : Bool} {k : IntKind} {n : Int} {v : Value} (h : Rel E (.sc kn (.int k n)) v) : v = .int k n := h.1
theorem rel_scb {kn : Bool} {b : Bool} {v : Value} (h : Rel E (.sc kn (.bool b)) v) : v = .bool b := h.1

theorem indexAddrA_ok {K : AV → Prop} {t : TypeId} {x i : AV} {v iv : Value} (H : (indexAddrA P t x i).holds K) (hx : Rel E x v) (hi : Rel E i iv) :
    ∃ av u, K av ∧ (∀ w, (Instr.indexAt t v iv).run P w = .ok u w) ∧ Rel E av u := by
  unfold indexAddrA at H
  split at H
  · rename_i e kn es d tip k2 ik n hu
    obtain ⟨⟨_, ad, cap, rfl, h1, h2, h3, h4⟩, _⟩ := hx
    obtain rfl := rel_int hi
    split at H
    · rename_i m hm
      cases hb : Nat.beq m es.length
      · rw [hb] at H; exact H.elim
      · rw [hb] at H
        obtain rfl := Nat.eq_of_beq_eq_true hb
        obtain ⟨hc, H⟩ := need_holds H
        obtain ⟨hn0, hn1⟩ : 0 ≤ n ∧ n < (d.len : Int) := of_decide_eq_true hc
        obtain ⟨b, o, rfl, h5⟩ := h4 (by omega)
        refine ⟨_, .pointer (some ⟨b, o + n.toNat * es.length, none⟩), H, fun w => ?_, b, _, rfl, h5 n.toNat (by omega)⟩
        simp [Instr.indexAt, asIntOf, run_underlying hu, hn0, hn1, run_sizeOf hm, addr_add']
    · exact H.elim
  · obtain ⟨hc, _⟩ := need_holds H; cases hc
  · rename_i e kn o m len k2 ik n hu
    obtain ⟨hl, ad, cap, rfl, h1, h2, h3, h4⟩ := hx
    obtain rfl := rel_int hi
    split at H
    · rename_i k hk
      cases hb : Nat.beq k m
      · rw [hb] at H; exact H.elim
      · rw [hb] at H
        obtain rfl := Nat.eq_of_beq_eq_true hb
        obtain ⟨hc, H⟩ := need_holds H
        obtain ⟨hn0, hn1⟩ : 0 ≤ n ∧ n < (len : Int) := of_decide_eq_true hc
        obtain rfl := h4 (by omega)
        refine ⟨_, .pointer (some ⟨E.β o, n.toNat * k, none⟩), H, fun w => ?_, hl, by simp⟩
        simp [Instr.indexAt, asIntOf, run_underlying hu, hn0, hn1, run_sizeOf hk, addr_add']
    · exact H.elim
  · rename_i m e o off ik n hu
    obtain ⟨hl, rfl⟩ := hx
    obtain rfl := rel_int hi
    split at H
    · rename_i k hk
      cases hc : decide (0 ≤ n ∧ n < (m : Int))
      · rw [hc] at H; exact H.elim
      · rw [hc] at H
        obtain ⟨hn0, hn1⟩ := of_decide_eq_true hc
        refine ⟨_, .pointer (some ⟨E.β o, off + n.toNat * k, none⟩), H, fun w => ?_, hl, rfl⟩
        simp [Instr.indexAt, asIntOf, run_underlying hu, Instr.sureAddr, hn0, hn1, run_sizeOf hk, addr_add']
    · exact H.elim
  · rename_i m e kn es d j ik n hu
    obtain ⟨b, o, rfl, h1⟩ := hx
    obtain rfl := rel_int hi
    split at H
    · rename_i k hk
      cases hc : decide (0 ≤ n ∧ n < (m : Int)) && Nat.ble (n.toNat * k) es.length
      · rw [hc] at H; exact H.elim
      · rw [hc] at H
        simp only [Bool.and_eq_true] at hc
        obtain ⟨hn0, hn1⟩ := of_decide_eq_true hc.1
        refine ⟨_, .pointer (some ⟨b, o + n.toNat * k, none⟩), H, fun w => ?_, b, _, rfl, el_drop _ h1⟩
        simp [Instr.indexAt, asIntOf, run_underlying hu, Instr.sureAddr, hn0, hn1, run_sizeOf hk, addr_add']
    · exact H.elim
  · rename_i e o off m len cap ik n hu
    obtain ⟨hl, h1, h2, rfl⟩ := hx
    obtain rfl := rel_int hi
    split at H
    · rename_i k hk
      cases hc : Nat.beq k m && decide (0 ≤ n ∧ n < (len : Int))
      · rw [hc] at H; exact H.elim
      · rw [hc] at H
        simp only [Bool.and_eq_true] at hc
        obtain ⟨hn0, hn1⟩ := of_decide_eq_true hc.2
        refine ⟨_, .pointer (some ⟨E.β o, off + n.toNat * k, none⟩), H, fun w => ?_, hl, rfl⟩
        simp [Instr.indexAt, asIntOf, run_underlying hu, hn0, hn1, run_sizeOf hk, addr_add']
    · exact H.elim
  · rename_i e m len cs tip ik n hu
    obtain ⟨⟨vs, b, o, cap, h1, h2, h3, rfl, h4, h5, hz⟩, _⟩ := hx
    obtain rfl := rel_int hi
    split at H
    · rename_i k hk
      cases hc : Nat.beq k m && decide (0 ≤ n ∧ n < (len : Int))
      · rw [hc] at H; exact H.elim
      · rw [hc] at H
        simp only [Bool.and_eq_true] at hc
        obtain ⟨hn0, hn1⟩ := of_decide_eq_true hc.2
        refine ⟨_, .pointer (some ⟨b, o + n.toNat * k, none⟩), H, fun w => ?_, vs.drop (n.toNat * k), b, _, h1.drop _, (fun u hu => h2 u (List.mem_of_mem_drop hu)), rfl, hz.drop _⟩
        simp [Instr.indexAt, asIntOf, run_underlying hu, hn0, hn1, run_sizeOf hk, addr_add']
    · exact H.elim
  · rename_i m e cs ik n hu
    obtain ⟨vs, b, o, h1, h2, rfl, hz⟩ := hx
    obtain rfl := rel_int hi
    split at H
    · rename_i k hk
      cases hc : decide (0 ≤ n ∧ n < (m : Int))
      · rw [hc] at H; exact H.elim
      · rw [hc] at H
        obtain ⟨hn0, hn1⟩ := of_decide_eq_true hc
        refine ⟨_, .pointer (some ⟨b, o + n.toNat * k, none⟩), H, fun w => ?_, vs.drop (n.toNat * k), b, _, h1.drop _, (fun u hu => h2 u (List.mem_of_mem_drop hu)), rfl, hz.drop _⟩
        simp [Instr.indexAt, asIntOf, run_underlying hu, Instr.sureAddr, hn0, hn1, run_sizeOf hk, addr_add']
    · exact H.elim
  · exact H.elim

theorem asSl_ok {es0 : List Sh} {x : AV} {kn : Bool} {es : List Sh} {d : D} {v : Value} (hs : asSl es0 x = some (kn, es, d)) (hx : Rel E x v) : LF E.Z (.sl es) v d := by
  unfold asSl at hs
  split at hs
  · cases hs; exact hx.1
  · cases hs
    obtain ⟨rfl, _⟩ := hx
    exact ⟨by simp [D.len, D.toL, D.raw], none, 0, rfl, Nat.le_refl _, Nat.zero_le _, fun _ => rfl, fun hn => absurd (by simp [D.len, D.toL, D.raw]) hn⟩
  · cases hs
theorem toL_sub {d : D} {l u : Nat} : (d.sub l u).toL = (d.toL.take u).drop l := by
  have h1 : ((d.toL.take u).drop l).length ≤ maxLen := by
    have := d.len_le; unfold D.len at this
    simp only [List.length_drop, List.length_take]; omega
  show List.take maxLen _ = _
  exact List.take_of_length_le h1
theorem boundA_ok {dflt : Int} {x : Option AV} {v : Option Value} {k : Bool} {n : Int} (hb : boundA dflt x = some (k, n)) (hr : ∀ y, x = some y → ∃ u, v = some u ∧ Rel E y u) (hn : x = none → v = none) :
    (x = none ∧ v = none ∧ n = dflt) ∨ ∃ ik, v = some (.int ik n) := by
  unfold boundA at hb
  split at hb
  · cases hb; exact .inl ⟨rfl, hn rfl, rfl⟩
  · cases hb
    obtain ⟨u, rfl, h1⟩ := hr _ rfl
    exact .inr ⟨_, by rw [rel_int h1]⟩
  · cases hb
theorem run_sliceBound {ik : IntKind} {n : Int} {y : Nat} {c : BoundsCode} (h0 : 0 ≤ n) (h1 : n ≤ y) : (Instr.sliceBound (.int ik n) y c).run P w = .ok n.toNat w := by
  simp [Instr.sliceBound, asIntOf, h0, h1]
theorem sliceB_ok {K : AV → Prop} {t : TypeId} {x : AV} {v : Value} {lo hi : Option Operand} {mx : Option Operand} (hT : RelT E F a) (H : (sliceB P t x (lo.map (opnd F)) (hi.map (opnd F)) (mx.map (opnd F))).holds K) (hx : Rel E x v) :
    ∃ av u, K av ∧ (∀ w, (Instr.sliceAt t v (lo.map a.eval) (hi.map a.eval) (mx.map a.eval)).run P w = .ok u w) ∧ Rel E av u := by
  unfold sliceB at H
  split at H
  · rename_i e hel
    have hu : P.underlying t = some (.slice e) := by
      unfold elemA at hel
      split at hel
      · cases hel; assumption
      · cases hel
    split at H
    · rename_i kn es d n hs hn
      split at H
      · rename_i k1 l k2 u k3 m hb1 hb2 hb3
        cases hb : Nat.beq n es.length && ((mx.map (opnd F)).isNone || (hi.map (opnd F)).isSome)
        · rw [hb] at H; exact H.elim
        · rw [hb] at H
          simp only [Bool.and_eq_true] at hb
          obtain rfl := Nat.eq_of_beq_eq_true hb.1
          have hmh : mx = none ∨ ∃ o, hi = some o := by
            have := hb.2
            cases mx with
            | none => exact .inl rfl
            | some _ => cases hi with
              | none => simp at this
              | some o => exact .inr ⟨o, rfl⟩
          obtain ⟨hc, H⟩ := need_holds H
          obtain ⟨h0, h1, h2', h2⟩ : 0 ≤ l ∧ l ≤ u ∧ u ≤ m ∧ m ≤ (d.len : Int) := of_decide_eq_true hc
          obtain ⟨g0, ad, cap, rfl, g1, g2, g3, g4⟩ := asSl_ok hs hx
          have rl : ∀ z y, (z : Option Operand).map (opnd F) = some y → ∃ u, z.map a.eval = some u ∧ Rel E y u := fun z y hy => by
            cases z with
            | none => cases hy
            | some o => cases hy; exact ⟨_, rfl, rel_opnd hT o⟩
          -- the greatest bound
          obtain ⟨M, hM, hMu, hMc⟩ : ∃ M : Nat, (∀ w c, ((match mx.map a.eval with | some v => Instr.sliceBound v cap c | none => pure cap) : Sem Nat).run P w = .ok M w) ∧ u ≤ M ∧ M ≤ cap := by
            rcases boundA_ok hb3 (rl mx) (fun hh => by cases mx <;> simp_all) with ⟨_, hv, rfl⟩ | ⟨ik, hv⟩
            · exact ⟨cap, fun w c => by rw [hv]; simp, by omega, Nat.le_refl _⟩
            · exact ⟨m.toNat, fun w c => by rw [hv]; exact run_sliceBound (by omega) (by omega), by omega, by omega⟩
          have hhi : ∀ w c, ((match hi.map a.eval with | some v => Instr.sliceBound v M c | none => pure d.len) : Sem Nat).run P w = .ok u.toNat w := fun w c => by
            rcases boundA_ok hb2 (rl hi) (fun hh => by cases hi <;> simp_all) with ⟨_, hv, rfl⟩ | ⟨ik, hv⟩
            · rw [hv]; simp
            · rw [hv]; exact run_sliceBound (by omega) (by omega)
          have hlo : ∀ w c, ((match lo.map a.eval with | some v => Instr.sliceBound v u.toNat c | none => pure 0) : Sem Nat).run P w = .ok l.toNat w := fun w c => by
            rcases boundA_ok hb1 (rl lo) (fun hh => by cases lo <;> simp_all) with ⟨_, hv, rfl⟩ | ⟨ik, hv⟩
            · rw [hv]; simp
            · rw [hv]; exact run_sliceBound (by omega) (by omega)
          have hlen : (d.sub l.toNat u.toNat).len = u.toNat - l.toNat := by
            have h5 : u.toNat ≤ d.toL.length := by unfold D.len at h2; omega
            unfold D.len; rw [toL_sub]; simp only [List.length_drop, List.length_take]; omega
          have key : (∀ w, (Instr.sliceAt t (.slice ad d.len cap) (lo.map a.eval) (hi.map a.eval) (mx.map a.eval)).run P w = .ok (.slice (if M = l.toNat then ad else ad.map (·.add (l.toNat * es.length))) (u.toNat - l.toNat) (M - l.toNat)) w) ∧ Rel E (.sl (kn && k1 && k2) es (d.sub l.toNat u.toNat) none) (.slice (if M = l.toNat then ad else ad.map (·.add (l.toNat * es.length))) (u.toNat - l.toNat) (M - l.toNat)) := by
            refine ⟨fun w => ?_, ⟨by rw [hlen]; exact Nat.le_trans (Nat.mul_le_mul_right _ (by omega)) g0, _, _, by rw [hlen], by omega, by omega, ?_, ?_⟩, trivial⟩
            · have hsb : (Instr.sliceBounds true d.len cap (lo.map a.eval) (hi.map a.eval) (mx.map a.eval)).run P w = .ok (l.toNat, u.toNat, M) w := by
                unfold Instr.sliceBounds
                have e1 := hhi w .sliceAcap
                have e1' := hhi w .slice3B
                have e2 := hlo w .sliceB
                have e2' := hlo w .slice3C
                have e3 := hM w .slice3Acap
                rcases hmh with rfl | ⟨o, rfl⟩
                · cases lo <;> cases hi <;> simp_all
                · cases lo <;> cases mx <;> simp_all
              unfold Instr.sliceAt
              simp only [Sem.run_bind, run_underlying hu, Result.andThen_ok, Instr.slice, hsb, run_sizeOf hn]
              rfl
            · intro hh
              split at hh
              · have := g3 hh; omega
              · cases ad with
                | none => have := g3 rfl; omega
                | some _ => cases hh
            · intro hne
              rw [hlen] at hne
              obtain ⟨b, o, rfl, g5⟩ := g4 (by omega)
              rw [if_neg (by omega)]
              refine ⟨b, o + l.toNat * es.length, by simp [addr_add'], fun i hi => ?_⟩
              rw [hlen] at hi
              have := g5 (l.toNat + i) (by omega)
              rw [show o + l.toNat * es.length + i * es.length = o + (l.toNat + i) * es.length by rw [Nat.add_mul, Nat.add_assoc]]
              have hg : (d.sub l.toNat u.toNat).get i = d.get (l.toNat + i) := by
                unfold D.get
                rw [toL_sub, List.getD_eq_getElem?_getD, List.getD_eq_getElem?_getD, List.getElem?_drop, List.getElem?_take_of_lt (by omega)]
              rw [hg]; exact this
          cases hcc : (bif kn && k1 && k2 then decide (l = u) && !(Nat.beq d.len 0) else false)
          · rw [hcc] at H
            exact ⟨_, _, H, key.1, key.2⟩
          · rw [hcc] at H
            have hlu : l = u ∧ d.len ≠ 0 := by
              cases hk : kn && k1 && k2
              · rw [hk] at hcc; cases hcc
              · rw [hk] at hcc
                simp only [cond_true, Bool.and_eq_true, Bool.not_eq_true'] at hcc
                exact ⟨of_decide_eq_true hcc.1, fun e => by rw [e] at hcc; exact absurd hcc.2 (by decide)⟩
            obtain ⟨b, o, rfl, _⟩ := g4 hlu.2
            refine ⟨_, _, H, key.1, ?_⟩
            by_cases hM' : M = l.toNat
            · exact ⟨⟨[], b, o, M - l.toNat, rfl, by simp, by simp, by rw [if_pos hM', show u.toNat - l.toNat = 0 by omega], Nat.zero_le _, by omega, fun i x hx => by simp at hx⟩, trivial⟩
            · exact ⟨⟨[], b, o + l.toNat * es.length, M - l.toNat, rfl, by simp, by simp, by rw [if_neg hM', show u.toNat - l.toNat = 0 by omega]; simp [addr_add'], Nat.zero_le _, by omega, fun i x hx => by simp at hx⟩, trivial⟩
      · exact H.elim
    · exact H.elim
  · split at H
    · rename_i kn sv hu hmx
      obtain ⟨rfl, _⟩ := hx
      split at H
      · rename_i k1 l k2 u hb1 hb2
        obtain ⟨hc, H⟩ := need_holds H
        obtain ⟨h0, h1, h2⟩ : 0 ≤ l ∧ l ≤ u ∧ u ≤ (sv.size : Int) := of_decide_eq_true hc
        have hmx' : mx = none := by cases mx <;> simp_all
        subst hmx'
        have rl : ∀ z y, (z : Option Operand).map (opnd F) = some y → ∃ u, z.map a.eval = some u ∧ Rel E y u := fun z y hy => by
          cases z with
          | none => cases hy
          | some o => cases hy; exact ⟨_, rfl, rel_opnd hT o⟩
        have hhi : ∀ w c, ((match hi.map a.eval with | some v => Instr.sliceBound v sv.size c | none => pure sv.size) : Sem Nat).run P w = .ok u.toNat w := fun w c => by
          rcases boundA_ok hb2 (rl hi) (fun hh => by cases hi <;> simp_all) with ⟨_, hv, rfl⟩ | ⟨ik, hv⟩
          · rw [hv]; simp
          · rw [hv]; exact run_sliceBound (by omega) (by omega)
        have hlo : ∀ w c, ((match lo.map a.eval with | some v => Instr.sliceBound v u.toNat c | none => pure 0) : Sem Nat).run P w = .ok l.toNat w := fun w c => by
          rcases boundA_ok hb1 (rl lo) (fun hh => by cases lo <;> simp_all) with ⟨_, hv, rfl⟩ | ⟨ik, hv⟩
          · rw [hv]; simp
          · rw [hv]; exact run_sliceBound (by omega) (by omega)
        refine ⟨_, .string (sv.extract l.toNat u.toNat), H, fun w => ?_, rfl, rfl⟩
        have hsb : (Instr.sliceBounds false sv.size sv.size (lo.map a.eval) (hi.map a.eval) none).run P w = .ok (l.toNat, u.toNat, sv.size) w := by
          unfold Instr.sliceBounds
          have e1 := hhi w .sliceAlen
          have e2 := hlo w .sliceB
          cases lo <;> cases hi <;> simp_all
        unfold Instr.sliceAt
        simp only [Sem.run_bind, run_underlying hu, Result.andThen_ok, Instr.slice, Option.map_none, Option.isSome_none, Bool.false_eq_true, if_false, hsb]
        rfl
      · exact H.elim
    · exact H.elim

/-- known bounds -/
theorem boundsV_ok (hT : RelT E F a) {len m l u q : Nat} {lo hi mx : Option Operand} (H : boundsV len m (lo.map (opnd F)) (hi.map (opnd F)) (mx.map (opnd F)) = some (l, u, q)) (isS : Bool) :
    (∀ w, (Instr.sliceBounds isS len m (lo.map a.eval) (hi.map a.eval) (mx.map a.eval)).run P w = .ok (l, u, q) w) ∧ l ≤ u ∧ u ≤ q ∧ q ≤ m ∧ (mx = none → q = m) := by
  unfold boundsV at H
  split at H
  · rename_i l' u' q' hb1 hb2 hb3
    cases hb : decide (0 ≤ l' ∧ l' ≤ u' ∧ u' ≤ q' ∧ q' ≤ (m : Int)) && ((mx.map (opnd F)).isNone || (hi.map (opnd F)).isSome)
    · rw [hb] at H; cases H
    rw [hb] at H
    cases H
    simp only [Bool.and_eq_true] at hb
    obtain ⟨h0, h1, h2, h3⟩ := of_decide_eq_true hb.1
    have hmh : mx = none ∨ ∃ o, hi = some o := by
      have := hb.2
      cases mx with
      | none => exact .inl rfl
      | some _ => cases hi with
        | none => simp at this
        | some o => exact .inr ⟨o, rfl⟩
    have rl : ∀ z y, (z : Option Operand).map (opnd F) = some y → ∃ u, z.map a.eval = some u ∧ Rel E y u := fun z y hy => by
      cases z with
      | none => cases hy
      | some o => cases hy; exact ⟨_, rfl, rel_opnd hT o⟩
    have hM : ∀ w c, ((match mx.map a.eval with | some v => Instr.sliceBound v m c | none => pure m) : Sem Nat).run P w = .ok q'.toNat w := fun w c => by
      rcases boundA_ok hb3 (rl mx) (fun hh => by cases mx <;> simp_all) with ⟨_, hv, rfl⟩ | ⟨ik, hv⟩
      · rw [hv]; simp
      · rw [hv]; exact run_sliceBound (by omega) (by omega)
    have hhi : ∀ w c, ((match hi.map a.eval with | some v => Instr.sliceBound v q'.toNat c | none => pure len) : Sem Nat).run P w = .ok u'.toNat w := fun w c => by
      rcases boundA_ok hb2 (rl hi) (fun hh => by cases hi <;> simp_all) with ⟨_, hv, rfl⟩ | ⟨ik, hv⟩
      · rw [hv]; simp
      · rw [hv]; exact run_sliceBound (by omega) (by omega)
    have hlo : ∀ w c, ((match lo.map a.eval with | some v => Instr.sliceBound v u'.toNat c | none => pure 0) : Sem Nat).run P w = .ok l'.toNat w := fun w c => by
      rcases boundA_ok hb1 (rl lo) (fun hh => by cases lo <;> simp_all) with ⟨_, hv, rfl⟩ | ⟨ik, hv⟩
      · rw [hv]; simp
      · rw [hv]; exact run_sliceBound (by omega) (by omega)
    refine ⟨fun w => ?_, by omega, by omega, by omega, fun hn => ?_⟩
    · unfold Instr.sliceBounds
      have e1 := hhi w .sliceAcap
      have e1a := hhi w .sliceAlen
      have e1' := hhi w .slice3B
      have e2 := hlo w .sliceB
      have e2' := hlo w .slice3C
      have e3 := hM w .slice3Acap
      have e3' := hM w .slice3Alen
      rcases hmh with rfl | ⟨o, rfl⟩
      · cases isS <;> cases lo <;> cases hi <;> simp_all
      · cases isS <;> cases lo <;> cases mx <;> simp_all
    · rcases boundA_ok hb3 (rl mx) (fun hh => by cases mx <;> simp_all) with ⟨_, hv, rfl⟩ | ⟨ik, hv⟩
      · simp
      · rw [hn] at hv; cases hv
  · cases H
theorem boundsC_ok (hT : RelT E F a) {len l u q cap : Nat} {lo hi : Option Operand} (H : boundsV len len (lo.map (opnd F)) (hi.map (opnd F)) none = some (l, u, q)) (hcap : len ≤ cap) :
    (∀ w, (Instr.sliceBounds true len cap (lo.map a.eval) (hi.map a.eval) none).run P w = .ok (l, u, cap) w) ∧ l ≤ u ∧ u ≤ len := by
  unfold boundsV at H
  split at H
  · rename_i l' u' q' hb1 hb2 hb3
    cases hb : decide (0 ≤ l' ∧ l' ≤ u' ∧ u' ≤ q' ∧ q' ≤ (len : Int)) && ((none : Option AV).isNone || (hi.map (opnd F)).isSome)
    · rw [hb] at H; cases H
    rw [hb] at H
    cases H
    simp only [Bool.and_eq_true] at hb
    obtain ⟨h0, h1, h2, h3⟩ := of_decide_eq_true hb.1
    have rl : ∀ z y, (z : Option Operand).map (opnd F) = some y → ∃ u, z.map a.eval = some u ∧ Rel E y u := fun z y hy => by
      cases z with
      | none => cases hy
      | some o => cases hy; exact ⟨_, rfl, rel_opnd hT o⟩
    have hhi : ∀ w c, ((match hi.map a.eval with | some v => Instr.sliceBound v cap c | none => pure len) : Sem Nat).run P w = .ok u'.toNat w := fun w c => by
      rcases boundA_ok hb2 (rl hi) (fun hh => by cases hi <;> simp_all) with ⟨_, hv, rfl⟩ | ⟨ik, hv⟩
      · rw [hv]; simp
      · rw [hv]; exact run_sliceBound (by omega) (by omega)
    have hlo : ∀ w c, ((match lo.map a.eval with | some v => Instr.sliceBound v u'.toNat c | none => pure 0) : Sem Nat).run P w = .ok l'.toNat w := fun w c => by
      rcases boundA_ok hb1 (rl lo) (fun hh => by cases lo <;> simp_all) with ⟨_, hv, rfl⟩ | ⟨ik, hv⟩
      · rw [hv]; simp
      · rw [hv]; exact run_sliceBound (by omega) (by omega)
    refine ⟨fun w => ?_, by omega, by omega⟩
    unfold Instr.sliceBounds
    have e1 := hhi w .sliceAcap
    have e2 := hlo w .sliceB
    cases lo <;> cases hi <;> simp_all
  · cases H
theorem cutV_ok {K : AV → Prop} {o off n l u q : Nat} (H : (cutV o off n (some (l, u, q))).holds K) (ho : E.live o) (h1 : l ≤ u) (h2 : u ≤ q) (h3 : q ≤ maxLen) :
    ∃ av, K av ∧ Rel E av (.slice (some (if q = l then (⟨E.β o, off, none⟩ : Addr) else (⟨E.β o, off, none⟩ : Addr).add (l * n))) (u - l) (q - l)) := by
  refine ⟨_, H, ho, by omega, by omega, ?_⟩
  by_cases hq : q = l
  · subst hq; simp
  · have : Nat.beq q l = false := by cases hb : Nat.beq q l; rfl; exact absurd (Nat.eq_of_beq_eq_true hb) hq
    rw [if_neg hq, this, addr_add']; rfl
theorem sliceV_ok {K : AV → Prop} {t : TypeId} {x : AV} {v : Value} {lo hi : Option Operand} {mx : Option Operand} (hT : RelT E F a) (H : (sliceV P t x (lo.map (opnd F)) (hi.map (opnd F)) (mx.map (opnd F))).holds K) (hx : Rel E x v) :
    ∃ av u, K av ∧ (∀ w, (Instr.sliceAt t v (lo.map a.eval) (hi.map a.eval) (mx.map a.eval)).run P w = .ok u w) ∧ Rel E av u := by
  unfold sliceV at H
  split at H
  · rename_i e o off n len cap hu
    obtain ⟨hl, g1, g2, rfl⟩ := hx
    split at H
    · rename_i k hk
      cases hb : Nat.beq k n
      · rw [hb] at H; exact H.elim
      rw [hb] at H
      obtain rfl := Nat.eq_of_beq_eq_true hb
      simp only [cond_true] at H
      cases hbv : boundsV len cap (lo.map (opnd F)) (hi.map (opnd F)) (mx.map (opnd F)) with
      | none => rw [hbv] at H; exact H.elim
      | some p =>
        obtain ⟨l, u, q⟩ := p
        rw [hbv] at H
        obtain ⟨hB, b1, b2, b3, _⟩ := boundsV_ok (P := P) hT hbv true
        obtain ⟨av, h1, h2⟩ := cutV_ok H hl b1 b2 (by omega)
        refine ⟨av, _, h1, fun w => ?_, h2⟩
        unfold Instr.sliceAt
        simp only [Sem.run_bind, run_underlying hu, Result.andThen_ok, Instr.slice, hB, run_sizeOf hk, Sem.run_pure, Option.map_some]
        split <;> rfl
    · exact H.elim
  · rename_i m e o off hu
    obtain ⟨hl, rfl⟩ := hx
    split at H
    · rename_i k hk
      cases hb : Nat.ble m maxLen
      · rw [hb] at H; exact H.elim
      rw [hb] at H
      have hm := Nat.le_of_ble_eq_true hb
      simp only [cond_true] at H
      cases hbv : boundsV m m (lo.map (opnd F)) (hi.map (opnd F)) (mx.map (opnd F)) with
      | none => rw [hbv] at H; exact H.elim
      | some p =>
        obtain ⟨l, u, q⟩ := p
        rw [hbv] at H
        obtain ⟨hB, b1, b2, b3, _⟩ := boundsV_ok (P := P) hT hbv false
        obtain ⟨av, h1, h2⟩ := cutV_ok H hl b1 b2 (by omega)
        refine ⟨av, _, h1, fun w => ?_, h2⟩
        unfold Instr.sliceAt
        simp [run_underlying hu, hB, run_sizeOf hk, Instr.sureAddr]
    · exact H.elim
  · rename_i e n len cs tip hu
    obtain ⟨⟨vs, b, o, cap, r1, r2, r3, rfl, g1, g2, hz⟩, _⟩ := hx
    split at H
    · rename_i k hk hmx
      have hmx' : mx = none := by cases mx <;> simp_all
      subst hmx'
      split at H
      · rename_i l u q hbv
        cases hb : Nat.beq k n
        · rw [hb] at H; exact H.elim
        rw [hb] at H
        obtain rfl := Nat.eq_of_beq_eq_true hb
        obtain ⟨hB, b1, b2⟩ := boundsC_ok (P := P) (cap := cap) hT hbv g1
        simp only [cond_true] at H
        have hvl : vs.length = len * k := r1.length.symm.trans r3
        have hul : u * k ≤ len * k := Nat.mul_le_mul_right _ b2
        have hlu : l * k ≤ u * k := Nat.mul_le_mul_right _ b1
        have hlen : ((vs.drop (l * k)).take ((u - l) * k)).length = (u - l) * k := by rw [List.length_take, List.length_drop, hvl, Nat.sub_mul]; omega
        have hcl : ((cs.drop (l * k)).take ((u - l) * k)).length = (u - l) * k := by rw [List.length_take, List.length_drop, r3, Nat.sub_mul]; omega
        by_cases hcap : cap = l
        · have hul0 : u - l = 0 := by omega
          refine ⟨_, .slice (some ⟨b, o, none⟩) (u - l) (cap - l), H, fun w => ?_, ⟨(vs.drop (l * k)).take ((u - l) * k), b, o, _, (r1.drop _).take _, fun u hu => r2 u (List.mem_of_mem_drop (List.mem_of_mem_take hu)), hcl, rfl, by omega, by omega, ?_⟩, trivial⟩
          · unfold Instr.sliceAt
            simp only [Sem.run_bind, run_underlying hu, Result.andThen_ok, Instr.slice, Option.map_none, hB, run_sizeOf hk, Sem.run_pure]
            rw [if_pos hcap]
          · intro i x hx
            rw [List.eq_nil_of_length_eq_zero (l := (vs.drop (l * k)).take ((u - l) * k)) (by rw [hlen, hul0, Nat.zero_mul])] at hx
            simp at hx
        · refine ⟨_, .slice (some ⟨b, o + l * k, none⟩) (u - l) (cap - l), H, fun w => ?_, ⟨(vs.drop (l * k)).take ((u - l) * k), b, o + l * k, _, (r1.drop _).take _, fun u hu => r2 u (List.mem_of_mem_drop (List.mem_of_mem_take hu)), hcl, rfl, by omega, by omega, (hz.drop _).take _⟩, trivial⟩
          unfold Instr.sliceAt
          simp only [Sem.run_bind, run_underlying hu, Result.andThen_ok, Instr.slice, Option.map_none, hB, run_sizeOf hk, Sem.run_pure, if_neg hcap, Option.map_some, addr_add']
      · exact H.elim
    · exact H.elim
  · exact H.elim
theorem sliceA_ok {K : AV → Prop} {t : TypeId} {x : AV} {v : Value} {lo hi : Option Operand} {mx : Option Operand} (hT : RelT E F a) (H : (sliceA P t x (lo.map (opnd F)) (hi.map (opnd F)) (mx.map (opnd F))).holds K) (hx : Rel E x v) :
    ∃ av u, K av ∧ (∀ w, (Instr.sliceAt t v (lo.map a.eval) (hi.map a.eval) (mx.map a.eval)).run P w = .ok u w) ∧ Rel E av u := by
  unfold sliceA at H
  cases hv : isV x
  · rw [hv] at H; exact sliceB_ok hT H hx
  · rw [hv] at H; exact sliceV_ok hT H hx
theorem lenA_ok {K : AV → Prop} {t ty : TypeId} {x : AV} {v : Value} (H : (lenA P t x).holds K) (hx : Rel E x v) :
    ∃ av u, K av ∧ (∀ w, (Builtin.len_ #[t] ty #[v]).run P w = .ok u w) ∧ Rel E av u := by
  unfold lenA at H
  split at H
  · rename_i hu
    obtain ⟨⟨_, ad, cap, rfl, _⟩, _⟩ := hx
    exact ⟨_, _, H, fun w => by simp [Builtin.len_, run_underlying hu]; rfl, rfl, rfl⟩
  · rename_i hu
    obtain ⟨rfl, _⟩ := hx
    exact ⟨_, _, H, fun w => by simp [Builtin.len_, run_underlying hu]; rfl, rfl, rfl⟩
  · rename_i hu
    obtain ⟨_, ad, cap, rfl, _⟩ := hx
    exact ⟨_, _, H, fun w => by simp [Builtin.len_, run_underlying hu]; rfl, rfl, rfl⟩
  · rename_i hu
    obtain ⟨_, _, _, rfl⟩ := hx
    exact ⟨_, _, H, fun w => by simp [Builtin.len_, run_underlying hu]; rfl, rfl, rfl⟩
  · rename_i hu
    obtain ⟨⟨_, _, _, _, _, _, _, rfl, _⟩, _⟩ := hx
    exact ⟨_, _, H, fun w => by simp [Builtin.len_, run_underlying hu]; rfl, rfl, rfl⟩
  · rename_i hu
    obtain ⟨rfl, _⟩ := hx
    exact ⟨_, _, H, fun w => by simp [Builtin.len_, run_underlying hu]; rfl, rfl, rfl⟩
  · rename_i hu
    exact ⟨_, _, H, fun w => by simp [Builtin.len_, run_underlying hu]; rfl, rfl, rfl⟩
  · exact H.elim

theorem intOp_ok {K : AV → Prop} {op : BinOp} {k : IntKind} {kn : Bool} {x y : Int} (t : TypeId) (hsh : op ≠ .shl ∧ op ≠ .shr) (H : (intOp op k kn x y).holds K) :
    ∃ av u, K av ∧ (∀ w, (binOp op t (.int k x) (.int k y)).run P w = .ok u w) ∧ Rel E av u := by
  cases op <;> simp only [intOp] at H
  case shl => exact absurd rfl hsh.1
  case shr => exact absurd rfl hsh.2
  case quo =>
    obtain ⟨hc, H⟩ := need_holds H
    have hy : ¬ y = 0 := by simpa using hc
    exact ⟨_, _, H, fun w => by simp [binOp, Op.intDiv, hy], rfl, rfl⟩
  case rem =>
    obtain ⟨hc, H⟩ := need_holds H
    have hy : ¬ y = 0 := by simpa using hc
    exact ⟨_, _, H, fun w => by simp [binOp, Op.intDiv, hy], rfl, rfl⟩
  all_goals first
    | exact H.elim
    | exact ⟨_, _, H, fun w => by simp [binOp, Op.intArith, Op.intBits, Op.intCmp]; rfl, rfl, rfl⟩
    | exact ⟨_, _, H, fun w => by simp [binOp, Op.intArith, Op.intBits, Op.intCmp], rfl, rfl⟩
theorem strOp_ok {K : AV → Prop} {op : BinOp} {kn : Bool} {x y : ByteArray} (t : TypeId) (H : (strOp op kn x y).holds K) :
    ∃ av u, K av ∧ (∀ w, (binOp op t (.string x) (.string y)).run P w = .ok u w) ∧ Rel E av u := by
  cases op <;> simp only [strOp] at H
  case add =>
    obtain ⟨hc, H⟩ := need_holds H
    have hc' : x.size + y.size ≤ maxLen := of_decide_eq_true hc
    refine ⟨_, _, H, fun w => ?_, rfl, rfl⟩
    have h0 : IntKind.i64.max = 9223372036854775807 := by decide
    have : ¬ (((x.size + y.size : Nat) : Int) > IntKind.i64.max) := by
      rw [h0]; unfold maxLen at hc'; omega
    simp only [binOp, Op.stringOp]
    rw [if_neg this]
    rfl
  all_goals first
    | exact H.elim
    | exact ⟨_, _, H, fun w => by simp [binOp, Op.stringOp]; rfl, rfl, rfl⟩
    | exact ⟨_, _, H, fun w => by simp [binOp, Op.stringOp], rfl, rfl⟩

theorem run_guard_sc {op : BinOp} {t : TypeId} {x y : Operand} {p q : Value} (hp : (∀ cs, p ≠ .agg cs) ∧ p ≠ .nilIface) : (eqGuard op t x y p q).run P w = .ok () w := by
  unfold eqGuard
  cases op <;> simp
  all_goals
    cases p <;> first
      | exact absurd rfl (hp.1 _)
      | exact absurd rfl hp.2
      | (cases q <;> simp)
theorem run_equal_bool {t : TypeId} (hu : P.underlying t = some .bool) (x y : Bool) : (Op.equal t (.bool x) (.bool y)).run P w = .ok (x == y) w := by
  unfold Op.equal Op.maxDepth
  rw [Op.equalIn]
  simp [run_underlying hu]
theorem run_equal_nilf {t : TypeId} {p r : Array TypeId} {b : Bool} (hu : P.underlying t = some (.func p r b)) : (Op.equal t .nilFunc .nilFunc).run P w = .ok true w := by
  unfold Op.equal Op.maxDepth
  rw [Op.equalIn]
  simp [run_underlying hu]
theorem run_equal_fn {t : TypeId} {p r : Array TypeId} {b : Bool} (hu : P.underlying t = some (.func p r b)) (f : Fn) (x y : Array Value) : (Op.equal t (.func f x y) .nilFunc).run P w = .ok false w := by
  unfold Op.equal Op.maxDepth
  rw [Op.equalIn]
  simp [run_underlying hu]
theorem run_equal_slice {t e : TypeId} (hu : P.underlying t = some (.slice e)) (ad : Option Addr) (n c : Nat) : (Op.equal t (.slice ad n c) (.slice none 0 0)).run P w = .ok ad.isNone w := by
  unfold Op.equal Op.maxDepth
  rw [Op.equalIn]
  cases ad <;> simp [run_underlying hu]
theorem run_equal_ptr {t e : TypeId} (hu : P.underlying t = some (.pointer e)) (p : Option Addr) : (Op.equal t (.pointer p) (.pointer none)).run P w = .ok p.isNone w := by
  unfold Op.equal Op.maxDepth
  rw [Op.equalIn]
  cases p <;> simp [run_underlying hu]
theorem run_equal_map {t k e : TypeId} (hu : P.underlying t = some (.map k e)) (p : Option Nat) : (Op.equal t (.map p) (.map none)).run P w = .ok p.isNone w := by
  unfold Op.equal Op.maxDepth
  rw [Op.equalIn]
  cases p <;> simp [run_underlying hu]
theorem nilP_ok {x : AV} {v : Value} {b : Bool} (h : nilP x = some b) (hx : Rel E x v) : ∃ p, v = .pointer p ∧ p.isNone = b := by
  unfold nilP at h
  split at h
  · cases h; obtain ⟨rfl, _⟩ := hx; exact ⟨none, rfl, rfl⟩
  · cases h; obtain ⟨_, rfl⟩ := hx; exact ⟨_, rfl, rfl⟩
  · cases h; obtain ⟨_, _, rfl, _⟩ := hx; exact ⟨_, rfl, rfl⟩
  · cases h; obtain ⟨_, _, _, _, _, rfl, _⟩ := hx; exact ⟨_, rfl, rfl⟩
  · cases h; obtain ⟨_, rfl⟩ := hx; exact ⟨_, rfl, rfl⟩
  · cases h
theorem nilM_ok {x : AV} {v : Value} {b : Bool} (h : nilM x = some b) (hx : Rel E x v) : ∃ p, v = .map p ∧ p.isNone = b := by
  unfold nilM at h
  split at h
  · cases h; obtain ⟨rfl, _⟩ := hx; exact ⟨none, rfl, rfl⟩
  · cases h; obtain ⟨_, rfl⟩ := hx; exact ⟨_, rfl, rfl⟩
  · cases h
theorem nilV_ok {x : AV} {v : Value} {b : Bool} (h : nilV x = some b) (hx : Rel E x v) : ∃ ad n c, v = .slice ad n c ∧ ad.isNone = b := by
  unfold nilV at h
  split at h
  · cases h; obtain ⟨_, _, _, rfl⟩ := hx; exact ⟨_, _, _, rfl, rfl⟩
  · cases h
    obtain ⟨⟨_, _, _, _, _, _, _, rfl, _⟩, _⟩ := hx
    exact ⟨_, _, _, rfl, rfl⟩
  · cases h
    obtain ⟨_, ad, cap, rfl, _, _, _, h5⟩ := hx
    obtain rfl := h5 (Nat.succ_ne_zero _)
    exact ⟨_, _, _, rfl, rfl⟩
  · cases h
theorem nilB_ok {t : TypeId} {x y : AV} {vx vy : Value} {b : Bool} (h : nilB P t x y = some b) (hx : Rel E x vx) (hy : Rel E y vy) : ((∀ cs, vx ≠ .agg cs) ∧ vx ≠ .nilIface) ∧ (∀ w, (binOp .eql t vx vy).run P w = .ok (.bool b) w) ∧ ∀ w, (binOp .neq t vx vy).run P w = .ok (.bool (!b)) w := by
  unfold nilB at h
  split at h
  · rename_i hu
    obtain ⟨p, rfl, rfl⟩ := nilP_ok h hx
    obtain ⟨rfl, _⟩ := hy
    exact ⟨by simp, fun w => by simp [binOp, run_equal_ptr hu], fun w => by simp [binOp, run_equal_ptr hu]⟩
  · rename_i hu
    obtain ⟨p, rfl, rfl⟩ := nilM_ok h hx
    obtain ⟨rfl, _⟩ := hy
    exact ⟨by simp, fun w => by simp [binOp, run_equal_map hu], fun w => by simp [binOp, run_equal_map hu]⟩
  · rename_i hu
    obtain ⟨ad, n, c, rfl, rfl⟩ := nilV_ok h hx
    obtain ⟨rfl, _⟩ := hy
    exact ⟨by simp, fun w => by simp [binOp, run_equal_slice hu], fun w => by simp [binOp, run_equal_slice hu]⟩
  · cases h
/-! What is the same. -/
theorem isAgg_row {t : TypeId} {td : TypeDesc} (hu : P.underlying t = some td) (W : World) : (isAgg t).run P W = .ok td.isRow W := by
  unfold isAgg
  simp only [Sem.run_bind, run_underlying hu, Result.andThen_ok]
  cases td <;> rfl
theorem partA_ok {t : TypeId} {cs : List AV} {off : Nat} {av : AV} {vs : Array Value} (H : partA P t cs off = some av) (hr : RelL E cs vs.toList) (h1 : ∀ u ∈ vs.toList, u.oneCell' = true) : ∃ v, Rel E av v ∧ ∀ w, (part t vs off).run P w = .ok v w := by
  unfold partA at H
  split at H
  · rename_i td n hu hn
    cases hrow : td.isRow
    · rw [hrow] at H
      obtain ⟨v, hv, hrel⟩ := hr.get H
      refine ⟨v, hrel, fun w => ?_⟩
      have hv' : vs[off]? = some v := by simpa using hv
      simp [part, isAgg_row hu, hrow, hv']
    · rw [hrow] at H
      cases H
      refine ⟨.agg (vs.extract off (off + n)), ⟨_, rfl, ?_, fun u hu' => ?_⟩, fun w => ?_⟩
      · have : (vs.extract off (off + n)).toList = (vs.toList.drop off).take n := by simp [List.take_drop]
        rw [this]; exact (hr.drop off).take n
      · have : (vs.extract off (off + n)).toList = (vs.toList.drop off).take n := by simp [List.take_drop]
        rw [this] at hu'
        exact h1 u (List.mem_of_mem_drop (List.mem_of_mem_take hu'))
      · simp [part, isAgg_row hu, hrow, run_sizeOf hn]
  · cases H
theorem bothB_snd (a b : Bool × Bool) : (bothB a b).2 = (a.2 && b.2) := by
  obtain ⟨a1, a2⟩ := a
  cases a1 <;> cases a2 <;> simp [bothB]
def EqAt (P : Program) (E : Env) (D : Nat) (eq : TypeId → AV → AV → Option (Bool × Bool)) : Prop := ∀ t x y r v u, eq t x y = some r → Rel E x v → Rel E y u → ∀ w, (Op.equalIn D t v u).run P w = .ok r.2 w
theorem eqFs_ok {D : Nat} {eq : TypeId → AV → AV → Option (Bool × Bool)} (he : EqAt P E D eq) {xs ys : List AV} {vs us : Array Value} (hx : RelL E xs vs.toList) (hy : RelL E ys us.toList) (hx1 : ∀ u ∈ vs.toList, u.oneCell' = true) (hy1 : ∀ u ∈ us.toList, u.oneCell' = true) (w : World) :
    ∀ (fs : List Field) (r : Bool × Bool), eqFs P eq xs ys fs = some r → (Op.eqFields D vs us fs).run P w = .ok r.2 w
  | [], r, H => by cases H; simp [Op.eqFields]
  | f :: fs, r, H => by
    simp only [eqFs] at H
    cases hn : decide (f.name = "_")
    · rw [hn] at H
      simp only [cond_false] at H
      split at H
      · rename_i a b ha hb
        split at H
        · rename_i p q hp hq
          cases H
          obtain ⟨v, hv, hvr⟩ := partA_ok ha hx hx1
          obtain ⟨u, hu, hur⟩ := partA_ok hb hy hy1
          have h1 := he f.type a b p v u hp hv hu w
          have h2 := eqFs_ok he hx hy hx1 hy1 w fs q hq
          rw [Op.eqFields, if_pos (of_decide_eq_false hn)]
          simp only [Sem.run_bind, hvr, hur, h1, Result.andThen_ok, bothB_snd]
          cases p.2 <;> simp [h2]
        · cases H
      · cases H
    · rw [hn] at H; cases H
theorem eqIs_ok {D : Nat} {e : TypeId} {eq : AV → AV → Option (Bool × Bool)} (he : ∀ x y r v u, eq x y = some r → Rel E x v → Rel E y u → ∀ w, (Op.equalIn D e v u).run P w = .ok r.2 w) {c : Nat} {xs ys : List AV} {vs us : Array Value} (hx : RelL E xs vs.toList) (hy : RelL E ys us.toList) (hx1 : ∀ u ∈ vs.toList, u.oneCell' = true) (hy1 : ∀ u ∈ us.toList, u.oneCell' = true) (w : World) :
    ∀ (is : List Nat) (r : Bool × Bool), eqIs P eq e c xs ys is = some r → (Op.eqItems D e c vs us is).run P w = .ok r.2 w
  | [], r, H => by cases H; simp [Op.eqItems]
  | i :: is, r, H => by
    simp only [eqIs] at H
    split at H
    · rename_i a b ha hb
      split at H
      · rename_i p q hp hq
        cases H
        obtain ⟨v, hv, hvr⟩ := partA_ok ha hx hx1
        obtain ⟨u, hu, hur⟩ := partA_ok hb hy hy1
        have h1 := he a b p v u hp hv hu w
        have h2 := eqIs_ok he hx hy hx1 hy1 w is q hq
        rw [Op.eqItems]
        simp only [Sem.run_bind, hvr, hur, h1, Result.andThen_ok, bothB_snd]
        cases p.2 <;> simp [h2]
      · cases H
    · cases H
theorem eqAV_ok : ∀ (n D : Nat), n ≤ D → EqAt P E D (eqAV P n)
  | 0, _, _ => fun t x y r v u H _ _ => by cases H
  | n + 1, 0, h => by omega
  | n + 1, D + 1, h => fun t x y r v u H hx hy w => by
    have ih := eqAV_ok n D (by omega)
    simp only [eqAV] at H
    split at H
    · rename_i kk k1 k a k2 k' b hu
      cases hk : decide (k = k')
      · rw [hk] at H; cases H
      · rw [hk] at H
        obtain rfl := of_decide_eq_true hk
        obtain rfl := rel_int hx
        obtain rfl := rel_int hy
        cases H
        exact run_equalIn_int w D t k kk a b hu
    · rename_i hu
      obtain ⟨rfl, _⟩ := hx
      obtain ⟨rfl, _⟩ := hy
      cases H
      exact run_equalIn_string w D t _ _ hu
    · rename_i hu
      obtain ⟨rfl, _⟩ := hx
      obtain ⟨rfl, _⟩ := hy
      cases H
      exact run_equalIn_bool' w D t _ _ hu
    · rename_i fs xs ys hu
      obtain ⟨vs, rfl, hx, hx1⟩ := hx
      obtain ⟨us, rfl, hy, hy1⟩ := hy
      cases hs : P.stoodInHeld t
      · rw [hs] at H
        have hf : P.fieldsOf t = fs := by unfold Program.fieldsOf; rw [hu]
        rw [run_equalIn_struct w D t vs us (by rw [hf]; exact hu) hs, hf]
        exact eqFs_ok ih hx hy hx1 hy1 w _ _ H
      · rw [hs] at H; cases H
    · rename_i m e xs ys hu
      obtain ⟨vs, rfl, hx, hx1⟩ := hx
      obtain ⟨us, rfl, hy, hy1⟩ := hy
      split at H
      · rename_i c hc
        obtain ⟨i, hi, hi2⟩ := sizeT_info hc
        have hco : P.cellsOf e = c := by unfold Program.cellsOf; rw [hi]; exact hi2
        rw [run_equalIn_array w D vs us hu hi, hco]
        exact eqIs_ok (fun x y r v u h => ih e x y r v u h) hx hy hx1 hy1 w _ _ H
      · cases H
    · cases H
theorem indexA_ok {K : AV → Prop} {t : TypeId} {x i : AV} {v iv : Value} (H : (indexA P t x i).holds K) (hx : Rel E x v) (hi : Rel E i iv) : ∃ av u, K av ∧ (∀ w, (Instr.index t v iv).run P w = .ok u w) ∧ Rel E av u := by
  unfold indexA at H
  split at H
  · rename_i m e cs kk n hu
    obtain ⟨vs, rfl, hx, hx1⟩ := hx
    obtain rfl := rel_int hi
    split at H
    · rename_i k hk
      cases hd : decide (0 ≤ n ∧ n < (m : Int))
      · rw [hd] at H; exact H.elim
      · rw [hd] at H
        simp only [cond_true] at H
        split at H
        · rename_i av hp
          obtain ⟨u, g1, g2⟩ := partA_ok hp hx hx1
          refine ⟨av, u, H, fun w => ?_, g1⟩
          simp only [Instr.index, asIntOf, Sem.run_bind, Sem.run_pure, Result.andThen_ok, run_underlying hu]
          rw [if_pos (of_decide_eq_true hd)]
          simp only [Sem.run_bind, run_sizeOf hk, Result.andThen_ok, g2]
        · exact H.elim
    · exact H.elim
  · rename_i k1 s k2 kk n hu
    obtain ⟨rfl, _⟩ := hx
    obtain rfl := rel_int hi
    obtain ⟨hc, H⟩ := need_holds H
    obtain ⟨h0, h1⟩ := of_decide_eq_true hc
    refine ⟨_, _, H, fun w => ?_, rfl, rfl⟩
    have hl : n.toNat < s.size := by omega
    have hg : s[n.toNat]? = some (s.data.getD n.toNat 0) := by
      rw [getElem?_pos s n.toNat hl]
      have hl' : n.toNat < s.data.size := hl
      unfold Array.getD
      rw [dif_pos hl']; rfl
    simp only [Instr.index, asIntOf, Sem.run_bind, Sem.run_pure, Result.andThen_ok, run_underlying hu]
    rw [if_pos h0, hg]
    rfl
  · exact H.elim
theorem fieldA_ok {K : AV → Prop} {t : TypeId} {x : AV} {f : Nat} {v : Value} (H : (fieldA P t x f).holds K) (hx : Rel E x v) : ∃ av u, K av ∧ (∀ w, (Instr.field t v f).run P w = .ok u w) ∧ Rel E av u := by
  unfold fieldA at H
  split at H
  · rename_i fs cs hu
    obtain ⟨vs, rfl, hx, hx1⟩ := hx
    split at H
    · rename_i fd hf
      split at H
      · rename_i av hp
        obtain ⟨u, g1, g2⟩ := partA_ok hp hx hx1
        refine ⟨av, u, H, fun w => ?_, g1⟩
        simp [Instr.field, run_underlying hu, hf, asAgg, g2]
      · exact H.elim
    · exact H.elim
  · exact H.elim
theorem binA_ok {K : AV → Prop} {op : BinOp} {t : TypeId} {x y : AV} {v u : Value} {ox oy : Operand} (H : (binA P op t x y).holds K) (hx : Rel E x v) (hy : Rel E y u) :
    ∃ av r, K av ∧ (∀ w, (do eqGuard op t ox oy v u; binOp op t v u : Sem Value).run P w = .ok r w) ∧ Rel E av r := by
  have fin : (∀ cs, v ≠ .agg cs) ∧ v ≠ .nilIface → (∃ av r, K av ∧ (∀ w, (binOp op t v u).run P w = .ok r w) ∧ Rel E av r) → ∃ av r, K av ∧ (∀ w, (do eqGuard op t ox oy v u; binOp op t v u : Sem Value).run P w = .ok r w) ∧ Rel E av r := by
    rintro hp ⟨av, r, h1, h2, h3⟩
    exact ⟨av, r, h1, fun w => by simp only [Sem.run_bind, run_guard_sc hp, Result.andThen_ok, h2], h3⟩
  unfold binA at H
  split at H
  · obtain rfl := rel_int hx
    obtain rfl := rel_int hy
    refine fin (by simp) ?_
    split at H
    · obtain ⟨hc, H⟩ := need_holds H
      have hc' := of_decide_eq_true hc
      refine ⟨_, _, H, fun w => ?_, rfl, rfl⟩
      simp only [binOp, Op.shift]
      rw [if_neg (by omega)]
      rfl
    · obtain ⟨hc, H⟩ := need_holds H
      have hc' := of_decide_eq_true hc
      refine ⟨_, _, H, fun w => ?_, rfl, rfl⟩
      simp only [binOp, Op.shift]
      rw [if_neg (by omega)]
      rfl
    · rename_i _ k p _ k' q _ h1 h2
      cases hk : decide (k = k')
      · rw [hk] at H; exact H.elim
      · rw [hk] at H
        obtain rfl := of_decide_eq_true hk
        exact intOp_ok t ⟨fun e => h1 e, fun e => h2 e⟩ H
  · obtain ⟨rfl, _⟩ := hx
    obtain ⟨rfl, _⟩ := hy
    exact fin (by simp) (strOp_ok t H)
  · obtain ⟨rfl, _⟩ := hx
    obtain ⟨rfl, _⟩ := hy
    refine fin (by simp) ?_
    split at H
    · rename_i hu
      split at H
      · exact ⟨_, _, H, fun w => by simp [binOp, run_equal_bool hu], rfl, rfl⟩
      · exact ⟨_, _, H, fun w => by simp [binOp, run_equal_bool hu], rfl, rfl⟩
      · exact H.elim
    · exact H.elim
  · obtain ⟨rfl, _⟩ := hx
    obtain ⟨rfl, _⟩ := hy
    refine fin (by simp) ?_
    split at H
    · rename_i hu
      exact ⟨_, _, H, fun w => by simp [binOp, run_equal_nilf hu], rfl, rfl⟩
    · rename_i hu
      exact ⟨_, _, H, fun w => by simp [binOp, run_equal_nilf hu], rfl, rfl⟩
    · exact H.elim
  · rename_i kn es d tip _
    obtain ⟨⟨_, ad, cap, rfl, g1, g2, g3, g4⟩, _⟩ := hx
    obtain ⟨rfl, _⟩ := hy
    refine fin (by simp) ?_
    have hnn : d.len ≠ 0 → ad.isNone = false := fun h0 => by
      obtain ⟨b, o, rfl, _⟩ := g4 h0
      rfl
    split at H
    · rename_i hu
      rcases brk_holds H with ⟨_, H⟩ | ⟨h0, H⟩
      · cases hb : ad.isNone
        · exact ⟨_, .bool false, H.2, fun w => by simp [binOp, run_equal_slice hu, hb], rfl, rfl⟩
        · exact ⟨_, .bool true, H.1, fun w => by simp [binOp, run_equal_slice hu, hb], rfl, rfl⟩
      · have hb := hnn (of_decide_eq_false h0)
        exact ⟨_, .bool false, H, fun w => by simp [binOp, run_equal_slice hu, hb], rfl, rfl⟩
    · rename_i hu
      rcases brk_holds H with ⟨_, H⟩ | ⟨h0, H⟩
      · cases hb : ad.isNone
        · exact ⟨_, .bool true, H.2, fun w => by simp [binOp, run_equal_slice hu, hb], rfl, rfl⟩
        · exact ⟨_, .bool false, H.1, fun w => by simp [binOp, run_equal_slice hu, hb], rfl, rfl⟩
      · have hb := hnn (of_decide_eq_false h0)
        exact ⟨_, .bool true, H, fun w => by simp [binOp, run_equal_slice hu, hb], rfl, rfl⟩
    · exact H.elim
  · obtain ⟨rfl, _⟩ := hx
    obtain ⟨rfl, _⟩ := hy
    refine fin (by simp) ?_
    split at H
    · rename_i hu
      exact ⟨_, _, H, fun w => by simp [binOp, run_equal_slice hu], rfl, rfl⟩
    · rename_i hu
      exact ⟨_, _, H, fun w => by simp [binOp, run_equal_slice hu], rfl, rfl⟩
    · exact H.elim
  · obtain ⟨vs, rfl, hx2, hx1⟩ := hx
    obtain ⟨us, rfl, hy2, hy1⟩ := hy
    cases hg : P.eqGuardType P.depth t
    · rw [hg] at H
      simp only [cond_false] at H
      split at H
      · rename_i kn r hr
        have := fun w => eqAV_ok (P := P) (E := E) 16 10000 (by omega) t _ _ _ _ _ hr ⟨vs, rfl, hx2, hx1⟩ ⟨us, rfl, hy2, hy1⟩ w
        refine ⟨_, .bool r, H, fun w => ?_, rfl, rfl⟩
        simp only [Sem.run_bind, run_eqGuard_agg w _ t _ _ vs us hg, Result.andThen_ok, binOp, Op.equal, Op.maxDepth, this, Sem.run_pure]
      · rename_i kn r hr
        have := fun w => eqAV_ok (P := P) (E := E) 16 10000 (by omega) t _ _ _ _ _ hr ⟨vs, rfl, hx2, hx1⟩ ⟨us, rfl, hy2, hy1⟩ w
        refine ⟨_, .bool (!r), H, fun w => ?_, rfl, rfl⟩
        simp only [Sem.run_bind, run_eqGuard_agg w _ t _ _ vs us hg, Result.andThen_ok, binOp, Op.equal, Op.maxDepth, this, Sem.run_pure]
      · exact H.elim
    · rw [hg] at H; exact H.elim
  · obtain ⟨_, _, rfl, _⟩ := hx
    obtain ⟨rfl, _⟩ := hy
    refine fin (by simp) ?_
    split at H
    · rename_i hu
      exact ⟨_, _, H, fun w => by simp [binOp, run_equal_fn hu], rfl, rfl⟩
    · rename_i hu
      exact ⟨_, _, H, fun w => by simp [binOp, run_equal_fn hu], rfl, rfl⟩
    · exact H.elim
  · obtain ⟨b, hb⟩ : ∃ b, nilB P t x y = some b := by
      cases hn : nilB P t x y with
      | none => rw [hn] at H; exact H.elim
      | some b => exact ⟨b, rfl⟩
    rw [hb] at H
    obtain ⟨hna, hq, hq'⟩ := nilB_ok hb hx hy
    refine fin hna ?_
    cases op <;> first
      | exact H.elim
      | exact ⟨_, .bool b, H, hq, rfl, rfl⟩
      | exact ⟨_, .bool (!b), H, hq', rfl, rfl⟩
theorem unA_ok {K : AV → Prop} {op : UnOp} {x : AV} {v : Value} (H : (unA op x).holds K) (hx : Rel E x v) : ∃ av r, K av ∧ (∀ w, (Op.unary op v).run P w = .ok r w) ∧ Rel E av r := by
  unfold unA at H
  split at H
  · obtain ⟨rfl, _⟩ := hx
    exact ⟨_, _, H, fun w => by simp [Op.unary], rfl, rfl⟩
  · obtain ⟨rfl, _⟩ := hx
    exact ⟨_, _, H, fun w => by simp [Op.unary, Op.intArith], rfl, rfl⟩
  · obtain ⟨rfl, _⟩ := hx
    exact ⟨_, _, H, fun w => by rw [unary_xor]; simp [Op.intBits, cond_eq_ite], rfl, rfl⟩
  · exact H.elim
theorem minA_ok {K : AV → Prop} {l : List Operand} {ts : Array TypeId} {ty : TypeId} (hT : RelT E F a) (H : (minA (l.map (opnd F))).holds K) : ∃ av r, K av ∧ (∀ w, (Builtin.min_ ts ty (l.map a.eval).toArray).run P w = .ok r w) ∧ Rel E av r := by
  unfold minA at H
  split at H
  · rename_i k1 k p k2 k' q hl
    match l, hl with
    | [x, y], hl =>
      simp only [List.map_cons, List.map_nil, List.cons.injEq, and_true] at hl
      have h1 := rel_opnd hT x
      have h2 := rel_opnd hT y
      rw [hl.1] at h1
      rw [hl.2] at h2
      exact ⟨_, _, H, fun w => by simp [Builtin.min_, h1.1, h2.1, List.foldlM, Builtin.min2, imin], rfl, rfl⟩
    | [], hl => simp at hl
    | [_], hl => simp at hl
    | _ :: _ :: _ :: _, hl => simp at hl
  · exact H.elim
theorem maxA_ok {K : AV → Prop} {l : List Operand} {ts : Array TypeId} {ty : TypeId} (hT : RelT E F a) (H : (maxA (l.map (opnd F))).holds K) : ∃ av r, K av ∧ (∀ w, (Builtin.max_ ts ty (l.map a.eval).toArray).run P w = .ok r w) ∧ Rel E av r := by
  unfold maxA at H
  split at H
  · rename_i k1 k p k2 k' q hl
    match l, hl with
    | [x, y], hl =>
      simp only [List.map_cons, List.map_nil, List.cons.injEq, and_true] at hl
      have h1 := rel_opnd hT x
      have h2 := rel_opnd hT y
      rw [hl.1] at h1
      rw [hl.2] at h2
      exact ⟨_, _, H, fun w => by simp [Builtin.max_, h1.1, h2.1, List.foldlM, Builtin.max2, imax], rfl, rfl⟩
    | [], hl => simp at hl
    | [_], hl => simp at hl
    | _ :: _ :: _ :: _, hl => simp at hl
  · exact H.elim

/-! Structs that are put together. -/
theorem foldl_sets : ∀ (new : List Value) (cells : Array Value) (off j : Nat), off + j + new.length ≤ cells.size →
    ((new.zipIdx j).foldl (fun cs (p : Value × Nat) => cs.setIfInBounds (off + p.2) p.1) cells).toList = cells.toList.take (off + j) ++ new ++ cells.toList.drop (off + j + new.length)
  | [], cells, off, j, _ => by simp
  | v :: new, cells, off, j, h => by
    simp only [List.length_cons] at h
    rw [List.zipIdx_cons, List.foldl_cons, foldl_sets new _ off (j + 1) (by simp; omega)]
    simp only [Array.toList_setIfInBounds]
    rw [show off + (j + 1) = off + j + 1 by omega, List.take_add_one, List.take_set_of_le (by omega), List.getElem?_set_self (by simp; omega), List.drop_set_of_lt (by omega)]
    simp only [List.length_cons, Option.toList_some, List.append_assoc, List.cons_append, List.nil_append]
    rw [show off + j + 1 + new.length = off + j + (new.length + 1) by omega]
theorem fill_step {cells new : Array Value} {off : Nat} (h : off + new.size ≤ cells.size) :
    (new.zipIdx.foldl (fun cs (p : Value × Nat) => cs.setIfInBounds (off + p.2) p.1) cells).toList = cells.toList.take off ++ new.toList ++ cells.toList.drop (off + new.size) := by
  rw [← Array.foldl_toList, Array.toList_zipIdx]
  have := foldl_sets new.toList cells off 0 (by simpa using h)
  simpa using this
theorem fillA_ok {place : Nat → Option (Nat × Nat)} : ∀ {parts : List (Nat × AV)} {vs : List (Nat × Value)} {cs out : List AV} {cells : Array Value},
    fillA place cs parts = some out → RelL E cs cells.toList → (∀ u ∈ cells.toList, u.oneCell' = true) → parts.length = vs.length → (∀ (i : Nat) (p : Nat × AV) (q : Nat × Value), parts[i]? = some p → vs[i]? = some q → p.1 = q.1 ∧ Rel E p.2 q.2) →
    ∃ r, Instr.fill place cells vs = some r ∧ RelL E out r.toList ∧ (∀ u ∈ r.toList, u.oneCell' = true) ∧ r.size = cells.size
  | [], vs, cs, out, cells, hf, hr, h1, hl, _ => by
    simp only [fillA] at hf
    cases hf
    obtain rfl : vs = [] := by simpa using hl.symm
    exact ⟨cells, rfl, hr, h1, rfl⟩
  | (i, x) :: parts, [], _, _, _, _, _, _, hl, _ => by simp at hl
  | (i, x) :: parts, (i', v) :: vs, cs, out, cells, hf, hr, h1, hl, hp => by
    obtain ⟨rfl, hx⟩ : i = i' ∧ Rel E x v := hp 0 _ _ rfl rfl
    simp only [fillA] at hf
    split at hf
    · rename_i off n new hpl hc
      cases hb : Nat.beq new.length n && Nat.ble (off + n) cs.length
      · rw [hb] at hf; cases hf
      · rw [hb] at hf
        simp only [Bool.and_eq_true, cond_true] at hb hf
        obtain rfl := Nat.eq_of_beq_eq_true hb.1
        have hle := Nat.le_of_ble_eq_true hb.2
        obtain ⟨g1, g2⟩ := rel_cells hx hc
        have l1 : new.length = v.cells.size := by have := g1.length; simpa using this
        have l2 : cs.length = cells.size := by have := hr.length; simpa using this
        have hfit : off + v.cells.size ≤ cells.size := by omega
        have hstep := fill_step (cells := cells) (new := v.cells) hfit
        obtain ⟨r, e1, e2, e3, e4⟩ := fillA_ok (parts := parts) (vs := vs) (cells := v.cells.zipIdx.foldl (fun cs (p : Value × Nat) => cs.setIfInBounds (off + p.2) p.1) cells) hf
          (by rw [hstep]; have := ((hr.take off).append g1).append (hr.drop (off + new.length)); rw [l1] at this ⊢; exact this)
          (by
            rw [hstep]
            intro u hu
            simp only [List.mem_append] at hu
            rcases hu with (hu | hu) | hu
            · exact h1 u (List.mem_of_mem_take hu)
            · exact g2 u hu
            · exact h1 u (List.mem_of_mem_drop hu))
          (by simpa using hl) (fun j p q hj hq => hp (j + 1) p q (by simpa using hj) (by simpa using hq))
        have hsz : (v.cells.zipIdx.foldl (fun cs (p : Value × Nat) => cs.setIfInBounds (off + p.2) p.1) cells).size = cells.size := by
          rw [← Array.length_toList, hstep]
          simp only [List.length_append, List.length_take, List.length_drop, Array.length_toList]; omega
        refine ⟨r, ?_, e2, e3, e4.trans hsz⟩
        unfold Instr.fill
        simp only [hpl]
        rw [if_neg (by simp [l1]; omega)]
        exact e1
    · cases hf
theorem rel_parts {ps : List (Nat × Operand)} (hT : RelT E F a) (i : Nat) (p : Nat × AV) (q : Nat × Value) (h1 : (ps.map fun p => (p.1, opnd F p.2))[i]? = some p) (h2 : (ps.map fun p => (p.1, a.eval p.2))[i]? = some q) : p.1 = q.1 ∧ Rel E p.2 q.2 := by
  rw [List.getElem?_map] at h1 h2
  cases hp : ps[i]? with
  | none => rw [hp] at h1; cases h1
  | some x => rw [hp] at h1 h2; cases h1; cases h2; exact ⟨rfl, rel_opnd hT _⟩
theorem zeroA_ok {t : TypeId} {cs : List AV} (hz : zeroA P t = some cs) : ∃ z, (∀ w, (zeroValue t).run P w = .ok z w) ∧ (∃ i, P.info? t = some i ∧ i.zero = some z) ∧ RelL E cs z.cells.toList ∧ ∀ u ∈ z.cells.toList, u.oneCell' = true := by
  unfold zeroA at hz
  split at hz
  · rename_i z hz'
    cases hi : P.info? t with
    | none => rw [hi] at hz'; cases hz'
    | some i =>
      rw [hi] at hz'
      have hz'' : i.zero = some z := hz'
      obtain ⟨g1, g2⟩ := rel_cells (E := E) (rel_const z) hz
      exact ⟨z, fun w => by simp [zeroValue, typeInfo, hi, hz''], ⟨i, rfl, hz''⟩, g1, g2⟩
  · cases hz
theorem run_places : ∀ {fs : List Field}, (∀ f ∈ fs, ∃ n, sizeT P f.type = some n) → (fs.mapM (m := Sem) fun f => do pure (f.offset, ← sizeOf f.type)).run P w = .ok (fs.map fun f => (f.offset, (sizeT P f.type).getD 0)) w
  | [], _ => rfl
  | f :: fs, h => by
    obtain ⟨n, hn⟩ := h f (by simp)
    have ih := run_places (fs := fs) fun f hf => h f (List.mem_cons_of_mem _ hf)
    simp only [List.mapM_cons, Sem.run_bind, run_sizeOf hn, Result.andThen_ok, Sem.run_pure, List.map_cons, hn, Option.getD_some]
    rw [ih]
    rfl
theorem fill_congr {p q : Nat → Option (Nat × Nat)} : ∀ {vs : List (Nat × Value)} {cells : Array Value}, (∀ v ∈ vs, p v.1 = q v.1) → Instr.fill p cells vs = Instr.fill q cells vs
  | [], _, _ => rfl
  | (i, v) :: vs, cells, h => by
    have h0 := h (i, v) (by simp)
    simp only at h0
    unfold Instr.fill
    rw [h0]
    split
    · rfl
    · split
      · rfl
      · exact fill_congr fun v hv => h v (by simp [hv])
theorem fillA_places {place : Nat → Option (Nat × Nat)} : ∀ {parts : List (Nat × AV)} {cs out : List AV}, fillA place cs parts = some out → ∀ p ∈ parts, (place p.1).isSome = true
  | [], _, _, _, _, hp => by simp at hp
  | (i, x) :: parts, cs, out, hf, p, hp => by
    simp only [fillA] at hf
    split at hf
    · rename_i off n new hpl hc
      cases hb : Nat.beq new.length n && Nat.ble (off + n) cs.length
      · rw [hb] at hf; cases hf
      · rw [hb] at hf
        rcases List.mem_cons.1 hp with rfl | hp
        · simp [hpl]
        · exact fillA_places hf p hp
    · cases hf
def allSized (P : Program) (fs : Array Field) : Bool := fs.toList.all fun f => (sizeT P f.type).isSome
theorem buildA_ok {K : AV → Prop} {t : TypeId} {ps : Array (Nat × Operand)} {vps : Array (Nat × Value)} (hps : vps.toList = ps.toList.map fun p => (p.1, a.eval p.2)) (hT : RelT E F a) (H : (buildA P t (ps.toList.map fun p => (p.1, opnd F p.2))).holds K) :
    ∃ av u, K av ∧ (∀ w, (Instr.build t vps).run P w = .ok u w) ∧ Rel E av u := by
  unfold buildA at H
  split at H
  · exact H.elim
  rename_i z hz
  obtain ⟨zv, hzr, _, g1, g2⟩ := zeroA_ok (E := E) hz
  split at H
  · rename_i fs hu
    cases hall : fs.toList.all (fun f => (sizeT P f.type).isSome)
    · rw [hall] at H; exact H.elim
    rw [hall] at H
    simp only [cond_true] at H
    have hall' : ∀ f ∈ fs.toList, ∃ n, sizeT P f.type = some n := fun f hf => Option.isSome_iff_exists.1 (List.all_eq_true.1 hall f hf)
    split at H
    · rename_i cs hf
      obtain ⟨r, e1, e2, e3, _⟩ := fillA_ok (vs := ps.toList.map fun p => (p.1, a.eval p.2)) hf g1 g2 (by simp) (fun i p q => rel_parts hT i p q)
      refine ⟨_, .agg r, H, fun w => ?_, r, rfl, e2, e3⟩
      have hpl := run_places (P := P) (w := w) hall'
      have hm : (fs.mapM (m := Sem) fun f => do pure (f.offset, ← sizeOf f.type)).run P w = .ok (fs.map fun f => (f.offset, (sizeT P f.type).getD 0)) w := by
        rw [Array.mapM_eq_mapM_toList]
        show (List.mapM (m := Sem) (fun f : Field => do pure (f.offset, ← sizeOf f.type)) fs.toList >>= fun l => pure l.toArray : Sem _).run P w = _
        rw [Sem.run_bind, hpl]
        simp only [Result.andThen_ok, Sem.run_pure]
        congr 1
        apply Array.ext'
        simp
      have hfe : Instr.fill ((fs.map fun f => (f.offset, (sizeT P f.type).getD 0))[·]?) zv.cells vps.toList = some r := by
        rw [hps, ← e1]
        refine fill_congr fun v hv => ?_
        obtain ⟨q, hq, rfl⟩ := List.mem_map.1 hv
        have hs := fillA_places hf (q.1, opnd F q.2) (List.mem_map.2 ⟨q, hq, rfl⟩)
        unfold fieldsA at hs ⊢
        simp only [Array.getElem?_map]
        cases hfi : fs[q.1]? with
        | none => rw [hfi] at hs; cases hs
        | some f =>
          obtain ⟨n, hn⟩ := hall' f (by simpa using Array.mem_of_getElem? hfi)
          simp [hn]
      simp only [Instr.build, Sem.run_bind, hzr, Result.andThen_ok, run_underlying hu, hm, hfe, Sem.run_pure]
    · exact H.elim
  · rename_i m e hu
    split at H
    · rename_i n hn
      split at H
      · rename_i cs hf
        obtain ⟨r, e1, e2, e3, _⟩ := fillA_ok (vs := ps.toList.map fun p => (p.1, a.eval p.2)) hf g1 g2 (by simp) (fun i p q => rel_parts hT i p q)
        refine ⟨_, .agg r, H, fun w => ?_, r, rfl, e2, e3⟩
        rw [← hps] at e1
        simp only [Instr.build, Sem.run_bind, hzr, Result.andThen_ok, run_underlying hu, run_sizeOf hn, e1, Sem.run_pure]
      · exact H.elim
    · exact H.elim
  · exact H.elim
end
end
end Go.Proofs.YtomblhnchdokmaaGreatDoor
