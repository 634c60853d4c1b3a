/- Ev1: an evaluator of functions over plain data: data, values, states, trees of answers. No condition. -/
import Derived.Test.YtokiedeiamlnlaaGreatArm
import Derived.Test.YtokiedeiamlnlaaGreatLay
namespace Go.Proofs.YtokiedeiamlnlaaGreat
set_option linter.unusedSimpArgs false
set_option linter.unusedVariables false
open Go.RowKit
set_option maxRecDepth 10000
noncomputable section

/-- plain data: what lies in a slice's elements -/
inductive D where
  | n | i (v : Int) | b (v : Bool) | s (v : ByteArray) | l (v : List D) | t (v : List D)
  | ki (v : Int) | kb (v : Bool) | ks (v : ByteArray) | kl (v : List D)
namespace D
def toI : D → Int | .i v => v | .ki v => v | _ => 0
def toB : D → Bool | .b v => v | .kb v => v | _ => false
def toS : D → ByteArray | .s v => v | .ks v => v | _ => .empty
def raw : D → List D | .l v => v | .kl v => v | _ => []
/-- what was told as known ahead (a hint alone) -/
def isK : D → Bool | .ki _ => true | .kb _ => true | .ks _ => true | .kl _ => true | _ => false
def mkK (kn : Bool) (d : D) : D := bif kn then .kl d.raw else d
def toL (d : D) : List D := d.raw.take maxLen
def len (d : D) : Nat := d.toL.length
def get (d : D) (i : Nat) : D := d.toL.getD i .n
def cell (d : D) (j : Nat) : D := match d with | .t cs => cs.getD j .n | e => match j with | 0 => e | _ => .n
def app (a b : D) : D := .l (a.toL ++ b.toL)
def sub (a : D) (lo hi : Nat) : D := .l ((a.toL.take hi).drop lo)
def ofS (s : ByteArray) : D := .l (s.toList.map fun c => .i c.toNat)
def setE (d : D) (i : Nat) (e : D) : D := .l (d.toL.set i e)
def str (d : D) : ByteArray := ⟨(d.toL.map fun e => UInt8.ofNat (e.cell 0).toI.toNat).toArray⟩
theorem mkK_raw (kn : Bool) (d : D) : (mkK kn d).raw = d.raw := by cases kn <;> rfl
theorem mkK_len (kn : Bool) (d : D) : (mkK kn d).len = d.len := by unfold len toL; rw [mkK_raw]
theorem mkK_get (kn : Bool) (d : D) (i : Nat) : (mkK kn d).get i = d.get i := by unfold get toL; rw [mkK_raw]
theorem len_le (d : D) : d.len ≤ maxLen := by unfold len toL; exact List.length_take_le _ _
end D

/-- what a cell of an element is -/
inductive Sh where
  | int (k : IntKind) | bool | str | sl (es : List Sh)
mutual
def Sh.eqs : Sh → Sh → Bool
  | .int k, .int k' => decide (k = k')
  | .bool, .bool => true
  | .str, .str => true
  | .sl a, .sl b => Sh.eqsL a b
  | _, _ => false
def Sh.eqsL : List Sh → List Sh → Bool
  | [], [] => true
  | a :: xs, b :: ys => Sh.eqs a b && Sh.eqsL xs ys
  | _, _ => false
end
mutual
theorem Sh.eqs_eq : ∀ (a b : Sh), Sh.eqs a b = true → a = b
  | .int k, .int k', h => by simp [Sh.eqs] at h; rw [h]
  | .bool, .bool, _ => rfl
  | .str, .str, _ => rfl
  | .sl a, .sl b, h => by rw [Sh.eqsL_eq a b (by simpa [Sh.eqs] using h)]
  | .int _, .bool, h | .int _, .str, h | .int _, .sl _, h | .bool, .int _, h | .bool, .str, h | .bool, .sl _, h | .str, .int _, h | .str, .bool, h | .str, .sl _, h | .sl _, .int _, h | .sl _, .bool, h | .sl _, .str, h => by simp [Sh.eqs] at h
theorem Sh.eqsL_eq : ∀ (a b : List Sh), Sh.eqsL a b = true → a = b
  | [], [], _ => rfl
  | a :: xs, b :: ys, h => by
    simp [Sh.eqsL] at h
    rw [Sh.eqs_eq a b h.1, Sh.eqsL_eq xs ys h.2]
  | [], _ :: _, h | _ :: _, [], h => by simp [Sh.eqsL] at h
end
/-- the cells of a type -/
def shOf (P : Program) : Nat → TypeId → Option (List Sh)
  | 0, _ => none
  | n + 1, t => match P.underlying t with
    | some (.int k) => some [.int k]
    | some .bool => some [.bool]
    | some .string => some [.str]
    | some (.slice e) => (shOf P n e).map fun es => [.sl es]
    | some (.struct fs) => fs.toList.foldr (fun f r => match shOf P n f.type, r with | some a, some b => some (a ++ b) | _, _ => none) (some [])
    | some (.array m e) => (shOf P n e).map fun es => (List.replicate m es).flatten
    | _ => none
def shE (P : Program) (t : TypeId) : List Sh := (shOf P 8 t).getD []

/-- an abstract value: kn: it is made of constants -/
inductive AV where
  | any
  | sc (kn : Bool) (v : Value)
  | sl (kn : Bool) (es : List Sh) (d : D) (tip : Option (Nat × Nat))
  | ptr (o off : Nat)
  | mp (o : Nat)
  | ep (kn : Bool) (es : List Sh) (d : D) (j : Nat)
  | fn (f : Fn) (a c : List AV)
  | agg (cs : List AV)
  | tup (vs : List AV)
  | rsl (kn : Bool) (o n len : Nat)
  | rp (kn : Bool) (o n i j : Nat)
  | rw (es : List Sh) (d : D)
  | vsl (o off n len cap : Nat)
  | al (n len : Nat) (cs : List AV) (tip : Option (Nat × Nat))
  | ea (cs : List AV)

/-- a tree of answers -/
inductive RT (α : Type) where
  | ok (a : α) | bad (why : Nat) | br (b : Bool) (x y : RT α) | all (x y : RT α)
namespace RT
variable {α β : Type}
noncomputable def bind (x : RT α) (f : α → RT β) : RT β := @RT.rec α (fun _ => RT β) f (fun w => .bad w) (fun b _ _ x y => .br b x y) (fun _ _ x y => .all x y) x
theorem bind_br (b : Bool) (x y : RT α) (f : α → RT β) : (RT.br b x y).bind f = .br b (x.bind f) (y.bind f) := rfl
theorem bind_all (x y : RT α) (f : α → RT β) : (RT.all x y).bind f = .all (x.bind f) (y.bind f) := rfl
def holds : RT α → (α → Prop) → Prop
  | .ok a, Q => Q a
  | .bad _, _ => False
  | .br b x y, Q => (b = true → x.holds Q) ∧ (b = false → y.holds Q)
  | .all x y, Q => x.holds Q ∧ y.holds Q
theorem holds_bind {Q : β → Prop} (x : RT α) (f : α → RT β) : (x.bind f).holds Q ↔ x.holds fun a => (f a).holds Q := by
  induction x with
  | ok a => exact Iff.rfl
  | bad w => exact Iff.rfl
  | br b x y ihx ihy => simp only [bind_br, holds, ihx, ihy]
  | all x y ihx ihy => simp only [bind_all, holds, ihx, ihy]
theorem holds_mono {Q Q' : α → Prop} (h : ∀ a, Q a → Q' a) : ∀ (x : RT α), x.holds Q → x.holds Q'
  | .ok a, H => h a H
  | .bad _, H => H
  | .br b x y, H => ⟨fun hb => holds_mono h x (H.1 hb), fun hb => holds_mono h y (H.2 hb)⟩
  | .all x y, H => ⟨holds_mono h x H.1, holds_mono h y H.2⟩
end RT
/-- a branch: at what is known it is taken at once -/
def brk {α : Type} (kn b : Bool) (x y : RT α) : RT α := bif kn then (bif b then x else y) else .br b x y
theorem brk_holds {α : Type} {Q : α → Prop} {kn b : Bool} {x y : RT α} (h : (brk kn b x y).holds Q) : (b = true ∧ x.holds Q) ∨ (b = false ∧ y.holds Q) := by
  cases kn <;> cases b
  · exact .inr ⟨rfl, h.2 rfl⟩
  · exact .inl ⟨rfl, h.1 rfl⟩
  · exact .inr ⟨rfl, h⟩
  · exact .inl ⟨rfl, h⟩
/-- a condition that must hold -/
def need {α : Type} (kn b : Bool) (why : Nat) (x : RT α) : RT α := brk kn b x (.bad why)
theorem need_holds {α : Type} {Q : α → Prop} {kn b : Bool} {why : Nat} {x : RT α} (h : (need kn b why x).holds Q) : b = true ∧ x.holds Q := by
  rcases brk_holds h with h | ⟨_, h⟩
  · exact h
  · exact h.elim

/-- what the heap is -/
structure Hp where
  ob : List (Nat × List AV)
  nx : Nat
  gn : List (Nat × Nat × TypeId)
  nv : Nat
  ng : Nat
  ep : Nat
/-- a frame's temporaries -/
structure Tm where
  nt : Nat
  tm : List (Nat × AV)
  df : List (FuncId × List AV)

noncomputable def look (t : Nat) (l : List (Nat × AV)) : AV := @List.rec (Nat × AV) (fun _ => AV) .any (fun kv _ r => bif Nat.beq kv.1 t then kv.2 else r) l
theorem look_nil (t : Nat) : look t [] = .any := rfl
theorem look_cons (t k : Nat) (v : AV) (r : List (Nat × AV)) : look t ((k, v) :: r) = bif Nat.beq k t then v else look t r := rfl
noncomputable def lookO (o : Nat) (l : List (Nat × List AV)) : Option (List AV) := @List.rec (Nat × List AV) (fun _ => Option (List AV)) none (fun kv _ r => bif Nat.beq kv.1 o then some kv.2 else r) l
theorem lookO_nil (o : Nat) : lookO o [] = none := rfl
theorem lookO_con (o k : Nat) (v : List AV) (r : List (Nat × List AV)) : lookO o ((k, v) :: r) = bif Nat.beq k o then some v else lookO o r := rfl
noncomputable def lookG (k : Nat) (l : List (Nat × Nat × TypeId)) : Option (Nat × TypeId) := @List.rec (Nat × Nat × TypeId) (fun _ => Option (Nat × TypeId)) none (fun kv _ r => bif Nat.beq kv.1 k then some kv.2 else r) l
theorem lookG_nil (k : Nat) : lookG k [] = none := rfl
theorem lookG_con (k i : Nat) (g : Nat × TypeId) (r : List (Nat × Nat × TypeId)) : lookG k ((i, g) :: r) = bif Nat.beq i k then some g else lookG k r := rfl

def room : Nat := 140737488355328
/-- how many bytes an element takes: laid cell by cell -/
def Sh.al : Sh → Nat
  | .int k => k.bits / 8
  | .bool => 1
  | _ => 8
def Sh.by : Sh → Nat
  | .int k => k.bits / 8
  | .bool => 1
  | .str => 16
  | .sl _ => 24
def upTo (n a : Nat) : Nat := (n + (a - 1)) / a * a
def szF : List Sh → Nat → Nat → Nat
  | [], n, m => upTo n m
  | s :: ss, n, m => szF ss (upTo n s.al + s.by) (max m s.al)
def szB (es : List Sh) : Nat := szF es 0 1
/-! What abstract values mean. -/
structure Env where
  β : Nat → Nat
  live : Nat → Prop
  Z : Nat → Nat → Option Value
  vc : Nat → Value
  gn : Nat → Nat
  ve : Nat → TypeId
  m : Nat
  ng : Nat

mutual
def LF (Z : Nat → Nat → Option Value) : Sh → Value → D → Prop
  | .int k, v, d => v = .int k d.toI
  | .bool, v, d => v = .bool d.toB
  | .str, v, d => v = .string d.toS
  | .sl es, v, d => d.len * szB es ≤ room ∧ ∃ ad cap, v = .slice ad d.len cap ∧ d.len ≤ cap ∧ cap ≤ maxLen ∧ (ad = none → cap = 0) ∧
      (d.len ≠ 0 → ∃ b o, ad = some ⟨b, o, none⟩ ∧ ∀ i, i < d.len → EL Z es b (o + i * es.length) (d.get i) 0)
def EL (Z : Nat → Nat → Option Value) : List Sh → Nat → Nat → D → Nat → Prop
  | [], _, _, _, _ => True
  | s :: ss, b, o, d, j => (∃ v, Z b o = some v ∧ LF Z s v (d.cell j)) ∧ EL Z ss b (o + 1) d (j + 1)
end
/-- an element's cells within a row of values -/
def RE (Z : Nat → Nat → Option Value) : List Sh → Array Value → Nat → D → Nat → Prop
  | [], _, _, _, _ => True
  | s :: ss, cs, p, d, j => (∃ v, cs[p]? = some v ∧ LF Z s v (d.cell j)) ∧ RE Z ss cs (p + 1) d (j + 1)
/-- a slice that is its block's last one -/
def TipOk (E : Env) (tip : Option (Nat × Nat)) (v : Value) : Prop := match tip with | none => True | some (k, g) => k < E.m ∧ g < E.ng ∧ (E.gn k = g → v = E.vc k)
/-- values in cells that stay -/
def ZAt (E : Env) (vs : List Value) (b o : Nat) : Prop := ∀ i u, vs[i]? = some u → E.Z b (o + i) = some u
mutual
def Rel (E : Env) : AV → Value → Prop
  | .any, _ => True
  | .sc _ u, v => v = u ∧ u.oneCell' = true
  | .sl _ es d tip, v => LF E.Z (.sl es) v d ∧ match tip with | none => True | some (k, g) => k < E.m ∧ g < E.ng ∧ (E.gn k = g → v = E.vc k)
  | .ptr o off, v => E.live o ∧ v = .pointer (some ⟨E.β o, off, none⟩)
  | .mp o, v => E.live o ∧ v = .map (some (E.β o))
  | .ep _ es d j, v => ∃ b o, v = .pointer (some ⟨b, o, none⟩) ∧ EL E.Z es b o d j
  | .fn f a c, v => ∃ a' c', v = .func f a' c' ∧ RelL E a a'.toList ∧ RelL E c c'.toList
  | .agg cs, v => ∃ cs', v = .agg cs' ∧ RelL E cs cs'.toList ∧ ∀ u ∈ cs'.toList, u.oneCell' = true
  | .tup vs, v => ∃ vs', v = .tuple vs' ∧ RelL E vs vs'.toList
  | .rsl _ o _ len, v => E.live o ∧ ∃ ad cap, v = .slice ad len cap ∧ len ≤ cap ∧ cap ≤ maxLen ∧ (ad = none → cap = 0) ∧ (len ≠ 0 → ad = some ⟨E.β o, 0, none⟩)
  | .rp _ o n i j, v => E.live o ∧ v = .pointer (some ⟨E.β o, i * n + j, none⟩)
  | .rw es d, v => d.len * szB es ≤ room ∧ ∃ cs, v = .agg cs ∧ ∀ i, i < d.len → RE E.Z es cs (i * es.length) (d.get i) 0
  | .vsl o off _ len cap, v => E.live o ∧ len ≤ cap ∧ cap ≤ maxLen ∧ v = .slice (some ⟨E.β o, off, none⟩) len cap
  | .al n len cs tip, v => (∃ vs b o cap, RelL E cs vs ∧ (∀ u ∈ vs, u.oneCell' = true) ∧ cs.length = len * n ∧ v = .slice (some ⟨b, o, none⟩) len cap ∧ len ≤ cap ∧ cap ≤ maxLen ∧ ZAt E vs b o) ∧ TipOk E tip v
  | .ea cs, v => ∃ vs b o, RelL E cs vs ∧ (∀ u ∈ vs, u.oneCell' = true) ∧ v = .pointer (some ⟨b, o, none⟩) ∧ ZAt E vs b o
def RelL (E : Env) : List AV → List Value → Prop
  | [], vs => vs = []
  | a :: xs, vs => ∃ v vs', vs = v :: vs' ∧ Rel E a v ∧ RelL E xs vs'
end

/-- a wider meaning -/
structure Ext (E E' : Env) : Prop where
  live : ∀ o, E.live o → E'.live o
  β : ∀ o, E.live o → E'.β o = E.β o
  Z : ∀ b o v, E.Z b o = some v → E'.Z b o = some v
  m : E.m ≤ E'.m
  ng : E.ng ≤ E'.ng
  vc : ∀ k, k < E.m → (E'.vc k = E.vc k ∧ E'.gn k = E.gn k) ∨ E.ng ≤ E'.gn k
theorem Ext.refl (E : Env) : Ext E E := ⟨fun _ h => h, fun _ _ => rfl, fun _ _ _ h => h, Nat.le_refl _, Nat.le_refl _, fun _ _ => .inl ⟨rfl, rfl⟩⟩
theorem Ext.trans {E E1 E2 : Env} (h : Ext E E1) (h2 : Ext E1 E2) : Ext E E2 := by
  refine ⟨fun o ho => h2.live o (h.live o ho), fun o ho => (h2.β o (h.live o ho)).trans (h.β o ho), fun b o v hv => h2.Z _ _ _ (h.Z _ _ _ hv), Nat.le_trans h.m h2.m, Nat.le_trans h.ng h2.ng, fun k hk => ?_⟩
  rcases h2.vc k (Nat.lt_of_lt_of_le hk h.m) with ⟨a, b⟩ | a
  · rcases h.vc k hk with ⟨c, d⟩ | c
    · exact .inl ⟨a.trans c, b.trans d⟩
    · exact .inr (b ▸ c)
  · exact .inr (Nat.le_trans h.ng a)
mutual
theorem LF.mono {Z Z' : Nat → Nat → Option Value} (h : ∀ b o v, Z b o = some v → Z' b o = some v) : ∀ (s : Sh) (v : Value) (d : D), LF Z s v d → LF Z' s v d
  | .int _, _, _, H => H
  | .bool, _, _, H => H
  | .str, _, _, H => H
  | .sl es, v, d, ⟨h0, ad, cap, h1, h2, h3, h4, h5⟩ => ⟨h0, ad, cap, h1, h2, h3, h4, fun hn => by
      obtain ⟨b, o, h6, h7⟩ := h5 hn
      exact ⟨b, o, h6, fun i hi => EL.mono h es _ _ _ _ (h7 i hi)⟩⟩
theorem EL.mono {Z Z' : Nat → Nat → Option Value} (h : ∀ b o v, Z b o = some v → Z' b o = some v) : ∀ (es : List Sh) (b o : Nat) (d : D) (j : Nat), EL Z es b o d j → EL Z' es b o d j
  | [], _, _, _, _, _ => trivial
  | s :: ss, b, o, d, j, ⟨⟨v, h1, h2⟩, h3⟩ => ⟨⟨v, h _ _ _ h1, LF.mono h s v _ h2⟩, EL.mono h ss _ _ _ _ h3⟩
end
theorem RE.mono {Z Z' : Nat → Nat → Option Value} (h : ∀ b o v, Z b o = some v → Z' b o = some v) : ∀ (es : List Sh) (cs : Array Value) (p : Nat) (d : D) (j : Nat), RE Z es cs p d j → RE Z' es cs p d j
  | [], _, _, _, _, _ => trivial
  | s :: ss, cs, p, d, j, ⟨⟨v, h1, h2⟩, h3⟩ => ⟨⟨v, h1, LF.mono h s v _ h2⟩, RE.mono h ss _ _ _ _ h3⟩
theorem TipOk.mono {E E' : Env} (h : Ext E E') {tip : Option (Nat × Nat)} {v : Value} (H : TipOk E tip v) : TipOk E' tip v := by
  cases tip with
  | none => trivial
  | some kg =>
    obtain ⟨k, g⟩ := kg
    obtain ⟨h3, h4, h5⟩ := H
    refine ⟨Nat.lt_of_lt_of_le h3 h.m, Nat.lt_of_lt_of_le h4 h.ng, fun hg => ?_⟩
    rcases h.vc k h3 with ⟨a, b⟩ | a
    · rw [a]; exact h5 (b ▸ hg)
    · have h6 : E'.gn k = g := hg
      omega
/-- what a listed package variable holds -/
def layF (g : Nat) : List (Nat × List Value) → Option (List Value)
  | [] => none
  | (k, vs) :: r => bif Nat.beq k g then some vs else layF g r
/-- the listed package variables lie as they are listed -/
def Laid (E : Env) : Prop := ∀ g vs, layF g layT = some vs → ZAt E vs g 0 ∧ ∀ u ∈ vs, u.oneCell' = true
theorem ZAt.mono {E E' : Env} (h : Ext E E') {vs : List Value} {b o : Nat} (H : ZAt E vs b o) : ZAt E' vs b o := fun i u hu => h.Z _ _ _ (H i u hu)
theorem Laid.mono {E E' : Env} (h : Ext E E') (H : Laid E) : Laid E' := fun g vs hg => ⟨ZAt.mono h (H g vs hg).1, (H g vs hg).2⟩
mutual
theorem Rel.mono {E E' : Env} (h : Ext E E') : ∀ (a : AV) (v : Value), Rel E a v → Rel E' a v
  | .any, _, H => H
  | .sc _ _, _, H => H
  | .sl _ es d tip, v, ⟨h1, h2⟩ => ⟨LF.mono h.Z _ _ _ h1, by
      cases tip with
      | none => trivial
      | some kg =>
        obtain ⟨k, g⟩ := kg
        obtain ⟨h3, h4, h5⟩ := h2
        refine ⟨Nat.lt_of_lt_of_le h3 h.m, Nat.lt_of_lt_of_le h4 h.ng, fun hg => ?_⟩
        rcases h.vc k h3 with ⟨a, b⟩ | a
        · rw [a]; exact h5 (b ▸ hg)
        · have h6 : E'.gn k = g := hg
          omega⟩
  | .ptr o off, v, ⟨h1, h2⟩ => ⟨h.live o h1, by rw [h.β o h1]; exact h2⟩
  | .mp o, v, ⟨h1, h2⟩ => ⟨h.live o h1, by rw [h.β o h1]; exact h2⟩
  | .ep _ es d j, v, ⟨b, o, h1, h2⟩ => ⟨b, o, h1, EL.mono h.Z _ _ _ _ _ h2⟩
  | .fn f a c, v, ⟨a', c', h1, h2, h3⟩ => ⟨a', c', h1, RelL.mono h a _ h2, RelL.mono h c _ h3⟩
  | .agg cs, v, ⟨cs', h1, h2, h3⟩ => ⟨cs', h1, RelL.mono h cs _ h2, h3⟩
  | .tup vs, v, ⟨vs', h1, h2⟩ => ⟨vs', h1, RelL.mono h vs _ h2⟩
  | .rsl _ o _ len, v, ⟨h1, ad, cap, g1, g2, g3, g4, g5⟩ => ⟨h.live o h1, ad, cap, g1, g2, g3, g4, fun hn => by rw [h.β o h1]; exact g5 hn⟩
  | .rp _ o _ _ _, v, ⟨h1, h2⟩ => ⟨h.live o h1, by rw [h.β o h1]; exact h2⟩
  | .rw es d, v, ⟨h0, cs, h1, h2⟩ => ⟨h0, cs, h1, fun i hi => RE.mono h.Z _ _ _ _ _ (h2 i hi)⟩
  | .vsl o _ _ _ _, v, ⟨h1, h2, h3, h4⟩ => ⟨h.live o h1, h2, h3, by rw [h.β o h1]; exact h4⟩
  | .al _ _ cs _, v, ⟨⟨vs, b, o, cap, h1, h2, h3, h4, h5, h6, h7⟩, h9⟩ => ⟨⟨vs, b, o, cap, RelL.mono h cs _ h1, h2, h3, h4, h5, h6, h7.mono h⟩, h9.mono h⟩
  | .ea cs, v, ⟨vs, b, o, h1, h2, h3, h4⟩ => ⟨vs, b, o, RelL.mono h cs _ h1, h2, h3, h4.mono h⟩
theorem RelL.mono {E E' : Env} (h : Ext E E') : ∀ (xs : List AV) (vs : List Value), RelL E xs vs → RelL E' xs vs
  | [], _, H => H
  | a :: xs, _, ⟨v, vs', h1, h2, h3⟩ => ⟨v, vs', h1, Rel.mono h a v h2, RelL.mono h xs vs' h3⟩
end

section
variable {E : Env}
theorem RelL.length : ∀ {xs : List AV} {vs : List Value}, RelL E xs vs → xs.length = vs.length
  | [], _, h => by have h' : _ = ([] : List Value) := h; rw [h']; rfl
  | _ :: xs, _, ⟨_, vs', h, _, h2⟩ => by subst h; simp [RelL.length (xs := xs) h2]
theorem RelL.get : ∀ {xs : List AV} {vs : List Value}, RelL E xs vs → ∀ {i : Nat} {a : AV}, xs[i]? = some a → ∃ v, vs[i]? = some v ∧ Rel E a v
  | [], _, _, i, a, h => by simp at h
  | b :: xs, _, ⟨v, vs', h, h1, h2⟩, i, a, hi => by
    subst h
    cases i with
    | zero => simp at hi; subst hi; exact ⟨v, rfl, h1⟩
    | succ i => simp at hi; simpa using RelL.get h2 hi
theorem RelL.append : ∀ {xs : List AV} {vs : List Value} {ys : List AV} {us : List Value}, RelL E xs vs → RelL E ys us → RelL E (xs ++ ys) (vs ++ us)
  | [], _, _, _, h, h2 => by rw [show _ = [] from h]; exact h2
  | a :: xs, _, _, _, ⟨v, vs', h, h1, h3⟩, h2 => by subst h; exact ⟨v, _, rfl, h1, RelL.append h3 h2⟩
theorem RelL.take : ∀ (n : Nat) {xs : List AV} {vs : List Value}, RelL E xs vs → RelL E (xs.take n) (vs.take n)
  | 0, _, _, _ => by simp [RelL]
  | n + 1, [], _, h => by rw [show _ = [] from h]; simp [RelL]
  | n + 1, a :: xs, _, ⟨v, vs', h, h1, h3⟩ => by subst h; exact ⟨v, _, rfl, h1, RelL.take n h3⟩
theorem RelL.drop : ∀ (n : Nat) {xs : List AV} {vs : List Value}, RelL E xs vs → RelL E (xs.drop n) (vs.drop n)
  | 0, _, _, h => by simpa using h
  | n + 1, [], _, h => by rw [show _ = [] from h]; simp [RelL]
  | n + 1, a :: xs, _, ⟨v, vs', h, h1, h3⟩ => by subst h; simpa using RelL.drop n h3
theorem RelL.map_sc (kn : Bool) : ∀ (vs : List Value), (∀ u ∈ vs, u.oneCell' = true) → RelL E (vs.map (.sc kn)) vs
  | [], _ => rfl
  | v :: vs, h => ⟨v, vs, rfl, ⟨rfl, h v (by simp)⟩, RelL.map_sc kn vs fun u hu => h u (by simp [hu])⟩
end
end
end Go.Proofs.YtokiedeiamlnlaaGreat
