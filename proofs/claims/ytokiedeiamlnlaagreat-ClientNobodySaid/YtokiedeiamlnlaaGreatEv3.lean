/- Ev3: the evaluator's operations on values are right. No condition. -/
import Derived.Test.YtokiedeiamlnlaaGreatEv2
namespace Go.Proofs.YtokiedeiamlnlaaGreat
set_option linter.unusedSimpArgs false
set_option linter.unusedVariables false
open Go.RowKit
set_option maxRecDepth 10000
noncomputable section

/-- a block's things -/
def flat (es : List MapEntry) : List Value := es.flatMap fun e => [.int .i64 e.born, e.key, e.val]
def ObMap (ob : Obj) (vs : List Value) : Prop := (∃ es clock, ob = .map es clock ∧ vs = [.tuple (.int .i64 (clock : Nat) :: flat es.toList).toArray]) ∨
  ∃ m since seen last, ob = .mapIter (some m) since seen last ∧ vs = [.tuple #[.map (some m), .int .i64 (since : Nat), .int .i64 (last : Nat), .tuple (seen.map fun b : Nat => Value.int .i64 b)]]
def ObOk (ob : Obj) (vs : List Value) : Prop := (∃ t, ob = .cells vs.toArray t (0, 0) ∧ ∀ u ∈ vs, u.oneCell' = true) ∨ ObMap ob vs ∨
  ∃ cs t, ob = .cells cs t (0, 0) ∧ vs = [.agg cs]
theorem ob_cells {E : Env} {cs : List AV} {vs : List Value} {ob : Obj} (hv : isVar cs = true) (hr : RelL E cs vs) (ho : ObOk ob vs) : ∃ t, ob = .cells vs.toArray t (0, 0) ∧ ∀ u ∈ vs, u.oneCell' = true := by
  have key : ∀ x, vs = [x] → ((∃ l, x = .tuple l) ∨ ∃ l, x = .agg l) → False := by
    rintro v0 rfl hx
    cases cs with
    | nil => cases hr
    | cons x cs =>
      obtain ⟨v, vs', h1, h2, h3⟩ := hr
      cases h1
      cases cs with
      | nil =>
        cases x with
        | any => cases hv
        | tup vs => cases hv
        | sc kn u =>
          obtain ⟨rfl, h⟩ := h2
          rcases hx with ⟨_, rfl⟩ | ⟨_, rfl⟩ <;> cases h
        | sl kn es d tip => obtain ⟨⟨_, ad, cap, h, _⟩, _⟩ := h2; rcases hx with ⟨_, rfl⟩ | ⟨_, rfl⟩ <;> cases h
        | ptr o off => obtain ⟨_, h⟩ := h2; rcases hx with ⟨_, rfl⟩ | ⟨_, rfl⟩ <;> cases h
        | mp o => obtain ⟨_, h⟩ := h2; rcases hx with ⟨_, rfl⟩ | ⟨_, rfl⟩ <;> cases h
        | ep kn es d j => obtain ⟨_, _, h, _⟩ := h2; rcases hx with ⟨_, rfl⟩ | ⟨_, rfl⟩ <;> cases h
        | fn f a c => obtain ⟨_, _, h, _⟩ := h2; rcases hx with ⟨_, rfl⟩ | ⟨_, rfl⟩ <;> cases h
        | agg cs => cases hv
        | rsl kn o n len => obtain ⟨_, ad, cap, h, _⟩ := h2; rcases hx with ⟨_, rfl⟩ | ⟨_, rfl⟩ <;> cases h
        | rp kn o n i j => obtain ⟨_, h⟩ := h2; rcases hx with ⟨_, rfl⟩ | ⟨_, rfl⟩ <;> cases h
        | rw es d => cases hv
        | vsl o off n len cap => obtain ⟨_, _, _, h⟩ := h2; rcases hx with ⟨_, rfl⟩ | ⟨_, rfl⟩ <;> cases h
        | al n len cs tip => obtain ⟨⟨_, _, _, _, _, _, _, h, _⟩, _⟩ := h2; rcases hx with ⟨_, rfl⟩ | ⟨_, rfl⟩ <;> cases h
        | ea cs => obtain ⟨_, _, _, _, _, h, _⟩ := h2; rcases hx with ⟨_, rfl⟩ | ⟨_, rfl⟩ <;> cases h
      | cons _ _ => obtain ⟨_, _, h, _⟩ := h3; cases h
  rcases ho with ho | (⟨es, clock, _, h⟩ | ⟨_, _, _, _, _, h⟩) | ⟨c, t, _, h⟩
  · exact ho
  · exact (key _ h (.inl ⟨_, rfl⟩)).elim
  · exact (key _ h (.inl ⟨_, rfl⟩)).elim
  · exact (key _ h (.inr ⟨_, rfl⟩)).elim
/-- a row that may be written, up to its last cell -/
def RowAt (w : World) (g : Nat) (cur : Array Value) (e : TypeId) : Prop := ∃ fr : Nat × Nat, w.heap[g]? = some (.cells cur e fr) ∧ (fr = (0, 0) ∨ cur.size ≤ fr.1)
/-- v owns its row (which may bear a mark behind its last cell) -/
def ownsR (w : World) (base : Nat) (e : TypeId) (size : Nat) (v : Value) (n : Nat) (xs : List Value) : Prop :=
  xs.length = n * size ∧ ((v = .slice none 0 0 ∧ n = 0) ∨
    ∃ g cap cur, v = .slice (some ⟨g, 0, none⟩) n cap ∧ base ≤ g ∧ RowAt w g cur e ∧ n ≤ cap ∧ cap ≤ maxLen ∧ cur.size = cap * size ∧ cur.toList.take (n * size) = xs)
theorem owns_r {w : World} {base e size n : Nat} {v : Value} {xs : List Value} (h : w.ownsRow base e size v n xs) : ownsR w 0 e size v n xs := by
  refine ⟨h.1, h.2.imp_right ?_⟩
  rintro ⟨g, cap, cur, h1, _, h3, h4⟩
  exact ⟨g, cap, cur, h1, Nat.zero_le _, ⟨_, h3, .inl rfl⟩, h4⟩
theorem ownsR.cells {w : World} {base e size n : Nat} {v : Value} {xs : List Value} (h : ownsR w base e size v n xs) {g : Nat} (hg : v.ownBlock = some g) : ∀ j u, xs[j]? = some u → w.cell? ((⟨g, 0, none⟩ : Addr).add j) = some u := by
  intro j u hu
  rcases h.2 with ⟨rfl, _⟩ | ⟨g', cap, cur, rfl, _, ⟨fr, hgg, _⟩, _, _, _, htake⟩
  · simp [Value.ownBlock] at hg
  · simp [Value.ownBlock] at hg
    subst hg
    have hadd : (⟨g', 0, none⟩ : Addr).add j = ⟨g', j, none⟩ := by unfold Addr.add; split <;> simp_all
    rw [hadd, cell_of_row w g' j cur e fr hgg]
    rw [← htake, List.getElem?_take] at hu
    split at hu
    · simpa using hu
    · cases hu
structure Inv (P : Program) (w0 : World) (G : Nat → Prop) (E : Env) (h : Hp) (w : World) : Prop where
  kpt : Kpt w0 w G
  m : E.m = h.nv
  ng : E.ng = h.ng
  gn : ∀ k, k < h.nv → lookG k h.gn = some (E.gn k, E.ve k)
  gnlt : ∀ k, k < h.nv → E.gn k < h.ng
  live : ∀ o, E.live o ↔ (lookO o h.ob).isSome = true
  nx : ∀ o, E.live o → o < h.nx
  ob : ∀ o cs, lookO o h.ob = some cs → ∃ vs ob, w.heap[E.β o]? = some ob ∧ RelL E cs vs ∧ ObOk ob vs
  own : ∀ o, E.live o → w0.heap.size ≤ E.β o ∨ G (E.β o)
  inj : ∀ o o', E.live o → E.live o' → E.β o = E.β o' → o = o'
  z : ∀ b j v, E.Z b j = some v → w.cell? ⟨b, j, none⟩ = some v
  zob : ∀ o j, E.live o → E.Z (E.β o) j = none
  vec : ∀ k, k < h.nv → ∃ sz n xs, sizeT P (E.ve k) = some sz ∧ ownsR w 0 (E.ve k) sz (E.vc k) n xs ∧ (∀ u ∈ xs, u.oneCell' = true) ∧
    ∀ b, (E.vc k).ownBlock = some b → (w0.heap.size ≤ b ∨ G b) ∧ (∀ o, E.live o → E.β o ≠ b) ∧ ∀ j, E.Z b j = xs[j]?
  vinj : ∀ k k' b, k < h.nv → k' < h.nv → (E.vc k).ownBlock = some b → (E.vc k').ownBlock = some b → k = k'
  laid : Laid E
/-- temporaries -/
def RelD (E : Env) : List (FuncId × List AV) → List Deferred → Prop
  | [], ds => ds = []
  | (g, xs) :: r, ds => ∃ cap args ds', ds = ⟨.fn (.func g) cap, args⟩ :: ds' ∧ RelL E xs (args.toList ++ cap.toList) ∧ RelD E r ds'
theorem RelD.mono {E E' : Env} (hx : Ext E E') : ∀ {l : List (FuncId × List AV)} {ds : List Deferred}, RelD E l ds → RelD E' l ds
  | [], _, h => h
  | (g, xs) :: r, _, ⟨cap, args, ds', h1, h2, h3⟩ => ⟨cap, args, ds', h1, RelL.mono hx _ _ h2, RelD.mono hx h3⟩
def LaidD (E : Env) (l : List (FuncId × List AV)) (ds : List Deferred) : Prop := Laid E ∧ RelD E l ds
theorem LaidD.mono {E E' : Env} (hx : Ext E E') {l : List (FuncId × List AV)} {ds : List Deferred} (H : LaidD E l ds) : LaidD E' l ds := ⟨H.1.mono hx, H.2.mono hx⟩
structure RelT (E : Env) (F : Tm) (a : Act) : Prop where
  sz : a.tmps.size = F.nt
  tm : ∀ i, Rel E (look i F.tm) (a.tmps.getD i undef)
  df : LaidD E F.df a.defers
theorem RelT.mono {E E' : Env} {F : Tm} {a : Act} (h : RelT E F a) (hx : Ext E E') : RelT E' F a := ⟨h.sz, fun i => Rel.mono hx _ _ (h.tm i), h.df.mono hx⟩

theorem one_cells {v : Value} (h : v.oneCell' = true) : v.cells = #[v] := by cases v <;> first | rfl | simp [Value.oneCell'] at h
theorem one_of {v : Value} (h1 : ∀ cs, v ≠ .agg cs) (h2 : ∀ cs, v ≠ .tuple cs) : v.oneCell' = true := by cases v <;> first | rfl | exact absurd rfl (h1 _) | exact absurd rfl (h2 _)
section
variable {P : Program} {E : Env} {F : Tm} {h : Hp} {w w0 : World} {G : Nat → Prop} {a : Act}

theorem rel_const (v : Value) : Rel E (ofConst v) v := by
  unfold ofConst
  split
  · rename_i cs
    cases hc : cs.toList.all Value.oneCell'
    · exact trivial
    · have := List.all_eq_true.1 hc
      exact ⟨cs, rfl, RelL.map_sc true _ this, this⟩
  · exact trivial
  · rename_i h1 h2
    exact ⟨rfl, one_of (fun cs e => h1 cs e) (fun cs e => h2 cs e)⟩
theorem rel_opnd (hT : RelT E F a) (x : Operand) : Rel E (opnd F x) (a.eval x) := by
  cases x with
  | tmp t => exact hT.tm t
  | const v => exact rel_const v
  | global g =>
    show Rel E (match layF g layT with | some vs => .ea (vs.map (.sc true)) | none => .any) _
    split
    · rename_i vs hg
      obtain ⟨h1, h2⟩ := hT.df.1 g vs hg
      exact ⟨vs, g, 0, RelL.map_sc true vs h2, h2, rfl, h1⟩
    · exact trivial
  | func f => exact ⟨#[], #[], rfl, rfl, rfl⟩
theorem rel_map (hT : RelT E F a) : ∀ (l : List Operand), RelL E (l.map (opnd F)) (l.map a.eval)
  | [] => rfl
  | x :: l => ⟨_, _, rfl, rel_opnd hT x, rel_map hT l⟩
theorem rel_cells : ∀ {x : AV} {v : Value} {cs : List AV}, Rel E x v → cellsA x = some cs → RelL E cs v.cells.toList ∧ ∀ u ∈ v.cells.toList, u.oneCell' = true := by
  intro x v cs hr hc
  have one : v.oneCell' = true → RelL E [x] v.cells.toList ∧ ∀ u ∈ v.cells.toList, u.oneCell' = true := fun h1 => by
    rw [one_cells h1]
    exact ⟨⟨v, [], rfl, hr, rfl⟩, by simpa using h1⟩
  cases x with
  | any => cases hc
  | tup vs => cases hc
  | agg cs' =>
    cases hc
    obtain ⟨vs, rfl, h1, h2⟩ := hr
    exact ⟨h1, h2⟩
  | sc kn u => cases hc; obtain ⟨rfl, h1⟩ := hr; exact one h1
  | sl kn es d tip => cases hc; obtain ⟨⟨_, ad, cap, rfl, _⟩, _⟩ := hr; exact one rfl
  | ptr o off => cases hc; obtain ⟨_, rfl⟩ := hr; exact one rfl
  | mp o => cases hc; obtain ⟨_, rfl⟩ := hr; exact one rfl
  | ep kn es d j => cases hc; obtain ⟨b, o, rfl, _⟩ := hr; exact one rfl
  | rsl kn o n len => cases hc; obtain ⟨_, ad, cap, rfl, _⟩ := hr; exact one rfl
  | rp kn o n i j => cases hc; obtain ⟨_, rfl⟩ := hr; exact one rfl
  | rw es d => cases hc
  | vsl o off n len cap => cases hc; obtain ⟨_, _, _, rfl⟩ := hr; exact one rfl
  | al n len cs tip => cases hc; obtain ⟨⟨_, _, _, _, _, _, _, rfl, _⟩, _⟩ := hr; exact one rfl
  | ea cs => cases hc; obtain ⟨_, _, _, _, _, rfl, _⟩ := hr; exact one rfl
  | fn f c d => cases hc; obtain ⟨_, _, rfl, _⟩ := hr; exact one rfl
theorem rel_leaf {kn : Bool} : ∀ {s : Sh} {v : Value} {d : D}, LF E.Z s v d → Rel E (leaf kn s d) v ∧ v.oneCell' = true
  | .int _, _, _, rfl => ⟨⟨rfl, rfl⟩, rfl⟩
  | .bool, _, _, rfl => ⟨⟨rfl, rfl⟩, rfl⟩
  | .str, _, _, rfl => ⟨⟨rfl, rfl⟩, rfl⟩
  | .sl es, v, d, h => ⟨⟨h, trivial⟩, by obtain ⟨_, _, _, rfl, _⟩ := h; rfl⟩
theorem el_leaves {kn : Bool} : ∀ {es : List Sh} {b o : Nat} {d : D} {j : Nat}, EL E.Z es b o d j → ∃ vs : List Value, vs.length = es.length ∧ (∀ i v, vs[i]? = some v → E.Z b (o + i) = some v) ∧ RelL E (leaves kn es d j) vs ∧ ∀ u ∈ vs, u.oneCell' = true
  | [], _, _, _, _, _ => ⟨[], rfl, by simp, rfl, by simp⟩
  | s :: es, b, o, d, j, ⟨⟨v, hz, hl⟩, h⟩ => by
    obtain ⟨vs, h1, h2, h3, h4⟩ := el_leaves (kn := kn) h
    obtain ⟨g1, g2⟩ := rel_leaf (kn := kn) hl
    refine ⟨v :: vs, by simp [h1], fun i u hu => ?_, ⟨v, vs, rfl, g1, h3⟩, by simpa using ⟨g2, h4⟩⟩
    cases i with
    | zero => simp at hu; subst hu; exact hz
    | succ i => have := h2 i u (by simpa using hu); rwa [show o + (i + 1) = o + 1 + i by omega]
theorem el_take {Z : Nat → Nat → Option Value} : ∀ (n : Nat) {es : List Sh} {b o : Nat} {d : D} {j : Nat}, EL Z es b o d j → EL Z (es.take n) b o d j
  | 0, _, _, _, _, _, _ => by simp [EL]
  | n + 1, [], _, _, _, _, _ => by simp [EL]
  | n + 1, s :: es, _, _, _, _, ⟨h1, h2⟩ => by simp only [List.take_succ_cons]; exact ⟨h1, el_take n h2⟩
theorem el_drop {Z : Nat → Nat → Option Value} : ∀ (n : Nat) {es : List Sh} {b o : Nat} {d : D} {j : Nat}, EL Z es b o d j → EL Z (es.drop n) b (o + n) d (j + n)
  | 0, _, _, _, _, _, h => by simpa using h
  | n + 1, [], _, _, _, _, _ => by simp [EL]
  | n + 1, s :: es, b, o, d, j, ⟨_, h2⟩ => by
    have := el_drop n h2
    simp only [List.drop_succ_cons]
    rwa [show o + 1 + n = o + (n + 1) by omega, show j + 1 + n = j + (n + 1) by omega] at this

theorem sizeT_info {t : TypeId} {n : Nat} (hs : sizeT P t = some n) : ∃ i, P.info? t = some i ∧ i.size = n := by
  unfold sizeT at hs
  cases hi : P.info? t with
  | none => rw [hi] at hs; cases hs
  | some i => rw [hi] at hs; exact ⟨i, rfl, Option.some.inj hs⟩
theorem run_sizeOf {t : TypeId} {n : Nat} (hs : sizeT P t = some n) : (sizeOf t).run P w = .ok n w := by
  obtain ⟨i, hi, rfl⟩ := sizeT_info hs
  simp [sizeOf, typeInfo, hi]
theorem addr_add' (b o n : Nat) : (⟨b, o, none⟩ : Addr).add n = ⟨b, o + n, none⟩ := by unfold Addr.add; split <;> simp_all

theorem re_leaves {kn : Bool} {cs : Array Value} : ∀ {es : List Sh} {p : Nat} {d : D} {j : Nat}, RE E.Z es cs p d j → ∃ vs : List Value, vs.length = es.length ∧ (∀ i v, vs[i]? = some v → cs[p + i]? = some v) ∧ RelL E (leaves kn es d j) vs ∧ ∀ u ∈ vs, u.oneCell' = true
  | [], _, _, _, _ => ⟨[], rfl, by simp, rfl, by simp⟩
  | s :: es, p, d, j, ⟨⟨v, hz, hl⟩, h⟩ => by
    obtain ⟨vs, h1, h2, h3, h4⟩ := re_leaves (kn := kn) h
    obtain ⟨g1, g2⟩ := rel_leaf (kn := kn) hl
    refine ⟨v :: vs, by simp [h1], fun i u hu => ?_, ⟨v, vs, rfl, g1, h3⟩, by simpa using ⟨g2, h4⟩⟩
    cases i with
    | zero => simp at hu; subst hu; exact hz
    | succ i => have := h2 i u (by simpa using hu); rwa [show p + (i + 1) = p + 1 + i by omega]
theorem re_take {Z : Nat → Nat → Option Value} {cs : Array Value} : ∀ (n : Nat) {es : List Sh} {p : Nat} {d : D} {j : Nat}, RE Z es cs p d j → RE Z (es.take n) cs p d j
  | 0, _, _, _, _, _ => by simp [RE]
  | n + 1, [], _, _, _, _ => by simp [RE]
  | n + 1, s :: es, _, _, _, ⟨h1, h2⟩ => by simp only [List.take_succ_cons]; exact ⟨h1, re_take n h2⟩
theorem re_drop {Z : Nat → Nat → Option Value} {cs : Array Value} : ∀ (n : Nat) {es : List Sh} {p : Nat} {d : D} {j : Nat}, RE Z es cs p d j → RE Z (es.drop n) cs (p + n) d (j + n)
  | 0, _, _, _, _, h => by simpa using h
  | n + 1, [], _, _, _, _ => by simp [RE]
  | n + 1, s :: es, p, d, j, ⟨_, h2⟩ => by
    have := re_drop n h2
    simp only [List.drop_succ_cons]
    rwa [show p + 1 + n = p + (n + 1) by omega, show j + 1 + n = j + (n + 1) by omega] at this
/-- a row's block -/
theorem row_ob (I : Inv P w0 G E h w) {o : Nat} {es : List Sh} {d : D} (H : rowOf o h = some (es, d)) : lookO o h.ob = some [.rw es d] ∧ ∃ cs t, w.heap[E.β o]? = some (.cells cs t (0, 0)) ∧ d.len * szB es ≤ room ∧ ∀ i, i < d.len → RE E.Z es cs (i * es.length) (d.get i) 0 := by
  unfold rowOf at H
  split at H
  · rename_i es' d' hl
    cases H
    refine ⟨hl, ?_⟩
    obtain ⟨vs, ob, hb, hr, hok⟩ := I.ob o _ hl
    obtain ⟨v, vs', rfl, ⟨h0, cs, rfl, h2⟩, h3⟩ := hr
    have h3 : vs' = [] := h3
    subst h3
    rcases hok with ⟨t, _, h1⟩ | (⟨_, _, _, h1⟩ | ⟨_, _, _, _, _, h1⟩) | ⟨cs', t, h1, h4⟩
    · have := h1 _ List.mem_cons_self; cases this
    · cases h1
    · cases h1
    · cases h4
      exact ⟨cs, t, h1 ▸ hb, h0, h2⟩
  · cases H

/-- a row of values in immutable cells -/
theorem z_range (I : Inv P w0 G E h w) {b o : Nat} {vs : List Value} (hz : ∀ i v, vs[i]? = some v → E.Z b (o + i) = some v) : w.rangeAt b o vs := fun j v hv => I.z _ _ _ (hz j v hv)

theorem ZAt.drop {vs : List Value} {b o : Nat} (h : ZAt E vs b o) (n : Nat) : ZAt E (vs.drop n) b (o + n) := fun i u hu => by
  rw [List.getElem?_drop] at hu
  rw [Nat.add_assoc]; exact h _ u hu
theorem ZAt.take {vs : List Value} {b o : Nat} (h : ZAt E vs b o) (n : Nat) : ZAt E (vs.take n) b o := fun i u hu => by
  rw [List.getElem?_take] at hu
  split at hu
  · exact h i u hu
  · cases hu
/-- a world in which what is read is as it is in w -/
def Sees (E : Env) (x : AV) (w W : World) : Prop := (∀ b j v, E.Z b j = some v → W.cell? ⟨b, j, none⟩ = some v) ∧ ∀ o, tgt x = some o → W.heap[E.β o]? = w.heap[E.β o]?
theorem Inv.sees (I : Inv P w0 G E h w) (x : AV) : Sees E x w w := ⟨I.z, fun _ _ => rfl⟩
theorem loadA_ok {K : AV → Prop} {t : TypeId} {x : AV} {v : Value} (H : (loadA P t x h).holds K) (I : Inv P w0 G E h w) (hx : Rel E x v) :
    ∃ av u, K av ∧ (∀ W, Sees E x w W → (Instr.loadAt t v).run P W = .ok u W) ∧ Rel E av u := by
  unfold loadA at H
  split at H
  · exact H.elim
  rename_i n hn
  cases hu : P.underlying t with
  | none => simp only [hu] at H; exact H.elim
  | some d =>
    simp only [hu] at H
    split at H
    · -- a variable
      rename_i o off
      obtain ⟨hlive, rfl⟩ := hx
      split at H
      · exact H.elim
      rename_i cs hcs
      cases hvar : isVar cs
      · rw [hvar] at H; exact H.elim
      rw [hvar] at H
      simp only [cond_true] at H
      obtain ⟨vs, ob, hb, hrel, hok⟩ := I.ob o cs hcs
      obtain ⟨ty, rfl, h1⟩ := ob_cells hvar hrel hok
      have hcell : ∀ W, Sees E (.ptr o off) w W → ∀ j, W.cell? ⟨E.β o, j, none⟩ = vs[j]? := fun W hW j => by rw [cell_of_row W _ j _ _ _ ((hW.2 o rfl).trans hb)]; simp
      cases hr : d.isRow
      · simp only [hr, cond_false] at H
        split at H
        · rename_i y hy
          obtain ⟨u, hu', hru⟩ := RelL.get hrel hy
          refine ⟨y, u, H, fun W hW => ?_, hru⟩
          have hag : (isAgg t).run P W = .ok false W := by
            unfold isAgg
            simp only [Sem.run_bind, run_underlying hu, Result.andThen_ok]
            cases d <;> first | rfl | simp [TypeDesc.isRow] at hr
          simp [Instr.loadAt, Instr.sureAddr, loadVar, hag, hcell W hW, hu']
        · exact H.elim
      · simp only [hr, cond_true] at H
        cases hle : Nat.ble (off + n) cs.length
        · rw [hle] at H; exact H.elim
        · rw [hle] at H
          have hle' := Nat.le_of_ble_eq_true hle
          have hlen : vs.length = cs.length := hrel.length.symm
          refine ⟨_, .agg ((vs.drop off).take n).toArray, H, fun W hW => ?_, ⟨_, rfl, by simpa using (hrel.drop off).take n, fun u hu' => h1 u (List.mem_of_mem_drop (List.mem_of_mem_take (by simpa using hu')))⟩⟩
          have hrow : W.rangeAt (E.β o) off ((vs.drop off).take n) := fun j u hu' => by
            rw [hcell W hW]
            rw [List.getElem?_take] at hu'
            split at hu'
            · rwa [List.getElem?_drop] at hu'
            · cases hu'
          have hsz : (P.info? t).map (·.size) = some ((vs.drop off).take n).length := by
            obtain ⟨i, hi, hi2⟩ := sizeT_info hn
            rw [hi]; simp [hi2]; omega
          have := run_loadVar_mid (P := P) W (E.β o) off t _ d hrow hu hr hsz
          simp [Instr.loadAt, Instr.sureAddr, this]
    · -- an element
      rename_i kn es d' j
      obtain ⟨b, o, rfl, hel⟩ := hx
      cases hr : d.isRow
      · simp only [hr, cond_false] at H
        split at H
        · rename_i s es'
          obtain ⟨⟨u, hz, hl⟩, _⟩ := hel
          obtain ⟨g1, g2⟩ := rel_leaf (kn := kn) hl
          refine ⟨_, u, H, fun W hW => ?_, g1⟩
          have hl := hW.1 _ _ _ hz
          have hag : (isAgg t).run P W = .ok false W := by
            unfold isAgg
            simp only [Sem.run_bind, run_underlying hu, Result.andThen_ok]
            cases d <;> first | rfl | simp [TypeDesc.isRow] at hr
          simp [Instr.loadAt, Instr.sureAddr, loadVar, hag, hl]
        · exact H.elim
      · simp only [hr, cond_true] at H
        cases hle : Nat.ble n es.length
        · rw [hle] at H; exact H.elim
        · rw [hle] at H
          have hle' := Nat.le_of_ble_eq_true hle
          obtain ⟨vs, g1, g2, g3, g4⟩ := el_leaves (kn := kn) (el_take n hel)
          refine ⟨_, .agg vs.toArray, H, fun W hW => ?_, ⟨_, rfl, by simpa using g3, by simpa using g4⟩⟩
          have hsz : (P.info? t).map (·.size) = some vs.length := by
            obtain ⟨i, hi, hi2⟩ := sizeT_info hn
            rw [hi, g1]; simp [hi2]; omega
          have := run_loadVar_mid (P := P) W b o t _ d (fun j v hv => hW.1 _ _ _ (g2 j v hv)) hu hr hsz
          simp [Instr.loadAt, Instr.sureAddr, this]
    · -- an element of a row
      rename_i kn o m i j
      obtain ⟨hlive, rfl⟩ := hx
      split at H
      · rename_i es d' hrow
        obtain ⟨hlk, cs, ty, hb, _, hre⟩ := row_ob I hrow
        cases hm : Nat.beq m es.length
        · rw [hm] at H; exact H.elim
        rw [hm] at H
        obtain rfl := Nat.eq_of_beq_eq_true hm
        obtain ⟨hc, H⟩ := need_holds H
        have hc := of_decide_eq_true hc
        have hre := hre i hc
        have hcell : ∀ W, Sees E (.rp kn o es.length i j) w W → ∀ q, W.cell? ⟨E.β o, q, none⟩ = cs[q]? := fun W hW q => by
          have hb' : W.heap[E.β o]? = some (.cells cs.toList.toArray ty (0, 0)) := (hW.2 o rfl).trans (by simpa using hb)
          rw [cell_of_row W _ q _ _ _ hb']
        cases hr : d.isRow
        · simp only [hr, cond_false] at H
          split at H
          · rename_i s es' hes
            have hel := re_drop j hre
            rw [hes, Nat.zero_add] at hel
            obtain ⟨⟨u, hz, hl⟩, _⟩ := hel
            obtain ⟨g1, g2⟩ := rel_leaf (kn := kn) hl
            refine ⟨_, u, H, fun W hW => ?_, g1⟩
            have hl := (hcell W hW _).trans hz
            have hag : (isAgg t).run P W = .ok false W := by
              unfold isAgg
              simp only [Sem.run_bind, run_underlying hu, Result.andThen_ok]
              cases d <;> first | rfl | simp [TypeDesc.isRow] at hr
            simp [Instr.loadAt, Instr.sureAddr, loadVar, hag, hl]
          · exact H.elim
        · simp only [hr, cond_true] at H
          cases hle : Nat.ble (j + n) es.length
          · rw [hle] at H; exact H.elim
          · rw [hle] at H
            have hle' := Nat.le_of_ble_eq_true hle
            obtain ⟨vs, g1, g2, g3, g4⟩ := re_leaves (kn := kn) (re_take n (re_drop j hre))
            rw [Nat.zero_add] at g3
            refine ⟨_, .agg vs.toArray, H, fun W hW => ?_, ⟨_, rfl, by simpa using g3, by simpa using g4⟩⟩
            have hsz : (P.info? t).map (·.size) = some vs.length := by
              obtain ⟨i, hi, hi2⟩ := sizeT_info hn
              rw [hi, g1]; simp [hi2]; omega
            have := run_loadVar_mid (P := P) W (E.β o) (i * es.length + j) t _ d (fun q v hv => (hcell W hW _).trans (g2 q v hv)) hu hr hsz
            simp [Instr.loadAt, Instr.sureAddr, this]
      · exact H.elim
    · -- cells that stay
      rename_i cs'
      obtain ⟨vs, b, o, hr', h1', rfl, hz⟩ := hx
      cases hr : d.isRow
      · simp only [hr, cond_false] at H
        split at H
        · rename_i y ys
          obtain ⟨u, vs', rfl, hy, _⟩ := hr'
          refine ⟨y, u, H, fun W hW => ?_, hy⟩
          have hl := hW.1 _ _ _ (hz 0 u rfl)
          rw [Nat.add_zero] at hl
          have hag : (isAgg t).run P W = .ok false W := by
            unfold isAgg
            simp only [Sem.run_bind, run_underlying hu, Result.andThen_ok]
            cases d <;> first | rfl | simp [TypeDesc.isRow] at hr
          simp [Instr.loadAt, Instr.sureAddr, loadVar, hag, hl]
        · exact H.elim
      · simp only [hr, cond_true] at H
        cases hle : Nat.ble n cs'.length
        · rw [hle] at H; exact H.elim
        · rw [hle] at H
          have hle' := Nat.le_of_ble_eq_true hle
          have hlen := hr'.length
          refine ⟨_, .agg (vs.take n).toArray, H, fun W hW => ?_, ⟨_, rfl, by simpa using hr'.take n, fun u hu' => h1' u (List.mem_of_mem_take (by simpa using hu'))⟩⟩
          have hsz : (P.info? t).map (·.size) = some (vs.take n).length := by
            obtain ⟨i, hi, hi2⟩ := sizeT_info hn
            rw [hi]; simp [hi2]; omega
          have := run_loadVar_mid (P := P) W b o t _ d (fun j v hv => hW.1 _ _ _ (hz.take n j v hv)) hu hr hsz
          simp [Instr.loadAt, Instr.sureAddr, this]
    · exact H.elim

theorem fieldAddrA_ok {K : AV → Prop} {s : TypeId} {x : AV} {f : Nat} {v : Value} (H : (fieldAddrA P s x f).holds K) (hx : Rel E x v) :
    ∃ av u, K av ∧ (∀ w, (Instr.fieldAt s v f).run P w = .ok u w) ∧ Rel E av u := by
  unfold fieldAddrA at H
  split at H
  · rename_i fs hu
    split at H
    · rename_i fd hf
      split at H
      · rename_i n hn
        have hn0 : ¬ n + 1 = 0 := by omega
        have key : ∀ b o w, (Instr.fieldAt s (.pointer (some ⟨b, o, none⟩)) f).run P w = .ok (.pointer (some ⟨b, o + fd.offset, none⟩)) w := fun b o w => by
          simp [Instr.fieldAt, run_underlying hu, hf, Instr.sureAddr, fieldPlace, run_sizeOf hn, addr_add']
        split at H
        · rename_i o off
          obtain ⟨h1, rfl⟩ := hx
          exact ⟨_, _, H, key _ _, h1, rfl⟩
        · rename_i kn es d j
          obtain ⟨b, o, rfl, h1⟩ := hx
          cases hle : Nat.ble fd.offset es.length
          · rw [hle] at H; exact H.elim
          · rw [hle] at H
            exact ⟨_, _, H, key _ _, b, _, rfl, el_drop _ h1⟩
        · rename_i kn o m i j
          obtain ⟨h1, rfl⟩ := hx
          exact ⟨_, _, H, key _ _, h1, by rw [Nat.add_assoc]⟩
        · rename_i cs
          obtain ⟨vs, b, o, h1, h2, rfl, h3⟩ := hx
          exact ⟨_, _, H, key _ _, vs.drop fd.offset, b, _, h1.drop _, (fun u hu => h2 u (List.mem_of_mem_drop hu)), rfl, h3.drop _⟩
        · exact H.elim
      · exact H.elim
    · exact H.elim
  · exact H.elim
end
end
end Go.Proofs.YtokiedeiamlnlaaGreat
