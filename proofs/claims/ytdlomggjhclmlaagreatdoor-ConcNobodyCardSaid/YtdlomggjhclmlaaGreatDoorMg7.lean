/- Mg7: texts of this claim, one behind the other: EvD EvE EvF EvG. No condition. -/
import Derived.Test.YtdlomggjhclmlaaGreatDoorMg6
namespace Go.Proofs.YtdlomggjhclmlaaGreatDoor
set_option linter.unusedSimpArgs false
set_option linter.unusedVariables false
open Go.RowKit
set_option maxRecDepth 10000
noncomputable section

mutual
/-- a value without what the heap tells -/
def strip : AV → AV
  | .ptr _ _ => .any
  | .mp _ => .any
  | .sl kn es d _ => .sl kn es d none
  | .fn f a c => .fn f (stripL a) (stripL c)
  | .agg cs => .agg (stripL cs)
  | .tup vs => .tup (stripL vs)
  | .any => .any
  | .sc kn v => .sc kn v
  | .ep kn es d j => .ep kn es d j
  | .rsl _ _ _ _ => .any
  | .rp _ _ _ _ _ => .any
  | .rw es d => .rw es d
  | .vsl _ _ _ _ _ => .any
  | .al _ _ _ _ => .any
  | .ea _ => .any
def stripL : List AV → List AV
  | [] => []
  | x :: xs => strip x :: stripL xs
end
mutual
theorem ren_strip (g0 : Nat) (gn : List (Nat × Nat × TypeId)) : ∀ (x : AV), ren [] [] g0 gn x = strip x
  | .ptr _ _ => rfl
  | .mp _ => rfl
  | .sl _ _ _ none => rfl
  | .sl _ _ _ (some (_, _)) => rfl
  | .fn f a c => by simp only [ren, strip, ren_stripL g0 gn a, ren_stripL g0 gn c]
  | .agg cs => by simp only [ren, strip, ren_stripL g0 gn cs]
  | .tup cs => by simp only [ren, strip, ren_stripL g0 gn cs]
  | .any => rfl
  | .sc _ _ => rfl
  | .ep _ _ _ _ => rfl
  | .rsl _ _ _ _ => rfl
  | .rp _ _ _ _ _ => rfl
  | .rw _ _ => rfl
  | .vsl _ _ _ _ _ => rfl
  | .al _ _ _ _ => rfl
  | .ea _ => rfl
theorem ren_stripL (g0 : Nat) (gn : List (Nat × Nat × TypeId)) : ∀ (xs : List AV), renL [] [] g0 gn xs = stripL xs
  | [] => rfl
  | x :: xs => by simp only [renL, stripL, ren_strip g0 gn x, ren_stripL g0 gn xs]
end
mutual
theorem bak_strip (m ng : Nat) (gn : List (Nat × Nat × TypeId)) : ∀ (x : AV), bak [] [] m ng 0 gn x = strip x
  | .ptr _ _ => rfl
  | .mp _ => rfl
  | .sl _ _ _ none => rfl
  | .sl kn es d (some (j, g)) => by
    simp only [bak, strip]
    split
    · rename_i g' e _
      have : Nat.blt j 0 = false := rfl
      rw [this, Bool.and_false]; rfl
    · rfl
  | .fn f a c => by simp only [bak, strip, bak_stripL m ng gn a, bak_stripL m ng gn c]
  | .agg cs => by simp only [bak, strip, bak_stripL m ng gn cs]
  | .tup cs => by simp only [bak, strip, bak_stripL m ng gn cs]
  | .any => rfl
  | .sc _ _ => rfl
  | .ep _ _ _ _ => rfl
  | .rsl _ _ _ _ => rfl
  | .rp _ _ _ _ _ => rfl
  | .rw _ _ => rfl
  | .vsl _ _ _ _ _ => rfl
  | .al _ _ _ _ => rfl
  | .ea _ => rfl
theorem bak_stripL (m ng : Nat) (gn : List (Nat × Nat × TypeId)) : ∀ (xs : List AV), bakL [] [] m ng 0 gn xs = stripL xs
  | [] => rfl
  | x :: xs => by simp only [bakL, stripL, bak_strip m ng gn x, bak_stripL m ng gn xs]
end
mutual
theorem strip_strip : ∀ (x : AV), strip (strip x) = strip x
  | .ptr _ _ => rfl
  | .mp _ => rfl
  | .sl _ _ _ _ => rfl
  | .fn f a c => by simp only [strip, strip_stripL a, strip_stripL c]
  | .agg cs => by simp only [strip, strip_stripL cs]
  | .tup cs => by simp only [strip, strip_stripL cs]
  | .any => rfl
  | .sc _ _ => rfl
  | .ep _ _ _ _ => rfl
  | .rsl _ _ _ _ => rfl
  | .rp _ _ _ _ _ => rfl
  | .rw _ _ => rfl
  | .vsl _ _ _ _ _ => rfl
  | .al _ _ _ _ => rfl
  | .ea _ => rfl
theorem strip_stripL : ∀ (xs : List AV), stripL (stripL xs) = stripL xs
  | [] => rfl
  | x :: xs => by simp only [stripL, strip_strip x, strip_stripL xs]
end
mutual
/-- a value of which nothing is known ahead -/
def dull : AV → AV
  | .sc _ v => .sc false v
  | .sl _ es d tip => .sl false es d tip
  | .ep _ es d j => .ep false es d j
  | .rsl _ o n len => .rsl false o n len
  | .rp _ o n i j => .rp false o n i j
  | .rw es d => .rw es d
  | .fn f a c => .fn f (dullL a) (dullL c)
  | .agg cs => .agg (dullL cs)
  | .tup vs => .tup (dullL vs)
  | .any => .any
  | .ptr o off => .ptr o off
  | .mp o => .mp o
  | .vsl o off n len cap => .vsl o off n len cap
  | .al n len cs tip => .al n len cs tip
  | .ea cs => .ea cs
def dullL : List AV → List AV
  | [] => []
  | x :: xs => dull x :: dullL xs
end
mutual
theorem dull_rel {E : Env} : ∀ (x : AV) (v : Value), Rel E x v → Rel E (dull x) v
  | .sc _ _, _, H => H
  | .sl _ _ _ _, _, H => H
  | .ep _ _ _ _, _, H => H
  | .rsl _ _ _ _, _, H => H
  | .rp _ _ _ _ _, _, H => H
  | .rw _ _, _, H => H
  | .fn f a c, v, ⟨a', c', h1, h2, h3⟩ => ⟨a', c', h1, dull_relL a _ h2, dull_relL c _ h3⟩
  | .agg cs, v, ⟨cs', h1, h2, h3⟩ => ⟨cs', h1, dull_relL cs _ h2, h3⟩
  | .tup vs, v, ⟨vs', h1, h2⟩ => ⟨vs', h1, dull_relL vs _ h2⟩
  | .any, _, H => H
  | .ptr _ _, _, H => H
  | .mp _, _, H => H
  | .vsl _ _ _ _ _, _, H => H
  | .al _ _ _ _, _, H => H
  | .ea _, _, H => H
theorem dull_relL {E : Env} : ∀ (xs : List AV) (vs : List Value), RelL E xs vs → RelL E (dullL xs) vs
  | [], _, H => H
  | x :: xs, _, ⟨v, vs', h1, h2, h3⟩ => ⟨v, vs', h1, dull_rel x v h2, dull_relL xs vs' h3⟩
end
mutual
theorem strip_rel {E : Env} : ∀ (x : AV) (v : Value), Rel E x v → Rel E (strip x) v
  | .ptr _ _, _, _ => trivial
  | .mp _, _, _ => trivial
  | .sl _ _ _ _, _, ⟨h, _⟩ => ⟨h, trivial⟩
  | .fn f a c, v, ⟨a', c', h1, h2, h3⟩ => ⟨a', c', h1, strip_relL a _ h2, strip_relL c _ h3⟩
  | .agg cs, v, ⟨cs', h1, h2, h3⟩ => ⟨cs', h1, strip_relL cs _ h2, h3⟩
  | .tup vs, v, ⟨vs', h1, h2⟩ => ⟨vs', h1, strip_relL vs _ h2⟩
  | .any, _, H => H
  | .sc _ _, _, H => H
  | .ep _ _ _ _, _, H => H
  | .rsl _ _ _ _, _, _ => trivial
  | .rp _ _ _ _ _, _, _ => trivial
  | .rw _ _, _, H => H
  | .vsl _ _ _ _ _, _, _ => trivial
  | .al _ _ _ _, _, _ => trivial
  | .ea _, _, _ => trivial
theorem strip_relL {E : Env} : ∀ (xs : List AV) (vs : List Value), RelL E xs vs → RelL E (stripL xs) vs
  | [], _, H => H
  | x :: xs, _, ⟨v, vs', h1, h2, h3⟩ => ⟨v, vs', h1, strip_rel x v h2, strip_relL xs vs' h3⟩
end
def hp0 : Hp := ⟨[], 0, [], 0, 0, 0⟩
/-- nil, where a slice is looked for -/
def nilS : Sh → AV → AV
  | .sl es, .sc _ (.slice none 0 0) => .sl false es (.l []) none
  | _, x => x
def nilL : List Sh → List AV → List AV
  | s :: ss, x :: xs => nilS s x :: nilL ss xs
  | _, xs => xs
def nilA1 (ss : List Sh) : AV → AV
  | .agg cs => .agg (nilL ss cs)
  | x => match ss with | [s] => nilS s x | _ => x
def nilAs : List (List Sh) → List AV → List AV
  | ss :: r, x :: xs => nilA1 ss x :: nilAs r xs
  | _, xs => xs
theorem nilS_rel {E : Env} (s : Sh) (x : AV) (v : Value) (h : Rel E x v) : Rel E (nilS s x) v := by
  unfold nilS
  split
  · obtain ⟨rfl, _⟩ := h
    have h0 : (D.l []).len = 0 := by simp [D.len, D.toL, D.raw]
    exact ⟨⟨by rw [h0, Nat.zero_mul]; exact Nat.zero_le _, none, 0, by rw [h0], by rw [h0]; exact Nat.le_refl _, Nat.zero_le _, fun _ => rfl, fun hn => absurd h0 hn⟩, trivial⟩
  · exact h
theorem nilL_rel {E : Env} : ∀ (ss : List Sh) (xs : List AV) (vs : List Value), RelL E xs vs → RelL E (nilL ss xs) vs
  | [], xs, _, h => by cases xs <;> exact h
  | _ :: _, [], _, h => h
  | s :: ss, x :: xs, _, ⟨v, vs', h1, h2, h3⟩ => ⟨v, vs', h1, nilS_rel s x v h2, nilL_rel ss xs vs' h3⟩
theorem nilA1_rel {E : Env} (ss : List Sh) (x : AV) (v : Value) (h : Rel E x v) : Rel E (nilA1 ss x) v := by
  unfold nilA1
  split
  · obtain ⟨cs, h1, h2, h3⟩ := h
    exact ⟨cs, h1, nilL_rel ss _ _ h2, h3⟩
  · split
    · exact nilS_rel _ _ _ h
    · exact h
theorem nilAs_rel {E : Env} : ∀ (ss : List (List Sh)) (xs : List AV) (vs : List Value), RelL E xs vs → RelL E (nilAs ss xs) vs
  | [], xs, _, h => by cases xs <;> exact h
  | _ :: _, [], _, h => h
  | s :: ss, x :: xs, _, ⟨v, vs', h1, h2, h3⟩ => ⟨v, vs', h1, nilA1_rel s x v h2, nilAs_rel ss xs vs' h3⟩
def argS (P : Program) (f : FuncId) : List (List Sh) := match P.funcs[f]? with | some fn => fn.params.toList.map (shE P) | none => []
/-- what is looked at of arguments -/
def args0 (P : Program) (f : FuncId) (args : List AV) : List AV := nilAs (argS P f) (dullL (stripL args))
theorem args0_rel {P : Program} {f : FuncId} {E : Env} {args : List AV} {vals : List Value} (h : RelL E args vals) : RelL E (args0 P f args) vals := nilAs_rel _ _ _ (dull_relL _ _ (strip_relL _ _ h))
mutual
/-- data, all of it known -/
def knowD : D → D
  | .i v => .ki v | .b v => .kb v | .s v => .ks v
  | .l v => .kl (knowDL v) | .kl v => .kl (knowDL v) | .t v => .t (knowDL v)
  | .n => .n | .ki v => .ki v | .kb v => .kb v | .ks v => .ks v
def knowDL : List D → List D
  | [] => []
  | d :: ds => knowD d :: knowDL ds
end
mutual
def deepK : D → Bool
  | .i _ => false | .b _ => false | .s _ => false | .l _ => false
  | .kl v => deepKL v | .t v => deepKL v
  | .n => true | .ki _ => true | .kb _ => true | .ks _ => true
def deepKL : List D → Bool
  | [] => true
  | d :: ds => deepK d && deepKL ds
end
/-- a slice's elements, all known -/
def deepKS (d : D) : Bool := deepKL d.raw
mutual
/-- whether all of a value is known ahead (a hint alone) -/
def allK : AV → Bool
  | .sc kn _ => kn
  | .sl kn _ d _ => bif kn then deepKS d else false
  | .agg cs => allKL cs
  | _ => false
def allKL : List AV → Bool
  | [] => true
  | x :: xs => bif allK x then allKL xs else false
end
mutual
def knowA : AV → AV
  | .sc _ v => .sc true v
  | .sl _ es d tip => .sl true es (knowD d) tip
  | .agg cs => .agg (knowAL cs)
  | .tup vs => .tup (knowAL vs)
  | .any => .any
  | .ptr o off => .ptr o off
  | .mp o => .mp o
  | .ep kn es d j => .ep kn es d j
  | .fn f a c => .fn f a c
  | .rsl kn o n len => .rsl kn o n len
  | .rp kn o n i j => .rp kn o n i j
  | .rw es d => .rw es d
  | .vsl o off n len cap => .vsl o off n len cap
  | .al n len cs tip => .al n len cs tip
  | .ea cs => .ea cs
def knowAL : List AV → List AV
  | [] => []
  | x :: xs => knowA x :: knowAL xs
end
theorem knowDL_map : ∀ l : List D, knowDL l = l.map knowD
  | [] => rfl
  | _ :: l => by simp only [knowDL, List.map_cons, knowDL_map l]
theorem knowD_toI : ∀ d : D, (knowD d).toI = d.toI := by intro d; cases d <;> rfl
theorem knowD_toB : ∀ d : D, (knowD d).toB = d.toB := by intro d; cases d <;> rfl
theorem knowD_toS : ∀ d : D, (knowD d).toS = d.toS := by intro d; cases d <;> rfl
theorem knowD_toL : ∀ d : D, (knowD d).toL = d.toL.map knowD := by
  intro d
  cases d <;> simp [knowD, D.toL, D.raw, knowDL_map, List.map_take]
theorem knowD_len (d : D) : (knowD d).len = d.len := by unfold D.len; rw [knowD_toL]; simp
theorem knowD_get (d : D) (i : Nat) : (knowD d).get i = knowD (d.get i) := by
  unfold D.get
  rw [knowD_toL, List.getD_eq_getElem?_getD, List.getD_eq_getElem?_getD, List.getElem?_map]
  cases d.toL[i]? <;> rfl
theorem knowD_cell (d : D) (j : Nat) : (knowD d).cell j = knowD (d.cell j) := by
  cases d with
  | t cs =>
    show (D.t (knowDL cs)).cell j = knowD ((D.t cs).cell j)
    simp only [D.cell, knowDL_map, List.getD_eq_getElem?_getD, List.getElem?_map]
    cases cs[j]? <;> rfl
  | _ => cases j <;> rfl
mutual
theorem know_lf {Z : Nat → Nat → Option Value} : ∀ (s : Sh) (v : Value) (d : D), LF Z s v d → LF Z s v (knowD d)
  | .int _, v, d, H => by simp only [LF] at H ⊢; rw [knowD_toI]; exact H
  | .bool, v, d, H => by simp only [LF] at H ⊢; rw [knowD_toB]; exact H
  | .str, v, d, H => by simp only [LF] at H ⊢; rw [knowD_toS]; exact H
  | .sl es, v, d, ⟨h0, ad, cap, h1, h2, h3, h4, h5⟩ => by
    refine ⟨by rw [knowD_len]; exact h0, ad, cap, by rw [knowD_len]; exact h1, by rw [knowD_len]; exact h2, h3, h4, fun hn => ?_⟩
    rw [knowD_len] at hn
    obtain ⟨b, o, h6, h7⟩ := h5 hn
    refine ⟨b, o, h6, fun i hi => ?_⟩
    rw [knowD_len] at hi
    rw [knowD_get]
    exact know_el es _ _ _ _ (h7 i hi)
theorem know_el {Z : Nat → Nat → Option Value} : ∀ (es : List Sh) (b o : Nat) (d : D) (j : Nat), EL Z es b o d j → EL Z es b o (knowD d) j
  | [], _, _, _, _, _ => trivial
  | s :: ss, b, o, d, j, ⟨⟨v, h1, h2⟩, h3⟩ => ⟨⟨v, h1, by rw [knowD_cell]; exact know_lf s v _ h2⟩, know_el ss _ _ _ _ h3⟩
end
mutual
theorem know_rel {E : Env} : ∀ (x : AV) (v : Value), Rel E x v → Rel E (knowA x) v
  | .sc _ _, _, H => H
  | .sl _ es d tip, v, ⟨h1, h2⟩ => ⟨know_lf (.sl es) v d h1, h2⟩
  | .agg cs, v, ⟨cs', h1, h2, h3⟩ => ⟨cs', h1, know_relL cs _ h2, h3⟩
  | .tup vs, v, ⟨vs', h1, h2⟩ => ⟨vs', h1, know_relL vs _ h2⟩
  | .any, _, H => H
  | .ptr _ _, _, H => H
  | .mp _, _, H => H
  | .ep _ _ _ _, _, H => H
  | .rsl _ _ _ _, _, H => H
  | .rp _ _ _ _ _, _, H => H
  | .rw _ _, _, H => H
  | .fn _ _ _, _, H => H
  | .vsl _ _ _ _ _, _, H => H
  | .al _ _ _ _, _, H => H
  | .ea _, _, H => H
theorem know_relL {E : Env} : ∀ (xs : List AV) (vs : List Value), RelL E xs vs → RelL E (knowAL xs) vs
  | [], _, H => H
  | x :: xs, _, ⟨v, vs', h1, h2, h3⟩ => ⟨v, vs', h1, know_rel x v h2, know_relL xs vs' h3⟩
end
/-- a function that reads and answers values: of known ones it answers known ones -/
def pureS (P : Program) (f : FuncId) (F : List AV → RT AV) : Spec := fun args h => (F (args0 P f args)).bind fun r => .ok (bif allKL args then knowA r else r, h)
theorem hp_bak0 (h h' : Hp) : h.bak [] [] 0 h' = h := by
  obtain ⟨a, b, c, d, e, f⟩ := h
  simp [Hp.bak, bakO, bakG]
mutual
/-- data that can be read are bounded -/
def okS : Sh → D → Prop
  | .int _, _ => True
  | .bool, _ => True
  | .str, _ => True
  | .sl es, d => d.len * szB es ≤ room ∧ ∀ i, i < d.len → okE es (d.get i) 0
def okE : List Sh → D → Nat → Prop
  | [], _, _ => True
  | s :: ss, d, j => okS s (d.cell j) ∧ okE ss d (j + 1)
end
mutual
theorem ok_lf {Z : Nat → Nat → Option Value} : ∀ (s : Sh) (v : Value) (d : D), LF Z s v d → okS s d
  | .int _, _, _, _ => trivial
  | .bool, _, _, _ => trivial
  | .str, _, _, _ => trivial
  | .sl es, v, d, ⟨h0, _, _, _, _, _, _, h5⟩ => ⟨h0, fun i hi => by
      obtain ⟨b, o, _, h7⟩ := h5 (by omega)
      exact ok_el es _ _ _ _ (h7 i hi)⟩
theorem ok_el {Z : Nat → Nat → Option Value} : ∀ (es : List Sh) (b o : Nat) (d : D) (j : Nat), EL Z es b o d j → okE es d j
  | [], _, _, _, _, _ => trivial
  | s :: ss, b, o, d, j, ⟨⟨v, _, h2⟩, h3⟩ => ⟨ok_lf s v _ h2, ok_el ss _ _ _ _ h3⟩
end
mutual
def okA : AV → Prop
  | .sl _ es d _ => okS (.sl es) d
  | .agg cs => okL cs
  | .tup vs => okL vs
  | _ => True
def okL : List AV → Prop
  | [] => True
  | x :: xs => okA x ∧ okL xs
end
mutual
theorem ok_rel {E : Env} : ∀ (x : AV) (v : Value), Rel E x v → okA x
  | .sl _ es d _, v, ⟨h, _⟩ => ok_lf (.sl es) v d h
  | .agg cs, _, ⟨cs', _, h, _⟩ => ok_relL cs _ h
  | .tup cs, _, ⟨cs', _, h⟩ => ok_relL cs _ h
  | .any, _, _ => trivial
  | .sc _ _, _, _ => trivial
  | .ptr _ _, _, _ => trivial
  | .mp _, _, _ => trivial
  | .ep _ _ _ _, _, _ => trivial
  | .rsl _ _ _ _, _, _ => trivial
  | .rp _ _ _ _ _, _, _ => trivial
  | .rw _ _, _, _ => trivial
  | .fn _ _ _, _, _ => trivial
  | .vsl _ _ _ _ _, _, _ => trivial
  | .al _ _ _ _, _, _ => trivial
  | .ea _, _, _ => trivial
theorem ok_relL {E : Env} : ∀ (xs : List AV) (vs : List Value), RelL E xs vs → okL xs
  | [], _, _ => trivial
  | x :: xs, _, ⟨v, vs', _, h2, h3⟩ => ⟨ok_rel x v h2, ok_relL xs vs' h3⟩
end
/-- what is told by x is told by y -/
def Le (x y : AV) : Prop := ∀ E v, Rel E x v → Rel E y v
theorem Le.refl (x : AV) : Le x x := fun _ _ h => h
theorem pureS_ok2 {P : Program} {f : FuncId} {sp : Spec} (hs : SoundF P f sp) {F : List AV → RT AV} (hF : ∀ args K, okL args → (F args).holds K → ∃ args', (∀ E vs, RelL E args vs → RelL E args' vs) ∧ (sp args' hp0).holds fun x => ∃ y, Le (strip x.1) y ∧ K y) : SoundF P f (pureS P f F) := by
  intro args h K H w0 G E w vals I hr
  unfold pureS at H
  rw [RT.holds_bind] at H
  obtain ⟨args', hle, h1⟩ := hF _ _ (ok_relL _ _ (args0_rel hr)) H
  have I2 := (I.ren (os := []) (ks := []) (g0 := 0) .nil .nil (by simp) 0).top
  have hr2 := ren_relL (os := []) (ks := []) (g0 := 0) I _ _ hr
  rw [ren_stripL] at hr2
  refine (hs _ _ _ h1 w _ _ w vals I2 (hle _ _ (nilAs_rel _ _ _ (dull_relL _ _ hr2)))).mono ?_
  rintro e w' ⟨r, h', v, E', hK, rfl, S, hv⟩
  have S3 := Inv.bak (mk := 0) I .nil (by simp) .nil (by simp) (Nat.le_refl _) (Nat.zero_le _) S
  rw [hp_bak0] at S3
  have hv3 := bak_rel (h' := h') S.inv S.ext (mk := 0) .nil (by simp) (Nat.zero_le _) (Nat.le_refl _) (by simp) h.ng r v hv
  rw [bak_strip] at hv3
  obtain ⟨y, hy, hK⟩ := hK
  refine ⟨_, h, v, _, hK, rfl, S3, ?_⟩
  cases allKL args
  · exact hy _ _ hv3
  · exact know_rel _ _ (hy _ _ hv3)
theorem pureS_ok {P : Program} {f : FuncId} {sp : Spec} (hs : SoundF P f sp) {F : List AV → RT AV} (hF : ∀ args K, okL args → (F args).holds K → (sp args hp0).holds fun x => ∃ y, Le (strip x.1) y ∧ K y) : SoundF P f (pureS P f F) :=
  pureS_ok2 hs fun args K ho H => ⟨args, fun _ _ h => h, hF args K ho H⟩
theorem pureS_direct {P : Program} {f : FuncId} {F : List AV → RT AV} (hF : ∀ args K, (F args).holds K → ∀ w0 G E h w vals, Inv P w0 G E h w → RelL E args vals → Calls P f vals.toArray w fun e w' => ∃ r v E', K r ∧ e = .returned v ∧ Stepd P w0 G E h w E' h w' ∧ Rel E' r v) : SoundF P f (pureS P f F) := by
  intro args h K H w0 G E w vals I hr
  unfold pureS at H
  rw [RT.holds_bind] at H
  refine (hF _ _ H w0 G E h w vals I (args0_rel hr)).mono ?_
  rintro e w' ⟨r, v, E', hK, rfl, hS, hv⟩
  refine ⟨_, h, v, E', hK, rfl, hS, ?_⟩
  cases allKL args
  · exact hv
  · exact know_rel _ _ hv
/-- the tree of a function -/
def treeF (sp : Spec) (args : List AV) : RT AV := (sp args hp0).bind fun x => .ok (strip x.1)
theorem pureS_tree {P : Program} {f : FuncId} {sp : Spec} (hs : SoundF P f sp) {F : List AV → RT AV} (hF : ∀ args K, okL args → (F args).holds K → (treeF sp args).holds fun r => ∃ y, Le r y ∧ K y) : SoundF P f (pureS P f F) :=
  pureS_ok hs fun args K ho H => by have := hF args K ho H; unfold treeF at this; rw [RT.holds_bind] at this; exact this
theorem pureS_tree2 {P : Program} {f : FuncId} {sp : Spec} (hs : SoundF P f sp) {F : List AV → RT AV} (hF : ∀ args K, okL args → (F args).holds K → ∃ args', (∀ E vs, RelL E args vs → RelL E args' vs) ∧ (treeF sp args').holds fun r => ∃ y, Le r y ∧ K y) : SoundF P f (pureS P f F) :=
  pureS_ok2 hs fun args K ho H => by
    obtain ⟨args', h1, h2⟩ := hF args K ho H
    refine ⟨args', h1, ?_⟩
    unfold treeF at h2
    rw [RT.holds_bind] at h2
    exact h2

/-! What is told by what. -/
theorem le_int {kn kn' : Bool} {k : IntKind} {m n : Int} (h : m = n) : Le (.sc kn (.int k m)) (.sc kn' (.int k n)) := fun E v hv => by subst h; exact hv
theorem le_bool {kn kn' : Bool} {m n : Bool} (h : m = n) : Le (.sc kn (.bool m)) (.sc kn' (.bool n)) := fun E v hv => by subst h; exact hv
theorem le_str {kn kn' : Bool} {m n : ByteArray} (h : m = n) : Le (.sc kn (.string m)) (.sc kn' (.string n)) := fun E v hv => by subst h; exact hv
/-- the same, as the shapes look at it -/
def eqEl : List Sh → D → D → Nat → Prop
  | [], _, _, _ => True
  | .int _ :: ss, d, e, j => (d.cell j).toI = (e.cell j).toI ∧ eqEl ss d e (j + 1)
  | .bool :: ss, d, e, j => (d.cell j).toB = (e.cell j).toB ∧ eqEl ss d e (j + 1)
  | .str :: ss, d, e, j => (d.cell j).toS = (e.cell j).toS ∧ eqEl ss d e (j + 1)
  | .sl _ :: ss, d, e, j => d.cell j = e.cell j ∧ eqEl ss d e (j + 1)
theorem el_eq {Z : Nat → Nat → Option Value} : ∀ {es : List Sh} {b o : Nat} {d e : D} {j : Nat}, eqEl es d e j → EL Z es b o d j → EL Z es b o e j
  | [], _, _, _, _, _, _, _ => trivial
  | .int _ :: ss, _, _, _, _, _, ⟨h1, h2⟩, ⟨⟨v, g1, g2⟩, g3⟩ => ⟨⟨v, g1, by simp only [LF] at g2 ⊢; rw [← h1]; exact g2⟩, el_eq h2 g3⟩
  | .bool :: ss, _, _, _, _, _, ⟨h1, h2⟩, ⟨⟨v, g1, g2⟩, g3⟩ => ⟨⟨v, g1, by simp only [LF] at g2 ⊢; rw [← h1]; exact g2⟩, el_eq h2 g3⟩
  | .str :: ss, _, _, _, _, _, ⟨h1, h2⟩, ⟨⟨v, g1, g2⟩, g3⟩ => ⟨⟨v, g1, by simp only [LF] at g2 ⊢; rw [← h1]; exact g2⟩, el_eq h2 g3⟩
  | .sl _ :: ss, _, _, _, _, _, ⟨h1, h2⟩, ⟨⟨v, g1, g2⟩, g3⟩ => ⟨⟨v, g1, by rw [← h1]; exact g2⟩, el_eq h2 g3⟩
theorem le_sl {kn kn' : Bool} {es : List Sh} {d e : D} {tip : Option (Nat × Nat)} (hl : d.len = e.len) (hg : ∀ i, i < d.len → eqEl es (d.get i) (e.get i) 0) : Le (.sl kn es d tip) (.sl kn' es e none) := fun E v hv => by
  obtain ⟨⟨h0, ad, cap, h1, h2, h3, h4, h5⟩, _⟩ := hv
  refine ⟨⟨by rw [← hl]; exact h0, ad, cap, by rw [← hl]; exact h1, by rw [← hl]; exact h2, h3, h4, fun hn => ?_⟩, trivial⟩
  obtain ⟨b, o, g1, g2⟩ := h5 (by rw [hl]; exact hn)
  exact ⟨b, o, g1, fun i hi => el_eq (hg i (by rw [hl]; exact hi)) (g2 i (by rw [hl]; exact hi))⟩
theorem eqEl_refl : ∀ (es : List Sh) (d : D) (j : Nat), eqEl es d d j
  | [], _, _ => trivial
  | .int _ :: ss, d, j => ⟨rfl, eqEl_refl ss d (j + 1)⟩
  | .bool :: ss, d, j => ⟨rfl, eqEl_refl ss d (j + 1)⟩
  | .str :: ss, d, j => ⟨rfl, eqEl_refl ss d (j + 1)⟩
  | .sl _ :: ss, d, j => ⟨rfl, eqEl_refl ss d (j + 1)⟩
theorem le_nil {kn kn' : Bool} {es : List Sh} {d : D} (h : d.len = 0) : Le (.sc kn (.slice none 0 0)) (.sl kn' es d none) := fun E v hv => by
  obtain ⟨rfl, _⟩ := hv
  exact ⟨⟨by rw [h, Nat.zero_mul]; exact Nat.zero_le _, none, 0, by rw [h], by rw [h]; exact Nat.le_refl _, Nat.zero_le _, fun _ => rfl, fun hn => absurd h hn⟩, trivial⟩
theorem le_agg {xs ys : List AV} (h : ∀ E vs, RelL E xs vs → RelL E ys vs) : Le (.agg xs) (.agg ys) := fun E v ⟨cs, h1, h2, h3⟩ => ⟨cs, h1, h E _ h2, h3⟩
theorem le_tup {xs ys : List AV} (h : ∀ E vs, RelL E xs vs → RelL E ys vs) : Le (.tup xs) (.tup ys) := fun E v ⟨cs, h1, h2⟩ => ⟨cs, h1, h E _ h2⟩
theorem leL_nil : ∀ E vs, RelL E [] vs → RelL E [] vs := fun _ _ h => h
theorem leL_cons {x y : AV} {xs ys : List AV} (h : Le x y) (hs : ∀ E vs, RelL E xs vs → RelL E ys vs) : ∀ E vs, RelL E (x :: xs) vs → RelL E (y :: ys) vs := fun E _ ⟨v, vs', h1, h2, h3⟩ => ⟨v, vs', h1, h E v h2, hs E vs' h3⟩

/-! Loops. -/
section
variable {P : Program} {Γ : FuncId → Option Spec} {Λ : FuncId → Nat → Option BSpec}
def Hp.dul (h : Hp) : Hp := { h with ob := h.ob.map fun p => (p.1, dullL p.2) }
theorem lookO_dul (o : Nat) : ∀ (l : List (Nat × List AV)), lookO o (l.map fun p => (p.1, dullL p.2)) = (lookO o l).map dullL
  | [] => rfl
  | (k, cs) :: l => by
    simp only [List.map_cons, lookO_cons]
    split
    · rfl
    · exact lookO_dul o l
theorem cnt_dul (o : Nat) : ∀ (l : List (Nat × List AV)), cnt o (l.map fun p => (p.1, dullL p.2)) = cnt o l
  | [] => rfl
  | (k, cs) :: l => by simp only [List.map_cons, cnt_cons, cnt_dul o l]
theorem Inv.dul {w0 w : World} {G : Nat → Prop} {E : Env} {h : Hp} (I : Inv P w0 G E h w) : Inv P w0 G E h.dul w := by
  refine ⟨I.kpt, I.m, I.ng, I.gn, I.gnlt, fun o => ?_, I.nx, fun o cs hcs => ?_, I.own, I.inj, I.z, I.zob, I.vec, I.vinj, I.laid⟩
  · rw [I.live o]
    show _ ↔ (lookO o (h.ob.map _)).isSome = true
    rw [lookO_dul]
    cases lookO o h.ob <;> simp
  · have hcs' : lookO o (h.ob.map fun p => (p.1, dullL p.2)) = some cs := hcs
    rw [lookO_dul] at hcs'
    cases hc : lookO o h.ob with
    | none => rw [hc] at hcs'; cases hcs'
    | some c =>
      simp only [hc, Option.map_some, Option.some.injEq] at hcs'
      subst hcs'
      obtain ⟨vs, t, g1, g2, g3⟩ := I.ob o c hc
      exact ⟨vs, t, g1, dull_relL _ _ g2, g3⟩
/-- the heap under the old names: objects below p, slices below q; stamps from N on -/
def Hp.can (h : Hp) (p q N ep : Nat) : Hp := (h.ren (List.range p) (List.range q) N ep).dul
def Tm.can (F : Tm) (h : Hp) (keep : List Nat) (p q N : Nat) : Tm := ⟨F.nt, keep.map fun t => (t, dull (ren (List.range p) (List.range q) N h.gn (look t F.tm))), F.df.map fun x => (x.1, dullL (renL (List.range p) (List.range q) N h.gn x.2))⟩
theorem look_keep {f : Nat → AV} : ∀ (l : List Nat) (t : Nat), look t (l.map fun t => (t, f t)) = if t ∈ l then f t else .any
  | [], t => by simp [look_nil]
  | k :: l, t => by
    simp only [List.map_cons, look_cons, look_keep l t]
    cases hb : Nat.beq k t
    · have : t ≠ k := fun e => by rw [e] at hb; simp at hb
      simp [this]
    · obtain rfl := Nat.eq_of_beq_eq_true hb; simp
theorem relD_map {E E' : Env} {f : List AV → List AV} (hf : ∀ xs vs, RelL E xs vs → RelL E' (f xs) vs) : ∀ {l : List (FuncId × List AV)} {ds : List Deferred}, RelD E l ds → RelD E' (l.map fun x => (x.1, f x.2)) ds
  | [], _, h => h
  | (g, xs) :: r, _, ⟨cap, args, ds', h1, h2, h3⟩ => ⟨cap, args, ds', h1, hf _ _ h2, relD_map hf h3⟩
theorem Tm.can_ok {w0 w : World} {G : Nat → Prop} {E : Env} {h : Hp} {F : Tm} {t : Act} (I : Inv P w0 G E h w) (hT : RelT E F t) (keep : List Nat) (p q N : Nat) : RelT (E.ren (List.range p) (List.range q) N) (F.can h keep p q N) t := by
  refine ⟨hT.sz, fun i => ?_, hT.df.1, relD_map (fun xs vs hr => dull_relL _ _ (ren_relL I xs vs hr)) hT.df.2⟩
  show Rel _ (look i (keep.map fun t => (t, dull (ren (List.range p) (List.range q) N h.gn (look t F.tm))))) _
  rw [look_keep]
  split
  · exact dull_rel _ _ (ren_rel I _ _ (hT.tm i))
  · exact trivial
theorem can_step {w0 we w : World} {G : Nat → Prop} {Ee E : Env} {he h : Hp} (S : Stepd P w0 G Ee he we E h w) (Ie : Inv P w0 G Ee he we) {p q N ep : Nat} (hp : he.nx ≤ p) (hq : he.nv ≤ q) (hqh : q ≤ h.nv) (hN : he.ng ≤ N) (hep : ∀ o, Ee.live o → ver o he < ep) :
    Stepd P w0 G Ee he we (E.ren (List.range p) (List.range q) N) (h.can p q N ep) w := by
  have gr : ∀ {n i : Nat}, i < n → (List.range n)[i]? = some i := fun h => List.getElem?_range h
  have I2 := (S.inv.ren (os := List.range p) (ks := List.range q) (g0 := N) List.nodup_range List.nodup_range (fun k hk => by have := List.mem_range.1 hk; omega) ep).dul
  refine ⟨⟨fun o ho => ⟨o, gr (by have := Ie.nx o ho; omega), S.ext.live o ho⟩, fun o ho => ?_, S.ext.Z, ?_, ?_, fun k hk => .inr ?_, S.ext.yl⟩, I2, fun o ho => ⟨?_, fun e => ?_⟩, S.zn⟩
  · show E.β ((List.range p).getD o 0) = Ee.β o
    rw [gdp (gr (by have := Ie.nx o ho; omega))]; exact S.ext.β o ho
  · show Ee.m ≤ (List.range q).length
    rw [List.length_range, Ie.m]; exact hq
  · show Ee.ng ≤ N + (List.range q).length
    rw [Ie.ng]; omega
  · show Ee.ng ≤ N + k
    rw [Ie.ng]; omega
  · have := hep o ho; unfold ver at this ⊢; show _ ≤ ep + _; omega
  · have := hep o ho
    unfold ver at this e
    have e' : ep + cnt o (h.can p q N ep).ob = he.ep + cnt o he.ob := e
    omega
/-- what may come behind a round: on with x', or out -/
def RoundOk {α : Type} (mkF : α → Tm) (mkH : α → Hp) (T : α → RT Out) (μ : α → Nat) (id : Nat) (keep : List Nat) (p q N ep : Nat) (x : α) (K : Out → Prop) (r : Out) : Prop :=
  q ≤ r.2.2.nv ∧ match r.1 with
  | .normal => ∃ x', (r.2.1.can r.2.2 keep p q N = mkF x' ∧ r.2.2.can p q N ep = mkH x') ∧ μ x' < μ x ∧ (T x').holds K
  | .exit j => if j = id then K (.normal, r.2.1.can r.2.2 keep p q N, r.2.2.can p q N ep) else K (.exit j, r.2.1.can r.2.2 keep p q N, r.2.2.can p q N ep)
  | .ret => K (.ret, r.2.1.can r.2.2 keep p q N, r.2.2.can p q N ep)
theorem cnt_le (o : Nat) : ∀ (l : List (Nat × List AV)), cnt o l ≤ l.length
  | [] => Nat.le_refl _
  | (k, cs) :: l => by
    rw [cnt_cons]
    have := cnt_le o l
    simp only [List.length_cons]
    split <;> omega
/-- a slice that is nil may grow -/
def proT (P : Program) (e : TypeId) (t : Nat) (s : Tm × Hp) : Tm × Hp :=
  match look t s.1.tm, sizeT P e with
  | .sc _ (.slice none 0 0), some _ => ({ s.1 with tm := (t, .sl false (shE P e) (.l []) (some (s.2.nv, s.2.ng))) :: s.1.tm }, { s.2 with gn := (s.2.nv, s.2.ng, e) :: s.2.gn, nv := s.2.nv + 1, ng := s.2.ng + 1 })
  | _, _ => s
theorem vec_nil {w0 w : World} {G : Nat → Prop} {E : Env} {h : Hp} {e sz : Nat} (I : Inv P w0 G E h w) (hs : sizeT P e = some sz) :
    ∃ E', Stepd P w0 G E h w E' { h with gn := (h.nv, h.ng, e) :: h.gn, nv := h.nv + 1, ng := h.ng + 1 } w ∧ Rel E' (.sl false (shE P e) (.l []) (some (h.nv, h.ng))) (.slice none 0 0) := by
  have hst := I.vec_set (v := .slice none 0 0) (v' := .slice none 0 0) (k := h.nv) (m := h.nv + 1) (xs := []) (news := []) (n' := 0) (.inr ⟨rfl, rfl, rfl⟩) (fun b hb => by cases hb) hs ⟨by simp, .inl ⟨rfl, rfl⟩⟩ (by simp) (Kpt.refl w _) (.inl rfl)
  have h0 : (D.l []).len = 0 := by simp [D.len, D.toL, D.raw]
  refine ⟨_, hst, ⟨by rw [h0, Nat.zero_mul]; exact Nat.zero_le _, none, 0, by rw [h0], by rw [h0]; exact Nat.le_refl _, Nat.zero_le _, fun _ => rfl, fun hn => absurd h0 hn⟩, ?_, ?_, fun _ => ?_⟩
  · show h.nv < h.nv + 1; omega
  · show h.ng < h.ng + 1; omega
  · simp [Env.grow]
theorem proT_ok {w0 w : World} {G : Nat → Prop} {E : Env} {e t : Nat} {F : Tm} {h : Hp} {a : Act} (I : Inv P w0 G E h w) (hT : RelT E F a) : ∃ E', Stepd P w0 G E h w E' (proT P e t (F, h)).2 w ∧ RelT E' (proT P e t (F, h)).1 a := by
  unfold proT
  split
  · rename_i kn sz hl hs
    obtain ⟨E', h1, h2⟩ := vec_nil I hs
    refine ⟨E', h1, ⟨hT.sz, fun i => ?_, hT.df.mono h1.ext⟩⟩
    have hv := hT.tm t
    rw [show look t F.tm = .sc kn (.slice none 0 0) from hl] at hv
    simp only [look_cons]
    cases hb : Nat.beq t i
    · exact Rel.mono h1.ext _ _ (hT.tm i)
    · obtain rfl := Nat.eq_of_beq_eq_true hb
      rw [hv.1]; exact h2
  · exact ⟨E, Stepd.refl I, hT⟩
/-- a cell of a variable that is nil may grow -/
def proO (P : Program) (e : TypeId) (o i : Nat) (s : Tm × Hp) : Tm × Hp :=
  match lookO o s.2.ob, sizeT P e with
  | some cs, some _ => match cs[i]? with
    | some (.sc _ (.slice none 0 0)) => (s.1, { s.2 with ob := (o, cs.set i (.sl false (shE P e) (.l []) (some (s.2.nv, s.2.ng)))) :: s.2.ob, gn := (s.2.nv, s.2.ng, e) :: s.2.gn, nv := s.2.nv + 1, ng := s.2.ng + 1 })
    | _ => s
  | _, _ => s
theorem RelL.set {E : Env} : ∀ {xs : List AV} {vs : List Value} {i : Nat} {x : AV} {v : Value}, RelL E xs vs → vs[i]? = some v → Rel E x v → RelL E (xs.set i x) vs
  | [], _, _, _, _, h, _, _ => h
  | y :: xs, _, i, x, v, ⟨u, vs', h, h1, h2⟩, hv, hx => by
    subst h
    cases i with
    | zero => simp at hv; subst hv; exact ⟨u, vs', rfl, hx, h2⟩
    | succ i => exact ⟨u, vs', rfl, h1, RelL.set h2 (by simpa using hv) hx⟩
theorem Inv.say {w0 w : World} {G : Nat → Prop} {E : Env} {h : Hp} (I : Inv P w0 G E h w) {o : Nat} {cs cs' : List AV} (ho : lookO o h.ob = some cs) (hr : ∀ vs, RelL E cs vs → RelL E cs' vs) : Stepd P w0 G E h w E { h with ob := (o, cs') :: h.ob } w := by
  obtain ⟨vs, t, g1, g2, g3⟩ := I.ob o cs ho
  exact I.put ho (Kpt.refl w _) g1 (hr vs g2) g3
theorem proO_ok {w0 w : World} {G : Nat → Prop} {E : Env} {e o i : Nat} {F : Tm} {h : Hp} {a : Act} (I : Inv P w0 G E h w) (hT : RelT E F a) : ∃ E', Stepd P w0 G E h w E' (proO P e o i (F, h)).2 w ∧ RelT E' (proO P e o i (F, h)).1 a := by
  unfold proO
  split
  · rename_i cs sz hl hs
    split
    · rename_i kn hc
      obtain ⟨E', h1, h2⟩ := vec_nil I hs
      have hl' : lookO o h.ob = some cs := hl
      have S2 := h1.inv.say (o := o) (cs := cs) (cs' := cs.set i (.sl false (shE P e) (.l []) (some (h.nv, h.ng)))) hl' (fun vs hr => by
        obtain ⟨v, hv, hrv⟩ := hr.get hc
        rw [hrv.1] at hv
        exact hr.set hv h2)
      exact ⟨E', h1.trans S2, hT.mono h1.ext⟩
    · exact ⟨E, Stepd.refl I, hT⟩
  · exact ⟨E, Stepd.refl I, hT⟩
/-- a row of promises that slices may grow: (0, t, _, e): a temporary; (1, o, i, e): a variable's cell -/
def proL (P : Program) : List (Bool × Nat × Nat × TypeId) → Tm × Hp → Tm × Hp
  | [], s => s
  | (false, t, _, e) :: r, s => proL P r (proT P e t s)
  | (true, o, i, e) :: r, s => proL P r (proO P e o i s)
theorem proL_ok {w0 w : World} {G : Nat → Prop} {a : Act} : ∀ (l : List (Bool × Nat × Nat × TypeId)) {E : Env} {F : Tm} {h : Hp}, Inv P w0 G E h w → RelT E F a → ∃ E', Stepd P w0 G E h w E' (proL P l (F, h)).2 w ∧ RelT E' (proL P l (F, h)).1 a
  | [], E, F, h, I, hT => ⟨E, Stepd.refl I, hT⟩
  | (false, t, _, e) :: r, E, F, h, I, hT => by
    obtain ⟨E1, h1, h2⟩ := proT_ok (e := e) (t := t) I hT
    obtain ⟨E2, h3, h4⟩ := proL_ok r h1.inv h2
    exact ⟨E2, h1.trans h3, h4⟩
  | (true, o, i, e) :: r, E, F, h, I, hT => by
    obtain ⟨E1, h1, h2⟩ := proO_ok (e := e) (o := o) (i := i) I hT
    obtain ⟨E2, h3, h4⟩ := proL_ok r h1.inv h2
    exact ⟨E2, h1.trans h3, h4⟩
/-- a loop's words: what is kept, how the heap's parts are numbered -/
structure Lw where
  keep : List Nat
  pro : List (Bool × Nat × Nat × TypeId)
  p : Nat
  q : Nat
  N : Nat
  ep : Nat
def Lw.in (L : Lw) (P : Program) (F : Tm) (h : Hp) : Tm × Hp := let s := proL P L.pro (F, h); (s.1.can s.2 L.keep L.p L.q L.N, s.2.can L.p L.q L.N L.ep)
def Lw.fits (L : Lw) (P : Program) (F : Tm) (h : Hp) : Bool := Nat.ble h.nx L.p && Nat.ble h.nv L.q && Nat.ble h.ng L.N && Nat.blt (h.ep + h.ob.length) L.ep && Nat.beq (proL P L.pro (F, h)).2.nv L.q
/-- what a loop does, from what it is entered with -/
def loopS {α : Type} (P : Program) (L : Lw) (dec : Tm → Hp → Option α) (T : α → RT Out) : BSpec := fun F h =>
  bif L.fits P F h then (match dec (L.in P F h).1 (L.in P F h).2 with | some x => T x | none => .bad 120) else .bad 121
theorem loop_ok {α : Type} (hm : Fit P) (hΓ : GamOk P Γ) (hΛ : LamAll P Λ) {f : FuncId} {id n : Nat} {b : Code} (hL : LamOk P Λ f b) (L : Lw) {mkF : α → Tm} {mkH : α → Hp} {dec : Tm → Hp → Option α} {T : α → RT Out} (μ : α → Nat)
    (hdec : ∀ F h x, dec F h = some x → F = mkF x ∧ h = mkH x)
    (hbody : ∀ x K, (T x).holds K → (evC P Γ Λ n f b (mkF x) (mkH x)).holds (RoundOk mkF mkH T μ id L.keep L.p L.q L.N L.ep x K)) : BOk P (.block id (.loop b)) (loopS P L dec T) := by
  intro F h K H w0 G E w a Q I hT hp
  unfold loopS at H
  cases hfit : L.fits P F h
  · rw [hfit] at H; exact H.elim
  rw [hfit] at H
  simp only [cond_true] at H
  split at H
  · rename_i x hx
    obtain ⟨hF, hH⟩ := hdec _ _ _ hx
    unfold Lw.fits at hfit
    simp only [Bool.and_eq_true] at hfit
    obtain ⟨⟨⟨⟨f1, f2⟩, f3⟩, f4⟩, f5⟩ := hfit
    have f1 := Nat.le_of_ble_eq_true f1
    have f2 := Nat.le_of_ble_eq_true f2
    have f3 := Nat.le_of_ble_eq_true f3
    have f4 : h.ep + h.ob.length < L.ep := Nat.le_of_ble_eq_true f4
    have f5 := Nat.eq_of_beq_eq_true f5
    have hep : ∀ o, E.live o → ver o h < L.ep := fun o _ => by
      unfold ver; have := cnt_le o h.ob; omega
    obtain ⟨E1, S1, hT1⟩ := proL_ok (a := a) L.pro I hT
    have S2 := can_step S1 I (p := L.p) (q := L.q) (N := L.N) (ep := L.ep) f1 f2 (by rw [f5]; exact Nat.le_refl _) f3 hep
    have hT2 := Tm.can_ok S1.inv hT1 L.keep L.p L.q L.N
    have e1 : (proL P L.pro (F, h)).1.can (proL P L.pro (F, h)).2 L.keep L.p L.q L.N = mkF x := hF
    have e2 : (proL P L.pro (F, h)).2.can L.p L.q L.N L.ep = mkH x := hH
    rw [e2] at S2
    rw [e1] at hT2
    -- the rounds
    have rounds : ∀ m x, μ x < m → (T x).holds K → ∀ (E2 : Env) (w2 : World) (a2 : Act), Stepd P w0 G E h w E2 (mkH x) w2 → RelT E2 (mkF x) a2 → Code.rounds P b (Exit.inBlock id Q) m a2 w2 := by
      intro m
      induction m with
      | zero => intro x hx; omega
      | succ m ih =>
        intro x hmx HT E2 w2 a2 S3 hT3
        rw [rounds_succ]
        refine ((codeOk hm hΓ hΛ n).1 f b _ _ _ (hbody x K HT) hL w0 G E2 w2 a2 _ S3.inv hT3 ?_)
        intro ex F' h' E' a' w' hk hs hT'
        obtain ⟨hq, hk⟩ := hk
        have S4 := S3.trans hs
        have S5 := can_step S4 I (p := L.p) (q := L.q) (N := L.N) (ep := L.ep) f1 f2 hq f3 hep
        have hT5 := Tm.can_ok hs.inv hT' L.keep L.p L.q L.N
        cases ex with
        | normal =>
          obtain ⟨x', ⟨g1, g2⟩, g3, g4⟩ := hk
          have g1' : F'.can h' L.keep L.p L.q L.N = mkF x' := g1
          have g2' : h'.can L.p L.q L.N L.ep = mkH x' := g2
          rw [g2'] at S5
          rw [g1'] at hT5
          exact ih x' (by omega) g4 _ _ _ S5 hT5
        | exit j =>
          show Exit.inBlock id Q (.exit j) a' w'
          simp only [Exit.inBlock]
          simp only at hk
          split
          · rename_i e
            rw [if_pos e] at hk
            exact hp .normal _ _ _ _ _ hk S5 hT5
          · rename_i e
            rw [if_neg e] at hk
            exact hp (.exit j) _ _ _ _ _ hk S5 hT5
        | ret => exact hp .ret _ _ _ _ _ hk S5 hT5
    exact wp_block (wp_loop_rounds (μ x + 1) (rounds _ x (Nat.lt_succ_self _) H _ _ _ S2 hT2))
  · exact H.elim
end
end
end Go.Proofs.YtdlomggjhclmlaaGreatDoor

namespace Go.Proofs.YtdlomggjhclmlaaGreatDoor
set_option linter.unusedSimpArgs false
set_option linter.unusedVariables false
open Go.RowKit
set_option maxRecDepth 10000
noncomputable section

/-- a table of contracts -/
def gam : List (FuncId × Spec) → FuncId → Option Spec
  | [], _ => none
  | (g, sp) :: r, f => bif Nat.beq g f then some sp else gam r f
def GamL (P : Program) : List (FuncId × Spec) → Prop
  | [] => True
  | (g, sp) :: r => SoundF P g sp ∧ GamL P r
theorem gam_ok {P : Program} : ∀ {l : List (FuncId × Spec)}, GamL P l → GamOk P (gam l)
  | [], _, g, sp, h => by cases h
  | (k, s) :: r, ⟨h1, h2⟩, g, sp, h => by
    simp only [gam] at h
    cases hb : Nat.beq k g
    · rw [hb] at h; exact gam_ok h2 g sp h
    · rw [hb] at h
      cases h
      obtain rfl := Nat.eq_of_beq_eq_true hb
      exact h1
/-- a table of loops -/
def lam : List (FuncId × Nat × BSpec) → FuncId → Nat → Option BSpec
  | [], _, _ => none
  | (g, i, sp) :: r, f, id => bif Nat.beq g f && Nat.beq i id then some sp else lam r f id
def LamE (P : Program) (f : FuncId) (id : Nat) (sp : BSpec) : Prop := ∀ fn b, plainF P f = some (fn, b) → ∀ c ∈ blocksOf id b, BOk P c sp
def LamL (P : Program) : List (FuncId × Nat × BSpec) → Prop
  | [] => True
  | (g, i, sp) :: r => LamE P g i sp ∧ LamL P r
theorem lam_ok {P : Program} : ∀ {l : List (FuncId × Nat × BSpec)}, LamL P l → LamAll P (lam l)
  | [], _, f, fn, b, _, id, sp, h => by cases h
  | (k, i, s) :: r, ⟨h1, h2⟩, f, fn, b, hp, id, sp, h => by
    simp only [lam] at h
    cases hb : Nat.beq k f && Nat.beq i id
    · rw [hb] at h; exact lam_ok h2 f fn b hp id sp h
    · rw [hb] at h
      cases h
      simp only [Bool.and_eq_true] at hb
      obtain rfl := Nat.eq_of_beq_eq_true hb.1
      obtain rfl := Nat.eq_of_beq_eq_true hb.2
      exact h1 fn b hp
def bodyOf (P : Program) (f : FuncId) : Code := match plainF P f with | some (_, b) => b | none => .skip
def loopAt (id : Nat) (c : Code) : Code := match blocksOf id c with | [.block _ (.loop b)] => b | _ => .skip
def isLoop (id : Nat) (c : Code) : Bool := match blocksOf id c with | [.block j (.loop _)] => Nat.beq j id | _ => false
theorem isLoop_ok {id : Nat} {c : Code} (h : isLoop id c = true) : blocksOf id c = [.block id (.loop (loopAt id c))] := by
  unfold isLoop at h
  unfold loopAt
  split at h
  · rename_i j b hb
    obtain rfl := Nat.eq_of_beq_eq_true h
    rw [hb]
  · cases h
theorem blocks_in {id i : Nat} {x : Code} : ∀ {c b : Code}, .block id b ∈ blocksOf id c → x ∈ blocksOf i b → x ∈ blocksOf i c
  | .seq p q, b, h, hx => by
    simp only [blocksOf, List.mem_append] at h ⊢
    exact h.imp (fun h => blocks_in h hx) (fun h => blocks_in h hx)
  | .cond _ p q, b, h, hx => by
    simp only [blocksOf, List.mem_append] at h ⊢
    exact h.imp (fun h => blocks_in h hx) (fun h => blocks_in h hx)
  | .loop p, b, h, hx => by simp only [blocksOf] at h ⊢; exact blocks_in h hx
  | .scope p, b, h, hx => by simp only [blocksOf] at h ⊢; exact blocks_in h hx
  | .block j p, b, h, hx => by
    simp only [blocksOf, List.mem_append] at h ⊢
    right
    rcases h with h | h
    · split at h
      · simp at h; obtain ⟨_, rfl⟩ := h; exact hx
      · simp at h
    · exact blocks_in h hx
  | .skip, _, h, _ | .region _ _ _, _, h, _ | .rangeFunc _ _ _ _, _, h, _ | .exit _, _, h, _ | .label _, _, h, _ | .goto _, _, h, _ | .ret, _, h, _ | .refuse _, _, h, _ => by simp [blocksOf] at h
theorem loop_in {P : Program} {gs : List (FuncId × Spec)} {ls : List (FuncId × Nat × BSpec)} {α : Type} (hm : Fit P) (hΓ : GamL P gs) (hΛ : LamL P ls) (f id n : Nat) (hl : isLoop id (bodyOf P f) = true) (L : Lw) {mkF : α → Tm} {mkH : α → Hp} {dec : Tm → Hp → Option α} {T : α → RT Out} (μ : α → Nat)
    (hdec : ∀ F h x, dec F h = some x → F = mkF x ∧ h = mkH x)
    (hbody : ∀ x K, (T x).holds K → (evC P (gam gs) (lam ls) n f (loopAt id (bodyOf P f)) (mkF x) (mkH x)).holds (RoundOk mkF mkH T μ id L.keep L.p L.q L.N L.ep x K)) : LamE P f id (loopS P L dec T) := by
  intro fn b hp c hc
  have hb : bodyOf P f = b := by unfold bodyOf; rw [hp]
  rw [hb] at hl hbody
  have hbl := isLoop_ok hl
  rw [hbl] at hc
  obtain rfl := List.mem_singleton.1 hc
  refine loop_ok hm (gam_ok hΓ) (lam_ok hΛ) (fun i sp hs x hx => lam_ok hΛ f fn b hp i sp hs x (blocks_in (id := id) (b := .loop (loopAt id b)) (by rw [hbl]; exact List.mem_singleton_self _) (by simpa only [blocksOf] using hx))) L μ hdec hbody
/-- a round, what it leaves under the old names -/
def roundT (L : Lw) (t : RT Out) : RT Out := t.bind fun r => bif Nat.ble L.q r.2.2.nv then .ok (r.1, r.2.1.can r.2.2 L.keep L.p L.q L.N, r.2.2.can L.p L.q L.N L.ep) else .bad 122
/-- behind a round: on with x', or out -/
def Round {α : Type} (mkF : α → Tm) (mkH : α → Hp) (T : α → RT Out) (μ : α → Nat) (id : Nat) (x : α) (K : Out → Prop) (r : Out) : Prop :=
  match r.1 with
  | .normal => ∃ x', (r.2.1 = mkF x' ∧ r.2.2 = mkH x') ∧ μ x' < μ x ∧ (T x').holds K
  | .exit j => if j = id then K (.normal, r.2.1, r.2.2) else K (.exit j, r.2.1, r.2.2)
  | .ret => K (.ret, r.2.1, r.2.2)
theorem loop_in2 {P : Program} {gs : List (FuncId × Spec)} {ls : List (FuncId × Nat × BSpec)} {α : Type} (hm : Fit P) (hΓ : GamL P gs) (hΛ : LamL P ls) (f id n : Nat) (hl : isLoop id (bodyOf P f) = true) (L : Lw) {mkF : α → Tm} {mkH : α → Hp} {dec : Tm → Hp → Option α} {T : α → RT Out} (μ : α → Nat)
    (hdec : ∀ F h x, dec F h = some x → F = mkF x ∧ h = mkH x)
    (hbody : ∀ x K, (T x).holds K → (roundT L (evC P (gam gs) (lam ls) n f (loopAt id (bodyOf P f)) (mkF x) (mkH x))).holds (Round mkF mkH T μ id x K)) : LamE P f id (loopS P L dec T) := by
  refine loop_in hm hΓ hΛ f id n hl L μ hdec fun x K H => ?_
  have := hbody x K H
  unfold roundT at this
  rw [RT.holds_bind] at this
  refine RT.holds_mono (fun r hr => ?_) _ this
  cases hq : Nat.ble L.q r.2.2.nv
  · rw [hq] at hr; exact hr.elim
  · rw [hq] at hr
    refine ⟨Nat.le_of_ble_eq_true hq, ?_⟩
    have hr' : Round mkF mkH T μ id x K (r.1, r.2.1.can r.2.2 L.keep L.p L.q L.N, r.2.2.can L.p L.q L.N L.ep) := hr
    unfold Round at hr'
    split at hr' <;> rename_i he <;> simp only at he <;> simp only [he] <;> exact hr'
/-- a pure function's contract -/
theorem pure_in {P : Program} {gs : List (FuncId × Spec)} {ls : List (FuncId × Nat × BSpec)} (hm : Fit P) (hΓ : GamL P gs) (hΛ : LamL P ls) (f n : Nat) {F : List AV → RT AV} (hF : ∀ args K, okL args → (F args).holds K → (treeF (evF P (gam gs) (lam ls) n f) args).holds fun r => ∃ y, Le r y ∧ K y) : SoundF P f (pureS P f F) :=
  pureS_tree (evF_ok hm (gam_ok hΓ) (lam_ok hΛ) n f) hF
/-- one contract or the other -/
def altS (c : List AV → Bool) (s1 s2 : Spec) : Spec := fun args h => bif c args then s1 args h else s2 args h
theorem alt_ok {P : Program} {f : FuncId} {c : List AV → Bool} {s1 s2 : Spec} (h1 : SoundF P f s1) (h2 : SoundF P f s2) : SoundF P f (altS c s1 s2) := by
  intro args h K H
  unfold altS at H
  cases hc : c args
  · rw [hc] at H; exact h2 args h K H
  · rw [hc] at H; exact h1 args h K H
/-- the first argument is a slice whose structure is known -/
def head1 : List AV → Bool
  | .sl kn _ _ _ :: _ => kn
  | .sc kn (.slice _ _ _) :: _ => kn
  | _ => false
/-- the same, arguments seen otherwise -/
theorem pure_by {P : Program} {gs : List (FuncId × Spec)} {ls : List (FuncId × Nat × BSpec)} (hm : Fit P) (hΓ : GamL P gs) (hΛ : LamL P ls) (f n : Nat) {F : List AV → RT AV} (hF : ∀ args K, okL args → (F args).holds K → ∃ args', (∀ E vs, RelL E args vs → RelL E args' vs) ∧ (treeF (evF P (gam gs) (lam ls) n f) args').holds fun r => ∃ y, Le r y ∧ K y) : SoundF P f (pureS P f F) :=
  pureS_tree2 (evF_ok hm (gam_ok hΓ) (lam_ok hΛ) n f) hF
end
end Go.Proofs.YtdlomggjhclmlaaGreatDoor

namespace Go.Proofs.YtdlomggjhclmlaaGreatDoor
set_option linter.unusedSimpArgs false
set_option linter.unusedVariables false
open Go.RowKit
set_option maxRecDepth 10000
noncomputable section
section
variable {P : Program} {E : Env} {h : Hp} {w w0 w' : World} {G : Nat → Prop}

/-- bytes as data -/
def eB (b : UInt8) : D := .i b.toNat
def eBs (l : List UInt8) : D := .l (l.map eB)
theorem toL_eBs {l : List UInt8} (h : l.length ≤ maxLen) : (eBs l).toL = l.map eB := toL_l (by simpa using h)
theorem len_eBs {l : List UInt8} (h : l.length ≤ maxLen) : (eBs l).len = l.length := by unfold D.len; rw [toL_eBs h]; simp
/-- a row of bytes of one's own -/
theorem own_bytesE (I : Inv P w0 G E h w) {e : TypeId} {v : Value} {n : Nat} {l : List UInt8} (hb : Below w.heap.size w w') (ho : w'.ownsRow w.heap.size e 1 v n (l.map bv)) (hrm : l.length ≤ room) :
    ∃ E', Stepd P w0 G E h w E' h w' ∧ Rel E' (.sl false [.int .u8] (eBs l) none) v := by
  refine ⟨_, I.fresh hb, ?_, trivial⟩
  have hn : n = l.length := by have := ho.1; simp at this; omega
  rcases ho.2 with ⟨rfl, h0⟩ | ⟨g, cap, cur, rfl, h0, hg, h1, h2, h3, h4⟩
  · have hl : l = [] := List.eq_nil_of_length_eq_zero (by omega)
    subst hl
    have h0' : (eBs []).len = 0 := by simp [eBs, D.len, D.toL, D.raw]
    exact ⟨by rw [h0', Nat.zero_mul]; exact Nat.zero_le _, none, 0, by rw [h0'], by rw [h0']; exact Nat.le_refl _, Nat.zero_le _, fun _ => rfl, fun hn => absurd h0' hn⟩
  · have hlm : l.length ≤ maxLen := by omega
    have hlen := len_eBs hlm
    refine ⟨by rw [hlen, show szB [.int .u8] = 1 from by decide, Nat.mul_one]; exact hrm, some ⟨g, 0, none⟩, cap, by rw [hlen, hn], by rw [hlen]; omega, h2, (fun h => by cases h), fun _ => ⟨g, 0, rfl, fun i hi => ⟨⟨bv (l[i]?.getD 0), ?_, ?_⟩, trivial⟩⟩⟩
    · rw [hlen] at hi
      show (if g < w.heap.size then E.Z g _ else w'.cell? ⟨g, _, none⟩) = _
      rw [if_neg (by omega), cell_of_row w' g _ _ _ _ hg]
      simp only [List.length_cons, List.length_nil, Nat.zero_add, Nat.mul_one]
      have : (l.map bv)[i]? = some (bv (l[i]?.getD 0)) := by simp [hi]
      rw [← h4, List.getElem?_take_of_lt (by omega)] at this
      simpa using this
    · rw [hlen] at hi
      show bv _ = .int .u8 (((eBs l).get i).cell 0).toI
      unfold D.get
      rw [toL_eBs hlm]
      simp [hi, eB, D.cell, D.toI, bv]
/-- bytes that are read -/
theorem bytes_of (I : Inv P w0 G E h w) {v : Value} {d : D} (hl : LF E.Z (.sl [.int .u8]) v d) (hr : ∀ i, i < d.len → 0 ≤ ((d.get i).cell 0).toI ∧ ((d.get i).cell 0).toI < 256) : IsBytes w v (d.toL.map fun e => UInt8.ofNat (e.cell 0).toI.toNat) := by
  obtain ⟨_, ad, cap, rfl, h1, h2, h3, h4⟩ := hl
  by_cases h0 : d.len = 0
  · have ht : d.toL = [] := List.eq_nil_of_length_eq_zero h0
    rw [ht, h0]
    cases ad with
    | none => have := h3 rfl; subst this; exact .inl ⟨rfl, rfl⟩
    | some x => exact .inr ⟨x, cap, rfl, Nat.zero_le _, h2, fun i hi => by simp at hi⟩
  · obtain ⟨b, o, rfl, h5⟩ := h4 h0
    have hlen : (d.toL.map fun e => UInt8.ofNat (e.cell 0).toI.toNat).length = d.len := by simp [D.len]
    refine .inr ⟨⟨b, o, none⟩, cap, by rw [hlen], by rw [hlen]; exact h1, h2, fun i hi => ?_⟩
    rw [hlen] at hi
    obtain ⟨⟨u, g1, g2⟩, _⟩ := h5 i hi
    simp only [List.length_cons, List.length_nil, Nat.zero_add, Nat.mul_one] at g1
    rw [addr_add', I.z _ _ _ g1]
    have g2' : u = .int .u8 ((d.get i).cell 0).toI := g2
    rw [g2']
    have hi' : i < d.toL.length := hi
    have hg : d.get i = d.toL[i] := by unfold D.get; rw [List.getD_eq_getElem?_getD, List.getElem?_eq_getElem hi']; rfl
    obtain ⟨r1, r2⟩ := hr i hi
    rw [hg] at r1 r2 ⊢
    simp only [List.getElem?_map, List.getElem?_eq_getElem hi', Option.map_some, Option.getD_some]
    congr 2
    rw [UInt8.toNat_ofNat']
    omega
end
end
end Go.Proofs.YtdlomggjhclmlaaGreatDoor

namespace Go.Proofs.YtdlomggjhclmlaaGreatDoor
set_option linter.unusedSimpArgs false
set_option linter.unusedVariables false
open Go.RowKit
set_option maxRecDepth 10000
noncomputable section
/-- a cell's shape, where it is data -/
def shC : AV → Option Sh
  | .sc _ (.int k _) => some (.int k)
  | .sc _ (.bool _) => some .bool
  | .sc _ (.string _) => some .str
  | .sl _ es _ _ => some (.sl es)
  | _ => none
def shCs : List AV → Option (List Sh)
  | [] => some []
  | x :: xs => match shC x, shCs xs with
    | some s, some ss => some (s :: ss)
    | _, _ => none
def thawC : AV → AV
  | .sc kn v => .sc kn v
  | .sl kn es d _ => .sl kn es d none
  | _ => .any
/-- a slice of cells as data, where it may be -/
def vslT (n len : Nat) (cs : List AV) : AV := match shCs ((cs.take n).map thawC) with
  | some es => (match mkSl es n len (cs.map thawC) none with | .sl kn es d _ => .sl kn es d none | _ => .any)
  | none => .any
def vslO (h : Hp) (o off n len : Nat) : AV := match lookO o h.ob with
  | some cs => bif isVar cs && Nat.ble (off + len * n) cs.length then vslT n len ((cs.drop off).take (len * n)) else .any
  | none => .any
mutual
/-- a value, its rows read -/
def thaw (h : Hp) : AV → AV
  | .rsl kn o n _ => match rowOf o h with
    | some (es, d) => bif Nat.beq n es.length then .sl kn es d none else .any
    | none => .any
  | .rp _ _ _ _ _ => .any
  | .rw es d => .rw es d
  | .ptr _ _ => .any
  | .mp _ => .any
  | .sl kn es d _ => .sl kn es d none
  | .fn _ _ _ => .any
  | .agg cs => .agg (thawL h cs)
  | .tup vs => .tup (thawL h vs)
  | .any => .any
  | .sc kn v => .sc kn v
  | .ep kn es d j => .ep kn es d j
  | .vsl o off n len _ => vslO h o off n len
  | .al n len cs _ => vslT n len cs
  | .ea _ => .any
def thawL (h : Hp) : List AV → List AV
  | [] => []
  | x :: xs => thaw h x :: thawL h xs
end
mutual
/-- rows are handed on whole -/
def thawB (h : Hp) : AV → Bool
  | .rsl _ o _ len => match rowOf o h with
    | some (_, d) => decide (len = d.len)
    | none => true
  | .agg cs => thawBL h cs
  | .tup vs => thawBL h vs
  | .rw _ _ => false
  | _ => true
def thawBL (h : Hp) : List AV → Bool
  | [] => true
  | x :: xs => bif thawB h x then thawBL h xs else false
end
theorem re_el {Z Z' : Nat → Nat → Option Value} (hZ : ∀ b j v, Z b j = some v → Z' b j = some v) {cs : Array Value} {b : Nat} (hc : ∀ k v, cs[k]? = some v → Z' b k = some v) : ∀ {es : List Sh} {p : Nat} {d : D} {j : Nat}, RE Z es cs p d j → EL Z' es b p d j
  | [], _, _, _, _ => trivial
  | _ :: _, _, _, _, ⟨⟨v, h1, h2⟩, h3⟩ => ⟨⟨v, hc _ _ h1, LF.mono hZ _ _ _ h2⟩, re_el hZ hc h3⟩
section
variable {P : Program} {E : Env} {h : Hp} {w w0 w' : World} {G : Nat → Prop}
theorem thawC_rel {Ef : Env} (hZ : ∀ b j v, E.Z b j = some v → Ef.Z b j = some v) : ∀ {x : AV} {v : Value}, Rel E x v → Rel Ef (thawC x) v := by
  intro x v H
  cases x <;> first | exact trivial | exact H | skip
  exact ⟨LF.mono hZ _ _ _ H.1, trivial⟩
theorem thawC_relL {Ef : Env} (hZ : ∀ b j v, E.Z b j = some v → Ef.Z b j = some v) : ∀ {xs : List AV} {vs : List Value}, RelL E xs vs → RelL Ef (xs.map thawC) vs
  | [], _, H => H
  | _ :: _, _, ⟨v, vs', h1, h2, h3⟩ => ⟨v, vs', h1, thawC_rel hZ h2, thawC_relL hZ h3⟩
theorem vslT_rel {Ef : Env} {n len : Nat} {cs : List AV} {v : Value} (H : Rel Ef (.al n len (cs.map thawC) none) v) : Rel Ef (vslT n len cs) v := by
  unfold vslT
  split
  · rename_i es _
    have := mkSl_rel (es := es) H
    split
    · rename_i heq
      rw [heq] at this
      exact ⟨this.1, trivial⟩
    · exact trivial
  · exact trivial
theorem vslO_rel {Ef : Env} (hZ : ∀ b j v, E.Z b j = some v → Ef.Z b j = some v) (hO : ∀ o, E.live o → ∀ k v, w'.cell? ⟨E.β o, k, none⟩ = some v → Ef.Z (E.β o) k = some v) (I : Inv P w0 G E h w') {o off n len cap : Nat} {v : Value} (H : Rel E (.vsl o off n len cap) v) : Rel Ef (vslO h o off n len) v := by
  obtain ⟨hl, g1, g2, rfl⟩ := H
  unfold vslO
  split
  · rename_i cs hlo
    cases hc : isVar cs && Nat.ble (off + len * n) cs.length
    · exact trivial
    simp only [Bool.and_eq_true] at hc
    have hle := Nat.le_of_ble_eq_true hc.2
    obtain ⟨vs, ob, hblk, hrel, hok⟩ := I.ob o cs hlo
    obtain ⟨ty, rfl, h1⟩ := ob_cells hc.1 hrel hok
    refine vslT_rel ⟨⟨(vs.drop off).take (len * n), E.β o, off, cap, thawC_relL hZ ((hrel.drop off).take _), fun u hu => h1 u (List.mem_of_mem_drop (List.mem_of_mem_take hu)), by simp only [List.length_map, List.length_take, List.length_drop]; omega, rfl, g1, g2, fun i u hu => ?_⟩, trivial⟩
    refine hO o hl _ _ ?_
    rw [cell_of_row w' _ _ _ _ _ hblk]
    rw [List.getElem?_take] at hu
    split at hu
    · rw [List.getElem?_drop] at hu; simpa using hu
    · cases hu
  · exact trivial
mutual
theorem thaw_rel {Zf : Nat → Nat → Option Value} {Ef : Env} (hEf : Ef.Z = Zf) (hZ : ∀ b j v, E.Z b j = some v → Zf b j = some v) (hO : ∀ o, E.live o → ∀ k v, w'.cell? ⟨E.β o, k, none⟩ = some v → Zf (E.β o) k = some v) (I : Inv P w0 G E h w') : ∀ (x : AV) (v : Value), Rel E x v → thawB h x = true → Rel Ef (thaw h x) v
  | .any, _, _, _ => trivial
  | .sc _ _, _, H, _ => H
  | .ptr _ _, _, _, _ => trivial
  | .mp _, _, _, _ => trivial
  | .fn _ _ _, _, _, _ => trivial
  | .rp _ _ _ _ _, _, _, _ => trivial
  | .vsl o off n len cap, v, H, _ => vslO_rel (fun b j v hz => by rw [hEf]; exact hZ b j v hz) (fun o hl k v hv => by rw [hEf]; exact hO o hl k v hv) I H
  | .al n len cs tip, v, ⟨⟨vs, b, o, cap, h1, h2, h3, h4, h5, h6, hz⟩, _⟩, _ => vslT_rel ⟨⟨vs, b, o, cap, thawC_relL (fun b j v hz => by rw [hEf]; exact hZ b j v hz) h1, h2, by simpa using h3, h4, h5, h6, fun i u hu => by rw [hEf]; exact hZ _ _ _ (hz i u hu)⟩, trivial⟩
  | .ea _, _, _, _ => trivial
  | .rw _ _, _, _, hb => by simp [thawB] at hb
  | .sl kn es d tip, v, ⟨h1, _⟩, _ => ⟨by rw [hEf]; exact LF.mono hZ _ _ _ h1, trivial⟩
  | .ep kn es d j, v, ⟨b, o, h1, h2⟩, _ => ⟨b, o, h1, by rw [hEf]; exact EL.mono hZ _ _ _ _ _ h2⟩
  | .agg cs, v, ⟨vs, h1, h2, h3⟩, hb => ⟨vs, h1, thaw_relL hEf hZ hO I cs _ h2 (by simpa [thawB] using hb), h3⟩
  | .tup cs, v, ⟨vs, h1, h2⟩, hb => ⟨vs, h1, thaw_relL hEf hZ hO I cs _ h2 (by simpa [thawB] using hb)⟩
  | .rsl kn o n len, v, ⟨hl, ad, cap, g1, g2, g3, g4, g5⟩, hb => by
    simp only [thaw]
    simp only [thawB] at hb
    cases hr : rowOf o h with
    | none => exact trivial
    | some p =>
      obtain ⟨es, d⟩ := p
      simp only
      rw [hr] at hb
      have hlen : len = d.len := of_decide_eq_true hb
      cases hn : Nat.beq n es.length
      · exact trivial
      · obtain rfl := Nat.eq_of_beq_eq_true hn
        subst hlen
        obtain ⟨_, cs, ty, hblk, hbd, hre⟩ := row_ob I hr
        refine ⟨⟨hbd, ad, cap, g1, g2, g3, g4, fun hne => ⟨E.β o, 0, g5 hne, fun i hi => ?_⟩⟩, trivial⟩
        rw [hEf, Nat.zero_add]
        refine re_el hZ (fun k u hk => hO o hl k u ?_) (hre i hi)
        have hblk' : w'.heap[E.β o]? = some (.cells cs.toList.toArray ty (0, 0)) := by simpa using hblk
        rw [cell_of_row w' _ k _ _ _ hblk']
        simpa using hk
theorem thaw_relL {Zf : Nat → Nat → Option Value} {Ef : Env} (hEf : Ef.Z = Zf) (hZ : ∀ b j v, E.Z b j = some v → Zf b j = some v) (hO : ∀ o, E.live o → ∀ k v, w'.cell? ⟨E.β o, k, none⟩ = some v → Zf (E.β o) k = some v) (I : Inv P w0 G E h w') : ∀ (xs : List AV) (vs : List Value), RelL E xs vs → thawBL h xs = true → RelL Ef (thawL h xs) vs
  | [], _, H, _ => H
  | x :: xs, _, ⟨v, vs', h1, h2, h3⟩, hb => by
    simp only [thawBL] at hb
    cases hx : thawB h x
    · rw [hx] at hb; cases hb
    · rw [hx] at hb; exact ⟨v, vs', h1, thaw_rel hEf hZ hO I x v h2 hx, thaw_relL hEf hZ hO I xs vs' h3 hb⟩
end
end
section
variable {P : Program} {E : Env} {h : Hp} {w w0 w' : World} {G : Nat → Prop}
end
mutual
/-- a value, its rows read, if they are handed on whole -/
def thawR (h : Hp) : AV → RT AV
  | .rsl kn o n len => match rowOf o h with
    | some (es, d) => bif Nat.beq n es.length then need kn (decide (len = d.len)) 213 (.ok (.sl kn es d none)) else .bad 213
    | none => .ok .any
  | .rp _ _ _ _ _ => .ok .any
  | .rw _ _ => .bad 214
  | .ptr _ _ => .ok .any
  | .mp _ => .ok .any
  | .sl kn es d _ => .ok (.sl kn es d none)
  | .fn _ _ _ => .ok .any
  | .agg cs => (thawRL h cs).bind fun cs => .ok (.agg cs)
  | .tup vs => (thawRL h vs).bind fun vs => .ok (.tup vs)
  | .any => .ok .any
  | .sc kn v => .ok (.sc kn v)
  | .ep kn es d j => .ok (.ep kn es d j)
  | .vsl o off n len _ => .ok (vslO h o off n len)
  | .al n len cs _ => .ok (vslT n len cs)
  | .ea _ => .ok .any
def thawRL (h : Hp) : List AV → RT (List AV)
  | [] => .ok []
  | x :: xs => (thawR h x).bind fun x => (thawRL h xs).bind fun xs => .ok (x :: xs)
end
mutual
theorem thawR_ok {h : Hp} : ∀ {x : AV} {Q : AV → Prop}, (thawR h x).holds Q → thawB h x = true ∧ Q (thaw h x)
  | .rsl kn o n len, Q, H => by
    simp only [thawR] at H
    simp only [thawB, thaw]
    split at H
    · rename_i es d hr
      cases hn : Nat.beq n es.length
      · rw [hn] at H; exact H.elim
      · rw [hn] at H
        obtain ⟨h1, h2⟩ := need_holds H
        exact ⟨h1, h2⟩
    · exact ⟨rfl, H⟩
  | .rp _ _ _ _ _, Q, H => ⟨rfl, H⟩
  | .vsl _ _ _ _ _, Q, H => ⟨rfl, H⟩
  | .al _ _ _ _, Q, H => ⟨rfl, H⟩
  | .ea _, Q, H => ⟨rfl, H⟩
  | .rw _ _, Q, H => H.elim
  | .ptr _ _, Q, H => ⟨rfl, H⟩
  | .mp _, Q, H => ⟨rfl, H⟩
  | .sl _ _ _ _, Q, H => ⟨rfl, H⟩
  | .fn _ _ _, Q, H => ⟨rfl, H⟩
  | .agg cs, Q, H => by
    simp only [thawR, RT.holds_bind] at H
    simp only [thawB, thaw]
    exact thawRL_ok (Q := fun cs => Q (.agg cs)) H
  | .tup cs, Q, H => by
    simp only [thawR, RT.holds_bind] at H
    simp only [thawB, thaw]
    exact thawRL_ok (Q := fun cs => Q (.tup cs)) H
  | .any, Q, H => ⟨rfl, H⟩
  | .sc _ _, Q, H => ⟨rfl, H⟩
  | .ep _ _ _ _, Q, H => ⟨rfl, H⟩
theorem thawRL_ok {h : Hp} : ∀ {xs : List AV} {Q : List AV → Prop}, (thawRL h xs).holds Q → thawBL h xs = true ∧ Q (thawL h xs)
  | [], Q, H => ⟨rfl, H⟩
  | x :: xs, Q, H => by
    simp only [thawRL, RT.holds_bind] at H
    simp only [thawBL, thawL]
    obtain ⟨h1, h2⟩ := thawR_ok (x := x) (Q := fun x => (thawRL h xs).holds fun ys => Q (x :: ys)) H
    obtain ⟨h3, h4⟩ := thawRL_ok (xs := xs) (Q := fun ys => Q (thaw h x :: ys)) h2
    rw [h1, cond_true]
    exact ⟨h3, h4⟩
end
/-- the tree of a function that hands on rows of its own -/
def treeR (sp : Spec) (args : List AV) : RT AV := (sp args hp0).bind fun x => thawR x.2 x.1
theorem pureS_row {P : Program} {f : FuncId} {sp : Spec} (hs : SoundF P f sp) {F : List AV → RT AV} (hF : ∀ args K, okL args → (F args).holds K → ∃ args', (∀ E vs, RelL E args vs → RelL E args' vs) ∧ (treeR sp args').holds fun r => ∃ y, Le r y ∧ K y) : SoundF P f (pureS P f F) := by
  intro args h K H w0 G E w vals I hr
  unfold pureS at H
  rw [RT.holds_bind] at H
  obtain ⟨args', hle, h1⟩ := hF _ _ (ok_relL _ _ (args0_rel hr)) H
  unfold treeR at h1
  rw [RT.holds_bind] at h1
  have I2 := (I.ren (os := []) (ks := []) (g0 := 0) .nil .nil (by simp) 0).top
  have hr2 := ren_relL (os := []) (ks := []) (g0 := 0) I _ _ hr
  rw [ren_stripL] at hr2
  refine (hs _ _ _ h1 w _ _ w vals I2 (hle _ _ (nilAs_rel _ _ _ (dull_relL _ _ hr2)))).mono ?_
  rintro e w' ⟨r, h', v, E', hK, rfl, S, hv⟩
  have hno : ∀ b, ¬ (E.ren [] [] 0).mine b := by
    rintro b (⟨o, ⟨p, hp, _⟩, _⟩ | ⟨k, hk, _⟩)
    · simp at hp
    · simp [Env.ren] at hk
  have hbel : Below w.heap.size w w' := S.inv.kpt.below fun k hk => absurd hk (hno k)
  have S3 := I.fresh hbel
  obtain ⟨hb, y, hy, hK⟩ := thawR_ok hK
  have hv3 : Rel (E.fresh w w') (thaw h' r) v := by
    refine thaw_rel (E := E') (Zf := (E.fresh w w').Z) rfl (fun b j u hz => ?_) (fun o ho k u hu => ?_) S.inv r v hv hb
    · show (if b < w.heap.size then E.Z b j else w'.cell? ⟨b, j, none⟩) = some u
      by_cases hlt : b < w.heap.size
      · rw [if_pos hlt]
        rcases S.zn b j u hz with h | h | h
        · exact h
        · omega
        · exact absurd h (hno b)
      · rw [if_neg hlt]; exact S.inv.z b j u hz
    · show (if E'.β o < w.heap.size then E.Z (E'.β o) k else w'.cell? ⟨E'.β o, k, none⟩) = some u
      rcases S.inv.own o ho with h | h
      · rw [if_neg (by omega)]; exact hu
      · exact absurd h (hno _)
  refine ⟨_, h, v, _, hK, rfl, S3, ?_⟩
  cases allKL args
  · exact hy _ _ hv3
  · exact know_rel _ _ (hy _ _ hv3)
theorem pure_row {P : Program} {gs : List (FuncId × Spec)} {ls : List (FuncId × Nat × BSpec)} (hm : Fit P) (hΓ : GamL P gs) (hΛ : LamL P ls) (f n : Nat) {F : List AV → RT AV} (hF : ∀ args K, okL args → (F args).holds K → (treeR (evF P (gam gs) (lam ls) n f) args).holds fun r => ∃ y, Le r y ∧ K y) : SoundF P f (pureS P f F) :=
  pureS_row (evF_ok hm (gam_ok hΓ) (lam_ok hΛ) n f) fun args K ho H => ⟨args, fun _ _ h => h, hF args K ho H⟩
/-- the same, whatever is answered where less is known -/
theorem rowOf_cons (o : Nat) (es : List Sh) (d : D) (h : Hp) : rowOf o { h with ob := (o, [.rw es d]) :: h.ob } = some (es, d) := by
  unfold rowOf
  rw [lookO_cons, if_pos rfl]
/-! A loop's rounds one by one, where that can be seen ahead. -/
def altB (c : Tm → Hp → Bool) (s1 s2 : BSpec) : BSpec := fun F h => bif c F h then s1 F h else s2 F h
theorem altB_ok {P : Program} {f : FuncId} {id : Nat} {c : Tm → Hp → Bool} {s1 s2 : BSpec} (h1 : LamE P f id s1) (h2 : LamE P f id s2) : LamE P f id (altB c s1 s2) := by
  intro fn b hp x hx F h K H
  unfold altB at H
  cases hc : c F h
  · rw [hc] at H; exact h2 fn b hp x hx F h K H
  · rw [hc] at H; exact h1 fn b hp x hx F h K H
def runB (P : Program) (gs : List (FuncId × Spec)) (n : Nat) (f : FuncId) (id : Nat) : BSpec := fun F h => evC P (gam gs) (lam []) n f (.block id (.loop (loopAt id (bodyOf P f)))) F h
theorem runB_ok {P : Program} {gs : List (FuncId × Spec)} (hm : Fit P) (hΓ : GamL P gs) (f id n : Nat) (hl : isLoop id (bodyOf P f) = true) : LamE P f id (runB P gs n f id) := by
  intro fn b hp c hc
  have hb : bodyOf P f = b := by unfold bodyOf; rw [hp]
  have hl' := hl
  rw [hb] at hl'
  rw [isLoop_ok hl'] at hc
  obtain rfl := List.mem_singleton.1 hc
  intro F h K H
  unfold runB at H
  rw [hb] at H
  exact (codeOk hm (gam_ok hΓ) (lam_ok (l := []) trivial) n).1 f _ F h K H (fun i sp hs => by cases hs)
/-- the temporary is a number that is known ahead -/
def knT (t : Nat) (F : Tm) (_ : Hp) : Bool := match look t F.tm with | .sc kn _ => kn | _ => false
end
end Go.Proofs.YtdlomggjhclmlaaGreatDoor
