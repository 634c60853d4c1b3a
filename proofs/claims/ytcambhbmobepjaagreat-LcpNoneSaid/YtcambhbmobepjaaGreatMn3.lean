/- Mn, 3: texts of this claim, one behind the other: EvD EvE EvF EvG Frame Opn EvH Put Ka1 Ka2 Ka3 Ka4 Kb1 Kb2 Kb3 Kb4 Kc1 Kc2 Kc3 Kc4 Kc5. No condition. -/
import Derived.Test.YtcambhbmobepjaaGreatRows
import Derived.ProofKit
import Derived.OpenShut
import Derived.ShutString
import Derived.ChangeOld
import Derived.HandedShaped
import Derived.Shelf.Vars
import Derived.Lay
import Derived.LaidOnce
import Derived.SevenTiedAt
import Derived.Test.YtcambhbmobepjaaGreatProg
import Derived.Test.YtcambhbmobepjaaGreatMn1
import Derived.Test.YtcambhbmobepjaaGreatMn2
namespace Go.Proofs.YtcambhbmobepjaaGreat
set_option linter.unusedSimpArgs false
set_option linter.unusedVariables false
open Go.RowKit
set_option maxRecDepth 10000
noncomputable section

mutual
/-- a value without what the heap tells -/
def strip : AV → AV
  | .ptr _ _ => .any
  | .mp _ => .any
  | .sl kn es d _ => .sl kn es d none
  | .fn f a c => .fn f (stripL a) (stripL c)
  | .agg cs => .agg (stripL cs)
  | .tup vs => .tup (stripL vs)
  | .any => .any
  | .sc kn v => .sc kn v
  | .ep kn es d j => .ep kn es d j
  | .rsl _ _ _ _ => .any
  | .rp _ _ _ _ _ => .any
  | .rw es d => .rw es d
def stripL : List AV → List AV
  | [] => []
  | x :: xs => strip x :: stripL xs
end
mutual
theorem ren_strip (g0 : Nat) (gn : List (Nat × Nat × TypeId)) : ∀ (x : AV), ren [] [] g0 gn x = strip x
  | .ptr _ _ => rfl
  | .mp _ => rfl
  | .sl _ _ _ none => rfl
  | .sl _ _ _ (some (_, _)) => rfl
  | .fn f a c => by simp only [ren, strip, ren_stripL g0 gn a, ren_stripL g0 gn c]
  | .agg cs => by simp only [ren, strip, ren_stripL g0 gn cs]
  | .tup cs => by simp only [ren, strip, ren_stripL g0 gn cs]
  | .any => rfl
  | .sc _ _ => rfl
  | .ep _ _ _ _ => rfl
  | .rsl _ _ _ _ => rfl
  | .rp _ _ _ _ _ => rfl
  | .rw _ _ => rfl
theorem ren_stripL (g0 : Nat) (gn : List (Nat × Nat × TypeId)) : ∀ (xs : List AV), renL [] [] g0 gn xs = stripL xs
  | [] => rfl
  | x :: xs => by simp only [renL, stripL, ren_strip g0 gn x, ren_stripL g0 gn xs]
end
mutual
theorem bak_strip (m ng : Nat) (gn : List (Nat × Nat × TypeId)) : ∀ (x : AV), bak [] [] m ng 0 gn x = strip x
  | .ptr _ _ => rfl
  | .mp _ => rfl
  | .sl _ _ _ none => rfl
  | .sl kn es d (some (j, g)) => by
    simp only [bak, strip]
    split
    · rename_i g' e _
      have : Nat.blt j 0 = false := rfl
      rw [this, Bool.and_false]; rfl
    · rfl
  | .fn f a c => by simp only [bak, strip, bak_stripL m ng gn a, bak_stripL m ng gn c]
  | .agg cs => by simp only [bak, strip, bak_stripL m ng gn cs]
  | .tup cs => by simp only [bak, strip, bak_stripL m ng gn cs]
  | .any => rfl
  | .sc _ _ => rfl
  | .ep _ _ _ _ => rfl
  | .rsl _ _ _ _ => rfl
  | .rp _ _ _ _ _ => rfl
  | .rw _ _ => rfl
theorem bak_stripL (m ng : Nat) (gn : List (Nat × Nat × TypeId)) : ∀ (xs : List AV), bakL [] [] m ng 0 gn xs = stripL xs
  | [] => rfl
  | x :: xs => by simp only [bakL, stripL, bak_strip m ng gn x, bak_stripL m ng gn xs]
end
mutual
theorem strip_strip : ∀ (x : AV), strip (strip x) = strip x
  | .ptr _ _ => rfl
  | .mp _ => rfl
  | .sl _ _ _ _ => rfl
  | .fn f a c => by simp only [strip, strip_stripL a, strip_stripL c]
  | .agg cs => by simp only [strip, strip_stripL cs]
  | .tup cs => by simp only [strip, strip_stripL cs]
  | .any => rfl
  | .sc _ _ => rfl
  | .ep _ _ _ _ => rfl
  | .rsl _ _ _ _ => rfl
  | .rp _ _ _ _ _ => rfl
  | .rw _ _ => rfl
theorem strip_stripL : ∀ (xs : List AV), stripL (stripL xs) = stripL xs
  | [] => rfl
  | x :: xs => by simp only [stripL, strip_strip x, strip_stripL xs]
end
mutual
/-- a value of which nothing is known ahead -/
def dull : AV → AV
  | .sc _ v => .sc false v
  | .sl _ es d tip => .sl false es d tip
  | .ep _ es d j => .ep false es d j
  | .rsl _ o n len => .rsl false o n len
  | .rp _ o n i j => .rp false o n i j
  | .rw es d => .rw es d
  | .fn f a c => .fn f (dullL a) (dullL c)
  | .agg cs => .agg (dullL cs)
  | .tup vs => .tup (dullL vs)
  | .any => .any
  | .ptr o off => .ptr o off
  | .mp o => .mp o
def dullL : List AV → List AV
  | [] => []
  | x :: xs => dull x :: dullL xs
end
mutual
theorem dull_rel {E : Env} : ∀ (x : AV) (v : Value), Rel E x v → Rel E (dull x) v
  | .sc _ _, _, H => H
  | .sl _ _ _ _, _, H => H
  | .ep _ _ _ _, _, H => H
  | .rsl _ _ _ _, _, H => H
  | .rp _ _ _ _ _, _, H => H
  | .rw _ _, _, H => H
  | .fn f a c, v, ⟨a', c', h1, h2, h3⟩ => ⟨a', c', h1, dull_relL a _ h2, dull_relL c _ h3⟩
  | .agg cs, v, ⟨cs', h1, h2, h3⟩ => ⟨cs', h1, dull_relL cs _ h2, h3⟩
  | .tup vs, v, ⟨vs', h1, h2⟩ => ⟨vs', h1, dull_relL vs _ h2⟩
  | .any, _, H => H
  | .ptr _ _, _, H => H
  | .mp _, _, H => H
theorem dull_relL {E : Env} : ∀ (xs : List AV) (vs : List Value), RelL E xs vs → RelL E (dullL xs) vs
  | [], _, H => H
  | x :: xs, _, ⟨v, vs', h1, h2, h3⟩ => ⟨v, vs', h1, dull_rel x v h2, dull_relL xs vs' h3⟩
end
mutual
theorem strip_rel {E : Env} : ∀ (x : AV) (v : Value), Rel E x v → Rel E (strip x) v
  | .ptr _ _, _, _ => trivial
  | .mp _, _, _ => trivial
  | .sl _ _ _ _, _, ⟨h, _⟩ => ⟨h, trivial⟩
  | .fn f a c, v, ⟨a', c', h1, h2, h3⟩ => ⟨a', c', h1, strip_relL a _ h2, strip_relL c _ h3⟩
  | .agg cs, v, ⟨cs', h1, h2, h3⟩ => ⟨cs', h1, strip_relL cs _ h2, h3⟩
  | .tup vs, v, ⟨vs', h1, h2⟩ => ⟨vs', h1, strip_relL vs _ h2⟩
  | .any, _, H => H
  | .sc _ _, _, H => H
  | .ep _ _ _ _, _, H => H
  | .rsl _ _ _ _, _, _ => trivial
  | .rp _ _ _ _ _, _, _ => trivial
  | .rw _ _, _, H => H
theorem strip_relL {E : Env} : ∀ (xs : List AV) (vs : List Value), RelL E xs vs → RelL E (stripL xs) vs
  | [], _, H => H
  | x :: xs, _, ⟨v, vs', h1, h2, h3⟩ => ⟨v, vs', h1, strip_rel x v h2, strip_relL xs vs' h3⟩
end
def hp0 : Hp := ⟨[], 0, [], 0, 0, 0⟩
/-- nil, where a slice is looked for -/
def nilS : Sh → AV → AV
  | .sl es, .sc _ (.slice none 0 0) => .sl false es (.l []) none
  | _, x => x
def nilL : List Sh → List AV → List AV
  | s :: ss, x :: xs => nilS s x :: nilL ss xs
  | _, xs => xs
def nilA1 (ss : List Sh) : AV → AV
  | .agg cs => .agg (nilL ss cs)
  | x => match ss with | [s] => nilS s x | _ => x
def nilAs : List (List Sh) → List AV → List AV
  | ss :: r, x :: xs => nilA1 ss x :: nilAs r xs
  | _, xs => xs
theorem nilS_rel {E : Env} (s : Sh) (x : AV) (v : Value) (h : Rel E x v) : Rel E (nilS s x) v := by
  unfold nilS
  split
  · obtain ⟨rfl, _⟩ := h
    have h0 : (D.l []).len = 0 := by simp [D.len, D.toL, D.raw]
    exact ⟨⟨by rw [h0, Nat.zero_mul]; exact Nat.zero_le _, none, 0, by rw [h0], by rw [h0]; exact Nat.le_refl _, Nat.zero_le _, fun _ => rfl, fun hn => absurd h0 hn⟩, trivial⟩
  · exact h
theorem nilL_rel {E : Env} : ∀ (ss : List Sh) (xs : List AV) (vs : List Value), RelL E xs vs → RelL E (nilL ss xs) vs
  | [], xs, _, h => by cases xs <;> exact h
  | _ :: _, [], _, h => h
  | s :: ss, x :: xs, _, ⟨v, vs', h1, h2, h3⟩ => ⟨v, vs', h1, nilS_rel s x v h2, nilL_rel ss xs vs' h3⟩
theorem nilA1_rel {E : Env} (ss : List Sh) (x : AV) (v : Value) (h : Rel E x v) : Rel E (nilA1 ss x) v := by
  unfold nilA1
  split
  · obtain ⟨cs, h1, h2, h3⟩ := h
    exact ⟨cs, h1, nilL_rel ss _ _ h2, h3⟩
  · split
    · exact nilS_rel _ _ _ h
    · exact h
theorem nilAs_rel {E : Env} : ∀ (ss : List (List Sh)) (xs : List AV) (vs : List Value), RelL E xs vs → RelL E (nilAs ss xs) vs
  | [], xs, _, h => by cases xs <;> exact h
  | _ :: _, [], _, h => h
  | s :: ss, x :: xs, _, ⟨v, vs', h1, h2, h3⟩ => ⟨v, vs', h1, nilA1_rel s x v h2, nilAs_rel ss xs vs' h3⟩
def argS (P : Program) (f : FuncId) : List (List Sh) := match P.funcs[f]? with | some fn => fn.params.toList.map (shE P) | none => []
/-- what is looked at of arguments -/
def args0 (P : Program) (f : FuncId) (args : List AV) : List AV := nilAs (argS P f) (dullL (stripL args))
theorem args0_rel {P : Program} {f : FuncId} {E : Env} {args : List AV} {vals : List Value} (h : RelL E args vals) : RelL E (args0 P f args) vals := nilAs_rel _ _ _ (dull_relL _ _ (strip_relL _ _ h))
mutual
/-- data, all of it known -/
def knowD : D → D
  | .i v => .ki v | .b v => .kb v | .s v => .ks v
  | .l v => .kl (knowDL v) | .kl v => .kl (knowDL v) | .t v => .t (knowDL v)
  | .n => .n | .ki v => .ki v | .kb v => .kb v | .ks v => .ks v
def knowDL : List D → List D
  | [] => []
  | d :: ds => knowD d :: knowDL ds
end
mutual
def deepK : D → Bool
  | .i _ => false | .b _ => false | .s _ => false | .l _ => false
  | .kl v => deepKL v | .t v => deepKL v
  | .n => true | .ki _ => true | .kb _ => true | .ks _ => true
def deepKL : List D → Bool
  | [] => true
  | d :: ds => deepK d && deepKL ds
end
/-- a slice's elements, all known -/
def deepKS (d : D) : Bool := deepKL d.raw
mutual
/-- whether all of a value is known ahead (a hint alone) -/
def allK : AV → Bool
  | .sc kn _ => kn
  | .sl kn _ d _ => bif kn then deepKS d else false
  | .agg cs => allKL cs
  | _ => false
def allKL : List AV → Bool
  | [] => true
  | x :: xs => bif allK x then allKL xs else false
end
mutual
def knowA : AV → AV
  | .sc _ v => .sc true v
  | .sl _ es d tip => .sl true es (knowD d) tip
  | .agg cs => .agg (knowAL cs)
  | .tup vs => .tup (knowAL vs)
  | .any => .any
  | .ptr o off => .ptr o off
  | .mp o => .mp o
  | .ep kn es d j => .ep kn es d j
  | .fn f a c => .fn f a c
  | .rsl kn o n len => .rsl kn o n len
  | .rp kn o n i j => .rp kn o n i j
  | .rw es d => .rw es d
def knowAL : List AV → List AV
  | [] => []
  | x :: xs => knowA x :: knowAL xs
end
theorem knowDL_map : ∀ l : List D, knowDL l = l.map knowD
  | [] => rfl
  | _ :: l => by simp only [knowDL, List.map_cons, knowDL_map l]
theorem knowD_toI : ∀ d : D, (knowD d).toI = d.toI := by intro d; cases d <;> rfl
theorem knowD_toB : ∀ d : D, (knowD d).toB = d.toB := by intro d; cases d <;> rfl
theorem knowD_toS : ∀ d : D, (knowD d).toS = d.toS := by intro d; cases d <;> rfl
theorem knowD_toL : ∀ d : D, (knowD d).toL = d.toL.map knowD := by
  intro d
  cases d <;> simp [knowD, D.toL, D.raw, knowDL_map, List.map_take]
theorem knowD_len (d : D) : (knowD d).len = d.len := by unfold D.len; rw [knowD_toL]; simp
theorem knowD_get (d : D) (i : Nat) : (knowD d).get i = knowD (d.get i) := by
  unfold D.get
  rw [knowD_toL, List.getD_eq_getElem?_getD, List.getD_eq_getElem?_getD, List.getElem?_map]
  cases d.toL[i]? <;> rfl
theorem knowD_cell (d : D) (j : Nat) : (knowD d).cell j = knowD (d.cell j) := by
  cases d with
  | t cs =>
    show (D.t (knowDL cs)).cell j = knowD ((D.t cs).cell j)
    simp only [D.cell, knowDL_map, List.getD_eq_getElem?_getD, List.getElem?_map]
    cases cs[j]? <;> rfl
  | _ => cases j <;> rfl
mutual
theorem know_lf {Z : Nat → Nat → Option Value} : ∀ (s : Sh) (v : Value) (d : D), LF Z s v d → LF Z s v (knowD d)
  | .int _, v, d, H => by simp only [LF] at H ⊢; rw [knowD_toI]; exact H
  | .bool, v, d, H => by simp only [LF] at H ⊢; rw [knowD_toB]; exact H
  | .str, v, d, H => by simp only [LF] at H ⊢; rw [knowD_toS]; exact H
  | .sl es, v, d, ⟨h0, ad, cap, h1, h2, h3, h4, h5⟩ => by
    refine ⟨by rw [knowD_len]; exact h0, ad, cap, by rw [knowD_len]; exact h1, by rw [knowD_len]; exact h2, h3, h4, fun hn => ?_⟩
    rw [knowD_len] at hn
    obtain ⟨b, o, h6, h7⟩ := h5 hn
    refine ⟨b, o, h6, fun i hi => ?_⟩
    rw [knowD_len] at hi
    rw [knowD_get]
    exact know_el es _ _ _ _ (h7 i hi)
theorem know_el {Z : Nat → Nat → Option Value} : ∀ (es : List Sh) (b o : Nat) (d : D) (j : Nat), EL Z es b o d j → EL Z es b o (knowD d) j
  | [], _, _, _, _, _ => trivial
  | s :: ss, b, o, d, j, ⟨⟨v, h1, h2⟩, h3⟩ => ⟨⟨v, h1, by rw [knowD_cell]; exact know_lf s v _ h2⟩, know_el ss _ _ _ _ h3⟩
end
mutual
theorem know_rel {E : Env} : ∀ (x : AV) (v : Value), Rel E x v → Rel E (knowA x) v
  | .sc _ _, _, H => H
  | .sl _ es d tip, v, ⟨h1, h2⟩ => ⟨know_lf (.sl es) v d h1, h2⟩
  | .agg cs, v, ⟨cs', h1, h2, h3⟩ => ⟨cs', h1, know_relL cs _ h2, h3⟩
  | .tup vs, v, ⟨vs', h1, h2⟩ => ⟨vs', h1, know_relL vs _ h2⟩
  | .any, _, H => H
  | .ptr _ _, _, H => H
  | .mp _, _, H => H
  | .ep _ _ _ _, _, H => H
  | .rsl _ _ _ _, _, H => H
  | .rp _ _ _ _ _, _, H => H
  | .rw _ _, _, H => H
  | .fn _ _ _, _, H => H
theorem know_relL {E : Env} : ∀ (xs : List AV) (vs : List Value), RelL E xs vs → RelL E (knowAL xs) vs
  | [], _, H => H
  | x :: xs, _, ⟨v, vs', h1, h2, h3⟩ => ⟨v, vs', h1, know_rel x v h2, know_relL xs vs' h3⟩
end
/-- a function that reads and answers values: of known ones it answers known ones -/
def pureS (P : Program) (f : FuncId) (F : List AV → RT AV) : Spec := fun args h => (F (args0 P f args)).bind fun r => .ok (bif allKL args then knowA r else r, h)
theorem hp_bak0 (h h' : Hp) : h.bak [] [] 0 h' = h := by
  obtain ⟨a, b, c, d, e, f⟩ := h
  simp [Hp.bak, bakO, bakG]
mutual
/-- data that can be read are bounded -/
def okS : Sh → D → Prop
  | .int _, _ => True
  | .bool, _ => True
  | .str, _ => True
  | .sl es, d => d.len * szB es ≤ room ∧ ∀ i, i < d.len → okE es (d.get i) 0
def okE : List Sh → D → Nat → Prop
  | [], _, _ => True
  | s :: ss, d, j => okS s (d.cell j) ∧ okE ss d (j + 1)
end
mutual
theorem ok_lf {Z : Nat → Nat → Option Value} : ∀ (s : Sh) (v : Value) (d : D), LF Z s v d → okS s d
  | .int _, _, _, _ => trivial
  | .bool, _, _, _ => trivial
  | .str, _, _, _ => trivial
  | .sl es, v, d, ⟨h0, _, _, _, _, _, _, h5⟩ => ⟨h0, fun i hi => by
      obtain ⟨b, o, _, h7⟩ := h5 (by omega)
      exact ok_el es _ _ _ _ (h7 i hi)⟩
theorem ok_el {Z : Nat → Nat → Option Value} : ∀ (es : List Sh) (b o : Nat) (d : D) (j : Nat), EL Z es b o d j → okE es d j
  | [], _, _, _, _, _ => trivial
  | s :: ss, b, o, d, j, ⟨⟨v, _, h2⟩, h3⟩ => ⟨ok_lf s v _ h2, ok_el ss _ _ _ _ h3⟩
end
mutual
def okA : AV → Prop
  | .sl _ es d _ => okS (.sl es) d
  | .agg cs => okL cs
  | .tup vs => okL vs
  | _ => True
def okL : List AV → Prop
  | [] => True
  | x :: xs => okA x ∧ okL xs
end
mutual
theorem ok_rel {E : Env} : ∀ (x : AV) (v : Value), Rel E x v → okA x
  | .sl _ es d _, v, ⟨h, _⟩ => ok_lf (.sl es) v d h
  | .agg cs, _, ⟨cs', _, h, _⟩ => ok_relL cs _ h
  | .tup cs, _, ⟨cs', _, h⟩ => ok_relL cs _ h
  | .any, _, _ => trivial
  | .sc _ _, _, _ => trivial
  | .ptr _ _, _, _ => trivial
  | .mp _, _, _ => trivial
  | .ep _ _ _ _, _, _ => trivial
  | .rsl _ _ _ _, _, _ => trivial
  | .rp _ _ _ _ _, _, _ => trivial
  | .rw _ _, _, _ => trivial
  | .fn _ _ _, _, _ => trivial
theorem ok_relL {E : Env} : ∀ (xs : List AV) (vs : List Value), RelL E xs vs → okL xs
  | [], _, _ => trivial
  | x :: xs, _, ⟨v, vs', _, h2, h3⟩ => ⟨ok_rel x v h2, ok_relL xs vs' h3⟩
end
/-- what is told by x is told by y -/
def Le (x y : AV) : Prop := ∀ E v, Rel E x v → Rel E y v
theorem Le.refl (x : AV) : Le x x := fun _ _ h => h
theorem pureS_ok2 {P : Program} {f : FuncId} {sp : Spec} (hs : SoundF P f sp) {F : List AV → RT AV} (hF : ∀ args K, okL args → (F args).holds K → ∃ args', (∀ E vs, RelL E args vs → RelL E args' vs) ∧ (sp args' hp0).holds fun x => ∃ y, Le (strip x.1) y ∧ K y) : SoundF P f (pureS P f F) := by
  intro args h K H w0 G E w vals I hr
  unfold pureS at H
  rw [RT.holds_bind] at H
  obtain ⟨args', hle, h1⟩ := hF _ _ (ok_relL _ _ (args0_rel hr)) H
  have I2 := (I.ren (os := []) (ks := []) (g0 := 0) .nil .nil (by simp) 0).top
  have hr2 := ren_relL (os := []) (ks := []) (g0 := 0) I _ _ hr
  rw [ren_stripL] at hr2
  refine (hs _ _ _ h1 w _ _ w vals I2 (hle _ _ (nilAs_rel _ _ _ (dull_relL _ _ hr2)))).mono ?_
  rintro e w' ⟨r, h', v, E', hK, rfl, S, hv⟩
  have S3 := Inv.bak (mk := 0) I .nil (by simp) .nil (by simp) (Nat.le_refl _) (Nat.zero_le _) S
  rw [hp_bak0] at S3
  have hv3 := bak_rel (h' := h') S.inv S.ext (mk := 0) .nil (by simp) (Nat.zero_le _) (Nat.le_refl _) (by simp) h.ng r v hv
  rw [bak_strip] at hv3
  obtain ⟨y, hy, hK⟩ := hK
  refine ⟨_, h, v, _, hK, rfl, S3, ?_⟩
  cases allKL args
  · exact hy _ _ hv3
  · exact know_rel _ _ (hy _ _ hv3)
theorem pureS_ok {P : Program} {f : FuncId} {sp : Spec} (hs : SoundF P f sp) {F : List AV → RT AV} (hF : ∀ args K, okL args → (F args).holds K → (sp args hp0).holds fun x => ∃ y, Le (strip x.1) y ∧ K y) : SoundF P f (pureS P f F) :=
  pureS_ok2 hs fun args K ho H => ⟨args, fun _ _ h => h, hF args K ho H⟩
theorem pureS_direct {P : Program} {f : FuncId} {F : List AV → RT AV} (hF : ∀ args K, (F args).holds K → ∀ w0 G E h w vals, Inv P w0 G E h w → RelL E args vals → Calls P f vals.toArray w fun e w' => ∃ r v E', K r ∧ e = .returned v ∧ Stepd P w0 G E h w E' h w' ∧ Rel E' r v) : SoundF P f (pureS P f F) := by
  intro args h K H w0 G E w vals I hr
  unfold pureS at H
  rw [RT.holds_bind] at H
  refine (hF _ _ H w0 G E h w vals I (args0_rel hr)).mono ?_
  rintro e w' ⟨r, v, E', hK, rfl, hS, hv⟩
  refine ⟨_, h, v, E', hK, rfl, hS, ?_⟩
  cases allKL args
  · exact hv
  · exact know_rel _ _ hv
/-- the tree of a function -/
def treeF (sp : Spec) (args : List AV) : RT AV := (sp args hp0).bind fun x => .ok (strip x.1)
theorem pureS_tree {P : Program} {f : FuncId} {sp : Spec} (hs : SoundF P f sp) {F : List AV → RT AV} (hF : ∀ args K, okL args → (F args).holds K → (treeF sp args).holds fun r => ∃ y, Le r y ∧ K y) : SoundF P f (pureS P f F) :=
  pureS_ok hs fun args K ho H => by have := hF args K ho H; unfold treeF at this; rw [RT.holds_bind] at this; exact this
theorem pureS_tree2 {P : Program} {f : FuncId} {sp : Spec} (hs : SoundF P f sp) {F : List AV → RT AV} (hF : ∀ args K, okL args → (F args).holds K → ∃ args', (∀ E vs, RelL E args vs → RelL E args' vs) ∧ (treeF sp args').holds fun r => ∃ y, Le r y ∧ K y) : SoundF P f (pureS P f F) :=
  pureS_ok2 hs fun args K ho H => by
    obtain ⟨args', h1, h2⟩ := hF args K ho H
    refine ⟨args', h1, ?_⟩
    unfold treeF at h2
    rw [RT.holds_bind] at h2
    exact h2

/-! What is told by what. -/
theorem le_int {kn kn' : Bool} {k : IntKind} {m n : Int} (h : m = n) : Le (.sc kn (.int k m)) (.sc kn' (.int k n)) := fun E v hv => by subst h; exact hv
theorem le_bool {kn kn' : Bool} {m n : Bool} (h : m = n) : Le (.sc kn (.bool m)) (.sc kn' (.bool n)) := fun E v hv => by subst h; exact hv
theorem le_str {kn kn' : Bool} {m n : ByteArray} (h : m = n) : Le (.sc kn (.string m)) (.sc kn' (.string n)) := fun E v hv => by subst h; exact hv
/-- the same, as the shapes look at it -/
def eqEl : List Sh → D → D → Nat → Prop
  | [], _, _, _ => True
  | .int _ :: ss, d, e, j => (d.cell j).toI = (e.cell j).toI ∧ eqEl ss d e (j + 1)
  | .bool :: ss, d, e, j => (d.cell j).toB = (e.cell j).toB ∧ eqEl ss d e (j + 1)
  | .str :: ss, d, e, j => (d.cell j).toS = (e.cell j).toS ∧ eqEl ss d e (j + 1)
  | .sl _ :: ss, d, e, j => d.cell j = e.cell j ∧ eqEl ss d e (j + 1)
theorem el_eq {Z : Nat → Nat → Option Value} : ∀ {es : List Sh} {b o : Nat} {d e : D} {j : Nat}, eqEl es d e j → EL Z es b o d j → EL Z es b o e j
  | [], _, _, _, _, _, _, _ => trivial
  | .int _ :: ss, _, _, _, _, _, ⟨h1, h2⟩, ⟨⟨v, g1, g2⟩, g3⟩ => ⟨⟨v, g1, by simp only [LF] at g2 ⊢; rw [← h1]; exact g2⟩, el_eq h2 g3⟩
  | .bool :: ss, _, _, _, _, _, ⟨h1, h2⟩, ⟨⟨v, g1, g2⟩, g3⟩ => ⟨⟨v, g1, by simp only [LF] at g2 ⊢; rw [← h1]; exact g2⟩, el_eq h2 g3⟩
  | .str :: ss, _, _, _, _, _, ⟨h1, h2⟩, ⟨⟨v, g1, g2⟩, g3⟩ => ⟨⟨v, g1, by simp only [LF] at g2 ⊢; rw [← h1]; exact g2⟩, el_eq h2 g3⟩
  | .sl _ :: ss, _, _, _, _, _, ⟨h1, h2⟩, ⟨⟨v, g1, g2⟩, g3⟩ => ⟨⟨v, g1, by rw [← h1]; exact g2⟩, el_eq h2 g3⟩
theorem le_sl {kn kn' : Bool} {es : List Sh} {d e : D} {tip : Option (Nat × Nat)} (hl : d.len = e.len) (hg : ∀ i, i < d.len → eqEl es (d.get i) (e.get i) 0) : Le (.sl kn es d tip) (.sl kn' es e none) := fun E v hv => by
  obtain ⟨⟨h0, ad, cap, h1, h2, h3, h4, h5⟩, _⟩ := hv
  refine ⟨⟨by rw [← hl]; exact h0, ad, cap, by rw [← hl]; exact h1, by rw [← hl]; exact h2, h3, h4, fun hn => ?_⟩, trivial⟩
  obtain ⟨b, o, g1, g2⟩ := h5 (by rw [hl]; exact hn)
  exact ⟨b, o, g1, fun i hi => el_eq (hg i (by rw [hl]; exact hi)) (g2 i (by rw [hl]; exact hi))⟩
theorem eqEl_refl : ∀ (es : List Sh) (d : D) (j : Nat), eqEl es d d j
  | [], _, _ => trivial
  | .int _ :: ss, d, j => ⟨rfl, eqEl_refl ss d (j + 1)⟩
  | .bool :: ss, d, j => ⟨rfl, eqEl_refl ss d (j + 1)⟩
  | .str :: ss, d, j => ⟨rfl, eqEl_refl ss d (j + 1)⟩
  | .sl _ :: ss, d, j => ⟨rfl, eqEl_refl ss d (j + 1)⟩
theorem le_nil {kn kn' : Bool} {es : List Sh} {d : D} (h : d.len = 0) : Le (.sc kn (.slice none 0 0)) (.sl kn' es d none) := fun E v hv => by
  obtain ⟨rfl, _⟩ := hv
  exact ⟨⟨by rw [h, Nat.zero_mul]; exact Nat.zero_le _, none, 0, by rw [h], by rw [h]; exact Nat.le_refl _, Nat.zero_le _, fun _ => rfl, fun hn => absurd h hn⟩, trivial⟩
theorem le_agg {xs ys : List AV} (h : ∀ E vs, RelL E xs vs → RelL E ys vs) : Le (.agg xs) (.agg ys) := fun E v ⟨cs, h1, h2, h3⟩ => ⟨cs, h1, h E _ h2, h3⟩
theorem le_tup {xs ys : List AV} (h : ∀ E vs, RelL E xs vs → RelL E ys vs) : Le (.tup xs) (.tup ys) := fun E v ⟨cs, h1, h2⟩ => ⟨cs, h1, h E _ h2⟩
theorem leL_nil : ∀ E vs, RelL E [] vs → RelL E [] vs := fun _ _ h => h
theorem leL_cons {x y : AV} {xs ys : List AV} (h : Le x y) (hs : ∀ E vs, RelL E xs vs → RelL E ys vs) : ∀ E vs, RelL E (x :: xs) vs → RelL E (y :: ys) vs := fun E _ ⟨v, vs', h1, h2, h3⟩ => ⟨v, vs', h1, h E v h2, hs E vs' h3⟩

/-! Loops. -/
section
variable {P : Program} {Γ : FuncId → Option Spec} {Λ : FuncId → Nat → Option BSpec}
def Hp.dul (h : Hp) : Hp := { h with ob := h.ob.map fun p => (p.1, dullL p.2) }
theorem lookO_dul (o : Nat) : ∀ (l : List (Nat × List AV)), lookO o (l.map fun p => (p.1, dullL p.2)) = (lookO o l).map dullL
  | [] => rfl
  | (k, cs) :: l => by
    simp only [List.map_cons, lookO_cons]
    split
    · rfl
    · exact lookO_dul o l
theorem cnt_dul (o : Nat) : ∀ (l : List (Nat × List AV)), cnt o (l.map fun p => (p.1, dullL p.2)) = cnt o l
  | [] => rfl
  | (k, cs) :: l => by simp only [List.map_cons, cnt_cons, cnt_dul o l]
theorem Inv.dul {w0 w : World} {G : Nat → Prop} {E : Env} {h : Hp} (I : Inv P w0 G E h w) : Inv P w0 G E h.dul w := by
  refine ⟨I.kpt, I.m, I.ng, I.gn, I.gnlt, fun o => ?_, I.nx, fun o cs hcs => ?_, I.own, I.inj, I.z, I.zob, I.vec, I.vinj⟩
  · rw [I.live o]
    show _ ↔ (lookO o (h.ob.map _)).isSome = true
    rw [lookO_dul]
    cases lookO o h.ob <;> simp
  · have hcs' : lookO o (h.ob.map fun p => (p.1, dullL p.2)) = some cs := hcs
    rw [lookO_dul] at hcs'
    cases hc : lookO o h.ob with
    | none => rw [hc] at hcs'; cases hcs'
    | some c =>
      simp only [hc, Option.map_some, Option.some.injEq] at hcs'
      subst hcs'
      obtain ⟨vs, t, g1, g2, g3⟩ := I.ob o c hc
      exact ⟨vs, t, g1, dull_relL _ _ g2, g3⟩
/-- the heap under the old names: objects below p, slices below q; stamps from N on -/
def Hp.can (h : Hp) (p q N ep : Nat) : Hp := (h.ren (List.range p) (List.range q) N ep).dul
def Tm.can (F : Tm) (h : Hp) (keep : List Nat) (p q N : Nat) : Tm := ⟨F.nt, keep.map fun t => (t, dull (ren (List.range p) (List.range q) N h.gn (look t F.tm))), F.df.map fun x => (x.1, dullL (renL (List.range p) (List.range q) N h.gn x.2))⟩
theorem look_keep {f : Nat → AV} : ∀ (l : List Nat) (t : Nat), look t (l.map fun t => (t, f t)) = if t ∈ l then f t else .any
  | [], t => by simp [look_nil]
  | k :: l, t => by
    simp only [List.map_cons, look_cons, look_keep l t]
    cases hb : Nat.beq k t
    · have : t ≠ k := fun e => by rw [e] at hb; simp at hb
      simp [this]
    · obtain rfl := Nat.eq_of_beq_eq_true hb; simp
theorem relD_map {E E' : Env} {f : List AV → List AV} (hf : ∀ xs vs, RelL E xs vs → RelL E' (f xs) vs) : ∀ {l : List (FuncId × List AV)} {ds : List Deferred}, RelD E l ds → RelD E' (l.map fun x => (x.1, f x.2)) ds
  | [], _, h => h
  | (g, xs) :: r, _, ⟨cap, args, ds', h1, h2, h3⟩ => ⟨cap, args, ds', h1, hf _ _ h2, relD_map hf h3⟩
theorem Tm.can_ok {w0 w : World} {G : Nat → Prop} {E : Env} {h : Hp} {F : Tm} {t : Act} (I : Inv P w0 G E h w) (hT : RelT E F t) (keep : List Nat) (p q N : Nat) : RelT (E.ren (List.range p) (List.range q) N) (F.can h keep p q N) t := by
  refine ⟨hT.sz, fun i => ?_, relD_map (fun xs vs hr => dull_relL _ _ (ren_relL I xs vs hr)) hT.df⟩
  show Rel _ (look i (keep.map fun t => (t, dull (ren (List.range p) (List.range q) N h.gn (look t F.tm))))) _
  rw [look_keep]
  split
  · exact dull_rel _ _ (ren_rel I _ _ (hT.tm i))
  · exact trivial
theorem can_step {w0 we w : World} {G : Nat → Prop} {Ee E : Env} {he h : Hp} (S : Stepd P w0 G Ee he we E h w) (Ie : Inv P w0 G Ee he we) {p q N ep : Nat} (hp : he.nx ≤ p) (hq : he.nv ≤ q) (hqh : q ≤ h.nv) (hN : he.ng ≤ N) (hep : ∀ o, Ee.live o → ver o he < ep) :
    Stepd P w0 G Ee he we (E.ren (List.range p) (List.range q) N) (h.can p q N ep) w := by
  have gr : ∀ {n i : Nat}, i < n → (List.range n)[i]? = some i := fun h => List.getElem?_range h
  have I2 := (S.inv.ren (os := List.range p) (ks := List.range q) (g0 := N) List.nodup_range List.nodup_range (fun k hk => by have := List.mem_range.1 hk; omega) ep).dul
  refine ⟨⟨fun o ho => ⟨o, gr (by have := Ie.nx o ho; omega), S.ext.live o ho⟩, fun o ho => ?_, S.ext.Z, ?_, ?_, fun k hk => .inr ?_⟩, I2, fun o ho => ⟨?_, fun e => ?_⟩, S.zn⟩
  · show E.β ((List.range p).getD o 0) = Ee.β o
    rw [gdp (gr (by have := Ie.nx o ho; omega))]; exact S.ext.β o ho
  · show Ee.m ≤ (List.range q).length
    rw [List.length_range, Ie.m]; exact hq
  · show Ee.ng ≤ N + (List.range q).length
    rw [Ie.ng]; omega
  · show Ee.ng ≤ N + k
    rw [Ie.ng]; omega
  · have := hep o ho; unfold ver at this ⊢; show _ ≤ ep + _; omega
  · have := hep o ho
    unfold ver at this e
    have e' : ep + cnt o (h.can p q N ep).ob = he.ep + cnt o he.ob := e
    omega
/-- what may come behind a round: on with x', or out -/
def RoundOk {α : Type} (mkF : α → Tm) (mkH : α → Hp) (T : α → RT Out) (μ : α → Nat) (id : Nat) (keep : List Nat) (p q N ep : Nat) (x : α) (K : Out → Prop) (r : Out) : Prop :=
  q ≤ r.2.2.nv ∧ match r.1 with
  | .normal => ∃ x', (r.2.1.can r.2.2 keep p q N = mkF x' ∧ r.2.2.can p q N ep = mkH x') ∧ μ x' < μ x ∧ (T x').holds K
  | .exit j => if j = id then K (.normal, r.2.1.can r.2.2 keep p q N, r.2.2.can p q N ep) else K (.exit j, r.2.1.can r.2.2 keep p q N, r.2.2.can p q N ep)
  | .ret => K (.ret, r.2.1.can r.2.2 keep p q N, r.2.2.can p q N ep)
theorem cnt_le (o : Nat) : ∀ (l : List (Nat × List AV)), cnt o l ≤ l.length
  | [] => Nat.le_refl _
  | (k, cs) :: l => by
    rw [cnt_cons]
    have := cnt_le o l
    simp only [List.length_cons]
    split <;> omega
/-- a slice that is nil may grow -/
def proT (P : Program) (e : TypeId) (t : Nat) (s : Tm × Hp) : Tm × Hp :=
  match look t s.1.tm, sizeT P e with
  | .sc _ (.slice none 0 0), some _ => ({ s.1 with tm := (t, .sl false (shE P e) (.l []) (some (s.2.nv, s.2.ng))) :: s.1.tm }, { s.2 with gn := (s.2.nv, s.2.ng, e) :: s.2.gn, nv := s.2.nv + 1, ng := s.2.ng + 1 })
  | _, _ => s
theorem vec_nil {w0 w : World} {G : Nat → Prop} {E : Env} {h : Hp} {e sz : Nat} (I : Inv P w0 G E h w) (hs : sizeT P e = some sz) :
    ∃ E', Stepd P w0 G E h w E' { h with gn := (h.nv, h.ng, e) :: h.gn, nv := h.nv + 1, ng := h.ng + 1 } w ∧ Rel E' (.sl false (shE P e) (.l []) (some (h.nv, h.ng))) (.slice none 0 0) := by
  have hst := I.vec_set (v := .slice none 0 0) (v' := .slice none 0 0) (k := h.nv) (m := h.nv + 1) (xs := []) (news := []) (n' := 0) (.inr ⟨rfl, rfl, rfl⟩) (fun b hb => by cases hb) hs ⟨by simp, .inl ⟨rfl, rfl⟩⟩ (by simp) (Kpt.refl w _) (.inl rfl)
  have h0 : (D.l []).len = 0 := by simp [D.len, D.toL, D.raw]
  refine ⟨_, hst, ⟨by rw [h0, Nat.zero_mul]; exact Nat.zero_le _, none, 0, by rw [h0], by rw [h0]; exact Nat.le_refl _, Nat.zero_le _, fun _ => rfl, fun hn => absurd h0 hn⟩, ?_, ?_, fun _ => ?_⟩
  · show h.nv < h.nv + 1; omega
  · show h.ng < h.ng + 1; omega
  · simp [Env.grow]
theorem proT_ok {w0 w : World} {G : Nat → Prop} {E : Env} {e t : Nat} {F : Tm} {h : Hp} {a : Act} (I : Inv P w0 G E h w) (hT : RelT E F a) : ∃ E', Stepd P w0 G E h w E' (proT P e t (F, h)).2 w ∧ RelT E' (proT P e t (F, h)).1 a := by
  unfold proT
  split
  · rename_i kn sz hl hs
    obtain ⟨E', h1, h2⟩ := vec_nil I hs
    refine ⟨E', h1, ⟨hT.sz, fun i => ?_, hT.df.mono h1.ext⟩⟩
    have hv := hT.tm t
    rw [show look t F.tm = .sc kn (.slice none 0 0) from hl] at hv
    simp only [look_cons]
    cases hb : Nat.beq t i
    · exact Rel.mono h1.ext _ _ (hT.tm i)
    · obtain rfl := Nat.eq_of_beq_eq_true hb
      rw [hv.1]; exact h2
  · exact ⟨E, Stepd.refl I, hT⟩
/-- a cell of a variable that is nil may grow -/
def proO (P : Program) (e : TypeId) (o i : Nat) (s : Tm × Hp) : Tm × Hp :=
  match lookO o s.2.ob, sizeT P e with
  | some cs, some _ => match cs[i]? with
    | some (.sc _ (.slice none 0 0)) => (s.1, { s.2 with ob := (o, cs.set i (.sl false (shE P e) (.l []) (some (s.2.nv, s.2.ng)))) :: s.2.ob, gn := (s.2.nv, s.2.ng, e) :: s.2.gn, nv := s.2.nv + 1, ng := s.2.ng + 1 })
    | _ => s
  | _, _ => s
theorem RelL.set {E : Env} : ∀ {xs : List AV} {vs : List Value} {i : Nat} {x : AV} {v : Value}, RelL E xs vs → vs[i]? = some v → Rel E x v → RelL E (xs.set i x) vs
  | [], _, _, _, _, h, _, _ => h
  | y :: xs, _, i, x, v, ⟨u, vs', h, h1, h2⟩, hv, hx => by
    subst h
    cases i with
    | zero => simp at hv; subst hv; exact ⟨u, vs', rfl, hx, h2⟩
    | succ i => exact ⟨u, vs', rfl, h1, RelL.set h2 (by simpa using hv) hx⟩
theorem Inv.say {w0 w : World} {G : Nat → Prop} {E : Env} {h : Hp} (I : Inv P w0 G E h w) {o : Nat} {cs cs' : List AV} (ho : lookO o h.ob = some cs) (hr : ∀ vs, RelL E cs vs → RelL E cs' vs) : Stepd P w0 G E h w E { h with ob := (o, cs') :: h.ob } w := by
  obtain ⟨vs, t, g1, g2, g3⟩ := I.ob o cs ho
  exact I.put ho (Kpt.refl w _) g1 (hr vs g2) g3
theorem proO_ok {w0 w : World} {G : Nat → Prop} {E : Env} {e o i : Nat} {F : Tm} {h : Hp} {a : Act} (I : Inv P w0 G E h w) (hT : RelT E F a) : ∃ E', Stepd P w0 G E h w E' (proO P e o i (F, h)).2 w ∧ RelT E' (proO P e o i (F, h)).1 a := by
  unfold proO
  split
  · rename_i cs sz hl hs
    split
    · rename_i kn hc
      obtain ⟨E', h1, h2⟩ := vec_nil I hs
      have hl' : lookO o h.ob = some cs := hl
      have S2 := h1.inv.say (o := o) (cs := cs) (cs' := cs.set i (.sl false (shE P e) (.l []) (some (h.nv, h.ng)))) hl' (fun vs hr => by
        obtain ⟨v, hv, hrv⟩ := hr.get hc
        rw [hrv.1] at hv
        exact hr.set hv h2)
      exact ⟨E', h1.trans S2, hT.mono h1.ext⟩
    · exact ⟨E, Stepd.refl I, hT⟩
  · exact ⟨E, Stepd.refl I, hT⟩
/-- a row of promises that slices may grow: (0, t, _, e): a temporary; (1, o, i, e): a variable's cell -/
def proL (P : Program) : List (Bool × Nat × Nat × TypeId) → Tm × Hp → Tm × Hp
  | [], s => s
  | (false, t, _, e) :: r, s => proL P r (proT P e t s)
  | (true, o, i, e) :: r, s => proL P r (proO P e o i s)
theorem proL_ok {w0 w : World} {G : Nat → Prop} {a : Act} : ∀ (l : List (Bool × Nat × Nat × TypeId)) {E : Env} {F : Tm} {h : Hp}, Inv P w0 G E h w → RelT E F a → ∃ E', Stepd P w0 G E h w E' (proL P l (F, h)).2 w ∧ RelT E' (proL P l (F, h)).1 a
  | [], E, F, h, I, hT => ⟨E, Stepd.refl I, hT⟩
  | (false, t, _, e) :: r, E, F, h, I, hT => by
    obtain ⟨E1, h1, h2⟩ := proT_ok (e := e) (t := t) I hT
    obtain ⟨E2, h3, h4⟩ := proL_ok r h1.inv h2
    exact ⟨E2, h1.trans h3, h4⟩
  | (true, o, i, e) :: r, E, F, h, I, hT => by
    obtain ⟨E1, h1, h2⟩ := proO_ok (e := e) (o := o) (i := i) I hT
    obtain ⟨E2, h3, h4⟩ := proL_ok r h1.inv h2
    exact ⟨E2, h1.trans h3, h4⟩
/-- a loop's words: what is kept, how the heap's parts are numbered -/
structure Lw where
  keep : List Nat
  pro : List (Bool × Nat × Nat × TypeId)
  p : Nat
  q : Nat
  N : Nat
  ep : Nat
def Lw.in (L : Lw) (P : Program) (F : Tm) (h : Hp) : Tm × Hp := let s := proL P L.pro (F, h); (s.1.can s.2 L.keep L.p L.q L.N, s.2.can L.p L.q L.N L.ep)
def Lw.fits (L : Lw) (P : Program) (F : Tm) (h : Hp) : Bool := Nat.ble h.nx L.p && Nat.ble h.nv L.q && Nat.ble h.ng L.N && Nat.blt (h.ep + h.ob.length) L.ep && Nat.beq (proL P L.pro (F, h)).2.nv L.q
/-- what a loop does, from what it is entered with -/
def loopS {α : Type} (P : Program) (L : Lw) (dec : Tm → Hp → Option α) (T : α → RT Out) : BSpec := fun F h =>
  bif L.fits P F h then (match dec (L.in P F h).1 (L.in P F h).2 with | some x => T x | none => .bad 120) else .bad 121
theorem loop_ok {α : Type} (hm : Fit P) (hΓ : GamOk P Γ) (hΛ : LamAll P Λ) {f : FuncId} {id n : Nat} {b : Code} (hL : LamOk P Λ f b) (L : Lw) {mkF : α → Tm} {mkH : α → Hp} {dec : Tm → Hp → Option α} {T : α → RT Out} (μ : α → Nat)
    (hdec : ∀ F h x, dec F h = some x → F = mkF x ∧ h = mkH x)
    (hbody : ∀ x K, (T x).holds K → (evC P Γ Λ n f b (mkF x) (mkH x)).holds (RoundOk mkF mkH T μ id L.keep L.p L.q L.N L.ep x K)) : BOk P (.block id (.loop b)) (loopS P L dec T) := by
  intro F h K H w0 G E w a Q I hT hp
  unfold loopS at H
  cases hfit : L.fits P F h
  · rw [hfit] at H; exact H.elim
  rw [hfit] at H
  simp only [cond_true] at H
  split at H
  · rename_i x hx
    obtain ⟨hF, hH⟩ := hdec _ _ _ hx
    unfold Lw.fits at hfit
    simp only [Bool.and_eq_true] at hfit
    obtain ⟨⟨⟨⟨f1, f2⟩, f3⟩, f4⟩, f5⟩ := hfit
    have f1 := Nat.le_of_ble_eq_true f1
    have f2 := Nat.le_of_ble_eq_true f2
    have f3 := Nat.le_of_ble_eq_true f3
    have f4 : h.ep + h.ob.length < L.ep := Nat.le_of_ble_eq_true f4
    have f5 := Nat.eq_of_beq_eq_true f5
    have hep : ∀ o, E.live o → ver o h < L.ep := fun o _ => by
      unfold ver; have := cnt_le o h.ob; omega
    obtain ⟨E1, S1, hT1⟩ := proL_ok (a := a) L.pro I hT
    have S2 := can_step S1 I (p := L.p) (q := L.q) (N := L.N) (ep := L.ep) f1 f2 (by rw [f5]; exact Nat.le_refl _) f3 hep
    have hT2 := Tm.can_ok S1.inv hT1 L.keep L.p L.q L.N
    have e1 : (proL P L.pro (F, h)).1.can (proL P L.pro (F, h)).2 L.keep L.p L.q L.N = mkF x := hF
    have e2 : (proL P L.pro (F, h)).2.can L.p L.q L.N L.ep = mkH x := hH
    rw [e2] at S2
    rw [e1] at hT2
    -- the rounds
    have rounds : ∀ m x, μ x < m → (T x).holds K → ∀ (E2 : Env) (w2 : World) (a2 : Act), Stepd P w0 G E h w E2 (mkH x) w2 → RelT E2 (mkF x) a2 → Code.rounds P b (Exit.inBlock id Q) m a2 w2 := by
      intro m
      induction m with
      | zero => intro x hx; omega
      | succ m ih =>
        intro x hmx HT E2 w2 a2 S3 hT3
        rw [rounds_succ]
        refine ((codeOk hm hΓ hΛ n).1 f b _ _ _ (hbody x K HT) hL w0 G E2 w2 a2 _ S3.inv hT3 ?_)
        intro ex F' h' E' a' w' hk hs hT'
        obtain ⟨hq, hk⟩ := hk
        have S4 := S3.trans hs
        have S5 := can_step S4 I (p := L.p) (q := L.q) (N := L.N) (ep := L.ep) f1 f2 hq f3 hep
        have hT5 := Tm.can_ok hs.inv hT' L.keep L.p L.q L.N
        cases ex with
        | normal =>
          obtain ⟨x', ⟨g1, g2⟩, g3, g4⟩ := hk
          have g1' : F'.can h' L.keep L.p L.q L.N = mkF x' := g1
          have g2' : h'.can L.p L.q L.N L.ep = mkH x' := g2
          rw [g2'] at S5
          rw [g1'] at hT5
          exact ih x' (by omega) g4 _ _ _ S5 hT5
        | exit j =>
          show Exit.inBlock id Q (.exit j) a' w'
          simp only [Exit.inBlock]
          simp only at hk
          split
          · rename_i e
            rw [if_pos e] at hk
            exact hp .normal _ _ _ _ _ hk S5 hT5
          · rename_i e
            rw [if_neg e] at hk
            exact hp (.exit j) _ _ _ _ _ hk S5 hT5
        | ret => exact hp .ret _ _ _ _ _ hk S5 hT5
    exact wp_block (wp_loop_rounds (μ x + 1) (rounds _ x (Nat.lt_succ_self _) H _ _ _ S2 hT2))
  · exact H.elim
end
end
end Go.Proofs.YtcambhbmobepjaaGreat

namespace Go.Proofs.YtcambhbmobepjaaGreat
set_option linter.unusedSimpArgs false
set_option linter.unusedVariables false
open Go.RowKit
set_option maxRecDepth 10000
noncomputable section

/-- a table of contracts -/
def gam : List (FuncId × Spec) → FuncId → Option Spec
  | [], _ => none
  | (g, sp) :: r, f => bif Nat.beq g f then some sp else gam r f
def GamL (P : Program) : List (FuncId × Spec) → Prop
  | [] => True
  | (g, sp) :: r => SoundF P g sp ∧ GamL P r
theorem gam_ok {P : Program} : ∀ {l : List (FuncId × Spec)}, GamL P l → GamOk P (gam l)
  | [], _, g, sp, h => by cases h
  | (k, s) :: r, ⟨h1, h2⟩, g, sp, h => by
    simp only [gam] at h
    cases hb : Nat.beq k g
    · rw [hb] at h; exact gam_ok h2 g sp h
    · rw [hb] at h
      cases h
      obtain rfl := Nat.eq_of_beq_eq_true hb
      exact h1
/-- a table of loops -/
def lam : List (FuncId × Nat × BSpec) → FuncId → Nat → Option BSpec
  | [], _, _ => none
  | (g, i, sp) :: r, f, id => bif Nat.beq g f && Nat.beq i id then some sp else lam r f id
def LamE (P : Program) (f : FuncId) (id : Nat) (sp : BSpec) : Prop := ∀ fn b, plainF P f = some (fn, b) → ∀ c ∈ blocksOf id b, BOk P c sp
def LamL (P : Program) : List (FuncId × Nat × BSpec) → Prop
  | [] => True
  | (g, i, sp) :: r => LamE P g i sp ∧ LamL P r
theorem lam_ok {P : Program} : ∀ {l : List (FuncId × Nat × BSpec)}, LamL P l → LamAll P (lam l)
  | [], _, f, fn, b, _, id, sp, h => by cases h
  | (k, i, s) :: r, ⟨h1, h2⟩, f, fn, b, hp, id, sp, h => by
    simp only [lam] at h
    cases hb : Nat.beq k f && Nat.beq i id
    · rw [hb] at h; exact lam_ok h2 f fn b hp id sp h
    · rw [hb] at h
      cases h
      simp only [Bool.and_eq_true] at hb
      obtain rfl := Nat.eq_of_beq_eq_true hb.1
      obtain rfl := Nat.eq_of_beq_eq_true hb.2
      exact h1 fn b hp
def bodyOf (P : Program) (f : FuncId) : Code := match plainF P f with | some (_, b) => b | none => .skip
def loopAt (id : Nat) (c : Code) : Code := match blocksOf id c with | [.block _ (.loop b)] => b | _ => .skip
def isLoop (id : Nat) (c : Code) : Bool := match blocksOf id c with | [.block j (.loop _)] => Nat.beq j id | _ => false
theorem isLoop_ok {id : Nat} {c : Code} (h : isLoop id c = true) : blocksOf id c = [.block id (.loop (loopAt id c))] := by
  unfold isLoop at h
  unfold loopAt
  split at h
  · rename_i j b hb
    obtain rfl := Nat.eq_of_beq_eq_true h
    rw [hb]
  · cases h
theorem blocks_in {id i : Nat} {x : Code} : ∀ {c b : Code}, .block id b ∈ blocksOf id c → x ∈ blocksOf i b → x ∈ blocksOf i c
  | .seq p q, b, h, hx => by
    simp only [blocksOf, List.mem_append] at h ⊢
    exact h.imp (fun h => blocks_in h hx) (fun h => blocks_in h hx)
  | .cond _ p q, b, h, hx => by
    simp only [blocksOf, List.mem_append] at h ⊢
    exact h.imp (fun h => blocks_in h hx) (fun h => blocks_in h hx)
  | .loop p, b, h, hx => by simp only [blocksOf] at h ⊢; exact blocks_in h hx
  | .block j p, b, h, hx => by
    simp only [blocksOf, List.mem_append] at h ⊢
    right
    rcases h with h | h
    · split at h
      · simp at h; obtain ⟨_, rfl⟩ := h; exact hx
      · simp at h
    · exact blocks_in h hx
  | .skip, _, h, _ | .region _ _ _, _, h, _ | .rangeFunc _ _ _ _, _, h, _ | .exit _, _, h, _ | .scope _, _, h, _ | .label _, _, h, _ | .goto _, _, h, _ | .ret, _, h, _ | .refuse _, _, h, _ => by simp [blocksOf] at h
theorem loop_in {P : Program} {gs : List (FuncId × Spec)} {ls : List (FuncId × Nat × BSpec)} {α : Type} (hm : Fit P) (hΓ : GamL P gs) (hΛ : LamL P ls) (f id n : Nat) (hl : isLoop id (bodyOf P f) = true) (L : Lw) {mkF : α → Tm} {mkH : α → Hp} {dec : Tm → Hp → Option α} {T : α → RT Out} (μ : α → Nat)
    (hdec : ∀ F h x, dec F h = some x → F = mkF x ∧ h = mkH x)
    (hbody : ∀ x K, (T x).holds K → (evC P (gam gs) (lam ls) n f (loopAt id (bodyOf P f)) (mkF x) (mkH x)).holds (RoundOk mkF mkH T μ id L.keep L.p L.q L.N L.ep x K)) : LamE P f id (loopS P L dec T) := by
  intro fn b hp c hc
  have hb : bodyOf P f = b := by unfold bodyOf; rw [hp]
  rw [hb] at hl hbody
  have hbl := isLoop_ok hl
  rw [hbl] at hc
  obtain rfl := List.mem_singleton.1 hc
  refine loop_ok hm (gam_ok hΓ) (lam_ok hΛ) (fun i sp hs x hx => lam_ok hΛ f fn b hp i sp hs x (blocks_in (id := id) (b := .loop (loopAt id b)) (by rw [hbl]; exact List.mem_singleton_self _) (by simpa only [blocksOf] using hx))) L μ hdec hbody
/-- a round, what it leaves under the old names -/
def roundT (L : Lw) (t : RT Out) : RT Out := t.bind fun r => bif Nat.ble L.q r.2.2.nv then .ok (r.1, r.2.1.can r.2.2 L.keep L.p L.q L.N, r.2.2.can L.p L.q L.N L.ep) else .bad 122
/-- behind a round: on with x', or out -/
def Round {α : Type} (mkF : α → Tm) (mkH : α → Hp) (T : α → RT Out) (μ : α → Nat) (id : Nat) (x : α) (K : Out → Prop) (r : Out) : Prop :=
  match r.1 with
  | .normal => ∃ x', (r.2.1 = mkF x' ∧ r.2.2 = mkH x') ∧ μ x' < μ x ∧ (T x').holds K
  | .exit j => if j = id then K (.normal, r.2.1, r.2.2) else K (.exit j, r.2.1, r.2.2)
  | .ret => K (.ret, r.2.1, r.2.2)
theorem loop_in2 {P : Program} {gs : List (FuncId × Spec)} {ls : List (FuncId × Nat × BSpec)} {α : Type} (hm : Fit P) (hΓ : GamL P gs) (hΛ : LamL P ls) (f id n : Nat) (hl : isLoop id (bodyOf P f) = true) (L : Lw) {mkF : α → Tm} {mkH : α → Hp} {dec : Tm → Hp → Option α} {T : α → RT Out} (μ : α → Nat)
    (hdec : ∀ F h x, dec F h = some x → F = mkF x ∧ h = mkH x)
    (hbody : ∀ x K, (T x).holds K → (roundT L (evC P (gam gs) (lam ls) n f (loopAt id (bodyOf P f)) (mkF x) (mkH x))).holds (Round mkF mkH T μ id x K)) : LamE P f id (loopS P L dec T) := by
  refine loop_in hm hΓ hΛ f id n hl L μ hdec fun x K H => ?_
  have := hbody x K H
  unfold roundT at this
  rw [RT.holds_bind] at this
  refine RT.holds_mono (fun r hr => ?_) _ this
  cases hq : Nat.ble L.q r.2.2.nv
  · rw [hq] at hr; exact hr.elim
  · rw [hq] at hr
    refine ⟨Nat.le_of_ble_eq_true hq, ?_⟩
    have hr' : Round mkF mkH T μ id x K (r.1, r.2.1.can r.2.2 L.keep L.p L.q L.N, r.2.2.can L.p L.q L.N L.ep) := hr
    unfold Round at hr'
    split at hr' <;> rename_i he <;> simp only at he <;> simp only [he] <;> exact hr'
/-- a pure function's contract -/
theorem pure_in {P : Program} {gs : List (FuncId × Spec)} {ls : List (FuncId × Nat × BSpec)} (hm : Fit P) (hΓ : GamL P gs) (hΛ : LamL P ls) (f n : Nat) {F : List AV → RT AV} (hF : ∀ args K, okL args → (F args).holds K → (treeF (evF P (gam gs) (lam ls) n f) args).holds fun r => ∃ y, Le r y ∧ K y) : SoundF P f (pureS P f F) :=
  pureS_tree (evF_ok hm (gam_ok hΓ) (lam_ok hΛ) n f) hF
/-- one contract or the other -/
def altS (c : List AV → Bool) (s1 s2 : Spec) : Spec := fun args h => bif c args then s1 args h else s2 args h
theorem alt_ok {P : Program} {f : FuncId} {c : List AV → Bool} {s1 s2 : Spec} (h1 : SoundF P f s1) (h2 : SoundF P f s2) : SoundF P f (altS c s1 s2) := by
  intro args h K H
  unfold altS at H
  cases hc : c args
  · rw [hc] at H; exact h2 args h K H
  · rw [hc] at H; exact h1 args h K H
/-- the first argument is a slice whose structure is known -/
def head1 : List AV → Bool
  | .sl kn _ _ _ :: _ => kn
  | .sc kn (.slice _ _ _) :: _ => kn
  | _ => false
/-- the same, arguments seen otherwise -/
theorem pure_by {P : Program} {gs : List (FuncId × Spec)} {ls : List (FuncId × Nat × BSpec)} (hm : Fit P) (hΓ : GamL P gs) (hΛ : LamL P ls) (f n : Nat) {F : List AV → RT AV} (hF : ∀ args K, okL args → (F args).holds K → ∃ args', (∀ E vs, RelL E args vs → RelL E args' vs) ∧ (treeF (evF P (gam gs) (lam ls) n f) args').holds fun r => ∃ y, Le r y ∧ K y) : SoundF P f (pureS P f F) :=
  pureS_tree2 (evF_ok hm (gam_ok hΓ) (lam_ok hΛ) n f) hF
end
end Go.Proofs.YtcambhbmobepjaaGreat

namespace Go.Proofs.YtcambhbmobepjaaGreat
set_option linter.unusedSimpArgs false
set_option linter.unusedVariables false
open Go.RowKit
set_option maxRecDepth 10000
noncomputable section
section
variable {P : Program} {E : Env} {h : Hp} {w w0 w' : World} {G : Nat → Prop}

/-- all that is new may be read -/
def Env.fresh (E : Env) (w w' : World) : Env := { E with Z := fun b j => if b < w.heap.size then E.Z b j else w'.cell? ⟨b, j, none⟩ }
theorem Inv.fresh (I : Inv P w0 G E h w) (hb : Below w.heap.size w w') : Stepd P w0 G E h w (E.fresh w w') h w' := by
  have hZ : ∀ b j v, E.Z b j = some v → (E.fresh w w').Z b j = some v := fun b j v hz => by
    show (if b < w.heap.size then E.Z b j else _) = _
    rw [if_pos (cell_lt (I.z b j v hz))]; exact hz
  have hext : Ext E (E.fresh w w') := ⟨fun _ h => h, fun _ _ => rfl, hZ, Nat.le_refl _, Nat.le_refl _, fun _ _ => .inl ⟨rfl, rfl⟩⟩
  have same : ∀ b, b < w.heap.size → w'.heap[b]? = w.heap[b]? := fun b h => hb.block b h
  refine ⟨hext, ⟨I.kpt.then (Kpt.of_below hb fun _ => False) (fun _ h => h.elim), I.m, I.ng, I.gn, I.gnlt, I.live, I.nx, fun o cs hcs => ?_, I.own, I.inj, fun b j v hz => ?_, fun o j hlo => ?_, fun k hk => ?_, I.vinj⟩, fun o hlo => ⟨Nat.le_refl _, fun _ => same _ (I.live_lt hlo)⟩, fun b j v hz => ?_⟩
  · obtain ⟨vs, t, g1, g2, g3⟩ := I.ob o cs hcs
    exact ⟨vs, t, (same _ (Array.getElem?_eq_some_iff.1 g1).1).trans g1, RelL.mono hext _ _ g2, g3⟩
  · have hz' : (if b < w.heap.size then E.Z b j else w'.cell? ⟨b, j, none⟩) = some v := hz
    split at hz'
    · rename_i hlt
      rw [cell_same (same b hlt)]; exact I.z b j v hz'
    · exact hz'
  · show (if E.β o < w.heap.size then E.Z (E.β o) j else _) = none
    rw [if_pos (I.live_lt hlo)]; exact I.zob o j hlo
  · obtain ⟨sz, n, xs, g1, g2, g3, g4⟩ := I.vec k hk
    refine ⟨sz, n, xs, g1, owns_same g2 fun b hb' => same b (owns_lt g2 hb'), g3, fun b hb' => ⟨(g4 b hb').1, (g4 b hb').2.1, fun j => ?_⟩⟩
    show (if b < w.heap.size then E.Z b j else _) = _
    rw [if_pos (owns_lt g2 hb')]; exact (g4 b hb').2.2 j
  · have hz' : (if b < w.heap.size then E.Z b j else w'.cell? ⟨b, j, none⟩) = some v := hz
    split at hz'
    · exact .inl hz'
    · exact .inr (.inl (Nat.le_trans I.kpt.size (by omega)))
/-- bytes as data -/
def eB (b : UInt8) : D := .i b.toNat
def eBs (l : List UInt8) : D := .l (l.map eB)
theorem toL_eBs {l : List UInt8} (h : l.length ≤ maxLen) : (eBs l).toL = l.map eB := toL_l (by simpa using h)
theorem len_eBs {l : List UInt8} (h : l.length ≤ maxLen) : (eBs l).len = l.length := by unfold D.len; rw [toL_eBs h]; simp
/-- a row of bytes of one's own -/
theorem own_bytesE (I : Inv P w0 G E h w) {e : TypeId} {v : Value} {n : Nat} {l : List UInt8} (hb : Below w.heap.size w w') (ho : w'.ownsRow w.heap.size e 1 v n (l.map bv)) (hrm : l.length ≤ room) :
    ∃ E', Stepd P w0 G E h w E' h w' ∧ Rel E' (.sl false [.int .u8] (eBs l) none) v := by
  refine ⟨_, I.fresh hb, ?_, trivial⟩
  have hn : n = l.length := by have := ho.1; simp at this; omega
  rcases ho.2 with ⟨rfl, h0⟩ | ⟨g, cap, cur, rfl, h0, hg, h1, h2, h3, h4⟩
  · have hl : l = [] := List.eq_nil_of_length_eq_zero (by omega)
    subst hl
    have h0' : (eBs []).len = 0 := by simp [eBs, D.len, D.toL, D.raw]
    exact ⟨by rw [h0', Nat.zero_mul]; exact Nat.zero_le _, none, 0, by rw [h0'], by rw [h0']; exact Nat.le_refl _, Nat.zero_le _, fun _ => rfl, fun hn => absurd h0' hn⟩
  · have hlm : l.length ≤ maxLen := by omega
    have hlen := len_eBs hlm
    refine ⟨by rw [hlen, show szB [.int .u8] = 1 from by decide, Nat.mul_one]; exact hrm, some ⟨g, 0, none⟩, cap, by rw [hlen, hn], by rw [hlen]; omega, h2, (fun h => by cases h), fun _ => ⟨g, 0, rfl, fun i hi => ⟨⟨bv (l[i]?.getD 0), ?_, ?_⟩, trivial⟩⟩⟩
    · rw [hlen] at hi
      show (if g < w.heap.size then E.Z g _ else w'.cell? ⟨g, _, none⟩) = _
      rw [if_neg (by omega), cell_of_row w' g _ _ _ _ hg]
      simp only [List.length_cons, List.length_nil, Nat.zero_add, Nat.mul_one]
      have : (l.map bv)[i]? = some (bv (l[i]?.getD 0)) := by simp [hi]
      rw [← h4, List.getElem?_take_of_lt (by omega)] at this
      simpa using this
    · rw [hlen] at hi
      show bv _ = .int .u8 (((eBs l).get i).cell 0).toI
      unfold D.get
      rw [toL_eBs hlm]
      simp [hi, eB, D.cell, D.toI, bv]
/-- bytes that are read -/
theorem bytes_of (I : Inv P w0 G E h w) {v : Value} {d : D} (hl : LF E.Z (.sl [.int .u8]) v d) (hr : ∀ i, i < d.len → 0 ≤ ((d.get i).cell 0).toI ∧ ((d.get i).cell 0).toI < 256) : IsBytes w v (d.toL.map fun e => UInt8.ofNat (e.cell 0).toI.toNat) := by
  obtain ⟨_, ad, cap, rfl, h1, h2, h3, h4⟩ := hl
  by_cases h0 : d.len = 0
  · have ht : d.toL = [] := List.eq_nil_of_length_eq_zero h0
    rw [ht, h0]
    cases ad with
    | none => have := h3 rfl; subst this; exact .inl ⟨rfl, rfl⟩
    | some x => exact .inr ⟨x, cap, rfl, Nat.zero_le _, h2, fun i hi => by simp at hi⟩
  · obtain ⟨b, o, rfl, h5⟩ := h4 h0
    have hlen : (d.toL.map fun e => UInt8.ofNat (e.cell 0).toI.toNat).length = d.len := by simp [D.len]
    refine .inr ⟨⟨b, o, none⟩, cap, by rw [hlen], by rw [hlen]; exact h1, h2, fun i hi => ?_⟩
    rw [hlen] at hi
    obtain ⟨⟨u, g1, g2⟩, _⟩ := h5 i hi
    simp only [List.length_cons, List.length_nil, Nat.zero_add, Nat.mul_one] at g1
    rw [addr_add', I.z _ _ _ g1]
    have g2' : u = .int .u8 ((d.get i).cell 0).toI := g2
    rw [g2']
    have hi' : i < d.toL.length := hi
    have hg : d.get i = d.toL[i] := by unfold D.get; rw [List.getD_eq_getElem?_getD, List.getElem?_eq_getElem hi']; rfl
    obtain ⟨r1, r2⟩ := hr i hi
    rw [hg] at r1 r2 ⊢
    simp only [List.getElem?_map, List.getElem?_eq_getElem hi', Option.map_some, Option.getD_some]
    congr 2
    rw [UInt8.toNat_ofNat']
    omega
end
end
end Go.Proofs.YtcambhbmobepjaaGreat

namespace Go.Proofs.YtcambhbmobepjaaGreat
set_option linter.unusedSimpArgs false
set_option linter.unusedVariables false
open Go.RowKit
set_option maxRecDepth 10000
noncomputable section
mutual
/-- a value, its rows read -/
def thaw (h : Hp) : AV → AV
  | .rsl kn o n _ => match rowOf o h with
    | some (es, d) => bif Nat.beq n es.length then .sl kn es d none else .any
    | none => .any
  | .rp _ _ _ _ _ => .any
  | .rw es d => .rw es d
  | .ptr _ _ => .any
  | .mp _ => .any
  | .sl kn es d _ => .sl kn es d none
  | .fn _ _ _ => .any
  | .agg cs => .agg (thawL h cs)
  | .tup vs => .tup (thawL h vs)
  | .any => .any
  | .sc kn v => .sc kn v
  | .ep kn es d j => .ep kn es d j
def thawL (h : Hp) : List AV → List AV
  | [] => []
  | x :: xs => thaw h x :: thawL h xs
end
mutual
/-- rows are handed on whole -/
def thawB (h : Hp) : AV → Bool
  | .rsl _ o _ len => match rowOf o h with
    | some (_, d) => decide (len = d.len)
    | none => true
  | .agg cs => thawBL h cs
  | .tup vs => thawBL h vs
  | .rw _ _ => false
  | _ => true
def thawBL (h : Hp) : List AV → Bool
  | [] => true
  | x :: xs => bif thawB h x then thawBL h xs else false
end
theorem re_el {Z Z' : Nat → Nat → Option Value} (hZ : ∀ b j v, Z b j = some v → Z' b j = some v) {cs : Array Value} {b : Nat} (hc : ∀ k v, cs[k]? = some v → Z' b k = some v) : ∀ {es : List Sh} {p : Nat} {d : D} {j : Nat}, RE Z es cs p d j → EL Z' es b p d j
  | [], _, _, _, _ => trivial
  | _ :: _, _, _, _, ⟨⟨v, h1, h2⟩, h3⟩ => ⟨⟨v, hc _ _ h1, LF.mono hZ _ _ _ h2⟩, re_el hZ hc h3⟩
theorem el_re {Z : Nat → Nat → Option Value} {news : List Value} {b o : Nat} (hz : ∀ j u, news[j]? = some u → Z b (o + j) = some u) : ∀ {es : List Sh} {p : Nat} {d : D} {j : Nat}, p + es.length ≤ news.length → EL Z es b (o + p) d j → RE Z es news.toArray p d j
  | [], _, _, _, _, _ => trivial
  | s :: ss, p, d, j, hp, ⟨⟨v, h1, h2⟩, h3⟩ => by
    simp only [List.length_cons] at hp
    have hn : news[p]? = some news[p] := List.getElem?_eq_getElem (by omega)
    have h4 := hz p _ hn
    rw [h1] at h4
    refine ⟨⟨v, by rw [List.getElem?_toArray, hn, ← Option.some.inj h4], h2⟩, el_re hz (by omega) (by rwa [show o + p + 1 = o + (p + 1) by omega] at h3)⟩
section
variable {P : Program} {E : Env} {h : Hp} {w w0 w' : World} {G : Nat → Prop}
mutual
theorem thaw_rel {Zf : Nat → Nat → Option Value} {Ef : Env} (hEf : Ef.Z = Zf) (hZ : ∀ b j v, E.Z b j = some v → Zf b j = some v) (hO : ∀ o, E.live o → ∀ k v, w'.cell? ⟨E.β o, k, none⟩ = some v → Zf (E.β o) k = some v) (I : Inv P w0 G E h w') : ∀ (x : AV) (v : Value), Rel E x v → thawB h x = true → Rel Ef (thaw h x) v
  | .any, _, _, _ => trivial
  | .sc _ _, _, H, _ => H
  | .ptr _ _, _, _, _ => trivial
  | .mp _, _, _, _ => trivial
  | .fn _ _ _, _, _, _ => trivial
  | .rp _ _ _ _ _, _, _, _ => trivial
  | .rw _ _, _, _, hb => by simp [thawB] at hb
  | .sl kn es d tip, v, ⟨h1, _⟩, _ => ⟨by rw [hEf]; exact LF.mono hZ _ _ _ h1, trivial⟩
  | .ep kn es d j, v, ⟨b, o, h1, h2⟩, _ => ⟨b, o, h1, by rw [hEf]; exact EL.mono hZ _ _ _ _ _ h2⟩
  | .agg cs, v, ⟨vs, h1, h2, h3⟩, hb => ⟨vs, h1, thaw_relL hEf hZ hO I cs _ h2 (by simpa [thawB] using hb), h3⟩
  | .tup cs, v, ⟨vs, h1, h2⟩, hb => ⟨vs, h1, thaw_relL hEf hZ hO I cs _ h2 (by simpa [thawB] using hb)⟩
  | .rsl kn o n len, v, ⟨hl, ad, cap, g1, g2, g3, g4, g5⟩, hb => by
    simp only [thaw]
    simp only [thawB] at hb
    cases hr : rowOf o h with
    | none => exact trivial
    | some p =>
      obtain ⟨es, d⟩ := p
      simp only
      rw [hr] at hb
      have hlen : len = d.len := of_decide_eq_true hb
      cases hn : Nat.beq n es.length
      · exact trivial
      · obtain rfl := Nat.eq_of_beq_eq_true hn
        subst hlen
        obtain ⟨_, cs, ty, hblk, hbd, hre⟩ := row_ob I hr
        refine ⟨⟨hbd, ad, cap, g1, g2, g3, g4, fun hne => ⟨E.β o, 0, g5 hne, fun i hi => ?_⟩⟩, trivial⟩
        rw [hEf, Nat.zero_add]
        refine re_el hZ (fun k u hk => hO o hl k u ?_) (hre i hi)
        have hblk' : w'.heap[E.β o]? = some (.cells cs.toList.toArray ty (0, 0)) := by simpa using hblk
        rw [cell_of_row w' _ k _ _ _ hblk']
        simpa using hk
theorem thaw_relL {Zf : Nat → Nat → Option Value} {Ef : Env} (hEf : Ef.Z = Zf) (hZ : ∀ b j v, E.Z b j = some v → Zf b j = some v) (hO : ∀ o, E.live o → ∀ k v, w'.cell? ⟨E.β o, k, none⟩ = some v → Zf (E.β o) k = some v) (I : Inv P w0 G E h w') : ∀ (xs : List AV) (vs : List Value), RelL E xs vs → thawBL h xs = true → RelL Ef (thawL h xs) vs
  | [], _, H, _ => H
  | x :: xs, _, ⟨v, vs', h1, h2, h3⟩, hb => by
    simp only [thawBL] at hb
    cases hx : thawB h x
    · rw [hx] at hb; cases hb
    · rw [hx] at hb; exact ⟨v, vs', h1, thaw_rel hEf hZ hO I x v h2 hx, thaw_relL hEf hZ hO I xs vs' h3 hb⟩
end
end
section
variable {P : Program} {E : Env} {h : Hp} {w w0 w' : World} {G : Nat → Prop}
theorem newO_at {cs : List AV} {vs : List Value} (t : Obj) (I : Inv P w0 G E h w) {g : Nat} (hbel : Below w.heap.size w w') (hg : w.heap.size ≤ g) (hblk : w'.heap[g]? = some t) (hr : RelL E cs vs) (h1 : ObOk t vs) :
    ∃ E', Stepd P w0 G E h w E' (newA cs h).2 w' ∧ E'.live h.nx ∧ E'.β h.nx = g ∧ E'.Z = E.Z := by
  have hnl : ¬ E.live h.nx := fun hl => by have := I.nx _ hl; omega
  have hext : Ext E { E with β := fun o => if o = h.nx then g else E.β o, live := fun o => E.live o ∨ o = h.nx } :=
    ⟨fun o ho => .inl ho, fun o ho => if_neg fun e : o = h.nx => hnl (e ▸ ho), fun _ _ _ hz => hz, Nat.le_refl _, Nat.le_refl _, fun _ _ => .inl ⟨rfl, rfl⟩⟩
  have hold : ∀ k, k < w.heap.size → w'.heap[k]? = w.heap[k]? := fun k hk => hbel.block k hk
  have hlt : ∀ o, E.live o → E.β o ≠ g := fun o ho => by have := I.live_lt ho; omega
  refine ⟨_, ⟨hext, ⟨I.kpt.then (Kpt.of_below hbel fun _ => False) (fun _ hf => hf.elim), I.m, I.ng, I.gn, I.gnlt, fun p => ?_, fun p hp => ?_, fun p cp hp => ?_, fun p hp => ?_, fun p q hp hq => ?_, fun b j v hz => ?_, fun p j hp => ?_, fun k hkn => ?_, I.vinj⟩, fun p hp => ?_, fun _ _ _ hz => .inl hz⟩, .inr rfl, by simp, rfl⟩
  · simp only [newA, lookO_cons]
    split
    · rename_i e; subst e; simp
    · rename_i e
      rw [← I.live p]
      exact ⟨fun hh => hh.resolve_right fun e' => e e'.symm, .inl⟩
  · rcases hp with hp | rfl
    · have := I.nx p hp; simp only [newA]; omega
    · simp only [newA]; omega
  · simp only [newA, lookO_cons] at hp
    split at hp
    · rename_i e; subst e; cases hp
      exact ⟨vs, t, by simp only [if_pos]; exact hblk, RelL.mono hext _ _ hr, h1⟩
    · rename_i e
      obtain ⟨us, t', g1, g2, g3⟩ := I.ob p cp hp
      have hlp : E.live p := (I.live p).2 (by rw [hp]; rfl)
      refine ⟨us, t', ?_, RelL.mono hext _ _ g2, g3⟩
      simp only [if_neg (fun e' : p = h.nx => e (Eq.symm e'))]
      exact (hold _ (I.live_lt hlp)).trans g1
  · rcases hp with hp | rfl
    · simp only [if_neg (fun e : p = h.nx => hnl (e ▸ hp))]; exact I.own p hp
    · simp only [if_pos]; exact .inl (Nat.le_trans I.kpt.size hg)
  · intro e
    by_cases ep : p = h.nx <;> by_cases eq : q = h.nx
    · rw [ep, eq]
    · simp only [ep, eq, if_pos, if_neg, not_false_eq_true] at e
      exact absurd e.symm (hlt q (hq.resolve_right eq))
    · simp only [ep, eq, if_pos, if_neg, not_false_eq_true] at e
      exact absurd e (hlt p (hp.resolve_right ep))
    · simp only [if_neg ep, if_neg eq] at e
      exact I.inj p q (hp.resolve_right ep) (hq.resolve_right eq) e
  · have hc := I.z b j v hz
    rw [cell_same (hold b (cell_lt hc))]; exact hc
  · by_cases ep : p = h.nx
    · simp only [if_pos ep]; exact I.z_fresh hg j
    · simp only [if_neg ep]; exact I.zob p j (hp.resolve_right ep)
  · obtain ⟨sz, n, xs, g1, g2, g3, g4⟩ := I.vec k hkn
    refine ⟨sz, n, xs, g1, owns_same g2 fun b hb' => hold b (owns_lt g2 hb'), g3, fun b hb' => ⟨(g4 b hb').1, fun o ho => ?_, (g4 b hb').2.2⟩⟩
    by_cases ep : o = h.nx
    · simp only [if_pos ep]; have := owns_lt g2 hb'; omega
    · simp only [if_neg ep]; exact (g4 b hb').2.1 o (ho.resolve_right ep)
  · have : p ≠ h.nx := fun e => hnl (e ▸ hp)
    simp only [ver, newA, cnt_cons, if_neg (fun e : h.nx = p => this (Eq.symm e))]
    exact ⟨Nat.le_refl _, fun _ => hold _ (I.live_lt hp)⟩
/-- a row of one's own that may change -/
theorem own_rowE (I : Inv P w0 G E h w) {e : TypeId} {kn : Bool} {es : List Sh} {d : D} {v : Value} {news : List Value} (hbel : Below w.heap.size w w') (ho : w'.ownsRow w.heap.size e es.length v d.len news) (h0 : d.len ≠ 0) (hbd : d.len * szB es ≤ room)
    (hre : ∀ i, i < d.len → RE E.Z es news.toArray (i * es.length) (d.get i) 0) :
    ∃ E', Stepd P w0 G E h w E' (newA [.rw es d] h).2 w' ∧ Rel E' (.rsl kn h.nx es.length d.len) v := by
  rcases ho.2 with ⟨_, hz⟩ | ⟨g, cap, cur, rfl, hg, hblk, hnc, hcm, hcs, htk⟩
  · exact absurd hz h0
  · have hre' : ∀ i, i < d.len → RE E.Z es cur (i * es.length) (d.get i) 0 := fun i hi => re_iff.2 fun k s hk => by
      obtain ⟨u, hu, hl⟩ := re_iff.1 (hre i hi) k s hk
      refine ⟨u, ?_, hl⟩
      have hu' : news[i * es.length + k]? = some u := by simpa using hu
      rw [← htk, List.getElem?_take] at hu'
      split at hu'
      · simpa using hu'
      · cases hu'
    obtain ⟨E', g1, g2, g3, g4⟩ := newO_at (.cells cur e (0, 0)) (cs := [.rw es d]) (vs := [.agg cur]) I hbel hg hblk ⟨_, [], rfl, ⟨hbd, cur, rfl, hre'⟩, rfl⟩ (.inr (.inr ⟨cur, e, rfl, rfl⟩))
    exact ⟨E', g1, g2, _, cap, rfl, hnc, hcm, (fun hn => by cases hn), fun _ => by rw [g3]⟩
end
mutual
/-- a value, its rows read, if they are handed on whole -/
def thawR (h : Hp) : AV → RT AV
  | .rsl kn o n len => match rowOf o h with
    | some (es, d) => bif Nat.beq n es.length then need kn (decide (len = d.len)) 213 (.ok (.sl kn es d none)) else .bad 213
    | none => .ok .any
  | .rp _ _ _ _ _ => .ok .any
  | .rw _ _ => .bad 214
  | .ptr _ _ => .ok .any
  | .mp _ => .ok .any
  | .sl kn es d _ => .ok (.sl kn es d none)
  | .fn _ _ _ => .ok .any
  | .agg cs => (thawRL h cs).bind fun cs => .ok (.agg cs)
  | .tup vs => (thawRL h vs).bind fun vs => .ok (.tup vs)
  | .any => .ok .any
  | .sc kn v => .ok (.sc kn v)
  | .ep kn es d j => .ok (.ep kn es d j)
def thawRL (h : Hp) : List AV → RT (List AV)
  | [] => .ok []
  | x :: xs => (thawR h x).bind fun x => (thawRL h xs).bind fun xs => .ok (x :: xs)
end
mutual
theorem thawR_ok {h : Hp} : ∀ {x : AV} {Q : AV → Prop}, (thawR h x).holds Q → thawB h x = true ∧ Q (thaw h x)
  | .rsl kn o n len, Q, H => by
    simp only [thawR] at H
    simp only [thawB, thaw]
    split at H
    · rename_i es d hr
      cases hn : Nat.beq n es.length
      · rw [hn] at H; exact H.elim
      · rw [hn] at H
        obtain ⟨h1, h2⟩ := need_holds H
        exact ⟨h1, h2⟩
    · exact ⟨rfl, H⟩
  | .rp _ _ _ _ _, Q, H => ⟨rfl, H⟩
  | .rw _ _, Q, H => H.elim
  | .ptr _ _, Q, H => ⟨rfl, H⟩
  | .mp _, Q, H => ⟨rfl, H⟩
  | .sl _ _ _ _, Q, H => ⟨rfl, H⟩
  | .fn _ _ _, Q, H => ⟨rfl, H⟩
  | .agg cs, Q, H => by
    simp only [thawR, RT.holds_bind] at H
    simp only [thawB, thaw]
    exact thawRL_ok (Q := fun cs => Q (.agg cs)) H
  | .tup cs, Q, H => by
    simp only [thawR, RT.holds_bind] at H
    simp only [thawB, thaw]
    exact thawRL_ok (Q := fun cs => Q (.tup cs)) H
  | .any, Q, H => ⟨rfl, H⟩
  | .sc _ _, Q, H => ⟨rfl, H⟩
  | .ep _ _ _ _, Q, H => ⟨rfl, H⟩
theorem thawRL_ok {h : Hp} : ∀ {xs : List AV} {Q : List AV → Prop}, (thawRL h xs).holds Q → thawBL h xs = true ∧ Q (thawL h xs)
  | [], Q, H => ⟨rfl, H⟩
  | x :: xs, Q, H => by
    simp only [thawRL, RT.holds_bind] at H
    simp only [thawBL, thawL]
    obtain ⟨h1, h2⟩ := thawR_ok (x := x) (Q := fun x => (thawRL h xs).holds fun ys => Q (x :: ys)) H
    obtain ⟨h3, h4⟩ := thawRL_ok (xs := xs) (Q := fun ys => Q (thaw h x :: ys)) h2
    rw [h1, cond_true]
    exact ⟨h3, h4⟩
end
/-- the tree of a function that hands on rows of its own -/
def treeR (sp : Spec) (args : List AV) : RT AV := (sp args hp0).bind fun x => thawR x.2 x.1
theorem pureS_row {P : Program} {f : FuncId} {sp : Spec} (hs : SoundF P f sp) {F : List AV → RT AV} (hF : ∀ args K, okL args → (F args).holds K → ∃ args', (∀ E vs, RelL E args vs → RelL E args' vs) ∧ (treeR sp args').holds fun r => ∃ y, Le r y ∧ K y) : SoundF P f (pureS P f F) := by
  intro args h K H w0 G E w vals I hr
  unfold pureS at H
  rw [RT.holds_bind] at H
  obtain ⟨args', hle, h1⟩ := hF _ _ (ok_relL _ _ (args0_rel hr)) H
  unfold treeR at h1
  rw [RT.holds_bind] at h1
  have I2 := (I.ren (os := []) (ks := []) (g0 := 0) .nil .nil (by simp) 0).top
  have hr2 := ren_relL (os := []) (ks := []) (g0 := 0) I _ _ hr
  rw [ren_stripL] at hr2
  refine (hs _ _ _ h1 w _ _ w vals I2 (hle _ _ (nilAs_rel _ _ _ (dull_relL _ _ hr2)))).mono ?_
  rintro e w' ⟨r, h', v, E', hK, rfl, S, hv⟩
  have hno : ∀ b, ¬ (E.ren [] [] 0).mine b := by
    rintro b (⟨o, ⟨p, hp, _⟩, _⟩ | ⟨k, hk, _⟩)
    · simp at hp
    · simp [Env.ren] at hk
  have hbel : Below w.heap.size w w' := S.inv.kpt.below fun k hk => absurd hk (hno k)
  have S3 := I.fresh hbel
  obtain ⟨hb, y, hy, hK⟩ := thawR_ok hK
  have hv3 : Rel (E.fresh w w') (thaw h' r) v := by
    refine thaw_rel (E := E') (Zf := (E.fresh w w').Z) rfl (fun b j u hz => ?_) (fun o ho k u hu => ?_) S.inv r v hv hb
    · show (if b < w.heap.size then E.Z b j else w'.cell? ⟨b, j, none⟩) = some u
      by_cases hlt : b < w.heap.size
      · rw [if_pos hlt]
        rcases S.zn b j u hz with h | h | h
        · exact h
        · omega
        · exact absurd h (hno b)
      · rw [if_neg hlt]; exact S.inv.z b j u hz
    · show (if E'.β o < w.heap.size then E.Z (E'.β o) k else w'.cell? ⟨E'.β o, k, none⟩) = some u
      rcases S.inv.own o ho with h | h
      · rw [if_neg (by omega)]; exact hu
      · exact absurd h (hno _)
  refine ⟨_, h, v, _, hK, rfl, S3, ?_⟩
  cases allKL args
  · exact hy _ _ hv3
  · exact know_rel _ _ (hy _ _ hv3)
theorem pure_row {P : Program} {gs : List (FuncId × Spec)} {ls : List (FuncId × Nat × BSpec)} (hm : Fit P) (hΓ : GamL P gs) (hΛ : LamL P ls) (f n : Nat) {F : List AV → RT AV} (hF : ∀ args K, okL args → (F args).holds K → (treeR (evF P (gam gs) (lam ls) n f) args).holds fun r => ∃ y, Le r y ∧ K y) : SoundF P f (pureS P f F) :=
  pureS_row (evF_ok hm (gam_ok hΓ) (lam_ok hΛ) n f) fun args K ho H => ⟨args, fun _ _ h => h, hF args K ho H⟩
/-- the same, whatever is answered where less is known -/
theorem rowOf_cons (o : Nat) (es : List Sh) (d : D) (h : Hp) : rowOf o { h with ob := (o, [.rw es d]) :: h.ob } = some (es, d) := by
  unfold rowOf
  rw [lookO_cons, if_pos rfl]
/-! A loop's rounds one by one, where that can be seen ahead. -/
def altB (c : Tm → Hp → Bool) (s1 s2 : BSpec) : BSpec := fun F h => bif c F h then s1 F h else s2 F h
theorem altB_ok {P : Program} {f : FuncId} {id : Nat} {c : Tm → Hp → Bool} {s1 s2 : BSpec} (h1 : LamE P f id s1) (h2 : LamE P f id s2) : LamE P f id (altB c s1 s2) := by
  intro fn b hp x hx F h K H
  unfold altB at H
  cases hc : c F h
  · rw [hc] at H; exact h2 fn b hp x hx F h K H
  · rw [hc] at H; exact h1 fn b hp x hx F h K H
def runB (P : Program) (gs : List (FuncId × Spec)) (n : Nat) (f : FuncId) (id : Nat) : BSpec := fun F h => evC P (gam gs) (lam []) n f (.block id (.loop (loopAt id (bodyOf P f)))) F h
theorem runB_ok {P : Program} {gs : List (FuncId × Spec)} (hm : Fit P) (hΓ : GamL P gs) (f id n : Nat) (hl : isLoop id (bodyOf P f) = true) : LamE P f id (runB P gs n f id) := by
  intro fn b hp c hc
  have hb : bodyOf P f = b := by unfold bodyOf; rw [hp]
  have hl' := hl
  rw [hb] at hl'
  rw [isLoop_ok hl'] at hc
  obtain rfl := List.mem_singleton.1 hc
  intro F h K H
  unfold runB at H
  rw [hb] at H
  exact (codeOk hm (gam_ok hΓ) (lam_ok (l := []) trivial) n).1 f _ F h K H (fun i sp hs => by cases hs)
/-- the temporary is a number that is known ahead -/
def knT (t : Nat) (F : Tm) (_ : Hp) : Bool := match look t F.tm with | .sc kn _ => kn | _ => false
end
end Go.Proofs.YtcambhbmobepjaaGreat

namespace Go.Proofs.YtcambhbmobepjaaGreat
set_option linter.unusedSimpArgs false
set_option linter.unusedVariables false
open Go.RowKit Go.ChangeShapes Go.WideShapes Go.ChangeAt

theorem returns_shaped_and {H : Type} {enc : TypeId × Value → H} {a : Assume} {C : Checked} {os : Os} {f : FuncId} {fn : Func} {s : ChangeSpec} {conds : List PathCond} {apart fresh handsOn again : Bool} {X : World → Array Value → Prop}
    (hX : ∀ (w w' : World) (args : Array Value), w.heap = w'.heap → X w args → X w' args)
    (own : ownKnob C.prog.godebug = none) (started : os.Started) (noInit : C.prog.inits.idxOf? f = none) (hfn : C.prog.funcs[f]? = some fn)
    (witness : ∃ (w : World) (tape : Tape) (i : Input), w.os = os ∧ (w.forCall tape i).Shaped C.prog ∧ i.vars = [] ∧ Input.okWide C.prog (w.forCall tape i) .any w.heap.size f i ∧
      ((s.pre enc C.prog fn conds apart (w.forCall tape i).memory i.args ∧ X (w.forCall tape i).memory i.args) ∧ sizedMet enc C.prog fn (OpenSpec.ofChange s) apart (w.forCall tape i).memory i.args) ∧ a.holds C.prog (lone (Frame.enter C.prog f i.args .normal) [] (w.forCall tape i)))
    (contract : ∀ (W : World) (base : Nat) (args : Array Value) (ds gs : List (DataW H)) (before : List MemPlace),
      (∀ (j : Nat) t v, fn.params[j]? = some t → args[j]? = some v → Value.okWide C.prog W .any base t v) →
      DataW.Whole enc C.prog fn.params.toList s.vars apart W args.toList ds gs before →
      (DataW.weightsEach C.prog (fn.params.toList ++ s.plain.varTypes C.prog) (ds ++ gs)).all (· ≤ reachBytes) = true → X W args →
      W.ShapedOpen C.prog →
      Calls C.prog f args W fun e W' => ∃ v, e = .returned v ∧ s.post enc C.prog fn apart fresh handsOn again W args v W') :
    ReturnsInHanded a C os f .any (fun w args => (s.pre enc C.prog fn conds apart w args ∧ X w args) ∧ sizedMet enc C.prog fn (OpenSpec.ofChange s) apart w args) (s.post enc C.prog fn apart fresh handsOn again) := by
  refine returnsInHanded_of_calls own started noInit witness ?_
  intro w tape i _ hsh _ hok hpre hholds
  obtain ⟨_, _, _, fn', hfn', _, _, _, _, hval⟩ := hok
  have e : fn' = fn := Option.some.inj (hfn'.symm.trans hfn)
  subst e
  obtain ⟨⟨⟨ds, gs, before, hw, hc⟩, hx⟩, hz⟩ := hpre
  have hw' := DataW.Whole.of_heap (w' := w.forCall tape i) (by rfl) hw
  refine (contract (w.forCall tape i) w.heap.size i.args ds gs before hval hw' (hz.weights hw) (hX _ _ _ (by rfl) hx) hsh).mono fun e W' ⟨v, he, hp⟩ => ?_
  subst he
  exact ChangeSpec.post_blind hp

/-- The bytes that numbers are. -/
def bytesOf (zs : List Int) : List UInt8 := zs.map fun n => UInt8.ofNat n.toNat

theorem isBytes_of_ints {W : World} {x : Addr} {len cap : Nat} {zs : List Int} (hl : len ≤ cap) (hm : cap ≤ maxLen) (hz : zs.length = cap)
    (hcell : ∀ i, i < zs.length → W.cell? (x.add i) = some (.int .u8 (zs.getD i 0))) (hwz : ∀ n ∈ zs, (Lit.int .u8 n).wf = true) : IsBytes W (.slice (some x) len cap) (bytesOf (zs.take len)) := by
  have hlen : (bytesOf (zs.take len)).length = len := by simp [bytesOf]; omega
  refine .inr ⟨x, cap, by rw [hlen], by omega, hm, fun i hi => ?_⟩
  rw [hlen] at hi
  have hi' : i < zs.length := by omega
  rw [hcell i hi']
  have hn := hwz (zs[i]'hi') (List.getElem_mem _)
  have hb : 0 ≤ zs[i]'hi' ∧ zs[i]'hi' ≤ 255 := by simpa [Lit.wf, IntKind.min, IntKind.max, IntKind.signed, IntKind.bits] using hn
  simp [bytesOf, hi, hi']
  omega

theorem okWide_arr {P : Program} {w : World} {r : Reach} {base : Nat} {t : TypeId} {v : Value} {n : Nat} {e : TypeId} (ht : P.underlying t = some (.array n e)) (h : Value.okWide P w r base t v) : ∃ cs, v = .agg cs ∧ cs.size = P.cellsOf t := by
  simp only [Value.okWide, ht] at h
  obtain ⟨cs, h1, h2, _⟩ := h
  exact ⟨cs, h1, h2⟩

theorem byte_of_wf {n : Int} (h : (Lit.int .u8 n).wf = true) : ∃ b : UInt8, n = (b.toNat : Int) := by
  have hb : 0 ≤ n ∧ n ≤ 255 := by simpa [Lit.wf, IntKind.min, IntKind.max, IntKind.signed, IntKind.bits] using h
  refine ⟨UInt8.ofNat n.toNat, ?_⟩
  rw [UInt8.toNat_ofNat']
  omega

/-- An address that came in, by value. -/
theorem open_mac {H : Type} {enc : TypeId × Value → H} {P : Program} {w : World} {base b0 : Nat} {spare : Nat → Bool} {held : Bool} {r : Reach} {t e : TypeId} {v : Value} {d : DataW H} {p : List MemPlace}
    (ht : P.underlying t = some (.array 6 e)) (he : P.underlying e = some (.int .u8)) (hC : P.cellsOf t = 6) (hc : P.cellsOf e = 1)
    (hv : Value.okWide P w r b0 t v) (h : DataW.Trod enc P w base spare held t v d p) : ∃ a b c d' e' f : UInt8, v = .agg #[bv a, bv b, bv c, bv d', bv e', bv f] := by
  obtain ⟨cs, rfl, hsz⟩ := okWide_arr ht hv
  obtain ⟨fuel, hf⟩ := h
  obtain ⟨xs, m, _, _, _, hl, hall⟩ := DataW.trod_array ht hf
  rw [hC] at hsz
  have hcs : (Value.agg cs).cells.toList = cs.toList := rfl
  rw [hcs, hc] at hall
  obtain ⟨l⟩ := cs
  match l, hsz with
  | [v0, v1, v2, v3, v4, v5], _ =>
    have one : ∀ (i : Nat) (u : Value), i < 6 → ([v0, v1, v2, v3, v4, v5].drop (i * 1)).take 1 = [u] → ∃ b : UInt8, u = bv b := by
      intro i u hi hu
      have := hall i hi
      simp only at this
      rw [hu, List.getElem?_eq_getElem (by omega)] at this
      obtain ⟨n, h1, _, hw⟩ := DataW.trod_int he this
      obtain ⟨b, rfl⟩ := byte_of_wf hw
      simp at h1
      exact ⟨b, h1⟩
    obtain ⟨a, rfl⟩ := one 0 v0 (by omega) rfl
    obtain ⟨b, rfl⟩ := one 1 v1 (by omega) rfl
    obtain ⟨c, rfl⟩ := one 2 v2 (by omega) rfl
    obtain ⟨d', rfl⟩ := one 3 v3 (by omega) rfl
    obtain ⟨e', rfl⟩ := one 4 v4 (by omega) rfl
    obtain ⟨f, rfl⟩ := one 5 v5 (by omega) rfl
    exact ⟨a, b, c, d', e', f, rfl⟩
theorem u64_of_wf {n : Int} (h : (Lit.int .u64 n).wf = true) : ∃ k : Nat, n = (k : Int) ∧ k < 18446744073709551616 := by
  have hb : 0 ≤ n ∧ n ≤ 18446744073709551615 := by simpa [Lit.wf, IntKind.min, IntKind.max, IntKind.signed, IntKind.bits] using h
  exact ⟨n.toNat, by omega, by omega⟩
end Go.Proofs.YtcambhbmobepjaaGreat

namespace Go.Proofs.YtcambhbmobepjaaGreat
set_option linter.unusedSimpArgs false
set_option linter.unusedVariables false
open Go.RowKit Go.ChangeShapes Go.WideShapes Go.ChangeAt
set_option maxRecDepth 10000

/-- v is a slice of l; each element's n cells are told by R -/
def Sl {α : Type} (n : Nat) (R : World → List Value → α → Prop) (w : World) (v : Value) (l : List α) : Prop :=
  ∃ a cap, v = .slice a l.length cap ∧ l.length ≤ cap ∧ cap ≤ maxLen ∧ (a = none → cap = 0) ∧ (l ≠ [] → ∃ b o, a = some ⟨b, o, none⟩ ∧ ∀ i x, l[i]? = some x → ∃ cs, rng w b (o + i * n) n = some cs ∧ R w cs x)

/-- whatever can be read as a value of type t has cells that R tells -/
def Opens {α : Type} (P : Program) (t : TypeId) (R : World → List Value → α → Prop) : Prop :=
  ∀ (H : Type) (enc : TypeId × Value → H) (w : World) (base : Nat) (spare : Nat → Bool) (held : Bool) (fuel : Nat) (cs : List Value) (x : DataW H × List MemPlace),
    DataW.trod enc P w base spare held fuel t cs = some x → ∃ a, R w cs a

theorem Opens.map {α β : Type} {P : Program} {t : TypeId} {R : World → List Value → α → Prop} {R' : World → List Value → β → Prop} (h : Opens P t R) (hm : ∀ w cs a, R w cs a → ∃ b, R' w cs b) : Opens P t R' :=
  fun H enc w base spare held fuel cs x hx => by obtain ⟨a, ha⟩ := h H enc w base spare held fuel cs x hx; exact hm w cs a ha
theorem opens_int {P : Program} {t : TypeId} {k : IntKind} (ht : P.underlying t = some (.int k)) : Opens P t (fun _ cs (n : Int) => cs = [.int k n] ∧ (Lit.int k n).wf = true) :=
  fun _ _ _ _ _ _ _ _ _ h => by obtain ⟨n, h1, _, h2⟩ := DataW.trod_int ht h; exact ⟨n, h1, h2⟩
theorem opens_bool {P : Program} {t : TypeId} (ht : P.underlying t = some .bool) : Opens P t (fun _ cs (b : Bool) => cs = [.bool b]) :=
  fun _ _ _ _ _ _ _ _ _ h => by obtain ⟨b, h1, _⟩ := DataW.trod_bool ht h; exact ⟨b, h1⟩
theorem opens_string {P : Program} {t : TypeId} (ht : P.underlying t = some .string) : Opens P t (fun _ cs (s : ByteArray) => cs = [.string s] ∧ s.size ≤ maxLen) :=
  fun _ _ _ _ _ _ _ _ _ h => by obtain ⟨s, h1, _, h2⟩ := DataW.trod_string ht h; exact ⟨s, h1, h2⟩
theorem opens_byte {P : Program} {t : TypeId} (ht : P.underlying t = some (.int .u8)) : Opens P t (fun _ cs (b : UInt8) => cs = [bv b]) :=
  (opens_int ht).map fun _ _ n ⟨h1, h2⟩ => by obtain ⟨b, rfl⟩ := byte_of_wf h2; exact ⟨b, h1⟩
theorem list_of_each {α : Type} {Q : Nat → α → Prop} : ∀ (k : Nat), (∀ i, i < k → ∃ y, Q i y) → ∃ l : List α, l.length = k ∧ ∀ i y, l[i]? = some y → Q i y
  | 0, _ => ⟨[], rfl, fun i y h => by simp at h⟩
  | k + 1, h => by
    obtain ⟨l, h1, h2⟩ := list_of_each k (fun i hi => h i (by omega))
    obtain ⟨y, hy⟩ := h k (by omega)
    refine ⟨l ++ [y], by simp [h1], fun i z hz => ?_⟩
    by_cases hi : i < l.length
    · rw [List.getElem?_append_left hi] at hz; exact h2 i z hz
    · have hil := (List.getElem?_eq_some_iff.1 hz).1
      simp only [List.length_append, List.length_cons, List.length_nil] at hil
      obtain rfl : i = k := by omega
      rw [List.getElem?_append_right (by omega), h1] at hz
      simp only [Nat.sub_self, List.getElem?_cons_zero, Option.some.injEq] at hz
      exact hz ▸ hy
theorem addr_add_eq {b o k : Nat} : (⟨b, o, none⟩ : Addr).add k = ⟨b, o + k, none⟩ := by unfold Addr.add; split <;> simp_all
theorem opens_slice {α : Type} {P : Program} {t e n : Nat} {R : World → List Value → α → Prop} (ht : P.underlying t = some (.slice e)) (hn : P.cellsOf e = n) (hpos : 0 < n) (he : Opens P e R) :
    Opens P t (fun w cs (l : List α) => ∃ v, cs = [v] ∧ Sl n R w v l) := fun H enc w base spare held fuel cs x h => by
  rcases DataW.trod_slice ht h with ⟨rfl, _⟩ | ⟨a, len, cap, elems, rest, m, _, rfl, _, _, hl, hm, hlen, hel, _, _⟩
  · exact ⟨[], _, rfl, none, 0, rfl, Nat.le_refl _, Nat.zero_le _, fun _ => rfl, fun h => absurd rfl h⟩
  · have hex : ∀ i, i < len → ∃ y cs', w.cells? base (a.add (i * n)) n = some cs' ∧ R w cs' y := fun i hi => by
      have := hel i hi
      rw [hn, List.getElem?_eq_getElem (by omega)] at this
      obtain ⟨cs', h1, h2⟩ := Option.bind_eq_some_iff.1 this
      obtain ⟨y, hy⟩ := he H enc w base spare held m cs' _ h2
      exact ⟨y, cs', h1, hy⟩
    obtain ⟨l, hll, hl2⟩ := list_of_each (Q := fun i y => ∃ cs', w.cells? base (a.add (i * n)) n = some cs' ∧ R w cs' y) len hex
    refine ⟨l, _, rfl, some a, cap, by rw [hll], by omega, hm, (fun h => by cases h), fun hne => ?_⟩
    have hlp : 0 < l.length := List.length_pos_iff.2 hne
    have cel : ∀ i (cs' : List Value), w.cells? base (a.add (i * n)) n = some cs' → cs'.length = n ∧ ∀ j, j < n → w.cell? ((a.add (i * n)).add j) = cs'[j]? := fun i cs' h => by
      have := World.cells?_some h
      exact ⟨this.2.1, this.2.2⟩
    obtain ⟨cs0, h0, _⟩ := hl2 0 _ (List.getElem?_eq_getElem hlp)
    obtain ⟨k1, k2⟩ := cel 0 cs0 h0
    have hz := k2 0 hpos
    rw [Nat.zero_mul, List.getElem?_eq_getElem (by omega)] at hz
    have hs : a.spot = none := by
      have e0 : (a.add 0).add 0 = a := rfl
      rw [e0] at hz
      unfold World.cell? at hz
      split at hz
      · split at hz
        · cases hz
        · rename_i hh; simpa using hh
      · cases hz
    obtain ⟨b, o, sp⟩ := a
    obtain rfl : sp = none := hs
    refine ⟨b, o, rfl, fun i y hy => ?_⟩
    obtain ⟨cs', g1, g2⟩ := hl2 i y hy
    obtain ⟨k3, k4⟩ := cel i cs' g1
    refine ⟨cs', ?_, g2⟩
    have : w.rangeAt b (o + i * n) cs' := fun j v hv => by
      have hj : j < n := by have := (List.getElem?_eq_some_iff.1 hv).1; omega
      have := k4 j hj
      rw [addr_add_eq, addr_add_eq] at this
      rw [this, hv]
    have hr := rng_of this (by rintro rfl; simp at k3; omega)
    rwa [k3] at hr

/-- the fields of a struct, one by one -/
def OpensF {α : Type} (P : Program) (fs : List Field) (off : Nat) (R : World → List Value → α → Prop) : Prop :=
  ∀ (H : Type) (enc : TypeId × Value → H) (w : World) (base : Nat) (spare : Nat → Bool) (held : Bool) (fuel : Nat) (cs : List Value),
    (∀ (i : Nat) (f : Field), fs[i]? = some f → ∃ x, DataW.trod enc P w base spare held fuel f.type ((cs.drop (f.offset - off)).take (P.cellsOf f.type)) = some x) → (fs = [] → cs = []) → ∃ a, R w cs a
theorem opensF_nil {P : Program} {off : Nat} : OpensF P [] off (fun _ cs (_ : Unit) => cs = []) := fun _ _ _ _ _ _ _ _ _ h => ⟨(), h rfl⟩
theorem opensF_cons {α β : Type} {P : Program} {f : Field} {fs : List Field} {off n : Nat} {R : World → List Value → α → Prop} {R' : World → List Value → β → Prop} (ho : f.offset = off) (hn : P.cellsOf f.type = n) (hr : ∀ g ∈ fs, off + n ≤ g.offset)
    (h1 : Opens P f.type R) (h2 : OpensF P fs (off + n) R') (hlast : fs = [] → ∀ w cs a, R w cs a → True) : OpensF P (f :: fs) off (fun w cs (x : α × β) => R w (cs.take n) x.1 ∧ R' w (if fs = [] then [] else cs.drop n) x.2) := fun H enc w base spare held fuel cs h _ => by
  obtain ⟨x, hx⟩ := h 0 f rfl
  rw [ho, Nat.sub_self, List.drop_zero, hn] at hx
  obtain ⟨a, ha⟩ := h1 H enc w base spare held fuel _ _ hx
  obtain ⟨b, hb⟩ := h2 H enc w base spare held fuel (if fs = [] then [] else cs.drop n) (fun i g hg => by
    obtain ⟨y, hy⟩ := h (i + 1) g (by simpa using hg)
    have hgm := hr g (List.mem_of_getElem? hg)
    have hne : fs ≠ [] := by rintro rfl; simp at hg
    refine ⟨y, ?_⟩
    rw [if_neg hne, List.drop_drop, show n + (g.offset - (off + n)) = g.offset - off by omega]
    exact hy) (fun e => by rw [if_pos e])
  exact ⟨(a, b), ha, hb⟩
theorem opens_struct {α : Type} {P : Program} {t : TypeId} {fs : Array Field} {R : World → List Value → α → Prop} (ht : P.underlying t = some (.struct fs)) (h : OpensF P fs.toList 0 R) (hne : fs.toList ≠ []) :
    Opens P t (fun w cs a => cs.length = P.cellsOf t ∧ R w cs a) := fun H enc w base spare held fuel cs x hx => by
  obtain ⟨xs, n, _, _, hl, hlen, hf⟩ := DataW.trod_struct ht hx
  obtain ⟨a, ha⟩ := h H enc w base spare held n cs (fun (i : Nat) (f : Field) (hi : fs.toList[i]? = some f) => by
    have hi' : fs[i]? = some f := by simpa using hi
    have hlt : i < xs.length := by rw [hlen]; exact (Array.getElem?_eq_some_iff.1 hi').1
    have := hf i f hi'
    rw [List.getElem?_eq_getElem hlt] at this
    rw [Nat.sub_zero]
    exact ⟨_, this⟩) (fun e => absurd e hne)
  exact ⟨a, hl, ha⟩
theorem opens_array {α : Type} {P : Program} {t e n k : Nat} {R : World → List Value → α → Prop} (ht : P.underlying t = some (.array k e)) (hn : P.cellsOf e = n) (h : Opens P e R) :
    Opens P t (fun w cs (l : List α) => cs.length = P.cellsOf t ∧ l.length = k ∧ ∀ i a, l[i]? = some a → R w ((cs.drop (i * n)).take n) a) := fun H enc w base spare held fuel cs x hx => by
  obtain ⟨xs, m, _, _, hl, hlen, hf⟩ := DataW.trod_array ht hx
  rw [hn] at hf
  have hex : ∀ i, i < k → ∃ a, R w ((cs.drop (i * n)).take n) a := fun i hi => by
    have := hf i hi
    rw [List.getElem?_eq_getElem (by omega)] at this
    exact h H enc w base spare held m _ _ this
  obtain ⟨l, h1, h2⟩ := list_of_each k hex
  exact ⟨l, hl, h1, h2⟩

/-- an argument -/
theorem opens_arg {α : Type} {H : Type} {enc : TypeId × Value → H} {P : Program} {w : World} {base : Nat} {spare : Nat → Bool} {held : Bool} {t : TypeId} {v : Value} {d : DataW H} {p : List MemPlace} {R : World → List Value → α → Prop} (ho : Opens P t R)
    (h : DataW.Trod enc P w base spare held t v d p) : ∃ a, R w v.cells.toList a := by
  obtain ⟨fuel, hf⟩ := h
  exact ho H enc w base spare held fuel _ _ hf
theorem arg_agg {P : Program} {w : World} {r : Reach} {b0 t : Nat} {v : Value} {fs : Array Field} (ht : P.underlying t = some (.struct fs)) (h : Value.okWide P w r b0 t v) : ∃ cs : List Value, v = .agg cs.toArray := by
  simp only [Value.okWide, ht] at h
  obtain ⟨cs, h1, _⟩ := h
  exact ⟨cs.toList, by rw [h1]⟩
end Go.Proofs.YtcambhbmobepjaaGreat

namespace Go.Proofs.YtcambhbmobepjaaGreat
set_option linter.unusedSimpArgs false
set_option linter.unusedVariables false
open Go.RowKit Go.ChangeShapes Go.WideShapes Go.ChangeAt
set_option maxRecDepth 10000
noncomputable section

mutual
/-- data that fit their shapes -/
def wfS : Sh → D → Prop
  | .int k, d => k.min ≤ d.toI ∧ d.toI ≤ k.max
  | .bool, _ => True
  | .str, d => d.toS.size ≤ maxLen ∧ d.toS.size ≤ reachBytes
  | .sl es, d => d.len * szB es ≤ reachBytes ∧ ∀ i, i < d.len → wfE es (d.get i) 0
def wfE : List Sh → D → Nat → Prop
  | [], _, _ => True
  | s :: ss, d, j => wfS s (d.cell j) ∧ wfE ss d (j + 1)
end
/-- cells that data tell -/
def CL (Z : Nat → Nat → Option Value) : List Sh → List Value → List D → Prop
  | [], vs, ds => vs = [] ∧ ds = []
  | s :: ss, vs, ds => ∃ v vs' d ds', vs = v :: vs' ∧ ds = d :: ds' ∧ LF Z s v d ∧ wfS s d ∧ CL Z ss vs' ds'
def zc (w : World) (b o : Nat) : Option Value := w.cell? ⟨b, o, none⟩
section
variable {Z : Nat → Nat → Option Value}
theorem CL.length : ∀ {es : List Sh} {cs : List Value} {ds : List D}, CL Z es cs ds → cs.length = es.length ∧ ds.length = es.length
  | [], _, _, ⟨h1, h2⟩ => by subst h1 h2; exact ⟨rfl, rfl⟩
  | _ :: _, _, _, ⟨_, _, _, _, h1, h2, _, _, h3⟩ => by
    subst h1 h2
    obtain ⟨a, b⟩ := CL.length h3
    exact ⟨by simp [a], by simp [b]⟩
theorem CL.append : ∀ {es es' : List Sh} {cs cs' : List Value} {ds ds' : List D}, CL Z es cs ds → CL Z es' cs' ds' → CL Z (es ++ es') (cs ++ cs') (ds ++ ds')
  | [], _, _, _, _, _, ⟨h1, h2⟩, h => by subst h1 h2; exact h
  | _ :: _, _, _, _, _, _, ⟨v, vs', d, ds', h1, h2, h3, h4, h5⟩, h => by
    subst h1 h2
    exact ⟨v, _, d, _, rfl, rfl, h3, h4, CL.append h5 h⟩
theorem CL.el : ∀ {es : List Sh} {cs : List Value} {ds : List D} {d : D} {b o j : Nat}, CL Z es cs ds → (∀ i v, cs[i]? = some v → Z b (o + i) = some v) → (∀ i x, ds[i]? = some x → d.cell (j + i) = x) → EL Z es b o d j
  | [], _, _, _, _, _, _, _, _, _ => trivial
  | s :: ss, _, _, d, b, o, j, ⟨v, vs', x, ds', h1, h2, h3, _, h5⟩, hz, hd => by
    subst h1 h2
    refine ⟨⟨v, hz 0 v rfl, ?_⟩, CL.el h5 (fun i u hu => ?_) fun i y hy => ?_⟩
    · rw [show d.cell j = x from hd 0 x rfl]; exact h3
    · rw [Nat.add_assoc, Nat.add_comm 1 i]; exact hz (i + 1) u (by simpa using hu)
    · rw [Nat.add_assoc, Nat.add_comm 1 i]; exact hd (i + 1) y (by simpa using hy)
theorem CL.wf : ∀ {es : List Sh} {cs : List Value} {ds : List D} {d : D} {j : Nat}, CL Z es cs ds → (∀ i x, ds[i]? = some x → d.cell (j + i) = x) → wfE es d j
  | [], _, _, _, _, _, _ => trivial
  | s :: ss, _, _, d, j, ⟨v, vs', x, ds', h1, h2, _, h4, h5⟩, hd => by
    subst h1 h2
    refine ⟨?_, CL.wf h5 fun i y hy => ?_⟩
    · rw [show d.cell j = x from hd 0 x rfl]; exact h4
    · rw [Nat.add_assoc, Nat.add_comm 1 i]; exact hd (i + 1) y (by simpa using hy)
end
/-- whatever can be read as a value of type t is told by data of these shapes -/
def OpD (P : Program) (t : TypeId) (es : List Sh) : Prop :=
  ∀ (H : Type) (enc : TypeId × Value → H) (w : World) (base : Nat) (spare : Nat → Bool) (held : Bool) (fuel : Nat) (cs : List Value) (x : DataW H × List MemPlace),
    DataW.trod enc P w base spare held fuel t cs = some x → (x.1.weights P t).all (· ≤ reachBytes) = true → ∃ ds, CL (zc w) es cs ds
section
variable {P : Program} {t : TypeId}
theorem opD_one {w : World} {s : Sh} {v : Value} {d : D} (h : LF (zc w) s v d) (hw : wfS s d) : ∃ ds, CL (zc w) [s] [v] ds := ⟨[d], v, [], d, [], rfl, rfl, h, hw, rfl, rfl⟩
theorem opD_int {k : IntKind} (ht : P.underlying t = some (.int k)) : OpD P t [.int k] := fun H enc w base spare held fuel cs x h _ => by
  obtain ⟨n, rfl, _, h2⟩ := DataW.trod_int ht h
  have h2' : k.min ≤ n ∧ n ≤ k.max := by simpa [Lit.wf] using h2
  exact opD_one (d := .i n) rfl h2'
theorem opD_bool (ht : P.underlying t = some .bool) : OpD P t [.bool] := fun H enc w base spare held fuel cs x h _ => by
  obtain ⟨b, rfl, _⟩ := DataW.trod_bool ht h
  exact opD_one (d := .b b) rfl trivial
theorem opD_str (ht : P.underlying t = some .string) : OpD P t [.str] := fun H enc w base spare held fuel cs x h hw => by
  obtain ⟨s, rfl, rfl, h2⟩ := DataW.trod_string ht h
  refine opD_one (d := .s s) rfl ⟨h2, ?_⟩
  have : s.data.toList.length ≤ reachBytes := by simpa [DataW.weights] using hw
  rw [Array.length_toList] at this
  exact this
theorem weightsAll_mem {H : Type} {e : TypeId} : ∀ {l : List (DataW H)}, (DataW.weightsAll P e l).all (· ≤ reachBytes) = true → ∀ d ∈ l, (d.weights P e).all (· ≤ reachBytes) = true
  | [], _, _, h => by cases h
  | x :: l, h, d, hd => by
    rw [DataW.weightsAll, List.all_append, Bool.and_eq_true] at h
    rcases List.mem_cons.1 hd with rfl | hd
    · exact h.1
    · exact weightsAll_mem h.2 d hd
theorem opD_slice {e : TypeId} {es : List Sh} (ht : P.underlying t = some (.slice e)) (he : OpD P e es) (hn : P.cellsOf e = es.length) (hpos : 0 < es.length) (hb : szB es ≤ P.bytesOf e) : OpD P t [.sl es] := fun H enc w base spare held fuel cs x h hw => by
  have hrr : reachBytes ≤ room := by unfold reachBytes room; omega
  rcases DataW.trod_slice ht h with ⟨rfl, _⟩ | ⟨a, len, cap, elems, rest, m, _, rfl, rfl, _, hl, hm, hlen, hel, _, _⟩
  · have h0 : (D.l []).len = 0 := by simp [D.len, D.toL, D.raw]
    exact opD_one (d := .l []) ⟨by rw [h0, Nat.zero_mul]; exact Nat.zero_le _, none, 0, by rw [h0], by rw [h0]; exact Nat.le_refl _, Nat.zero_le _, fun _ => rfl, fun hn => absurd h0 hn⟩ ⟨by rw [h0, Nat.zero_mul]; exact Nat.zero_le _, fun i hi => by omega⟩
  · rw [DataW.weights, ht] at hw
    simp only [List.all_cons, Bool.and_eq_true, decide_eq_true_eq, List.all_append, List.length_map] at hw
    obtain ⟨hw1, hw2, _⟩ := hw
    have hex : ∀ i, i < len → ∃ ds, ∃ cs', w.cells? base (a.add (i * es.length)) es.length = some cs' ∧ CL (zc w) es cs' ds := fun i hi => by
      have := hel i hi
      rw [hn, List.getElem?_eq_getElem (by omega)] at this
      obtain ⟨cs', h1, h2⟩ := Option.bind_eq_some_iff.1 this
      obtain ⟨ds, hd⟩ := he H enc w base spare held m cs' _ h2 (weightsAll_mem hw2 _ (List.mem_map_of_mem (List.getElem_mem _)))
      exact ⟨ds, cs', h1, hd⟩
    obtain ⟨l, hll, hl2⟩ := list_of_each (Q := fun i ds => ∃ cs', w.cells? base (a.add (i * es.length)) es.length = some cs' ∧ CL (zc w) es cs' ds) len hex
    have hlm : (l.map D.t).length ≤ maxLen := by simp; omega
    have htl : (D.l (l.map .t)).toL = l.map .t := toL_l hlm
    have hdl : (D.l (l.map .t)).len = len := by unfold D.len; rw [htl]; simp [hll]
    have hget : ∀ i, i < len → ∃ ds, l[i]? = some ds ∧ (D.l (l.map .t)).get i = .t ds := fun i hi => by
      refine ⟨l[i], List.getElem?_eq_getElem (by omega), ?_⟩
      unfold D.get; rw [htl, List.getD_eq_getElem?_getD]
      simp [show i < l.length by omega]
    have hsz : len * szB es ≤ reachBytes := by
      refine Nat.le_trans (Nat.mul_le_mul_left _ hb) (Nat.le_trans (Nat.mul_le_mul_right _ ?_) hw1)
      omega
    refine opD_one (d := .l (l.map .t)) ⟨by rw [hdl]; exact Nat.le_trans hsz hrr, some a, cap, by rw [hdl], by rw [hdl]; exact hl, hm, (fun h => by cases h), fun hne => ?_⟩ ⟨by rw [hdl]; exact hsz, fun i hi => ?_⟩
    · rw [hdl] at hne ⊢
      have cel : ∀ i (cs' : List Value), w.cells? base (a.add (i * es.length)) es.length = some cs' → cs'.length = es.length ∧ ∀ j, j < es.length → w.cell? ((a.add (i * es.length)).add j) = cs'[j]? := fun i cs' h => by
        have := World.cells?_some h
        exact ⟨this.2.1, this.2.2⟩
      obtain ⟨ds0, h00, _⟩ := hget 0 (by omega)
      obtain ⟨cs0, h0, _⟩ := hl2 0 _ h00
      obtain ⟨k1, k2⟩ := cel 0 cs0 h0
      have hz := k2 0 hpos
      rw [Nat.zero_mul, List.getElem?_eq_getElem (by omega)] at hz
      have hs : a.spot = none := by
        have e0 : (a.add 0).add 0 = a := rfl
        rw [e0] at hz
        unfold World.cell? at hz
        split at hz
        · split at hz
          · cases hz
          · rename_i hh; simpa using hh
        · cases hz
      obtain ⟨b, o, sp⟩ := a
      obtain rfl : sp = none := hs
      refine ⟨b, o, rfl, fun i hi => ?_⟩
      obtain ⟨ds, h1, h2⟩ := hget i hi
      obtain ⟨cs', g1, g2⟩ := hl2 i ds h1
      obtain ⟨k3, k4⟩ := cel i cs' g1
      rw [h2]
      refine g2.el (fun j v hv => ?_) fun j y hy => ?_
      · have hj : j < es.length := by have := (List.getElem?_eq_some_iff.1 hv).1; omega
        have := k4 j hj
        rw [addr_add_eq, addr_add_eq] at this
        exact this.trans hv
      · show List.getD ds (0 + j) .n = y
        rw [Nat.zero_add, List.getD_eq_getElem?_getD, hy]; rfl
    · rw [hdl] at hi
      obtain ⟨ds, h1, h2⟩ := hget i hi
      obtain ⟨cs', g1, g2⟩ := hl2 i ds h1
      rw [h2]
      exact g2.wf fun j y hy => by
        show List.getD ds (0 + j) .n = y
        rw [Nat.zero_add, List.getD_eq_getElem?_getD, hy]; rfl
/-- the fields of a struct, one by one -/
theorem opD_fields {H : Type} {enc : TypeId × Value → H} {w : World} {base : Nat} {spare : Nat → Bool} {held : Bool} {fuel : Nat} (g : TypeId → Option (List Sh)) (hg : ∀ u es, g u = some es → OpD P u es) (chkF : List Field → Nat → Option (List Sh))
    (hnil : ∀ off, chkF [] off = some []) (hcons : ∀ f fs off es, chkF (f :: fs) off = some es → ∃ a b, g f.type = some a ∧ f.offset = off ∧ P.cellsOf f.type = a.length ∧ chkF fs (off + a.length) = some b ∧ es = a ++ b) :
    ∀ (fs : List Field) (off : Nat) (es : List Sh) (cs : List Value) (xs : List (DataW H × List MemPlace)), chkF fs off = some es → cs.length = off + es.length → xs.length = fs.length →
      (∀ (i : Nat) (f : Field), fs[i]? = some f → DataW.trod enc P w base spare held fuel f.type ((cs.drop f.offset).take (P.cellsOf f.type)) = xs[i]?) →
      (DataW.weightsEach P (fs.map (·.type)) (xs.map (·.1))).all (· ≤ reachBytes) = true → ∃ ds, CL (zc w) es (cs.drop off) ds
  | [], off, es, cs, xs, hc, hl, _, _, _ => by
    rw [hnil] at hc; cases hc
    exact ⟨[], List.drop_eq_nil_of_le (by simp at hl; omega), rfl⟩
  | f :: fs, off, es, cs, [], hc, hl, hx, _, _ => by simp at hx
  | f :: fs, off, es, cs, x :: xs, hc, hl, hx, ht, hw => by
    obtain ⟨a, b, h1, rfl, h3, h4, rfl⟩ := hcons f fs off es hc
    rw [List.length_append] at hl
    simp only [List.map_cons, DataW.weightsEach, List.all_append, Bool.and_eq_true] at hw
    have h5 := ht 0 f rfl
    rw [h3] at h5
    obtain ⟨ds, hd⟩ := hg _ _ h1 H enc w base spare held fuel _ x h5 hw.1
    obtain ⟨ds', hd'⟩ := opD_fields g hg chkF hnil hcons fs (f.offset + a.length) b cs xs h4 (by omega) (by simpa using hx) (fun i f' hf => by simpa using ht (i + 1) f' (by simpa using hf)) hw.2
    refine ⟨ds ++ ds', ?_⟩
    have := hd.append hd'
    rwa [← List.drop_drop, List.take_append_drop] at this
end
/-- the shapes of a type, everything that is wanted of it asked -/
def chkF (P : Program) (g : TypeId → Option (List Sh)) : List Field → Nat → Option (List Sh)
  | [], _ => some []
  | f :: fs, off => match g f.type with
    | some a => bif Nat.beq f.offset off && Nat.beq (P.cellsOf f.type) a.length then (match chkF P g fs (off + a.length) with | some b => some (a ++ b) | none => none) else none
    | none => none
def chkT (P : Program) : Nat → TypeId → Option (List Sh)
  | 0, _ => none
  | n + 1, t => match P.underlying t with
    | some (.int k) => some [.int k]
    | some .bool => some [.bool]
    | some .string => some [.str]
    | some (.slice e) => match chkT P n e with
      | some es => bif Nat.beq (P.cellsOf e) es.length && Nat.blt 0 es.length && Nat.ble (szB es) (P.bytesOf e) then some [.sl es] else none
      | none => none
    | some (.struct fs) => match chkF P (chkT P n) fs.toList 0 with
      | some es => bif Nat.beq (P.cellsOf t) es.length then some es else none
      | none => none
    | some (.array m e) => match chkT P n e with
      | some es => bif Nat.beq (P.cellsOf e) es.length && Nat.beq (P.cellsOf t) (m * es.length) then some (List.replicate m es).flatten else none
      | none => none
    | _ => none
theorem weightsAll_all {P : Program} {H : Type} {e : TypeId} {l : List (DataW H)} (h : (DataW.weightsAll P e l).all (· ≤ reachBytes) = true) : ∀ d ∈ l, (d.weights P e).all (· ≤ reachBytes) = true := weightsAll_mem h
theorem opD_rows {Z : Nat → Nat → Option Value} {es : List Sh} : ∀ (m : Nat) (cs : List Value), cs.length = m * es.length → (∀ i, i < m → ∃ ds, CL Z es ((cs.drop (i * es.length)).take es.length) ds) → ∃ ds, CL Z (List.replicate m es).flatten cs ds
  | 0, cs, hl, _ => ⟨[], List.eq_nil_of_length_eq_zero (by simpa using hl), rfl⟩
  | m + 1, cs, hl, h => by
    obtain ⟨ds, hd⟩ := h 0 (by omega)
    obtain ⟨ds', hd'⟩ := opD_rows (Z := Z) (es := es) m (cs.drop es.length) (by rw [List.length_drop, hl, Nat.succ_mul]; omega) (fun i hi => by
      obtain ⟨x, hx⟩ := h (i + 1) (by omega)
      exact ⟨x, by rwa [List.drop_drop, show es.length + i * es.length = (i + 1) * es.length by rw [Nat.succ_mul]; omega]⟩)
    refine ⟨ds ++ ds', ?_⟩
    rw [Nat.zero_mul, List.drop_zero] at hd
    have := hd.append hd'
    rw [List.take_append_drop] at this
    rw [List.replicate_succ, List.flatten_cons]
    exact this
theorem opD_of {P : Program} : ∀ (n : Nat) (t : TypeId) (es : List Sh), chkT P n t = some es → OpD P t es
  | 0, _, _, h => by cases h
  | n + 1, t, es, h => by
    simp only [chkT] at h
    split at h
    · rename_i k hu; cases h; exact opD_int hu
    · rename_i hu; cases h; exact opD_bool hu
    · rename_i hu; cases h; exact opD_str hu
    · rename_i e hu
      cases he : chkT P n e with
      | none => simp [he] at h
      | some es' =>
        simp only [he] at h
        cases hc : Nat.beq (P.cellsOf e) es'.length && Nat.blt 0 es'.length && Nat.ble (szB es') (P.bytesOf e)
        · rw [hc] at h; cases h
        · rw [hc] at h; cases h
          simp only [Bool.and_eq_true] at hc
          exact opD_slice hu (opD_of n e es' he) (Nat.eq_of_beq_eq_true hc.1.1) (Nat.le_of_ble_eq_true hc.1.2) (Nat.le_of_ble_eq_true hc.2)
    · rename_i fs hu
      cases hf : chkF P (chkT P n) fs.toList 0 with
      | none => simp [hf] at h
      | some es' =>
        simp only [hf] at h
        cases hc : Nat.beq (P.cellsOf t) es'.length
        · rw [hc] at h; cases h
        · rw [hc] at h; cases h
          have hl := Nat.eq_of_beq_eq_true hc
          intro H enc w base spare held fuel cs x hx hw
          obtain ⟨xs, m, _, rfl, h1, h2, h3⟩ := DataW.trod_struct hu hx
          rw [DataW.weights, hu] at hw
          obtain ⟨ds, hd⟩ := opD_fields (chkT P n) (fun u es hu => opD_of n u es hu) (chkF P (chkT P n)) (fun _ => rfl) (fun f fs off es hc => by
            simp only [chkF] at hc
            split at hc
            · rename_i a ha
              cases hb : Nat.beq f.offset off && Nat.beq (P.cellsOf f.type) a.length
              · rw [hb] at hc; cases hc
              · rw [hb] at hc
                simp only [Bool.and_eq_true] at hb
                simp only [cond_true] at hc
                split at hc
                · rename_i b hb'
                  cases hc
                  exact ⟨a, b, ha, Nat.eq_of_beq_eq_true hb.1, Nat.eq_of_beq_eq_true hb.2, hb', rfl⟩
                · cases hc
            · cases hc) fs.toList 0 _ cs xs hf (by rw [h1, hl, Nat.zero_add]) (by simpa using h2) (fun i f hf' => h3 i f (by simpa using hf')) (by simpa using hw)
          exact ⟨ds, by simpa using hd⟩
    · rename_i m e hu
      cases he : chkT P n e with
      | none => simp [he] at h
      | some es' =>
        simp only [he] at h
        cases hc : Nat.beq (P.cellsOf e) es'.length && Nat.beq (P.cellsOf t) (m * es'.length)
        · rw [hc] at h; cases h
        · rw [hc] at h; cases h
          simp only [Bool.and_eq_true] at hc
          have hce := Nat.eq_of_beq_eq_true hc.1
          intro H enc w base spare held fuel cs x hx hw
          obtain ⟨xs, k, _, rfl, h1, h2, h3⟩ := DataW.trod_array hu hx
          rw [DataW.weights, hu] at hw
          refine opD_rows m cs (by rw [h1, Nat.eq_of_beq_eq_true hc.2]) fun i hi => ?_
          have := h3 i hi
          rw [hce, List.getElem?_eq_getElem (by omega)] at this
          exact opD_of n e es' he H enc w base spare held k _ _ this (weightsAll_mem hw _ (List.mem_map_of_mem (List.getElem_mem _)))
    · cases h
/-- the cells as abstract values -/
def avL : List Sh → List D → List AV
  | s :: ss, d :: ds => leaf false s d :: avL ss ds
  | _, _ => []
theorem leaf_rel {E : Env} {s : Sh} {v : Value} {d : D} (h : LF E.Z s v d) : Rel E (leaf false s d) v := by
  cases s with
  | int k => exact ⟨h, rfl⟩
  | bool => exact ⟨h, rfl⟩
  | str => exact ⟨h, rfl⟩
  | sl es => exact ⟨h, trivial⟩
theorem avL_rel {E : Env} : ∀ {es : List Sh} {cs : List Value} {ds : List D}, CL E.Z es cs ds → RelL E (avL es ds) cs
  | [], _, _, ⟨h1, h2⟩ => by subst h1 h2; rfl
  | _ :: _, _, _, ⟨v, vs', d, ds', h1, h2, h3, _, h5⟩ => by subst h1 h2; exact ⟨v, vs', rfl, leaf_rel h3, avL_rel h5⟩
theorem cl_one {Z : Nat → Nat → Option Value} : ∀ {es : List Sh} {cs : List Value} {ds : List D}, CL Z es cs ds → ∀ u ∈ cs, u.oneCell' = true
  | [], _, _, ⟨h1, _⟩, u, hu => by subst h1; cases hu
  | s :: _, _, _, ⟨v, vs', d, ds', h1, _, h3, _, h5⟩, u, hu => by
    subst h1
    rcases List.mem_cons.1 hu with rfl | hu
    · cases s with
      | int k => rw [show u = _ from h3]; rfl
      | bool => rw [show u = _ from h3]; rfl
      | str => rw [show u = _ from h3]; rfl
      | sl es => obtain ⟨_, ad, cap, rfl, _⟩ := h3; rfl
    · exact cl_one h5 u hu
def wfL : List Sh → List D → Prop
  | s :: ss, d :: ds => wfS s d ∧ wfL ss ds
  | _, _ => True
theorem cl_wf {Z : Nat → Nat → Option Value} : ∀ {es : List Sh} {cs : List Value} {ds : List D}, CL Z es cs ds → wfL es ds
  | [], _, _, ⟨_, h2⟩ => by subst h2; trivial
  | _ :: _, _, _, ⟨_, _, _, _, _, h2, _, h4, h5⟩ => by subst h2; exact ⟨h4, cl_wf h5⟩
/-- the world as it is, nothing owned -/
def env0 (w : World) : Env := { β := fun _ => 0, live := fun _ => False, Z := zc w, vc := fun _ => .slice none 0 0, gn := fun _ => 0, ve := fun _ => 0, m := 0, ng := 0 }
theorem inv0 {P : Program} (w : World) : Inv P w (fun _ => False) (env0 w) hp0 w :=
  ⟨Kpt.refl _ _, rfl, rfl, fun k hk => absurd hk (Nat.not_lt_zero k), fun k hk => absurd hk (Nat.not_lt_zero k), fun o => ⟨fun h => h.elim, fun h => by simp [hp0, lookO] at h⟩, fun o h => h.elim, fun o cs h => by simp [hp0, lookO] at h, fun o h => h.elim, fun o o' h => h.elim, fun b j v hv => hv, fun o j h => h.elim, fun k hk => absurd hk (Nat.not_lt_zero k), fun k k' b hk => absurd hk (Nat.not_lt_zero k)⟩
/-- a law is true where its tree says so -/
theorem law_calls {P : Program} {f : FuncId} {sp : Spec} (hs : SoundF P f sp) {args : List AV} {vals : List Value} {w : World} (hr : RelL (env0 w) args vals) (H : (treeF sp args).holds fun r => Le r (.sc false (.bool true))) :
    Calls P f vals.toArray w fun e w' => e = .returned (.bool true) ∧ Below w.heap.size w w' := by
  unfold treeF at H
  rw [RT.holds_bind] at H
  refine (hs args hp0 _ H w (fun _ => False) (env0 w) w vals (inv0 w) hr).mono ?_
  rintro e w' ⟨r, h', v, E', hK, rfl, S, hv⟩
  obtain ⟨rfl, _⟩ := hK E' v (strip_rel _ _ hv)
  exact ⟨rfl, S.inv.kpt.below fun _ h => h.elim⟩
/-- an argument of one cell, of many -/
theorem arg_open {P : Program} {H : Type} {enc : TypeId × Value → H} {w : World} {base : Nat} {spare : Nat → Bool} {held : Bool} {t : TypeId} {v : Value} {d : DataW H} {p : List MemPlace} {es : List Sh} (hc : chkT P 8 t = some es)
    (h : DataW.Trod enc P w base spare held t v d p) (hw : (d.weights P t).all (· ≤ reachBytes) = true) : ∃ ds, CL (zc w) es v.cells.toList ds := by
  obtain ⟨fuel, hf⟩ := h
  exact opD_of 8 t es hc H enc w base spare held fuel _ _ hf hw
/-! Lists of so many. -/
theorem list1 {α : Type} {l : List α} (h : l.length = 1) : ∃ x0, l = [x0] := by
  match l, h with
  | [x0], _ => exact ⟨x0, rfl⟩
theorem list2 {α : Type} {l : List α} (h : l.length = 2) : ∃ x0 x1, l = [x0, x1] := by
  match l, h with
  | [x0, x1], _ => exact ⟨x0, x1, rfl⟩
theorem list3 {α : Type} {l : List α} (h : l.length = 3) : ∃ x0 x1 x2, l = [x0, x1, x2] := by
  match l, h with
  | [x0, x1, x2], _ => exact ⟨x0, x1, x2, rfl⟩
theorem list4 {α : Type} {l : List α} (h : l.length = 4) : ∃ x0 x1 x2 x3, l = [x0, x1, x2, x3] := by
  match l, h with
  | [x0, x1, x2, x3], _ => exact ⟨x0, x1, x2, x3, rfl⟩
theorem list5 {α : Type} {l : List α} (h : l.length = 5) : ∃ x0 x1 x2 x3 x4, l = [x0, x1, x2, x3, x4] := by
  match l, h with
  | [x0, x1, x2, x3, x4], _ => exact ⟨x0, x1, x2, x3, x4, rfl⟩
theorem list6 {α : Type} {l : List α} (h : l.length = 6) : ∃ x0 x1 x2 x3 x4 x5, l = [x0, x1, x2, x3, x4, x5] := by
  match l, h with
  | [x0, x1, x2, x3, x4, x5], _ => exact ⟨x0, x1, x2, x3, x4, x5, rfl⟩
theorem list7 {α : Type} {l : List α} (h : l.length = 7) : ∃ x0 x1 x2 x3 x4 x5 x6, l = [x0, x1, x2, x3, x4, x5, x6] := by
  match l, h with
  | [x0, x1, x2, x3, x4, x5, x6], _ => exact ⟨x0, x1, x2, x3, x4, x5, x6, rfl⟩
theorem list8 {α : Type} {l : List α} (h : l.length = 8) : ∃ x0 x1 x2 x3 x4 x5 x6 x7, l = [x0, x1, x2, x3, x4, x5, x6, x7] := by
  match l, h with
  | [x0, x1, x2, x3, x4, x5, x6, x7], _ => exact ⟨x0, x1, x2, x3, x4, x5, x6, x7, rfl⟩
theorem list9 {α : Type} {l : List α} (h : l.length = 9) : ∃ x0 x1 x2 x3 x4 x5 x6 x7 x8, l = [x0, x1, x2, x3, x4, x5, x6, x7, x8] := by
  match l, h with
  | [x0, x1, x2, x3, x4, x5, x6, x7, x8], _ => exact ⟨x0, x1, x2, x3, x4, x5, x6, x7, x8, rfl⟩
theorem list10 {α : Type} {l : List α} (h : l.length = 10) : ∃ x0 x1 x2 x3 x4 x5 x6 x7 x8 x9, l = [x0, x1, x2, x3, x4, x5, x6, x7, x8, x9] := by
  match l, h with
  | [x0, x1, x2, x3, x4, x5, x6, x7, x8, x9], _ => exact ⟨x0, x1, x2, x3, x4, x5, x6, x7, x8, x9, rfl⟩
theorem list12 {α : Type} {l : List α} (h : l.length = 12) : ∃ x0 x1 x2 x3 x4 x5 x6 x7 x8 x9 x10 x11, l = [x0, x1, x2, x3, x4, x5, x6, x7, x8, x9, x10, x11] := by
  match l, h with
  | [x0, x1, x2, x3, x4, x5, x6, x7, x8, x9, x10, x11], _ => exact ⟨x0, x1, x2, x3, x4, x5, x6, x7, x8, x9, x10, x11, rfl⟩
theorem relL_head {E : Env} {x : AV} {v : Value} (h : RelL E [x] [v]) : Rel E x v := by
  obtain ⟨u, r, h1, h2, _⟩ := h
  cases h1
  exact h2
theorem relL_nil {E : Env} : RelL E [] [] := rfl
theorem relL_cons {E : Env} {x : AV} {v : Value} {xs : List AV} {vs : List Value} (h : Rel E x v) (hs : RelL E xs vs) : RelL E (x :: xs) (v :: vs) := ⟨v, vs, rfl, h, hs⟩
end
end Go.Proofs.YtcambhbmobepjaaGreat

namespace Go.Proofs.YtcambhbmobepjaaGreat
set_option linter.unusedSimpArgs false
set_option linter.unusedVariables false
open Go.RowKit
set_option maxRecDepth 10000
def putCell (n k j : Nat) : Value := if 8 - k ≤ j then .int .u8 ((n : Int) / 2 ^ (8 * (7 - j)) % 256) else .int .u8 0
def putArr (n k : Nat) : Array Value := #[putCell n k 0, putCell n k 1, putCell n k 2, putCell n k 3, putCell n k 4, putCell n k 5, putCell n k 6, putCell n k 7]
theorem putArr_get (n k j : Nat) (h : j < 8) : (putArr n k)[j]? = some (putCell n k j) := by
  rcases (by omega : j = 0 ∨ j = 1 ∨ j = 2 ∨ j = 3 ∨ j = 4 ∨ j = 5 ∨ j = 6 ∨ j = 7) with rfl | rfl | rfl | rfl | rfl | rfl | rfl | rfl <;> rfl
theorem putArr_set (n k : Nat) (h : k < 8) : (putArr n k).setIfInBounds (7 - k) (.int .u8 ((n : Int) / 2 ^ (8 * k) % 256)) = putArr n (k + 1) := by
  rcases (by omega : k = 0 ∨ k = 1 ∨ k = 2 ∨ k = 3 ∨ k = 4 ∨ k = 5 ∨ k = 6 ∨ k = 7) with rfl | rfl | rfl | rfl | rfl | rfl | rfl | rfl <;> rfl
theorem el_u8 : ElemOf Tryz.prog 30 5 1 1 (.int .u8 0) := ⟨by kernel_rfl, ⟨_, rfl, rfl, rfl, rfl⟩, rfl, by decide, by decide⟩

def beByte (n i : Nat) : UInt8 := UInt8.ofNat (n / 2 ^ (8 * i))
/-- the lowest 'size' bytes of n, the highest first -/
def be (n size : Nat) : List UInt8 := (List.range size).map fun i => beByte n (size - 1 - i)

theorem beByte_int (n i : Nat) : ((n : Int) / 2 ^ (8 * i) % 256) = ((beByte n i).toNat : Int) := by
  simp [beByte]

theorem putCell_be (n j : Nat) : putCell n 8 j = bv (beByte n (7 - j)) := by
  unfold putCell
  rw [if_pos (by omega), beByte_int]

theorem put_src (n s : Nat) (hs1 : 1 ≤ s) (hs8 : s ≤ 8) (w : World) (o : Obj) : SrcOf ((w.alloc (.cells (putArr n 8) 132)).alloc o) 1 (.slice (some ⟨w.heap.size, 8 - s, none⟩) (8 - (8 - s)) (8 - (8 - s))) s ((be n s).map bv) := by
  rw [show 8 - (8 - s) = s by omega]
  refine .inr ⟨_, _, rfl, by simp [be], ?_, ?_⟩
  · intro j u hu
    rw [List.getElem?_map] at hu
    by_cases hj : j < s
    · simp [be, hj] at hu
      subst hu
      have : (⟨w.heap.size, 8 - s, none⟩ : Addr).add j = ⟨w.heap.size, 8 - s + j, none⟩ := by
        unfold Addr.add; split <;> simp_all
      rw [this]
      have hc := putArr_get n 8 (8 - s + j) (by omega)
      rw [putCell_be, show 7 - (8 - s + j) = s - 1 - j by omega] at hc
      refine (World.cell?_alloc_lt _ _ _ (by show w.heap.size < _; rw [World.size_alloc]; omega)).trans ?_
      rw [cell_of_row (w.alloc (.cells (putArr n 8) 132)) w.heap.size _ (putArr n 8) 132 (0, 0) (heap_alloc_new _ _)]
      exact hc
    · simp [be, hj] at hu
  · intro u hu
    obtain ⟨_, _, rfl⟩ := List.mem_map.1 hu
    rfl

theorem put_any (n : Nat) (_hn : n < 18446744073709551616) (s : Nat) (h1 : 1 ≤ s) (h8 : s ≤ 8) (w : World) :
    Calls Tryz.prog 38 #[.int .u64 n, .int .i64 s] w fun e w' => ∃ v, e = .returned v ∧ Below w.heap.size w w' ∧ w'.ownsRow w.heap.size 5 1 v s ((be n s).map bv) := by
  have i1 : (1 : Int) ≤ s := by omega
  have i2 : (s : Int) ≤ 8 := by omega
  go_enter Tryz.func38, Tryz.ntmps38
  go_wp2
  go_loopw [6, 10] (fun _ i wr => ∃ k : Nat, k ≤ 8 ∧ i = .int .i64 k ∧ wr = w.alloc (.cells (putArr n k) 132)) (fun _ i _ => 8 - (intOf i).toNat)
  case atStart => exact ⟨0, by omega, rfl, rfl⟩
  case round =>
    obtain ⟨k, hk, rfl, rfl⟩ := hrel
    by_cases hlt : k < 8
    · have g := putArr_get n k (7 - k) (by omega)
      have s := Lib.hid (putArr_set n k hlt)
      go_wp2
      rw [s.out]
      go_roundw
      case rel => exact ⟨k + 1, by omega, by go_num, rfl⟩
      case measure => simp [intOf]; omega
    · obtain rfl : k = 8 := by omega
      have hsrc := Lib.hid (put_src n s h1 h8 w (.cells #[] 5))
      generalize hp : putArr n 8 = arr at hsrc
      have Hp := Lib.hid hp
      clear hp
      have hown : ((w.alloc (.cells arr 132)).alloc (.cells #[] 5)).ownsRow w.heap.size 5 1 (.slice (some ⟨w.heap.size + 1, 0, none⟩) 0 0) 0 [] := by
        have := World.ownsRow_made (w.alloc (.cells arr 132)) (base := w.heap.size) (e := 5) (size := 1) #[] 0 (by simp) (by simp) (by simp)
        rw [World.size_alloc] at this
        exact this
      have hown := Lib.hid hown
      have hA : Tryz.prog.arrayLen 132 = 8 := by kernel_rfl
      have h8' : (8 : Int) - s ≤ 8 := by omega
      have h0' : (0 : Int) ≤ 8 - s := by omega
      have hx : 8 - (8 - (s : Int)).toNat = s := by omega
      have hx2 : (8 - (s : Int)).toNat = 8 - s := by omega
      go_wp2_with (at_builtin; go_loud (refine wpList_append_from rfl _ _ _ rfl (w.heap.size) el_u8 rfl hown.out rfl hsrc.out ?c4 ?c5 ?_))
      case c4 => simp; omega
      case c5 => simp; omega
      intro v' w' ho hg hb
      go_wp2
      go_ret
      exact ⟨_, rfl, (((Below.refl _ _).alloc (Nat.le_refl _) _).alloc (by simp) _).trans hb, ho⟩
/-- what lies in the row behind k rounds of the reference's Put: the last k bytes -/
def rputRow (n s k : Nat) : List UInt8 := (List.range s).map fun i => if s - k ≤ i then beByte n (s - 1 - i) else 0
theorem rputRow_zero (n s : Nat) : (rputRow n s 0).map bv = (madeCells #[.int .u8 0] (s * 1)).toList := by
  rw [Nat.mul_one, toList_madeCells_one]
  apply List.ext_getElem
  · simp [rputRow]
  · intro i h1 h2
    simp [rputRow] at h1 ⊢
    rw [if_neg (by omega)]; rfl
theorem rputRow_set (n s k : Nat) (h : k < s) : ((rputRow n s k).map bv).set (s - 1 - k) (bv (beByte n k)) = (rputRow n s (k + 1)).map bv := by
  apply List.ext_getElem
  · simp [rputRow]
  · intro i h1 h2
    simp [rputRow] at h1 h2
    simp only [rputRow, List.map_map, List.getElem_set, List.getElem_map, List.getElem_range, Function.comp]
    by_cases he : s - 1 - k = i
    · rw [if_pos he, if_pos (by omega), show s - 1 - i = k by omega]
    · rw [if_neg he]
      by_cases hk : s - k ≤ i
      · rw [if_pos hk, if_pos (by omega)]
      · rw [if_neg hk, if_neg (by omega)]
theorem rputRow_get (n s k : Nat) (h : k < s) : ((rputRow n s k).map bv)[s - 1 - k]? = some (bv 0) := by
  rw [List.getElem?_eq_getElem (by simp [rputRow]; omega)]
  simp [rputRow]
  rw [if_neg (by omega)]; rfl
theorem rputRow_full (n s : Nat) : rputRow n s s = be n s := by
  simp [rputRow, be]

def RPutRel (w : World) (n s : Nat) (p i : Value) (wr : World) : Prop :=
  ∃ k : Nat, k ≤ s ∧ i = .int .i64 k ∧ p = .int .u64 ((n / 256 ^ k : Nat) : Int) ∧ Below w.heap.size w wr ∧ wr.ownsRow w.heap.size 5 1 (.slice (some ⟨w.heap.size, 0, none⟩) s s) s ((rputRow n s k).map bv)

theorem RPutRel.step {w wr : World} {n s k : Nat} (hk : k < s) (hb : Below w.heap.size w wr) (ho : wr.ownsRow w.heap.size 5 1 (.slice (some ⟨w.heap.size, 0, none⟩) s s) s ((rputRow n s k).map bv)) :
    RPutRel w n s (.int .u64 (((n / 256 ^ k : Nat) : Int) / 256)) (.int .i64 ((k : Int) + 1)) (wr.setCell ⟨w.heap.size, s - 1 - k, none⟩ (.int .u8 (((n / 256 ^ k : Nat) : Int) % 256))) := by
  refine ⟨k + 1, hk, by simp, ?_, hb.setCell (Nat.le_refl _) _, ?_⟩
  · rw [Nat.pow_succ, ← Nat.div_div_eq_div_mul]; simp
  · have := own_set ho (s - 1 - k) (bv (beByte n k))
    rw [rputRow_set n s k hk] at this
    have e : ((n / 256 ^ k : Nat) : Int) % 256 = ((beByte n k).toNat : Int) := by
      rw [beByte, show (2 : Nat) ^ (8 * k) = 256 ^ k by rw [Nat.pow_mul]]
      simp
    rw [e]
    exact this

theorem rput_any (n : Nat) (hn : n < 18446744073709551616) (s : Nat) (h1 : 1 ≤ s) (h8 : s ≤ 8) (w : World) :
    Calls Tryz.prog 42 #[.int .u64 n, .int .i64 s] w fun e w' => ∃ v, e = .returned v ∧ Below w.heap.size w w' ∧ w'.ownsRow w.heap.size 5 1 v s ((be n s).map bv) := by
  have i1 : (1 : Int) ≤ s := by omega
  have i2 : (s : Int) ≤ 8 := by omega
  obtain ⟨w1, hmk, hown, hbel, hsz⟩ := run_make_own_full el_u8 w w.heap.size .i64 .i64 s (by omega) (by unfold maxLen; omega) (Nat.le_refl _)
  have Hown := Lib.hid hown
  have Hsz := Lib.hid hsz
  have Hbel := Lib.hid hbel
  clear hown hsz hbel
  go_enter Tryz.func42, Tryz.ntmps42
  go_wp2
  go_loopw [0, 6] (fun p i wr => RPutRel w n s p i wr) (fun _ i _ => s - (intOf i).toNat)
  case atStart => exact ⟨0, Nat.zero_le _, rfl, by simp, Hbel.out, by rw [rputRow_zero]; exact Hown.out⟩
  case round =>
    obtain ⟨k, hk, rfl, rfl, hb, ho⟩ := hrel
    by_cases hlt : k < s
    · have hc := own_cell ho _ _ (rputRow_get n s k hlt)
      have hf := own_frozen ho (s - 1 - k)
      have hq : n / 256 ^ k < 18446744073709551616 := Nat.lt_of_le_of_lt (Nat.div_le_self _ _) hn
      have hst := Lib.hid (RPutRel.step hlt hb ho)
      clear ho hb
      generalize n / 256 ^ k = q at *
      have e1 : ((s : Int) - 1 - k).toNat = s - 1 - k := by omega
      go_wp2
      exact ⟨hst.out, by simp [intOf]; omega⟩
    · obtain rfl : k = s := by omega
      rw [rputRow_full] at ho
      go_wp2
      go_ret
      exact ⟨_, rfl, hb, ho⟩

theorem put_bad (n s : Int) (h : s < 1 ∨ 8 < s) (w : World) :
    Calls Tryz.prog 38 #[.int .u64 n, .int .i64 s] w fun e w' => e = .returned (.slice none 0 0) ∧ w' = w := by
  by_cases a1 : 1 ≤ s
  · have a2 : ¬ s ≤ 8 := by omega
    clear h
    go_enter Tryz.func38, Tryz.ntmps38
    go_wp2
    go_ret
    exact ⟨rfl, rfl⟩
  · clear h
    go_enter Tryz.func38, Tryz.ntmps38
    go_wp2
    go_ret
    exact ⟨rfl, rfl⟩

theorem rput_bad (n s : Int) (h : s < 1 ∨ 8 < s) (w : World) :
    Calls Tryz.prog 42 #[.int .u64 n, .int .i64 s] w fun e w' => e = .returned (.slice none 0 0) ∧ w' = w := by
  by_cases a1 : 1 ≤ s
  · have a2 : ¬ s ≤ 8 := by omega
    clear h
    go_enter Tryz.func42, Tryz.ntmps42
    go_wp2
    go_ret
    exact ⟨rfl, rfl⟩
  · clear h
    go_enter Tryz.func42, Tryz.ntmps42
    go_wp2
    go_ret
    exact ⟨rfl, rfl⟩
def beI (n : Nat) (s : Int) : List UInt8 := if 1 ≤ s ∧ s ≤ 8 then be n s.toNat else []
theorem put_all (n : Nat) (hn : n < 18446744073709551616) (s : Int) (w : World) :
    Calls Tryz.prog 38 #[.int .u64 n, .int .i64 s] w fun e w' => ∃ v, e = .returned v ∧ Below w.heap.size w w' ∧ IsBytes w' v (beI n s) := by
  by_cases h : 1 ≤ s ∧ s ≤ 8
  · obtain ⟨k, rfl⟩ := Int.eq_ofNat_of_zero_le (show 0 ≤ s by omega)
    have hk : beI n (k : Int) = be n k := by unfold beI; rw [if_pos h]; rfl
    rw [hk]
    refine (put_any n hn k (by omega) (by omega) w).mono ?_
    rintro e w' ⟨v, rfl, hb, ho⟩
    exact ⟨v, rfl, hb, own_bytes ho⟩
  · have hk : beI n s = [] := by unfold beI; rw [if_neg h]
    rw [hk]
    refine (put_bad n s (by omega) w).mono ?_
    rintro e w' ⟨rfl, rfl⟩
    exact ⟨_, rfl, Below.refl _ _, .nil _⟩
theorem rput_all (n : Nat) (hn : n < 18446744073709551616) (s : Int) (w : World) :
    Calls Tryz.prog 42 #[.int .u64 n, .int .i64 s] w fun e w' => ∃ v, e = .returned v ∧ Below w.heap.size w w' ∧ IsBytes w' v (beI n s) := by
  by_cases h : 1 ≤ s ∧ s ≤ 8
  · obtain ⟨k, rfl⟩ := Int.eq_ofNat_of_zero_le (show 0 ≤ s by omega)
    have hk : beI n (k : Int) = be n k := by unfold beI; rw [if_pos h]; rfl
    rw [hk]
    refine (rput_any n hn k (by omega) (by omega) w).mono ?_
    rintro e w' ⟨v, rfl, hb, ho⟩
    exact ⟨v, rfl, hb, own_bytes ho⟩
  · have hk : beI n s = [] := by unfold beI; rw [if_neg h]
    rw [hk]
    refine (rput_bad n s (by omega) w).mono ?_
    rintro e w' ⟨rfl, rfl⟩
    exact ⟨_, rfl, Below.refl _ _, .nil _⟩

end Go.Proofs.YtcambhbmobepjaaGreat

namespace Go.Proofs.YtcambhbmobepjaaGreat
set_option linter.unusedSimpArgs false
set_option linter.unusedVariables false
open Go.RowKit
set_option maxRecDepth 100000
noncomputable section

theorem mixed : Fit Tryz.prog := ⟨by kernel_rfl, by kernel_rfl⟩
-- DEFS
abbrev ai (n : Int) : AV := .sc false (.int .i64 n)
abbrev ab (b : Bool) : AV := .sc false (.bool b)
abbrev asl (es : List Sh) (d : D) : AV := .sl false es d none
abbrev byS : List Sh := [.int .u8]
-- END
theorem relL_two {E : Env} {x y : AV} {vals : List Value} (h : RelL E [x, y] vals) : ∃ u v, vals = [u, v] ∧ Rel E x u ∧ Rel E y v := by
  obtain ⟨u, r, rfl, h1, v, r', rfl, h2, h3⟩ := h
  have h3' : r' = [] := h3
  subst h3'
  exact ⟨u, v, rfl, h1, h2⟩
/-- a number's byte, the highest first -/
def byI (n : Int) (s i : Nat) : Int := (beByte n.toNat (s - 1 - i)).toNat
def beD (n s : Int) : D := bif decide (1 ≤ s ∧ s ≤ 8) then .l ((List.range s.toNat).map fun i => .i (byI n s.toNat i)) else .l []
theorem beD_eq (n s : Int) : beD n s = eBs (beI n.toNat s) := by
  unfold beD beI
  by_cases h : 1 ≤ s ∧ s ≤ 8
  · rw [decide_eq_true h, if_pos h]
    show D.l _ = D.l _
    unfold be
    rw [List.map_map]; rfl
  · rw [decide_eq_false h, if_neg h]; rfl
def FPut : List AV → RT AV
  | [.sc _ (.int .u64 n), .sc _ (.int .i64 s)] => need false (decide (0 ≤ n ∧ n < 18446744073709551616)) 200 (.ok (.sl true byS (beD n s) none))
  | _ => .bad 201
theorem put_soundF : SoundF Tryz.prog 38 (pureS Tryz.prog 38 FPut) := by
  refine pureS_direct fun args K H w0 G E h w vals I hr => ?_
  unfold FPut at H
  split at H
  · rename_i n s
    obtain ⟨hc, H⟩ := need_holds H
    obtain ⟨h0, h1⟩ := of_decide_eq_true hc
    obtain ⟨u, v, rfl, hu, hv⟩ := relL_two hr
    obtain rfl := rel_int hu
    obtain rfl := rel_int hv
    obtain ⟨m, rfl⟩ := Int.eq_ofNat_of_zero_le h0
    by_cases hs : 1 ≤ s ∧ s ≤ 8
    · obtain ⟨k, rfl⟩ := Int.eq_ofNat_of_zero_le (show 0 ≤ s by omega)
      refine (put_any m (by omega) k (by omega) (by omega) w).mono ?_
      rintro e w' ⟨v, rfl, hb, ho⟩
      obtain ⟨E', h2, h3⟩ := own_bytesE I hb ho (by simp [be, room]; omega)
      refine ⟨_, v, E', H, rfl, h2, ?_⟩
      have hk : beI m (k : Int) = be m k := by unfold beI; rw [if_pos hs]; rfl
      rw [beD_eq, Int.toNat_natCast, hk]; exact h3
    · refine (put_bad m s (by omega) w).mono ?_
      rintro e w' ⟨rfl, rfl⟩
      refine ⟨_, _, E, H, rfl, Stepd.refl I, ?_⟩
      have hk : beI m s = [] := by unfold beI; rw [if_neg hs]
      rw [beD_eq, Int.toNat_natCast, hk]
      exact le_nil (kn := true) (by simp [eBs, D.len, D.toL, D.raw]) E _ ⟨rfl, rfl⟩
  · exact H.elim
theorem rput_soundF : SoundF Tryz.prog 42 (pureS Tryz.prog 42 FPut) := by
  refine pureS_direct fun args K H w0 G E h w vals I hr => ?_
  unfold FPut at H
  split at H
  · rename_i n s
    obtain ⟨hc, H⟩ := need_holds H
    obtain ⟨h0, h1⟩ := of_decide_eq_true hc
    obtain ⟨u, v, rfl, hu, hv⟩ := relL_two hr
    obtain rfl := rel_int hu
    obtain rfl := rel_int hv
    obtain ⟨m, rfl⟩ := Int.eq_ofNat_of_zero_le h0
    by_cases hs : 1 ≤ s ∧ s ≤ 8
    · obtain ⟨k, rfl⟩ := Int.eq_ofNat_of_zero_le (show 0 ≤ s by omega)
      refine (rput_any m (by omega) k (by omega) (by omega) w).mono ?_
      rintro e w' ⟨v, rfl, hb, ho⟩
      obtain ⟨E', h2, h3⟩ := own_bytesE I hb ho (by simp [be, room]; omega)
      refine ⟨_, v, E', H, rfl, h2, ?_⟩
      have hk : beI m (k : Int) = be m k := by unfold beI; rw [if_pos hs]; rfl
      rw [beD_eq, Int.toNat_natCast, hk]; exact h3
    · refine (rput_bad m s (by omega) w).mono ?_
      rintro e w' ⟨rfl, rfl⟩
      refine ⟨_, _, E, H, rfl, Stepd.refl I, ?_⟩
      have hk : beI m s = [] := by unfold beI; rw [if_neg hs]
      rw [beD_eq, Int.toNat_natCast, hk]
      exact le_nil (kn := true) (by simp [eBs, D.len, D.toL, D.raw]) E _ ⟨rfl, rfl⟩
  · exact H.elim
-- STOPS: byI
/-! Settings. -/
def inB (n lo hi : Int) : Bool := decide (lo ≤ n ∧ n ≤ hi)
def fitsB (a b c d e f g : Int) : Bool := inB a 128 1492 && inB b 1 1000 && inB c 1 1000 && inB d 0 1000 && inB e 1 1048576 && inB f 0 1048576 && inB g 1 1000
theorem fits_tree (a b c d e f g : Int) : treeF (evF Tryz.prog (gam ([])) (lam ([])) 100 35) [.agg [ai a, ai b, ai c, ai d, ai e, ai f, ai g]] =
    RT.br (decide (128 ≤ a))
      (RT.br (decide (a ≤ 1492))
        (RT.br (decide (1 ≤ b))
          (RT.br (decide (b ≤ 1000))
            (RT.br (decide (1 ≤ c))
              (RT.br (decide (c ≤ 1000))
                (RT.br (decide (0 ≤ d))
                  (RT.br (decide (d ≤ 1000))
                    (RT.br (decide (1 ≤ e))
                      (RT.br (decide (e ≤ 1048576))
                        (RT.br (decide (0 ≤ f))
                          (RT.br (decide (f ≤ 1048576))
                            (RT.br (decide (1 ≤ g)) (RT.ok (AV.sc false (Value.bool (decide (g ≤ 1000)))))
                              (RT.ok (AV.sc true (Value.bool false))))
                            (RT.ok (AV.sc true (Value.bool false))))
                          (RT.ok (AV.sc true (Value.bool false))))
                        (RT.ok (AV.sc true (Value.bool false))))
                      (RT.ok (AV.sc true (Value.bool false))))
                    (RT.ok (AV.sc true (Value.bool false))))
                  (RT.ok (AV.sc true (Value.bool false))))
                (RT.ok (AV.sc true (Value.bool false))))
              (RT.ok (AV.sc true (Value.bool false))))
            (RT.ok (AV.sc true (Value.bool false))))
          (RT.ok (AV.sc true (Value.bool false))))
        (RT.ok (AV.sc true (Value.bool false))))
      (RT.ok (AV.sc true (Value.bool false))) := by kernel_rfl
theorem isconf_tree (a b c d e f g : Int) : treeF (evF Tryz.prog (gam ([])) (lam ([])) 100 39) [.agg [ai a, ai b, ai c, ai d, ai e, ai f, ai g]] =
    RT.br (decide (128 ≤ a))
      (RT.br (decide (a ≤ 1492))
        (RT.br (decide (1 ≤ b))
          (RT.br (decide (b ≤ 1000))
            (RT.br (decide (1 ≤ c))
              (RT.br (decide (c ≤ 1000))
                (RT.br (decide (0 ≤ d))
                  (RT.br (decide (d ≤ 1000))
                    (RT.br (decide (1 ≤ e))
                      (RT.br (decide (e ≤ 1048576))
                        (RT.br (decide (0 ≤ f))
                          (RT.br (decide (f ≤ 1048576))
                            (RT.br (decide (1 ≤ g)) (RT.ok (AV.sc false (Value.bool (decide (g ≤ 1000)))))
                              (RT.ok (AV.sc true (Value.bool false))))
                            (RT.ok (AV.sc true (Value.bool false))))
                          (RT.ok (AV.sc true (Value.bool false))))
                        (RT.ok (AV.sc true (Value.bool false))))
                      (RT.ok (AV.sc true (Value.bool false))))
                    (RT.ok (AV.sc true (Value.bool false))))
                  (RT.ok (AV.sc true (Value.bool false))))
                (RT.ok (AV.sc true (Value.bool false))))
              (RT.ok (AV.sc true (Value.bool false))))
            (RT.ok (AV.sc true (Value.bool false))))
          (RT.ok (AV.sc true (Value.bool false))))
        (RT.ok (AV.sc true (Value.bool false))))
      (RT.ok (AV.sc true (Value.bool false))) := by kernel_rfl
def FFits : List AV → RT AV
  | [.agg [.sc false (.int .i64 a), .sc false (.int .i64 b), .sc false (.int .i64 c), .sc false (.int .i64 d), .sc false (.int .i64 e), .sc false (.int .i64 f), .sc false (.int .i64 g)]] => .ok (ab (fitsB a b c d e f g))
  | _ => .bad 202
theorem fits_soundF : SoundF Tryz.prog 35 (pureS Tryz.prog 35 FFits) := by
  refine pure_in (gs := []) (ls := []) mixed trivial trivial 35 100 fun args K _ H => ?_
  unfold FFits at H
  split at H
  · rw [fits_tree]
    simp only [RT.holds]
    repeat' refine And.intro (fun _ => ?_) (fun _ => ?_)
    all_goals exact ⟨_, le_bool (by simp_all [fitsB, inB] <;> omega), H⟩
  · exact H.elim
theorem isconf_soundF : SoundF Tryz.prog 39 (pureS Tryz.prog 39 FFits) := by
  refine pure_in (gs := []) (ls := []) mixed trivial trivial 39 100 fun args K _ H => ?_
  unfold FFits at H
  split at H
  · rw [isconf_tree]
    simp only [RT.holds]
    repeat' refine And.intro (fun _ => ?_) (fun _ => ?_)
    all_goals exact ⟨_, le_bool (by simp_all [fitsB, inB] <;> omega), H⟩
  · exact H.elim
end
end Go.Proofs.YtcambhbmobepjaaGreat

namespace Go.Proofs.YtcambhbmobepjaaGreat
set_option linter.unusedSimpArgs false
set_option linter.unusedVariables false
open Go.RowKit
set_option maxRecDepth 100000
noncomputable section

-- DEFS
abbrev opS : List Sh := [.int .i64, .sl [.int .u8]]
abbrev nilA : AV := .sc true (.slice none 0 0)
-- END
theorem app_nil_len (d : D) : ((D.l []).app d).len = d.len := by
  have h0 : (D.l []).len = 0 := by simp [D.len, D.toL, D.raw]
  rw [app_len (by rw [h0, Nat.zero_add]; exact d.len_le), h0, Nat.zero_add]
theorem app_nil_get (d : D) (i : Nat) : ((D.l []).app d).get i = d.get i := by
  have h0 : (D.l []).len = 0 := by simp [D.len, D.toL, D.raw]
  rw [app_get (by rw [h0, Nat.zero_add]; exact d.len_le), if_neg (by omega), h0, Nat.sub_zero]
theorem le_app_nil {kn kn' : Bool} {es : List Sh} {d : D} {tip : Option (Nat × Nat)} : Le (.sl kn es ((D.l []).app d) tip) (.sl kn' es d none) :=
  le_sl (app_nil_len d) fun i _ => by rw [app_nil_get]; exact eqEl_refl _ _ _
theorem cloneb_tree (d : D) : treeF (evF Tryz.prog (gam ([])) (lam ([])) 100 98) [asl byS d] =
    RT.br (decide (D.len d = 0))
      (RT.all (RT.ok (AV.sc true (Value.slice none 0 0))) (RT.ok (AV.sl false [Sh.int IntKind.u8] (D.app (D.l []) d) none)))
      (RT.ok (AV.sl false [Sh.int IntKind.u8] (D.app (D.l []) d) none)) := by kernel_rfl
theorem cloneo_tree (d : D) : treeF (evF Tryz.prog (gam ([])) (lam ([])) 100 97) [asl opS d] =
    RT.br (decide (D.len d = 0))
      (RT.all (RT.ok (AV.sc true (Value.slice none 0 0)))
        (RT.ok (AV.sl false [Sh.int IntKind.i64, Sh.sl [Sh.int IntKind.u8]] (D.app (D.l []) d) none)))
      (RT.ok (AV.sl false [Sh.int IntKind.i64, Sh.sl [Sh.int IntKind.u8]] (D.app (D.l []) d) none)) := by kernel_rfl
def FCloneB : List AV → RT AV
  | [.sl false [.int .u8] d none] => .ok (asl byS d)
  | _ => .bad 203
theorem cloneb_soundF : SoundF Tryz.prog 98 (pureS Tryz.prog 98 FCloneB) := by
  refine pure_in (gs := []) (ls := []) mixed trivial trivial 98 100 fun args K _ H => ?_
  unfold FCloneB at H
  split at H
  · rw [cloneb_tree]
    exact ⟨fun h0 => ⟨⟨_, le_nil (of_decide_eq_true h0), H⟩, ⟨_, le_app_nil, H⟩⟩, fun _ => ⟨_, le_app_nil, H⟩⟩
  · exact H.elim
def FCloneO : List AV → RT AV
  | [.sl false [.int .i64, .sl [.int .u8]] d none] => .ok (asl opS d)
  | _ => .bad 203
theorem cloneo_soundF : SoundF Tryz.prog 97 (pureS Tryz.prog 97 FCloneO) := by
  refine pure_in (gs := []) (ls := []) mixed trivial trivial 97 100 fun args K _ H => ?_
  unfold FCloneO at H
  split at H
  · rw [cloneo_tree]
    exact ⟨fun h0 => ⟨⟨_, le_nil (of_decide_eq_true h0), H⟩, ⟨_, le_app_nil, H⟩⟩, fun _ => ⟨_, le_app_nil, H⟩⟩
  · exact H.elim
end
end Go.Proofs.YtcambhbmobepjaaGreat

namespace Go.Proofs.YtcambhbmobepjaaGreat
set_option linter.unusedSimpArgs false
set_option linter.unusedVariables false
open Go.RowKit
set_option maxRecDepth 100000
noncomputable section

-- DEFS
def cloneG (P : Program) : List (FuncId × Spec) := [(98, pureS P 98 FCloneB)]
abbrev sh (es : List Sh) (d : D) (k g : Nat) : AV := .sl false es d (some (k, g))
-- END
theorem cloneG_ok : GamL Tryz.prog (cloneG Tryz.prog) := ⟨cloneb_soundF, trivial⟩
/-- the first n of what f tells -/
def tabD (f : Nat → D) (n : Nat) : D := .l ((List.range n).map f)
theorem tabD_toL {f : Nat → D} {n : Nat} (h : n ≤ maxLen) : (tabD f n).toL = (List.range n).map f := toL_l (by simpa using h)
theorem tabD_len {f : Nat → D} {n : Nat} (h : n ≤ maxLen) : (tabD f n).len = n := by unfold D.len; rw [tabD_toL h]; simp
theorem tabD_get {f : Nat → D} {n : Nat} (h : n ≤ maxLen) {i : Nat} (hi : i < n) : (tabD f n).get i = f i := by
  unfold D.get; rw [tabD_toL h, List.getD_eq_getElem?_getD]; simp [hi]
theorem tabD_succ {f : Nat → D} {n : Nat} (h : n ≤ maxLen) : (tabD f n).app (.l [f n]) = tabD f (n + 1) := by
  unfold D.app
  rw [tabD_toL h, toL_l (show [f n].length ≤ maxLen by simp; unfold maxLen; omega)]
  unfold tabD
  rw [List.range_succ, List.map_append]; rfl
theorem wrap_succ {i n : Nat} (hi : i < n) (hn : n ≤ maxLen) : IntKind.i64.wrap ((i : Int) + 1) = ((i + 1 : Nat) : Int) := by
  unfold maxLen at hn
  rw [IntWalk.i64_left]
  unfold wrap64
  omega
def copL : Lw := ⟨[3, 6, 7, 8], [(false, 3, 0, 92)], 0, 1, 1000, 1000⟩
def copF (d : D) (n : Int) (i : Nat) (out : D) : Tm := ⟨23, [(3, sh opS out 0 1000), (6, asl opS d), (7, ai n), (8, ai i)], []⟩
def copH : Hp := ⟨[], 0, [(0, 1000, 92)], 1, 1001, 1000⟩
theorem cop_body (d out : D) (n i : Int) : roundT (⟨[3, 6, 7, 8], [(false, 3, 0, 92)], 0, 1, 1000, 1000⟩) (evC Tryz.prog (gam (cloneG Tryz.prog)) (lam ([])) 100 79 (loopAt 0 (bodyOf Tryz.prog 79)) (⟨23, [(3, sh opS out 0 1000), (6, asl opS d), (7, ai n), (8, ai i)], []⟩) (⟨[], 0, [(0, 1000, 92)], 1, 1001, 1000⟩)) =
    RT.br (decide (i < n))
      (RT.br (decide (0 ≤ i ∧ i < (↑(D.len d) : Int)))
        (RT.br (decide ((D.len out + 1) * 32 ≤ 140737488355328))
          (RT.ok
            (Ex.normal,
              { nt := 23,
                tm :=
                  [(3,
                      AV.sl false [Sh.int IntKind.i64, Sh.sl [Sh.int IntKind.u8]]
                        (D.app out
                          (D.l [D.t [D.i (D.toI (D.cell (D.get d (Int.toNat i)) 0)), D.cell (D.get d (Int.toNat i)) 1]]))
                        (some (0, 1000))),
                    (6, AV.sl false [Sh.int IntKind.i64, Sh.sl [Sh.int IntKind.u8]] d none),
                    (7, AV.sc false (Value.int IntKind.i64 n)),
                    (8, AV.sc false (Value.int IntKind.i64 (IntKind.wrap IntKind.i64 (i + 1))))],
                df := [] },
              { ob := [], nx := 0, gn := [(0, 1000, 92)], nv := 1, ng := 1001, ep := 1000 }))
          (RT.bad 70))
        (RT.bad 42))
      (RT.ok
        (Ex.exit 0,
          { nt := 23,
            tm :=
              [(3, AV.sl false [Sh.int IntKind.i64, Sh.sl [Sh.int IntKind.u8]] out (some (0, 1000))),
                (6, AV.sl false [Sh.int IntKind.i64, Sh.sl [Sh.int IntKind.u8]] d none),
                (7, AV.sc false (Value.int IntKind.i64 n)), (8, AV.sc false (Value.int IntKind.i64 i))],
            df := [] },
          { ob := [], nx := 0, gn := [(0, 1000, 92)], nv := 1, ng := 1001, ep := 1000 })) := by kernel_rfl
-- STOPS: tabD copE
/-- an option, copied -/
def copE (d : D) (i : Nat) : D := .t [.i ((d.get i).cell 0).toI, (d.get i).cell 1]
def copDec (F : Tm) (h : Hp) : Option (D × Int × Nat) := match F, h with
  | ⟨23, [(3, .sl false [.int .i64, .sl [.int .u8]] (.l []) (some (0, 1000))), (6, .sl false [.int .i64, .sl [.int .u8]] d none), (7, .sc false (.int .i64 n)), (8, .sc false (.int .i64 0))], []⟩, ⟨[], 0, [(0, 1000, 92)], 1, 1001, 1000⟩ => some (d, n, 0)
  | _, _ => none
def copT (x : D × Int × Nat) : RT Out := need false (decide (x.2.1 = (x.1.len : Int) ∧ x.2.2 ≤ x.1.len ∧ x.1.len * 32 ≤ room)) 210 (.ok (.normal, copF x.1 x.2.1 x.1.len (tabD (copE x.1) x.1.len), copH))
theorem cop_loop : LamE Tryz.prog 79 0 (loopS Tryz.prog copL copDec copT) := by
  refine loop_in2 (gs := cloneG Tryz.prog) (ls := []) mixed cloneG_ok trivial _ 0 100 (by kernel_rfl) copL (mkF := fun x => copF x.1 x.2.1 x.2.2 (tabD (copE x.1) x.2.2)) (mkH := fun _ => copH) (fun x => x.1.len - x.2.2) ?_ ?_
  · intro F h x hx
    unfold copDec at hx
    split at hx
    · cases hx; exact ⟨rfl, rfl⟩
    · cases hx
  · rintro ⟨d, n, i⟩ K H
    obtain ⟨hc, H⟩ := need_holds H
    obtain ⟨rfl, hi, hb⟩ : n = (d.len : Int) ∧ i ≤ d.len ∧ d.len * 32 ≤ room := of_decide_eq_true hc
    have hm := d.len_le
    show (roundT copL (evC _ _ _ _ _ _ (copF d d.len i (tabD (copE d) i)) copH)).holds _
    unfold copL copF copH
    rw [cop_body]
    refine ⟨fun h1 => ⟨fun h2 => ⟨fun h3 => ?_, fun h3 => ?_⟩, fun h2 => ?_⟩, fun h1 => ?_⟩
    · have h1 : i < d.len := by have := of_decide_eq_true h1; omega
      refine ⟨(d, d.len, i + 1), ⟨?_, rfl⟩, by show d.len - (i + 1) < d.len - i; omega, ?_⟩
      · rw [wrap_succ h1 hm]
        exact congrArg (fun o => copF d d.len (i + 1) o) (tabD_succ (f := copE d) (n := i) (by omega))
      · exact ⟨fun _ => H, fun hf => by
          have := of_decide_eq_false hf
          exact absurd ⟨rfl, by show i + 1 ≤ d.len; omega, hb⟩ this⟩
    · have h1 : i < d.len := by have := of_decide_eq_true h1; omega
      have h3 := of_decide_eq_false h3
      refine absurd ?_ h3
      rw [tabD_len (by omega)]
      unfold room at hb
      omega
    · have h1 : i < d.len := by have := of_decide_eq_true h1; omega
      have h2 := of_decide_eq_false h2
      omega
    · have h1 : i = d.len := by have := of_decide_eq_false h1; omega
      subst h1
      exact H
def copLs (P : Program) : List (FuncId × Nat × BSpec) := [(79, 0, loopS P copL copDec copT)]
theorem copLs_ok : LamL Tryz.prog (copLs Tryz.prog) := ⟨cop_loop, trivial⟩
end
end Go.Proofs.YtcambhbmobepjaaGreat

namespace Go.Proofs.YtcambhbmobepjaaGreat
set_option linter.unusedSimpArgs false
set_option linter.unusedVariables false
open Go.RowKit
set_option maxRecDepth 100000
noncomputable section

theorem cop_tree (d : D) : treeF (evF Tryz.prog (gam (cloneG Tryz.prog)) (lam (copLs Tryz.prog)) 100 79) [asl opS d] =
    RT.br (decide ((↑(D.len d) : Int) = (↑(D.len d) : Int) ∧ 0 ≤ D.len d ∧ D.len d * 32 ≤ 140737488355328))
      (RT.ok (AV.sl false [Sh.int IntKind.i64, Sh.sl [Sh.int IntKind.u8]] (tabD (copE d) (D.len d)) none)) (RT.bad 210) := by kernel_rfl
theorem copE_eq (d : D) (i : Nat) : eqEl opS (copE d i) (d.get i) 0 := ⟨rfl, rfl, trivial⟩
theorem le_cop (d : D) : Le (.sl false opS (tabD (copE d) d.len) none) (asl opS d) :=
  le_sl (tabD_len d.len_le) fun i hi => by
    rw [tabD_len d.len_le] at hi
    rw [tabD_get d.len_le hi]; exact copE_eq d i
def FCopied : List AV → RT AV
  | [.sl false [.int .i64, .sl [.int .u8]] d none] => .ok (asl opS d)
  | _ => .bad 204
theorem copied_soundF : SoundF Tryz.prog 79 (pureS Tryz.prog 79 FCopied) := by
  refine pure_in (gs := cloneG Tryz.prog) (ls := copLs Tryz.prog) mixed cloneG_ok copLs_ok 79 100 fun args K ho H => ?_
  unfold FCopied at H
  split at H
  · rename_i d
    rw [cop_tree]
    have h0 := ho.1.1
    refine ⟨fun h1 => ⟨_, le_cop d, H⟩, fun h1 => ?_⟩
    exact absurd ⟨rfl, Nat.zero_le _, h0⟩ (of_decide_eq_false h1)
  · exact H.elim
end
end Go.Proofs.YtcambhbmobepjaaGreat

namespace Go.Proofs.YtcambhbmobepjaaGreat
set_option linter.unusedSimpArgs false
set_option linter.unusedVariables false
open Go.RowKit
set_option maxRecDepth 100000
noncomputable section

-- DEFS
abbrev nf : AV := .sc false (.slice none 0 0)
/-- all of so many, from one on -/
def okFrom (p : Nat → Bool) : Nat → Nat → Bool
  | 0, _ => true
  | n + 1, i => p i && okFrom p n (i + 1)
def badFrom (p : Nat → Bool) : Nat → Nat → Nat
  | 0, i => i
  | n + 1, i => if p i then badFrom p n (i + 1) else i
-- END
-- STOPS: okFrom badFrom
theorem okFrom_iff {p : Nat → Bool} : ∀ {n i : Nat}, okFrom p n i = true ↔ ∀ j, i ≤ j → j < i + n → p j = true
  | 0, i => by simp [okFrom]; omega
  | n + 1, i => by
    simp only [okFrom, Bool.and_eq_true, okFrom_iff (n := n) (i := i + 1)]
    exact ⟨fun ⟨h1, h2⟩ j hj hj2 => by
      by_cases e : j = i
      · rw [e]; exact h1
      · exact h2 j (by omega) (by omega), fun h => ⟨h i (by omega) (by omega), fun j h1 h2 => h j (by omega) (by omega)⟩⟩
theorem okFrom_snoc {p : Nat → Bool} {n : Nat} (h : okFrom p n 0 = true) (hp : p n = true) : okFrom p (n + 1) 0 = true := by
  rw [okFrom_iff] at h ⊢
  intro j _ hj
  by_cases e : j = n
  · rw [e]; exact hp
  · exact h j (by omega) (by omega)
theorem okFrom_false {p : Nat → Bool} {n i j : Nat} (h1 : i ≤ j) (h2 : j < i + n) (hp : p j = false) : okFrom p n i = false := by
  cases h : okFrom p n i
  · rfl
  · rw [okFrom_iff] at h
    have := h j h1 h2
    rw [hp] at this; cases this
theorem okFrom_join {p : Nat → Bool} {n m : Nat} (h : okFrom p n 0 = true) (h2 : okFrom p m n = true) : okFrom p (n + m) 0 = true := by
  rw [okFrom_iff] at h h2 ⊢
  intro j _ hj
  by_cases e : j < n
  · exact h j (by omega) (by omega)
  · exact h2 j (by omega) (by omega)
theorem badFrom_cons {p : Nat → Bool} {n i : Nat} (hp : p i = true) : badFrom p (n + 1) i = badFrom p n (i + 1) := by simp [badFrom, hp]
theorem badFrom_here {p : Nat → Bool} {n i : Nat} (hp : p i = false) : badFrom p (n + 1) i = i := by simp [badFrom, hp]
/-! Options' bytes. -/
def optT (d : D) (i : Nat) : Int := ((d.get i).cell 0).toI
def optB (d : D) (i : Nat) : D := (d.get i).cell 1
def optOk (d : D) (i : Nat) : Bool := decide (0 ≤ optT d i ∧ optT d i ≤ 255 ∧ (optB d i).len ≤ 253)
def headD (d : D) (i : Nat) : D := .l [.t [.i (IntKind.u8.wrap (optT d i))], .t [.i (IntKind.u8.wrap (IntKind.i64.wrap (((optB d i).len : Int) + 2)))]]
def encP (d : D) : Nat → D
  | 0 => .l []
  | i + 1 => ((encP d i).app (headD d i)).app (optB d i)
def encE (d : D) : Int := if 64 < d.len then 3 else if okFrom (optOk d) d.len 0 then (if 1488 < (encP d d.len).len then 2 else 0) else 80
def encO (d : D) : D := if encE d = 0 then encP d d.len else .l []
theorem nil_len : (D.l []).len = 0 := by simp [D.len, D.toL, D.raw]
theorem head_len (d : D) (i : Nat) : (headD d i).len = 2 := by
  unfold D.len headD
  rw [toL_l (by simp; unfold maxLen; omega)]; rfl
theorem enc_len {d : D} : ∀ {i : Nat}, i ≤ 64 → okFrom (optOk d) i 0 = true → (encP d i).len ≤ 255 * i
  | 0, _, _ => by simp [encP, nil_len]
  | i + 1, hi, h => by
    have h' := okFrom_iff.1 h
    have ih := enc_len (d := d) (i := i) (by omega) (okFrom_iff.2 fun j h1 h2 => h' j h1 (by omega))
    have ho := of_decide_eq_true (h' i (by omega) (by omega))
    simp only [encP]
    have e1 : ((encP d i).app (headD d i)).len = (encP d i).len + 2 := by rw [app_len (by rw [head_len]; unfold maxLen; omega), head_len]
    rw [app_len (by rw [e1]; unfold maxLen; omega), e1]
    omega
def encL : Lw := ⟨[2, 3, 4, 10, 11, 12], [(false, 4, 0, 5)], 0, 1, 1000, 1000⟩
def encF (d : D) (n : Int) (i : Nat) : Tm := ⟨45, [(2, nf), (3, ai 0), (4, sh byS (encP d i) 0 1000), (10, asl opS d), (11, ai n), (12, ai i)], []⟩
def encR (d : D) (n : Int) (i : Nat) : Tm := ⟨45, [(2, nf), (3, ai 80), (4, sh byS (encP d i) 0 1000), (10, asl opS d), (11, ai n), (12, ai i)], []⟩
def encH : Hp := ⟨[], 0, [(0, 1000, 5)], 1, 1001, 1000⟩
theorem enc_body (d out : D) (n i : Int) : roundT (⟨[2, 3, 4, 10, 11, 12], [(false, 4, 0, 5)], 0, 1, 1000, 1000⟩) (evC Tryz.prog (gam ([])) (lam ([])) 100 78 (loopAt 0 (bodyOf Tryz.prog 78)) (⟨45, [(2, nf), (3, ai 0), (4, sh byS out 0 1000), (10, asl opS d), (11, ai n), (12, ai i)], []⟩) (⟨[], 0, [(0, 1000, 5)], 1, 1001, 1000⟩)) =
    RT.br (decide (i < n))
      (RT.br (decide (0 ≤ i ∧ i < (↑(D.len d) : Int)))
        (RT.br (decide (0 ≤ D.toI (D.cell (D.get d (Int.toNat i)) 0)))
          (RT.br (!decide (D.toI (D.cell (D.get d (Int.toNat i)) 0) ≤ 255))
            (RT.ok
              (Ex.ret,
                { nt := 45,
                  tm :=
                    [(2, AV.sc false (Value.slice none 0 0)), (3, AV.sc false (Value.int IntKind.i64 80)),
                      (4, AV.sl false [Sh.int IntKind.u8] out (some (0, 1000))),
                      (10, AV.sl false [Sh.int IntKind.i64, Sh.sl [Sh.int IntKind.u8]] d none),
                      (11, AV.sc false (Value.int IntKind.i64 n)), (12, AV.sc false (Value.int IntKind.i64 i))],
                  df := [] },
                { ob := [], nx := 0, gn := [(0, 1000, 5)], nv := 1, ng := 1001, ep := 1000 }))
            (RT.br (decide (253 < (↑(D.len (D.cell (D.get d (Int.toNat i)) 1)) : Int)))
              (RT.ok
                (Ex.ret,
                  { nt := 45,
                    tm :=
                      [(2, AV.sc false (Value.slice none 0 0)), (3, AV.sc false (Value.int IntKind.i64 80)),
                        (4, AV.sl false [Sh.int IntKind.u8] out (some (0, 1000))),
                        (10, AV.sl false [Sh.int IntKind.i64, Sh.sl [Sh.int IntKind.u8]] d none),
                        (11, AV.sc false (Value.int IntKind.i64 n)), (12, AV.sc false (Value.int IntKind.i64 i))],
                    df := [] },
                  { ob := [], nx := 0, gn := [(0, 1000, 5)], nv := 1, ng := 1001, ep := 1000 }))
              (RT.br (decide ((D.len out + 2) * 1 ≤ 140737488355328))
                (RT.br
                  (decide
                    ((D.len
                            (D.app out
                              (D.l
                                [D.t [D.i (IntKind.wrap IntKind.u8 (D.toI (D.cell (D.get d (Int.toNat i)) 0)))],
                                  D.t
                                    [D.i
                                        (IntKind.wrap IntKind.u8
                                          (IntKind.wrap IntKind.i64
                                            ((↑(D.len (D.cell (D.get d (Int.toNat i)) 1)) : Int) + 2)))]])) +
                          D.len (D.cell (D.get d (Int.toNat i)) 1)) *
                        1 ≤
                      140737488355328))
                  (RT.ok
                    (Ex.normal,
                      { nt := 45,
                        tm :=
                          [(2, AV.sc false (Value.slice none 0 0)), (3, AV.sc false (Value.int IntKind.i64 0)),
                            (4,
                              AV.sl false [Sh.int IntKind.u8]
                                (D.app
                                  (D.app out
                                    (D.l
                                      [D.t [D.i (IntKind.wrap IntKind.u8 (D.toI (D.cell (D.get d (Int.toNat i)) 0)))],
                                        D.t
                                          [D.i
                                              (IntKind.wrap IntKind.u8
                                                (IntKind.wrap IntKind.i64
                                                  ((↑(D.len (D.cell (D.get d (Int.toNat i)) 1)) : Int) + 2)))]]))
                                  (D.cell (D.get d (Int.toNat i)) 1))
                                (some (0, 1000))),
                            (10, AV.sl false [Sh.int IntKind.i64, Sh.sl [Sh.int IntKind.u8]] d none),
                            (11, AV.sc false (Value.int IntKind.i64 n)),
                            (12, AV.sc false (Value.int IntKind.i64 (IntKind.wrap IntKind.i64 (i + 1))))],
                        df := [] },
                      { ob := [], nx := 0, gn := [(0, 1000, 5)], nv := 1, ng := 1001, ep := 1000 }))
                  (RT.bad 70))
                (RT.bad 70))))
          (RT.ok
            (Ex.ret,
              { nt := 45,
                tm :=
                  [(2, AV.sc false (Value.slice none 0 0)), (3, AV.sc false (Value.int IntKind.i64 80)),
                    (4, AV.sl false [Sh.int IntKind.u8] out (some (0, 1000))),
                    (10, AV.sl false [Sh.int IntKind.i64, Sh.sl [Sh.int IntKind.u8]] d none),
                    (11, AV.sc false (Value.int IntKind.i64 n)), (12, AV.sc false (Value.int IntKind.i64 i))],
                df := [] },
              { ob := [], nx := 0, gn := [(0, 1000, 5)], nv := 1, ng := 1001, ep := 1000 })))
        (RT.bad 42))
      (RT.ok
        (Ex.exit 0,
          { nt := 45,
            tm :=
              [(2, AV.sc false (Value.slice none 0 0)), (3, AV.sc false (Value.int IntKind.i64 0)),
                (4, AV.sl false [Sh.int IntKind.u8] out (some (0, 1000))),
                (10, AV.sl false [Sh.int IntKind.i64, Sh.sl [Sh.int IntKind.u8]] d none),
                (11, AV.sc false (Value.int IntKind.i64 n)), (12, AV.sc false (Value.int IntKind.i64 i))],
            df := [] },
          { ob := [], nx := 0, gn := [(0, 1000, 5)], nv := 1, ng := 1001, ep := 1000 })) := by kernel_rfl
end
end Go.Proofs.YtcambhbmobepjaaGreat

namespace Go.Proofs.YtcambhbmobepjaaGreat
set_option linter.unusedSimpArgs false
set_option linter.unusedVariables false
open Go.RowKit
set_option maxRecDepth 100000
noncomputable section

-- DEFS
def encDec (F : Tm) (h : Hp) : Option (D × Int × Nat) := match F, h with
  | ⟨45, [(2, .sc false (.slice none 0 0)), (3, .sc false (.int .i64 0)), (4, .sl false [.int .u8] (.l []) (some (0, 1000))), (10, .sl false [.int .i64, .sl [.int .u8]] d none), (11, .sc false (.int .i64 n)), (12, .sc false (.int .i64 0))], []⟩, ⟨[], 0, [(0, 1000, 5)], 1, 1001, 1000⟩ => some (d, n, 0)
  | _, _ => none
def encT (x : D × Int × Nat) : RT Out := need false (decide (x.2.1 = (x.1.len : Int) ∧ x.2.2 ≤ x.1.len ∧ x.1.len ≤ 64 ∧ okFrom (optOk x.1) x.2.2 0 = true)) 210
  (.br (okFrom (optOk x.1) (x.1.len - x.2.2) x.2.2) (.ok (.normal, encF x.1 x.2.1 x.1.len, encH)) (.ok (.ret, encR x.1 x.2.1 (badFrom (optOk x.1) (x.1.len - x.2.2) x.2.2), encH)))
def encLs (P : Program) : List (FuncId × Nat × BSpec) := [(78, 0, loopS P encL encDec encT)]
-- END
-- STOPS: encP optOk okFrom badFrom
theorem enc_loop : LamE Tryz.prog 78 0 (loopS Tryz.prog encL encDec encT) := by
  refine loop_in2 (gs := []) (ls := []) mixed trivial trivial _ 0 100 (by kernel_rfl) encL (mkF := fun x => encF x.1 x.2.1 x.2.2) (mkH := fun _ => encH) (fun x => x.1.len - x.2.2) ?_ ?_
  · intro F h x hx
    unfold encDec at hx
    split at hx
    · cases hx; exact ⟨rfl, rfl⟩
    · cases hx
  · rintro ⟨d, n, i⟩ K H
    obtain ⟨hc, H⟩ := need_holds H
    obtain ⟨rfl, hi, h64, hok⟩ : n = (d.len : Int) ∧ i ≤ d.len ∧ d.len ≤ 64 ∧ okFrom (optOk d) i 0 = true := of_decide_eq_true hc
    have hm := d.len_le
    have hel := enc_len (by omega) hok
    show (roundT encL (evC _ _ _ _ _ _ (encF d d.len i) encH)).holds _
    unfold encL encF encH
    rw [enc_body]
    simp only [Int.toNat_natCast]
    by_cases hlt : i < d.len
    · cases hp : optOk d i
      · have hret : K (.ret, encR d d.len i, encH) := by
          have := H.2 (okFrom_false (Nat.le_refl _) (show i < i + (d.len - i) by omega) hp)
          dsimp only at this
          rwa [show d.len - i = (d.len - i - 1) + 1 by omega, badFrom_here hp] at this
        have hp' := of_decide_eq_false hp
        unfold optT optB at hp'
        repeat' refine And.intro (fun _ => ?_) (fun _ => ?_)
        all_goals first | exact hret | (exfalso; clear H hret; simp only [decide_eq_true_eq, decide_eq_false_iff_not, Bool.not_eq_true', Bool.not_eq_false'] at *; omega)
      · have hnext : ∃ x' : D × Int × Nat, (encF d d.len (i + 1) = encF x'.1 x'.2.1 x'.2.2 ∧ encH = encH) ∧ x'.1.len - x'.2.2 < d.len - i ∧ (encT x').holds K := by
          refine ⟨(d, d.len, i + 1), ⟨rfl, rfl⟩, by show d.len - (i + 1) < d.len - i; omega, ?_⟩
          refine ⟨fun _ => ?_, fun hf => absurd ⟨rfl, by show i + 1 ≤ d.len; omega, h64, okFrom_snoc hok hp⟩ (of_decide_eq_false hf)⟩
          have e : d.len - i = (d.len - (i + 1)) + 1 := by omega
          have e1 : okFrom (optOk d) (d.len - i) i = okFrom (optOk d) (d.len - (i + 1)) (i + 1) := by rw [e]; simp only [okFrom, hp, Bool.true_and]
          have e2 : badFrom (optOk d) (d.len - i) i = badFrom (optOk d) (d.len - (i + 1)) (i + 1) := by rw [e, badFrom_cons hp]
          dsimp only at H
          rw [e1, e2] at H
          exact H
        have hp' := of_decide_eq_true hp
        unfold optT optB at hp'
        have hap : ((encP d i).app (headD d i)).len = (encP d i).len + 2 := by rw [app_len (by rw [head_len]; unfold maxLen; omega), head_len]
        unfold headD optT optB at hap
        repeat' refine And.intro (fun _ => ?_) (fun _ => ?_)
        all_goals first | (rw [wrap_succ hlt hm]; exact hnext) | (exfalso; clear H hnext; simp only [decide_eq_true_eq, decide_eq_false_iff_not, Bool.not_eq_true', Bool.not_eq_false'] at *; omega)
    · have : i = d.len := by omega
      subst this
      refine ⟨fun h1 => ?_, fun h1 => H.1 (by rw [Nat.sub_self]; rfl)⟩
      have := of_decide_eq_true h1
      omega
theorem encLs_ok : LamL Tryz.prog (encLs Tryz.prog) := ⟨enc_loop, trivial⟩
theorem enc_tree (d : D) : treeF (evF Tryz.prog (gam ([])) (lam (encLs Tryz.prog)) 100 78) [asl opS d] =
    RT.br (decide (64 < (↑(D.len d) : Int)))
      (RT.ok (AV.tup [AV.sc true (Value.slice none 0 0), AV.sc true (Value.int IntKind.i64 3)]))
      (RT.br (decide ((↑(D.len d) : Int) = (↑(D.len d) : Int) ∧ 0 ≤ D.len d ∧ D.len d ≤ 64 ∧ true = true))
        (RT.br (okFrom (optOk d) (D.len d - 0) 0)
          (RT.br (decide (1488 < (↑(D.len (encP d (D.len d))) : Int)))
            (RT.ok (AV.tup [AV.sc true (Value.slice none 0 0), AV.sc true (Value.int IntKind.i64 2)]))
            (RT.ok
              (AV.tup [AV.sl false [Sh.int IntKind.u8] (encP d (D.len d)) none, AV.sc true (Value.int IntKind.i64 0)])))
          (RT.ok (AV.tup [AV.sc false (Value.slice none 0 0), AV.sc false (Value.int IntKind.i64 80)])))
        (RT.bad 210)) := by kernel_rfl
end
end Go.Proofs.YtcambhbmobepjaaGreat

namespace Go.Proofs.YtcambhbmobepjaaGreat
set_option linter.unusedSimpArgs false
set_option linter.unusedVariables false
open Go.RowKit
set_option maxRecDepth 100000
noncomputable section

def FEnc : List AV → RT AV
  | [.sl false [.int .i64, .sl [.int .u8]] d none] => .ok (.tup [asl byS (encO d), ai (encE d)])
  | _ => .bad 205
theorem encE_many {d : D} (h : 64 < d.len) : encE d = 3 := by unfold encE; rw [if_pos h]
theorem encE_bad {d : D} (h : ¬ 64 < d.len) (h2 : okFrom (optOk d) d.len 0 = false) : encE d = 80 := by unfold encE; rw [if_neg h, h2]; rfl
theorem encE_long {d : D} (h : ¬ 64 < d.len) (h2 : okFrom (optOk d) d.len 0 = true) (h3 : 1488 < (encP d d.len).len) : encE d = 2 := by unfold encE; rw [if_neg h, h2, if_pos rfl, if_pos h3]
theorem encE_ok {d : D} (h : ¬ 64 < d.len) (h2 : okFrom (optOk d) d.len 0 = true) (h3 : ¬ 1488 < (encP d d.len).len) : encE d = 0 := by unfold encE; rw [if_neg h, h2, if_pos rfl, if_neg h3]
theorem encO_none {d : D} (h : encE d ≠ 0) : encO d = .l [] := by unfold encO; rw [if_neg h]
theorem encO_some {d : D} (h : encE d = 0) : encO d = encP d d.len := by unfold encO; rw [if_pos h]
theorem le_two {a b c d : AV} (h1 : Le a c) (h2 : Le b d) : Le (.tup [a, b]) (.tup [c, d]) := le_tup (leL_cons h1 (leL_cons h2 leL_nil))
theorem le_enc {d : D} {kn : Bool} {e : Int} (h : encE d = e) (he : e ≠ 0) {kn' : Bool} : Le (.tup [.sc kn (.slice none 0 0), .sc kn' (.int .i64 e)]) (.tup [asl byS (encO d), ai (encE d)]) :=
  le_two (le_nil (by rw [encO_none (by rw [h]; exact he)]; exact nil_len)) (le_int h.symm)
theorem le_encok {d : D} (h : encE d = 0) {kn kn' : Bool} {tip : Option (Nat × Nat)} : Le (.tup [.sl kn byS (encP d d.len) tip, .sc kn' (.int .i64 0)]) (.tup [asl byS (encO d), ai (encE d)]) :=
  le_two (le_sl (by rw [encO_some h]) fun i _ => by rw [encO_some h]; exact eqEl_refl _ _ _) (le_int h.symm)
theorem encode_soundF : SoundF Tryz.prog 78 (pureS Tryz.prog 78 FEnc) := by
  refine pure_in (gs := []) (ls := encLs Tryz.prog) mixed trivial encLs_ok 78 100 fun args K ho H => ?_
  unfold FEnc at H
  split at H
  · rename_i d
    rw [enc_tree]
    refine ⟨fun h1 => ?_, fun h1 => ⟨fun h2 => ⟨fun h3 => ⟨fun h4 => ?_, fun h4 => ?_⟩, fun h3 => ?_⟩, fun h2 => ?_⟩⟩
    · exact ⟨_, le_enc (encE_many (by have := of_decide_eq_true h1; omega)) (by decide), H⟩
    · have h1 := of_decide_eq_false h1
      exact ⟨_, le_enc (encE_long (by omega) h3 (by have := of_decide_eq_true h4; omega)) (by decide), H⟩
    · have h1 := of_decide_eq_false h1
      exact ⟨_, le_encok (encE_ok (by omega) h3 (by have := of_decide_eq_false h4; omega)), H⟩
    · have h1 := of_decide_eq_false h1
      exact ⟨_, le_enc (encE_bad (by omega) h3) (by decide), H⟩
    · have h1 := of_decide_eq_false h1
      have h2 := of_decide_eq_false h2
      exact absurd ⟨rfl, Nat.zero_le _, by omega, rfl⟩ h2
  · exact H.elim
/-! The reference's. -/
-- DEFS
def ren1L : Lw := ⟨[0, 2, 3, 4], [], 0, 0, 1000, 1000⟩
def ren1F (d : D) (e : Int) (i : Nat) : Tm := ⟨56, [(0, asl opS d), (2, nf), (3, ai e), (4, ai i)], []⟩
def ren1H : Hp := ⟨[], 0, [], 0, 1000, 1000⟩
def ren2L : Lw := ⟨[0, 2, 3, 5, 6], [(false, 5, 0, 5)], 0, 1, 2000, 2000⟩
def ren2H : Hp := ⟨[], 0, [(0, 2000, 5)], 1, 2001, 2000⟩
-- END
-- STOPS: okFrom badFrom encP optOk
theorem ren1_body (d : D) (i : Int) : roundT (⟨[0, 2, 3, 4], [], 0, 0, 1000, 1000⟩) (evC Tryz.prog (gam ([])) (lam ([])) 100 81 (loopAt 0 (bodyOf Tryz.prog 81)) (⟨56, [(0, asl opS d), (2, nf), (3, ai 0), (4, ai i)], []⟩) (⟨[], 0, [], 0, 1000, 1000⟩)) =
    RT.br (decide (i < (↑(D.len d) : Int)))
      (RT.br (decide (0 ≤ i ∧ i < (↑(D.len d) : Int)))
        (RT.br (decide (0 ≤ D.toI (D.cell (D.get d (Int.toNat i)) 0)))
          (RT.br (decide (D.toI (D.cell (D.get d (Int.toNat i)) 0) ≤ 255))
            (RT.br (!decide ((↑(D.len (D.cell (D.get d (Int.toNat i)) 1)) : Int) ≤ 253))
              (RT.ok
                (Ex.ret,
                  { nt := 56,
                    tm :=
                      [(0, AV.sl false [Sh.int IntKind.i64, Sh.sl [Sh.int IntKind.u8]] d none),
                        (2, AV.sc false (Value.slice none 0 0)), (3, AV.sc false (Value.int IntKind.i64 80)),
                        (4, AV.sc false (Value.int IntKind.i64 i))],
                    df := [] },
                  { ob := [], nx := 0, gn := [], nv := 0, ng := 1000, ep := 1000 }))
              (RT.ok
                (Ex.normal,
                  { nt := 56,
                    tm :=
                      [(0, AV.sl false [Sh.int IntKind.i64, Sh.sl [Sh.int IntKind.u8]] d none),
                        (2, AV.sc false (Value.slice none 0 0)), (3, AV.sc false (Value.int IntKind.i64 0)),
                        (4, AV.sc false (Value.int IntKind.i64 (IntKind.wrap IntKind.i64 (i + 1))))],
                    df := [] },
                  { ob := [], nx := 0, gn := [], nv := 0, ng := 1000, ep := 1000 })))
            (RT.ok
              (Ex.ret,
                { nt := 56,
                  tm :=
                    [(0, AV.sl false [Sh.int IntKind.i64, Sh.sl [Sh.int IntKind.u8]] d none),
                      (2, AV.sc false (Value.slice none 0 0)), (3, AV.sc false (Value.int IntKind.i64 80)),
                      (4, AV.sc false (Value.int IntKind.i64 i))],
                  df := [] },
                { ob := [], nx := 0, gn := [], nv := 0, ng := 1000, ep := 1000 })))
          (RT.ok
            (Ex.ret,
              { nt := 56,
                tm :=
                  [(0, AV.sl false [Sh.int IntKind.i64, Sh.sl [Sh.int IntKind.u8]] d none),
                    (2, AV.sc false (Value.slice none 0 0)), (3, AV.sc false (Value.int IntKind.i64 80)),
                    (4, AV.sc false (Value.int IntKind.i64 i))],
                df := [] },
              { ob := [], nx := 0, gn := [], nv := 0, ng := 1000, ep := 1000 })))
        (RT.bad 42))
      (RT.ok
        (Ex.exit 0,
          { nt := 56,
            tm :=
              [(0, AV.sl false [Sh.int IntKind.i64, Sh.sl [Sh.int IntKind.u8]] d none),
                (2, AV.sc false (Value.slice none 0 0)), (3, AV.sc false (Value.int IntKind.i64 0)),
                (4, AV.sc false (Value.int IntKind.i64 i))],
            df := [] },
          { ob := [], nx := 0, gn := [], nv := 0, ng := 1000, ep := 1000 })) := by kernel_rfl
theorem ren2_body (d out : D) (i : Int) : roundT (⟨[0, 2, 3, 5, 6], [(false, 5, 0, 5)], 0, 1, 2000, 2000⟩) (evC Tryz.prog (gam ([])) (lam ([])) 100 81 (loopAt 2 (bodyOf Tryz.prog 81)) (⟨56, [(0, asl opS d), (2, nf), (3, ai 0), (5, sh byS out 0 2000), (6, ai i)], []⟩) (⟨[], 0, [(0, 2000, 5)], 1, 2001, 2000⟩)) =
    RT.br (decide (i < (↑(D.len d) : Int)))
      (RT.br (decide (0 ≤ i ∧ i < (↑(D.len d) : Int)))
        (RT.br (decide (0 ≤ i ∧ i < (↑(D.len d) : Int)))
          (RT.br (decide ((D.len out + 2) * 1 ≤ 140737488355328))
            (RT.br (decide (0 ≤ i ∧ i < (↑(D.len d) : Int)))
              (RT.br
                (decide
                  ((D.len
                          (D.app out
                            (D.l
                              [D.t [D.i (IntKind.wrap IntKind.u8 (D.toI (D.cell (D.get d (Int.toNat i)) 0)))],
                                D.t
                                  [D.i
                                      (IntKind.wrap IntKind.u8
                                        (IntKind.wrap IntKind.i64
                                          ((↑(D.len (D.cell (D.get d (Int.toNat i)) 1)) : Int) + 2)))]])) +
                        D.len (D.cell (D.get d (Int.toNat i)) 1)) *
                      1 ≤
                    140737488355328))
                (RT.ok
                  (Ex.normal,
                    { nt := 56,
                      tm :=
                        [(0, AV.sl false [Sh.int IntKind.i64, Sh.sl [Sh.int IntKind.u8]] d none),
                          (2, AV.sc false (Value.slice none 0 0)), (3, AV.sc false (Value.int IntKind.i64 0)),
                          (5,
                            AV.sl false [Sh.int IntKind.u8]
                              (D.app
                                (D.app out
                                  (D.l
                                    [D.t [D.i (IntKind.wrap IntKind.u8 (D.toI (D.cell (D.get d (Int.toNat i)) 0)))],
                                      D.t
                                        [D.i
                                            (IntKind.wrap IntKind.u8
                                              (IntKind.wrap IntKind.i64
                                                ((↑(D.len (D.cell (D.get d (Int.toNat i)) 1)) : Int) + 2)))]]))
                                (D.cell (D.get d (Int.toNat i)) 1))
                              (some (0, 2000))),
                          (6, AV.sc false (Value.int IntKind.i64 (IntKind.wrap IntKind.i64 (i + 1))))],
                      df := [] },
                    { ob := [], nx := 0, gn := [(0, 2000, 5)], nv := 1, ng := 2001, ep := 2000 }))
                (RT.bad 70))
              (RT.bad 42))
            (RT.bad 70))
          (RT.bad 42))
        (RT.bad 42))
      (RT.ok
        (Ex.exit 2,
          { nt := 56,
            tm :=
              [(0, AV.sl false [Sh.int IntKind.i64, Sh.sl [Sh.int IntKind.u8]] d none),
                (2, AV.sc false (Value.slice none 0 0)), (3, AV.sc false (Value.int IntKind.i64 0)),
                (5, AV.sl false [Sh.int IntKind.u8] out (some (0, 2000))), (6, AV.sc false (Value.int IntKind.i64 i))],
            df := [] },
          { ob := [], nx := 0, gn := [(0, 2000, 5)], nv := 1, ng := 2001, ep := 2000 })) := by kernel_rfl
end
end Go.Proofs.YtcambhbmobepjaaGreat

namespace Go.Proofs.YtcambhbmobepjaaGreat
set_option linter.unusedSimpArgs false
set_option linter.unusedVariables false
open Go.RowKit
set_option maxRecDepth 100000
noncomputable section

-- DEFS
def ren2F (d : D) (i : Nat) : Tm := ⟨56, [(0, asl opS d), (2, nf), (3, ai 0), (5, sh byS (encP d i) 0 2000), (6, ai i)], []⟩
def ren1Dec (F : Tm) (h : Hp) : Option (D × Nat) := match F, h with
  | ⟨56, [(0, .sl false [.int .i64, .sl [.int .u8]] d none), (2, .sc false (.slice none 0 0)), (3, .sc false (.int .i64 0)), (4, .sc false (.int .i64 0))], []⟩, ⟨[], 0, [], 0, 1000, 1000⟩ => some (d, 0)
  | _, _ => none
def ren1T (x : D × Nat) : RT Out := need false (decide (x.2 ≤ x.1.len)) 210
  (.br (okFrom (optOk x.1) (x.1.len - x.2) x.2) (.ok (.normal, ren1F x.1 0 x.1.len, ren1H)) (.ok (.ret, ren1F x.1 80 (badFrom (optOk x.1) (x.1.len - x.2) x.2), ren1H)))
def ren2Dec (F : Tm) (h : Hp) : Option (D × Nat) := match F, h with
  | ⟨56, [(0, .sl false [.int .i64, .sl [.int .u8]] d none), (2, .sc false (.slice none 0 0)), (3, .sc false (.int .i64 0)), (5, .sl false [.int .u8] (.l []) (some (0, 2000))), (6, .sc false (.int .i64 0))], []⟩, ⟨[], 0, [(0, 2000, 5)], 1, 2001, 2000⟩ => some (d, 0)
  | _, _ => none
def ren2T (x : D × Nat) : RT Out := need false (decide (x.2 ≤ x.1.len ∧ x.1.len ≤ 64 ∧ okFrom (optOk x.1) x.1.len 0 = true)) 210 (.ok (.normal, ren2F x.1 x.1.len, ren2H))
def renLs (P : Program) : List (FuncId × Nat × BSpec) := [(81, 0, loopS P ren1L ren1Dec ren1T), (81, 2, loopS P ren2L ren2Dec ren2T)]
-- END
-- STOPS: okFrom badFrom encP optOk
theorem ren1_loop : LamE Tryz.prog 81 0 (loopS Tryz.prog ren1L ren1Dec ren1T) := by
  refine loop_in2 (gs := []) (ls := []) mixed trivial trivial _ 0 100 (by kernel_rfl) ren1L (mkF := fun x => ren1F x.1 0 x.2) (mkH := fun _ => ren1H) (fun x => x.1.len - x.2) ?_ ?_
  · intro F h x hx
    unfold ren1Dec at hx
    split at hx
    · cases hx; exact ⟨rfl, rfl⟩
    · cases hx
  · rintro ⟨d, i⟩ K H
    obtain ⟨hc, H⟩ := need_holds H
    have hi : i ≤ d.len := of_decide_eq_true hc
    have hm := d.len_le
    show (roundT ren1L (evC _ _ _ _ _ _ (ren1F d 0 i) ren1H)).holds _
    unfold ren1L ren1F ren1H
    rw [ren1_body]
    simp only [Int.toNat_natCast]
    by_cases hlt : i < d.len
    · cases hp : optOk d i
      · have hret : K (.ret, ren1F d 80 i, ren1H) := by
          have := H.2 (okFrom_false (Nat.le_refl _) (show i < i + (d.len - i) by omega) hp)
          dsimp only at this
          rwa [show d.len - i = (d.len - i - 1) + 1 by omega, badFrom_here hp] at this
        have hp' := of_decide_eq_false hp
        unfold optT optB at hp'
        repeat' refine And.intro (fun _ => ?_) (fun _ => ?_)
        all_goals first | exact hret | (exfalso; clear H hret; simp only [decide_eq_true_eq, decide_eq_false_iff_not, Bool.not_eq_true', Bool.not_eq_false'] at *; omega)
      · have hnext : ∃ x' : D × Nat, (ren1F d 0 (i + 1) = ren1F x'.1 0 x'.2 ∧ ren1H = ren1H) ∧ x'.1.len - x'.2 < d.len - i ∧ (ren1T x').holds K := by
          refine ⟨(d, i + 1), ⟨rfl, rfl⟩, by show d.len - (i + 1) < d.len - i; omega, ?_⟩
          refine ⟨fun _ => ?_, fun hf => absurd (show i + 1 ≤ d.len by omega) (of_decide_eq_false hf)⟩
          have e : d.len - i = (d.len - (i + 1)) + 1 := by omega
          have e1 : okFrom (optOk d) (d.len - i) i = okFrom (optOk d) (d.len - (i + 1)) (i + 1) := by rw [e]; simp only [okFrom, hp, Bool.true_and]
          have e2 : badFrom (optOk d) (d.len - i) i = badFrom (optOk d) (d.len - (i + 1)) (i + 1) := by rw [e, badFrom_cons hp]
          dsimp only at H
          rw [e1, e2] at H
          exact H
        have hp' := of_decide_eq_true hp
        unfold optT optB at hp'
        repeat' refine And.intro (fun _ => ?_) (fun _ => ?_)
        all_goals first | (rw [wrap_succ hlt hm]; exact hnext) | (exfalso; clear H hnext; simp only [decide_eq_true_eq, decide_eq_false_iff_not, Bool.not_eq_true', Bool.not_eq_false'] at *; omega)
    · have : i = d.len := by omega
      subst this
      refine ⟨fun h1 => ?_, fun h1 => H.1 (by rw [Nat.sub_self]; rfl)⟩
      have := of_decide_eq_true h1
      omega
theorem ren2_loop : LamE Tryz.prog 81 2 (loopS Tryz.prog ren2L ren2Dec ren2T) := by
  refine loop_in2 (gs := []) (ls := []) mixed trivial trivial _ 2 100 (by kernel_rfl) ren2L (mkF := fun x => ren2F x.1 x.2) (mkH := fun _ => ren2H) (fun x => x.1.len - x.2) ?_ ?_
  · intro F h x hx
    unfold ren2Dec at hx
    split at hx
    · cases hx; exact ⟨rfl, rfl⟩
    · cases hx
  · rintro ⟨d, i⟩ K H
    obtain ⟨hc, H⟩ := need_holds H
    obtain ⟨hi, h64, hall⟩ : i ≤ d.len ∧ d.len ≤ 64 ∧ okFrom (optOk d) d.len 0 = true := of_decide_eq_true hc
    have hm := d.len_le
    have hok : okFrom (optOk d) i 0 = true := okFrom_iff.2 fun j h1 h2 => okFrom_iff.1 hall j h1 (by omega)
    have hel := enc_len (by omega) hok
    show (roundT ren2L (evC _ _ _ _ _ _ (ren2F d i) ren2H)).holds _
    unfold ren2L ren2F ren2H
    rw [ren2_body]
    simp only [Int.toNat_natCast]
    by_cases hlt : i < d.len
    · have hp := okFrom_iff.1 hall i (by omega) (by omega)
      have hnext : ∃ x' : D × Nat, (ren2F d (i + 1) = ren2F x'.1 x'.2 ∧ ren2H = ren2H) ∧ x'.1.len - x'.2 < d.len - i ∧ (ren2T x').holds K :=
        ⟨(d, i + 1), ⟨rfl, rfl⟩, by show d.len - (i + 1) < d.len - i; omega, fun _ => H, fun hf => absurd ⟨show i + 1 ≤ d.len by omega, h64, hall⟩ (of_decide_eq_false hf)⟩
      have hp' := of_decide_eq_true hp
      unfold optT optB at hp'
      have hap : ((encP d i).app (headD d i)).len = (encP d i).len + 2 := by rw [app_len (by rw [head_len]; unfold maxLen; omega), head_len]
      unfold headD optT optB at hap
      repeat' refine And.intro (fun _ => ?_) (fun _ => ?_)
      all_goals first | (rw [wrap_succ hlt hm]; exact hnext) | (exfalso; clear H hnext; simp only [decide_eq_true_eq, decide_eq_false_iff_not, Bool.not_eq_true', Bool.not_eq_false'] at *; omega)
    · have : i = d.len := by omega
      subst this
      refine ⟨fun h1 => ?_, fun h1 => H⟩
      have := of_decide_eq_true h1
      omega
theorem renLs_ok : LamL Tryz.prog (renLs Tryz.prog) := ⟨ren1_loop, ren2_loop, trivial⟩
theorem ren_tree (d : D) : treeF (evF Tryz.prog (gam ([])) (lam (renLs Tryz.prog)) 100 81) [asl opS d] =
    RT.br (decide (64 < (↑(D.len d) : Int)))
      (RT.ok (AV.tup [AV.sc true (Value.slice none 0 0), AV.sc true (Value.int IntKind.i64 3)]))
      (RT.br true
        (RT.br (okFrom (optOk d) (D.len d - 0) 0)
          (RT.br (decide (0 ≤ D.len d ∧ D.len d ≤ 64 ∧ okFrom (optOk d) (D.len d) 0 = true))
            (RT.br (decide (1488 < (↑(D.len (encP d (D.len d))) : Int)))
              (RT.ok (AV.tup [AV.sc true (Value.slice none 0 0), AV.sc true (Value.int IntKind.i64 2)]))
              (RT.ok
                (AV.tup [AV.sl false [Sh.int IntKind.u8] (encP d (D.len d)) none, AV.sc true (Value.int IntKind.i64 0)])))
            (RT.bad 210))
          (RT.ok (AV.tup [AV.sc false (Value.slice none 0 0), AV.sc false (Value.int IntKind.i64 80)])))
        (RT.bad 210)) := by kernel_rfl
theorem rencode_soundF : SoundF Tryz.prog 81 (pureS Tryz.prog 81 FEnc) := by
  refine pure_in (gs := []) (ls := renLs Tryz.prog) mixed trivial renLs_ok 81 100 fun args K ho H => ?_
  unfold FEnc at H
  split at H
  · rename_i d
    rw [ren_tree]
    refine ⟨fun h1 => ?_, fun h1 => ⟨fun _ => ⟨fun h3 => ⟨fun h2 => ⟨fun h4 => ?_, fun h4 => ?_⟩, fun h2 => ?_⟩, fun h3 => ?_⟩, fun h2 => ?_⟩⟩
    · exact ⟨_, le_enc (encE_many (by have := of_decide_eq_true h1; omega)) (by decide), H⟩
    · have h1 := of_decide_eq_false h1
      exact ⟨_, le_enc (encE_long (by omega) h3 (by have := of_decide_eq_true h4; omega)) (by decide), H⟩
    · have h1 := of_decide_eq_false h1
      exact ⟨_, le_encok (encE_ok (by omega) h3 (by have := of_decide_eq_false h4; omega)), H⟩
    · have h1 := of_decide_eq_false h1
      have h2 := of_decide_eq_false h2
      exact absurd ⟨Nat.zero_le _, by omega, h3⟩ h2
    · have h1 := of_decide_eq_false h1
      exact ⟨_, le_enc (encE_bad (by omega) h3) (by decide), H⟩
    · cases h2
  · exact H.elim
end
end Go.Proofs.YtcambhbmobepjaaGreat

namespace Go.Proofs.YtcambhbmobepjaaGreat
set_option linter.unusedSimpArgs false
set_option linter.unusedVariables false
open Go.RowKit
set_option maxRecDepth 100000
noncomputable section

-- DEFS
def oneE (a b : D) (i : Nat) : Bool := ((a.get i).cell 0).toI == ((b.get i).cell 0).toI && (((a.get i).cell 1).str.toList == ((b.get i).cell 1).str.toList)
def sameO (a b : D) : Bool := decide (a.len = b.len) && okFrom (oneE a b) a.len 0
def rsaL : Lw := ⟨[0, 1, 4, 5], [], 0, 0, 1000, 1000⟩
def rsaF (a b : D) (i : Nat) : Tm := ⟨27, [(0, asl opS a), (1, asl opS b), (4, ab false), (5, ai i)], []⟩
def eqfL : Lw := ⟨[1, 2, 6, 15, 16, 17], [], 0, 0, 1000, 1000⟩
abbrev smeF : AV := .fn (.func 124) [] []
def eqfF (a b : D) (n : Int) (i : Nat) : Tm := ⟨32, [(1, asl opS b), (2, smeF), (6, ab false), (15, asl opS a), (16, ai n), (17, ai i)], []⟩
-- END
-- STOPS: okFrom badFrom encP optOk oneE
theorem rsa_body (a b : D) (i : Int) : roundT (⟨[0, 1, 4, 5], [], 0, 0, 1000, 1000⟩) (evC Tryz.prog (gam ([])) (lam ([])) 100 84 (loopAt 0 (bodyOf Tryz.prog 84)) (⟨27, [(0, asl opS a), (1, asl opS b), (4, ab false), (5, ai i)], []⟩) (⟨[], 0, [], 0, 1000, 1000⟩)) =
    RT.br (decide (i < (↑(D.len a) : Int)))
      (RT.br (decide (0 ≤ i ∧ i < (↑(D.len a) : Int)))
        (RT.br (decide (0 ≤ i ∧ i < (↑(D.len b) : Int)))
          (RT.br (D.toI (D.cell (D.get a (Int.toNat i)) 0) == D.toI (D.cell (D.get b (Int.toNat i)) 0))
            (RT.br
              (!ByteArray.toList (D.str (D.cell (D.get a (Int.toNat i)) (0 + 1))) ==
                  ByteArray.toList (D.str (D.cell (D.get b (Int.toNat i)) (0 + 1))))
              (RT.ok
                (Ex.ret,
                  { nt := 27,
                    tm :=
                      [(0, AV.sl false [Sh.int IntKind.i64, Sh.sl [Sh.int IntKind.u8]] a none),
                        (1, AV.sl false [Sh.int IntKind.i64, Sh.sl [Sh.int IntKind.u8]] b none),
                        (4, AV.sc false (Value.bool false)), (5, AV.sc false (Value.int IntKind.i64 i))],
                    df := [] },
                  { ob := [], nx := 0, gn := [], nv := 0, ng := 1000, ep := 1000 }))
              (RT.ok
                (Ex.normal,
                  { nt := 27,
                    tm :=
                      [(0, AV.sl false [Sh.int IntKind.i64, Sh.sl [Sh.int IntKind.u8]] a none),
                        (1, AV.sl false [Sh.int IntKind.i64, Sh.sl [Sh.int IntKind.u8]] b none),
                        (4, AV.sc false (Value.bool false)),
                        (5, AV.sc false (Value.int IntKind.i64 (IntKind.wrap IntKind.i64 (i + 1))))],
                    df := [] },
                  { ob := [], nx := 0, gn := [], nv := 0, ng := 1000, ep := 1000 })))
            (RT.ok
              (Ex.ret,
                { nt := 27,
                  tm :=
                    [(0, AV.sl false [Sh.int IntKind.i64, Sh.sl [Sh.int IntKind.u8]] a none),
                      (1, AV.sl false [Sh.int IntKind.i64, Sh.sl [Sh.int IntKind.u8]] b none),
                      (4, AV.sc false (Value.bool false)), (5, AV.sc false (Value.int IntKind.i64 i))],
                  df := [] },
                { ob := [], nx := 0, gn := [], nv := 0, ng := 1000, ep := 1000 })))
          (RT.bad 42))
        (RT.bad 42))
      (RT.ok
        (Ex.exit 0,
          { nt := 27,
            tm :=
              [(0, AV.sl false [Sh.int IntKind.i64, Sh.sl [Sh.int IntKind.u8]] a none),
                (1, AV.sl false [Sh.int IntKind.i64, Sh.sl [Sh.int IntKind.u8]] b none),
                (4, AV.sc false (Value.bool false)), (5, AV.sc false (Value.int IntKind.i64 i))],
            df := [] },
          { ob := [], nx := 0, gn := [], nv := 0, ng := 1000, ep := 1000 })) := by kernel_rfl
theorem eqf_body (a b : D) (n i : Int) : roundT (⟨[1, 2, 6, 15, 16, 17], [], 0, 0, 1000, 1000⟩) (evC Tryz.prog (gam ([])) (lam ([])) 100 123 (loopAt 0 (bodyOf Tryz.prog 123)) (⟨32, [(1, asl opS b), (2, smeF), (6, ab false), (15, asl opS a), (16, ai n), (17, ai i)], []⟩) (⟨[], 0, [], 0, 1000, 1000⟩)) =
    RT.br (decide (i < n))
      (RT.br (decide (0 ≤ i ∧ i < (↑(D.len a) : Int)))
        (RT.br (decide (0 ≤ i ∧ i < (↑(D.len b) : Int)))
          (RT.br (D.toI (D.cell (D.get a (Int.toNat i)) 0) == D.toI (D.cell (D.get b (Int.toNat i)) 0))
            (RT.br
              (!ByteArray.toList (D.str (D.cell (D.get a (Int.toNat i)) (0 + 1))) ==
                  ByteArray.toList (D.str (D.cell (D.get b (Int.toNat i)) (0 + 1))))
              (RT.ok
                (Ex.ret,
                  { nt := 32,
                    tm :=
                      [(1, AV.sl false [Sh.int IntKind.i64, Sh.sl [Sh.int IntKind.u8]] b none),
                        (2, AV.fn (Fn.func 124) [] []), (6, AV.sc false (Value.bool false)),
                        (15, AV.sl false [Sh.int IntKind.i64, Sh.sl [Sh.int IntKind.u8]] a none),
                        (16, AV.sc false (Value.int IntKind.i64 n)), (17, AV.sc false (Value.int IntKind.i64 i))],
                    df := [] },
                  { ob := [], nx := 0, gn := [], nv := 0, ng := 1000, ep := 1000 }))
              (RT.ok
                (Ex.normal,
                  { nt := 32,
                    tm :=
                      [(1, AV.sl false [Sh.int IntKind.i64, Sh.sl [Sh.int IntKind.u8]] b none),
                        (2, AV.fn (Fn.func 124) [] []), (6, AV.sc false (Value.bool false)),
                        (15, AV.sl false [Sh.int IntKind.i64, Sh.sl [Sh.int IntKind.u8]] a none),
                        (16, AV.sc false (Value.int IntKind.i64 n)),
                        (17, AV.sc false (Value.int IntKind.i64 (IntKind.wrap IntKind.i64 (i + 1))))],
                    df := [] },
                  { ob := [], nx := 0, gn := [], nv := 0, ng := 1000, ep := 1000 })))
            (RT.ok
              (Ex.ret,
                { nt := 32,
                  tm :=
                    [(1, AV.sl false [Sh.int IntKind.i64, Sh.sl [Sh.int IntKind.u8]] b none),
                      (2, AV.fn (Fn.func 124) [] []), (6, AV.sc false (Value.bool false)),
                      (15, AV.sl false [Sh.int IntKind.i64, Sh.sl [Sh.int IntKind.u8]] a none),
                      (16, AV.sc false (Value.int IntKind.i64 n)), (17, AV.sc false (Value.int IntKind.i64 i))],
                  df := [] },
                { ob := [], nx := 0, gn := [], nv := 0, ng := 1000, ep := 1000 })))
          (RT.bad 42))
        (RT.bad 42))
      (RT.ok
        (Ex.exit 0,
          { nt := 32,
            tm :=
              [(1, AV.sl false [Sh.int IntKind.i64, Sh.sl [Sh.int IntKind.u8]] b none), (2, AV.fn (Fn.func 124) [] []),
                (6, AV.sc false (Value.bool false)),
                (15, AV.sl false [Sh.int IntKind.i64, Sh.sl [Sh.int IntKind.u8]] a none),
                (16, AV.sc false (Value.int IntKind.i64 n)), (17, AV.sc false (Value.int IntKind.i64 i))],
            df := [] },
          { ob := [], nx := 0, gn := [], nv := 0, ng := 1000, ep := 1000 })) := by kernel_rfl
-- DEFS
def rsaDec (F : Tm) (h : Hp) : Option (D × D × Nat) := match F, h with
  | ⟨27, [(0, .sl false [.int .i64, .sl [.int .u8]] a none), (1, .sl false [.int .i64, .sl [.int .u8]] b none), (4, .sc false (.bool false)), (5, .sc false (.int .i64 0))], []⟩, ⟨[], 0, [], 0, 1000, 1000⟩ => some (a, b, 0)
  | _, _ => none
def rsaT (x : D × D × Nat) : RT Out := need false (decide (x.1.len = x.2.1.len ∧ x.2.2 ≤ x.1.len)) 210
  (.br (okFrom (oneE x.1 x.2.1) (x.1.len - x.2.2) x.2.2) (.ok (.normal, rsaF x.1 x.2.1 x.1.len, ren1H)) (.ok (.ret, rsaF x.1 x.2.1 (badFrom (oneE x.1 x.2.1) (x.1.len - x.2.2) x.2.2), ren1H)))
def rsaLs (P : Program) : List (FuncId × Nat × BSpec) := [(84, 0, loopS P rsaL rsaDec rsaT)]
def eqfDec (F : Tm) (h : Hp) : Option (D × D × Int × Nat) := match F, h with
  | ⟨32, [(1, .sl false [.int .i64, .sl [.int .u8]] b none), (2, .fn (.func 124) [] []), (6, .sc false (.bool false)), (15, .sl false [.int .i64, .sl [.int .u8]] a none), (16, .sc false (.int .i64 n)), (17, .sc false (.int .i64 0))], []⟩, ⟨[], 0, [], 0, 1000, 1000⟩ => some (a, b, n, 0)
  | _, _ => none
def eqfT (x : D × D × Int × Nat) : RT Out := need false (decide (x.2.2.1 = (x.1.len : Int) ∧ x.1.len = x.2.1.len ∧ x.2.2.2 ≤ x.1.len)) 210
  (.br (okFrom (oneE x.1 x.2.1) (x.1.len - x.2.2.2) x.2.2.2) (.ok (.normal, eqfF x.1 x.2.1 x.2.2.1 x.1.len, ren1H)) (.ok (.ret, eqfF x.1 x.2.1 x.2.2.1 (badFrom (oneE x.1 x.2.1) (x.1.len - x.2.2.2) x.2.2.2), ren1H)))
def eqfLs (P : Program) : List (FuncId × Nat × BSpec) := [(123, 0, loopS P eqfL eqfDec eqfT)]
-- END
theorem rsa_loop : LamE Tryz.prog 84 0 (loopS Tryz.prog rsaL rsaDec rsaT) := by
  refine loop_in2 (gs := []) (ls := []) mixed trivial trivial _ 0 100 (by kernel_rfl) rsaL (mkF := fun x => rsaF x.1 x.2.1 x.2.2) (mkH := fun _ => ren1H) (fun x => x.1.len - x.2.2) ?_ ?_
  · intro F h x hx
    unfold rsaDec at hx
    split at hx
    · cases hx; exact ⟨rfl, rfl⟩
    · cases hx
  · rintro ⟨a, b, i⟩ K H
    obtain ⟨hc, H⟩ := need_holds H
    obtain ⟨hab, hi⟩ : a.len = b.len ∧ i ≤ a.len := of_decide_eq_true hc
    have hm := a.len_le
    show (roundT rsaL (evC _ _ _ _ _ _ (rsaF a b i) ren1H)).holds _
    unfold rsaL rsaF ren1H
    rw [rsa_body]
    simp only [Int.toNat_natCast]
    by_cases hlt : i < a.len
    · cases hp : oneE a b i
      · have hret : K (.ret, rsaF a b i, ren1H) := by
          have := H.2 (okFrom_false (Nat.le_refl _) (show i < i + (a.len - i) by omega) hp)
          dsimp only at this
          rwa [show a.len - i = (a.len - i - 1) + 1 by omega, badFrom_here hp] at this
        unfold oneE at hp
        repeat' refine And.intro (fun _ => ?_) (fun _ => ?_)
        all_goals first | exact hret | (exfalso; clear H hret; simp only [decide_eq_true_eq, decide_eq_false_iff_not, Bool.not_eq_true', Bool.not_eq_false'] at *; omega) | (exfalso; clear H hret; simp_all)
      · have hnext : ∃ x' : D × D × Nat, (rsaF a b (i + 1) = rsaF x'.1 x'.2.1 x'.2.2 ∧ ren1H = ren1H) ∧ x'.1.len - x'.2.2 < a.len - i ∧ (rsaT x').holds K := by
          refine ⟨(a, b, i + 1), ⟨rfl, rfl⟩, by show a.len - (i + 1) < a.len - i; omega, ?_⟩
          refine ⟨fun _ => ?_, fun hf => absurd (show a.len = b.len ∧ i + 1 ≤ a.len from ⟨hab, by omega⟩) (of_decide_eq_false hf)⟩
          have e : a.len - i = (a.len - (i + 1)) + 1 := by omega
          have e1 : okFrom (oneE a b) (a.len - i) i = okFrom (oneE a b) (a.len - (i + 1)) (i + 1) := by rw [e]; simp only [okFrom, hp, Bool.true_and]
          have e2 : badFrom (oneE a b) (a.len - i) i = badFrom (oneE a b) (a.len - (i + 1)) (i + 1) := by rw [e, badFrom_cons hp]
          dsimp only at H
          rw [e1, e2] at H
          exact H
        unfold oneE at hp
        repeat' refine And.intro (fun _ => ?_) (fun _ => ?_)
        all_goals first | (rw [wrap_succ hlt hm]; exact hnext) | (exfalso; clear H hnext; simp only [decide_eq_true_eq, decide_eq_false_iff_not, Bool.not_eq_true', Bool.not_eq_false'] at *; omega) | (exfalso; clear H hnext; simp_all)
    · have : i = a.len := by omega
      subst this
      refine ⟨fun h1 => ?_, fun h1 => H.1 (by rw [Nat.sub_self]; rfl)⟩
      have := of_decide_eq_true h1
      omega
theorem rsaLs_ok : LamL Tryz.prog (rsaLs Tryz.prog) := ⟨rsa_loop, trivial⟩
theorem eqf_loop : LamE Tryz.prog 123 0 (loopS Tryz.prog eqfL eqfDec eqfT) := by
  refine loop_in2 (gs := []) (ls := []) mixed trivial trivial _ 0 100 (by kernel_rfl) eqfL (mkF := fun x => eqfF x.1 x.2.1 x.2.2.1 x.2.2.2) (mkH := fun _ => ren1H) (fun x => x.1.len - x.2.2.2) ?_ ?_
  · intro F h x hx
    unfold eqfDec at hx
    split at hx
    · cases hx; exact ⟨rfl, rfl⟩
    · cases hx
  · rintro ⟨a, b, n, i⟩ K H
    obtain ⟨hc, H⟩ := need_holds H
    obtain ⟨rfl, hab, hi⟩ : n = (a.len : Int) ∧ a.len = b.len ∧ i ≤ a.len := of_decide_eq_true hc
    have hm := a.len_le
    show (roundT eqfL (evC _ _ _ _ _ _ (eqfF a b a.len i) ren1H)).holds _
    unfold eqfL eqfF ren1H
    rw [eqf_body]
    simp only [Int.toNat_natCast]
    by_cases hlt : i < a.len
    · cases hp : oneE a b i
      · have hret : K (.ret, eqfF a b a.len i, ren1H) := by
          have := H.2 (okFrom_false (Nat.le_refl _) (show i < i + (a.len - i) by omega) hp)
          dsimp only at this
          rwa [show a.len - i = (a.len - i - 1) + 1 by omega, badFrom_here hp] at this
        unfold oneE at hp
        repeat' refine And.intro (fun _ => ?_) (fun _ => ?_)
        all_goals first | exact hret | (exfalso; clear H hret; simp only [decide_eq_true_eq, decide_eq_false_iff_not, Bool.not_eq_true', Bool.not_eq_false'] at *; omega) | (exfalso; clear H hret; simp_all)
      · have hnext : ∃ x' : D × D × Int × Nat, (eqfF a b a.len (i + 1) = eqfF x'.1 x'.2.1 x'.2.2.1 x'.2.2.2 ∧ ren1H = ren1H) ∧ x'.1.len - x'.2.2.2 < a.len - i ∧ (eqfT x').holds K := by
          refine ⟨(a, b, a.len, i + 1), ⟨rfl, rfl⟩, by show a.len - (i + 1) < a.len - i; omega, ?_⟩
          refine ⟨fun _ => ?_, fun hf => absurd (show (a.len : Int) = a.len ∧ a.len = b.len ∧ i + 1 ≤ a.len from ⟨rfl, hab, by omega⟩) (of_decide_eq_false hf)⟩
          have e : a.len - i = (a.len - (i + 1)) + 1 := by omega
          have e1 : okFrom (oneE a b) (a.len - i) i = okFrom (oneE a b) (a.len - (i + 1)) (i + 1) := by rw [e]; simp only [okFrom, hp, Bool.true_and]
          have e2 : badFrom (oneE a b) (a.len - i) i = badFrom (oneE a b) (a.len - (i + 1)) (i + 1) := by rw [e, badFrom_cons hp]
          dsimp only at H
          rw [e1, e2] at H
          exact H
        unfold oneE at hp
        repeat' refine And.intro (fun _ => ?_) (fun _ => ?_)
        all_goals first | (rw [wrap_succ hlt hm]; exact hnext) | (exfalso; clear H hnext; simp only [decide_eq_true_eq, decide_eq_false_iff_not, Bool.not_eq_true', Bool.not_eq_false'] at *; omega) | (exfalso; clear H hnext; simp_all)
    · have : i = a.len := by omega
      subst this
      refine ⟨fun h1 => ?_, fun h1 => H.1 (by rw [Nat.sub_self]; rfl)⟩
      have := of_decide_eq_true h1
      omega
theorem eqfLs_ok : LamL Tryz.prog (eqfLs Tryz.prog) := ⟨eqf_loop, trivial⟩
theorem rsa_tree (a b : D) : treeF (evF Tryz.prog (gam ([])) (lam (rsaLs Tryz.prog)) 100 84) [asl opS a, asl opS b] =
    RT.br ((↑(D.len a) : Int) != (↑(D.len b) : Int)) (RT.ok (AV.sc true (Value.bool false)))
      (RT.br (decide (D.len a = D.len b ∧ 0 ≤ D.len a))
        (RT.br (okFrom (oneE a b) (D.len a - 0) 0) (RT.ok (AV.sc true (Value.bool true)))
          (RT.ok (AV.sc false (Value.bool false))))
        (RT.bad 210)) := by kernel_rfl
theorem osa_tree (a b : D) : treeF (evF Tryz.prog (gam ([])) (lam (eqfLs Tryz.prog)) 100 87) [asl opS a, asl opS b] =
    RT.br ((↑(D.len a) : Int) != (↑(D.len b) : Int)) (RT.ok (AV.sc true (Value.bool false)))
      (RT.br (decide ((↑(D.len a) : Int) = (↑(D.len a) : Int) ∧ D.len a = D.len b ∧ 0 ≤ D.len a))
        (RT.br (okFrom (oneE a b) (D.len a - 0) 0) (RT.ok (AV.sc true (Value.bool true)))
          (RT.ok (AV.sc false (Value.bool false))))
        (RT.bad 210)) := by kernel_rfl
def FSameO : List AV → RT AV
  | [.sl false [.int .i64, .sl [.int .u8]] a none, .sl false [.int .i64, .sl [.int .u8]] b none] => .ok (ab (sameO a b))
  | _ => .bad 205
end
end Go.Proofs.YtcambhbmobepjaaGreat

namespace Go.Proofs.YtcambhbmobepjaaGreat
set_option linter.unusedSimpArgs false
set_option linter.unusedVariables false
open Go.RowKit
set_option maxRecDepth 100000
noncomputable section

theorem rsame_soundF : SoundF Tryz.prog 84 (pureS Tryz.prog 84 FSameO) := by
  refine pure_in (gs := []) (ls := rsaLs Tryz.prog) mixed trivial rsaLs_ok 84 100 fun args K ho H => ?_
  unfold FSameO at H
  split at H
  · rename_i a b
    rw [rsa_tree]
    refine ⟨fun h1 => ⟨_, le_bool ?_, H⟩, fun h1 => ⟨fun h2 => ⟨fun h3 => ⟨_, le_bool ?_, H⟩, fun h3 => ⟨_, le_bool ?_, H⟩⟩, fun h2 => ?_⟩⟩
    · have : a.len ≠ b.len := by intro e; simp [e] at h1
      simp [sameO, this]
    · have := (of_decide_eq_true h2).1
      unfold sameO; rw [decide_eq_true this, show okFrom (oneE a b) a.len 0 = true from h3]; rfl
    · have := (of_decide_eq_true h2).1
      unfold sameO; rw [decide_eq_true this, show okFrom (oneE a b) a.len 0 = false from h3]; rfl
    · have : a.len = b.len := by simp at h1; omega
      exact absurd ⟨this, Nat.zero_le _⟩ (of_decide_eq_false h2)
  · exact H.elim
theorem osame_soundF : SoundF Tryz.prog 87 (pureS Tryz.prog 87 FSameO) := by
  refine pure_in (gs := []) (ls := eqfLs Tryz.prog) mixed trivial eqfLs_ok 87 100 fun args K ho H => ?_
  unfold FSameO at H
  split at H
  · rename_i a b
    rw [osa_tree]
    refine ⟨fun h1 => ⟨_, le_bool ?_, H⟩, fun h1 => ⟨fun h2 => ⟨fun h3 => ⟨_, le_bool ?_, H⟩, fun h3 => ⟨_, le_bool ?_, H⟩⟩, fun h2 => ?_⟩⟩
    · have : a.len ≠ b.len := by intro e; simp [e] at h1
      simp [sameO, this]
    · have := (of_decide_eq_true h2).2.1
      unfold sameO; rw [decide_eq_true this, show okFrom (oneE a b) a.len 0 = true from h3]; rfl
    · have := (of_decide_eq_true h2).2.1
      unfold sameO; rw [decide_eq_true this, show okFrom (oneE a b) a.len 0 = false from h3]; rfl
    · have : a.len = b.len := by simp at h1; omega
      exact absurd ⟨rfl, this, Nat.zero_le _⟩ (of_decide_eq_false h2)
  · exact H.elim
-- DEFS
abbrev autA (st id rq : Int) (d : D) (ct tm nk : Int) : AV := .agg [ai st, ai id, ai rq, asl opS d, ai ct, ai tm, ai nk]
abbrev lcpA (st id rq : Int) (d : D) (ct tm nk mg pr mu pe ne : Int) : AV := .agg [ai st, ai id, ai rq, asl opS d, ai ct, ai tm, ai nk, ai mg, ai pr, ai mu, ai pe, ai ne]
def sameG (P : Program) : List (FuncId × Spec) := [(87, pureS P 87 FSameO), (84, pureS P 84 FSameO)]
-- END
-- STOPS: sameO
theorem sameG_ok : GamL Tryz.prog (sameG Tryz.prog) := ⟨osame_soundF, rsame_soundF, trivial⟩
theorem lsa_tree (st id rq : Int) (d : D) (ct tm nk mg pr mu pe ne : Int) (st' id' rq' : Int) (d' : D) (ct' tm' nk' mg' pr' mu' pe' ne' : Int) : treeF (evF Tryz.prog (gam (sameG Tryz.prog)) (lam ([])) 100 20) [lcpA st id rq d ct tm nk mg pr mu pe ne, lcpA st' id' rq' d' ct' tm' nk' mg' pr' mu' pe' ne'] =
    RT.br (st == st')
      (RT.br (id == id')
        (RT.br (rq == rq')
          (RT.br (ct == ct')
            (RT.br (tm == tm')
              (RT.br (nk == nk')
                (RT.br (sameO d d')
                  (RT.br (mg == mg')
                    (RT.br (pr == pr')
                      (RT.br (mu == mu')
                        (RT.br (pe == pe') (RT.ok (AV.sc false (Value.bool (ne == ne'))))
                          (RT.ok (AV.sc true (Value.bool false))))
                        (RT.ok (AV.sc true (Value.bool false))))
                      (RT.ok (AV.sc true (Value.bool false))))
                    (RT.ok (AV.sc true (Value.bool false))))
                  (RT.ok (AV.sc true (Value.bool false))))
                (RT.ok (AV.sc true (Value.bool false))))
              (RT.ok (AV.sc true (Value.bool false))))
            (RT.ok (AV.sc true (Value.bool false))))
          (RT.ok (AV.sc true (Value.bool false))))
        (RT.ok (AV.sc true (Value.bool false))))
      (RT.ok (AV.sc true (Value.bool false))) := by kernel_rfl
theorem rlsa_tree (st id rq : Int) (d : D) (ct tm nk mg pr mu pe ne : Int) (st' id' rq' : Int) (d' : D) (ct' tm' nk' mg' pr' mu' pe' ne' : Int) : treeF (evF Tryz.prog (gam (sameG Tryz.prog)) (lam ([])) 100 16) [lcpA st id rq d ct tm nk mg pr mu pe ne, lcpA st' id' rq' d' ct' tm' nk' mg' pr' mu' pe' ne'] =
    RT.br (st == st')
      (RT.br (id == id')
        (RT.br (rq == rq')
          (RT.br (ct == ct')
            (RT.br (tm == tm')
              (RT.br (nk == nk')
                (RT.br (sameO d d')
                  (RT.br (mg == mg')
                    (RT.br (pr == pr')
                      (RT.br (mu == mu')
                        (RT.br (pe == pe') (RT.ok (AV.sc false (Value.bool (ne == ne'))))
                          (RT.ok (AV.sc true (Value.bool false))))
                        (RT.ok (AV.sc true (Value.bool false))))
                      (RT.ok (AV.sc true (Value.bool false))))
                    (RT.ok (AV.sc true (Value.bool false))))
                  (RT.ok (AV.sc true (Value.bool false))))
                (RT.ok (AV.sc true (Value.bool false))))
              (RT.ok (AV.sc true (Value.bool false))))
            (RT.ok (AV.sc true (Value.bool false))))
          (RT.ok (AV.sc true (Value.bool false))))
        (RT.ok (AV.sc true (Value.bool false))))
      (RT.ok (AV.sc true (Value.bool false))) := by kernel_rfl
theorem nxt_tree (st id rq : Int) (d : D) (ct tm nk mg pr mu pe ne : Int) : treeF (evF Tryz.prog (gam ([])) (lam ([])) 100 18) [lcpA st id rq d ct tm nk mg pr mu pe ne] =
    RT.br (tm == 0) (RT.ok (AV.sc false (Value.int IntKind.i64 (imax tm ne))))
      (RT.br (ne == 0) (RT.ok (AV.sc false (Value.int IntKind.i64 (imax tm ne))))
        (RT.ok (AV.sc false (Value.int IntKind.i64 (imin tm ne))))) := by kernel_rfl
theorem rnxt_tree (st id rq : Int) (d : D) (ct tm nk mg pr mu pe ne : Int) : treeF (evF Tryz.prog (gam ([])) (lam ([])) 100 19) [lcpA st id rq d ct tm nk mg pr mu pe ne] =
    RT.br (tm != 0)
      (RT.br (ne != 0) (RT.ok (AV.sc false (Value.int IntKind.i64 (imin tm ne))))
        (RT.ok (AV.sc false (Value.int IntKind.i64 (imax tm ne)))))
      (RT.ok (AV.sc false (Value.int IntKind.i64 (imax tm ne)))) := by kernel_rfl
def sameL (st id rq : Int) (d : D) (ct tm nk mg pr mu pe ne : Int) (st' id' rq' : Int) (d' : D) (ct' tm' nk' mg' pr' mu' pe' ne' : Int) : Bool :=
  st == st' && (id == id' && (rq == rq' && (ct == ct' && (tm == tm' && (nk == nk' && (sameO d d' && (mg == mg' && (pr == pr' && (mu == mu' && (pe == pe' && ne == ne'))))))))))
def FSameL : List AV → RT AV
  | [.agg [.sc false (.int .i64 st), .sc false (.int .i64 id), .sc false (.int .i64 rq), .sl false [.int .i64, .sl [.int .u8]] d none, .sc false (.int .i64 ct), .sc false (.int .i64 tm), .sc false (.int .i64 nk), .sc false (.int .i64 mg), .sc false (.int .i64 pr), .sc false (.int .i64 mu), .sc false (.int .i64 pe), .sc false (.int .i64 ne)],
     .agg [.sc false (.int .i64 st'), .sc false (.int .i64 id'), .sc false (.int .i64 rq'), .sl false [.int .i64, .sl [.int .u8]] d' none, .sc false (.int .i64 ct'), .sc false (.int .i64 tm'), .sc false (.int .i64 nk'), .sc false (.int .i64 mg'), .sc false (.int .i64 pr'), .sc false (.int .i64 mu'), .sc false (.int .i64 pe'), .sc false (.int .i64 ne')]] =>
      .ok (ab (sameL st id rq d ct tm nk mg pr mu pe ne st' id' rq' d' ct' tm' nk' mg' pr' mu' pe' ne'))
  | _ => .bad 206
theorem lsame_soundF : SoundF Tryz.prog 20 (pureS Tryz.prog 20 FSameL) := by
  refine pure_in (gs := sameG Tryz.prog) (ls := []) mixed sameG_ok trivial 20 100 fun args K ho H => ?_
  unfold FSameL at H
  split at H
  · rw [lsa_tree]
    simp only [RT.holds]
    repeat' refine And.intro (fun _ => ?_) (fun _ => ?_)
    all_goals exact ⟨_, le_bool (by simp_all only [sameL, Bool.true_and, Bool.false_and]), H⟩
  · exact H.elim
theorem rlsame_soundF : SoundF Tryz.prog 16 (pureS Tryz.prog 16 FSameL) := by
  refine pure_in (gs := sameG Tryz.prog) (ls := []) mixed sameG_ok trivial 16 100 fun args K ho H => ?_
  unfold FSameL at H
  split at H
  · rw [rlsa_tree]
    simp only [RT.holds]
    repeat' refine And.intro (fun _ => ?_) (fun _ => ?_)
    all_goals exact ⟨_, le_bool (by simp_all only [sameL, Bool.true_and, Bool.false_and]), H⟩
  · exact H.elim
def nextI (tm ne : Int) : Int := if tm = 0 ∨ ne = 0 then imax tm ne else imin tm ne
def FNextL : List AV → RT AV
  | [.agg [.sc false (.int .i64 st), .sc false (.int .i64 id), .sc false (.int .i64 rq), .sl false [.int .i64, .sl [.int .u8]] d none, .sc false (.int .i64 ct), .sc false (.int .i64 tm), .sc false (.int .i64 nk), .sc false (.int .i64 mg), .sc false (.int .i64 pr), .sc false (.int .i64 mu), .sc false (.int .i64 pe), .sc false (.int .i64 ne)]] => .ok (ai (nextI tm ne))
  | _ => .bad 206
theorem lnext_soundF : SoundF Tryz.prog 18 (pureS Tryz.prog 18 FNextL) := by
  refine pure_in (gs := []) (ls := []) mixed trivial trivial 18 100 fun args K ho H => ?_
  unfold FNextL at H
  split at H
  · rw [nxt_tree]
    simp only [RT.holds]
    repeat' refine And.intro (fun _ => ?_) (fun _ => ?_)
    all_goals exact ⟨_, le_int (by simp_all [nextI]), H⟩
  · exact H.elim
theorem rlnext_soundF : SoundF Tryz.prog 19 (pureS Tryz.prog 19 FNextL) := by
  refine pure_in (gs := []) (ls := []) mixed trivial trivial 19 100 fun args K ho H => ?_
  unfold FNextL at H
  split at H
  · rw [rnxt_tree]
    simp only [RT.holds]
    repeat' refine And.intro (fun _ => ?_) (fun _ => ?_)
    all_goals exact ⟨_, le_int (by simp_all [nextI]), H⟩
  · exact H.elim
end
end Go.Proofs.YtcambhbmobepjaaGreat

namespace Go.Proofs.YtcambhbmobepjaaGreat
set_option linter.unusedSimpArgs false
set_option linter.unusedVariables false
open Go.RowKit
set_option maxRecDepth 100000
noncomputable section

-- DEFS
abbrev cfgA (a b c d e f g : Int) : AV := .agg [ai a, ai b, ai c, ai d, ai e, ai f, ai g]
abbrev rlS : List Sh := [.int .i64, .int .i64, .int .i64, .int .i64, .int .i64, .int .i64, .bool]
abbrev rulD (m g : Int) : D := .l [.t [.ki 1, .ki 2, .ki 2, .ki 128, .ki 1492, .ki 1492, .kb false], .t [.ki 5, .ki 4, .ki 4, .i m, .ki 0, .i g, .kb false]]
-- END
theorem lau_tree (a b c d e f g m : Int) : treeF (evF Tryz.prog (gam ([])) (lam ([])) 100 12) [cfgA a b c d e f g, ai m] =
    RT.br
      (IntKind.wrap IntKind.i64
          (↑(BitVec.toNat (BitVec.ofInt (IntKind.bits IntKind.i64) m ^^^ BitVec.ofInt (IntKind.bits IntKind.i64) 1)) :
            Int) ==
        0)
      (RT.ok
        (AV.agg
          [AV.sl true
              [Sh.int IntKind.i64, Sh.int IntKind.i64, Sh.int IntKind.i64, Sh.int IntKind.i64, Sh.int IntKind.i64,
                Sh.int IntKind.i64, Sh.bool]
              (D.l
                [D.t [D.ki 1, D.ki 2, D.ki 2, D.ki 128, D.ki 1492, D.ki 1492, D.kb false],
                  D.t [D.ki 5, D.ki 4, D.ki 4, D.i m, D.ki 0, D.ki 2, D.kb false]])
              none,
            AV.sc false (Value.int IntKind.i64 b), AV.sc false (Value.int IntKind.i64 c),
            AV.sc false (Value.int IntKind.i64 d), AV.sc false (Value.int IntKind.i64 e)]))
      (RT.ok
        (AV.agg
          [AV.sl true
              [Sh.int IntKind.i64, Sh.int IntKind.i64, Sh.int IntKind.i64, Sh.int IntKind.i64, Sh.int IntKind.i64,
                Sh.int IntKind.i64, Sh.bool]
              (D.l
                [D.t [D.ki 1, D.ki 2, D.ki 2, D.ki 128, D.ki 1492, D.ki 1492, D.kb false],
                  D.t
                    [D.ki 5, D.ki 4, D.ki 4, D.i m, D.ki 0,
                      D.i
                        (IntKind.wrap IntKind.i64
                          (↑(BitVec.toNat
                                (BitVec.ofInt (IntKind.bits IntKind.i64) m ^^^ BitVec.ofInt (IntKind.bits IntKind.i64) 1)) :
                            Int)),
                      D.kb false]])
              none,
            AV.sc false (Value.int IntKind.i64 b), AV.sc false (Value.int IntKind.i64 c),
            AV.sc false (Value.int IntKind.i64 d), AV.sc false (Value.int IntKind.i64 e)])) := by kernel_rfl
theorem rlau_tree (a b c d e f g m : Int) : treeF (evF Tryz.prog (gam ([])) (lam ([])) 100 13) [cfgA a b c d e f g, ai m] =
    RT.br true
      (RT.br (Int.tmod m 2 != 0)
        (RT.br (IntKind.wrap IntKind.i64 (m - 1) == 0)
          (RT.ok
            (AV.agg
              [AV.sl true
                  [Sh.int IntKind.i64, Sh.int IntKind.i64, Sh.int IntKind.i64, Sh.int IntKind.i64, Sh.int IntKind.i64,
                    Sh.int IntKind.i64, Sh.bool]
                  (D.l
                    [D.t [D.ki 1, D.ki 2, D.ki 2, D.ki 128, D.ki 1492, D.ki 1492, D.kb false],
                      D.t [D.ki 5, D.ki 4, D.ki 4, D.i m, D.ki 0, D.ki 2, D.kb false]])
                  none,
                AV.sc false (Value.int IntKind.i64 b), AV.sc false (Value.int IntKind.i64 c),
                AV.sc false (Value.int IntKind.i64 d), AV.sc false (Value.int IntKind.i64 e)]))
          (RT.ok
            (AV.agg
              [AV.sl true
                  [Sh.int IntKind.i64, Sh.int IntKind.i64, Sh.int IntKind.i64, Sh.int IntKind.i64, Sh.int IntKind.i64,
                    Sh.int IntKind.i64, Sh.bool]
                  (D.l
                    [D.t [D.ki 1, D.ki 2, D.ki 2, D.ki 128, D.ki 1492, D.ki 1492, D.kb false],
                      D.t [D.ki 5, D.ki 4, D.ki 4, D.i m, D.ki 0, D.i (IntKind.wrap IntKind.i64 (m - 1)), D.kb false]])
                  none,
                AV.sc false (Value.int IntKind.i64 b), AV.sc false (Value.int IntKind.i64 c),
                AV.sc false (Value.int IntKind.i64 d), AV.sc false (Value.int IntKind.i64 e)])))
        (RT.br (IntKind.wrap IntKind.i64 (m + 1) == 0)
          (RT.ok
            (AV.agg
              [AV.sl true
                  [Sh.int IntKind.i64, Sh.int IntKind.i64, Sh.int IntKind.i64, Sh.int IntKind.i64, Sh.int IntKind.i64,
                    Sh.int IntKind.i64, Sh.bool]
                  (D.l
                    [D.t [D.ki 1, D.ki 2, D.ki 2, D.ki 128, D.ki 1492, D.ki 1492, D.kb false],
                      D.t [D.ki 5, D.ki 4, D.ki 4, D.i m, D.ki 0, D.ki 2, D.kb false]])
                  none,
                AV.sc false (Value.int IntKind.i64 b), AV.sc false (Value.int IntKind.i64 c),
                AV.sc false (Value.int IntKind.i64 d), AV.sc false (Value.int IntKind.i64 e)]))
          (RT.ok
            (AV.agg
              [AV.sl true
                  [Sh.int IntKind.i64, Sh.int IntKind.i64, Sh.int IntKind.i64, Sh.int IntKind.i64, Sh.int IntKind.i64,
                    Sh.int IntKind.i64, Sh.bool]
                  (D.l
                    [D.t [D.ki 1, D.ki 2, D.ki 2, D.ki 128, D.ki 1492, D.ki 1492, D.kb false],
                      D.t [D.ki 5, D.ki 4, D.ki 4, D.i m, D.ki 0, D.i (IntKind.wrap IntKind.i64 (m + 1)), D.kb false]])
                  none,
                AV.sc false (Value.int IntKind.i64 b), AV.sc false (Value.int IntKind.i64 c),
                AV.sc false (Value.int IntKind.i64 d), AV.sc false (Value.int IntKind.i64 e)]))))
      (RT.bad 21) := by kernel_rfl
theorem chk_tree (m g : Int) : treeF (evF Tryz.prog (gam ([])) (lam ([])) 100 118) [.sl true rlS (rulD m g) none] =
    RT.br (decide (m < 0)) (RT.ok (AV.sc true (Value.int IntKind.i64 150)))
      (RT.br (decide (4294967296 ≤ m)) (RT.ok (AV.sc true (Value.int IntKind.i64 150)))
        (RT.br (decide (g < 0)) (RT.ok (AV.sc true (Value.int IntKind.i64 150)))
          (RT.br (decide (4294967296 ≤ g)) (RT.ok (AV.sc true (Value.int IntKind.i64 150)))
            (RT.br (!g != m) (RT.ok (AV.sc true (Value.int IntKind.i64 150)))
              (RT.ok (AV.sc true (Value.int IntKind.i64 0))))))) := by kernel_rfl
theorem are_tree (m g : Int) : treeF (evF Tryz.prog (gam ([])) (lam ([])) 100 85) [.sl true rlS (rulD m g) none] =
    RT.br (decide (0 ≤ m))
      (RT.br (decide (m < 4294967296))
        (RT.br (decide (0 ≤ g))
          (RT.br (decide (g < 4294967296))
            (RT.br (!g != m) (RT.ok (AV.sc true (Value.bool false))) (RT.ok (AV.sc true (Value.bool true))))
            (RT.ok (AV.sc true (Value.bool false))))
          (RT.ok (AV.sc true (Value.bool false))))
        (RT.ok (AV.sc true (Value.bool false))))
      (RT.ok (AV.sc true (Value.bool false))) := by kernel_rfl
end
end Go.Proofs.YtcambhbmobepjaaGreat

namespace Go.Proofs.YtcambhbmobepjaaGreat
set_option linter.unusedSimpArgs false
set_option linter.unusedVariables false
open Go.RowKit
set_option maxRecDepth 100000
noncomputable section

-- DEFS
/-- nothing wrong, or what is -/
def errIf (b : Bool) (n : Int) : Int := if b then 0 else n
def rulesB (m g : Int) : Bool := decide (0 ≤ m ∧ m < 4294967296 ∧ 0 ≤ g ∧ g < 4294967296 ∧ g ≠ m)
def rlOf (d : D) : Option (D × D) := match d.raw with
  | [.t [.ki 1, .ki 2, .ki 2, .ki 128, .ki 1492, .ki 1492, .kb false], .t [.ki 5, .ki 4, .ki 4, m, .ki 0, g, .kb false]] => some (m, g)
  | _ => none
def FChk : List AV → RT AV
  | [.sl false [.int .i64, .int .i64, .int .i64, .int .i64, .int .i64, .int .i64, .bool] d none] => match rlOf d with
    | some (m, g) => .ok (ai (errIf (rulesB m.toI g.toI) 150))
    | none => .bad 207
  | _ => .bad 207
def FAre : List AV → RT AV
  | [.sl false [.int .i64, .int .i64, .int .i64, .int .i64, .int .i64, .int .i64, .bool] d none] => match rlOf d with
    | some (m, g) => .ok (ab (rulesB m.toI g.toI))
    | none => .bad 207
  | _ => .bad 207
def setB (m g b c d e : Int) : Bool := rulesB m g && (inB b 1 1000 && (inB c 1 1000 && (inB d 0 1000 && inB e 1 1048576)))
def FSet : List AV → RT AV
  | [.agg [.sl false [.int .i64, .int .i64, .int .i64, .int .i64, .int .i64, .int .i64, .bool] r none, .sc false (.int .i64 b), .sc false (.int .i64 c), .sc false (.int .i64 d), .sc false (.int .i64 e)]] => match rlOf r with
    | some (m, g) => .ok (ab (setB m.toI g.toI b c d e))
    | none => .bad 207
  | _ => .bad 207
def timB (st tm : Int) : Bool := if 4 ≤ st ∧ st ≤ 8 then inB tm 1 1099512676352 else decide (tm = 0)
def soundB (st id rq : Int) (d : D) (ct tm nk : Int) : Bool := inB st 0 9 && (inB id 0 255 && (inB rq 0 255 && (inB ct 0 1000 && (inB nk 0 1000 && (decide (encE d = 0) && timB st tm)))))
def FSound : List AV → RT AV
  | [.agg [.sc false (.int .i64 st), .sc false (.int .i64 id), .sc false (.int .i64 rq), .sl false [.int .i64, .sl [.int .u8]] d none, .sc false (.int .i64 ct), .sc false (.int .i64 tm), .sc false (.int .i64 nk)]] => .ok (ab (soundB st id rq d ct tm nk))
  | _ => .bad 207
def encG (P : Program) : List (FuncId × Spec) := [(78, pureS P 78 FEnc), (81, pureS P 81 FEnc)]
def chkG (P : Program) : List (FuncId × Spec) := [(118, pureS P 118 FChk), (85, pureS P 85 FAre)]
-- END
-- STOPS: encE encO rulesB errIf
theorem le_raw {kn kn' : Bool} {es : List Sh} {d e : D} {tip : Option (Nat × Nat)} (h : d.raw = e.raw) : Le (.sl kn es d tip) (.sl kn' es e none) := by
  have h1 : d.toL = e.toL := by unfold D.toL; rw [h]
  exact le_sl (by unfold D.len; rw [h1]) fun i _ => by unfold D.get; rw [h1]; exact eqEl_refl _ _ _
theorem rlOf_le {d m g : D} (h : rlOf d = some (m, g)) {kn kn' : Bool} : Le (.sl kn rlS d none) (.sl kn' rlS (rulD m.toI g.toI) none) := by
  unfold rlOf at h
  split at h
  · rename_i m' g' hd
    cases h
    have h1 : Le (.sl kn rlS d none) (.sl false rlS (.l [.t [.ki 1, .ki 2, .ki 2, .ki 128, .ki 1492, .ki 1492, .kb false], .t [.ki 5, .ki 4, .ki 4, m, .ki 0, g, .kb false]]) none) := le_raw hd
    have ll : ∀ x y : D, (D.l [x, y]).toL = [x, y] := fun x y => toL_l (by simp; unfold maxLen; omega)
    have h2 : Le (.sl false rlS (.l [.t [.ki 1, .ki 2, .ki 2, .ki 128, .ki 1492, .ki 1492, .kb false], .t [.ki 5, .ki 4, .ki 4, m, .ki 0, g, .kb false]]) none) (.sl kn' rlS (rulD m.toI g.toI) none) := by
      refine le_sl (by unfold D.len rulD; rw [ll, ll]; rfl) fun i hi => ?_
      unfold D.len at hi
      rw [ll] at hi
      unfold D.get rulD
      rw [ll, ll]
      match i, hi with
      | 0, _ => exact ⟨rfl, rfl, rfl, rfl, rfl, rfl, rfl, trivial⟩
      | 1, _ => exact ⟨rfl, rfl, rfl, rfl, rfl, rfl, rfl, trivial⟩
    exact fun E v hv => h2 E v (h1 E v hv)
  · cases h
theorem chk_soundF : SoundF Tryz.prog 118 (pureS Tryz.prog 118 FChk) := by
  refine pure_by (gs := []) (ls := []) mixed trivial trivial 118 100 fun args K ho H => ?_
  unfold FChk at H
  split at H
  · rename_i d
    split at H
    · rename_i m g hr
      refine ⟨_, leL_cons (rlOf_le (kn' := true) hr) leL_nil, ?_⟩
      generalize m.toI = m at H ⊢
      generalize g.toI = g at H ⊢
      rw [chk_tree]
      simp only [RT.holds]
      repeat' refine And.intro (fun _ => ?_) (fun _ => ?_)
      all_goals exact ⟨_, le_int (by simp_all [rulesB, errIf] <;> omega), H⟩
    · exact H.elim
  · exact H.elim
theorem are_soundF : SoundF Tryz.prog 85 (pureS Tryz.prog 85 FAre) := by
  refine pure_by (gs := []) (ls := []) mixed trivial trivial 85 100 fun args K ho H => ?_
  unfold FAre at H
  split at H
  · rename_i d
    split at H
    · rename_i m g hr
      refine ⟨_, leL_cons (rlOf_le (kn' := true) hr) leL_nil, ?_⟩
      generalize m.toI = m at H ⊢
      generalize g.toI = g at H ⊢
      rw [are_tree]
      simp only [RT.holds]
      repeat' refine And.intro (fun _ => ?_) (fun _ => ?_)
      all_goals exact ⟨_, le_bool (by simp_all [rulesB] <;> omega), H⟩
    · exact H.elim
  · exact H.elim
theorem chkG_ok : GamL Tryz.prog (chkG Tryz.prog) := ⟨chk_soundF, are_soundF, trivial⟩
theorem encG_ok : GamL Tryz.prog (encG Tryz.prog) := ⟨encode_soundF, rencode_soundF, trivial⟩
theorem set_tree (m g b c d e : Int) : treeF (evF Tryz.prog (gam (chkG Tryz.prog)) (lam ([])) 100 82) [.agg [.sl true rlS (rulD m g) none, ai b, ai c, ai d, ai e]] =
    RT.br (errIf (rulesB m g) 150 == 0)
      (RT.br (decide (1 ≤ b))
        (RT.br (decide (b ≤ 1000))
          (RT.br (decide (1 ≤ c))
            (RT.br (decide (c ≤ 1000))
              (RT.br (decide (0 ≤ d))
                (RT.br (decide (d ≤ 1000))
                  (RT.br (decide (1 ≤ e)) (RT.ok (AV.sc false (Value.bool (decide (e ≤ 1048576)))))
                    (RT.ok (AV.sc true (Value.bool false))))
                  (RT.ok (AV.sc true (Value.bool false))))
                (RT.ok (AV.sc true (Value.bool false))))
              (RT.ok (AV.sc true (Value.bool false))))
            (RT.ok (AV.sc true (Value.bool false))))
          (RT.ok (AV.sc true (Value.bool false))))
        (RT.ok (AV.sc true (Value.bool false))))
      (RT.ok (AV.sc true (Value.bool false))) := by kernel_rfl
theorem rset_tree (m g b c d e : Int) : treeF (evF Tryz.prog (gam (chkG Tryz.prog)) (lam ([])) 100 47) [.agg [.sl true rlS (rulD m g) none, ai b, ai c, ai d, ai e]] =
    RT.br (rulesB m g)
      (RT.br (decide (1 ≤ b))
        (RT.br (decide (b ≤ 1000))
          (RT.br (decide (1 ≤ c))
            (RT.br (decide (c ≤ 1000))
              (RT.br (decide (0 ≤ d))
                (RT.br (decide (d ≤ 1000))
                  (RT.br (decide (1 ≤ e)) (RT.ok (AV.sc false (Value.bool (decide (e ≤ 1048576)))))
                    (RT.ok (AV.sc true (Value.bool false))))
                  (RT.ok (AV.sc true (Value.bool false))))
                (RT.ok (AV.sc true (Value.bool false))))
              (RT.ok (AV.sc true (Value.bool false))))
            (RT.ok (AV.sc true (Value.bool false))))
          (RT.ok (AV.sc true (Value.bool false))))
        (RT.ok (AV.sc true (Value.bool false))))
      (RT.ok (AV.sc true (Value.bool false))) := by kernel_rfl
theorem sou_tree (st id rq : Int) (d : D) (ct tm nk : Int) : treeF (evF Tryz.prog (gam (encG Tryz.prog)) (lam ([])) 100 83) [autA st id rq d ct tm nk] =
    RT.br (decide (0 ≤ st))
      (RT.br (!decide (st ≤ 9)) (RT.ok (AV.sc true (Value.bool false)))
        (RT.br (decide (0 ≤ id))
          (RT.br (!decide (id ≤ 255)) (RT.ok (AV.sc true (Value.bool false)))
            (RT.br (decide (0 ≤ rq))
              (RT.br (!decide (rq ≤ 255)) (RT.ok (AV.sc true (Value.bool false)))
                (RT.br (decide (0 ≤ ct))
                  (RT.br (!decide (ct ≤ 1000)) (RT.ok (AV.sc true (Value.bool false)))
                    (RT.br (decide (0 ≤ nk))
                      (RT.br (!decide (nk ≤ 1000)) (RT.ok (AV.sc true (Value.bool false)))
                        (RT.br (encE d != 0) (RT.ok (AV.sc true (Value.bool false)))
                          (RT.br (decide (6 ≤ st))
                            (RT.br (decide (st ≤ 8))
                              (RT.br (decide (1 ≤ tm)) (RT.ok (AV.sc false (Value.bool (decide (tm ≤ 1099512676352)))))
                                (RT.ok (AV.sc true (Value.bool false))))
                              (RT.br (st == 4)
                                (RT.br (decide (1 ≤ tm)) (RT.ok (AV.sc false (Value.bool (decide (tm ≤ 1099512676352)))))
                                  (RT.ok (AV.sc true (Value.bool false))))
                                (RT.br (st == 5)
                                  (RT.br (decide (1 ≤ tm)) (RT.ok (AV.sc false (Value.bool (decide (tm ≤ 1099512676352)))))
                                    (RT.ok (AV.sc true (Value.bool false))))
                                  (RT.ok (AV.sc false (Value.bool (tm == 0)))))))
                            (RT.br (st == 4)
                              (RT.br (decide (1 ≤ tm)) (RT.ok (AV.sc false (Value.bool (decide (tm ≤ 1099512676352)))))
                                (RT.ok (AV.sc true (Value.bool false))))
                              (RT.br (st == 5)
                                (RT.br (decide (1 ≤ tm)) (RT.ok (AV.sc false (Value.bool (decide (tm ≤ 1099512676352)))))
                                  (RT.ok (AV.sc true (Value.bool false))))
                                (RT.ok (AV.sc false (Value.bool (tm == 0)))))))))
                      (RT.ok (AV.sc true (Value.bool false)))))
                  (RT.ok (AV.sc true (Value.bool false)))))
              (RT.ok (AV.sc true (Value.bool false)))))
          (RT.ok (AV.sc true (Value.bool false)))))
      (RT.ok (AV.sc true (Value.bool false))) := by kernel_rfl
theorem rsou_tree (st id rq : Int) (d : D) (ct tm nk : Int) : treeF (evF Tryz.prog (gam (encG Tryz.prog)) (lam ([])) 100 48) [autA st id rq d ct tm nk] =
    RT.br (decide (st < 0)) (RT.ok (AV.sc true (Value.bool false)))
      (RT.br (decide (9 < st)) (RT.ok (AV.sc true (Value.bool false)))
        (RT.br (decide (id < 0)) (RT.ok (AV.sc true (Value.bool false)))
          (RT.br (decide (255 < id)) (RT.ok (AV.sc true (Value.bool false)))
            (RT.br (decide (rq < 0)) (RT.ok (AV.sc true (Value.bool false)))
              (RT.br (decide (255 < rq)) (RT.ok (AV.sc true (Value.bool false)))
                (RT.br (decide (ct < 0)) (RT.ok (AV.sc true (Value.bool false)))
                  (RT.br (decide (1000 < ct)) (RT.ok (AV.sc true (Value.bool false)))
                    (RT.br (decide (nk < 0)) (RT.ok (AV.sc true (Value.bool false)))
                      (RT.br (decide (1000 < nk)) (RT.ok (AV.sc true (Value.bool false)))
                        (RT.br (encE d != 0) (RT.ok (AV.sc true (Value.bool false)))
                          (RT.br (decide (4 ≤ st))
                            (RT.br (!decide (st ≤ 8)) (RT.ok (AV.sc false (Value.bool (tm == 0))))
                              (RT.br (decide (1 ≤ tm)) (RT.ok (AV.sc false (Value.bool (decide (tm ≤ 1099512676352)))))
                                (RT.ok (AV.sc true (Value.bool false)))))
                            (RT.ok (AV.sc false (Value.bool (tm == 0))))))))))))))) := by kernel_rfl
theorem errIf_zero {b : Bool} {n : Int} (hn : n ≠ 0) : (errIf b n == 0) = b := by cases b <;> simp [errIf, hn]
theorem errIf_nz {b : Bool} {n : Int} (hn : n ≠ 0) : (errIf b n != 0) = !b := by cases b <;> simp [errIf, hn]
theorem le_one {x y : AV} (h : Le x y) : ∀ E vs, RelL E [x] vs → RelL E [y] vs := leL_cons h leL_nil
theorem set_soundF : SoundF Tryz.prog 82 (pureS Tryz.prog 82 FSet) := by
  refine pure_by (gs := chkG Tryz.prog) (ls := []) mixed chkG_ok trivial 82 100 fun args K ho H => ?_
  unfold FSet at H
  split at H
  · split at H
    · rename_i m g hr
      refine ⟨_, le_one (le_agg (leL_cons (rlOf_le (kn' := true) hr) fun _ _ h => h)), ?_⟩
      generalize m.toI = m at H ⊢
      generalize g.toI = g at H ⊢
      rw [set_tree, errIf_zero (by decide)]
      simp only [RT.holds]
      repeat' refine And.intro (fun _ => ?_) (fun _ => ?_)
      all_goals exact ⟨_, le_bool (by simp_all [setB, inB] <;> omega), H⟩
    · exact H.elim
  · exact H.elim
theorem rset_soundF : SoundF Tryz.prog 47 (pureS Tryz.prog 47 FSet) := by
  refine pure_by (gs := chkG Tryz.prog) (ls := []) mixed chkG_ok trivial 47 100 fun args K ho H => ?_
  unfold FSet at H
  split at H
  · split at H
    · rename_i m g hr
      refine ⟨_, le_one (le_agg (leL_cons (rlOf_le (kn' := true) hr) fun _ _ h => h)), ?_⟩
      generalize m.toI = m at H ⊢
      generalize g.toI = g at H ⊢
      rw [rset_tree]
      simp only [RT.holds]
      repeat' refine And.intro (fun _ => ?_) (fun _ => ?_)
      all_goals exact ⟨_, le_bool (by simp_all [setB, inB] <;> omega), H⟩
    · exact H.elim
  · exact H.elim
theorem timB_iff (st tm : Int) : timB st tm = true ↔ ((4 ≤ st ∧ st ≤ 8) ∧ 1 ≤ tm ∧ tm ≤ 1099512676352) ∨ (¬ (4 ≤ st ∧ st ≤ 8) ∧ tm = 0) := by
  unfold timB
  split
  · rename_i h; simp only [inB, decide_eq_true_eq]; omega
  · rename_i h; simp only [decide_eq_true_eq]; omega
theorem soundB_iff (st id rq : Int) (d : D) (ct tm nk en : Int) (he : encE d = en) : soundB st id rq d ct tm nk = true ↔ (0 ≤ st ∧ st ≤ 9) ∧ (0 ≤ id ∧ id ≤ 255) ∧ (0 ≤ rq ∧ rq ≤ 255) ∧ (0 ≤ ct ∧ ct ≤ 1000) ∧ (0 ≤ nk ∧ nk ≤ 1000) ∧ en = 0 ∧ (((4 ≤ st ∧ st ≤ 8) ∧ 1 ≤ tm ∧ tm ≤ 1099512676352) ∨ (¬ (4 ≤ st ∧ st ≤ 8) ∧ tm = 0)) := by
  simp only [soundB, inB, Bool.and_eq_true, decide_eq_true_eq, timB_iff, he]
theorem sou_soundF : SoundF Tryz.prog 83 (pureS Tryz.prog 83 FSound) := by
  refine pure_in (gs := encG Tryz.prog) (ls := []) mixed encG_ok trivial 83 100 fun args K ho H => ?_
  unfold FSound at H
  split at H
  · rename_i st id rq d ct tm nk
    rw [sou_tree]
    clear ho
    have hs := soundB_iff st id rq d ct tm nk _ rfl
    generalize encE d = en at hs ⊢
    generalize soundB st id rq d ct tm nk = sb at H hs
    simp only [RT.holds]
    repeat' refine And.intro (fun _ => ?_) (fun _ => ?_)
    all_goals refine ⟨_, le_bool ?_, H⟩
    all_goals clear H
    all_goals rw [Bool.eq_iff_iff, hs]
    all_goals clear hs
    all_goals simp only [decide_eq_true_eq, decide_eq_false_iff_not, Bool.not_eq_true', Bool.not_eq_false', bne_iff_ne, ne_eq, beq_iff_eq, Bool.not_eq_true, bne_eq_false_iff_eq, beq_eq_false_iff_ne, Bool.false_eq_true, false_iff] at *
    all_goals omega
  · exact H.elim
theorem rsou_soundF : SoundF Tryz.prog 48 (pureS Tryz.prog 48 FSound) := by
  refine pure_in (gs := encG Tryz.prog) (ls := []) mixed encG_ok trivial 48 100 fun args K ho H => ?_
  unfold FSound at H
  split at H
  · rename_i st id rq d ct tm nk
    rw [rsou_tree]
    clear ho
    have hs := soundB_iff st id rq d ct tm nk _ rfl
    generalize encE d = en at hs ⊢
    generalize soundB st id rq d ct tm nk = sb at H hs
    simp only [RT.holds]
    repeat' refine And.intro (fun _ => ?_) (fun _ => ?_)
    all_goals refine ⟨_, le_bool ?_, H⟩
    all_goals clear H
    all_goals rw [Bool.eq_iff_iff, hs]
    all_goals clear hs
    all_goals simp only [decide_eq_true_eq, decide_eq_false_iff_not, Bool.not_eq_true', Bool.not_eq_false', bne_iff_ne, ne_eq, beq_iff_eq, Bool.not_eq_true, bne_eq_false_iff_eq, beq_eq_false_iff_ne, Bool.false_eq_true, false_iff] at *
    all_goals omega
  · exact H.elim
end
end Go.Proofs.YtcambhbmobepjaaGreat

namespace Go.Proofs.YtcambhbmobepjaaGreat
set_option linter.unusedSimpArgs false
set_option linter.unusedVariables false
open Go.RowKit
set_option maxRecDepth 100000
noncomputable section

-- DEFS
def othX (m : Int) : Int := IntKind.i64.wrap ((BitVec.ofInt 64 m ^^^ BitVec.ofInt 64 1).toNat : Int)
def othP (m : Int) : Int := if othX m = 0 then 2 else othX m
def othY (m : Int) : Int := if m.tmod 2 = 0 then IntKind.i64.wrap (m + 1) else IntKind.i64.wrap (m - 1)
def othR (m : Int) : Int := if othY m = 0 then 2 else othY m
def FAutP : List AV → RT AV
  | [.agg [.sc false (.int .i64 _), .sc false (.int .i64 b), .sc false (.int .i64 c), .sc false (.int .i64 d), .sc false (.int .i64 e), .sc false (.int .i64 _), .sc false (.int .i64 _)], .sc false (.int .i64 m)] => .ok (.agg [.sl true rlS (rulD m (othP m)) none, ai b, ai c, ai d, ai e])
  | _ => .bad 208
def FAutR : List AV → RT AV
  | [.agg [.sc false (.int .i64 _), .sc false (.int .i64 b), .sc false (.int .i64 c), .sc false (.int .i64 d), .sc false (.int .i64 e), .sc false (.int .i64 _), .sc false (.int .i64 _)], .sc false (.int .i64 m)] => .ok (.agg [.sl true rlS (rulD m (othR m)) none, ai b, ai c, ai d, ai e])
  | _ => .bad 208
def autG (P : Program) : List (FuncId × Spec) := [(35, pureS P 35 FFits), (39, pureS P 39 FFits),
  (82, pureS P 82 FSet), (47, pureS P 47 FSet),
  (83, pureS P 83 FSound), (48, pureS P 48 FSound),
  (12, pureS P 12 FAutP), (13, pureS P 13 FAutR)]
-- END
-- STOPS: setB soundB fitsB othP othR
theorem le_rul {m g' : Int} {g : D} (h : g.toI = g') : Le (.sl true rlS (.l [.t [.ki 1, .ki 2, .ki 2, .ki 128, .ki 1492, .ki 1492, .kb false], .t [.ki 5, .ki 4, .ki 4, .i m, .ki 0, g, .kb false]]) none) (.sl true rlS (rulD m g') none) := by
  subst h; exact @rlOf_le (.l [.t [.ki 1, .ki 2, .ki 2, .ki 128, .ki 1492, .ki 1492, .kb false], .t [.ki 5, .ki 4, .ki 4, .i m, .ki 0, g, .kb false]]) (.i m) g rfl true true
theorem auto_soundF : SoundF Tryz.prog 12 (pureS Tryz.prog 12 FAutP) := by
  refine pure_in (gs := []) (ls := []) mixed trivial trivial 12 100 fun args K ho H => ?_
  unfold FAutP at H
  split at H
  · rename_i m
    rw [lau_tree]
    refine ⟨fun h1 => ⟨_, le_agg (leL_cons (le_rul ?_) fun _ _ h => h), H⟩, fun h1 => ⟨_, le_agg (leL_cons (le_rul ?_) fun _ _ h => h), H⟩⟩
    · have h1 : othX m = 0 := eq_of_beq (a := othX m) (b := 0) h1
      unfold othP; rw [if_pos h1]; rfl
    · have h1 : ¬ othX m = 0 := fun e => by
        have h1' : (othX m == 0) = false := h1
        rw [e] at h1'; cases h1'
      unfold othP; rw [if_neg h1]; rfl
  · exact H.elim
theorem rauto_soundF : SoundF Tryz.prog 13 (pureS Tryz.prog 13 FAutR) := by
  refine pure_in (gs := []) (ls := []) mixed trivial trivial 13 100 fun args K ho H => ?_
  unfold FAutR at H
  split at H
  · rename_i m
    rw [rlau_tree]
    simp only [RT.holds]
    repeat' refine And.intro (fun _ => ?_) (fun _ => ?_)
    all_goals first | (refine ⟨_, le_agg (leL_cons (le_rul ?_) fun _ _ h => h), H⟩; clear H ho; simp_all [othR, othY, D.toI]; done) | contradiction
  · exact H.elim
theorem autG_ok : GamL Tryz.prog (autG Tryz.prog) := ⟨fits_soundF, isconf_soundF, set_soundF, rset_soundF, sou_soundF, rsou_soundF, auto_soundF, rauto_soundF, trivial⟩
theorem lck_tree (a b c e f g h st id rq : Int) (d : D) (ct tm nk mg pr mu pe ne : Int) : treeF (evF Tryz.prog (gam (autG Tryz.prog)) (lam ([])) 100 11) [cfgA a b c e f g h, lcpA st id rq d ct tm nk mg pr mu pe ne] =
    RT.br (!fitsB a b c e f g h) (RT.ok (AV.sc true (Value.int IntKind.i64 170)))
      (RT.br (decide (1 ≤ mg))
        (RT.br (!decide (mg ≤ 4294967295)) (RT.ok (AV.sc true (Value.int IntKind.i64 170)))
          (RT.br (decide (0 ≤ pr))
            (RT.br (!decide (pr ≤ 4294967295)) (RT.ok (AV.sc true (Value.int IntKind.i64 170)))
              (RT.br (decide (128 ≤ mu))
                (RT.br (!decide (mu ≤ 1492)) (RT.ok (AV.sc true (Value.int IntKind.i64 170)))
                  (RT.br (decide (0 ≤ pe))
                    (RT.br (!decide (pe ≤ 1000)) (RT.ok (AV.sc true (Value.int IntKind.i64 170)))
                      (RT.br (st == 9)
                        (RT.br (decide (0 < g))
                          (RT.br (decide (1 ≤ ne))
                            (RT.br (setB mg (othP mg) b c e f)
                              (RT.br (soundB st id rq d ct tm nk)
                                (RT.br (ne != 0)
                                  (RT.br (!decide (ne ≤ 1099512676352)) (RT.ok (AV.sc true (Value.int IntKind.i64 170)))
                                    (RT.ok (AV.sc true (Value.int IntKind.i64 0))))
                                  (RT.ok (AV.sc true (Value.int IntKind.i64 0))))
                                (RT.ok (AV.sc true (Value.int IntKind.i64 170))))
                              (RT.ok (AV.sc true (Value.int IntKind.i64 170))))
                            (RT.br (setB mg (othP mg) b c e f)
                              (RT.br (soundB st id rq d ct tm nk)
                                (RT.br (ne != 0) (RT.ok (AV.sc true (Value.int IntKind.i64 170)))
                                  (RT.ok (AV.sc true (Value.int IntKind.i64 0))))
                                (RT.ok (AV.sc true (Value.int IntKind.i64 170))))
                              (RT.ok (AV.sc true (Value.int IntKind.i64 170)))))
                          (RT.br (setB mg (othP mg) b c e f)
                            (RT.br (soundB st id rq d ct tm nk)
                              (RT.br (ne != 0) (RT.ok (AV.sc true (Value.int IntKind.i64 170)))
                                (RT.ok (AV.sc true (Value.int IntKind.i64 0))))
                              (RT.ok (AV.sc true (Value.int IntKind.i64 170))))
                            (RT.ok (AV.sc true (Value.int IntKind.i64 170)))))
                        (RT.br (setB mg (othP mg) b c e f)
                          (RT.br (soundB st id rq d ct tm nk)
                            (RT.br (ne != 0) (RT.ok (AV.sc true (Value.int IntKind.i64 170)))
                              (RT.ok (AV.sc true (Value.int IntKind.i64 0))))
                            (RT.ok (AV.sc true (Value.int IntKind.i64 170))))
                          (RT.ok (AV.sc true (Value.int IntKind.i64 170))))))
                    (RT.ok (AV.sc true (Value.int IntKind.i64 170)))))
                (RT.ok (AV.sc true (Value.int IntKind.i64 170)))))
            (RT.ok (AV.sc true (Value.int IntKind.i64 170)))))
        (RT.ok (AV.sc true (Value.int IntKind.i64 170)))) := by kernel_rfl
theorem rlis_tree (a b c e f g h st id rq : Int) (d : D) (ct tm nk mg pr mu pe ne : Int) : treeF (evF Tryz.prog (gam (autG Tryz.prog)) (lam ([])) 100 17) [cfgA a b c e f g h, lcpA st id rq d ct tm nk mg pr mu pe ne] =
    RT.br (!fitsB a b c e f g h) (RT.ok (AV.sc true (Value.bool false)))
      (RT.br (decide (1 ≤ mg))
        (RT.br (!decide (mg ≤ 4294967295)) (RT.ok (AV.sc true (Value.bool false)))
          (RT.br (decide (0 ≤ pr))
            (RT.br (!decide (pr ≤ 4294967295)) (RT.ok (AV.sc true (Value.bool false)))
              (RT.br (decide (128 ≤ mu))
                (RT.br (!decide (mu ≤ 1492)) (RT.ok (AV.sc true (Value.bool false)))
                  (RT.br (decide (0 ≤ pe))
                    (RT.br (!decide (pe ≤ 1000)) (RT.ok (AV.sc true (Value.bool false)))
                      (RT.br (!setB mg (othR mg) b c e f) (RT.ok (AV.sc true (Value.bool false)))
                        (RT.br (!soundB st id rq d ct tm nk) (RT.ok (AV.sc true (Value.bool false)))
                          (RT.br (ne == 0) (RT.ok (AV.sc true (Value.bool true)))
                            (RT.br (st == 9)
                              (RT.br (g != 0)
                                (RT.br (decide (1 ≤ ne)) (RT.ok (AV.sc false (Value.bool (decide (ne ≤ 1099512676352)))))
                                  (RT.ok (AV.sc true (Value.bool false))))
                                (RT.ok (AV.sc true (Value.bool false))))
                              (RT.ok (AV.sc true (Value.bool false))))))))
                    (RT.ok (AV.sc true (Value.bool false)))))
                (RT.ok (AV.sc true (Value.bool false)))))
            (RT.ok (AV.sc true (Value.bool false)))))
        (RT.ok (AV.sc true (Value.bool false)))) := by kernel_rfl
/-! The other number. -/
theorem xor_one (n : Nat) : n ^^^ 1 = if n % 2 = 0 then n + 1 else n - 1 := by
  have h1 : (n ^^^ 1) / 2 = n / 2 := by rw [Nat.xor_div_two]; simp
  have h2 : (n ^^^ 1) % 2 = (n + 1) % 2 := by
    have := Nat.xor_mod_two_pow (a := n) (b := 1) (n := 1)
    rw [show 2 ^ 1 = 2 from rfl] at this
    rw [this]
    rcases Nat.mod_two_eq_zero_or_one n with h | h
    · rw [h]; show 1 = _; omega
    · rw [h]; show 0 = _; omega
  split <;> omega
theorem othX_eq {m : Int} (h1 : -1099511627776 < m) (h2 : m < 1099511627776) : othX m = if m % 2 = 0 then m + 1 else m - 1 := by
  unfold othX
  rw [BitVec.toNat_xor]
  have e1 : (BitVec.ofInt 64 1).toNat = 1 := by decide
  have e2 : (BitVec.ofInt 64 m).toNat = (m % 18446744073709551616).toNat := by rw [BitVec.toNat_ofInt]; rfl
  have hk : ((m % 18446744073709551616).toNat : Int) = m % 18446744073709551616 := Int.toNat_of_nonneg (by omega)
  rw [e1, e2, xor_one, IntWalk.i64_left]
  generalize (m % 18446744073709551616).toNat = k at hk ⊢
  unfold wrap64
  split <;> split <;> omega
theorem othY_eq {m : Int} (h1 : -1099511627776 < m) (h2 : m < 1099511627776) : othY m = if m % 2 = 0 then m + 1 else m - 1 := by
  unfold othY
  rw [IntWalk.i64_left, IntWalk.i64_left]
  unfold wrap64
  have : m.tmod 2 = 0 ↔ m % 2 = 0 := by rw [← Int.dvd_iff_tmod_eq_zero, Int.dvd_iff_emod_eq_zero]
  split <;> split <;> omega
theorem oth_same {m : Int} (h1 : -1099511627776 < m) (h2 : m < 1099511627776) : othP m = othR m := by
  unfold othP othR; rw [othX_eq h1 h2, othY_eq h1 h2]
theorem oth_may {m : Int} (h1 : 1 ≤ m) (h2 : m ≤ 4294967295) : rulesB m (othP m) = true ∧ rulesB m (othR m) = true := by
  rw [← oth_same (by omega) (by omega)]
  refine (and_self_iff).2 ?_
  unfold othP rulesB
  rw [othX_eq (by omega) (by omega)]
  apply decide_eq_true
  split <;> split <;> omega
end
end Go.Proofs.YtcambhbmobepjaaGreat
