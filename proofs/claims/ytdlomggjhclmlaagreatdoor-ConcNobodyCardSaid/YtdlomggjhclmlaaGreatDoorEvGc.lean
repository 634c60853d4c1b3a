/- EvGc: a contract's end: what can't be reached is left out, the rest is numbered anew. No condition. -/
import Derived.Test.YtdlomggjhclmlaaGreatDoorEvN
namespace Go.Proofs.YtdlomggjhclmlaaGreatDoor
set_option linter.unusedSimpArgs false
set_option linter.unusedVariables false
open Go.RowKit
set_option maxRecDepth 10000
noncomputable section

def rnT (ks : List Nat) (g0 : Nat) (gn : List (Nat × Nat × TypeId)) : Option (Nat × Nat) → Option (Nat × Nat)
  | some (k, g) => match ix k ks 0, lookG k gn with
    | some j, some (g', _) => bif Nat.beq g g' then some (j, g0 + j) else none
    | _, _ => none
  | none => none
mutual
/-- a value under the new names -/
def rnA (os ks : List Nat) (g0 : Nat) (gn : List (Nat × Nat × TypeId)) : AV → AV
  | .ptr o off => match ix o os 0 with | some i => .ptr i off | none => .any
  | .mp o => match ix o os 0 with | some i => .mp i | none => .any
  | .rsl kn o n len => match ix o os 0 with | some i => .rsl kn i n len | none => .any
  | .rp kn o n i j => match ix o os 0 with | some q => .rp kn q n i j | none => .any
  | .vsl o off n len cap => match ix o os 0 with | some i => .vsl i off n len cap | none => .any
  | .sl kn es d tip => .sl kn es d (rnT ks g0 gn tip)
  | .al n len cs tip => .al n len (rnAL os ks g0 gn cs) (rnT ks g0 gn tip)
  | .ea cs => .ea (rnAL os ks g0 gn cs)
  | .fn f a c => .fn f (rnAL os ks g0 gn a) (rnAL os ks g0 gn c)
  | .agg cs => .agg (rnAL os ks g0 gn cs)
  | .tup vs => .tup (rnAL os ks g0 gn vs)
  | .any => .any
  | .sc kn v => .sc kn v
  | .ep kn es d j => .ep kn es d j
  | .rw es d => .rw es d
def rnAL (os ks : List Nat) (g0 : Nat) (gn : List (Nat × Nat × TypeId)) : List AV → List AV
  | [] => []
  | x :: xs => rnA os ks g0 gn x :: rnAL os ks g0 gn xs
end
def obN (φ : List AV → List AV) (h : Hp) : List Nat → Nat → List (Nat × List AV)
  | [], _ => []
  | o :: r, i => match lookO o h.ob with
    | some cs => (i, φ cs) :: obN φ h r (i + 1)
    | none => obN φ h r (i + 1)
def Hp.rn (h : Hp) (os ks : List Nat) (g0 ep : Nat) : Hp := ⟨obN (rnAL os ks g0 h.gn) h os 0, os.length, gnR g0 h.gn ks 0, ks.length, g0 + ks.length, ep⟩
section
variable {P : Program} {E : Env} {h : Hp} {w w0 : World} {G : Nat → Prop} {os ks : List Nat} {g0 : Nat}
theorem rnAL_len (os ks : List Nat) (g0 : Nat) (gn : List (Nat × Nat × TypeId)) : ∀ xs : List AV, (rnAL os ks g0 gn xs).length = xs.length
  | [] => rfl
  | x :: xs => by simp only [rnAL, List.length_cons, rnAL_len os ks g0 gn xs]
theorem rnT_ok (I : Inv P w0 G E h w) {tip : Option (Nat × Nat)} {v : Value} (H : TipOk E tip v) : TipOk (E.ren os ks g0) (rnT ks g0 h.gn tip) v := by
  unfold rnT
  split
  · rename_i k g
    obtain ⟨hk, hg, hc⟩ := H
    split
    · rename_i j g' e hj hl
      cases hb : Nat.beq g g'
      · exact trivial
      · obtain rfl := Nat.eq_of_beq_eq_true hb
        obtain ⟨_, h2⟩ := ix_some hj
        simp only [Nat.sub_zero] at h2
        have hjl := (List.getElem?_eq_some_iff.1 h2).1
        have hgn := (I.gn k (by rw [← I.m]; exact hk)).symm.trans hl
        injection hgn with hgn
        have hg1 : E.gn k = g := congrArg Prod.fst hgn
        refine ⟨hjl, by show g0 + j < g0 + ks.length; omega, fun _ => ?_⟩
        simp only [Env.ren, List.getD_eq_getElem?_getD, h2, Option.getD_some]
        exact hc hg1
    · exact trivial
  · exact trivial
theorem ix_live {o i : Nat} (hi : ix o os 0 = some i) (hl : E.live o) : (E.ren os ks g0).live i ∧ (E.ren os ks g0).β i = E.β o := by
  obtain ⟨_, h1⟩ := ix_some hi
  simp only [Nat.sub_zero] at h1
  exact ⟨⟨o, h1, hl⟩, by simp only [Env.ren, List.getD_eq_getElem?_getD, h1, Option.getD_some]⟩
mutual
theorem rnA_rel (I : Inv P w0 G E h w) : ∀ (x : AV) (v : Value), Rel E x v → Rel (E.ren os ks g0) (rnA os ks g0 h.gn x) v
  | .any, _, _ => trivial
  | .sc _ _, _, H => H
  | .ep _ _ _ _, _, H => H
  | .rw _ _, _, H => H
  | .sl kn es d tip, v, ⟨h1, h2⟩ => by
    refine ⟨h1, ?_⟩
    have : TipOk E tip v := by cases tip <;> exact h2
    have h3 := rnT_ok (os := os) (ks := ks) (g0 := g0) I this
    cases hr : rnT ks g0 h.gn tip with
    | none => exact trivial
    | some p => obtain ⟨k, g⟩ := p; rw [hr] at h3; exact h3
  | .al n len cs tip, v, ⟨⟨vs, b, o, cap, h1, h2, h3, h4, h5, h6, h7⟩, h9⟩ => ⟨⟨vs, b, o, cap, rnA_relL I cs _ h1, h2, by rw [rnAL_len]; exact h3, h4, h5, h6, h7⟩, rnT_ok I h9⟩
  | .ea cs, v, ⟨vs, b, o, h1, h2⟩ => ⟨vs, b, o, rnA_relL I cs _ h1, h2⟩
  | .rsl kn o n len, v, ⟨hl, ad, cap, g1, g2, g3, g4, g5⟩ => by
    simp only [rnA]
    split
    · rename_i i hi
      obtain ⟨k1, k2⟩ := ix_live (ks := ks) (g0 := g0) hi hl
      exact ⟨k1, ad, cap, g1, g2, g3, g4, fun hn => by rw [k2]; exact g5 hn⟩
    · exact trivial
  | .rp kn o n i j, v, ⟨hl, hv⟩ => by
    simp only [rnA]
    split
    · rename_i i hi
      obtain ⟨k1, k2⟩ := ix_live (ks := ks) (g0 := g0) hi hl
      exact ⟨k1, by rw [k2]; exact hv⟩
    · exact trivial
  | .vsl o off n len cap, v, ⟨hl, g1, g2, hv⟩ => by
    simp only [rnA]
    split
    · rename_i i hi
      obtain ⟨k1, k2⟩ := ix_live (ks := ks) (g0 := g0) hi hl
      exact ⟨k1, g1, g2, by rw [k2]; exact hv⟩
    · exact trivial
  | .ptr o off, v, ⟨hl, hv⟩ => by
    simp only [rnA]
    split
    · rename_i i hi
      obtain ⟨k1, k2⟩ := ix_live (ks := ks) (g0 := g0) hi hl
      exact ⟨k1, by rw [k2]; exact hv⟩
    · exact trivial
  | .mp o, v, ⟨hl, hv⟩ => by
    simp only [rnA]
    split
    · rename_i i hi
      obtain ⟨k1, k2⟩ := ix_live (ks := ks) (g0 := g0) hi hl
      exact ⟨k1, by rw [k2]; exact hv⟩
    · exact trivial
  | .fn f a c, v, ⟨a', c', h1, h2, h3⟩ => ⟨a', c', h1, rnA_relL I a _ h2, rnA_relL I c _ h3⟩
  | .agg cs, v, ⟨cs', h1, h2, h3⟩ => ⟨cs', h1, rnA_relL I cs _ h2, h3⟩
  | .tup vs, v, ⟨vs', h1, h2⟩ => ⟨vs', h1, rnA_relL I vs _ h2⟩
theorem rnA_relL (I : Inv P w0 G E h w) : ∀ (xs : List AV) (vs : List Value), RelL E xs vs → RelL (E.ren os ks g0) (rnAL os ks g0 h.gn xs) vs
  | [], _, H => H
  | x :: xs, _, ⟨v, vs', h1, h2, h3⟩ => ⟨v, vs', h1, rnA_rel I x v h2, rnA_relL I xs vs' h3⟩
end
theorem lookO_obN (φ : List AV → List AV) : ∀ (l : List Nat) (s i : Nat), lookO i (obN φ h l s) = if s ≤ i then (match l[i - s]? with | some o => (lookO o h.ob).map φ | none => none) else none
  | [], s, i => by simp [obN, lookO_nil]
  | o :: l, s, i => by
    unfold obN
    have ih := lookO_obN φ l (s + 1) i
    have tail : s < i → lookO i (obN φ h l (s + 1)) = match (o :: l)[i - s]? with | some o => (lookO o h.ob).map φ | none => none := fun hlt => by
      rw [ih, if_pos (by omega), show i - s = (i - (s + 1)) + 1 by omega, List.getElem?_cons_succ]
    rcases Nat.lt_trichotomy i s with hlt | rfl | hlt
    · rw [if_neg (by omega)]
      have h0 : lookO i (obN φ h l (s + 1)) = none := by rw [ih, if_neg (by omega)]
      split
      · rw [lookO_cons, if_neg (by omega)]; exact h0
      · exact h0
    · rw [if_pos (Nat.le_refl _), Nat.sub_self]
      simp only [List.getElem?_cons_zero]
      split
      · rename_i cs hcs
        rw [lookO_cons, if_pos rfl, hcs]; rfl
      · rename_i hcs
        rw [ih, if_neg (by omega), hcs]; rfl
    · rw [if_pos (by omega)]
      split
      · rw [lookO_cons, if_neg (by omega)]; exact tail hlt
      · exact tail hlt
theorem Inv.rn (I : Inv P w0 G E h w) (ho : os.Nodup) (hk : ks.Nodup) (hkl : ∀ k ∈ ks, k < h.nv) (ep : Nat) : Inv P w0 G (E.ren os ks g0) (h.rn os ks g0 ep) w := by
  have I1 := I.ren (g0 := g0) ho hk hkl ep
  have gd : ∀ {l : List Nat} {i o : Nat}, l[i]? = some o → l.getD i 0 = o := fun {l i o} hi => by rw [List.getD_eq_getElem?_getD, hi]; rfl
  refine ⟨I1.kpt, rfl, rfl, I1.gn, I1.gnlt, fun i => ?_, I1.nx, fun i cs hcs => ?_, I1.own, I1.inj, I1.z, I1.zob, I1.vec, I1.vinj, I1.laid⟩
  · show (∃ o, os[i]? = some o ∧ E.live o) ↔ (lookO i (obN _ h os 0)).isSome = true
    rw [lookO_obN]
    simp only [Nat.zero_le, if_true, Nat.sub_zero]
    cases hi : os[i]? with
    | none => simp
    | some o => simp [I.live o]
  · have hcs' : lookO i (obN (rnAL os ks g0 h.gn) h os 0) = some cs := hcs
    rw [lookO_obN] at hcs'
    simp only [Nat.zero_le, if_true, Nat.sub_zero] at hcs'
    cases hi : os[i]? with
    | none => rw [hi] at hcs'; cases hcs'
    | some o =>
      rw [hi] at hcs'
      cases hc : lookO o h.ob with
      | none => simp [hc] at hcs'
      | some cs0 =>
        simp only [hc, Option.map_some, Option.some.injEq] at hcs'
        subst hcs'
        obtain ⟨vs, t, g1, g2, g3⟩ := I.ob o cs0 hc
        refine ⟨vs, t, ?_, rnA_relL I _ _ g2, g3⟩
        show w.heap[E.β (os.getD i 0)]? = _
        rw [gd hi]; exact g1
end
/-! What can be reached. -/
def refT : Option (Nat × Nat) → List Nat
  | some (k, _) => [k]
  | none => []
mutual
def refA : AV → List Nat
  | .ptr o _ => [o]
  | .mp o => [o]
  | .rsl _ o _ _ => [o]
  | .rp _ o _ _ _ => [o]
  | .vsl o _ _ _ _ => [o]
  | .al _ _ cs _ => refL cs
  | .ea cs => refL cs
  | .fn _ a c => refL a ++ refL c
  | .agg cs => refL cs
  | .tup vs => refL vs
  | _ => []
def refL : List AV → List Nat
  | [] => []
  | x :: xs => refA x ++ refL xs
end
mutual
def vecA : AV → List Nat
  | .sl _ _ _ tip => refT tip
  | .al _ _ cs tip => refT tip ++ vecL cs
  | .ea cs => vecL cs
  | .fn _ a c => vecL a ++ vecL c
  | .agg cs => vecL cs
  | .tup vs => vecL vs
  | _ => []
def vecL : List AV → List Nat
  | [] => []
  | x :: xs => vecA x ++ vecL xs
end
def hasN (x : Nat) : List Nat → Bool
  | [] => false
  | y :: r => bif Nat.beq x y then true else hasN x r
def walkO (h : Hp) : Nat → List Nat → List Nat → List Nat
  | 0, _, seen => seen
  | _ + 1, [], seen => seen
  | n + 1, o :: r, seen => bif hasN o seen then walkO h n r seen else walkO h n ((match lookO o h.ob with | some cs => refL cs | none => []) ++ r) (seen ++ [o])
def addN : List Nat → List Nat → List Nat
  | [], seen => seen
  | x :: r, seen => bif hasN x seen then addN r seen else addN r (seen ++ [x])
def noDupB : List Nat → Bool
  | [] => true
  | x :: r => bif hasN x r then false else noDupB r
theorem hasN_mem {x : Nat} : ∀ {l : List Nat}, hasN x l = false → x ∉ l
  | [], _ => by simp
  | y :: r, h => by
    unfold hasN at h
    cases hb : Nat.beq x y
    · rw [hb] at h
      simp only [List.mem_cons, not_or]
      exact ⟨fun e => by rw [e] at hb; simp at hb, hasN_mem h⟩
    · rw [hb] at h; cases h
theorem noDupB_ok : ∀ {l : List Nat}, noDupB l = true → l.Nodup
  | [], _ => List.nodup_nil
  | x :: r, h => by
    unfold noDupB at h
    cases hb : hasN x r
    · rw [hb] at h
      exact List.nodup_cons.2 ⟨hasN_mem hb, noDupB_ok h⟩
    · rw [hb] at h; cases h
def osOf (h : Hp) (r : AV × Hp) : List Nat := List.range h.nx ++ (walkO r.2 100000 (List.range h.nx ++ refA r.1) []).filter (fun o => Nat.ble h.nx o)
def ksOf (h : Hp) (os : List Nat) (r : AV × Hp) : List Nat := List.range h.nv ++ (addN (vecA r.1 ++ (os.map fun o => match lookO o r.2.ob with | some cs => vecL cs | none => []).flatten) []).filter (fun k => Nat.ble h.nv k)
def gcR (h : Hp) (os ks : List Nat) (r : AV × Hp) : RT (AV × Hp) := bif noDupB os && (noDupB ks && ks.all (fun k => Nat.blt k r.2.nv)) then .ok (rnA os ks h.ng r.2.gn r.1, r.2.rn os ks h.ng (h.ep + h.ob.length + 1)) else .ok r
/-- a contract's end, swept -/
def gcS (sp : Spec) : Spec := fun args h => (sp args h).bind fun r => gcR h (osOf h r) (ksOf h (osOf h r) r) r
theorem gc_ok {P : Program} {f : FuncId} {sp : Spec} (hs : SoundF P f sp) : SoundF P f (gcS sp) := by
  intro args h K H w0 G E w vals I hr
  unfold gcS at H
  rw [RT.holds_bind] at H
  refine (hs args h _ H w0 G E w vals I hr).mono ?_
  rintro e w' ⟨r, h', v, E', hK, rfl, S, hv⟩
  unfold gcR at hK
  cases hb : (noDupB (osOf h (r, h')) && (noDupB (ksOf h (osOf h (r, h')) (r, h')) && (ksOf h (osOf h (r, h')) (r, h')).all (fun k => Nat.blt k h'.nv)))
  · rw [hb] at hK
    exact ⟨r, h', v, E', hK, rfl, S, hv⟩
  rw [hb] at hK
  simp only [cond_true] at hK
  simp only [Bool.and_eq_true] at hb
  obtain ⟨b1, b2, b3⟩ := hb
  have hko : ∀ k ∈ ksOf h (osOf h (r, h')) (r, h'), k < h'.nv := fun k hk => by
    have := List.all_eq_true.1 b3 k hk
    simpa [Nat.blt_eq] using this
  have gr : ∀ {n i : Nat} {l : List Nat}, i < n → (List.range n ++ l)[i]? = some i := fun h => by
    rw [List.getElem?_append_left (by simpa using h)]; exact List.getElem?_range h
  have g0 : ∀ {o : Nat}, o < h.nx → (osOf h (r, h'))[o]? = some o := fun ho => gr ho
  have I2 := S.inv.rn (g0 := h.ng) (noDupB_ok b1) (noDupB_ok b2) hko (h.ep + h.ob.length + 1)
  have hep : ∀ o, ver o h < h.ep + h.ob.length + 1 := fun o => by have := cnt_le o h.ob; unfold ver; omega
  refine ⟨_, _, v, E'.ren (osOf h (r, h')) (ksOf h (osOf h (r, h')) (r, h')) h.ng, hK, rfl, ⟨⟨fun o ho => ⟨o, g0 (I.nx o ho), S.ext.live o ho⟩, fun o ho => ?_, S.ext.Z, ?_, ?_, fun k hk => .inr ?_, S.ext.yl⟩, I2, fun o ho => ⟨?_, fun e => ?_⟩, S.zn⟩, rnA_rel S.inv _ _ hv⟩
  · show E'.β ((osOf h (r, h')).getD o 0) = E.β o
    rw [gdp (g0 (I.nx o ho))]; exact S.ext.β o ho
  · show E.m ≤ (ksOf h (osOf h (r, h')) (r, h')).length
    rw [I.m]; unfold ksOf; simp
  · show E.ng ≤ h.ng + _
    rw [I.ng]; omega
  · show E.ng ≤ h.ng + k
    rw [I.ng]; omega
  · have := hep o; unfold ver at this ⊢; show _ ≤ (h.ep + h.ob.length + 1) + _; omega
  · have := hep o
    unfold ver at this e
    have e' : (h.ep + h.ob.length + 1) + _ = h.ep + cnt o h.ob := e
    omega
/-! An answer on known arguments, in a known heap. -/
def badS : Spec := fun _ _ => .bad 640
theorem bad_ok {P : Program} (f : FuncId) : SoundF P f badS := fun _ _ _ H => H.elim
def memoH (a0 : List AV) (h0 : Hp) (t : RT (AV × Hp)) (other : Spec) : Spec := fun args h => bif sameL args a0 && sameH h h0 then t else other args h
theorem memoH_ok {P : Program} {f : FuncId} {a0 : List AV} {h0 : Hp} {t : RT (AV × Hp)} {sp other : Spec} (hs : SoundF P f sp) (ho : SoundF P f other) (ht : sp a0 h0 = t) : SoundF P f (memoH a0 h0 t other) := by
  intro args h K H
  unfold memoH at H
  cases hc : (sameL args a0 && sameH h h0)
  · rw [hc] at H; exact ho args h K H
  · rw [hc] at H
    rw [Bool.and_eq_true] at hc
    rw [sameL_eq hc.1, sameH_eq hc.2]
    exact hs a0 h0 K (by rw [ht]; exact H)
end
end Go.Proofs.YtdlomggjhclmlaaGreatDoor
