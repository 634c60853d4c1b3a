/- EvB: a part of the heap under other names, and back. No condition. -/
import Derived.Test.YtokiedeiamlnlaaGreatEvA
namespace Go.Proofs.YtokiedeiamlnlaaGreat
set_option linter.unusedSimpArgs false
set_option linter.unusedVariables false
open Go.RowKit
set_option maxRecDepth 10000
noncomputable section

def ix (o : Nat) : List Nat → Nat → Option Nat
  | [], _ => none
  | k :: r, i => bif Nat.beq k o then some i else ix o r (i + 1)
theorem ix_some : ∀ {l : List Nat} {o s i : Nat}, ix o l s = some i → s ≤ i ∧ l[i - s]? = some o
  | [], _, _, _, h => by cases h
  | k :: r, o, s, i, h => by
    simp only [ix] at h
    cases hb : Nat.beq k o
    · rw [hb] at h
      obtain ⟨h1, h2⟩ := ix_some (l := r) h
      refine ⟨by omega, ?_⟩
      rw [show i - s = (i - (s + 1)) + 1 by omega]
      simpa using h2
    · rw [hb] at h
      cases h
      obtain rfl := Nat.eq_of_beq_eq_true hb
      simp
mutual
/-- a value under the new names: objects os, slices ks (their new stamps: g0 + j) -/
def ren (os ks : List Nat) (g0 : Nat) (gn : List (Nat × Nat × TypeId)) : AV → AV
  | .ptr o off => match ix o os 0 with | some i => .ptr i off | none => .any
  | .mp o => match ix o os 0 with | some i => .mp i | none => .any
  | .sl kn es d (some (k, g)) => match ix k ks 0, lookG k gn with
    | some j, some (g', _) => bif Nat.beq g g' then .sl kn es d (some (j, g0 + j)) else .sl kn es d none
    | _, _ => .sl kn es d none
  | .fn f a c => .fn f (renL os ks g0 gn a) (renL os ks g0 gn c)
  | .agg cs => .agg (renL os ks g0 gn cs)
  | .tup vs => .tup (renL os ks g0 gn vs)
  | .sl kn es d none => .sl kn es d none
  | .any => .any
  | .sc kn v => .sc kn v
  | .ep kn es d j => .ep kn es d j
  | .rsl kn o n len => match ix o os 0 with | some i => .rsl kn i n len | none => .any
  | .rp kn o n i j => match ix o os 0 with | some q => .rp kn q n i j | none => .any
  | .rw es d => .rw es d
  | .vsl _ _ _ _ _ => .any
  | .al _ _ _ _ => .any
  | .ea _ => .any
def renL (os ks : List Nat) (g0 : Nat) (gn : List (Nat × Nat × TypeId)) : List AV → List AV
  | [] => []
  | x :: xs => ren os ks g0 gn x :: renL os ks g0 gn xs
end
def obR (os ks : List Nat) (g0 : Nat) (h : Hp) : List Nat → Nat → List (Nat × List AV)
  | [], _ => []
  | o :: r, i => match lookO o h.ob with
    | some cs => (i, renL os ks g0 h.gn cs) :: obR os ks g0 h r (i + 1)
    | none => obR os ks g0 h r (i + 1)
def gnR (g0 : Nat) (gn : List (Nat × Nat × TypeId)) : List Nat → Nat → List (Nat × Nat × TypeId)
  | [], _ => []
  | k :: r, j => match lookG k gn with
    | some (_, e) => (j, g0 + j, e) :: gnR g0 gn r (j + 1)
    | none => gnR g0 gn r (j + 1)
def Hp.ren (h : Hp) (os ks : List Nat) (g0 ep : Nat) : Hp := ⟨obR os ks g0 h os 0, os.length, gnR g0 h.gn ks 0, ks.length, g0 + ks.length, ep⟩
def Env.ren (E : Env) (os ks : List Nat) (g0 : Nat) : Env :=
  { β := fun i => E.β (os.getD i 0), live := fun i => ∃ o, os[i]? = some o ∧ E.live o, Z := E.Z, vc := fun j => E.vc (ks.getD j 0), gn := fun j => g0 + j, ve := fun j => E.ve (ks.getD j 0), m := ks.length, ng := g0 + ks.length }

section
variable {P : Program} {E : Env} {h : Hp} {w w0 : World} {G : Nat → Prop} {os ks : List Nat} {g0 : Nat}
mutual
theorem ren_rel (I : Inv P w0 G E h w) : ∀ (x : AV) (v : Value), Rel E x v → Rel (E.ren os ks g0) (ren os ks g0 h.gn x) v
  | .any, _, _ => trivial
  | .sc _ _, _, H => H
  | .ep _ _ _ _, _, H => H
  | .rw _ _, _, H => H
  | .vsl _ _ _ _ _, _, _ => trivial
  | .al _ _ _ _, _, _ => trivial
  | .ea _, _, _ => trivial
  | .rsl kn o n len, v, ⟨hl, ad, cap, g1, g2, g3, g4, g5⟩ => by
    simp only [ren]
    split
    · rename_i i hi
      obtain ⟨_, h1⟩ := ix_some hi
      simp only [Nat.sub_zero] at h1
      refine ⟨⟨o, h1, hl⟩, ad, cap, g1, g2, g3, g4, fun hn => ?_⟩
      simp only [Env.ren, List.getD_eq_getElem?_getD, h1, Option.getD_some]
      exact g5 hn
    · exact trivial
  | .rp kn o n i j, v, ⟨hl, hv⟩ => by
    simp only [ren]
    split
    · rename_i q hi
      obtain ⟨_, h1⟩ := ix_some hi
      simp only [Nat.sub_zero] at h1
      refine ⟨⟨o, h1, hl⟩, ?_⟩
      simp only [Env.ren, List.getD_eq_getElem?_getD, h1, Option.getD_some]
      exact hv
    · exact trivial
  | .ptr o off, v, ⟨hl, hv⟩ => by
    simp only [ren]
    split
    · rename_i i hi
      obtain ⟨_, h1⟩ := ix_some hi
      simp only [Nat.sub_zero] at h1
      refine ⟨⟨o, h1, hl⟩, ?_⟩
      simp only [Env.ren, List.getD_eq_getElem?_getD, h1, Option.getD_some]
      exact hv
    · exact trivial
  | .mp o, v, ⟨hl, hv⟩ => by
    simp only [ren]
    split
    · rename_i i hi
      obtain ⟨_, h1⟩ := ix_some hi
      simp only [Nat.sub_zero] at h1
      refine ⟨⟨o, h1, hl⟩, ?_⟩
      simp only [Env.ren, List.getD_eq_getElem?_getD, h1, Option.getD_some]
      exact hv
    · exact trivial
  | .sl kn es d none, v, H => H
  | .sl kn es d (some (k, g)), v, ⟨h1, hk, hg, hc⟩ => by
    simp only [ren]
    have hno : Rel (E.ren os ks g0) (.sl kn es d none) v := ⟨h1, trivial⟩
    split
    · rename_i j g' e hj hl
      cases hb : Nat.beq g g'
      · exact hno
      · obtain rfl := Nat.eq_of_beq_eq_true hb
        obtain ⟨_, h2⟩ := ix_some hj
        simp only [Nat.sub_zero] at h2
        have hjl := (List.getElem?_eq_some_iff.1 h2).1
        have hgn := (I.gn k (by rw [← I.m]; exact hk)).symm.trans hl
        injection hgn with hgn
        have hg1 : E.gn k = g := congrArg Prod.fst hgn
        refine ⟨h1, hjl, by show g0 + j < g0 + ks.length; omega, fun _ => ?_⟩
        simp only [Env.ren, List.getD_eq_getElem?_getD, h2, Option.getD_some]
        exact hc hg1
    · exact hno
  | .fn f a c, v, ⟨a', c', h1, h2, h3⟩ => ⟨a', c', h1, ren_relL I a _ h2, ren_relL I c _ h3⟩
  | .agg cs, v, ⟨cs', h1, h2, h3⟩ => ⟨cs', h1, ren_relL I cs _ h2, h3⟩
  | .tup vs, v, ⟨vs', h1, h2⟩ => ⟨vs', h1, ren_relL I vs _ h2⟩
theorem ren_relL (I : Inv P w0 G E h w) : ∀ (xs : List AV) (vs : List Value), RelL E xs vs → RelL (E.ren os ks g0) (renL os ks g0 h.gn xs) vs
  | [], _, H => H
  | x :: xs, _, ⟨v, vs', h1, h2, h3⟩ => ⟨v, vs', h1, ren_rel I x v h2, ren_relL I xs vs' h3⟩
end
theorem lookO_obR : ∀ (l : List Nat) (s i : Nat), lookO i (obR os ks g0 h l s) = if s ≤ i then (match l[i - s]? with | some o => (lookO o h.ob).map (renL os ks g0 h.gn) | none => none) else none
  | [], s, i => by simp [obR, lookO_nil]
  | o :: r, s, i => by
    have ih := lookO_obR r (s + 1) i
    have tail : s ≠ i → (if s + 1 ≤ i then (match r[i - (s + 1)]? with | some o => (lookO o h.ob).map (renL os ks g0 h.gn) | none => none) else none) = if s ≤ i then (match (o :: r)[i - s]? with | some o => (lookO o h.ob).map (renL os ks g0 h.gn) | none => none) else none := fun hne => by
      by_cases hs : s + 1 ≤ i
      · rw [if_pos hs, if_pos (by omega), show i - s = (i - (s + 1)) + 1 by omega, List.getElem?_cons_succ]
      · rw [if_neg hs, if_neg (by omega)]
    simp only [obR]
    split
    · rename_i cs hcs
      rw [lookO_cons]
      by_cases e : s = i
      · subst e; simp [hcs]
      · rw [if_neg e, ih, tail e]
    · rename_i hcs
      rw [ih]
      by_cases e : s = i
      · subst e; rw [if_neg (by omega), if_pos (Nat.le_refl _)]; simp [hcs]
      · rw [tail e]
theorem lookG_gnR {gn : List (Nat × Nat × TypeId)} : ∀ (l : List Nat) (s j : Nat), lookG j (gnR g0 gn l s) = if s ≤ j then (match l[j - s]? with | some k => (lookG k gn).map (fun p => (g0 + j, p.2)) | none => none) else none
  | [], s, j => by simp [gnR, lookG_nil]
  | k :: r, s, j => by
    have ih := lookG_gnR (gn := gn) r (s + 1) j
    have tail : s ≠ j → (if s + 1 ≤ j then (match r[j - (s + 1)]? with | some k => (lookG k gn).map (fun p => (g0 + j, p.2)) | none => none) else none) = if s ≤ j then (match (k :: r)[j - s]? with | some k => (lookG k gn).map (fun p => (g0 + j, p.2)) | none => none) else none := fun hne => by
      by_cases hs : s + 1 ≤ j
      · rw [if_pos hs, if_pos (by omega), show j - s = (j - (s + 1)) + 1 by omega, List.getElem?_cons_succ]
      · rw [if_neg hs, if_neg (by omega)]
    simp only [gnR]
    split
    · rename_i g e hk
      rw [lookG_cons]
      by_cases e : s = j
      · subst e; simp [hk]
      · rw [if_neg e, ih, tail e]
    · rename_i hk
      rw [ih]
      by_cases e : s = j
      · subst e; rw [if_neg (by omega), if_pos (Nat.le_refl _)]; simp [hk]
      · rw [tail e]
/-- the part of the heap that has new names -/
theorem Inv.ren (I : Inv P w0 G E h w) (ho : os.Nodup) (hk : ks.Nodup) (hkl : ∀ k ∈ ks, k < h.nv) (ep : Nat) : Inv P w0 G (E.ren os ks g0) (h.ren os ks g0 ep) w := by
  have key : ∀ {l : List Nat} {i : Nat}, i < l.length → ∃ o, l[i]? = some o ∧ l.getD i 0 = o ∧ o ∈ l := fun {l i} hi => ⟨l[i], List.getElem?_eq_getElem hi, by rw [List.getD_eq_getElem?_getD, List.getElem?_eq_getElem hi]; rfl, List.getElem_mem hi⟩
  have gd : ∀ {l : List Nat} {i o : Nat}, l[i]? = some o → l.getD i 0 = o := fun {l i o} hi => by rw [List.getD_eq_getElem?_getD, hi]; rfl
  have ndo : ∀ {l : List Nat}, l.Nodup → ∀ {i j o : Nat}, l[i]? = some o → l[j]? = some o → i = j := fun {l} hl {i j o} h1 h2 => by
    have hi := (List.getElem?_eq_some_iff.1 h1).1
    exact (List.getElem?_inj hi hl).1 (h1.trans h2.symm)
  refine ⟨I.kpt, rfl, rfl, fun j hj => ?_, fun j hj => ?_, fun i => ?_, fun i hi => ?_, fun i cs hcs => ?_, fun i hi => ?_, fun i i' hi hi' e => ?_, I.z, fun i j hi => ?_, fun j hj => ?_, fun j j' b hj hj' hb hb' => ?_, I.laid⟩
  · have hjl : j < ks.length := hj
    obtain ⟨k, h1, h2, h3⟩ := key hjl
    have h4 : lookG j (gnR g0 h.gn ks 0) = some (g0 + j, E.ve k) := by
      rw [lookG_gnR]
      simp [h1, I.gn k (hkl k h3)]
    simpa [Hp.ren, Env.ren, List.getD_eq_getElem?_getD, h1] using h4
  · have hjl : j < ks.length := hj
    show g0 + j < g0 + ks.length
    omega
  · show (∃ o, os[i]? = some o ∧ E.live o) ↔ (lookO i (obR os ks g0 h os 0)).isSome = true
    rw [lookO_obR]
    simp only [Nat.zero_le, if_true, Nat.sub_zero]
    cases hi : os[i]? with
    | none => simp
    | some o => simp [I.live o]
  · obtain ⟨o, h1, _⟩ := hi
    exact (List.getElem?_eq_some_iff.1 h1).1
  · have hcs' : lookO i (obR os ks g0 h os 0) = some cs := hcs
    rw [lookO_obR] at hcs'
    simp only [Nat.zero_le, if_true, Nat.sub_zero] at hcs'
    cases hi : os[i]? with
    | none => rw [hi] at hcs'; cases hcs'
    | some o =>
      rw [hi] at hcs'
      cases hc : lookO o h.ob with
      | none => simp [hc] at hcs'
      | some cs0 =>
        simp only [hc, Option.map_some, Option.some.injEq] at hcs'
        subst hcs'
        obtain ⟨vs, t, g1, g2, g3⟩ := I.ob o cs0 hc
        refine ⟨vs, t, ?_, ren_relL I _ _ g2, g3⟩
        show w.heap[E.β (os.getD i 0)]? = _
        rw [gd hi]; exact g1
  · obtain ⟨o, h1, h2⟩ := hi
    show w0.heap.size ≤ E.β (os.getD i 0) ∨ G (E.β (os.getD i 0))
    rw [gd h1]; exact I.own o h2
  · obtain ⟨o, h1, h2⟩ := hi
    obtain ⟨o', h1', h2'⟩ := hi'
    have e' : E.β (os.getD i 0) = E.β (os.getD i' 0) := e
    rw [gd h1, gd h1'] at e'
    obtain rfl := I.inj o o' h2 h2' e'
    exact ndo ho h1 h1'
  · obtain ⟨o, h1, h2⟩ := hi
    show E.Z (E.β (os.getD i 0)) j = none
    rw [gd h1]; exact I.zob o j h2
  · have hjl : j < ks.length := hj
    obtain ⟨k, h1, h2, h3⟩ := key hjl
    obtain ⟨sz, n, xs, g1, g2, g3, g4⟩ := I.vec k (hkl k h3)
    have g4' : ∀ b, (E.vc k).ownBlock = some b → (w0.heap.size ≤ b ∨ G b) ∧ (∀ i, (E.ren os ks g0).live i → (E.ren os ks g0).β i ≠ b) ∧ ∀ j, E.Z b j = xs[j]? := fun b hb => by
      refine ⟨(g4 b hb).1, fun i hi => ?_, (g4 b hb).2.2⟩
      obtain ⟨o, h5, h6⟩ := hi
      show E.β (os.getD i 0) ≠ b
      rw [gd h5]; exact (g4 b hb).2.1 o h6
    refine ⟨sz, n, xs, ?_, ?_, g3, ?_⟩
    · show sizeT P (E.ve (ks.getD j 0)) = some sz
      rw [h2]; exact g1
    · show ownsR w 0 (E.ve (ks.getD j 0)) sz (E.vc (ks.getD j 0)) n xs
      rw [h2]; exact g2
    · show ∀ b, (E.vc (ks.getD j 0)).ownBlock = some b → _
      rw [h2]; exact g4'
  · obtain ⟨k, h1, h2, h3⟩ := key (show j < ks.length from hj)
    obtain ⟨k', h1', h2', h3'⟩ := key (show j' < ks.length from hj')
    have hb1 : (E.vc (ks.getD j 0)).ownBlock = some b := hb
    have hb2 : (E.vc (ks.getD j' 0)).ownBlock = some b := hb'
    rw [h2] at hb1
    rw [h2'] at hb2
    obtain rfl := I.vinj k k' b (hkl k h3) (hkl k' h3') hb1 hb2
    exact ndo hk h1 h1'
end
end
end Go.Proofs.YtokiedeiamlnlaaGreat
