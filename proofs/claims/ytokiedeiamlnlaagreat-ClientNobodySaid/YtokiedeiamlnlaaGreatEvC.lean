/- EvC: what was done to a part of the heap, told of the whole. No condition. -/
import Derived.Test.YtokiedeiamlnlaaGreatEvB
namespace Go.Proofs.YtokiedeiamlnlaaGreat
set_option linter.unusedSimpArgs false
set_option linter.unusedVariables false
open Go.RowKit
set_option maxRecDepth 10000
noncomputable section

/-- slice j of the part is slice bk of the whole -/
def bk (ks : List Nat) (m j : Nat) : Nat := bif Nat.blt j ks.length then ks.getD j 0 else m + (j - ks.length)
mutual
/-- a value of the part, told of the whole (slices below mk are kept) -/
def bak (os ks : List Nat) (m ng mk : Nat) (gn : List (Nat × Nat × TypeId)) : AV → AV
  | .ptr i off => match os[i]? with | some o => .ptr o off | none => .any
  | .mp i => match os[i]? with | some o => .mp o | none => .any
  | .sl kn es d (some (j, g)) => match lookG j gn with
    | some (g', _) => bif Nat.beq g g' && Nat.blt j mk then .sl kn es d (some (bk ks m j, ng + j)) else .sl kn es d none
    | _ => .sl kn es d none
  | .fn f a c => .fn f (bakL os ks m ng mk gn a) (bakL os ks m ng mk gn c)
  | .agg cs => .agg (bakL os ks m ng mk gn cs)
  | .tup vs => .tup (bakL os ks m ng mk gn vs)
  | .sl kn es d none => .sl kn es d none
  | .any => .any
  | .sc kn v => .sc kn v
  | .ep kn es d j => .ep kn es d j
  | .rsl kn i n len => match os[i]? with | some o => .rsl kn o n len | none => .any
  | .rp kn i n e j => match os[i]? with | some o => .rp kn o n e j | none => .any
  | .rw es d => .rw es d
  | .vsl _ _ _ _ _ => .any
  | .al _ _ _ _ => .any
  | .ea _ => .any
def bakL (os ks : List Nat) (m ng mk : Nat) (gn : List (Nat × Nat × TypeId)) : List AV → List AV
  | [] => []
  | x :: xs => bak os ks m ng mk gn x :: bakL os ks m ng mk gn xs
end
def bakO (os ks : List Nat) (m ng mk : Nat) (h' : Hp) : List Nat → Nat → List (Nat × List AV)
  | [], _ => []
  | o :: r, i => match lookO i h'.ob with
    | some cs => (o, bakL os ks m ng mk h'.gn cs) :: bakO os ks m ng mk h' r (i + 1)
    | none => bakO os ks m ng mk h' r (i + 1)
def bakG (ks : List Nat) (m ng : Nat) (gn : List (Nat × Nat × TypeId)) : Nat → List (Nat × Nat × TypeId)
  | 0 => []
  | j + 1 => match lookG j gn with
    | some (_, e) => (bk ks m j, ng + j, e) :: bakG ks m ng gn j
    | none => bakG ks m ng gn j
/-- the whole, behind what was done to the part -/
def Hp.bak (h : Hp) (os ks : List Nat) (mk : Nat) (h' : Hp) : Hp :=
  ⟨bakO os ks h.nv h.ng mk h' os 0 ++ h.ob, h.nx, bakG ks h.nv h.ng h'.gn mk ++ h.gn, h.nv + (mk - ks.length), h.ng + mk, h.ep⟩

section
variable {P : Program} {E E' : Env} {h h' : Hp} {w w0 w' : World} {G : Nat → Prop} {os ks : List Nat} {g0 mk ep : Nat}

theorem ndp {l : List Nat} (hl : l.Nodup) {i j o : Nat} (h1 : l[i]? = some o) (h2 : l[j]? = some o) : i = j :=
  (List.getElem?_inj (List.getElem?_eq_some_iff.1 h1).1 hl).1 (h1.trans h2.symm)
theorem gdp {l : List Nat} {i o : Nat} (hi : l[i]? = some o) : l.getD i 0 = o := by rw [List.getD_eq_getElem?_getD, hi]; rfl
theorem bk_lt {m j : Nat} (hj : j < ks.length) : bk ks m j = ks.getD j 0 := by
  unfold bk
  rw [show Nat.blt j ks.length = true from Nat.ble_eq_true_of_le hj]
  rfl
theorem bk_ge {m j : Nat} (hj : ks.length ≤ j) : bk ks m j = m + (j - ks.length) := by
  unfold bk
  have : Nat.blt j ks.length = false := by
    cases hb : Nat.blt j ks.length
    · rfl
    · have := Nat.le_of_ble_eq_true hb; omega
  rw [this]; rfl
theorem bk_inj {m : Nat} (hk : ks.Nodup) (hkl : ∀ k ∈ ks, k < m) {i j : Nat} (e : bk ks m i = bk ks m j) : i = j := by
  have hm : ∀ {i}, i < ks.length → ks.getD i 0 < m := fun {i} hi => by
    rw [List.getD_eq_getElem?_getD, List.getElem?_eq_getElem hi]; exact hkl _ (List.getElem_mem hi)
  rcases Nat.lt_or_ge i ks.length with hi | hi <;> rcases Nat.lt_or_ge j ks.length with hj | hj
  · rw [bk_lt hi, bk_lt hj] at e
    refine ndp hk (List.getElem?_eq_getElem hi) ?_
    rw [List.getElem?_eq_getElem hj]
    rw [List.getD_eq_getElem?_getD, List.getD_eq_getElem?_getD, List.getElem?_eq_getElem hi, List.getElem?_eq_getElem hj] at e
    simpa using e.symm
  · rw [bk_lt hi, bk_ge hj] at e; have := hm hi; omega
  · rw [bk_ge hi, bk_lt hj] at e; have := hm hj; omega
  · rw [bk_ge hi, bk_ge hj] at e; omega
theorem lookG_bakG {m ng : Nat} {gn : List (Nat × Nat × TypeId)} (hk : ks.Nodup) (hkl : ∀ k ∈ ks, k < m) : ∀ (n : Nat), (∀ j, j < n → (lookG j gn).isSome = true) → (∀ j, j < n → lookG (bk ks m j) (bakG ks m ng gn n) = (lookG j gn).map fun p => (ng + j, p.2)) ∧ ∀ k, (∀ j, j < n → bk ks m j ≠ k) → lookG k (bakG ks m ng gn n) = none
  | 0, _ => ⟨fun j hj => by omega, fun _ _ => rfl⟩
  | n + 1, hs => by
    obtain ⟨h1, h2⟩ := lookG_bakG hk hkl n fun j hj => hs j (by omega)
    obtain ⟨p, hp⟩ := Option.isSome_iff_exists.1 (hs n (by omega))
    obtain ⟨g, e⟩ := p
    refine ⟨fun j hj => ?_, fun k hne => ?_⟩
    · simp only [bakG, hp]
      rw [lookG_cons]
      by_cases ej : n = j
      · subst ej; rw [if_pos rfl, hp]; rfl
      · rw [if_neg (fun e' => ej (bk_inj hk hkl e')), h1 j (by omega)]
    · simp only [bakG, hp]
      rw [lookG_cons, if_neg (hne n (by omega)), h2 k fun j hj => hne j (by omega)]
theorem lookG_append (k : Nat) : ∀ (a b : List (Nat × Nat × TypeId)), lookG k (a ++ b) = match lookG k a with | some x => some x | none => lookG k b
  | [], b => rfl
  | (i, g) :: a, b => by
    rw [List.cons_append, lookG_cons, lookG_cons]
    split
    · rfl
    · exact lookG_append k a b
theorem lookO_append (k : Nat) : ∀ (a b : List (Nat × List AV)), lookO k (a ++ b) = match lookO k a with | some x => some x | none => lookO k b
  | [], b => rfl
  | (i, g) :: a, b => by
    rw [List.cons_append, lookO_cons, lookO_cons]
    split
    · rfl
    · exact lookO_append k a b
theorem cnt_append (k : Nat) : ∀ (a b : List (Nat × List AV)), cnt k (a ++ b) = cnt k a + cnt k b
  | [], b => by simp [cnt_nil]
  | (i, g) :: a, b => by
    rw [List.cons_append, cnt_cons, cnt_cons, cnt_append k a b]
    split <;> omega
theorem cnt_pos : ∀ {k : Nat} {a : List (Nat × List AV)} {x : List AV}, lookO k a = some x → 0 < cnt k a
  | k, [], _, h => by cases h
  | k, (i, g) :: a, x, h => by
    rw [lookO_cons] at h
    rw [cnt_cons]
    split
    · omega
    · rename_i e; rw [if_neg e] at h; exact cnt_pos h
theorem lookO_bakO {m ng : Nat} (os0 : List Nat) : ∀ (l : List Nat) (s : Nat), l.Nodup → (∀ i o, l[i]? = some o → (lookO (s + i) h'.ob).isSome = true) →
    (∀ i o, l[i]? = some o → lookO o (bakO os0 ks m ng mk h' l s) = (lookO (s + i) h'.ob).map (bakL os0 ks m ng mk h'.gn)) ∧ ∀ o, o ∉ l → lookO o (bakO os0 ks m ng mk h' l s) = none ∧ cnt o (bakO os0 ks m ng mk h' l s) = 0
  | [], s, _, _ => ⟨fun i o h => by simp at h, fun _ _ => ⟨rfl, rfl⟩⟩
  | p :: r, s, hn, hs => by
    obtain ⟨hpr, hr⟩ := List.nodup_cons.1 hn
    obtain ⟨h1, h2⟩ := lookO_bakO os0 r (s + 1) hr fun i o hi => by
      have := hs (i + 1) o (by simpa using hi)
      rwa [show s + (i + 1) = s + 1 + i by omega] at this
    obtain ⟨cs, hcs⟩ := Option.isSome_iff_exists.1 (hs 0 p rfl)
    rw [Nat.add_zero] at hcs
    refine ⟨fun i o hi => ?_, fun o ho => ?_⟩
    · simp only [bakO, hcs]
      rw [lookO_cons]
      cases i with
      | zero => simp at hi; subst hi; rw [if_pos rfl, Nat.add_zero, hcs]; rfl
      | succ i =>
        have hi' : r[i]? = some o := by simpa using hi
        rw [if_neg (fun e : p = o => hpr (e ▸ List.mem_of_getElem? hi')), h1 i o hi', show s + (i + 1) = s + 1 + i by omega]
    · simp only [bakO, hcs]
      obtain ⟨ho1, ho2⟩ : o ≠ p ∧ o ∉ r := by simpa using ho
      rw [lookO_cons, cnt_cons, if_neg (fun e => ho1 e.symm), if_neg (fun e => ho1 e.symm)]
      exact h2 o ho2

/-- the meaning of the whole -/
def Env.bak (E : Env) (ks : List Nat) (mk ng : Nat) (E' : Env) : Env :=
  { β := E.β, live := E.live, Z := E'.Z
    vc := fun k => if k < E.m then (match ix k ks 0 with | some j => E'.vc j | none => E.vc k) else E'.vc (k - E.m + ks.length)
    gn := fun k => if k < E.m then (match ix k ks 0 with | some j => ng + j | none => E.gn k) else ng + (k - E.m + ks.length)
    ve := fun k => if k < E.m then (match ix k ks 0 with | some j => E'.ve j | none => E.ve k) else E'.ve (k - E.m + ks.length)
    m := E.m + (mk - ks.length), ng := ng + mk }
theorem ix_mem : ∀ {l : List Nat} {i k s : Nat}, l.Nodup → l[i]? = some k → ix k l s = some (s + i)
  | [], _, _, _, _, h => by simp at h
  | p :: r, i, k, s, hn, h => by
    obtain ⟨hpr, hr⟩ := List.nodup_cons.1 hn
    simp only [ix]
    cases i with
    | zero => simp at h; subst h; simp
    | succ i =>
      have hi : r[i]? = some k := by simpa using h
      have hne : p ≠ k := fun e => hpr (e ▸ List.mem_of_getElem? hi)
      have hb : Nat.beq p k = false := by cases hb : Nat.beq p k; rfl; exact absurd (Nat.eq_of_beq_eq_true hb) hne
      rw [hb]
      simp only [cond_false]
      rw [ix_mem hr hi, show s + 1 + i = s + (i + 1) by omega]
theorem ix_none : ∀ {l : List Nat} {k s : Nat}, k ∉ l → ix k l s = none
  | [], _, _, _ => rfl
  | p :: r, k, s, h => by
    obtain ⟨h1, h2⟩ : k ≠ p ∧ k ∉ r := by simpa using h
    have hb : Nat.beq p k = false := by cases hb : Nat.beq p k; rfl; exact absurd (Nat.eq_of_beq_eq_true hb).symm h1
    simp only [ix, hb, cond_false]
    exact ix_none h2
/-- of slice bk j -/
theorem bak_bk (hk : ks.Nodup) (hkl : ∀ k ∈ ks, k < E.m) {ng j : Nat} : (E.bak ks mk ng E').vc (bk ks E.m j) = E'.vc j ∧ (E.bak ks mk ng E').gn (bk ks E.m j) = ng + j ∧ (E.bak ks mk ng E').ve (bk ks E.m j) = E'.ve j := by
  simp only [Env.bak]
  rcases Nat.lt_or_ge j ks.length with hj | hj
  · have hg := List.getElem?_eq_getElem hj
    rw [bk_lt hj, gdp hg, if_pos (hkl _ (List.getElem_mem hj)), if_pos (hkl _ (List.getElem_mem hj)), if_pos (hkl _ (List.getElem_mem hj)), ix_mem hk hg]
    simp
  · rw [bk_ge hj, if_neg (by omega), if_neg (by omega), if_neg (by omega), show E.m + (j - ks.length) - E.m + ks.length = j by omega]
    exact ⟨rfl, rfl, rfl⟩
theorem bak_old {ng k : Nat} (hkm : k < E.m) (hkn : k ∉ ks) : (E.bak ks mk ng E').vc k = E.vc k ∧ (E.bak ks mk ng E').gn k = E.gn k ∧ (E.bak ks mk ng E').ve k = E.ve k := by
  simp only [Env.bak, if_pos hkm, ix_none hkn]
  exact ⟨trivial, trivial, trivial⟩
/-- which slices there are -/
theorem bak_cases {k : Nat} (hkm : k < E.m + (mk - ks.length)) (hq : ks.length ≤ mk) : (k < E.m ∧ k ∉ ks) ∨ ∃ j, j < mk ∧ k = bk ks E.m j := by
  by_cases h1 : k < E.m
  · by_cases h2 : k ∈ ks
    · obtain ⟨j, hj⟩ := List.mem_iff_getElem?.1 h2
      have hjl := (List.getElem?_eq_some_iff.1 hj).1
      exact .inr ⟨j, by omega, by rw [bk_lt hjl, gdp hj]⟩
    · exact .inl ⟨h1, h2⟩
  · exact .inr ⟨k - E.m + ks.length, by omega, by rw [bk_ge (by omega)]; omega⟩

mutual
theorem bak_rel (I' : Inv P w (E.ren os ks g0).mine E' h' w') (hx : Ext (E.ren os ks g0) E') (hk : ks.Nodup) (hkl : ∀ k ∈ ks, k < E.m) (hmk : mk ≤ E'.m) (hq : ks.length ≤ mk) (hol : ∀ o ∈ os, E.live o) (ng : Nat) : ∀ (x : AV) (v : Value), Rel E' x v → Rel (E.bak ks mk ng E') (bak os ks E.m ng mk h'.gn x) v
  | .any, _, _ => trivial
  | .sc _ _, _, H => H
  | .ep _ _ _ _, _, H => H
  | .rw _ _, _, H => H
  | .vsl _ _ _ _ _, _, _ => trivial
  | .al _ _ _ _, _, _ => trivial
  | .ea _, _, _ => trivial
  | .rsl _ i _ _, v, ⟨hl, ad, cap, g1, g2, g3, g4, g5⟩ => by
    simp only [bak]
    split
    · rename_i o ho
      have hlo := hol o (List.mem_of_getElem? ho)
      have hb := hx.β i ⟨o, ho, hlo⟩
      refine ⟨hlo, ad, cap, g1, g2, g3, g4, fun hn => ?_⟩
      rw [g5 hn, hb]
      simp only [Env.ren, Env.bak, gdp ho]
    · exact trivial
  | .rp _ i _ _ _, v, ⟨hl, hv⟩ => by
    simp only [bak]
    split
    · rename_i o ho
      have hlo := hol o (List.mem_of_getElem? ho)
      have hb := hx.β i ⟨o, ho, hlo⟩
      refine ⟨hlo, ?_⟩
      rw [hv, hb]
      simp only [Env.ren, Env.bak, gdp ho]
    · exact trivial
  | .ptr i off, v, ⟨hl, hv⟩ => by
    simp only [bak]
    split
    · rename_i o ho
      have hlo := hol o (List.mem_of_getElem? ho)
      have hb := hx.β i ⟨o, ho, hlo⟩
      refine ⟨hlo, ?_⟩
      rw [hv, hb]
      simp only [Env.ren, Env.bak, gdp ho]
    · exact trivial
  | .mp i, v, ⟨hl, hv⟩ => by
    simp only [bak]
    split
    · rename_i o ho
      have hlo := hol o (List.mem_of_getElem? ho)
      have hb := hx.β i ⟨o, ho, hlo⟩
      refine ⟨hlo, ?_⟩
      rw [hv, hb]
      simp only [Env.ren, Env.bak, gdp ho]
    · exact trivial
  | .sl kn es d none, v, H => H
  | .sl kn es d (some (j, g)), v, ⟨h1, hj, hg, hc⟩ => by
    simp only [bak]
    have hno : Rel (E.bak ks mk ng E') (.sl kn es d none) v := ⟨h1, trivial⟩
    split
    · rename_i g' e hl
      cases hb : Nat.beq g g' && Nat.blt j mk
      · exact hno
      · simp only [Bool.and_eq_true] at hb
        obtain rfl := Nat.eq_of_beq_eq_true hb.1
        have hjm : j < mk := Nat.le_of_ble_eq_true hb.2
        have hgn := (I'.gn j (by rw [← I'.m]; exact hj)).symm.trans hl
        injection hgn with hgn
        have hg1 : E'.gn j = g := congrArg Prod.fst hgn
        obtain ⟨b1, b2, b3⟩ := bak_bk (E := E) (E' := E') (mk := mk) hk hkl (ng := ng) (j := j)
        refine ⟨h1, ?_, by show ng + j < ng + mk; omega, fun _ => ?_⟩
        · show bk ks E.m j < E.m + (mk - ks.length)
          rcases Nat.lt_or_ge j ks.length with h | h
          · rw [bk_lt h, gdp (List.getElem?_eq_getElem h)]
            have := hkl _ (List.getElem_mem h); omega
          · rw [bk_ge h]; omega
        · rw [b1]; exact hc hg1
    · exact hno
  | .fn f a c, v, ⟨a', c', h1, h2, h3⟩ => ⟨a', c', h1, bak_relL I' hx hk hkl hmk hq hol ng a _ h2, bak_relL I' hx hk hkl hmk hq hol ng c _ h3⟩
  | .agg cs, v, ⟨cs', h1, h2, h3⟩ => ⟨cs', h1, bak_relL I' hx hk hkl hmk hq hol ng cs _ h2, h3⟩
  | .tup vs, v, ⟨vs', h1, h2⟩ => ⟨vs', h1, bak_relL I' hx hk hkl hmk hq hol ng vs _ h2⟩
theorem bak_relL (I' : Inv P w (E.ren os ks g0).mine E' h' w') (hx : Ext (E.ren os ks g0) E') (hk : ks.Nodup) (hkl : ∀ k ∈ ks, k < E.m) (hmk : mk ≤ E'.m) (hq : ks.length ≤ mk) (hol : ∀ o ∈ os, E.live o) (ng : Nat) : ∀ (xs : List AV) (vs : List Value), RelL E' xs vs → RelL (E.bak ks mk ng E') (bakL os ks E.m ng mk h'.gn xs) vs
  | [], _, H => H
  | x :: xs, _, ⟨v, vs', h1, h2, h3⟩ => ⟨v, vs', h1, bak_rel I' hx hk hkl hmk hq hol ng x v h2, bak_relL I' hx hk hkl hmk hq hol ng xs vs' h3⟩
end

theorem Inv.bak (I : Inv P w0 G E h w) (hon : os.Nodup) (hol : ∀ o ∈ os, E.live o) (hk : ks.Nodup) (hkl : ∀ k ∈ ks, k < E.m) (hq : ks.length ≤ mk) (hmk : mk ≤ E'.m)
    (S : Stepd P w (E.ren os ks g0).mine (E.ren os ks g0) (h.ren os ks g0 ep) w E' h' w') :
    Stepd P w0 G E h w (E.bak ks mk h.ng E') (h.bak os ks mk h') w' := by
  have I' := S.inv
  have hx := S.ext
  have hm0 := I.m
  -- what the call may write
  have mine : ∀ b, (E.ren os ks g0).mine b → (∃ o, o ∈ os ∧ E.β o = b) ∨ ∃ k, k ∈ ks ∧ (E.vc k).ownBlock = some b := fun b hb => by
    rcases hb with ⟨i, ⟨o, h1, h2⟩, h3⟩ | ⟨j, hj, hb⟩
    · left
      refine ⟨o, List.mem_of_getElem? h1, ?_⟩
      have : E.β (os.getD i 0) = b := h3
      rwa [gdp h1] at this
    · right
      have hj' : j < ks.length := hj
      have hb' : (E.vc (ks.getD j 0)).ownBlock = some b := hb
      rw [gdp (List.getElem?_eq_getElem hj')] at hb'
      exact ⟨_, List.getElem_mem hj', hb'⟩
  have mineG : ∀ b, (E.ren os ks g0).mine b → w0.heap.size ≤ b ∨ G b := fun b hb => by
    rcases mine b hb with ⟨o, h1, rfl⟩ | ⟨k, h1, h2⟩
    · exact I.own o (hol o h1)
    · obtain ⟨_, _, _, _, _, _, g4⟩ := I.vec k (by rw [← I.m]; exact hkl k h1)
      exact (g4 b h2).1
  have notobj : ∀ o, E.live o → o ∉ os → ¬ (E.ren os ks g0).mine (E.β o) := fun o hl hn hb => by
    rcases mine _ hb with ⟨o', h1, h2⟩ | ⟨k, h1, h2⟩
    · exact hn (I.inj o' o (hol o' h1) hl h2 ▸ h1)
    · obtain ⟨_, _, _, _, _, _, g4⟩ := I.vec k (by rw [← I.m]; exact hkl k h1)
      exact (g4 _ h2).2.1 o hl rfl
  have notvec : ∀ k, k < E.m → k ∉ ks → ∀ b, (E.vc k).ownBlock = some b → ¬ (E.ren os ks g0).mine b := fun k hkm hn b hb hmb => by
    obtain ⟨_, _, _, _, _, _, g4⟩ := I.vec k (by rw [← I.m]; exact hkm)
    rcases mine _ hmb with ⟨o, h1, h2⟩ | ⟨k', h1, h2⟩
    · exact (g4 b hb).2.1 o (hol o h1) h2
    · exact hn (I.vinj k k' b (by rw [← I.m]; exact hkm) (by rw [← I.m]; exact hkl k' h1) hb h2 ▸ h1)
  have same : ∀ b, b < w.heap.size → ¬ (E.ren os ks g0).mine b → w'.heap[b]? = w.heap[b]? := fun b hb hn => I'.kpt.block b hb hn
  have liveE' : ∀ i o, os[i]? = some o → E'.live i ∧ E'.β i = E.β o := fun i o hi => by
    have hl : (E.ren os ks g0).live i := ⟨o, hi, hol o (List.mem_of_getElem? hi)⟩
    refine ⟨hx.live i hl, (hx.β i hl).trans ?_⟩
    show E.β (os.getD i 0) = E.β o
    rw [gdp hi]
  have zold : ∀ b j v, b < w.heap.size → ¬ (E.ren os ks g0).mine b → E'.Z b j = some v → E.Z b j = some v := fun b j v hb hn hz => by
    rcases S.zn b j v hz with h | h | h
    · exact h
    · omega
    · exact absurd h hn
  have hZ : ∀ b j v, E.Z b j = some v → E'.Z b j = some v := hx.Z
  have hmm : E'.m = h'.nv := I'.m
  have hGs : ∀ j, j < mk → (lookG j h'.gn).isSome = true := fun j hj => by rw [I'.gn j (by omega)]; rfl
  have hkl' : ∀ k ∈ ks, k < h.nv := fun k hk' => by rw [← I.m]; exact hkl k hk'
  obtain ⟨bg1, bg2⟩ := lookG_bakG (ng := h.ng) hk hkl' mk hGs
  have hOs : ∀ i o, os[i]? = some o → (lookO (0 + i) h'.ob).isSome = true := fun i o hi => by
    rw [Nat.zero_add]; exact (I'.live i).1 (liveE' i o hi).1
  obtain ⟨bo1, bo2⟩ := lookO_bakO (ks := ks) (m := h.nv) (ng := h.ng) (mk := mk) (h' := h') os os 0 hon hOs
  have hext : Ext E (E.bak ks mk h.ng E') := by
    refine ⟨fun _ h => h, fun _ _ => rfl, hZ, Nat.le_add_right _ _, by rw [I.ng]; exact Nat.le_add_right _ _, fun k hkm => ?_⟩
    by_cases hn : k ∈ ks
    · obtain ⟨j, hj⟩ := List.mem_iff_getElem?.1 hn
      right
      simp only [Env.bak, if_pos hkm, ix_mem hk hj]
      rw [I.ng]; omega
    · obtain ⟨a1, a2, _⟩ := bak_old (mk := mk) (E' := E') (ng := h.ng) hkm hn
      exact .inl ⟨a1, a2⟩
  have hbr : ∀ (xs : List AV) (vs : List Value), RelL E' xs vs → RelL (E.bak ks mk h.ng E') (bakL os ks h.nv h.ng mk h'.gn xs) vs := fun xs vs hr => by
    rw [← I.m]; exact bak_relL I' hx hk hkl hmk hq hol h.ng xs vs hr
  -- a slice of the part lies apart
  have partv : ∀ j, j < mk → ∀ b, (E'.vc j).ownBlock = some b → w.heap.size ≤ b ∨ (E.ren os ks g0).mine b := fun j hj b hb => by
    obtain ⟨_, _, _, _, _, _, g4⟩ := I'.vec j (by omega)
    exact (g4 b hb).1
  refine ⟨hext, ⟨I.kpt.then I'.kpt mineG, by show E.m + (mk - ks.length) = h.nv + (mk - ks.length); rw [I.m], rfl, fun k hkn => ?_, fun k hkn => ?_, fun o => ?_, I.nx, fun o cs hcs => ?_, I.own, I.inj, I'.z, fun o j hlo => ?_, fun k hkn => ?_, fun k k' b hkn hkn' hb hb' => ?_, I'.laid⟩, fun o hlo => ?_, fun b j v hz => ?_⟩
  · -- stamps
    show lookG k (bakG ks h.nv h.ng h'.gn mk ++ h.gn) = _
    rw [lookG_append]
    rcases bak_cases (E := E) (mk := mk) (by rw [I.m]; exact hkn) hq with ⟨h1, h2⟩ | ⟨j, h1, rfl⟩
    · obtain ⟨a1, a2, a3⟩ := bak_old (mk := mk) (E' := E') (ng := h.ng) h1 h2
      rw [a2, a3, bg2 k fun j hj e => ?_]
      · exact I.gn k (by rw [← I.m]; exact h1)
      · rcases Nat.lt_or_ge j ks.length with hjl | hjl
        · rw [bk_lt hjl, gdp (List.getElem?_eq_getElem hjl)] at e
          exact h2 (e ▸ List.getElem_mem hjl)
        · rw [bk_ge hjl] at e; omega
    · obtain ⟨a1, a2, a3⟩ := bak_bk (E := E) (E' := E') (mk := mk) hk hkl (ng := h.ng) (j := j)
      have := bg1 j h1
      rw [a2, a3]
      rw [← I.m] at this ⊢
      rw [this, I'.gn j (by omega)]
      rfl
  · rcases bak_cases (E := E) (mk := mk) (by rw [I.m]; exact hkn) hq with ⟨h1, h2⟩ | ⟨j, h1, rfl⟩
    · obtain ⟨a1, a2, a3⟩ := bak_old (mk := mk) (E' := E') (ng := h.ng) h1 h2
      rw [a2]
      have := I.gnlt k (by rw [← I.m]; exact h1)
      show E.gn k < h.ng + mk
      omega
    · obtain ⟨a1, a2, a3⟩ := bak_bk (E := E) (E' := E') (mk := mk) hk hkl (ng := h.ng) (j := j)
      rw [a2]
      show h.ng + j < h.ng + mk
      omega
  · -- which objects
    show E.live o ↔ (lookO o (bakO os ks h.nv h.ng mk h' os 0 ++ h.ob)).isSome = true
    rw [lookO_append]
    by_cases ho : o ∈ os
    · obtain ⟨i, hi⟩ := List.mem_iff_getElem?.1 ho
      rw [bo1 i o hi]
      obtain ⟨cs, hcs⟩ := Option.isSome_iff_exists.1 (hOs i o hi)
      rw [hcs]
      simp [hol o ho]
    · rw [(bo2 o ho).1]
      exact I.live o
  · have hcs' : lookO o (bakO os ks h.nv h.ng mk h' os 0 ++ h.ob) = some cs := hcs
    rw [lookO_append] at hcs'
    by_cases ho : o ∈ os
    · obtain ⟨i, hi⟩ := List.mem_iff_getElem?.1 ho
      rw [bo1 i o hi, Nat.zero_add] at hcs'
      cases hc : lookO i h'.ob with
      | none =>
        have := hOs i o hi
        rw [Nat.zero_add, hc] at this; cases this
      | some cs0 =>
        simp only [hc, Option.map_some, Option.some.injEq] at hcs'
        subst hcs'
        obtain ⟨vs, t, g1, g2, g3⟩ := I'.ob i cs0 hc
        refine ⟨vs, t, ?_, hbr _ _ g2, g3⟩
        show w'.heap[E.β o]? = _
        rw [← (liveE' i o hi).2]; exact g1
    · rw [(bo2 o ho).1] at hcs'
      simp only at hcs'
      obtain ⟨vs, t, g1, g2, g3⟩ := I.ob o cs hcs'
      have hlo : E.live o := (I.live o).2 (by rw [hcs']; rfl)
      exact ⟨vs, t, (same _ (I.live_lt hlo) (notobj o hlo ho)).trans g1, RelL.mono hext _ _ g2, g3⟩
  · show E'.Z (E.β o) j = none
    by_cases ho : o ∈ os
    · obtain ⟨i, hi⟩ := List.mem_iff_getElem?.1 ho
      rw [← (liveE' i o hi).2]
      exact I'.zob i j (liveE' i o hi).1
    · cases hz : E'.Z (E.β o) j with
      | none => rfl
      | some v =>
        have := zold _ _ _ (I.live_lt hlo) (notobj o hlo ho) hz
        rw [I.zob o j hlo] at this; cases this
  · -- slices
    rcases bak_cases (E := E) (mk := mk) (by rw [I.m]; exact hkn) hq with ⟨h1, h2⟩ | ⟨j, h1, rfl⟩
    · obtain ⟨a1, a2, a3⟩ := bak_old (mk := mk) (E' := E') (ng := h.ng) h1 h2
      rw [a1, a3]
      obtain ⟨sz, n, xs, g1, g2, g3, g4⟩ := I.vec k (by rw [← I.m]; exact h1)
      refine ⟨sz, n, xs, g1, owns_same g2 fun b hb => same b (owns_lt g2 hb) (notvec k h1 h2 b hb), g3, fun b hb => ⟨(g4 b hb).1, (g4 b hb).2.1, fun j => ?_⟩⟩
      show E'.Z b j = xs[j]?
      rw [← (g4 b hb).2.2 j]
      cases hz : E.Z b j with
      | some v => exact hZ b j v hz
      | none =>
        cases hz' : E'.Z b j with
        | none => rfl
        | some v =>
          have := zold _ _ _ (owns_lt g2 hb) (notvec k h1 h2 b hb) hz'
          rw [hz] at this; cases this
    · obtain ⟨a1, a2, a3⟩ := bak_bk (E := E) (E' := E') (mk := mk) hk hkl (ng := h.ng) (j := j)
      rw [a1, a3]
      obtain ⟨sz, n, xs, g1, g2, g3, g4⟩ := I'.vec j (by omega)
      refine ⟨sz, n, xs, g1, g2, g3, fun b hb => ⟨?_, fun o hlo e => ?_, (g4 b hb).2.2⟩⟩
      · rcases (g4 b hb).1 with h | h
        · exact .inl (Nat.le_trans I.kpt.size h)
        · exact mineG b h
      · have e' : E.β o = b := e
        by_cases ho : o ∈ os
        · obtain ⟨i, hi⟩ := List.mem_iff_getElem?.1 ho
          exact (g4 b hb).2.1 i (liveE' i o hi).1 ((liveE' i o hi).2.trans e')
        · rcases (g4 b hb).1 with h | h
          · have := I.live_lt hlo; omega
          · exact notobj o hlo ho (e' ▸ h)
  · have old : ∀ k, k < E.m → k ∉ ks → ∀ b, (E.vc k).ownBlock = some b → ∀ j, j < mk → (E'.vc j).ownBlock ≠ some b := fun k h1 h2 b hb j hj hbj => by
      obtain ⟨_, _, _, _, g2, _⟩ := I.vec k (by rw [← I.m]; exact h1)
      rcases partv j hj b hbj with h | h
      · have := owns_lt g2 hb; omega
      · exact notvec k h1 h2 b hb h
    rcases bak_cases (E := E) (mk := mk) (by rw [I.m]; exact hkn) hq with ⟨h1, h2⟩ | ⟨j, h1, rfl⟩ <;> rcases bak_cases (E := E) (mk := mk) (by rw [I.m]; exact hkn') hq with ⟨h1', h2'⟩ | ⟨j', h1', rfl⟩
    · rw [(bak_old (mk := mk) (E' := E') (ng := h.ng) h1 h2).1] at hb
      rw [(bak_old (mk := mk) (E' := E') (ng := h.ng) h1' h2').1] at hb'
      exact I.vinj k k' b (by rw [← I.m]; exact h1) (by rw [← I.m]; exact h1') hb hb'
    · rw [(bak_old (mk := mk) (E' := E') (ng := h.ng) h1 h2).1] at hb
      rw [(bak_bk (E := E) (E' := E') (mk := mk) hk hkl (ng := h.ng) (j := j')).1] at hb'
      exact absurd hb' (old k h1 h2 b hb j' h1')
    · rw [(bak_bk (E := E) (E' := E') (mk := mk) hk hkl (ng := h.ng) (j := j)).1] at hb
      rw [(bak_old (mk := mk) (E' := E') (ng := h.ng) h1' h2').1] at hb'
      exact absurd hb (old k' h1' h2' b hb' j h1)
    · rw [(bak_bk (E := E) (E' := E') (mk := mk) hk hkl (ng := h.ng) (j := j)).1] at hb
      rw [(bak_bk (E := E) (E' := E') (mk := mk) hk hkl (ng := h.ng) (j := j')).1] at hb'
      rw [I'.vinj j j' b (by omega) (by omega) hb hb']
  · have hv : ver o (h.bak os ks mk h') = h.ep + (cnt o (bakO os ks h.nv h.ng mk h' os 0) + cnt o h.ob) := by
      show h.ep + cnt o (bakO os ks h.nv h.ng mk h' os 0 ++ h.ob) = _
      rw [cnt_append]
    unfold ver at hv ⊢
    rw [hv]
    refine ⟨by omega, fun e => ?_⟩
    by_cases ho : o ∈ os
    · obtain ⟨i, hi⟩ := List.mem_iff_getElem?.1 ho
      have := bo1 i o hi
      obtain ⟨cs, hcs⟩ := Option.isSome_iff_exists.1 (hOs i o hi)
      rw [hcs] at this
      have := cnt_pos this
      omega
    · exact same _ (I.live_lt hlo) (notobj o hlo ho)
  · rcases S.zn b j v hz with h | h | h
    · exact .inl h
    · exact .inr (.inl (Nat.le_trans I.kpt.size h))
    · exact .inr (mineG b h)
end
end
end Go.Proofs.YtokiedeiamlnlaaGreat
