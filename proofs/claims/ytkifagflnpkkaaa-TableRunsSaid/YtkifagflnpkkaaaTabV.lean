/- A table that changes: two rows of it, where a row may be emptied. No condition. -/
import Derived.Test.YtkifagflnpkkaaaFgt
namespace Go.Proofs.Ytkifagflnpkkaaa
set_option linter.unusedSimpArgs false
set_option linter.unusedVariables false
open Go.RowKit
set_option maxRecDepth 10000

theorem rows_twoW {w w' : World} {V : Tag → Value} {C : Tag → List EntL} (h : Rows w V C) (t1 t2 : Tag) (h12 : t1 ≠ t2) {v1 v2 : Value} {l1 l2 : List EntL} {B : Nat}
    (hK : Kept w w' (fun b => b = B ∨ some b = (V t1).ownBlock ∨ some b = (V t2).ownBlock)) (hB : ∀ t, (V t).ownBlock ≠ some B) (r1 : t1.row w' v1 l1) (r2 : t2.row w' v2 l2)
    (hl1 : ∀ g, v1.ownBlock = some g → (V t1).ownBlock = some g ∨ w.heap.size ≤ g) (hl2 : ∀ g, v2.ownBlock = some g → (V t2).ownBlock = some g ∨ w.heap.size ≤ g) (hv : ∀ g, v1.ownBlock = some g → v2.ownBlock ≠ some g) :
    Rows w' (two t1 t2 v1 v2 V) (two t1 t2 l1 l2 C) ∧ ∀ t g, (two t1 t2 v1 v2 V t).ownBlock = some g → (V t).ownBlock = some g ∨ w.heap.size ≤ g := by
  have hlt : ∀ t g, (V t).ownBlock = some g → g < w.heap.size := fun t g hg => Tag.row_lt (h.rows t) hg
  have hall : ∀ t g, (two t1 t2 v1 v2 V t).ownBlock = some g → (V t).ownBlock = some g ∨ w.heap.size ≤ g := fun t g hg => by
    by_cases e1 : t = t1
    · subst e1; rw [two_1] at hg; exact hl1 g hg
    · by_cases e2 : t = t2
      · subst e2; rw [two_2 h12] at hg; exact hl2 g hg
      · rw [two_3 e1 e2] at hg; exact .inl hg
  refine ⟨⟨fun t => ?_, fun t t' g hg hg' => ?_⟩, hall⟩
  · by_cases e1 : t = t1
    · subst e1; rw [two_1, two_1]; exact r1
    · by_cases e2 : t = t2
      · subst e2; rw [two_2 h12, two_2 h12]; exact r2
      · rw [two_3 e1 e2, two_3 e1 e2]
        refine Tag.row_kept (h.rows t) hK fun g hg hh => ?_
        rcases hh with hh | hh | hh
        · exact hB t (hh ▸ hg)
        · exact e1 (h.apart t t1 g hg hh.symm)
        · exact e2 (h.apart t t2 g hg hh.symm)
  · rcases hall t g hg with a1 | a1 <;> rcases hall t' g hg' with a2 | a2
    · exact h.apart t t' g a1 a2
    · have := hlt t g a1; omega
    · have := hlt t' g a2; omega
    · have old : ∀ s, s ≠ t1 → s ≠ t2 → (two t1 t2 v1 v2 V s).ownBlock ≠ some g := fun s e1 e2 hs => by
        rw [two_3 e1 e2] at hs; have := hlt s g hs; omega
      by_cases e1 : t = t1
      · subst e1
        by_cases e1' : t' = t
        · exact e1'.symm
        · by_cases e2' : t' = t2
          · subst e2'
            rw [two_1] at hg; rw [two_2 h12] at hg'
            exact absurd hg' (hv g hg)
          · exact absurd hg' (old t' e1' e2')
      · by_cases e2 : t = t2
        · subst e2
          by_cases e1' : t' = t1
          · subst e1'
            rw [two_2 h12] at hg; rw [two_1] at hg'
            exact absurd hg (hv g hg')
          · by_cases e2' : t' = t
            · exact e2'.symm
            · exact absurd hg' (old t' e1' e2')
        · exact absurd hg (old t e1 e2)

theorem tabx_macW {w w' : World} {T S M n : Nat} {V : Tag → Value} {C : Tag → List EntL} {f f' : List (Mac × Value)} (h : Tabx w T S M n V C) (m : Mac) {v1 v2 : Value} {l1 l2 : List EntL} (hM : MapAt w M f) (hf : ∀ m, found f m = .agg #[V (.mk m), V (.mv m)])
    (hK : Kept w w' (fun b => b = M ∨ some b = (V (.mk m)).ownBlock ∨ some b = (V (.mv m)).ownBlock)) (r1 : (Tag.mk m).row w' v1 l1) (r2 : (Tag.mv m).row w' v2 l2)
    (hM' : MapAt w' M f') (hf1 : found f' m = .agg #[v1, v2]) (hf2 : ∀ m', m' ≠ m → found f' m' = found f m')
    (L1 : ∀ g, v1.ownBlock = some g → (V (.mk m)).ownBlock = some g ∨ w.heap.size ≤ g) (L2 : ∀ g, v2.ownBlock = some g → (V (.mv m)).ownBlock = some g ∨ w.heap.size ≤ g) (hv : ∀ g, v1.ownBlock = some g → v2.ownBlock ≠ some g) :
    Tabx w' T S M n (two (.mk m) (.mv m) v1 v2 V) (two (.mk m) (.mv m) l1 l2 C) ∧ ∀ t g, (two (.mk m) (.mv m) v1 v2 V t).ownBlock = some g → (V t).ownBlock = some g ∨ w.heap.size ≤ g := by
  obtain ⟨h1, ⟨cs, h2, hcs, hc⟩, -, h4, h5⟩ := h
  have hne : Tag.mk m ≠ .mv m := by intro h; cases h
  have hTl := (Array.getElem?_eq_some_iff.1 h1).1
  have hSl := (Array.getElem?_eq_some_iff.1 h2).1
  have hMo : ∀ t, (V t).ownBlock ≠ some M := fun t => by
    obtain ⟨e, size, xs, ho⟩ := Tag.row_own (h4.rows t); exact own_not_map hM ho
  obtain ⟨hr, ho⟩ := rows_twoW h4 (.mk m) (.mv m) hne hK hMo r1 r2 L1 L2 hv
  have hTM : T ≠ M := by
    rintro rfl
    obtain ⟨es, clock, hM, -⟩ := hM
    rw [hM] at h1; cases h1
  have hSM : S ≠ M := by
    rintro rfl
    obtain ⟨es, clock, hM, -⟩ := hM
    rw [hM] at h2; cases h2
  refine ⟨⟨(hK.block T hTl (by rintro (h | h | h); exact hTM h; exact (h5 _ T h.symm).1 rfl; exact (h5 _ T h.symm).1 rfl)).trans h1,
    ⟨cs, (hK.block S hSl (by rintro (h | h | h); exact hSM h; exact (h5 _ S h.symm).2 rfl; exact (h5 _ S h.symm).2 rfl)).trans h2, hcs, fun q hq => ?_⟩, ⟨f', hM', fun m' => ?_⟩, hr, fun t g hg => ?_⟩, ho⟩
  · rw [two_3 (by intro h; cases h) (by intro h; cases h), two_3 (by intro h; cases h) (by intro h; cases h)]; exact hc q hq
  · by_cases e : m' = m
    · subst e; rw [two_1, two_2 hne]; exact hf1
    · rw [two_3 (by intro h; cases h; exact e rfl) (by intro h; cases h), two_3 (by intro h; cases h) (by intro h; cases h; exact e rfl)]; rw [hf2 m' e]; exact hf m'
  · rcases ho t g hg with h | h
    · exact h5 t g h
    · exact ⟨fun e => by omega, fun e => by omega⟩


/-- the parts of a table, as something owned -/
def TX (w : World) (T S M n : Nat) (C : Tag → List EntL) (A : Nat → Prop) : Prop :=
  ∃ V, Tabx w T S M n V C ∧ A T ∧ A S ∧ A M ∧ (∀ t g, (V t).ownBlock = some g → A g) ∧ ∀ b, A b → b < w.heap.size
theorem tx_kept {w w' : World} {T S M n : Nat} {C : Tag → List EntL} {A B : Nat → Prop} (h : TX w T S M n C A) (hk : Kpt w w' B) (hAB : ∀ b, A b → ¬ B b) : TX w' T S M n C A := by
  obtain ⟨V, ⟨h1, ⟨cs, h2, h2s⟩, ⟨f, h3, h3s⟩, ⟨h4, h4a⟩, h5⟩, hT, hS, hM, hV, hA⟩ := h
  have hk' : Kept w w' B := ⟨hk.os, hk.tape, hk.output, hk.size, hk.block⟩
  exact ⟨V, ⟨(hk.block T (hA T hT) (hAB T hT)).trans h1, ⟨cs, (hk.block S (hA S hS) (hAB S hS)).trans h2, h2s⟩, ⟨f, map_kept h3 hk' (hAB M hM), h3s⟩, ⟨fun t => Tag.row_kept (h4 t) hk' (fun g hg => hAB g (hV t g hg)), h4a⟩, h5⟩, hT, hS, hM, hV, fun b hb => Nat.lt_of_lt_of_le (hA b hb) hk.size⟩
def txo (T S M n : Nat) (C : Tag → List EntL) (A : Nat → Prop) : As := obj T (fun w A => TX w T S M n C A) A (fun h => by obtain ⟨_, _, _, _, _, _, h⟩ := h; exact h) tx_kept
theorem facts_txo {w : World} {T S M n : Nat} {C : Tag → List EntL} {A : Nat → Prop} {l : List As} : Facts (txo T S M n C A :: l) w = Facts l w := by show (True ∧ _) = _; simp
theorem tx_tab {w : World} {T S M n : Nat} {C : Tag → List EntL} {A : Nat → Prop} {L : List EntL} (h : TX w T S M n C A) (hC : ∀ t, C t = Cont n L t) (h1 : 1 ≤ n) (h2 : n ≤ 64) (hG : Good L) : Tab w T n L A := by
  obtain rfl : C = Cont n L := funext hC
  obtain ⟨V, hx, hT, hS, hM, hV, hA⟩ := h
  exact ⟨S, M, V, hx, hT, hS, hM, hV, hA, h1, h2, hG⟩
theorem tab_tx {w : World} {T n : Nat} {L : List EntL} {A : Nat → Prop} (h : Tab w T n L A) : ∃ S M, TX w T S M n (Cont n L) A := by
  obtain ⟨S, M, V, hx, hT, hS, hM, hV, hA, -⟩ := h
  exact ⟨S, M, V, hx, hT, hS, hM, hV, hA⟩
theorem tx_cells {w : World} {T S M n : Nat} {C : Tag → List EntL} {A : Nat → Prop} (h : TX w T S M n C A) : rng w T 0 2 = some [.map (some M), .slice (some ⟨S, 0, none⟩) n n] := by
  obtain ⟨V, ⟨h1, -⟩, -⟩ := h
  unfold rng; rw [h1]; rfl

/-- one's place, out of a row of numbers -/
theorem erase_filter : ∀ {l : List EntL} {a : Nat} {k : Int}, l.Pairwise (fun a b => a.id < b.id) → (l.map (·.id))[a]? = some k → l.eraseIdx a = l.filter fun e => decide (e.id ≠ k)
  | [], a, k, _, h => by simp at h
  | x :: l, 0, k, hs, h => by
    simp only [List.map_cons, List.getElem?_cons_zero, Option.some.injEq] at h
    rw [List.pairwise_cons] at hs
    rw [List.eraseIdx_cons_zero, List.filter_cons_of_neg (by simp [h]), List.filter_eq_self.2]
    intro e he
    have := hs.1 e he
    simp; omega
  | x :: l, a + 1, k, hs, h => by
    simp only [List.map_cons, List.getElem?_cons_succ] at h
    rw [List.pairwise_cons] at hs
    have ih := erase_filter hs.2 h
    obtain ⟨y, hy, hyk⟩ := List.mem_map.1 (List.mem_of_getElem? h)
    have := hs.1 y hy
    rw [List.eraseIdx_cons_succ, ih, List.filter_cons_of_pos (by simp; omega)]
theorem own_some {w : World} {base e size : Nat} {v : Value} {n : Nat} {xs : List Value} (h : w.ownsRow base e size v n xs) (hn : 0 < n) : ∃ g c, v = .slice (some ⟨g, 0, none⟩) n c := by
  rcases h.2 with ⟨_, h0⟩ | ⟨g, cap, cur, h1, _⟩
  · omega
  · exact ⟨g, cap, h1⟩
/-- the entries but that of a number -/
def outE (l : List EntL) (k : Int) : List EntL := l.filter fun e => decide (e.id ≠ k)

theorem drop_tx (T S M n : Nat) (C : Tag → List EntL) (A : Nat → Prop) (s : Nat) (k : Int) (w : World) (h : TX w T S M n C A) (hs : s < n) (hC : C (.key s) = C (.val s)) (hso : (C (.val s)).Pairwise (fun a b => a.id < b.id)) (hl : (C (.val s)).length ≤ 100000) (hin : k ∈ (C (.val s)).map (·.id)) :
    Calls Try.prog 39 #[.pointer (some ⟨S, s * 2, none⟩), .int .i64 k] w fun e w' => e = .returned (.tuple #[]) ∧ TX w' T S M n (two (.key s) (.val s) (outE (C (.val s)) k) (outE (C (.val s)) k) C) A ∧ Kpt w w' A := by
  obtain ⟨V, hx, hT, hS, hM, hV, hA⟩ := h
  obtain ⟨h1, ⟨cs, h2, h2z, h2s⟩, ⟨f, h3, h3s⟩, ⟨h4, h4a⟩, h5⟩ := hx
  have rk : w.ownsRow 0 3 1 (V (.key s)) _ _ := h4 (.key s)
  have rv : w.ownsRow 0 40 8 (V (.val s)) _ _ := h4 (.val s)
  rw [hC] at rk
  obtain ⟨p, hp⟩ : ∃ p, (C (.val s)).length = p + 1 := ⟨(C (.val s)).length - 1, by have := List.length_pos_of_mem hin; rw [List.length_map] at this; omega⟩
  rw [hp] at rk rv
  obtain ⟨g1, c1, e1⟩ := own_some rk (by omega)
  obtain ⟨g2, c2, e2⟩ := own_some rv (by omega)
  have o1 : (V (.key s)).ownBlock = some g1 := by rw [e1]; rfl
  have o2 : (V (.val s)).ownBlock = some g2 := by rw [e2]; rfl
  have hne : g1 ≠ g2 := fun e => by have := h4a _ _ g1 o1 (e ▸ o2); cases this
  rw [e1] at rk
  rw [e2] at rv
  obtain ⟨c0, c1'⟩ := h2s s hs
  rw [e1] at c0
  rw [e2] at c1'
  refine (drop_ent S (s * 2) p c1 c2 g1 g2 cs.toList _ ((C (.val s)).map (·.id)) (C (.val s)) k w (by simpa using h2) (by simpa using c0) (by simpa using c1') rk rv (h5 _ _ o1).2 (h5 _ _ o2).2 hne (List.pairwise_map.2 hso) (by omega) hin).mono ?_
  rintro e w' ⟨rfl, a, ha, r1, r2, r3, r4⟩
  have he := erase_filter hso ha
  have hka : ((C (.val s)).map (·.id)).eraseIdx a = (outE (C (.val s)) k).map (·.id) := by unfold outE; rw [← he, map_erase]
  have hol : (outE (C (.val s)) k).length = p := by
    unfold outE; rw [← he]
    have hal : a < (C (.val s)).length := by have := (List.getElem?_eq_some_iff.1 ha).1; simpa using this
    rw [List.length_eraseIdx_of_lt hal]; omega
  have hK : Kept w w' (fun b => b = S ∨ some b = (V (.key s)).ownBlock ∨ some b = (V (.val s)).ownBlock) := by
    rw [o1, o2]
    exact kept_weak r4 fun b hb => by rcases hb with h | h | h; exact .inl h; exact .inr (.inl (by rw [h])); exact .inr (.inr (by rw [h]))
  have rk' : (Tag.key s).row w' (.slice (some ⟨g1, 0, none⟩) p c1) (outE (C (.val s)) k) := by
    show w'.ownsRow 0 3 1 _ _ _
    rw [hol, ← hka]; exact r1
  have rv' : (Tag.val s).row w' (.slice (some ⟨g2, 0, none⟩) p c2) (outE (C (.val s)) k) := by
    show w'.ownsRow 0 40 8 _ _ _
    rw [hol]; unfold outE; rw [← he]; exact r2
  obtain ⟨x1, x2⟩ := tabx_shard (v1 := .slice (some ⟨g1, 0, none⟩) p c1) (v2 := .slice (some ⟨g2, 0, none⟩) p c2) ⟨h1, ⟨cs, h2, h2z, h2s⟩, ⟨f, h3, h3s⟩, ⟨h4, h4a⟩, h5⟩ s h2 ⟨h2z, h2s⟩ hs hK rk' rv' (by rw [r3, ← Array.toList_setIfInBounds, ← Array.toList_setIfInBounds, Array.toArray_toList]) (.inl (by rw [o1]; rfl)) (.inl (by rw [o2]; rfl)) (fun g hg hg' => by cases hg; cases hg'; exact hne rfl)
  refine ⟨rfl, ⟨_, x1, hT, hS, hM, fun t g hg => ?_, fun b hb => Nat.lt_of_lt_of_le (hA b hb) r4.size⟩, ⟨r4.os, r4.tape, r4.output, r4.size, fun b hb hn => r4.block b hb ?_⟩⟩
  · by_cases q1 : t = .key s
    · subst q1; rw [two_1] at hg; cases hg; exact hV _ _ o1
    · by_cases q2 : t = .val s
      · subst q2; rw [two_2 (by intro h; cases h)] at hg; cases hg; exact hV _ _ o2
      · rw [two_3 q1 q2] at hg; exact hV t g hg
  · rintro (h | h | h)
    · exact hn (h ▸ hS)
    · exact hn (h ▸ hV _ _ o1)
    · exact hn (h ▸ hV _ _ o2)
theorem forget_tx (T S M n : Nat) (C : Tag → List EntL) (A : Nat → Prop) (m : Mac) (k : Int) (w : World) (h : TX w T S M n C A) (hC : C (.mk m) = C (.mv m)) (hso : (C (.mv m)).Pairwise (fun a b => a.id < b.id)) (hl : (C (.mv m)).length ≤ 100000) (hin : k ∈ (C (.mv m)).map (·.id)) :
    Calls Try.prog 40 #[.pointer (some ⟨T, 0, none⟩), m.v, .int .i64 k] w fun e w' => e = .returned (.tuple #[]) ∧ TX w' T S M n (two (.mk m) (.mv m) (outE (C (.mv m)) k) (outE (C (.mv m)) k) C) A ∧ Kpt w w' A := by
  obtain ⟨V, hx, hT, hS, hM, hV, hA⟩ := h
  have hx' := hx
  obtain ⟨h1, ⟨cs, h2, h2z, h2s⟩, ⟨f, h3, h3s⟩, ⟨h4, h4a⟩, h5⟩ := hx
  have rk : w.ownsRow 0 3 1 (V (.mk m)) _ _ := h4 (.mk m)
  have rv : w.ownsRow 0 3 1 (V (.mv m)) _ _ := h4 (.mv m)
  rw [hC] at rk
  obtain ⟨p, hp⟩ : ∃ p, (C (.mv m)).length = p + 1 := ⟨(C (.mv m)).length - 1, by have := List.length_pos_of_mem hin; rw [List.length_map] at this; omega⟩
  rw [hp] at rk rv
  obtain ⟨g1, c1, e1⟩ := own_some rk (by omega)
  obtain ⟨g2, c2, e2⟩ := own_some rv (by omega)
  have o1 : (V (.mk m)).ownBlock = some g1 := by rw [e1]; rfl
  have o2 : (V (.mv m)).ownBlock = some g2 := by rw [e2]; rfl
  have hne : g1 ≠ g2 := fun e => by have := h4a _ _ g1 o1 (e ▸ o2); cases this
  have hM1 := own_not_map h3 rk
  have hM2 := own_not_map h3 rv
  have hTM : T ≠ M := by
    rintro rfl
    obtain ⟨es, clock, hM, -⟩ := h3
    rw [hM] at h1; cases h1
  rw [e1] at rk hM1
  rw [e2] at rv hM2
  have hf : found f m = .agg #[.slice (some ⟨g1, 0, none⟩) (p + 1) c1, .slice (some ⟨g2, 0, none⟩) (p + 1) c2] := by rw [h3s, e1, e2]
  refine (forget_st T M p c1 c2 g1 g2 f m k ((C (.mv m)).map (·.id)) ((C (.mv m)).map (·.id)) w (fun b => b = T) hf (St.begin w _ _ _ _ ?_ ?_ ?_ ?_) (List.pairwise_map.2 hso) (by omega) hin).mono ?_
  · simp only [List.mem_cons, List.not_mem_nil, or_false, forall_eq_or_imp, forall_eq]; exact ⟨rk, rv, h3⟩
  · intro o ho b hb
    refine ⟨⟨o, ho, hb⟩, ?_⟩
    simp only [List.mem_cons, List.not_mem_nil, or_false] at ho
    rcases ho with rfl | rfl | rfl
    · cases hb; exact (h5 _ _ o1).1
    · cases hb; exact (h5 _ _ o2).1
    · cases hb; exact fun e => hTM e.symm
  · refine List.pairwise_cons.2 ⟨?_, List.pairwise_cons.2 ⟨?_, List.pairwise_singleton _ _⟩⟩ <;> simp only [List.mem_cons, List.not_mem_nil, or_false, forall_eq_or_imp, forall_eq]
    · exact ⟨fun b hb hb' => by cases hb; cases hb'; exact hne rfl, fun b hb hb' => by cases hb; cases hb'; exact hM1 rfl⟩
    · exact fun b hb hb' => by cases hb; cases hb'; exact hM2 rfl
  · simp only [List.mem_singleton, forall_eq]
    exact ⟨rfl, by unfold rng; rw [h1]; rfl⟩
  rintro e w' ⟨rfl, a, f', ha, hf', hfm, K⟩
  have r1 : w'.ownsRow 0 3 1 _ _ _ := K.has 0 rfl
  have r2 : w'.ownsRow 0 3 1 _ _ _ := K.has 1 rfl
  have r3 : MapAt w' M f' := K.has 2 rfl
  have r4 : Kpt w w' (fun b => b = M ∨ b = g1 ∨ b = g2) := ⟨K.base.os, K.base.tape, K.base.output, K.base.size, fun b hb hn => K.base.block b hb (by
    rintro ⟨o, ho, hb⟩
    simp only [List.mem_cons, List.not_mem_nil, or_false] at ho
    rcases ho with rfl | rfl | rfl
    · cases hb; exact hn (.inr (.inl rfl))
    · cases hb; exact hn (.inr (.inr rfl))
    · cases hb; exact hn (.inl rfl))⟩
  have he := erase_filter hso ha
  have hka : ((C (.mv m)).map (·.id)).eraseIdx a = (outE (C (.mv m)) k).map (·.id) := by unfold outE; rw [← he, map_erase]
  have hol : (outE (C (.mv m)) k).length = p := by
    unfold outE; rw [← he]
    have hal : a < (C (.mv m)).length := by have := (List.getElem?_eq_some_iff.1 ha).1; simpa using this
    rw [List.length_eraseIdx_of_lt hal]; omega
  have hK : Kept w w' (fun b => b = M ∨ some b = (V (.mk m)).ownBlock ∨ some b = (V (.mv m)).ownBlock) := by
    rw [o1, o2]
    exact kept_weak ⟨r4.os, r4.tape, r4.output, r4.size, r4.block⟩ fun b hb => by rcases hb with h | h | h; exact .inl h; exact .inr (.inl (by rw [h])); exact .inr (.inr (by rw [h]))
  rw [hka] at r1 r2
  obtain ⟨v1, v2, hv, q1, q2, q3, q4, q5⟩ : ∃ v1 v2, found f' m = .agg #[v1, v2] ∧ (Tag.mk m).row w' v1 (outE (C (.mv m)) k) ∧ (Tag.mv m).row w' v2 (outE (C (.mv m)) k) ∧ (∀ g, v1.ownBlock = some g → g = g1) ∧ (∀ g, v2.ownBlock = some g → g = g2) ∧ True := by
    by_cases hp0 : p = 0
    · rw [if_pos hp0] at hfm
      have hnil : outE (C (.mv m)) k = [] := List.eq_nil_of_length_eq_zero (by omega)
      rw [hnil]
      exact ⟨_, _, hfm, Tag.row_nil w' _, Tag.row_nil w' _, (by intro g h; cases h), (by intro g h; cases h), trivial⟩
    · rw [if_neg hp0] at hfm
      refine ⟨_, _, hfm, ?_, ?_, (by intro g h; cases h; rfl), (by intro g h; cases h; rfl), trivial⟩
      · show w'.ownsRow 0 3 1 _ _ _
        rw [hol]; exact r1
      · show w'.ownsRow 0 3 1 _ _ _
        rw [hol]; exact r2
  obtain ⟨x1, x2⟩ := tabx_macW hx' m h3 h3s hK q1 q2 r3 hv hf' (fun g hg => .inl (by rw [q3 g hg]; exact o1)) (fun g hg => .inl (by rw [q4 g hg]; exact o2)) (fun g hg hg' => by rw [q3 g hg] at hg'; exact hne (q4 _ hg'))
  refine ⟨rfl, ⟨_, x1, hT, hS, hM, fun t g hg => ?_, fun b hb => Nat.lt_of_lt_of_le (hA b hb) r4.size⟩, ⟨r4.os, r4.tape, r4.output, r4.size, fun b hb hn => r4.block b hb ?_⟩⟩
  · by_cases t1 : t = .mk m
    · subst t1; rw [two_1] at hg; rw [q3 g hg]; exact hV _ _ o1
    · by_cases t2 : t = .mv m
      · subst t2; rw [two_2 (by intro h; cases h)] at hg; rw [q4 g hg]; exact hV _ _ o2
      · rw [two_3 t1 t2] at hg; exact hV t g hg
  · rintro (h | h | h)
    · exact hn (h ▸ hM)
    · exact hn (h ▸ hV _ _ o1)
    · exact hn (h ▸ hV _ _ o2)
end Go.Proofs.Ytkifagflnpkkaaa
