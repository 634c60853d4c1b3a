/- A table that changes: two rows of it. -/
import Derived.Test.YtkifagflnpkkaaaTabM
namespace Go.Proofs.Ytkifagflnpkkaaa
set_option linter.unusedSimpArgs false
set_option linter.unusedVariables false
open Go.RowKit
set_option maxRecDepth 10000

theorem lookAt_set (m : Mac) (v : Value) : ∀ (f : List (Mac × Value)) (i d : Nat) (u : Value), lookAt m f i = some (i + d, u) → lookAt m (f.set d (m, v)) i = some (i + d, v) ∧ ∀ m', m' ≠ m → lookAt m' (f.set d (m, v)) i = lookAt m' f i
  | [], _, _, _, h => by simp [lookAt] at h
  | p :: f, i, d, u, h => by
    rw [lookAt] at h
    by_cases hq : m.same p.1 = true
    · rw [if_pos hq] at h
      simp only [Option.some.injEq, Prod.mk.injEq] at h
      obtain rfl : d = 0 := by omega
      have hm := Mac.same_iff.1 hq
      refine ⟨by simp [lookAt, Mac.same_iff.2], fun m' hm' => ?_⟩
      simp only [List.set_cons_zero, lookAt]
      have h1 : ¬ m'.same m = true := fun e => hm' (Mac.same_iff.1 e)
      have h2 : ¬ m'.same p.1 = true := fun e => hm' (by rw [hm]; exact Mac.same_iff.1 e)
      rw [if_neg h1, if_neg h2]
    · rw [if_neg hq] at h
      obtain ⟨d', h1, _⟩ := lookAt_some m f (i + 1) (i + d) u h
      obtain rfl : d = d' + 1 := by omega
      have ih := lookAt_set m v f (i + 1) d' u (by rw [h]; first | done | (congr 2 <;> omega))
      simp only [List.set_cons_succ, lookAt, if_neg hq]
      refine ⟨by rw [ih.1]; congr 2; omega, fun m' hm' => ?_⟩
      rw [ih.2 m' hm']
theorem lookAt_app (m : Mac) (v : Value) : ∀ (f : List (Mac × Value)) (i : Nat), lookAt m f i = none → (∃ j, lookAt m (f ++ [(m, v)]) i = some (j, v)) ∧ ∀ m', m' ≠ m → lookAt m' (f ++ [(m, v)]) i = lookAt m' f i
  | [], i, _ => by
    refine ⟨⟨i, by simp [lookAt, Mac.same_iff.2]⟩, fun m' hm' => ?_⟩
    have h1 : ¬ m'.same m = true := fun e => hm' (Mac.same_iff.1 e)
    simp [lookAt, h1]
  | p :: f, i, h => by
    rw [lookAt] at h
    by_cases hq : m.same p.1 = true
    · rw [if_pos hq] at h; cases h
    · rw [if_neg hq] at h
      have ih := lookAt_app m v f (i + 1) h
      simp only [List.cons_append, lookAt, if_neg hq]
      exact ⟨ih.1, fun m' hm' => by rw [ih.2 m' hm']⟩
theorem found_upd (f : List (Mac × Value)) (m : Mac) (v : Value) : found (upd f m v) m = v ∧ ∀ m', m' ≠ m → found (upd f m v) m' = found f m' := by
  unfold found upd
  cases h : lookAt m f 0 with
  | none =>
    obtain ⟨⟨j, h1⟩, h2⟩ := lookAt_app m v f 0 h
    exact ⟨by simp only [h1], fun m' hm' => by simp only [h2 m' hm']⟩
  | some p =>
    obtain ⟨i, u⟩ := p
    have := lookAt_set m v f 0 i u (by rw [h]; first | done | (congr 2 <;> omega))
    exact ⟨by simp only [this.1], fun m' hm' => by simp only [this.2 m' hm']⟩

def two {α : Type} (t1 t2 : Tag) (v1 v2 : α) (f : Tag → α) : Tag → α := fun t => if t = t1 then v1 else if t = t2 then v2 else f t
theorem two_1 {α : Type} (t1 t2 : Tag) (v1 v2 : α) (f : Tag → α) : two t1 t2 v1 v2 f t1 = v1 := by simp [two]
theorem two_2 {α : Type} {t1 t2 : Tag} (h : t1 ≠ t2) (v1 v2 : α) (f : Tag → α) : two t1 t2 v1 v2 f t2 = v2 := by simp [two, h.symm]
theorem two_3 {α : Type} {t1 t2 t : Tag} (h1 : t ≠ t1) (h2 : t ≠ t2) (v1 v2 : α) (f : Tag → α) : two t1 t2 v1 v2 f t = f t := by simp [two, h1, h2]
theorem rows_two {w w' : World} {V : Tag → Value} {C : Tag → List EntL} (h : Rows w V C) (t1 t2 : Tag) (h12 : t1 ≠ t2) {v1 v2 : Value} {l1 l2 : List EntL} {B : Nat}
    (hK : Kept w w' (fun b => b = B ∨ some b = (V t1).ownBlock ∨ some b = (V t2).ownBlock)) (hB : ∀ t, (V t).ownBlock ≠ some B) (r1 : t1.row w' v1 l1) (r2 : t2.row w' v2 l2)
    (L1 : Lies w (V t1) v1) (L2 : Lies w (V t2) v2) (hv : ∀ g, v1.ownBlock = some g → v2.ownBlock ≠ some g) :
    Rows w' (two t1 t2 v1 v2 V) (two t1 t2 l1 l2 C) ∧ ∀ t g, (two t1 t2 v1 v2 V t).ownBlock = some g → (V t).ownBlock = some g ∨ w.heap.size ≤ g := by
  have hl1 : ∀ g, v1.ownBlock = some g → (V t1).ownBlock = some g ∨ w.heap.size ≤ g := fun g hg => by
    rcases L1 with h | ⟨g', h, hge⟩
    · exact .inl (h ▸ hg)
    · rw [h] at hg; cases hg; exact .inr hge
  have hl2 : ∀ g, v2.ownBlock = some g → (V t2).ownBlock = some g ∨ w.heap.size ≤ g := fun g hg => by
    rcases L2 with h | ⟨g', h, hge⟩
    · exact .inl (h ▸ hg)
    · rw [h] at hg; cases hg; exact .inr hge
  have hlt : ∀ t g, (V t).ownBlock = some g → g < w.heap.size := fun t g hg => Tag.row_lt (h.rows t) hg
  have hall : ∀ t g, (two t1 t2 v1 v2 V t).ownBlock = some g → (V t).ownBlock = some g ∨ w.heap.size ≤ g := fun t g hg => by
    by_cases e1 : t = t1
    · subst e1; rw [two_1] at hg; exact hl1 g hg
    · by_cases e2 : t = t2
      · subst e2; rw [two_2 h12] at hg; exact hl2 g hg
      · rw [two_3 e1 e2] at hg; exact .inl hg
  refine ⟨⟨fun t => ?_, fun t t' g hg hg' => ?_⟩, hall⟩
  · by_cases e1 : t = t1
    · subst e1; rw [two_1, two_1]; exact r1
    · by_cases e2 : t = t2
      · subst e2; rw [two_2 h12, two_2 h12]; exact r2
      · rw [two_3 e1 e2, two_3 e1 e2]
        refine Tag.row_kept (h.rows t) hK fun g hg hh => ?_
        rcases hh with hh | hh | hh
        · exact hB t (hh ▸ hg)
        · exact e1 (h.apart t t1 g hg hh.symm)
        · exact e2 (h.apart t t2 g hg hh.symm)
  · rcases hall t g hg with a1 | a1 <;> rcases hall t' g hg' with a2 | a2
    · exact h.apart t t' g a1 a2
    · have := hlt t g a1; omega
    · have := hlt t' g a2; omega
    · have old : ∀ s, s ≠ t1 → s ≠ t2 → (two t1 t2 v1 v2 V s).ownBlock ≠ some g := fun s e1 e2 hs => by
        rw [two_3 e1 e2] at hs; have := hlt s g hs; omega
      by_cases e1 : t = t1
      · subst e1
        by_cases e1' : t' = t
        · exact e1'.symm
        · by_cases e2' : t' = t2
          · subst e2'
            rw [two_1] at hg; rw [two_2 h12] at hg'
            exact absurd hg' (hv g hg)
          · exact absurd hg' (old t' e1' e2')
      · by_cases e2 : t = t2
        · subst e2
          by_cases e1' : t' = t1
          · subst e1'
            rw [two_2 h12] at hg; rw [two_1] at hg'
            exact absurd hg (hv g hg')
          · by_cases e2' : t' = t
            · exact e2'.symm
            · exact absurd hg' (old t' e1' e2')
        · exact absurd hg (old t e1 e2)

theorem tabx_shard {w w' : World} {T S M n : Nat} {V : Tag → Value} {C : Tag → List EntL} {cs : Array Value} (h : Tabx w T S M n V C) (s : Nat) {v1 v2 : Value} {l1 l2 : List EntL} (hS : w.heap[S]? = some (.cells cs 80 (0, 0)))
    (hc : cs.size = 2 * n ∧ ∀ s, s < n → cs[s * 2]? = some (V (.key s)) ∧ cs[s * 2 + 1]? = some (V (.val s))) (hs : s < n)
    (hK : Kept w w' (fun b => b = S ∨ some b = (V (.key s)).ownBlock ∨ some b = (V (.val s)).ownBlock)) (r1 : (Tag.key s).row w' v1 l1) (r2 : (Tag.val s).row w' v2 l2)
    (hS' : w'.heap[S]? = some (.cells ((cs.setIfInBounds (s * 2) v1).setIfInBounds (s * 2 + 1) v2) 80 (0, 0)))
    (L1 : Lies w (V (.key s)) v1) (L2 : Lies w (V (.val s)) v2) (hv : ∀ g, v1.ownBlock = some g → v2.ownBlock ≠ some g) :
    Tabx w' T S M n (two (.key s) (.val s) v1 v2 V) (two (.key s) (.val s) l1 l2 C) ∧ ∀ t g, (two (.key s) (.val s) v1 v2 V t).ownBlock = some g → (V t).ownBlock = some g ∨ w.heap.size ≤ g := by
  obtain ⟨h1, -, ⟨f, h3, h3m⟩, h4, h5⟩ := h
  have hne : Tag.key s ≠ .val s := by intro h; cases h
  have hTl := (Array.getElem?_eq_some_iff.1 h1).1
  have hSl := (Array.getElem?_eq_some_iff.1 hS).1
  obtain ⟨hr, ho⟩ := rows_two h4 (.key s) (.val s) hne hK (fun t hg => (h5 t S hg).2 rfl) r1 r2 L1 L2 hv
  have hTS : T ≠ S := by rintro rfl; rw [h1] at hS; cases hS
  have hMS : M ≠ S := by
    rintro rfl
    obtain ⟨es, clock, hM, -⟩ := h3
    rw [hM] at hS; cases hS
  refine ⟨⟨(hK.block T hTl (by rintro (h | h | h); exact hTS h; exact (h5 _ T h.symm).1 rfl; exact (h5 _ T h.symm).1 rfl)).trans h1, ⟨_, hS', by simp [hc.1], fun q hq => ?_⟩, ⟨f, map_kept h3 hK (by
      rintro (h | h | h)
      · exact hMS h
      · obtain ⟨e, size, xs, ho⟩ := Tag.row_own (h4.rows (.key s)); exact own_not_map h3 ho h.symm
      · obtain ⟨e, size, xs, ho⟩ := Tag.row_own (h4.rows (.val s)); exact own_not_map h3 ho h.symm), fun m => ?_⟩, hr, fun t g hg => ?_⟩, ho⟩
  · by_cases e : q = s
    · subst e
      rw [two_1, two_2 hne]
      constructor
      · rw [Array.getElem?_setIfInBounds_ne (by omega), Array.getElem?_setIfInBounds_self_of_lt (by omega)]
      · rw [Array.getElem?_setIfInBounds_self_of_lt (by simp; omega)]
    · rw [two_3 (by intro h; cases h; exact e rfl) (by intro h; cases h), two_3 (by intro h; cases h) (by intro h; cases h; exact e rfl)]
      constructor
      · rw [Array.getElem?_setIfInBounds_ne (by omega), Array.getElem?_setIfInBounds_ne (by omega)]; exact (hc.2 q hq).1
      · rw [Array.getElem?_setIfInBounds_ne (by omega), Array.getElem?_setIfInBounds_ne (by omega)]; exact (hc.2 q hq).2
  · rw [two_3 (by intro h; cases h) (by intro h; cases h), two_3 (by intro h; cases h) (by intro h; cases h)]; exact h3m m
  · rcases ho t g hg with h | h
    · exact h5 t g h
    · exact ⟨fun e => by omega, fun e => by omega⟩
theorem tabx_mac {w w' : World} {T S M n : Nat} {V : Tag → Value} {C : Tag → List EntL} {f f' : List (Mac × Value)} (h : Tabx w T S M n V C) (m : Mac) {v1 v2 : Value} {l1 l2 : List EntL} (hM : MapAt w M f) (hf : ∀ m, found f m = .agg #[V (.mk m), V (.mv m)])
    (hK : Kept w w' (fun b => b = M ∨ some b = (V (.mk m)).ownBlock ∨ some b = (V (.mv m)).ownBlock)) (r1 : (Tag.mk m).row w' v1 l1) (r2 : (Tag.mv m).row w' v2 l2)
    (hM' : MapAt w' M f') (hf1 : found f' m = .agg #[v1, v2]) (hf2 : ∀ m', m' ≠ m → found f' m' = found f m')
    (L1 : Lies w (V (.mk m)) v1) (L2 : Lies w (V (.mv m)) v2) (hv : ∀ g, v1.ownBlock = some g → v2.ownBlock ≠ some g) :
    Tabx w' T S M n (two (.mk m) (.mv m) v1 v2 V) (two (.mk m) (.mv m) l1 l2 C) ∧ ∀ t g, (two (.mk m) (.mv m) v1 v2 V t).ownBlock = some g → (V t).ownBlock = some g ∨ w.heap.size ≤ g := by
  obtain ⟨h1, ⟨cs, h2, hcs, hc⟩, -, h4, h5⟩ := h
  have hne : Tag.mk m ≠ .mv m := by intro h; cases h
  have hTl := (Array.getElem?_eq_some_iff.1 h1).1
  have hSl := (Array.getElem?_eq_some_iff.1 h2).1
  have hMo : ∀ t, (V t).ownBlock ≠ some M := fun t => by
    obtain ⟨e, size, xs, ho⟩ := Tag.row_own (h4.rows t); exact own_not_map hM ho
  obtain ⟨hr, ho⟩ := rows_two h4 (.mk m) (.mv m) hne hK hMo r1 r2 L1 L2 hv
  have hTM : T ≠ M := by
    rintro rfl
    obtain ⟨es, clock, hM, -⟩ := hM
    rw [hM] at h1; cases h1
  have hSM : S ≠ M := by
    rintro rfl
    obtain ⟨es, clock, hM, -⟩ := hM
    rw [hM] at h2; cases h2
  refine ⟨⟨(hK.block T hTl (by rintro (h | h | h); exact hTM h; exact (h5 _ T h.symm).1 rfl; exact (h5 _ T h.symm).1 rfl)).trans h1,
    ⟨cs, (hK.block S hSl (by rintro (h | h | h); exact hSM h; exact (h5 _ S h.symm).2 rfl; exact (h5 _ S h.symm).2 rfl)).trans h2, hcs, fun q hq => ?_⟩, ⟨f', hM', fun m' => ?_⟩, hr, fun t g hg => ?_⟩, ho⟩
  · rw [two_3 (by intro h; cases h) (by intro h; cases h), two_3 (by intro h; cases h) (by intro h; cases h)]; exact hc q hq
  · by_cases e : m' = m
    · subst e; rw [two_1, two_2 hne]; exact hf1
    · rw [two_3 (by intro h; cases h; exact e rfl) (by intro h; cases h), two_3 (by intro h; cases h) (by intro h; cases h; exact e rfl)]; rw [hf2 m' e]; exact hf m'
  · rcases ho t g hg with h | h
    · exact h5 t g h
    · exact ⟨fun e => by omega, fun e => by omega⟩

/-- the entries with one put in -/
def insE (l : List EntL) (x : EntL) : List EntL := (l.filter fun e => decide (e.id < x.id)) ++ [x] ++ l.filter fun e => !decide (e.id < x.id)
theorem put_insE {l : List EntL} {x : EntL} {a : Nat} (h : PlaceIs (l.map (·.id)) x.id a) : putEnt l a x = insE l x := by
  have h1 : ∀ e ∈ l.take a, e.id < x.id := fun e he => by
    obtain ⟨i, hi, rfl⟩ := List.mem_iff_getElem.1 he
    rw [List.length_take] at hi
    exact h.2.1 i _ (by omega) (by rw [List.getElem?_map, List.getElem_take]; simp [show i < l.length by omega])
  have h2 : ∀ e ∈ l.drop a, ¬ e.id < x.id := fun e he => by
    obtain ⟨i, hi, rfl⟩ := List.mem_iff_getElem.1 he
    rw [List.length_drop] at hi
    have : x.id ≤ (l[a + i]'(by omega)).id := h.2.2 (a + i) _ (by omega) (by rw [List.getElem?_map, List.getElem?_eq_getElem (by omega)]; rfl)
    rw [List.getElem_drop]; omega
  unfold putEnt insE
  conv => rhs; rw [← List.take_append_drop a l]
  rw [List.filter_append, List.filter_append, List.filter_eq_self.2 (by simpa using h1), List.filter_eq_nil_iff.2 (by simpa using h2), List.filter_eq_nil_iff.2 (by simpa using h1), List.filter_eq_self.2 (by simpa using h2)]
  simp
theorem sort_split : ∀ (l : List EntL) (k : Int), l.Pairwise (fun a b => a.id < b.id) → (l.filter fun e => decide (e.id < k)) ++ (l.filter fun e => !decide (e.id < k)) = l
  | [], _, _ => rfl
  | x :: l, k, h => by
    rw [List.pairwise_cons] at h
    by_cases hx : x.id < k
    · rw [List.filter_cons_of_pos (by simpa using hx), List.filter_cons_of_neg (by simpa using hx), List.cons_append, sort_split l k h.2]
    · have : ∀ e ∈ x :: l, ¬ e.id < k := fun e he => by
        rcases List.mem_cons.1 he with rfl | he
        · exact hx
        · have := h.1 e he; omega
      rw [List.filter_eq_nil_iff.2 (by simpa using this), List.filter_eq_self.2 (by simpa using this)]; rfl
theorem insE_filter {L : List EntL} (h : L.Pairwise (fun a b => a.id < b.id)) (x : EntL) (p : EntL → Bool) : (insE L x).filter p = if p x then insE (L.filter p) x else L.filter p := by
  unfold insE
  simp only [List.filter_append, List.filter_filter, List.filter_cons, List.filter_nil]
  split
  · congr 1
    · congr 1; exact List.filter_congr fun e _ => by rw [Bool.and_comm]
    · exact List.filter_congr fun e _ => by rw [Bool.and_comm]
  · rw [List.append_nil, ← List.filter_filter, ← List.filter_filter, ← List.filter_append, sort_split L x.id h]
theorem insE_mem {L : List EntL} {x e : EntL} : e ∈ insE L x ↔ e = x ∨ e ∈ L := by
  unfold insE
  simp only [List.mem_append, List.mem_filter, List.mem_cons, List.not_mem_nil, or_false, Bool.not_eq_true', decide_eq_false_iff_not, decide_eq_true_eq]
  constructor
  · rintro ((h | h) | h)
    · exact .inr h.1
    · exact .inl h
    · exact .inr h.1
  · rintro (h | h)
    · exact .inl (.inr h)
    · by_cases hlt : e.id < x.id
      · exact .inl (.inl ⟨h, hlt⟩)
      · exact .inr ⟨h, hlt⟩
theorem insE_good {L : List EntL} (h : Good L) {x : EntL} (hx : 1 ≤ x.id ∧ x.id ≤ 65534 ∧ 0 ≤ x.seen ∧ x.seen ≤ 1099511627776) (hno : ∀ e ∈ L, e.id ≠ x.id) : Good (insE L x) := by
  refine ⟨?_, fun e he => ?_⟩
  · unfold insE
    simp only [List.pairwise_append, List.pairwise_cons, List.not_mem_nil, List.Pairwise.nil, List.mem_filter, List.mem_cons, List.mem_append, or_false, Bool.not_eq_true', decide_eq_false_iff_not, decide_eq_true_eq]
    refine ⟨⟨h.sorted.filter _, ⟨by simp, trivial⟩, ?_⟩, h.sorted.filter _, ?_⟩
    · rintro a ⟨_, ha⟩ b rfl; exact ha
    · rintro a (⟨_, ha⟩ | rfl) b ⟨hb, hb2⟩
      · omega
      · have := hno b hb; omega
  · rcases insE_mem.1 he with rfl | he
    · exact hx
    · exact h.range e he
theorem insE_len (L : List EntL) (x : EntL) : (insE L x).length = L.length + 1 := by
  unfold insE
  simp only [List.length_append, List.length_cons, List.length_nil]
  have : ∀ l : List EntL, (l.filter fun e => decide (e.id < x.id)).length + (l.filter fun e => !decide (e.id < x.id)).length = l.length := fun l => by
    induction l with
    | nil => rfl
    | cons e l ih => by_cases h : e.id < x.id <;> simp [h] <;> omega
  have := this L
  omega
theorem cont_ins {n : Nat} {L : List EntL} (h : Good L) (x : EntL) :
    two (.mk x.mac) (.mv x.mac) (insE (Cont n L (.mk x.mac)) x) (insE (Cont n L (.mv x.mac)) x) (two (.key (x.id.toNat % n)) (.val (x.id.toNat % n)) (insE (Cont n L (.key (x.id.toNat % n))) x) (insE (Cont n L (.val (x.id.toNat % n))) x) (Cont n L)) = Cont n (insE L x) := by
  funext t
  cases t with
  | key s =>
    rw [two_3 (by intro h; cases h) (by intro h; cases h)]
    by_cases e : s = x.id.toNat % n
    · subst e; rw [two_1]; simp only [Cont]; rw [insE_filter h.sorted]; simp
    · rw [two_3 (by intro h; cases h; exact e rfl) (by intro h; cases h)]; simp only [Cont]; rw [insE_filter h.sorted, if_neg (by simpa using fun h => e h.symm)]
  | val s =>
    rw [two_3 (by intro h; cases h) (by intro h; cases h)]
    by_cases e : s = x.id.toNat % n
    · subst e; rw [two_2 (by intro h; cases h)]; simp only [Cont]; rw [insE_filter h.sorted]; simp
    · rw [two_3 (by intro h; cases h) (by intro h; cases h; exact e rfl)]; simp only [Cont]; rw [insE_filter h.sorted, if_neg (by simpa using fun h => e h.symm)]
  | mk m =>
    by_cases e : m = x.mac
    · subst e; rw [two_1]; simp only [Cont]; rw [insE_filter h.sorted]; simp
    · rw [two_3 (by intro h; cases h; exact e rfl) (by intro h; cases h), two_3 (by intro h; cases h) (by intro h; cases h)]; simp only [Cont]; rw [insE_filter h.sorted, if_neg (by simpa using fun h => e h.symm)]
  | mv m =>
    by_cases e : m = x.mac
    · subst e; rw [two_2 (by intro h; cases h)]; simp only [Cont]; rw [insE_filter h.sorted]; simp
    · rw [two_3 (by intro h; cases h) (by intro h; cases h; exact e rfl), two_3 (by intro h; cases h) (by intro h; cases h)]; simp only [Cont]; rw [insE_filter h.sorted, if_neg (by simpa using fun h => e h.symm)]
end Go.Proofs.Ytkifagflnpkkaaa
