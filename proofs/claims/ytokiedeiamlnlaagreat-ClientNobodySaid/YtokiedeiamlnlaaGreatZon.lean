/- Zon: what a call owns, and what it reads: readers of data; the state of a walk. No condition. -/
import Derived.Test.YtokiedeiamlnlaaGreatGw
import Derived.Maps.AppendAt
import Derived.Laws.ResultCell
namespace Go.Proofs.YtokiedeiamlnlaaGreat
set_option linter.unusedSimpArgs false
set_option linter.unusedVariables false
open Go.RowKit
set_option maxRecDepth 10000

/-! Readers. -/
/-- what lies on the blocks of z reads the same in w' -/
def Stay (z : Nat → Prop) (w : World) (z' : Nat → Prop) (w' : World) : Prop :=
  ∀ b, z b → b < w.heap.size → w'.heap[b]? = w.heap[b]? ∧ z' b
theorem Stay.trans {z z1 z2 : Nat → Prop} {w w1 w2 : World} (h : Stay z w z1 w1) (hs : w.heap.size ≤ w1.heap.size) (h2 : Stay z1 w1 z2 w2) : Stay z w z2 w2 :=
  fun b hb hl => ⟨(h2 b (h b hb hl).2 (Nat.lt_of_lt_of_le hl hs)).1.trans (h b hb hl).1, (h2 b (h b hb hl).2 (Nat.lt_of_lt_of_le hl hs)).2⟩
theorem stay_wider {z z' : Nat → Prop} {w : World} (h : ∀ b, z b → b < w.heap.size → z' b) : Stay z w z' w := fun b hb hl => ⟨rfl, h b hb hl⟩

structure Rdr (α : Type) where
  n : Nat
  R : (Nat → Prop) → World → List Value → α → Prop
  len : ∀ {z w cs a}, R z w cs a → cs.length = n
  one : ∀ {z w cs a}, R z w cs a → ∀ u ∈ cs, u.oneCell' = true
  stay : ∀ {z w z' w' cs a}, R z w cs a → Stay z w z' w' → R z' w' cs a

theorem rng_lt {w : World} {b o n : Nat} {cs : List Value} (h : rng w b o n = some cs) : b < w.heap.size := by
  unfold rng at h
  split at h
  · rename_i c t fr hb
    exact (Array.getElem?_eq_some_iff.1 hb).1
  · cases h
theorem rng_same {w w' : World} {b : Nat} (h : w'.heap[b]? = w.heap[b]?) (o n : Nat) : rng w' b o n = rng w b o n := by
  unfold rng; rw [h]

abbrev rInt (k : IntKind) : Rdr Int where
  n := 1
  R _ _ cs a := cs = [.int k a]
  len h := by rw [h]; rfl
  one h := by rw [h]; simp [Value.oneCell']
  stay h _ := h
abbrev rByte : Rdr UInt8 where
  n := 1
  R _ _ cs a := cs = [bv a]
  len h := by rw [h]; rfl
  one h := by rw [h]; simp [Value.oneCell']
  stay h _ := h
abbrev rBool : Rdr Bool where
  n := 1
  R _ _ cs a := cs = [.bool a]
  len h := by rw [h]; rfl
  one h := by rw [h]; simp [Value.oneCell']
  stay h _ := h
abbrev rStr : Rdr ByteArray where
  n := 1
  R _ _ cs a := cs = [.string a]
  len h := by rw [h]; rfl
  one h := by rw [h]; simp [Value.oneCell']
  stay h _ := h
abbrev rUnit : Rdr Unit where
  n := 0
  R _ _ cs _ := cs = []
  len h := by rw [h]; rfl
  one h := by rw [h]; simp
  stay h _ := h
abbrev rPair {α β : Type} (p : Rdr α) (q : Rdr β) : Rdr (α × β) where
  n := p.n + q.n
  R z w cs a := ∃ c d, cs = c ++ d ∧ p.R z w c a.1 ∧ q.R z w d a.2
  len := by rintro z w cs a ⟨c, d, rfl, h1, h2⟩; rw [List.length_append, p.len h1, q.len h2]
  one := by
    rintro z w cs a ⟨c, d, rfl, h1, h2⟩ u hu
    rcases List.mem_append.1 hu with h | h
    · exact p.one h1 u h
    · exact q.one h2 u h
  stay := by rintro z w z' w' cs a ⟨c, d, rfl, h1, h2⟩ h; exact ⟨c, d, rfl, p.stay h1 h, q.stay h2 h⟩
abbrev rIso {α β : Type} (p : Rdr β) (f : α → β) : Rdr α where
  n := p.n
  R z w cs a := p.R z w cs (f a)
  len h := p.len h
  one h := p.one h
  stay h hs := p.stay h hs

/-- v is a slice of l -/
def SlZ {α : Type} (r : Rdr α) (z : Nat → Prop) (w : World) (v : Value) (l : List α) : Prop :=
  ∃ ad cap, v = .slice ad l.length cap ∧ l.length ≤ cap ∧ cap ≤ maxLen ∧ (ad = none → cap = 0) ∧ (l ≠ [] → ∃ b o, ad = some ⟨b, o, none⟩ ∧ z b ∧ ∀ i x, l[i]? = some x → ∃ cs, rng w b (o + i * r.n) r.n = some cs ∧ r.R z w cs x)
theorem SlZ.stay {α : Type} {r : Rdr α} {z z' : Nat → Prop} {w w' : World} {v : Value} {l : List α} (h : SlZ r z w v l) (hs : Stay z w z' w') : SlZ r z' w' v l := by
  obtain ⟨ad, cap, rfl, h1, h2, h4, h3⟩ := h
  refine ⟨ad, cap, rfl, h1, h2, h4, fun hne => ?_⟩
  obtain ⟨b, o, rfl, hz, hr⟩ := h3 hne
  obtain ⟨cs0, h0, _⟩ := hr 0 _ (List.getElem?_eq_getElem (List.length_pos_iff.2 hne))
  have hb := hs b hz (rng_lt h0)
  refine ⟨b, o, rfl, hb.2, fun i x hx => ?_⟩
  obtain ⟨cs, g1, g2⟩ := hr i x hx
  exact ⟨cs, (rng_same hb.1 _ _).trans g1, r.stay g2 hs⟩
abbrev rSl {α : Type} (r : Rdr α) : Rdr (List α) where
  n := 1
  R z w cs l := ∃ v, cs = [v] ∧ SlZ r z w v l
  len := by rintro z w cs a ⟨v, rfl, _⟩; rfl
  one := by rintro z w cs a ⟨v, rfl, _, _, rfl, _⟩; simp [Value.oneCell']
  stay := by rintro z w z' w' cs a ⟨v, rfl, h⟩ hs; exact ⟨v, rfl, h.stay hs⟩

theorem SlZ.nil {α : Type} (r : Rdr α) (z : Nat → Prop) (w : World) : SlZ r z w (.slice none 0 0) [] := ⟨none, 0, rfl, Nat.le_refl _, Nat.zero_le _, fun _ => rfl, fun h => absurd rfl h⟩
theorem SlZ.shape {α : Type} {r : Rdr α} {z : Nat → Prop} {w : World} {v : Value} {l : List α} (h : SlZ r z w v l) : ∃ ad cap, v = .slice ad l.length cap ∧ l.length ≤ cap ∧ cap ≤ maxLen := by
  obtain ⟨ad, cap, h0, h1, h2, _⟩ := h
  exact ⟨ad, cap, h0, h1, h2⟩
theorem SlZ.len_le {α : Type} {r : Rdr α} {z : Nat → Prop} {w : World} {v : Value} {l : List α} (h : SlZ r z w v l) : l.length ≤ 9223372036854775807 := by
  obtain ⟨_, _, _, h1, h2⟩ := h.shape
  unfold maxLen at h2; omega
/-- an element's cells -/
theorem SlZ.get {α : Type} {r : Rdr α} {z : Nat → Prop} {w : World} {ad : Option Addr} {n cap : Nat} {l : List α} (h : SlZ r z w (.slice ad n cap) l) {i : Nat} {x : α} (hx : l[i]? = some x) : ∃ b o cs, ad = some ⟨b, o, none⟩ ∧ z b ∧ rng w b (o + i * r.n) r.n = some cs ∧ r.R z w cs x := by
  obtain ⟨ad', cap', h0, h1, h2, -, h3⟩ := h
  injection h0 with h0
  subst h0
  obtain ⟨b, o, rfl, hz, hr⟩ := h3 (by rintro rfl; simp at hx)
  obtain ⟨cs, g1, g2⟩ := hr i x hx
  exact ⟨b, o, cs, rfl, hz, g1, g2⟩

/-- what stayed, but in the blocks of S -/
structure Kpt (w w' : World) (S : Nat → Prop) : Prop where
  os : w'.os = w.os
  tape : w'.tape = w.tape
  output : w'.output = w.output
  size : w.heap.size ≤ w'.heap.size
  block : ∀ k, k < w.heap.size → ¬ S k → w'.heap[k]? = w.heap[k]?
theorem Kpt.refl (w : World) (S : Nat → Prop) : Kpt w w S := ⟨rfl, rfl, rfl, Nat.le_refl _, fun _ _ _ => rfl⟩
theorem Kpt.of_below {w w' : World} (h : Below w.heap.size w w') (S : Nat → Prop) : Kpt w w' S := ⟨h.os, h.tape, h.output, h.size, fun k hk _ => h.block k hk⟩
theorem Kpt.below {w w' : World} {S : Nat → Prop} (h : Kpt w w' S) (hS : ∀ k, S k → w.heap.size ≤ k) : Below w.heap.size w w' := ⟨h.os, h.tape, h.output, h.size, fun k hk => h.block k hk (fun e => by have := hS k e; omega)⟩

/-! What a call owns. -/
structure As where
  holds : World → Prop
  foot : Nat → Prop
  lt : ∀ {w}, holds w → ∀ b, foot b → b < w.heap.size
  kept : ∀ {w w'} {S : Nat → Prop}, holds w → Kpt w w' S → (∀ b, foot b → ¬ S b) → holds w'
  fact : World → Prop
  tell : ∀ {w}, holds w → fact w

/-- the cells of block b are cs -/
def Blk (w : World) (B : Nat) (cs : List Value) : Prop := (∀ k, w.cell? ⟨B, k, none⟩ = cs[k]?) ∧ (∀ k, w.frozen? ⟨B, k, none⟩ = false) ∧ ∀ o n, rng w B o n = if o + n ≤ cs.length then some ((cs.drop o).take n) else none
/-- a block of its own: a variable -/
def va (B : Nat) (cs : List Value) (t : TypeId) : As where
  holds w := w.heap[B]? = some (.cells cs.toArray t (0, 0))
  foot b := b = B
  lt := by rintro w h b rfl; exact (Array.getElem?_eq_some_iff.1 h).1
  kept := fun h hk hn => (hk.block B (Array.getElem?_eq_some_iff.1 h).1 (hn _ rfl)).trans h
  fact w := Blk w B cs
  tell := fun {w} h => ⟨fun k => by rw [cell_of_row w B k _ _ _ h]; simp, fun k => frozen_of_row w B k _ _ h, fun o n => by unfold rng; rw [h]; simp⟩
/-- a slice of its own: its cells -/
def vec (e size : Nat) (v : Value) (n : Nat) (xs : List Value) : As where
  holds w := w.ownsRow 0 e size v n xs
  foot b := v.ownBlock = some b
  lt := fun h b hb => (h.lt b hb).2
  kept := by
    intro w w' S h hk hn
    refine ⟨h.1, ?_⟩
    rcases h.2 with h2 | ⟨g, cap, cur, rfl, hb, hg, r⟩
    · exact .inl h2
    · exact .inr ⟨g, cap, cur, rfl, hb, (hk.block g (Array.getElem?_eq_some_iff.1 hg).1 (hn g rfl)).trans hg, r⟩
  fact _ := True
  tell := fun _ => trivial
/-- something else: an object at block T -/
def obj (T : Nat) (p : World → (Nat → Prop) → Prop) (A : Nat → Prop) (hl : ∀ {w}, p w A → ∀ b, A b → b < w.heap.size) (hk : ∀ {w w'} {S : Nat → Prop}, p w A → Kpt w w' S → (∀ b, A b → ¬ S b) → p w' A) : As where
  holds w := p w A
  foot := A
  lt := hl
  kept := hk
  fact _ := True
  tell := fun _ => trivial

/-- what may be read: what the caller let be read (z), and what is new, but what is owned -/
def zone (w0 : World) (z : Nat → Prop) (O : List As) (w : World) : Nat → Prop := fun b => (b < w0.heap.size → z b) ∧ b < w.heap.size ∧ ∀ o ∈ O, ¬ o.foot b
/-- a reading -/
structure Rd where
  p : (Nat → Prop) → World → Prop
  stay : ∀ {z w z' w'}, p z w → Stay z w z' w' → p z' w'
  fact : World → Prop
  tell : ∀ {z w}, p z w → fact w
def rd {α : Type} (r : Rdr α) (cs : List Value) (a : α) : Rd := ⟨fun z w => r.R z w cs a, fun h hs => r.stay h hs, fun _ => True, fun _ => trivial⟩
/-- a slice that is read -/
def rdS {α : Type} (r : Rdr α) (v : Value) (l : List α) : Rd := ⟨fun z w => SlZ r z w v l, fun h hs => h.stay hs, fun _ => True, fun _ => trivial⟩
def CellsAt (w : World) (b o : Nat) : Nat → List Value → Prop
  | _, [] => True
  | i, v :: cs => w.cell? ⟨b, o + i, none⟩ = some v ∧ CellsAt w b o (i + 1) cs
theorem cellsAt_of {w : World} {b o : Nat} : ∀ (cs : List Value) (i : Nat), w.rangeAt b (o + i) cs → CellsAt w b o i cs
  | [], _, _ => trivial
  | v :: cs, i, h => ⟨h 0 v rfl, cellsAt_of cs (i + 1) fun j u hu => by have := h (j + 1) u (by simpa using hu); rwa [show o + (i + 1) + j = o + i + (j + 1) by omega]⟩
/-- cells that are read -/
def rdE (b o : Nat) (cs : List Value) : Rd where
  p z w := z b ∧ rng w b o cs.length = some cs
  stay h hs := ⟨(hs b h.1 (rng_lt h.2)).2, (rng_same (hs b h.1 (rng_lt h.2)).1 _ _).trans h.2⟩
  fact w := rng w b o cs.length = some cs ∧ CellsAt w b o 0 cs
  tell h := ⟨h.2, cellsAt_of _ 0 (rng_at h.2)⟩

/-- the state of a walk that began in w0: it may write the blocks of G and what is new; it owns O, and reads T -/
structure St (w0 : World) (G z : Nat → Prop) (O : List As) (T : List Rd) (w : World) : Prop where
  base : Kpt w0 w G
  own : ∀ o ∈ O, o.holds w
  new : ∀ o ∈ O, ∀ b, o.foot b → w0.heap.size ≤ b ∨ G b
  apart : O.Pairwise (fun a b => ∀ k, a.foot k → ¬ b.foot k)
  rds : ∀ r ∈ T, r.p (zone w0 z O w) w

section
variable {w0 w : World} {G z : Nat → Prop} {O : List As} {T : List Rd}

theorem St.start (w : World) (z : Nat → Prop) (T : List Rd) (h : ∀ r ∈ T, r.p z w) : St w (fun _ => False) z [] T w :=
  ⟨Kpt.refl _ _, by simp, by simp, .nil, fun r hr => r.stay (h r hr) (stay_wider fun b hb hl => ⟨fun _ => hb, hl, by simp⟩)⟩
theorem St.begin (w : World) (G z : Nat → Prop) (O : List As) (T : List Rd) (ho : ∀ o ∈ O, o.holds w) (hg : ∀ o ∈ O, ∀ b, o.foot b → G b ∧ ¬ z b) (ha : O.Pairwise (fun a b => ∀ k, a.foot k → ¬ b.foot k)) (h : ∀ r ∈ T, r.p z w) : St w G z O T w :=
  ⟨Kpt.refl _ _, ho, fun o ho b hb => .inr (hg o ho b hb).1, ha, fun r hr => r.stay (h r hr) (stay_wider fun b hb hl => ⟨fun _ => hb, hl, fun o ho hf => (hg o ho b hf).2 hb⟩)⟩
theorem St.rd (H : St w0 G z O T w) (i : Nat) {r : Rd} (h : T[i]? = some r) : r.p (zone w0 z O w) w := H.rds r (List.mem_of_getElem? h)
theorem St.has (H : St w0 G z O T w) (i : Nat) {o : As} (h : O[i]? = some o) : o.holds w := H.own o (List.mem_of_getElem? h)
theorem St.lt (H : St w0 G z O T w) {o : As} (h : o ∈ O) {b : Nat} (hb : o.foot b) : b < w.heap.size := o.lt (H.own o h) b hb

/-- something new came, nothing else changed -/
theorem St.grow (H : St w0 G z O T w) {w' : World} (N : List As) (T' : List Rd) (hb : Below w.heap.size w w') (hN : ∀ o ∈ N, o.holds w') (hn : ∀ o ∈ N, ∀ b, o.foot b → w.heap.size ≤ b) (ha : N.Pairwise (fun a b => ∀ k, a.foot k → ¬ b.foot k))
    (hT : ∀ r ∈ T', r.p (zone w0 z (N ++ O) w') w') : St w0 G z (N ++ O) (T' ++ T) w' := by
  refine ⟨⟨hb.os.trans H.base.os, hb.tape.trans H.base.tape, hb.output.trans H.base.output, Nat.le_trans H.base.size hb.size, fun k hk hG => (hb.block k (Nat.lt_of_lt_of_le hk H.base.size)).trans (H.base.block k hk hG)⟩, ?_, ?_, ?_, ?_⟩
  · intro o ho
    rcases List.mem_append.1 ho with h | h
    · exact hN o h
    · exact o.kept (H.own o h) (Kpt.of_below hb (fun _ => False)) fun _ _ h => h
  · intro o ho b hf
    rcases List.mem_append.1 ho with h | h
    · exact .inl (Nat.le_trans H.base.size (hn o h b hf))
    · exact H.new o h b hf
  · refine List.pairwise_append.2 ⟨ha, H.apart, fun a ha b hb' k h1 h2 => ?_⟩
    have := hn a ha k h1
    have := H.lt hb' h2
    omega
  · intro r hr
    rcases List.mem_append.1 hr with h | h
    · exact hT r h
    · refine r.stay (H.rds r h) fun b hz hl => ⟨hb.block b hl, hz.1, Nat.lt_of_lt_of_le hl hb.size, fun o ho hf => ?_⟩
      rcases List.mem_append.1 ho with h | h
      · have := hn o h b hf; omega
      · exact hz.2.2 o h hf
theorem St.alloc (H : St w0 G z O T w) (cs : List Value) (t : TypeId) : St w0 G z (va w.heap.size cs t :: O) T (w.alloc (.cells cs.toArray t)) := by
  have := H.grow [va w.heap.size cs t] [] ((Below.refl _ _).alloc (Nat.le_refl _) (.cells cs.toArray t)) (by simp only [List.mem_singleton, forall_eq]; exact heap_alloc_new w _) (by simp only [List.mem_singleton, forall_eq]; rintro b rfl; exact Nat.le_refl _) (List.pairwise_singleton _ _) (by simp)
  simpa using this
theorem St.same (H : St w0 G z O T w) {w' : World} (hb : Below w.heap.size w w') : St w0 G z O T w' := by
  have := H.grow [] [] hb (by simp) (by simp) .nil (by simp)
  simpa using this
/-- where a call's results lie that reads z -/
def Fresh (z : Nat → Prop) (w w' : World) : Nat → Prop := fun b => z b ∨ (w.heap.size ≤ b ∧ b < w'.heap.size)
theorem fresh_zone (H : St w0 G z O T w) {w' : World} (hb : Below w.heap.size w w') : Stay (Fresh (zone w0 z O w) w w') w' (zone w0 z O w') w' := fun b hz _ => by
  refine ⟨rfl, ?_⟩
  rcases hz with ⟨h0, h1, h2⟩ | ⟨h1, h2⟩
  · exact ⟨h0, Nat.lt_of_lt_of_le h1 hb.size, h2⟩
  · exact ⟨fun h => by have := H.base.size; omega, h2, fun o ho hf => by have := H.lt ho hf; omega⟩
/-- a call that answers something to read -/
theorem St.call (H : St w0 G z O T w) {w' : World} (hb : Below w.heap.size w w') (r : Rd) (hr : r.p (Fresh (zone w0 z O w) w w') w') : St w0 G z O (r :: T) w' := by
  have := H.grow [] [r] hb (by simp) (by simp) .nil (by simp only [List.mem_singleton, forall_eq, List.nil_append]; exact r.stay hr (fresh_zone H hb))
  simpa using this
/-- a call that answers something of one's own -/
theorem St.gets (H : St w0 G z O T w) {w' : World} (hb : Below w.heap.size w w') (o : As) (ho : o.holds w') (hn : ∀ b, o.foot b → w.heap.size ≤ b) : St w0 G z (o :: O) T w' := by
  have := H.grow [o] [] hb (by simpa using ho) (by simpa using hn) (List.pairwise_singleton _ _) (by simp)
  simpa using this
theorem St.draw (H : St w0 G z O T w) (n : Nat) : St w0 G z O T (w.drewN n) := H.same ⟨rfl, rfl, rfl, Nat.le_refl _, fun _ _ => rfl⟩

/-- one of the owned changed -/
theorem St.upd (H : St w0 G z O T w) (i : Nat) {o : As} (hi : O[i]? = some o) (o' : As) {w' : World} (hk : Kpt w w' o.foot) (hh : o'.holds w') (hf : ∀ b, o'.foot b → o.foot b ∨ w.heap.size ≤ b) (T' : List Rd) (hT : ∀ r ∈ T', r.p (zone w0 z (O.set i o') w') w') :
    St w0 G z (O.set i o') (T' ++ T) w' := by
  have hil : i < O.length := (List.getElem?_eq_some_iff.1 hi).1
  have hig : O[i] = o := (List.getElem?_eq_some_iff.1 hi).2
  have hoO := List.mem_of_getElem? hi
  have apart : ∀ j (hj : j < O.length), j ≠ i → ∀ k, O[j].foot k → ¬ o.foot k := fun j hj hne k h1 h2 => by
    rcases Nat.lt_or_gt_of_ne hne with h | h
    · exact List.pairwise_iff_getElem.1 H.apart j i hj hil h k h1 (hig ▸ h2)
    · exact List.pairwise_iff_getElem.1 H.apart i j hil hj h k (hig ▸ h2) h1
  have old : ∀ p ∈ O.set i o', p = o' ∨ ∃ j, ∃ hj : j < O.length, j ≠ i ∧ p = O[j] := fun p hp => by
    obtain ⟨j, hj, rfl⟩ := List.mem_iff_getElem.1 hp
    rw [List.length_set] at hj
    by_cases e : i = j
    · subst e; left; simp
    · right; exact ⟨j, hj, fun h => e h.symm, by rw [List.getElem_set_ne e]⟩
  refine ⟨⟨hk.os.trans H.base.os, hk.tape.trans H.base.tape, hk.output.trans H.base.output, Nat.le_trans H.base.size hk.size, fun k hl hG => (hk.block k (Nat.lt_of_lt_of_le hl H.base.size) (fun e => ?_)).trans (H.base.block k hl hG)⟩, ?_, ?_, ?_, ?_⟩
  · rcases H.new o hoO k e with h | h
    · omega
    · exact hG h
  · intro p hp
    rcases old p hp with rfl | ⟨j, hj, hne, rfl⟩
    · exact hh
    · exact (O[j]).kept (H.own _ (List.getElem_mem hj)) hk (apart j hj hne)
  · intro p hp b hb
    rcases old p hp with rfl | ⟨j, hj, hne, rfl⟩
    · rcases hf b hb with h | h
      · exact H.new o hoO b h
      · exact .inl (Nat.le_trans H.base.size h)
    · exact H.new _ (List.getElem_mem hj) b hb
  · refine List.pairwise_iff_getElem.2 fun a b ha hb hab k h1 h2 => ?_
    rw [List.length_set] at ha hb
    rw [List.getElem_set] at h1 h2
    by_cases e1 : i = a
    · subst e1
      rw [if_pos rfl] at h1
      rw [if_neg (by omega)] at h2
      rcases hf k h1 with h | h
      · exact apart b hb (by omega) k h2 h
      · have := H.lt (List.getElem_mem hb) h2; omega
    · rw [if_neg e1] at h1
      by_cases e2 : i = b
      · subst e2
        rw [if_pos rfl] at h2
        rcases hf k h2 with h | h
        · exact apart a ha (by omega) k h1 h
        · have := H.lt (List.getElem_mem ha) h1; omega
      · rw [if_neg e2] at h2
        exact List.pairwise_iff_getElem.1 H.apart a b ha hb hab k h1 h2
  · intro r hr
    rcases List.mem_append.1 hr with h | h
    · exact hT r h
    · refine r.stay (H.rds r h) fun b hz hl => ⟨hk.block b hl (hz.2.2 o hoO), hz.1, Nat.lt_of_lt_of_le hl hk.size, fun p hp hpf => ?_⟩
      rcases old p hp with rfl | ⟨j, hj, hne, rfl⟩
      · rcases hf b hpf with h | h
        · exact hz.2.2 o hoO h
        · omega
      · exact hz.2.2 _ (List.getElem_mem hj) hpf
/-- what is not needed any more -/
theorem St.sub (H : St w0 G z O T w) {O' : List As} {T' : List Rd} (ho : O'.Sublist O) (ht : ∀ r ∈ T', r ∈ T) : St w0 G z O' T' w :=
  ⟨H.base, fun o h => H.own o (ho.subset h), fun o h => H.new o (ho.subset h), H.apart.sublist ho, fun r h => r.stay (H.rds r (ht r h)) (stay_wider fun b hz _ => ⟨hz.1, hz.2.1, fun o ho' => hz.2.2 o (ho.subset ho')⟩)⟩
/-- one of the owned, brought to the front -/
theorem St.front (H : St w0 G z O T w) (i : Nat) {o : As} (hi : O[i]? = some o) : St w0 G z (o :: O.eraseIdx i) T w := by
  have hil : i < O.length := (List.getElem?_eq_some_iff.1 hi).1
  have hig : O[i] = o := (List.getElem?_eq_some_iff.1 hi).2
  have hm : ∀ p, p ∈ o :: O.eraseIdx i → p ∈ O := fun p hp => by
    rcases List.mem_cons.1 hp with rfl | hp
    · exact List.mem_of_getElem? hi
    · exact (List.eraseIdx_sublist O i).subset hp
  refine ⟨H.base, fun p hp => H.own p (hm p hp), fun p hp => H.new p (hm p hp), List.pairwise_cons.2 ⟨fun p hp k h1 h2 => ?_, H.apart.sublist (List.eraseIdx_sublist O i)⟩, fun r hr => r.stay (H.rds r hr) (stay_wider fun b hz _ => ⟨hz.1, hz.2.1, fun p hp => hz.2.2 p (hm p hp)⟩)⟩
  obtain ⟨j, hj, hne, hjp⟩ : ∃ j, ∃ hj : j < O.length, j ≠ i ∧ O[j] = p := by
    obtain ⟨q, hq, rfl⟩ := List.mem_iff_getElem.1 hp
    rw [List.length_eraseIdx_of_lt hil] at hq
    rw [List.getElem_eraseIdx]
    split
    · exact ⟨q, by omega, by omega, rfl⟩
    · exact ⟨q + 1, by omega, by omega, rfl⟩
  subst hjp
  rcases Nat.lt_or_gt_of_ne hne with h | h
  · exact List.pairwise_iff_getElem.1 H.apart j i hj hil h k h2 (hig ▸ h1)
  · exact List.pairwise_iff_getElem.1 H.apart i j hil hj h k (hig ▸ h1) h2
/-- another reading, out of those that there are -/
theorem St.also (H : St w0 G z O T w) (r : Rd) (h : r.p (zone w0 z O w) w) : St w0 G z O (r :: T) w :=
  ⟨H.base, H.own, H.new, H.apart, fun q hq => by rcases List.mem_cons.1 hq with rfl | hq; exact h; exact H.rds q hq⟩
/-- what is read now was owned -/
theorem St.freeze (H : St w0 G z O T w) (i : Nat) (r : Rd) (h : r.p (zone w0 z (O.eraseIdx i) w) w) : St w0 G z (O.eraseIdx i) (r :: T) w :=
  (H.sub (List.eraseIdx_sublist O i) (fun _ h => h)).also r h
/-- the end -/
theorem St.below (H : St w0 G z O T w) (hG : ∀ k, G k → w0.heap.size ≤ k) : Below w0.heap.size w0 w := H.base.below hG
theorem St.below' (H : St w0 (fun _ => False) z O T w) : Below w0.heap.size w0 w := H.base.below (fun _ h => h.elim)
def Facts : List As → World → Prop
  | [], _ => True
  | o :: l, w => o.fact w ∧ Facts l w
theorem facts_of : ∀ (l : List As) (w : World), (∀ o ∈ l, o.holds w) → Facts l w
  | [], _, _ => trivial
  | o :: l, w, h => ⟨o.tell (h o List.mem_cons_self), facts_of l w fun p hp => h p (List.mem_cons_of_mem _ hp)⟩
def FactsT : List Rd → World → Prop
  | [], _ => True
  | o :: l, w => o.fact w ∧ FactsT l w
theorem factsT_of {z : Nat → Prop} : ∀ (l : List Rd) (w : World), (∀ o ∈ l, o.p z w) → FactsT l w
  | [], _, _ => trivial
  | o :: l, w, h => ⟨o.tell (h o List.mem_cons_self), factsT_of l w fun p hp => h p (List.mem_cons_of_mem _ hp)⟩
theorem St.facts (H : St w0 G z O T w) : Facts O w ∧ FactsT T w := ⟨facts_of O w H.own, factsT_of T w H.rds⟩
theorem facts_nil {w : World} : Facts [] w = True := rfl
theorem facts_va {w : World} {B : Nat} {cs : List Value} {t : TypeId} {l : List As} : Facts (va B cs t :: l) w = ((∀ k, w.cell? ⟨B, k, none⟩ = cs[k]?) ∧ (∀ k, w.frozen? ⟨B, k, none⟩ = false) ∧ (∀ o n, rng w B o n = if o + n ≤ cs.length then some ((cs.drop o).take n) else none) ∧ Facts l w) := by
  show (Blk w B cs ∧ Facts l w) = _
  unfold Blk
  simp only [and_assoc]
theorem facts_vec {w : World} {e size : Nat} {v : Value} {n : Nat} {xs : List Value} {l : List As} : Facts (vec e size v n xs :: l) w = Facts l w := by show (True ∧ _) = _; simp
theorem facts_obj {w : World} {B : Nat} {p : World → (Nat → Prop) → Prop} {A : Nat → Prop} {hl : ∀ {w}, p w A → ∀ b, A b → b < w.heap.size} {hk : ∀ {w w'} {S : Nat → Prop}, p w A → Kpt w w' S → (∀ b, A b → ¬ S b) → p w' A} {l : List As} : Facts (obj B p A hl hk :: l) w = Facts l w := by show (True ∧ _) = _; simp
theorem factsT_nil {w : World} : FactsT [] w = True := rfl
theorem factsT_rd {α : Type} {r : Rdr α} {cs : List Value} {a : α} {w : World} {l : List Rd} : FactsT (rd r cs a :: l) w = FactsT l w := by show (True ∧ _) = _; simp
theorem factsT_rdS {α : Type} {r : Rdr α} {v : Value} {a : List α} {w : World} {l : List Rd} : FactsT (rdS r v a :: l) w = FactsT l w := by show (True ∧ _) = _; simp
theorem factsT_rdE {b o : Nat} {cs : List Value} {w : World} {l : List Rd} : FactsT (rdE b o cs :: l) w = (rng w b o cs.length = some cs ∧ CellsAt w b o 0 cs ∧ FactsT l w) := by
  show ((_ ∧ _) ∧ _) = _
  simp only [and_assoc]
/-- the readings at the end, as a caller has them -/
theorem zone_fresh : Stay (zone w0 z O w) w (Fresh z w0 w) w := fun b hb _ => by
  refine ⟨rfl, ?_⟩
  by_cases h : b < w0.heap.size
  · exact .inl (hb.1 h)
  · exact .inr ⟨by omega, hb.2.1⟩
theorem St.end_rd (H : St w0 G z O T w) (i : Nat) {r : Rd} (h : T[i]? = some r) : r.p (Fresh z w0 w) w := r.stay (H.rd i h) zone_fresh
end
end Go.Proofs.YtokiedeiamlnlaaGreat
