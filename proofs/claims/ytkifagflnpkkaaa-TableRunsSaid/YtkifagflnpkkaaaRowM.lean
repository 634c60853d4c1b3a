/- The methods of a row: place. -/
import Derived.Test.YtkifagflnpkkaaaCln
import Derived.Test.YtkifagflnpkkaaaBin
namespace Go.Proofs.Ytkifagflnpkkaaa
set_option linter.unusedSimpArgs false
set_option linter.unusedVariables false
open Go.RowKit
set_option maxRecDepth 10000

abbrev iv (n : Int) : Value := .int .i64 n
theorem own_ints {w : World} {base : Nat} {v : Value} {n : Nat} {ks : List Int} (h : w.ownsRow base 3 1 v n (ks.map iv)) : IsInts w v ks := by
  have hl : ks.length = n := by have := h.1; rw [List.length_map] at this; omega
  rcases h.2 with ⟨rfl, rfl⟩ | ⟨g, cap, cur, rfl, -, hg, hnc, hcm, hcs, htk⟩
  · exact .inl ⟨rfl, List.eq_nil_of_length_eq_zero hl⟩
  · refine .inr ⟨g, cap, by rw [hl], by omega, hcm, fun i m hm => ?_⟩
    have := row_read (w := w) hg htk 0 0 rfl i (iv m) (by simp [hm])
    rwa [show (⟨g, 0, none⟩ : Addr).add i = ⟨g, i, none⟩ by unfold Addr.add; split <;> simp_all] at this

/-- where a number stands, or would stand -/
def PlaceIs (ks : List Int) (k : Int) (a : Nat) : Prop := a ≤ ks.length ∧ (∀ t n, t < a → ks[t]? = some n → n < k) ∧ ∀ t n, a ≤ t → ks[t]? = some n → k ≤ n

theorem not_there {ks : List Int} {k : Int} (h : k ∉ ks) (a : Nat) : decide (ks[a]? = some k) = false := by
  simp only [decide_eq_false_iff_not]
  exact fun he => h (List.mem_of_getElem? he)
theorem place_int (R o : Nat) (kv : Value) (ks : List Int) (k : Int) (w : World) (hc : w.cell? ⟨R, o, none⟩ = some kv) (hk : IsInts w kv ks) (hs : ks.Pairwise (· < ·)) (hl : ks.length ≤ 1000000) :
    Calls Try.prog 60 #[.pointer (some ⟨R, o, none⟩), .int .i64 k] w fun e w' => w' = w ∧ ∃ a : Nat, e = .returned (.tuple #[.int .i64 a, .bool (decide (ks[a]? = some k))]) ∧ PlaceIs ks k a := by
  have HB := Lib.hid (binary_any kv ks k hs w hk hl)
  clear hs hk hl
  go_enter Try.func60, Try.ntmps60
  go_wp2_with (go_at_call 59; refine HB.out.mono ?_; rintro e w1 ⟨rfl, a, rfl, h1, h2, h3⟩)
  exact bodyPost_ret (v := .tuple #[.int .i64 a, .bool (decide (ks[a]? = some k))]) (by simp [results, Try.results60, go_sem]) rfl ⟨rfl, a, rfl, h1, h2, h3⟩
theorem place_ent (R o : Nat) (kv : Value) (ks : List Int) (k : Int) (w : World) (hc : w.cell? ⟨R, o, none⟩ = some kv) (hk : IsInts w kv ks) (hs : ks.Pairwise (· < ·)) (hl : ks.length ≤ 1000000) :
    Calls Try.prog 51 #[.pointer (some ⟨R, o, none⟩), .int .i64 k] w fun e w' => w' = w ∧ ∃ a : Nat, e = .returned (.tuple #[.int .i64 a, .bool (decide (ks[a]? = some k))]) ∧ PlaceIs ks k a := by
  have HB := Lib.hid (binary_any kv ks k hs w hk hl)
  clear hs hk hl
  go_enter Try.func51, Try.ntmps51
  go_wp2_with (go_at_call 59; refine HB.out.mono ?_; rintro e w1 ⟨rfl, a, rfl, h1, h2, h3⟩)
  exact bodyPost_ret (v := .tuple #[.int .i64 a, .bool (decide (ks[a]? = some k))]) (by simp [results, Try.results51, go_sem]) rfl ⟨rfl, a, rfl, h1, h2, h3⟩

/-- what was there is there still, but in the blocks of S -/
structure Kept (w w' : World) (S : Nat → Prop) : Prop where
  os : w'.os = w.os
  tape : w'.tape = w.tape
  output : w'.output = w.output
  size : w.heap.size ≤ w'.heap.size
  block : ∀ k, k < w.heap.size → ¬ S k → w'.heap[k]? = w.heap[k]?
theorem Kept.trans {w w1 w2 : World} {S T : Nat → Prop} (h : Kept w w1 S) (h2 : Kept w1 w2 T) : Kept w w2 (fun k => S k ∨ T k) :=
  ⟨h2.os.trans h.os, h2.tape.trans h.tape, h2.output.trans h.output, Nat.le_trans h.size h2.size, fun k hk hn => (h2.block k (Nat.lt_of_lt_of_le hk h.size) (fun e => hn (.inr e))).trans (h.block k hk (fun e => hn (.inl e)))⟩
theorem Kept.weaken {w w' : World} {S T : Nat → Prop} (h : Kept w w' S) (hST : ∀ k, k < w.heap.size → S k → T k) : Kept w w' T :=
  ⟨h.os, h.tape, h.output, h.size, fun k hk hn => h.block k hk (fun e => hn (hST k hk e))⟩
theorem Kept.refl (w : World) (S : Nat → Prop) : Kept w w S := ⟨rfl, rfl, rfl, Nat.le_refl _, fun _ _ _ => rfl⟩
theorem kept_alloc (w : World) (o : Obj) : Kept w (w.alloc o) (fun _ => False) := ⟨rfl, rfl, rfl, by simp, fun k hk _ => heap_alloc_old w o hk⟩
theorem kept_grown {w w' : World} {r : Option Nat} (h : w.grownBy w' r) : Kept w w' (fun k => some k = r) := ⟨h.os, h.tape, h.output, h.size, fun k hk hn => h.block k hk hn⟩
theorem kept_below {w w' : World} (h : Below w.heap.size w w') (S : Nat → Prop) : Kept w w' S := ⟨h.os, h.tape, h.output, h.size, fun k hk _ => h.block k hk⟩
theorem kept_cell (w : World) (R o : Nat) (u : Value) : Kept w (w.setCell ⟨R, o, none⟩ u) (fun k => k = R) :=
  ⟨rfl, rfl, rfl, by simp [World.setCell], fun k _ hn => Below.heap_setCell w _ u k hn⟩
theorem cell_row {w : World} {R o : Nat} {cs : Array Value} {t : TypeId} {fr : Nat × Nat} (h : w.heap[R]? = some (.cells cs t fr)) (u : Value) : (w.setCell ⟨R, o, none⟩ u).heap[R]? = some (.cells (cs.setIfInBounds o u) t fr) := by
  rw [setCell_eq_setRow w R o cs t fr u h]; exact setRow_heap w R _ _ _ _ h
theorem own_kept {w w' : World} {S : Nat → Prop} {base : Nat} {e : TypeId} {size : Nat} {v : Value} {n : Nat} {xs : List Value} (h : w.ownsRow base e size v n xs) (hk : Kept w w' S) (hn : ∀ g, v.ownBlock = some g → ¬ S g) : w'.ownsRow base e size v n xs := by
  refine ⟨h.1, ?_⟩
  rcases h.2 with h2 | ⟨g, cap, cur, rfl, hb, hg, h3⟩
  · exact .inl h2
  · exact .inr ⟨g, cap, cur, rfl, hb, (hk.block g (Array.getElem?_eq_some_iff.1 hg).1 (hn g rfl)).trans hg, h3⟩

/-- a list with a number put in at its place -/
def putIn (ks : List Int) (a : Nat) (k : Int) : List Int := ks.take a ++ [k] ++ ks.drop a

theorem iv_one (l : List Int) : ∀ u ∈ l.map iv, u.oneCell' = true := by
  intro u hu
  obtain ⟨n, _, rfl⟩ := List.mem_map.1 hu
  rfl
theorem put_map (l : List Int) (a : Nat) (k : Int) : (putIn l a k).map iv = (l.map iv).take (a * 1) ++ [iv k] ++ (l.map iv).drop (a * 1) := by
  unfold putIn
  simp

set_option maxHeartbeats 4000000 in
theorem put_int (R o : Nat) (cs : Array Value) (t : TypeId) (kv vv : Value) (ks us : List Int) (k x : Int) (n : Nat) (w : World) (hR : w.heap[R]? = some (.cells cs t (0, 0))) (hc0 : cs[o]? = some kv) (hc1 : cs[o + 1]? = some vv)
    (hk : w.ownsRow 0 3 1 kv n (ks.map iv)) (hu : w.ownsRow 0 3 1 vv n (us.map iv)) (hkR : kv.ownBlock ≠ some R) (huR : vv.ownBlock ≠ some R) (hku : ∀ g, kv.ownBlock = some g → vv.ownBlock ≠ some g)
    (hs : ks.Pairwise (· < ·)) (hn : n ≤ 100000) (hno : k ∉ ks) :
    Calls Try.prog 57 #[.pointer (some ⟨R, o, none⟩), .int .i64 k, .int .i64 x] w fun e w' => ∃ a kv' vv', e = .returned (.tuple #[]) ∧ PlaceIs ks k a ∧
      w'.ownsRow 0 3 1 kv' (n + 1) ((putIn ks a k).map iv) ∧ w'.ownsRow 0 3 1 vv' (n + 1) ((putIn us a x).map iv) ∧ w'.heap[R]? = some (.cells ((cs.setIfInBounds o kv').setIfInBounds (o + 1) vv') t (0, 0)) ∧
      Lies w kv kv' ∧ Lies w vv vv' ∧ (∀ g, kv'.ownBlock = some g → vv'.ownBlock ≠ some g) ∧ Kept w w' (fun b => b = R ∨ some b = kv.ownBlock ∨ some b = vv.ownBlock) := by
  have hl : ks.length = n := by have := hk.1; rw [List.length_map] at this; omega
  have e0 : w.cell? ⟨R, o, none⟩ = some kv := by rw [cell_of_row w R _ _ _ _ hR]; exact hc0
  have HP : Hid (Calls Try.prog 60 #[.pointer (some ⟨R, o, none⟩), .int .i64 k] w fun e w' => w' = w ∧ ∃ a : Nat, e = .returned (.tuple #[.int .i64 a, .bool false]) ∧ PlaceIs ks k a) := (place_int R o kv ks k w e0 (own_ints hk) hs (by omega)).mono (by
    rintro e w' ⟨h1, a, h2, h3⟩
    rw [not_there hno a] at h2
    exact ⟨h1, a, h2, h3⟩)
  have HR := Lib.hid hR
  have HK := Lib.hid hk
  have HU := Lib.hid hu
  clear hR hk hu
  go_enter Try.func57, Try.ntmps57
  go_wp2_with (first
    | (have x := HV4.out; clear x; go_at_call 55
       refine (insert_int vv n (us.map iv) a _ [iv x] _ HV4.out (by have := HPL.out.1; omega) hn rfl Hn4.out Hne4.out (iv_one _) (iv_one [x]) _ (put_map us a x)).mono ?_
       rintro e w5 ⟨vv', rfl, h51, h52, h53⟩
       obtain ⟨g5, cap5, rfl, -, -⟩ := h51.form (by omega)
       have HV5 := Lib.hid h51
       have HL5 := Lib.hid h53
       have HK45 := Lib.hid ((kept_alloc (w2.setCell ⟨R, o, none⟩ (.slice (some ⟨g2, 0, none⟩) (n + 1) cap2)) (.cells #[iv x] 3)).trans (kept_grown h52))
       have HR5 : Hid (w5.heap[R]? = _) := (HK45.out.block R (Array.getElem?_eq_some_iff.1 HR3.out).1 (by rintro (h | h); exact h; exact huR h.symm)).trans HR3.out
       have e5 : w5.cell? ⟨R, o + 1, none⟩ = some vv := by rw [cell_of_row w5 R _ _ _ _ HR5.out]; exact hc3
       have f5 : w5.frozen? ⟨R, o + 1, none⟩ = false := frozen_of_row w5 R (o + 1) _ _ HR5.out
       clear h51 h52 h53 e1 HV4)
    | (have x := HPL.out; clear x; go_at_call 55
       refine (insert_int kv n (ks.map iv) a _ [iv k] _ (own_kept HK.out (kept_alloc w1 _) (fun _ _ e => e)) (by have := HPL.out.1; omega) hn rfl (heap_alloc_new w1 _) (fun e => by have := HK.out.lt _ e; omega) (iv_one _) (iv_one [k]) _ (put_map ks a k)).mono ?_
       rintro e w2 ⟨kv', rfl, h21, h22, h23⟩
       obtain ⟨g2, cap2, rfl, -, hg2⟩ := h21.form (by omega)
       have HKe2 := Lib.hid ((kept_alloc w1 (.cells #[iv k] 3)).trans (kept_grown h22))
       have HR2 : Hid (w2.heap[R]? = some (.cells cs t (0, 0))) := (HKe2.out.block R (Array.getElem?_eq_some_iff.1 HR.out).1 (by rintro (h | h); exact h; exact hkR h.symm)).trans HR.out
       have e0 : w2.cell? ⟨R, o, none⟩ = some kv := by rw [cell_of_row w2 R _ _ _ _ HR2.out]; exact hc0
       have f0 : w2.frozen? ⟨R, o, none⟩ = false := frozen_of_row w2 R o _ _ HR2.out
       have HV2 := Lib.hid (own_kept HU.out HKe2.out (by rintro g hg (h | h); exact h; exact hku g h.symm hg))
       have hg2R : g2 ≠ R := by
         rintro rfl
         rcases h23 with h | ⟨g', h, hge⟩
         · exact hkR h.symm
         · cases h; have := (Array.getElem?_eq_some_iff.1 HR.out).1; simp at hge; omega
       have HK2 := Lib.hid h21
       have HL2 := Lib.hid h23
       obtain ⟨w3, hw3⟩ : ∃ w3, w3 = w2.setCell ⟨R, o, none⟩ (.slice (some ⟨g2, 0, none⟩) (n + 1) cap2) := ⟨_, rfl⟩
       have HK23 : Hid (Kept w2 w3 (fun k => k = R)) := by rw [hw3]; exact kept_cell w2 R o _
       have hs3 : w3.heap.size = w2.heap.size := by rw [hw3]; simp [World.setCell]
       have HR3 : Hid (w3.heap[R]? = some (.cells (cs.setIfInBounds o (.slice (some ⟨g2, 0, none⟩) (n + 1) cap2)) t (0, 0))) := by rw [hw3]; exact cell_row HR2.out _
       have hc3 : (cs.setIfInBounds o (.slice (some ⟨g2, 0, none⟩) (n + 1) cap2))[o + 1]? = some vv := by rw [Array.getElem?_setIfInBounds_ne (by omega)]; exact hc1
       have e1 : w3.cell? ⟨R, o + 1, none⟩ = some vv := by rw [cell_of_row w3 R _ _ _ _ HR3.out]; exact hc3
       have HV3 := Lib.hid (own_kept HV2.out HK23.out (fun g hg h => huR (by rw [hg, h])))
       have HK3 := Lib.hid (own_kept HK2.out HK23.out (fun g hg h => hg2R (by cases hg; exact h)))
       have HV4 : Hid ((w3.alloc (.cells #[iv x] 3)).ownsRow 0 3 1 vv n (us.map iv)) := own_kept HV3.out (kept_alloc w3 _) (fun _ _ e => e)
       have Hn4 : Hid ((w3.alloc (.cells #[iv x] 3)).heap[w2.heap.size]? = some (.cells #[iv x] 3 (0, 0))) := by unfold Hid; rw [← hs3]; exact heap_alloc_new w3 _
       have Hne4 : Hid (vv.ownBlock ≠ some w2.heap.size) := fun e => by have := HV3.out.lt _ e; omega
       subst hw3
       clear h21 h22 h23 hs3)
    | (go_at_call 60; refine HP.out.mono ?_; rintro e w1 ⟨rfl, a, rfl, hpl⟩; have HPL := Lib.hid hpl; clear hpl HP))
  have hs3 : (w2.setCell ⟨R, o, none⟩ (.slice (some ⟨g2, 0, none⟩) (n + 1) cap2)).heap.size = w2.heap.size := by simp [World.setCell]
  have hv1 : ∀ g, vv.ownBlock = some g → g < w1.heap.size := fun g hg => (HU.out.lt g hg).2
  have hk1 : ∀ g, kv.ownBlock = some g → g < w1.heap.size := fun g hg => (HK.out.lt g hg).2
  have hl2 : kv.ownBlock = some g2 ∨ w1.heap.size ≤ g2 := by
    rcases HL2.out with h | ⟨g, h, hge⟩
    · exact .inl h.symm
    · cases h; right; simp at hge; omega
  have hl5 : vv.ownBlock = some g5 ∨ w2.heap.size < g5 := by
    rcases HL5.out with h | ⟨g, h, hge⟩
    · exact .inl h.symm
    · cases h; right; simp only [World.size_alloc, hs3] at hge; omega
  have hz12 : w1.heap.size ≤ w2.heap.size := HKe2.out.size
  have hz25 : w2.heap.size ≤ w5.heap.size := by have := HK45.out.size; rw [hs3] at this; exact this
  have hg2v : vv.ownBlock ≠ some g2 := fun e => by
    rcases hl2 with h | h
    · exact hku g2 h e
    · have := hv1 _ e; omega
  have hne25 : g2 ≠ g5 := by
    rintro rfl
    rcases hl5 with h | h
    · exact hg2v h
    · omega
  have hg5R : g5 ≠ R := by
    rintro rfl
    rcases hl5 with h | h
    · exact huR h
    · have := (Array.getElem?_eq_some_iff.1 HR2.out).1; omega
  have hK5 := own_kept HK3.out HK45.out (by rintro g hg (h | h); exact h; exact hg2v (by cases hg; exact h.symm))
  have hall := ((HKe2.out.trans HK23.out).trans HK45.out).trans (kept_cell w5 R (o + 1) (.slice (some ⟨g5, 0, none⟩) (n + 1) cap5))
  refine bodyPost_end (results_none rfl _ _ _) rfl ⟨a, _, _, rfl, HPL.out, own_kept hK5 (kept_cell w5 R (o + 1) _) (fun g hg h => hg2R (by cases hg; exact h)), own_kept HV5.out (kept_cell w5 R (o + 1) _) (fun g hg h => hg5R (by cases hg; exact h)), cell_row HR5.out _, ?_, ?_, ?_, ?_⟩
  · rcases hl2 with h | h
    · exact .inl h.symm
    · exact .inr ⟨g2, rfl, h⟩
  · rcases hl5 with h | h
    · exact .inl h.symm
    · exact .inr ⟨g5, rfl, by omega⟩
  · intro g hg h
    cases hg; cases h; exact hne25 rfl
  · refine hall.weaken fun b _ hb => ?_
    rcases hb with (((h | h) | h) | h | h) | h
    · exact h.elim
    · exact .inr (.inl h)
    · exact .inl h
    · exact h.elim
    · exact .inr (.inr h)
    · exact .inl h
end Go.Proofs.Ytkifagflnpkkaaa
