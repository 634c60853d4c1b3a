/- What a table holds; New. -/
import Derived.Test.YtkifagflnpkkaaaTab
namespace Go.Proofs.Ytkifagflnpkkaaa
set_option linter.unusedSimpArgs false
set_option linter.unusedVariables false
open Go.RowKit
set_option maxRecDepth 10000

inductive Tag where
  | key (s : Nat) | val (s : Nat) | mk (m : Mac) | mv (m : Mac)
  deriving DecidableEq
def Tag.row (w : World) (v : Value) (l : List EntL) : Tag → Prop
  | .val _ => w.ownsRow 0 40 8 v l.length (ecs l)
  | _ => w.ownsRow 0 3 1 v l.length ((l.map (·.id)).map iv)
structure Rows (w : World) (V : Tag → Value) (C : Tag → List EntL) : Prop where
  rows : ∀ t : Tag, t.row w (V t) (C t)
  apart : ∀ t t' g, (V t).ownBlock = some g → (V t').ownBlock = some g → t = t'
structure Tabx (w : World) (T S M n : Nat) (V : Tag → Value) (C : Tag → List EntL) : Prop where
  tab : w.heap[T]? = some (.cells #[.map (some M), .slice (some ⟨S, 0, none⟩) n n] 72 (0, 0))
  shards : ∃ cs, w.heap[S]? = some (.cells cs 80 (0, 0)) ∧ cs.size = 2 * n ∧ ∀ s, s < n → cs[s * 2]? = some (V (.key s)) ∧ cs[s * 2 + 1]? = some (V (.val s))
  map : ∃ f, MapAt w M f ∧ ∀ m, found f m = .agg #[V (.mk m), V (.mv m)]
  rows : Rows w V C
  off : ∀ t g, (V t).ownBlock = some g → g ≠ T ∧ g ≠ S

theorem Tag.row_own {w : World} {v : Value} {l : List EntL} {t : Tag} (h : t.row w v l) : ∃ e size xs, w.ownsRow 0 e size v l.length xs := by
  cases t <;> exact ⟨_, _, _, h⟩
theorem Tag.row_lt {w : World} {v : Value} {l : List EntL} {t : Tag} (h : t.row w v l) {g : Nat} (hg : v.ownBlock = some g) : g < w.heap.size := by
  obtain ⟨e, size, xs, h⟩ := Tag.row_own h
  exact (h.lt g hg).2
theorem Tag.row_kept {w w' : World} {S : Nat → Prop} {v : Value} {l : List EntL} {t : Tag} (h : t.row w v l) (hk : Kept w w' S) (hn : ∀ g, v.ownBlock = some g → ¬ S g) : t.row w' v l := by
  cases t <;> exact own_kept h hk hn
theorem Tag.row_nil (w : World) (t : Tag) : t.row w (.slice none 0 0) [] := by
  cases t <;> exact ⟨rfl, .inl ⟨rfl, rfl⟩⟩

/-- the entries of the row of a tag -/
def Cont (n : Nat) (L : List EntL) : Tag → List EntL
  | .key s => L.filter fun e => e.id.toNat % n == s
  | .val s => L.filter fun e => e.id.toNat % n == s
  | .mk m => L.filter fun e => decide (e.mac = m)
  | .mv m => L.filter fun e => decide (e.mac = m)
/-- the entries of a table -/
structure Good (L : List EntL) : Prop where
  sorted : L.Pairwise (fun a b => a.id < b.id)
  range : ∀ e ∈ L, 1 ≤ e.id ∧ e.id ≤ 65534 ∧ 0 ≤ e.seen ∧ e.seen ≤ 1099511627776
/-- a table of n shards at T, of the entries L, in blocks of A -/
def Tab (w : World) (T n : Nat) (L : List EntL) (A : Nat → Prop) : Prop :=
  ∃ S M V, Tabx w T S M n V (Cont n L) ∧ A T ∧ A S ∧ A M ∧ (∀ t g, (V t).ownBlock = some g → A g) ∧ (∀ b, A b → b < w.heap.size) ∧ 1 ≤ n ∧ n ≤ 64 ∧ Good L

theorem tab_kept {w w' : World} {T n : Nat} {L : List EntL} {A B : Nat → Prop} (h : Tab w T n L A) (hk : Kept w w' B) (hAB : ∀ b, A b → ¬ B b) : Tab w' T n L A := by
  obtain ⟨S, M, V, ⟨h1, ⟨cs, h2, h2s⟩, ⟨f, h3, h3s⟩, ⟨h4, h4a⟩, h5⟩, hT, hS, hM, hV, hA, hn⟩ := h
  refine ⟨S, M, V, ⟨(hk.block T (hA T hT) (hAB T hT)).trans h1, ⟨cs, (hk.block S (hA S hS) (hAB S hS)).trans h2, h2s⟩, ⟨f, map_kept h3 hk (hAB M hM), h3s⟩, ⟨fun t => Tag.row_kept (h4 t) hk (fun g hg => hAB g (hV t g hg)), h4a⟩, h5⟩, hT, hS, hM, hV, fun b hb => Nat.lt_of_lt_of_le (hA b hb) hk.size, hn⟩
theorem tab_below {w w' : World} {T n : Nat} {L : List EntL} {A : Nat → Prop} (h : Tab w T n L A) (hb : Below w.heap.size w w') : Tab w' T n L A := tab_kept h (kept_below hb (fun _ => False)) (fun _ _ h => h)
theorem tab_none {w : World} {T n : Nat} {L : List EntL} {A : Nat → Prop} (h : Tab w T n L A) : NoneIs w (.pointer (some ⟨T, 0, none⟩)) false := by
  obtain ⟨S, M, V, ⟨h1, _⟩, _⟩ := h
  exact .inr ⟨T, some M, rfl, by rw [cell_of_row w T 0 _ _ _ h1]; rfl, rfl⟩
theorem tab_len {w : World} {T n : Nat} {L : List EntL} {A : Nat → Prop} (h : Tab w T n L A) : ∃ S, w.cell? ⟨T, 1, none⟩ = some (.slice (some ⟨S, 0, none⟩) n n) ∧ T ≠ S := by
  obtain ⟨S, M, V, ⟨h1, ⟨cs, h2, _⟩, _⟩, _⟩ := h
  refine ⟨S, by rw [cell_of_row w T 1 _ _ _ h1]; rfl, ?_⟩
  rintro rfl
  rw [h1] at h2; cases h2

def tabZ (n : Nat) : Array Value := madeCells #[.slice none 0 0, .slice none 0 0] (n * 2)
theorem tabZ_size (n : Nat) : (tabZ n).size = 2 * n := by unfold tabZ; rw [size_madeCells]; omega
theorem tabZ_at (n j : Nat) (h : j < 2 * n) : (tabZ n)[j]? = some (.slice none 0 0) := by
  have hj : j < (tabZ n).size := by rw [tabZ_size]; exact h
  rw [Array.getElem?_eq_getElem hj]
  unfold tabZ madeCells
  simp
  have h2 : j % 2 = 0 ∨ j % 2 = 1 := by omega
  rcases h2 with h2 | h2 <;> simp [h2]
theorem run_make_tab (n : Nat) (hn : n ≤ 64) (w : World) : (Instr.makeSlice 70 (.int .i64 n) (.int .i64 n)).run Try.prog w = .ok (.slice (some ⟨w.heap.size, 0, none⟩) n n) (w.alloc (.cells (tabZ n) 80)) := by
  obtain ⟨i, hi, hz, hs, hby⟩ : ∃ i, Try.prog.info? 80 = some i ∧ i.zero = some (.agg #[.slice none 0 0, .slice none 0 0]) ∧ i.size = 2 ∧ i.bytes = 48 := ⟨_, rfl, rfl, rfl, rfl⟩
  have := run_make (P := Try.prog) w 70 80 i _ (by kernel_rfl) hi hz .i64 .i64 n n (by omega) (Int.le_refl _) (by rw [hby]; omega) (by omega)
  simpa [hs, tabZ, Value.cells] using this

theorem new_bad (k : Int) (hk : ¬ (1 ≤ k ∧ k ≤ 64)) (w : World) : Calls Try.prog 23 #[.int .i64 k] w fun e w' => e = .returned (.tuple #[.pointer none, .int .i64 200]) ∧ w' = w := by
  go_enter Try.func23, Try.ntmps23
  go_wp2
  all_goals first | (exfalso; omega) | skip
  all_goals exact bodyPost_ret (v := .tuple #[.pointer none, .int .i64 200]) (by simp [results, Try.results23, go_sem]) rfl ⟨rfl, rfl⟩
theorem new_yes (n : Nat) (h1 : 1 ≤ n) (h2 : n ≤ 64) (w : World) : Calls Try.prog 23 #[.int .i64 n] w fun e w' => ∃ T, e = .returned (.tuple #[.pointer (some ⟨T, 0, none⟩), .int .i64 0]) ∧ w.heap.size ≤ T ∧
    Below w.heap.size w w' ∧ Tab w' T n [] (fun b => w.heap.size ≤ b ∧ b < w'.heap.size) := by
  have hmk := run_make_tab n h2
  have hmm : ∀ w, (Instr.makeMap 67 none).run Try.prog w = .ok (.map (some w.heap.size)) (w.alloc (.map #[] 0)) := fun _ => rfl
  go_enter Try.func23, Try.ntmps23
  go_wp2
  refine bodyPost_ret (v := .tuple #[.pointer (some ⟨w.heap.size + 1 + 1, 0, none⟩), .int .i64 0]) (by simp [results, Try.results23, go_sem]) rfl ⟨_, rfl, by omega, ((((Below.refl _ _).alloc (Nat.le_refl _) _).alloc (by simp) _).alloc (by simp; omega) _), ?_⟩
  refine ⟨w.heap.size + 1, w.heap.size, fun _ => .slice none 0 0, ⟨?_, ⟨tabZ n, ?_, tabZ_size n, fun s hs => ⟨tabZ_at n _ (by omega), tabZ_at n _ (by omega)⟩⟩, ⟨[], ⟨#[], 0, ?_, rfl, .nil⟩, fun m => rfl⟩, ⟨fun t => ?_, fun t t' g h => by cases h⟩, fun t g h => by cases h⟩, ?_, ?_, ?_, by (intro t g h; cases h), by (intro b h; exact h.2), h1, h2, ⟨.nil, by (intro e h; cases h)⟩⟩
  · have := heap_alloc_new ((w.alloc (Obj.map #[] 0)).alloc (Obj.cells (tabZ n) 80)) (Obj.cells #[Value.map (some w.heap.size), Value.slice (some { block := w.heap.size + 1, off := 0 }) n n] 72)
    simpa using this
  · rw [heap_alloc_old _ _ (by simp)]
    have := heap_alloc_new (w.alloc (Obj.map #[] 0)) (Obj.cells (tabZ n) 80)
    simpa using this
  · rw [heap_alloc_old _ _ (by simp; omega), heap_alloc_old _ _ (by simp)]
    exact heap_alloc_new w _
  · cases t <;> exact Tag.row_nil _ _
  all_goals simp
  all_goals omega
end Go.Proofs.Ytkifagflnpkkaaa
