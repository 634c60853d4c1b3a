/- Loads and stores of structs as rules of the walk: the cells of a block as a list. No condition. -/
import Derived.Test.YtokiedeiamlnlaaGreatRg2
import Derived.Deep.MidRow
import Derived.Great.BuildSlice
namespace Go.Proofs.YtokiedeiamlnlaaGreat
set_option linter.unusedSimpArgs false
set_option linter.unusedVariables false
open Go.RowKit
set_option maxRecDepth 10000

/-- n cells of block b from o on -/
def rng (w : World) (b o n : Nat) : Option (List Value) :=
  match w.heap[b]? with
  | some (.cells c _ _) => if o + n ≤ c.size then some ((c.toList.drop o).take n) else none
  | _ => none
theorem rng_len {w : World} {b o n : Nat} {cs : List Value} (h : rng w b o n = some cs) : cs.length = n := by
  unfold rng at h
  split at h
  · split at h
    · rename_i hle
      cases h
      simp only [List.length_take, List.length_drop, Array.length_toList]
      omega
    · cases h
  · cases h
theorem rng_at {w : World} {b o n : Nat} {cs : List Value} (h : rng w b o n = some cs) : w.rangeAt b o cs := by
  have hl := rng_len h
  unfold rng at h
  split at h
  · rename_i c t fr hb
    split at h
    · cases h
      intro j v hv
      rw [cell_of_row w b _ c t fr hb]
      have hj : j < n := by
        have := (List.getElem?_eq_some_iff.1 hv).1
        omega
      rw [List.getElem?_take_of_lt hj, List.getElem?_drop] at hv
      simpa using hv
    · cases h
  · cases h
theorem rng_of {w : World} {b o : Nat} {cs : List Value} (h : w.rangeAt b o cs) (h1 : cs ≠ []) : rng w b o cs.length = some cs := by
  obtain ⟨x, xs, rfl⟩ := List.exists_cons_of_ne_nil h1
  have h0 := h 0 x rfl
  obtain ⟨c, t, fr, hb⟩ : ∃ c t fr, w.heap[b]? = some (.cells c t fr) := by
    unfold World.cell? at h0
    split at h0
    · rename_i c t fr hb; exact ⟨c, t, fr, hb⟩
    · cases h0
  have hc : ∀ j v, (x :: xs)[j]? = some v → c[o + j]? = some v := fun j v hv => by
    have := h j v hv
    rwa [cell_of_row w b _ c t fr hb] at this
  unfold rng
  rw [hb]
  have hle : o + (x :: xs).length ≤ c.size := by
    have := (Array.getElem?_eq_some_iff.1 (hc ((x :: xs).length - 1) _ (List.getElem?_eq_getElem (by simp)))).1
    simp at this ⊢; omega
  simp only [hle, if_true, Option.some.injEq]
  refine List.ext_getElem? fun j => ?_
  by_cases hj : j < (x :: xs).length
  · rw [List.getElem?_take_of_lt hj, List.getElem?_drop, List.getElem?_eq_getElem hj]
    simpa using hc j _ (List.getElem?_eq_getElem hj)
  · rw [List.getElem?_eq_none (by simp at hj ⊢; omega), List.getElem?_eq_none (by omega)]
theorem rng_block {w : World} {b : Nat} {cs : Array Value} {t : TypeId} {fr : Nat × Nat} (h : w.heap[b]? = some (.cells cs t fr)) : rng w b 0 cs.size = some cs.toList := by
  unfold rng; rw [h]; simp [List.take_of_length_le]
theorem rng_below {B : Nat} {w w' : World} (hb : Below B w w') {b o n : Nat} (h : b < B) : rng w' b o n = rng w b o n := by
  unfold rng; rw [hb.block b h]

/-- a load of a struct of n cells -/
def ldr (P : Program) (t n : Nat) (v : Value) (w : World) : Result Next :=
  match v with
  | .pointer (some ⟨b, o, none⟩) =>
    match rng w b o n with
    | some cs => .ok (.value (.agg cs.toArray)) w
    | none => (do pure (Next.value (← Instr.loadAt t v)) : Sem Next).run P w
  | _ => (do pure (Next.value (← Instr.loadAt t v)) : Sem Next).run P w
/-- t is a struct, or an array, of n cells -/
structure RowOf (P : Program) (t n : Nat) : Prop where
  und : (P.underlying t).map (·.isRow) = some true
  size : (P.info? t).map (·.size) = some n
theorem exec_load_row {P : Program} {t n : Nat} (H : RowOf P t n) {ρ : Operand → Value} {dst : Option Tmp} {x : Operand} {ty : TypeId} {pos : String} {after : Array Edge} {guard : Option (Nat × Bool)} {w : World} :
    (execOp ρ { dst, op := .load t x, type := ty, pos, after, guard }).run P w = ldr P t n (ρ x) w := by
  have hd : (execOp ρ { dst, op := .load t x, type := ty, pos, after, guard }).run P w = (do pure (Next.value (← Instr.loadAt t (ρ x))) : Sem Next).run P w := rfl
  rw [hd]
  unfold ldr
  split
  · rename_i b o hx
    split
    · rename_i cs hcs
      obtain ⟨d, hu, hr⟩ : ∃ d, P.underlying t = some d ∧ d.isRow = true := by
        have := H.und
        cases h : P.underlying t with
        | none => simp [h] at this
        | some d => simp [h] at this; exact ⟨d, rfl, this⟩
      have hl := rng_len hcs
      have := run_loadAt_mid (P := P) w b o t cs d (rng_at hcs) hu hr (by rw [H.size, hl])
      rw [hx]
      simp only [this, Sem.run_bind, Sem.run_pure, Result.andThen_ok]
    · rfl
  · rfl
@[go_sem] theorem ldr_ptr (P : Program) (t n b o : Nat) (w : World) : ldr P t n (.pointer (some ⟨b, o, none⟩)) w =
    match rng w b o n with
    | some cs => .ok (.value (.agg cs.toArray)) w
    | none => (do pure (Next.value (← Instr.loadAt t (.pointer (some ⟨b, o, none⟩)))) : Sem Next).run P w := rfl
end Go.Proofs.YtokiedeiamlnlaaGreat
