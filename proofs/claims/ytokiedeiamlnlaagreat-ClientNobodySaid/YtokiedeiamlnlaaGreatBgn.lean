/- The client's Begin. -/
import Derived.Test.YtokiedeiamlnlaaGreatDsc
namespace Go.Proofs.YtokiedeiamlnlaaGreat
set_option linter.unusedSimpArgs false
set_option linter.unusedVariables false
open Go.RowKit
set_option maxRecDepth 10000

/-- what was there is there still, but for the block B -/
structure But (B : Nat) (w w' : World) : Prop where
  os : w'.os = w.os
  tape : w'.tape = w.tape
  output : w'.output = w.output
  size : w.heap.size ≤ w'.heap.size
  block : ∀ k, k < w.heap.size → k ≠ B → w'.heap[k]? = w.heap[k]?
theorem But.below {B : Nat} {w w' : World} (h : But B w w') (hB : B ≤ w.heap.size) : Below B w w' := ⟨h.os, h.tape, h.output, h.size, fun k hk => h.block k (by omega) (by omega)⟩
theorem But.trans {B : Nat} {w w1 w2 : World} (h : But B w w1) (h2 : Below w1.heap.size w1 w2) : But B w w2 :=
  ⟨h2.os.trans h.os, h2.tape.trans h.tape, h2.output.trans h.output, Nat.le_trans h.size h2.size, fun k hk hn => (h2.block k (Nat.lt_of_lt_of_le hk h.size)).trans (h.block k hk hn)⟩

def putAtC (cur : Array Value) : Nat → List Value → Array Value
  | _, [] => cur
  | o, v :: r => putAtC (cur.setIfInBounds o v) (o + 1) r
theorem setCells_row (t : TypeId) (fr : Nat × Nat) (g : Nat) : ∀ (vs : List Value) (o : Nat) (cur : Array Value) (w : World), w.heap[g]? = some (.cells cur t fr) → (w.setCells g o vs).heap[g]? = some (.cells (putAtC cur o vs) t fr) ∧ But g w (w.setCells g o vs)
  | [], o, cur, w, h => ⟨h, ⟨rfl, rfl, rfl, Nat.le_refl _, fun _ _ _ => rfl⟩⟩
  | v :: r, o, cur, w, h => by
    have h1 := setRow_heap w g cur (cur.setIfInBounds o v) t fr h
    obtain ⟨h2, h3⟩ := setCells_row t fr g r (o + 1) _ _ h1
    rw [World.setCells, setCell_eq_setRow w g o cur t fr v h]
    refine ⟨h2, ⟨h3.os, h3.tape, h3.output, ?_, fun k hk hn => ?_⟩⟩
    · have := h3.size; rwa [setRow_size] at this
    · rw [h3.block k (by rwa [setRow_size]) hn]; exact setRow_other w g k _ hn

def stCells : Array Value := #[.int .i64 1, z8, z8, z8, z8, z8, z8, zi, zi, zi, zi, zn, zi, zi, zi, zi, zi, zi, zi, zi, zi, zi, zi, zn, zi, zi, zi, .bool false]
theorem putAtC_state (m : Mac) (u : Value) (s : ByteArray) (mg ph : Int) : putAtC (cCells m u s mg ph) 9 stCells.toList = cCells m u s mg 1 := by
  unfold cCells stCells
  simp only [putAtC, List.setIfInBounds_toArray, List.set_cons_zero, List.set_cons_succ]

theorem wpList_store_state {ops : Array Oper} {rest : List Oper} {op : Oper} {a : Act} {w : World} {Q : Exit → Act → World → Prop} (hgd : op.guard = none) (x y : Operand) (ho : op.op = .store 35 x y)
    {B : Nat} {m : Mac} {u : Value} {s : ByteArray} {mg ph : Int} (hx : a.eval x = .pointer (some ⟨B, 9, none⟩)) (hy : a.eval y = .agg stCells) (hb : w.heap[B]? = some (.cells (cCells m u s mg ph) 37 (0, 0)))
    (h : ∀ w1, w1.heap[B]? = some (.cells (cCells m u s mg 1) 37 (0, 0)) → But B w w1 → wpList Tryz.prog ops Q rest (a.put op.dst undef) w1) : wpList Tryz.prog ops Q (op :: rest) a w := by
  have hs := setCells_row 37 (0, 0) B stCells.toList 9 _ w hb
  rw [putAtC_state] at hs
  refine wpList_store_mid hgd _ x y ho B 9 stCells hx hy (fun j hj => ⟨?_, frozen_of_row w B _ _ _ hb⟩) (by kernel_rfl) (by simp [Value.oneCell', stCells]) (h _ hs.1 hs.2)
  rw [cell_of_row w B _ _ _ _ hb]
  have : 9 + j < (cCells m u s mg ph).size := by have : stCells.size = 28 := rfl; have : (cCells m u s mg ph).size = 38 := rfl; omega
  simp [this]

theorem uniq_kept {B : Nat} {uv : Value} {u : List UInt8} {w w1 : World} {c : Obj} (hq : ∃ wq, wq.heap.size = B ∧ IsBytes wq uv u ∧ Below B wq w) (hb : w.heap[B]? = some c) (h : But B w w1) : IsBytes w1 uv u := by
  obtain ⟨wq, rfl, h1, h2⟩ := hq
  exact h1.below (h2.trans (h.below (Nat.le_of_lt (Array.getElem?_eq_some_iff.1 hb).1)))
def bcast : Mac := ⟨255, 255, 255, 255, 255, 255⟩
theorem cc_cell {w : World} {B : Nat} {m : Mac} {u : Value} {s : ByteArray} {mg ph : Int} {fr : Nat × Nat} (hb : w.heap[B]? = some (.cells (cCells m u s mg ph) 37 fr)) :
    w.cell? ⟨B, 6, none⟩ = some u ∧ w.cell? ⟨B, 7, none⟩ = some (.string s) ∧ w.cell? ⟨B, 9, none⟩ = some (.int .i64 ph) ∧ w.cell? ⟨B, 37, none⟩ = some (.bool true) ∧ MeAt w B m := by
  unfold MeAt
  simp only [cell_of_row w B _ _ _ _ hb]
  exact ⟨rfl, rfl, rfl, rfl, rfl, rfl, rfl, rfl, rfl, rfl⟩

theorem begin_later (B : Nat) (m : Mac) (u : Value) (s : ByteArray) (mg : Int) (w : World) (hb : w.heap[B]? = some (.cells (cCells m u s mg 1) 37 (0, 0))) :
    Calls Tryz.prog 5 #[.pointer (some ⟨B, 0, none⟩)] w fun e w' => e = .returned (.slice none 0 0) ∧ w' = w := by
  obtain ⟨-, -, e9, e37, -⟩ := cc_cell hb
  have HN := Lib.hid (none_no B w e37)
  clear hb e37
  go_enter Tryz.func5, Tryz.ntmps5
  go_wp2_with (go_at_call 27; refine HN.out.mono ?_; rintro e w1 ⟨rfl, rfl⟩)
  go_ret
  exact ⟨rfl, rfl⟩

set_option maxHeartbeats 4000000 in
theorem begin_first (B : Nat) (m : Mac) (uv : Value) (u : List UInt8) (s : ByteArray) (mg : Int) (w : World) (hu : u.length ≤ 100) (hs : s.size ≤ 100) (hb : w.heap[B]? = some (.cells (cCells m uv s mg 0) 37 (0, 0)))
    (hq : ∃ wq, wq.heap.size = B ∧ IsBytes wq uv u ∧ Below B wq w) :
    Calls Tryz.prog 5 #[.pointer (some ⟨B, 0, none⟩)] w fun e w' => ∃ v, e = .returned v ∧ But B w w' ∧ w'.heap[B]? = some (.cells (cCells m uv s mg 1) 37 (0, 0)) ∧ NewBytes w w' v (discL m bcast 9 0 (tagsOf u s.data.toList)) := by
  obtain ⟨-, -, e9, e37, -⟩ := cc_cell hb
  have HN := Lib.hid (none_no B w e37)
  have HB := Lib.hid hb
  have HQ := Lib.hid hq
  clear hb e37 hq
  go_enter Tryz.func5, Tryz.ntmps5
  go_wp2_with (first
    | (go_at_call 27; refine HN.out.mono ?_; rintro e w1 ⟨rfl, rfl⟩)
    | (show wpList _ _ _ (Oper.mk none (Op.store _ _ _) _ _ _ _ :: _) _ _
       go_must (refine wpList_store_state rfl _ _ rfl rfl rfl HB.out ?_)
       intro w1 hb1 hbut
       have HB1 := Lib.hid hb1
       have HU1 := Lib.hid hbut
       clear hb1 hbut e9)
    | (go_at_call 29; refine (ctags B uv u s _ hu hs (cc_cell HB1.out).1 (cc_cell HB1.out).2.1 (uniq_kept HQ.out HB.out HU1.out)).mono ?_; rintro e w2 ⟨v2, rfl, hb2, hs2⟩
       have HB2 := Lib.hid hb2
       have S2 := Lib.hid hs2
       clear hb2 hs2)
    | (go_at_call 28; refine (discovery_any B m bcast 9 0 v2 (tagsOf u s.data.toList) _ ((cc_cell HB1.out).2.2.2.2.below HB2.out) S2.out).mono ?_; rintro e w3 ⟨v3, rfl, hb3, hs3⟩))
  go_ret
  have hlt : B < w1.heap.size := (Array.getElem?_eq_some_iff.1 HB1.out).1
  have hb13 := HB2.out.trans (hb3.mono HB2.out.size)
  exact ⟨_, rfl, HU1.out.trans hb13, (hb13.block B hlt).trans HB1.out, hs3.older (Nat.le_trans HU1.out.size HB2.out.size)⟩
end Go.Proofs.YtokiedeiamlnlaaGreat
