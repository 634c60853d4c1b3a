/- Nb3: a slice of one's own, turned byte by byte. No condition. -/
import Derived.Test.YtokiedeiamlnlaaGreatNb2
namespace Go.Proofs.YtokiedeiamlnlaaGreat
set_option linter.unusedSimpArgs false
set_option linter.unusedVariables false
open Go.RowKit
set_option maxRecDepth 10000

/-- block C of W is a row of n bytes at least, that may be written -/
def ByteRow (W : World) (C n : Nat) : Prop := ∃ cur : Array Value, W.heap[C]? = some (.cells cur 5 (0, 0)) ∧ n ≤ cur.size
theorem ByteRow.put {W : World} {C n i : Nat} (h : ByteRow W C n) (hi : i < n) (x : Value) : (W.cell? ⟨C, i, none⟩).isSome = true ∧ W.frozen? ⟨C, i, none⟩ = false ∧ ByteRow (W.setCell ⟨C, i, none⟩ x) C n ∧ But C W (W.setCell ⟨C, i, none⟩ x) := by
  obtain ⟨cur, hb, hn⟩ := h
  refine ⟨?_, frozen_of_row W C i cur _ hb, ⟨cur.setIfInBounds i x, ?_, by simpa using hn⟩, ?_⟩
  · rw [cell_of_row W C i cur _ _ hb]; simp; omega
  · rw [setCell_eq_setRow W C i cur 5 (0, 0) x hb]; exact setRow_heap W C cur _ _ _ hb
  · rw [setCell_eq_setRow W C i cur 5 (0, 0) x hb]; exact But.setRow _
theorem But.then {C : Nat} {w w1 w2 : World} (h : But C w w1) (h2 : But C w1 w2) : But C w w2 :=
  ⟨h2.os.trans h.os, h2.tape.trans h.tape, h2.output.trans h.output, Nat.le_trans h.size h2.size, fun k hk hne => (h2.block k (Nat.lt_of_lt_of_le hk h.size) hne).trans (h.block k hk hne)⟩
/-- how far the slice was turned -/
def TurnRel (w10 : World) (a9 : Option Addr) (n : Nat) (i : Value) (wr : World) : Prop := ∃ k : Nat, i = .int .i64 k ∧ k ≤ n ∧ (n = 0 ∧ wr = w10 ∨ ∃ C, a9 = some ⟨C, 0, none⟩ ∧ But C w10 wr ∧ ByteRow wr C n)
/-- bytes below a client's block, as of a world that ends there -/
theorem trunc_bytes {w0 wq w10 wr : World} {B3 : Nat} {v : Value} {l : List UInt8} (hs : wq.heap.size = B3) (hn : NewBytes w0 wq v l) (hb : Below B3 wq w10) {C : Nat} (hC : C < w0.heap.size)
    (hk : ∀ k, k < w10.heap.size → k ≠ C → wr.heap[k]? = w10.heap[k]?) (hsz : w10.heap.size ≤ wr.heap.size) : ∃ wq', wq'.heap.size = B3 ∧ IsBytes wq' v l ∧ Below B3 wq' wr := by
  have hle : B3 ≤ w10.heap.size := by rw [← hs]; exact hb.size
  have hex : ∀ k, k < B3 → (wr.heap.extract 0 B3)[k]? = wr.heap[k]? := fun k hk => by
    rw [Array.getElem?_extract]
    simp only [Nat.zero_add, Nat.sub_zero]
    rw [if_pos (by omega)]
  refine ⟨{ wr with heap := wr.heap.extract 0 B3 }, by show (wr.heap.extract 0 B3).size = B3; simp; omega, hn.kept hC fun k hkl hne => ?_, ⟨rfl, rfl, rfl, by show (wr.heap.extract 0 B3).size ≤ _; simp; omega, fun k hk => (hex k hk).symm⟩⟩
  rw [hs] at hkl
  exact (hex k hkl).trans ((hk k (by omega) hne).trans (hb.block k hkl))
theorem run_load_part {W : World} {B : Nat} {cs : Array Value} (hr : W.rangeAt B 1 cs.toList) (hs : cs.size = 37) :
    (loadVar 53 ⟨B, 1, none⟩).run Tryz.prog W = .ok (.agg cs) W := by
  obtain ⟨d, hu, hd⟩ : ∃ d, Tryz.prog.underlying 53 = some d ∧ d.isRow = true := by
    have hu : (Tryz.prog.underlying 53).map (·.isRow) = some true := by kernel_rfl
    cases h : Tryz.prog.underlying 53 with
    | none => rw [h] at hu; cases hu
    | some d => rw [h] at hu; simp at hu; exact ⟨d, rfl, hu⟩
  have := run_loadVar_mid (P := Tryz.prog) W B 1 53 cs.toList d hr hu hd (by rw [Array.length_toList, hs]; kernel_rfl)
  simpa using this
theorem exec_load_part {o : Oper} {ev : Operand → Value} {W : World} {x : Operand} {B : Nat} {cs : Array Value} (ho : o.op = .load 53 x) (hx : ev x = .pointer (some ⟨B, 1, none⟩))
    (hr : W.rangeAt B 1 cs.toList) (hs : cs.size = 37) : (execOp ev o).run Tryz.prog W = .ok (.value (.agg cs)) W := by
  have hr := run_load_part hr hs
  unfold execOp
  simp only [ho, hx, Instr.loadAt, Instr.sureAddr, hr, Sem.run_bind, Sem.run_pure, Result.andThen_ok]
theorem bCells_eq (p : Value) (m : Mac) (u : Value) (s : ByteArray) (mg ph : Int) : bCells p m u s mg ph = #[p] ++ rCells m u s mg ph := by
  unfold bCells rCells; simp
theorem part_range {w : World} {B2 : Nat} {p : Value} {m : Mac} {u : Value} {s : ByteArray} {mg ph : Int} {t : TypeId} {fr : Nat × Nat} (hb : w.heap[B2]? = some (.cells (bCells p m u s mg ph) t fr)) : w.rangeAt B2 1 (rCells m u s mg ph).toList := by
  intro j v hv
  rw [cell_of_row w B2 _ _ _ _ hb, bCells_eq, Array.getElem?_append_right (by simp)]
  simpa using hv
theorem wpList_load_part {ops : Array Oper} {rest : List Oper} {op : Oper} {a : Act} {w : World} {Q : Exit → Act → World → Prop} (hgd : op.guard = none) (x : Operand) (ho : op.op = .load 53 x)
    {B2 : Nat} {p : Value} {m : Mac} {u : Value} {s : ByteArray} {mg ph : Int} {t : TypeId} {fr : Nat × Nat} (hx : a.eval x = .pointer (some ⟨B2, 1, none⟩)) (hb : w.heap[B2]? = some (.cells (bCells p m u s mg ph) t fr))
    (h : wpList Tryz.prog ops Q rest (a.put op.dst (.agg (rCells m u s mg ph))) w) : wpList Tryz.prog ops Q (op :: rest) a w := by
  have hr := exec_load_part (ev := a.eval) ho hx (part_range hb) rfl
  refine wpList_plain hgd fun K hK => ?_
  unfold Oper.wp
  rw [hr]
  exact hK _ _ h
theorem st_call2 {P : Program} {md : Region.Mode} {ops : Array Oper} {Q : Exit → Act → World → Prop} {B i : Nat} {o : Oper} {f : FuncId} {args : Array Value} {fuel : Nat} {listed : Array Bool} {a : Act} {wk : World}
    (hi' : ops.toList[i]? = some o) (hw : Region.wanted o (yielded ops a.tmps) = true)
    (hrun : (execOp a.eval o).run P wk = .ok (.enter f args) wk)
    (hc : Calls P f args wk fun e w' => ∃ v B', e = .returned v ∧ B ≤ B' ∧ Below B wk w' ∧ wpAnyH P md ops Q (Sn B' w') fuel (listed.setIfInBounds i true) (a.put o.dst v) w') :
    rnSt P md ops Q B fuel listed a wk i := by
  have hi : ops[i]? = some o := Array.getElem?_toList.symm.trans hi'
  unfold rnSt wpOp
  simp only [hi, hw, if_true]
  refine .inl ?_
  unfold Oper.wp
  rw [hrun, Oper.upon_enter]
  refine Calls.mono hc ?_
  rintro e w' ⟨v, B', rfl, hB, hb, hk⟩
  exact ⟨hb, wpAnyH_mono (fun W hW => Below.trans hb (Below.mono hW hB)) _ _ _ _ hk⟩
end Go.Proofs.YtokiedeiamlnlaaGreat
