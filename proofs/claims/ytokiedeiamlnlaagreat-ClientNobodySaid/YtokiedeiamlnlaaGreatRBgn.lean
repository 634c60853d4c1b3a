/- The reference's Begin. -/
import Derived.Test.YtokiedeiamlnlaaGreatBgn
namespace Go.Proofs.YtokiedeiamlnlaaGreat
set_option linter.unusedSimpArgs false
set_option linter.unusedVariables false
open Go.RowKit
set_option maxRecDepth 10000

theorem exec_load_rc {o : Oper} {ev : Operand → Value} {W : World} {x : Operand} {B : Nat} {cs : Array Value} {t : TypeId} {fr : Nat × Nat} (ho : o.op = .load 53 x) (hx : ev x = .pointer (some ⟨B, 0, none⟩))
    (hb : W.heap[B]? = some (.cells cs t fr)) (hs : cs.size = 37) : (execOp ev o).run Tryz.prog W = .ok (.value (.agg cs)) W := by
  have hr := run_load_block (P := Tryz.prog) hb 53 (by kernel_rfl) (by rw [hs]; kernel_rfl)
  unfold execOp
  simp only [ho, hx, hr, Sem.run_bind, Sem.run_pure, Result.andThen_ok]
theorem exec_store_rc {o : Oper} {ev : Operand → Value} {W : World} {x y : Operand} {B : Nat} {cs old : Array Value} {t : TypeId} (ho : o.op = .store 53 x y) (hx : ev x = .pointer (some ⟨B, 0, none⟩)) (hy : ev y = .agg cs)
    (hb : W.heap[B]? = some (.cells old t (0, 0))) (hs : cs.size = 37) (hso : old.size = 37) (h1 : cs.all (·.oneCell') = true) : (execOp ev o).run Tryz.prog W = .ok .skip (W.setRow B cs) := by
  have hr := run_storeVar_row (P := Tryz.prog) W B t 53 old cs hb (by rw [hs]; kernel_rfl) (by omega) h1
  unfold execOp
  simp only [ho, hx, hy, Instr.storeAt, Instr.sureAddr, Sem.run_bind, Sem.run_pure, Result.andThen_ok, hr]
theorem But.setRow {w : World} {g : Nat} (cs : Array Value) : But g w (w.setRow g cs) :=
  ⟨rfl, rfl, rfl, by rw [setRow_size]; exact Nat.le_refl _, fun k _ hn => setRow_other w g k cs hn⟩
theorem wpList_store_rc {ops : Array Oper} {rest : List Oper} {op : Oper} {a : Act} {w : World} {Q : Exit → Act → World → Prop} (hgd : op.guard = none) (x y : Operand) (ho : op.op = .store 53 x y)
    {B : Nat} {cs old : Array Value} {t : TypeId} (hx : a.eval x = .pointer (some ⟨B, 0, none⟩)) (hy : a.eval y = .agg cs) (hb : w.heap[B]? = some (.cells old t (0, 0))) (hs : cs.size = 37) (hso : old.size = 37) (h1 : cs.all (·.oneCell') = true)
    (h : ∀ w1, w1.heap[B]? = some (.cells cs t (0, 0)) → But B w w1 → wpList Tryz.prog ops Q rest (a.put op.dst undef) w1) : wpList Tryz.prog ops Q (op :: rest) a w :=
  wpList_store_row hgd _ x y ho B cs hx hy t old hb (by rw [hs]; kernel_rfl) (by omega) h1 (h _ (setRow_heap w B _ _ _ _ hb) (But.setRow _))
theorem rc_one (m : Mac) (a : Option Addr) (n c : Nat) (s : ByteArray) (mg ph : Int) : (rCells m (.slice a n c) s mg ph).all (·.oneCell') = true := by
  simp [rCells, Value.oneCell']
theorem rc_cell {w : World} {B : Nat} {m : Mac} {u : Value} {s : ByteArray} {mg ph : Int} {t : TypeId} {fr : Nat × Nat} (hb : w.heap[B]? = some (.cells (rCells m u s mg ph) t fr)) :
    w.cell? ⟨B, 6, none⟩ = some u ∧ w.cell? ⟨B, 7, none⟩ = some (.string s) ∧ w.cell? ⟨B, 8, none⟩ = some (.int .i64 mg) ∧ w.cell? ⟨B, 9, none⟩ = some (.int .i64 ph) ∧
    w.cell? ⟨B, 0, none⟩ = some (bv m.a) ∧ w.cell? ⟨B, 1, none⟩ = some (bv m.b) ∧ w.cell? ⟨B, 2, none⟩ = some (bv m.c) ∧ w.cell? ⟨B, 3, none⟩ = some (bv m.d) ∧ w.cell? ⟨B, 4, none⟩ = some (bv m.e) ∧ w.cell? ⟨B, 5, none⟩ = some (bv m.f) := by
  simp only [cell_of_row w B _ _ _ _ hb]
  exact ⟨rfl, rfl, rfl, rfl, rfl, rfl, rfl, rfl, rfl, rfl⟩
theorem rc_me (m : Mac) (u : Value) (s : ByteArray) (mg ph : Int) : MeIn (rCells m u s mg ph) m := ⟨rfl, rfl, rfl, rfl, rfl, rfl⟩

set_option maxHeartbeats 4000000 in
theorem rbegin_first (m : Mac) (uv : Value) (u : List UInt8) (s : ByteArray) (mg : Int) (w : World) (hu : u.length ≤ 100) (hs : s.size ≤ 100) (hv : IsBytes w uv u) :
    Calls Tryz.prog 17 #[.agg (rCells m uv s mg 0)] w fun e w' => ∃ y, e = .returned (.tuple #[.agg (rCells m uv s mg 1), y]) ∧ Below w.heap.size w w' ∧ NewBytes w w' y (discL m bcast 9 0 (tagsOf u s.data.toList)) := by
  obtain ⟨a, cap, rfl, -, -⟩ := hv.shape
  have HONE := Lib.hid (rc_one m a u.length cap s mg 1)
  have HT : Hid (∀ w, IsBytes w (.slice a u.length cap) u → Calls Tryz.prog 43 #[.agg (rCells m (.slice a u.length cap) s mg 1)] w _) := fun w hv => rtags_of (rCells m (.slice a u.length cap) s mg 1) (.slice a u.length cap) u s w hu hs rfl rfl hv
  have HD : Hid (∀ w lv, IsTags w lv (tagsOf u s.data.toList) → Calls Tryz.prog 42 #[.agg (rCells m (.slice a u.length cap) s mg 1), bcast.v, .int .i64 9, lv] w _) := fun w lv hl => rdisc_any (rCells m (.slice a u.length cap) s mg 1) m bcast 9 lv (tagsOf u s.data.toList) w rfl (rc_me _ _ _ _ _) hl
  have h2 := alloc2 w (.cells (rCells m (.slice a u.length cap) s mg 0) 53) (.cells rZero 53)
  have HbA : Hid (Below w.heap.size w ((w.alloc (.cells (rCells m (.slice a u.length cap) s mg 0) 53)).alloc (.cells rZero 53))) := ((Below.refl _ _).alloc (Nat.le_refl _) _).alloc (by simp) _
  have HC := Lib.hid h2.1
  have HZ := Lib.hid h2.2.1
  have hC := rc_cell HC.out
  clear h2
  simp only [rZero, z8, zi, zn] at hC
  have HvA := Lib.hid (hv.below HbA.out)
  have hvw := Lib.hid hv
  clear hv
  go_enter Tryz.func17, Tryz.ntmps17
  go_wp2_with (
      (show wpList _ _ _ (Oper.mk none (Op.store _ _ _) _ _ _ _ :: _) _ _
       go_must (refine wpList_store_rc rfl _ _ rfl rfl (cs := rCells m (.slice a u.length cap) s mg 1) rfl HC.out rfl rfl HONE.out ?_)
       intro w1 hb1 hbut
       have HC1 := Lib.hid hb1
       have HU1 := Lib.hid hbut
       clear hb1 hbut hC))
  have Hlt : Hid (w.heap.size + 1 < w1.heap.size) := by have := HU1.out.size; simp only [World.size_alloc] at this; unfold Hid; omega
  have HC1l : Hid (∀ W, Below w1.heap.size w1 W → W.heap[w.heap.size]? = _) := fun W h => (h.block _ (Nat.lt_trans (Nat.lt_succ_self _) Hlt.out)).trans HC1.out
  have HZ1 : Hid (w1.heap[w.heap.size + 1]? = _) := (HU1.out.block _ (by simp only [World.size_alloc]; omega) (by omega)).trans HZ.out
  have Hb1 : Hid (Below w.heap.size w w1) := HbA.out.trans (HU1.out.below (by simp only [World.size_alloc]; omega))
  have Hv1 : Hid (IsBytes w1.drew (.slice a u.length cap) u) := by have := hvw.out.below ((Hb1.out).trans ((Below.refl _ _).drew)); exact this
  have Hbd : Hid (Below w1.heap.size w1 w1.drew) := (Below.refl _ _).drew
  simp only [Act.put]
  refine rn_begin w1.heap.size (by kernel_rfl) ?_
  refine rn_take (i := 0) rfl (by kernel_rfl) (by kernel_rfl) (by kernel_rfl) (fun _ _ _ h => h) (by rfl) (v := .agg (rCells m (.slice a u.length cap) s mg 1)) (fun W hW => exec_load_rc rfl rfl (HC1l.out W (Hbd.out.trans hW)) rfl) ?_
  simp only [Act.put, List.setIfInBounds_toArray, List.set_cons_zero, List.set_cons_succ]
  refine rn_take (i := 1) rfl (by kernel_rfl) (by kernel_rfl) (by kernel_rfl) (fun _ _ _ h => h) (by rfl) (v := bcast.v) (by intro W hW; go_simp; exact ⟨rfl, rfl, rfl, rfl, rfl, rfl⟩) ?_
  simp only [Act.put, List.setIfInBounds_toArray, List.set_cons_zero, List.set_cons_succ]
  refine rn_take (i := 2) rfl (by kernel_rfl) (by kernel_rfl) (by kernel_rfl) (fun _ _ _ h => h) (by rfl) (v := .agg (rCells m (.slice a u.length cap) s mg 1)) (fun W hW => exec_load_rc rfl rfl (HC1l.out W (Hbd.out.trans hW)) rfl) ?_
  simp only [Act.put, List.setIfInBounds_toArray, List.set_cons_zero, List.set_cons_succ]
  refine rn_one (i := 3) (by kernel_rfl) ?_
  refine st_call (i := 3) rfl (by rfl) (f := 43) (args := #[.agg (rCells m (.slice a u.length cap) s mg 1)]) (by go_simp) ((HT.out w1.drew Hv1.out).mono ?_)
  rintro e w2 ⟨v2, rfl, hb2, hs2⟩
  have hb2 := hb2.mono Hbd.out.size
  have HB2 := Lib.hid (Hbd.out.trans hb2)
  refine ⟨_, rfl, hb2, ?_⟩
  simp only [Act.put, List.setIfInBounds_toArray, List.set_cons_zero, List.set_cons_succ]
  refine rn_one (i := 4) (by kernel_rfl) ?_
  refine st_call (i := 4) rfl (by rfl) (f := 42) (args := #[.agg (rCells m (.slice a u.length cap) s mg 1), bcast.v, .int .i64 9, v2]) (by go_simp) ((HD.out w2 v2 hs2).mono ?_)
  rintro e w3 ⟨v3, rfl, hb3, hs3⟩
  have hb3 := hb3.mono HB2.out.size
  have HB3 := Lib.hid (HB2.out.trans hb3)
  refine ⟨_, rfl, hb3, ?_⟩
  clear hb2 hs2 hb3
  simp only [Act.put, List.setIfInBounds_toArray, List.set_cons_zero, List.set_cons_succ]
  refine rn_take (i := 5) rfl (by kernel_rfl) (by kernel_rfl) (by kernel_rfl) (fun _ _ _ h => h) (by rfl) (v := v3) (by intro W hW; go_simp) ?_
  simp only [Act.put, List.setIfInBounds_toArray, List.set_cons_zero, List.set_cons_succ]
  refine rn_done (by kernel_rfl) ?_
  have HC3 := Lib.hid (HC1l.out _ HB3.out)
  have HZ3 : Hid (w3.heap[w.heap.size + 1]? = _) := (HB3.out.block _ Hlt.out).trans HZ1.out
  have Hfin : Hid (Below w.heap.size w w3) := Hb1.out.trans (HB3.out.mono Hb1.out.size)
  rcases hs3 with ⟨rfl, hnil⟩ | hrow
  · have Hnil := Lib.hid hnil
    clear hnil
    go_wp2_with (first
      | (show wpList _ _ _ (Oper.mk none (Op.store _ _ _) _ _ _ _ :: _) _ _
         go_must (refine wpList_store_rc rfl _ _ rfl rfl (cs := rCells m (.slice a u.length cap) s mg 1) rfl HZ3.out rfl rfl HONE.out ?_)
         intro w4 hb4 hbut4
         have HC4 := Lib.hid hb4
         have HU4 := Lib.hid hbut4
         clear hb4 hbut4)
      | (refine wpList_load_rc rfl _ rfl rfl HC3.out rfl ?_))
    refine bodyPost_ret (v := .tuple #[.agg (rCells m (.slice a u.length cap) s mg 1), .slice none 0 0]) (rres HC4.out rfl rfl rfl rfl) rfl ⟨_, rfl, Hfin.out.trans ((HU4.out.below ?_).mono ?_), by rw [Hnil.out]; exact .nil _ _⟩
    · have := Hfin.out.size; have := HB3.out.size; have := Hlt.out; omega
    · omega
  · obtain ⟨N, y0, hN, rfl, hc0, hy0⟩ := hrow
    have Hy := Lib.hid hy0
    have Hc := Lib.hid hc0
    have HN : Hid (w.heap.size + 1 < N) := Nat.lt_of_lt_of_le Hlt.out (Nat.le_trans HB2.out.size hN)
    clear hc0 hy0 hN
    have Hbd3 : Hid (But (w.heap.size + 1) w3 w3.drew) := ⟨rfl, rfl, rfl, Nat.le_refl _, fun _ _ _ => rfl⟩
    have HC3l : Hid (∀ W, But (w.heap.size + 1) w3 W → W.heap[w.heap.size]? = _) := fun W h => (h.block _ (Array.getElem?_eq_some_iff.1 HC3.out).1 (by omega)).trans HC3.out
    have HN3l : Hid (∀ W, But (w.heap.size + 1) w3 W → W.heap[N]? = w3.heap[N]?) := fun W h => h.block _ (World.block_lt_of_cell? _ _ Hc.out) (by have := HN.out; omega)
    go_wp2
    refine rs_begin (But (w.heap.size + 1) w3) (by kernel_rfl) ?_
    refine rs_take (i := 0) rfl (by kernel_rfl) (by kernel_rfl) (by kernel_rfl) (fun _ _ _ h => h) (by rfl) Hbd3.out (v := .agg (rCells m (.slice a u.length cap) s mg 1)) (fun W hW => exec_load_rc rfl rfl (HC3l.out W hW) rfl) ?_
    simp only [Act.put, List.setIfInBounds_toArray, List.set_cons_zero, List.set_cons_succ]
    refine rs_take (i := 1) rfl (by kernel_rfl) (by kernel_rfl) (by kernel_rfl) (fun _ _ _ h => h) (by rfl) Hbd3.out (v := .slice (some ⟨N, 0, none⟩) 1 1) (by intro W hW; go_simp) ?_
    simp only [Act.put, List.setIfInBounds_toArray, List.set_cons_zero, List.set_cons_succ]
    refine rs_take (i := 2) rfl (by kernel_rfl) (by kernel_rfl) (by kernel_rfl) (fun _ _ _ h => h) (by rfl) Hbd3.out (v := .pointer (some ⟨N, 0, none⟩)) (by intro W hW; go_simp) ?_
    simp only [Act.put, List.setIfInBounds_toArray, List.set_cons_zero, List.set_cons_succ]
    have hA := fun W (hW : But (w.heap.size + 1) w3 W) => (World.cell?_of_block (a := ⟨N, 0, none⟩) (HN3l.out W hW)).trans Hc.out
    refine rs_take (i := 3) rfl (by kernel_rfl) (by kernel_rfl) (by kernel_rfl) (fun _ _ _ h => h) (by rfl) Hbd3.out (v := y0) (by intro W hW; go_simp) ?_
    simp only [Act.put, List.setIfInBounds_toArray, List.set_cons_zero, List.set_cons_succ]
    clear hA
    have hz : w3.drew.heap[w.heap.size + 1]? = _ := HZ3.out
    have HU4 : Hid (But (w.heap.size + 1) w3 (w3.drew.setRow (w.heap.size + 1) (rCells m (.slice a u.length cap) s mg 1))) := by
      have := But.setRow (w := w3.drew) (g := w.heap.size + 1) (rCells m (.slice a u.length cap) s mg 1)
      exact ⟨this.os, this.tape, this.output, this.size, this.block⟩
    have HC4 := Lib.hid (setRow_heap w3.drew _ _ (rCells m (.slice a u.length cap) s mg 1) _ _ hz)
    have HY4 : Hid (IsBytes (w3.drew.setRow (w.heap.size + 1) (rCells m (.slice a u.length cap) s mg 1)) y0 (discL m bcast 9 0 (tagsOf u s.data.toList))) := Hy.out.kept (C := w.heap.size + 1) (Nat.lt_of_lt_of_le Hlt.out HB2.out.size) HU4.out.block
    refine rs_store (i := 4) (by kernel_rfl) rfl (by rfl) (exec_store_rc rfl rfl rfl hz rfl rfl HONE.out) HU4.out ?_
    clear hz
    generalize w3.drew.setRow (w.heap.size + 1) (rCells m (.slice a u.length cap) s mg 1) = w4 at *
    simp only [Act.put]
    refine rs_take (i := 5) rfl (by kernel_rfl) (by kernel_rfl) (by kernel_rfl) (fun _ _ _ h => h) (by rfl) HU4.out (v := y0) (by intro W hW; go_simp) ?_
    simp only [Act.put, List.setIfInBounds_toArray, List.set_cons_zero, List.set_cons_succ]
    refine rs_done (by kernel_rfl) ?_
    go_wp2
    refine bodyPost_ret (v := .tuple #[.agg (rCells m (.slice a u.length cap) s mg 1), y0]) (rres HC4.out rfl rfl rfl rfl) rfl ⟨_, rfl, Hfin.out.trans ((HU4.out.below ?_).mono ?_), HY4.out, fun x n c hx => Nat.le_trans (Nat.le_trans Hb1.out.size HB2.out.size) (Hy.out.2 x n c hx)⟩
    · have := Hfin.out.size; have := HB3.out.size; have := Hlt.out; omega
    · omega
end Go.Proofs.YtokiedeiamlnlaaGreat
