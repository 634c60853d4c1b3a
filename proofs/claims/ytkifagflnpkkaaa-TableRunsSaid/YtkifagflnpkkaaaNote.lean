/- index.note. -/
import Derived.Test.YtkifagflnpkkaaaMapL
namespace Go.Proofs.Ytkifagflnpkkaaa
set_option linter.unusedSimpArgs false
set_option linter.unusedVariables false
open Go.RowKit
set_option maxRecDepth 10000

theorem mac_load {o : Oper} {ev : Operand → Value} {W : World} {p : Operand} {B : Nat} {m : Mac} {t : TypeId} {fr : Nat × Nat} (ho : o.op = .load 38 p) (hx : ev p = .pointer (some ⟨B, 0, none⟩))
    (hb : W.heap[B]? = some (.cells #[bv m.a, bv m.b, bv m.c, bv m.d, bv m.e, bv m.f] t fr)) : (execOp ev o).run Try.prog W = .ok (.value m.v) W := by
  have hr := run_var_block (P := Try.prog) hb 38 (by kernel_rfl) (by kernel_rfl)
  unfold execOp
  simp only [ho, hx, Instr.loadAt, Instr.sureAddr, hr, Sem.run_bind, Sem.run_pure, Result.andThen_ok]
  rfl
theorem exec_lookup {o : Oper} {ev : Operand → Value} {W : World} {p q : Operand} {M : Nat} {f : List (Mac × Value)} {m : Mac} (ho : o.op = .lookup 67 p q false) (hp : ev p = .map (some M)) (hq : ev q = m.v) (hM : MapAt W M f) :
    (execOp ev o).run Try.prog W = .ok (.value (found f m)) W := by
  have hr := run_lookup W M f m hM
  unfold execOp
  simp only [ho, hp, hq, hr, Sem.run_bind, Sem.run_pure, Result.andThen_ok]
theorem exec_update {o : Oper} {ev : Operand → Value} {W w' : World} {p q r : Operand} {M : Nat} {m : Mac} {v : Value} (ho : o.op = .mapUpdate 67 p q r) (hp : ev p = .map (some M)) (hq : ev q = m.v) (hv : ev r = v)
    (hr : (Instr.mapUpdate 67 (.map (some M)) m.v v).run Try.prog W = .ok () w') : (execOp ev o).run Try.prog W = .ok .skip w' := by
  unfold execOp
  simp only [ho, hp, hq, hv, hr, Sem.run_bind, Sem.run_pure, Result.andThen_ok]
theorem map_kept {w w' : World} {S : Nat → Prop} {M : Nat} {f : List (Mac × Value)} (h : MapAt w M f) (hk : Kept w w' S) (hn : ¬ S M) : MapAt w' M f := by
  obtain ⟨es, clock, hM, hes⟩ := h
  exact ⟨es, clock, (hk.block M (Array.getElem?_eq_some_iff.1 hM).1 hn).trans hM, hes⟩
theorem map_below {w w' : World} {M : Nat} {f : List (Mac × Value)} (h : MapAt w M f) (hb : Below w.heap.size w w') : MapAt w' M f := map_kept h (kept_below hb (fun _ => False)) (fun h => h)
theorem map_lt {w : World} {M : Nat} {f : List (Mac × Value)} (h : MapAt w M f) : M < w.heap.size := by
  obtain ⟨es, clock, hM, hes⟩ := h
  exact (Array.getElem?_eq_some_iff.1 hM).1
theorem own_not_map {w : World} {M : Nat} {f : List (Mac × Value)} (h : MapAt w M f) {base : Nat} {e : TypeId} {size : Nat} {v : Value} {n : Nat} {xs : List Value} (hv : w.ownsRow base e size v n xs) : v.ownBlock ≠ some M := by
  obtain ⟨es, clock, hM, _⟩ := h
  rcases hv.2 with ⟨rfl, _⟩ | ⟨g, cap, cur, rfl, _, hg, _⟩
  · intro h; cases h
  · intro h
    cases h
    rw [hM] at hg; cases hg

theorem lies_down {w w1 : World} {v v' : Value} (h : Lies w1 v v') (hs : w.heap.size ≤ w1.heap.size) : Lies w v v' := by
  rcases h with h | ⟨g, h1, h2⟩
  · exact .inl h
  · exact .inr ⟨g, h1, Nat.le_trans hs h2⟩
theorem own_one {w : World} {base : Nat} {e : TypeId} {size : Nat} {v : Value} {n : Nat} {xs : List Value} (h : w.ownsRow base e size v n xs) : v.oneCell' = true := by
  rcases h.2 with ⟨rfl, _⟩ | ⟨g, cap, cur, rfl, _⟩ <;> rfl
theorem exec_store_row {o : Oper} {ev : Operand → Value} {W : World} {x y : Operand} {B : Nat} {cs old : Array Value} {t : TypeId} (ty : TypeId) (ho : o.op = .store ty x y) (hx : ev x = .pointer (some ⟨B, 0, none⟩)) (hy : ev y = .agg cs)
    (hb : W.heap[B]? = some (.cells old t (0, 0))) (hi : (Try.prog.info? ty).map (·.size) = some cs.size) (hso : old.size = cs.size) (h1 : cs.all (·.oneCell') = true) : (execOp ev o).run Try.prog W = .ok .skip (W.setRow B cs) := by
  have hr := run_storeVar_row (P := Try.prog) W B t ty old cs hb hi hso h1
  unfold execOp
  simp only [ho, hx, hy, Instr.storeAt, Instr.sureAddr, Sem.run_bind, Sem.run_pure, Result.andThen_ok, hr]
theorem exec_load_pair {o : Oper} {ev : Operand → Value} {W : World} {p : Operand} {B : Nat} {a b : Value} {t : TypeId} {fr : Nat × Nat} (ho : o.op = .load 86 p) (hx : ev p = .pointer (some ⟨B, 0, none⟩))
    (hb : W.heap[B]? = some (.cells #[a, b] t fr)) : (execOp ev o).run Try.prog W = .ok (.value (.agg #[a, b])) W := by
  have hr := run_var_block (P := Try.prog) hb 86 (by kernel_rfl) (by kernel_rfl)
  unfold execOp
  simp only [ho, hx, Instr.loadAt, Instr.sureAddr, hr, Sem.run_bind, Sem.run_pure, Result.andThen_ok]
theorem below_setRow {B : Nat} {a w : World} (h : Below B a w) {g : Nat} (hg : B ≤ g) (cs : Array Value) : Below B a (w.setRow g cs) :=
  ⟨h.os, h.tape, h.output, by rw [setRow_size]; exact h.size, fun k hk => (setRow_other w g k cs (by omega)).trans (h.block k hk)⟩

set_option maxHeartbeats 4000000 in
theorem note_any (T M : Nat) (f : List (Mac × Value)) (m : Mac) (id : Int) (kv vv : Value) (ks us : List Int) (n : Nat) (w : World) (hT : w.cell? ⟨T, 0, none⟩ = some (.map (some M))) (hM : MapAt w M f) (hf : found f m = .agg #[kv, vv])
    (hk : w.ownsRow 0 3 1 kv n (ks.map iv)) (hu : w.ownsRow 0 3 1 vv n (us.map iv)) (hTk : kv.ownBlock ≠ some T) (hTu : vv.ownBlock ≠ some T) (hku : ∀ g, kv.ownBlock = some g → vv.ownBlock ≠ some g)
    (hs : ks.Pairwise (· < ·)) (hn : n ≤ 100000) (hno : id ∉ ks) :
    Calls Try.prog 42 #[.pointer (some ⟨T, 0, none⟩), m.v, .int .i64 id] w fun e w' => ∃ a kv' vv', e = .returned (.tuple #[]) ∧ PlaceIs ks id a ∧
      w'.ownsRow 0 3 1 kv' (n + 1) ((putIn ks a id).map iv) ∧ w'.ownsRow 0 3 1 vv' (n + 1) ((putIn us a id).map iv) ∧ MapAt w' M (upd f m (.agg #[kv', vv'])) ∧
      Lies w kv kv' ∧ Lies w vv vv' ∧ (∀ g, kv'.ownBlock = some g → vv'.ownBlock ≠ some g) ∧ Kept w w' (fun b => b = M ∨ some b = kv.ownBlock ∨ some b = vv.ownBlock) := by
  have HTl := World.block_lt_of_cell? w _ hT
  have HM := Lib.hid hM
  have HT := Lib.hid hT
  have HK := Lib.hid hk
  have HU := Lib.hid hu
  have Hf := Lib.hid hf
  have ok1 : (#[kv, vv] : Array Value).all (·.oneCell') = true := by simp [own_one hk, own_one hu]
  have OK1 := Lib.hid ok1
  obtain ⟨w0, hw0⟩ : ∃ w0, w0 = w.alloc (.cells #[bv m.a, bv m.b, bv m.c, bv m.d, bv m.e, bv m.f] 38) := ⟨_, rfl⟩
  have HB0 : Hid (Below w.heap.size w w0) := by rw [hw0]; exact (Below.refl _ _).alloc (Nat.le_refl _) _
  have HC0 : Hid (w0.heap[w.heap.size]? = some (.cells #[bv m.a, bv m.b, bv m.c, bv m.d, bv m.e, bv m.f] 38 (0, 0))) := by rw [hw0]; exact heap_alloc_new w _
  have hz0 : w0.heap.size = w.heap.size + 1 := by rw [hw0]; simp
  have HZ0 := Lib.hid hz0
  clear hM hT hk hu hf ok1 hz0
  have Hh0 := Lib.hid hw0
  clear hw0
  go_enter Try.func42, Try.ntmps42
  unfold Mac.v
  go_wp2
  rw [← Hh0.out]
  have Hd : Hid (Below w0.heap.size w0 w0.drew) := (Below.refl _ _).drew
  have HTw : Hid (∀ W, Below w0.heap.size w0 W → W.cell? ⟨T, 0, none⟩ = some (.map (some M))) := fun W h => cell_below HT.out (HB0.out.trans (h.mono HB0.out.size))
  have HCw : Hid (∀ W, Below w0.heap.size w0 W → W.heap[w.heap.size]? = some (.cells #[bv m.a, bv m.b, bv m.c, bv m.d, bv m.e, bv m.f] 38 (0, 0))) := fun W h => (h.block _ (by have := HZ0.out; omega)).trans HC0.out
  have HMw : Hid (∀ W, Below w0.heap.size w0 W → MapAt W M f) := fun W h => map_below HM.out (HB0.out.trans (h.mono HB0.out.size))
  refine rn_begin w0.heap.size (by kernel_rfl) ?_
  refine rn_take (i := 0) rfl (by kernel_rfl) (by kernel_rfl) (by kernel_rfl) (fun _ _ _ h => h) (by rfl) (v := .pointer (some ⟨T, 0, none⟩)) (by intro W _; go_simp) ?_
  simp only [Act.put, List.setIfInBounds_toArray, List.set_cons_zero, List.set_cons_succ]
  refine rn_take (i := 1) rfl (by kernel_rfl) (by kernel_rfl) (by kernel_rfl) (fun _ _ _ h => h) (by rfl) (v := .pointer (some ⟨T, 0, none⟩)) (by intro W _; go_simp) ?_
  simp only [Act.put, List.setIfInBounds_toArray, List.set_cons_zero, List.set_cons_succ]
  refine rn_take (i := 2) rfl (by kernel_rfl) (by kernel_rfl) (by kernel_rfl) (fun _ _ _ h => h) (by rfl) (v := .pointer (some ⟨T, 0, none⟩)) (by intro W _; go_simp) ?_
  simp only [Act.put, List.setIfInBounds_toArray, List.set_cons_zero, List.set_cons_succ]
  have hA := fun W (hW : Sn w0.heap.size w0.drew W) => HTw.out W (Hd.out.trans hW)
  refine rn_take (i := 3) rfl (by kernel_rfl) (by kernel_rfl) (by kernel_rfl) (fun _ _ _ h => h) (by rfl) (v := .map (some M)) (by intro W hW; go_simp) ?_
  simp only [Act.put, List.setIfInBounds_toArray, List.set_cons_zero, List.set_cons_succ]
  clear hA
  refine rn_take (i := 4) rfl (by kernel_rfl) (by kernel_rfl) (by kernel_rfl) (fun _ _ _ h => h) (by rfl) (v := m.v) (fun W hW => mac_load rfl (by rfl) (HCw.out W (Hd.out.trans hW))) ?_
  simp only [Act.put, List.setIfInBounds_toArray, List.set_cons_zero, List.set_cons_succ]
  refine rn_take (i := 5) rfl (by kernel_rfl) (by kernel_rfl) (by kernel_rfl) (fun _ _ _ h => h) (by rfl) (v := .agg #[kv, vv]) (fun W hW => by rw [← Hf.out]; exact exec_lookup rfl (by rfl) (by rfl) (HMw.out W (Hd.out.trans hW))) ?_
  simp only [Act.put, List.setIfInBounds_toArray, List.set_cons_zero, List.set_cons_succ]
  refine rn_one (i := 6) (by kernel_rfl) ?_
  refine st_made (i := 6) rfl (by rfl) (v := .pointer (some ⟨w0.heap.size, 0, none⟩)) (x := .cells #[.slice none 0 0, .slice none 0 0] 86) (by go_simp) (Nat.le_refl _) ?_
  intro v6 w6 hv6 hw6 hb6
  subst hv6
  have HL6 : Hid (w6.heap[w0.heap.size]? = some (.cells #[.slice none 0 0, .slice none 0 0] 86 (0, 0))) := by rw [hw6]; exact heap_alloc_new w0.drew _
  have HB6 := Lib.hid (Hd.out.trans hb6)
  clear hw6
  simp only [Act.put, List.setIfInBounds_toArray, List.set_cons_zero, List.set_cons_succ]
  refine rn_one (i := 7) (by kernel_rfl) ?_
  refine st_skip (i := 7) rfl (by rfl) (w' := w6.setRow w0.heap.size #[kv, vv]) (exec_store_row _ rfl (by rfl) (by rfl) HL6.out (by kernel_rfl) rfl OK1.out) (below_setRow (Below.refl _ _) (Nat.le_refl _) _) ?_
  have HL7 : Hid ((w6.setRow w0.heap.size #[kv, vv]).heap[w0.heap.size]? = some (.cells #[kv, vv] 86 (0, 0))) := setRow_heap w6 _ _ _ _ _ HL6.out
  have HB7 : Hid (Below w0.heap.size w0 (w6.setRow w0.heap.size #[kv, vv])) := below_setRow HB6.out (Nat.le_refl _) _
  generalize w6.setRow w0.heap.size #[kv, vv] = w7 at *
  simp only [Act.put]
  refine rn_done (by kernel_rfl) ?_
  clear hb6
  have HBw7 : Hid (Below w.heap.size w w7) := HB0.out.trans (HB7.out.mono HB0.out.size)
  have HPI := Lib.hid (put_int w0.heap.size 0 #[kv, vv] _ kv vv ks us id id n w7 HL7.out rfl rfl (own_kept HK.out (kept_below HBw7.out (fun _ => False)) (fun _ _ h => h)) (own_kept HU.out (kept_below HBw7.out (fun _ => False)) (fun _ _ h => h)) (fun e => by have := (HK.out.lt _ e).2; have := HZ0.out; omega) (fun e => by have := (HU.out.lt _ e).2; have := HZ0.out; omega) hku hs hn hno)
  go_wp2_with (go_at_call 57; refine HPI.out.mono ?_; rintro e w8 ⟨a, kv', vv', rfl, p1, p3, p4, p5, p6, p7, p7b, p8⟩)
  have hkw : ∀ g, kv.ownBlock = some g → g < w.heap.size := fun g hg => (HK.out.lt g hg).2
  have huw : ∀ g, vv.ownBlock = some g → g < w.heap.size := fun g hg => (HU.out.lt g hg).2
  have hz7 : w0.heap.size ≤ w7.heap.size := HB7.out.size
  have hMl := map_lt HM.out
  have hMk := own_not_map HM.out HK.out
  have hMu := own_not_map HM.out HU.out
  have hz0 := HZ0.out
  have HS8 : Hid (∀ b, b < w.heap.size → some b ≠ kv.ownBlock → some b ≠ vv.ownBlock → w8.heap[b]? = w.heap[b]?) := fun b hb h1 h2 =>
    (p8.block b (by omega) (by rintro (h | h | h); omega; exact h1 h; exact h2 h)).trans (HBw7.out.block b hb)
  have HM8 : Hid (MapAt w8 M f) := by
    obtain ⟨es, clock, q1, q2⟩ := HM.out
    exact ⟨es, clock, (HS8.out M hMl (fun e => hMk e.symm) (fun e => hMu e.symm)).trans q1, q2⟩
  have HT8 : Hid (w8.cell? ⟨T, 0, none⟩ = some (.map (some M))) := (World.cell?_of_block (HS8.out T HTl (fun e => hTk e.symm) (fun e => hTu e.symm))).trans HT.out
  have HC8 : Hid (w8.heap[w.heap.size]? = some (.cells #[bv m.a, bv m.b, bv m.c, bv m.d, bv m.e, bv m.f] 38 (0, 0))) := (p8.block _ (by omega) (by rintro (h | h | h); omega; have := hkw _ h.symm; omega; have := huw _ h.symm; omega)).trans (HCw.out w7 HB7.out)
  have HL8 : Hid (w8.heap[w0.heap.size]? = some (.cells #[kv', vv'] 86 (0, 0))) := p5
  have HLM : Hid (w0.heap.size ≠ M) := fun e => by omega
  have HTM : Hid (T ≠ M) := fun e => by
    subst e
    obtain ⟨es, clock, q1, _⟩ := HM.out
    have := HT.out
    simp [World.cell?, q1] at this
  have HwM : Hid (w.heap.size ≠ M) := fun e => by omega
  have Hd8 : Hid (Kept w8 w8.drew (fun k => k = M)) := ⟨rfl, rfl, rfl, Nat.le_refl _, fun _ _ _ => rfl⟩
  have Hl8 : Hid (w.heap.size < w8.heap.size ∧ w0.heap.size < w8.heap.size ∧ T < w8.heap.size) := by have := p8.size; have := (Array.getElem?_eq_some_iff.1 HL8.out).1; exact ⟨by omega, by omega, by omega⟩
  obtain ⟨w9, u1, u2, u3⟩ := run_update w8.drew M f m (.agg #[kv', vv']) HM8.out
  refine rs_begin (Kept w8 · (fun k => k = M)) (by kernel_rfl) ?_
  refine rs_take (i := 0) rfl (by kernel_rfl) (by kernel_rfl) (by kernel_rfl) (fun _ _ _ h => h) (by rfl) Hd8.out (v := .pointer (some ⟨T, 0, none⟩)) (by intro W _; go_simp) ?_
  simp only [Act.put, List.setIfInBounds_toArray, List.set_cons_zero, List.set_cons_succ]
  refine rs_take (i := 1) rfl (by kernel_rfl) (by kernel_rfl) (by kernel_rfl) (fun _ _ _ h => h) (by rfl) Hd8.out (v := .pointer (some ⟨T, 0, none⟩)) (by intro W _; go_simp) ?_
  simp only [Act.put, List.setIfInBounds_toArray, List.set_cons_zero, List.set_cons_succ]
  refine rs_take (i := 2) rfl (by kernel_rfl) (by kernel_rfl) (by kernel_rfl) (fun _ _ _ h => h) (by rfl) Hd8.out (v := .pointer (some ⟨T, 0, none⟩)) (by intro W _; go_simp) ?_
  simp only [Act.put, List.setIfInBounds_toArray, List.set_cons_zero, List.set_cons_succ]
  have hA := fun W (hW : Kept w8 W (fun k => k = M)) => (World.cell?_of_block (hW.block T Hl8.out.2.2 HTM.out)).trans HT8.out
  refine rs_take (i := 3) rfl (by kernel_rfl) (by kernel_rfl) (by kernel_rfl) (fun _ _ _ h => h) (by rfl) Hd8.out (v := .map (some M)) (by intro W hW; go_simp) ?_
  simp only [Act.put, List.setIfInBounds_toArray, List.set_cons_zero, List.set_cons_succ]
  clear hA
  refine rs_take (i := 4) rfl (by kernel_rfl) (by kernel_rfl) (by kernel_rfl) (fun _ _ _ h => h) (by rfl) Hd8.out (v := m.v) (fun W hW => mac_load rfl (by rfl) ((hW.block _ Hl8.out.1 HwM.out).trans HC8.out)) ?_
  simp only [Act.put, List.setIfInBounds_toArray, List.set_cons_zero, List.set_cons_succ]
  refine rs_take (i := 5) rfl (by kernel_rfl) (by kernel_rfl) (by kernel_rfl) (fun _ _ _ h => h) (by rfl) Hd8.out (v := .agg #[kv', vv']) (fun W hW => exec_load_pair rfl (by rfl) ((hW.block _ Hl8.out.2.1 HLM.out).trans HL8.out)) ?_
  simp only [Act.put, List.setIfInBounds_toArray, List.set_cons_zero, List.set_cons_succ]
  have hall : Kept w8 w9 (fun k => k = M) := ⟨u3.os, u3.tape, u3.output, u3.size, u3.block⟩
  refine rs_store (i := 6) (by kernel_rfl) rfl (by rfl) (exec_update rfl (by rfl) (by rfl) (by rfl) u1) hall ?_
  simp only [Act.put]
  refine rs_done (by kernel_rfl) ?_
  refine bodyPost_end (results_none rfl _ _ _) rfl ⟨a, kv', vv', rfl, p1, own_kept p3 hall (fun g hg h => own_not_map HM8.out p3 (by rw [hg, h])), own_kept p4 hall (fun g hg h => own_not_map HM8.out p4 (by rw [hg, h])), u2, lies_down p6 HBw7.out.size, lies_down p7 HBw7.out.size, p7b, ?_⟩
  refine ⟨hall.os.trans (p8.os.trans HBw7.out.os), hall.tape.trans (p8.tape.trans HBw7.out.tape), hall.output.trans (p8.output.trans HBw7.out.output), Nat.le_trans HBw7.out.size (Nat.le_trans p8.size hall.size), fun b hb hn => ?_⟩
  exact (hall.block b (by have := p8.size; have := HBw7.out.size; omega) (fun e => hn (.inl e))).trans (HS8.out b hb (fun e => hn (.inr (.inl e))) (fun e => hn (.inr (.inr e))))
end Go.Proofs.Ytkifagflnpkkaaa
