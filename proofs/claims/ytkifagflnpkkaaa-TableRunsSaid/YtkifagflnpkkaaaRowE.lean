/- Entries; a row of entries: get, put. -/
import Derived.Test.YtkifagflnpkkaaaRowM
import Derived.Deep.MidRow
import Derived.Great.BuildSlice
namespace Go.Proofs.Ytkifagflnpkkaaa
set_option linter.unusedSimpArgs false
set_option linter.unusedVariables false
open Go.RowKit
set_option maxRecDepth 10000

structure Mac where
  (a b c d e f : UInt8)
  deriving DecidableEq
structure EntL where
  id : Int
  mac : Mac
  seen : Int
  deriving DecidableEq
/-- an entry's cells -/
def ec (x : EntL) : List Value := [iv x.id, bv x.mac.a, bv x.mac.b, bv x.mac.c, bv x.mac.d, bv x.mac.e, bv x.mac.f, iv x.seen]
def ecs (l : List EntL) : List Value := (l.map ec).flatten
theorem ec_len (x : EntL) : (ec x).length = 8 := rfl
theorem ec_one (x : EntL) : ∀ u ∈ ec x, u.oneCell' = true := by
  intro u hu
  simp only [ec, List.mem_cons, List.not_mem_nil, or_false] at hu
  rcases hu with rfl | rfl | rfl | rfl | rfl | rfl | rfl | rfl <;> rfl
theorem ecs_one (l : List EntL) : ∀ u ∈ ecs l, u.oneCell' = true := by
  intro u hu
  obtain ⟨c, hc, hu⟩ := List.mem_flatten.1 hu
  obtain ⟨x, _, rfl⟩ := List.mem_map.1 hc
  exact ec_one x u hu
theorem ecs_len (l : List EntL) : (ecs l).length = l.length * 8 := by
  induction l with
  | nil => rfl
  | cons x l ih => unfold ecs at *; simp only [List.map_cons, List.flatten_cons, List.length_append, ih, ec_len, List.length_cons]; omega
theorem ecs_take (l : List EntL) (a : Nat) : ecs (l.take a) = (ecs l).take (a * 8) := by
  induction l generalizing a with
  | nil => simp [ecs]
  | cons x l ih =>
    cases a with
    | zero => simp [ecs]
    | succ a =>
      have := ih a
      unfold ecs at *
      simp only [List.take_succ_cons, List.map_cons, List.flatten_cons, this]
      rw [show (a + 1) * 8 = (ec x).length + a * 8 by rw [ec_len]; omega, List.take_length_add_append]
theorem ecs_drop (l : List EntL) (a : Nat) : ecs (l.drop a) = (ecs l).drop (a * 8) := by
  induction l generalizing a with
  | nil => simp [ecs]
  | cons x l ih =>
    cases a with
    | zero => simp
    | succ a =>
      have := ih a
      unfold ecs at *
      simp only [List.drop_succ_cons, List.map_cons, List.flatten_cons, this]
      rw [show (a + 1) * 8 = (ec x).length + a * 8 by rw [ec_len]; omega, List.drop_length_add_append]
def putEnt (l : List EntL) (a : Nat) (x : EntL) : List EntL := l.take a ++ [x] ++ l.drop a
theorem put_ecs (l : List EntL) (a : Nat) (x : EntL) : ecs (putEnt l a x) = (ecs l).take (a * 8) ++ ec x ++ (ecs l).drop (a * 8) := by
  rw [← ecs_take, ← ecs_drop]
  unfold putEnt ecs
  simp

theorem run_var_block {P : Program} {W : World} {B : Nat} {cs : Array Value} {t : TypeId} {fr : Nat × Nat} (hb : W.heap[B]? = some (.cells cs t fr)) (ty : TypeId)
    (hu : (P.underlying ty).map (·.isRow) = some true) (hi : (P.info? ty).map (·.size) = some cs.size) :
    (loadVar ty ⟨B, 0, none⟩).run P W = .ok (.agg cs) W := by
  obtain ⟨d, hu, hd⟩ : ∃ d, P.underlying ty = some d ∧ d.isRow = true := by
    cases h : P.underlying ty with
    | none => simp [h] at hu
    | some d => simp [h] at hu; exact ⟨d, rfl, hu⟩
  have := run_loadVar_mid (P := P) W B 0 ty cs.toList d (fun j v hv => by
    rw [Nat.zero_add, cell_of_row W B j cs t fr hb]; simpa using hv) hu hd (by simpa using hi)
  simpa using this
theorem exec_load_ent {o : Oper} {ev : Operand → Value} {W : World} {p : Operand} {B : Nat} {x : EntL} {t : TypeId} {fr : Nat × Nat} (ho : o.op = .load 40 p) (hx : ev p = .pointer (some ⟨B, 0, none⟩))
    (hb : W.heap[B]? = some (.cells (ec x).toArray t fr)) : (execOp ev o).run Try.prog W = .ok (.value (.agg (ec x).toArray)) W := by
  have hr := run_var_block (P := Try.prog) hb 40 (by kernel_rfl) (by kernel_rfl)
  unfold execOp
  simp only [ho, hx, Instr.loadAt, Instr.sureAddr, hr, Sem.run_bind, Sem.run_pure, Result.andThen_ok]
theorem run_build_ent (w : World) (x : EntL) : (Instr.buildSlice 22 1 #[(0, .agg (ec x).toArray)]).run Try.prog w = .ok (.slice (some ⟨w.heap.size, 0, none⟩) 1 1) (w.alloc (.cells (ec x).toArray 40)) := by
  obtain ⟨j, hj, hz, hs, hby⟩ := el_ent.ex
  exact run_buildSlice w _ _ 1 _ (ec x).toArray j _ el_ent.ht hj hz (by rw [hs]; decide) (by rw [hs]; decide) (by rw [hs]; kernel_rfl)
theorem exec_build_ent {o : Oper} {ev : Operand → Value} {W : World} {p : Operand} {x : EntL} (ho : o.op = .buildSlice 22 1 #[(0, p)]) (hx : ev p = .agg (ec x).toArray) :
    (execOp ev o).run Try.prog W = .ok (.value (.slice (some ⟨W.heap.size, 0, none⟩) 1 1)) (W.alloc (.cells (ec x).toArray 40)) := by
  have hr := run_build_ent W x
  unfold execOp
  simp only [ho, List.map_toArray, List.map_cons, List.map_nil, hx, hr, Sem.run_bind, Sem.run_pure, Result.andThen_ok]

set_option maxHeartbeats 4000000 in
theorem put_ent_new (R o : Nat) (cs : Array Value) (t : TypeId) (kv vv : Value) (ks : List Int) (us : List EntL) (k : Int) (x : EntL) (n : Nat) (w : World) (hR : w.heap[R]? = some (.cells cs t (0, 0))) (hc0 : cs[o]? = some kv) (hc1 : cs[o + 1]? = some vv)
    (hk : w.ownsRow 0 3 1 kv n (ks.map iv)) (hu : w.ownsRow 0 40 8 vv n (ecs us)) (hkR : kv.ownBlock ≠ some R) (huR : vv.ownBlock ≠ some R) (hku : ∀ g, kv.ownBlock = some g → vv.ownBlock ≠ some g)
    (hs : ks.Pairwise (· < ·)) (hn : n ≤ 100000) (hno : k ∉ ks) :
    Calls Try.prog 41 #[.pointer (some ⟨R, o, none⟩), .int .i64 k, .agg (ec x).toArray] w fun e w' => ∃ a kv' vv', e = .returned (.tuple #[]) ∧ PlaceIs ks k a ∧
      w'.ownsRow 0 3 1 kv' (n + 1) ((putIn ks a k).map iv) ∧ w'.ownsRow 0 40 8 vv' (n + 1) (ecs (putEnt us a x)) ∧ w'.heap[R]? = some (.cells ((cs.setIfInBounds o kv').setIfInBounds (o + 1) vv') t (0, 0)) ∧
      Lies w kv kv' ∧ Lies w vv vv' ∧ (∀ g, kv'.ownBlock = some g → vv'.ownBlock ≠ some g) ∧ Kept w w' (fun b => b = R ∨ some b = kv.ownBlock ∨ some b = vv.ownBlock) := by
  have hl : ks.length = n := by have := hk.1; rw [List.length_map] at this; omega
  obtain ⟨E, hE⟩ : ∃ E, E = (ec x).toArray := ⟨_, rfl⟩
  rw [← hE]
  have HE := Lib.hid hE
  clear hE
  obtain ⟨w0, hw0⟩ : ∃ w0, w0 = w.alloc (.cells E 40) := ⟨_, rfl⟩
  have HK0 : Hid (Kept w w0 (fun _ => False)) := by rw [hw0]; exact kept_alloc w _
  have HX0 : Hid (w0.heap[w.heap.size]? = some (.cells E 40 (0, 0))) := by rw [hw0]; exact heap_alloc_new w _
  have HR : Hid (w0.heap[R]? = some (.cells cs t (0, 0))) := (HK0.out.block R (Array.getElem?_eq_some_iff.1 hR).1 (fun h => h)).trans hR
  have HK := Lib.hid (own_kept hk HK0.out (fun _ _ h => h))
  have HU := Lib.hid (own_kept hu HK0.out (fun _ _ h => h))
  have Hk1 : Hid (∀ g, kv.ownBlock = some g → g < w.heap.size) := fun g hg => (hk.lt g hg).2
  have Hv1 : Hid (∀ g, vv.ownBlock = some g → g < w.heap.size) := fun g hg => (hu.lt g hg).2
  have HRw : Hid (R < w.heap.size) := (Array.getElem?_eq_some_iff.1 hR).1
  have e0 : w0.cell? ⟨R, o, none⟩ = some kv := by rw [cell_of_row w0 R _ _ _ _ HR.out]; exact hc0
  have HP : Hid (Calls Try.prog 51 #[.pointer (some ⟨R, o, none⟩), .int .i64 k] w0 fun e w' => w' = w0 ∧ ∃ a : Nat, e = .returned (.tuple #[.int .i64 a, .bool false]) ∧ PlaceIs ks k a) := (place_ent R o kv ks k w0 e0 (own_ints HK.out) hs (by omega)).mono (by
    rintro e w' ⟨h1, a, h2, h3⟩
    rw [not_there hno a] at h2
    exact ⟨h1, a, h2, h3⟩)
  have hz0 : w0.heap.size = w.heap.size + 1 := by rw [hw0]; simp
  have HZ0 := Lib.hid hz0
  obtain ⟨wK, hwK⟩ : ∃ wK, wK = w0.alloc (.cells #[iv k] 3) := ⟨_, rfl⟩
  have HKK : Hid (Kept w0 wK (fun _ => False)) := by rw [hwK]; exact kept_alloc w0 _
  have HnK : Hid (wK.heap[w.heap.size + 1]? = some (.cells #[iv k] 3 (0, 0))) := by rw [hwK]; have := heap_alloc_new w0 (.cells #[iv k] 3); rwa [hz0] at this
  have HIK := Lib.hid (fun a ha => insert_int kv n (ks.map iv) a (w.heap.size + 1) [iv k] wK (own_kept HK.out HKK.out (fun _ _ e => e)) ha hn rfl HnK.out (fun e => by have := Hk1.out _ e; omega) (iv_one _) (iv_one [k]) _ (put_map ks a k))
  clear hR hk hu hz0
  subst hwK hw0
  go_enter Try.func41, Try.ntmps41
  go_wp2_with (first
    | (have x := HPL.out; clear x; go_at_call 55
       refine (HIK.out a (by have := HPL.out.1; omega)).mono ?_
       rintro e w2 ⟨kv', rfl, h21, h22, h23⟩
       obtain ⟨g2, cap2, rfl, -, hg2⟩ := h21.form (by omega)
       have HKe2 := Lib.hid ((HK0.out.trans HKK.out).trans (kept_grown h22))
       have HR2 : Hid (w2.heap[R]? = some (.cells cs t (0, 0))) := ((HKK.out.trans (kept_grown h22)).block R (Array.getElem?_eq_some_iff.1 HR.out).1 (by rintro (h | h); exact h; exact hkR h.symm)).trans HR.out
       have HX2 : Hid (w2.heap[w.heap.size]? = some (.cells E 40 (0, 0))) := ((HKK.out.trans (kept_grown h22)).block w.heap.size (Array.getElem?_eq_some_iff.1 HX0.out).1 (by rintro (h | h); exact h; have := Hk1.out _ h.symm; omega)).trans HX0.out
       have e0 : w2.cell? ⟨R, o, none⟩ = some kv := by rw [cell_of_row w2 R _ _ _ _ HR2.out]; exact hc0
       have f0 : w2.frozen? ⟨R, o, none⟩ = false := frozen_of_row w2 R o _ _ HR2.out
       have HV2 := Lib.hid (own_kept HU.out (HKK.out.trans (kept_grown h22)) (by rintro g hg (h | h); exact h; exact hku g h.symm hg))
       have hl2 : kv.ownBlock = some g2 ∨ w.heap.size < g2 := by
         rcases h23 with h | ⟨g', h, hge⟩
         · exact .inl h.symm
         · obtain rfl : g2 = g' := by simpa [Value.ownBlock] using h
           right; have := HKK.out.size; have := HZ0.out; omega
       have Hl2 := Lib.hid hl2
       have hg2R : g2 ≠ R := by
         rintro rfl
         rcases hl2 with h | h
         · exact hkR h
         · have := HRw.out; omega
       have HK2 := Lib.hid h21
       have HZ2 : Hid (w.heap.size < w2.heap.size) := by have := HKK.out.size; have := HZ0.out; have := h22.size; unfold Hid; omega
       have Hg2 := Lib.hid hg2
       clear h21 h22 h23 hl2 hg2)
    | (go_at_call 51; refine HP.out.mono ?_; rintro e w1 ⟨rfl, a, rfl, hpl⟩; have HPL := Lib.hid hpl; clear hpl HP))
  have hw3 : (w2.setCell ⟨R, o, none⟩ (.slice (some ⟨g2, 0, none⟩) (n + 1) cap2)) = w2.setCell ⟨R, o, none⟩ (.slice (some ⟨g2, 0, none⟩) (n + 1) cap2) := rfl
  generalize hW3 : w2.setCell ⟨R, o, none⟩ (.slice (some ⟨g2, 0, none⟩) (n + 1) cap2) = w3
  clear hw3
  have HK23 : Hid (Kept w2 w3 (fun k => k = R)) := by rw [← hW3]; exact kept_cell w2 R o _
  have hs3 : w3.heap.size = w2.heap.size := by rw [← hW3]; simp [World.setCell]
  have HR3 : Hid (w3.heap[R]? = some (.cells (cs.setIfInBounds o (.slice (some ⟨g2, 0, none⟩) (n + 1) cap2)) t (0, 0))) := by rw [← hW3]; exact cell_row HR2.out _
  have hc3 : (cs.setIfInBounds o (.slice (some ⟨g2, 0, none⟩) (n + 1) cap2))[o + 1]? = some vv := by rw [Array.getElem?_setIfInBounds_ne (by omega)]; exact hc1
  have HV3 := Lib.hid (own_kept HV2.out HK23.out (fun g hg h => huR (by rw [hg, h])))
  have HK3 := Lib.hid (own_kept HK2.out HK23.out (fun g hg h => hg2R (by cases hg; exact h)))
  have HX3 : Hid (w3.heap[w.heap.size]? = some (.cells E 40 (0, 0))) := (HK23.out.block _ (Array.getElem?_eq_some_iff.1 HX2.out).1 (by have := HRw.out; omega)).trans HX2.out
  clear hW3
  have HE3 : Hid (w3.drew.heap[w.heap.size]? = some (.cells (ec x).toArray 40 (0, 0))) := by rw [← HE.out]; exact HX3.out
  rw [HE.out]
  have e1 : w3.drew.cell? ⟨R, o + 1, none⟩ = some vv := by rw [cell_of_row w3.drew R _ _ _ _ HR3.out]; exact hc3
  have e2 : (w3.alloc (.cells (ec x).toArray 40)).cell? ⟨R, o + 1, none⟩ = some vv := by rw [World.cell?_alloc_lt _ _ _ (World.block_lt_of_cell? w3 _ e1)]; exact e1
  have HV4 : Hid ((w3.drew.alloc (.cells (ec x).toArray 40)).ownsRow 0 40 8 vv n (ecs us)) := own_kept (w := w3.drew) (S := fun _ => False) HV3.out (kept_alloc w3.drew _) (fun _ _ e => e)
  have HIV := Lib.hid (insert_ent vv n (ecs us) a w3.heap.size (ec x) (w3.drew.alloc (.cells (ec x).toArray 40)) HV4.out (by have := HPL.out.1; omega) hn rfl (heap_alloc_new w3.drew _) (fun e => by have := Hv1.out _ e; have := HZ2.out; omega) (ecs_one _) (ec_one x) _ (put_ecs us a x))
  refine rs_begin (fun _ => True) (by kernel_rfl) ?_
  refine rs_take (i := 0) rfl (by kernel_rfl) (by kernel_rfl) (by kernel_rfl) (fun _ _ _ h => h) (by rfl) trivial (v := ?_) ?_ ?_
  rotate_left 1
  · intro W _; go_simp; all_goals with_reducible rfl
  simp only [Act.put, List.setIfInBounds_toArray, List.set_cons_zero, List.set_cons_succ]
  refine rs_take (i := 1) rfl (by kernel_rfl) (by kernel_rfl) (by kernel_rfl) (fun _ _ _ h => h) (by rfl) trivial (v := ?_) ?_ ?_
  rotate_left 1
  · intro W _; go_simp; all_goals with_reducible rfl
  simp only [Act.put, List.setIfInBounds_toArray, List.set_cons_zero, List.set_cons_succ]
  refine rs_take (i := 2) rfl (by kernel_rfl) (by kernel_rfl) (by kernel_rfl) (fun _ _ _ h => h) (by rfl) trivial (v := ?_) ?_ ?_
  rotate_left 1
  · intro W _; go_simp; all_goals with_reducible rfl
  simp only [Act.put, List.setIfInBounds_toArray, List.set_cons_zero, List.set_cons_succ]
  refine rs_take (i := 3) rfl (by kernel_rfl) (by kernel_rfl) (by kernel_rfl) (fun _ _ _ h => h) (by rfl) trivial (v := ?_) ?_ ?_
  rotate_left 1
  · intro W _; go_simp; all_goals with_reducible rfl
  simp only [Act.put, List.setIfInBounds_toArray, List.set_cons_zero, List.set_cons_succ]
  refine rs_take (i := 5) rfl (by kernel_rfl) (by kernel_rfl) (by kernel_rfl) (fun _ _ _ h => h) (by rfl) trivial (v := ?_) ?_ ?_
  rotate_left 1
  · intro W _; go_simp; all_goals with_reducible rfl
  simp only [Act.put, List.setIfInBounds_toArray, List.set_cons_zero, List.set_cons_succ]
  refine rs_two (i := 4) (j := 6) (by kernel_rfl) ?_ ?_
  rotate_left 1
  refine ss_val (i := 6) rfl (by rfl) (v := .agg (ec x).toArray) (w' := w3.drew) (exec_load_ent rfl (by rfl) HE3.out) trivial ?_
  simp only [Act.put, List.setIfInBounds_toArray, List.set_cons_zero, List.set_cons_succ]
  refine rs_two (i := 4) (j := 7) (by kernel_rfl) ?_ ?_
  refine ss_val (i := 4) rfl (by rfl) (v := vv) (w' := w3.drew) (by go_simp) trivial ?_
  simp only [Act.put, List.setIfInBounds_toArray, List.set_cons_zero, List.set_cons_succ]
  refine rs_one (i := 7) (by kernel_rfl) ?_
  refine ss_val (i := 7) rfl (by rfl) (v := .slice (some ⟨w3.heap.size, 0, none⟩) 1 1) (w' := w3.drew.alloc (.cells (ec x).toArray 40)) (exec_build_ent rfl (by rfl)) trivial ?_
  simp only [Act.put, List.setIfInBounds_toArray, List.set_cons_zero, List.set_cons_succ]
  rotate_left 1
  refine ss_val (i := 7) rfl (by rfl) (v := .slice (some ⟨w3.heap.size, 0, none⟩) 1 1) (w' := w3.drew.alloc (.cells (ec x).toArray 40)) (exec_build_ent rfl (by rfl)) trivial ?_
  simp only [Act.put, List.setIfInBounds_toArray, List.set_cons_zero, List.set_cons_succ]
  refine rs_one (i := 4) (by kernel_rfl) ?_
  refine ss_val (i := 4) rfl (by rfl) (v := vv) (w' := (w3.drew.alloc (.cells (ec x).toArray 40))) (by go_simp) trivial ?_
  simp only [Act.put, List.setIfInBounds_toArray, List.set_cons_zero, List.set_cons_succ]
  rotate_left 1
  refine ss_val (i := 4) rfl (by rfl) (v := vv) (w' := w3.drew) (by go_simp) trivial ?_
  simp only [Act.put, List.setIfInBounds_toArray, List.set_cons_zero, List.set_cons_succ]
  refine rs_one (i := 6) (by kernel_rfl) ?_
  refine ss_val (i := 6) rfl (by rfl) (v := .agg (ec x).toArray) (w' := w3.drew) (exec_load_ent rfl (by rfl) HE3.out) trivial ?_
  simp only [Act.put, List.setIfInBounds_toArray, List.set_cons_zero, List.set_cons_succ]
  refine rs_one (i := 7) (by kernel_rfl) ?_
  refine ss_val (i := 7) rfl (by rfl) (v := .slice (some ⟨w3.heap.size, 0, none⟩) 1 1) (w' := w3.drew.alloc (.cells (ec x).toArray 40)) (exec_build_ent rfl (by rfl)) trivial ?_
  simp only [Act.put, List.setIfInBounds_toArray, List.set_cons_zero, List.set_cons_succ]
  all_goals clear e1 e2
  all_goals
    refine rs_one (i := 8) (by kernel_rfl) ?_
    refine ss_call (i := 8) rfl (by rfl) (f := 56) (args := #[vv, .int .i64 a, .slice (some ⟨w3.heap.size, 0, none⟩) 1 1]) (by go_simp) (HIV.out.mono ?_)
    rintro e w5 ⟨vv', rfl, h51, h52, h53⟩
    refine ⟨_, rfl, trivial, ?_⟩
    obtain ⟨g5, cap5, rfl, -, -⟩ := h51.form (by omega)
    have HV5 := Lib.hid h51
    have HK35 : Hid (Kept w3 w5 (fun k => some k = vv.ownBlock)) := ((kept_alloc w3.drew (.cells (ec x).toArray 40)).trans (kept_grown h52)).weaken (by rintro b _ (h | h); exact h.elim; exact h) |> fun h => ⟨h.os, h.tape, h.output, h.size, h.block⟩
    have HL5 := Lib.hid h53
    clear h51 h52 h53
    have HR5 : Hid (w5.heap[R]? = _) := (HK35.out.block R (Array.getElem?_eq_some_iff.1 HR3.out).1 (fun h => huR h.symm)).trans HR3.out
    have e5 : w5.cell? ⟨R, o + 1, none⟩ = some vv := by rw [cell_of_row w5 R _ _ _ _ HR5.out]; exact hc3
    have f5 : w5.frozen? ⟨R, o + 1, none⟩ = false := frozen_of_row w5 R (o + 1) _ _ HR5.out
    simp only [Act.put, List.setIfInBounds_toArray, List.set_cons_zero, List.set_cons_succ]
    refine rs_take (i := 9) rfl (by kernel_rfl) (by kernel_rfl) (by kernel_rfl) (fun _ _ _ h => h) (by rfl) trivial (v := .pointer (some ⟨R, o, none⟩)) (by intro W _; go_simp) ?_
    simp only [Act.put, List.setIfInBounds_toArray, List.set_cons_zero, List.set_cons_succ]
    refine rs_take (i := 10) rfl (by kernel_rfl) (by kernel_rfl) (by kernel_rfl) (fun _ _ _ h => h) (by rfl) trivial (v := .pointer (some ⟨R, o + 1, none⟩)) (by intro W _; go_simp) ?_
    simp only [Act.put, List.setIfInBounds_toArray, List.set_cons_zero, List.set_cons_succ]
    refine rs_store (i := 11) (by kernel_rfl) rfl (by rfl) (w' := w5.setCell ⟨R, o + 1, none⟩ (.slice (some ⟨g5, 0, none⟩) (n + 1) cap5)) (by go_simp) trivial ?_
    simp only [Act.put]
    refine rs_done (by kernel_rfl) ?_
    go_wp2
    have hs3' := hs3
    have hl2 := Hl2.out
    have hl5 : vv.ownBlock = some g5 ∨ w2.heap.size ≤ g5 := by
      rcases HL5.out with h | ⟨g', h, hge⟩
      · exact .inl h.symm
      · obtain rfl : g5 = g' := by simpa [Value.ownBlock] using h
        right; simp only [World.size_alloc] at hge; have : w3.drew.heap.size = w3.heap.size := rfl; omega
    have hz25 : w2.heap.size ≤ w5.heap.size := by have := HK35.out.size; omega
    have hg2v : vv.ownBlock ≠ some g2 := fun e => by
      rcases hl2 with h | h
      · exact hku g2 h e
      · have := Hv1.out _ e; omega
    have hne25 : g2 ≠ g5 := by
      rintro rfl
      rcases hl5 with h | h
      · exact hg2v h
      · have := Hg2.out; omega
    have hg5R : g5 ≠ R := by
      rintro rfl
      rcases hl5 with h | h
      · exact huR h
      · have := (Array.getElem?_eq_some_iff.1 HR2.out).1; omega
    have hK5 := own_kept HK3.out HK35.out (fun g hg h => hg2v (by cases hg; exact h.symm))
    have hall := ((HKe2.out.trans HK23.out).trans HK35.out).trans (kept_cell w5 R (o + 1) (.slice (some ⟨g5, 0, none⟩) (n + 1) cap5))
    refine bodyPost_end (results_none rfl _ _ _) rfl ⟨a, _, _, rfl, HPL.out, own_kept hK5 (kept_cell w5 R (o + 1) _) (fun g hg h => hg2R (by cases hg; exact h)), own_kept HV5.out (kept_cell w5 R (o + 1) _) (fun g hg h => hg5R (by cases hg; exact h)), cell_row HR5.out _, ?_, ?_, ?_, ?_⟩
    · rcases hl2 with h | h
      · exact .inl h.symm
      · exact .inr ⟨g2, rfl, Nat.le_of_lt h⟩
    · rcases hl5 with h | h
      · exact .inl h.symm
      · exact .inr ⟨g5, rfl, by have := HZ2.out; omega⟩
    · intro g hg h
      cases hg; cases h; exact hne25 rfl
    · refine hall.weaken fun b _ hb => ?_
      rcases hb with ((((h | h) | h) | h) | h) | h
      · exact h.elim
      · exact h.elim
      · exact .inr (.inl h)
      · exact .inl h
      · exact .inr (.inr h)
      · exact .inl h
end Go.Proofs.Ytkifagflnpkkaaa
