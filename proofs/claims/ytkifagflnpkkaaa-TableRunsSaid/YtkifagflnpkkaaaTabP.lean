/- Table.Put; printed by wip/put5.py. -/
import Derived.Test.YtkifagflnpkkaaaTabU
namespace Go.Proofs.Ytkifagflnpkkaaa
set_option linter.unusedSimpArgs false
set_option linter.unusedVariables false
open Go.RowKit
set_option maxRecDepth 10000

theorem exec_store_ent {o : Oper} {ev : Operand → Value} {W : World} {x y : Operand} {B : Nat} {e : EntL} {old : Array Value} {t : TypeId} (ho : o.op = .store 40 x y) (hx : ev x = .pointer (some ⟨B, 0, none⟩)) (hy : ev y = .agg (ec e).toArray)
    (hb : W.heap[B]? = some (.cells old t (0, 0))) (hso : old.size = 8) : (execOp ev o).run Try.prog W = .ok .skip (W.setRow B (ec e).toArray) :=
  exec_store_row _ ho hx hy hb (by kernel_rfl) (by rw [hso]; rfl) (ec_all e)
theorem exec_load_mac {o : Oper} {ev : Operand → Value} {W : World} {p : Operand} {B k : Nat} {m : Mac} (ho : o.op = .load 38 p) (hx : ev p = .pointer (some ⟨B, k, none⟩))
    (hb : W.rangeAt B k [bv m.a, bv m.b, bv m.c, bv m.d, bv m.e, bv m.f]) : (execOp ev o).run Try.prog W = .ok (.value m.v) W := by
  obtain ⟨d, hu, hd⟩ : ∃ d, Try.prog.underlying 38 = some d ∧ d.isRow = true := by
    have : (Try.prog.underlying 38).map (·.isRow) = some true := by kernel_rfl
    cases h : Try.prog.underlying 38 with
    | none => simp [h] at this
    | some d => simp [h] at this; exact ⟨d, rfl, this⟩
  have hr := run_loadAt_mid (P := Try.prog) W B k 38 _ d hb hu hd (by kernel_rfl)
  unfold execOp
  simp only [ho, hx, hr, Sem.run_bind, Sem.run_pure, Result.andThen_ok]
  rfl
theorem tabx_below {w w' : World} {T S M n : Nat} {V : Tag → Value} {C : Tag → List EntL} (h : Tabx w T S M n V C) (hb : Below w.heap.size w w') : Tabx w' T S M n V C := by
  obtain ⟨h1, ⟨cs, h2, h2s⟩, ⟨f, h3, h3s⟩, ⟨h4, h4a⟩, h5⟩ := h
  have hk : Kept w w' (fun _ => False) := kept_below hb _
  exact ⟨(hk.block T (Array.getElem?_eq_some_iff.1 h1).1 (fun h => h)).trans h1, ⟨cs, (hk.block S (Array.getElem?_eq_some_iff.1 h2).1 (fun h => h)).trans h2, h2s⟩, ⟨f, map_kept h3 hk (fun h => h), h3s⟩, ⟨fun t => Tag.row_kept (h4 t) hk (fun g hg h => h), h4a⟩, h5⟩
theorem exec_load_ent' {o : Oper} {ev : Operand → Value} {W : World} {p : Operand} {g k : Nat} {x : EntL} (ho : o.op = .load 40 p) (hx : ev p = .pointer (some ⟨g, k, none⟩))
    (hb : W.rangeAt g k (ec x)) : (execOp ev o).run Try.prog W = .ok (.value (.agg (ec x).toArray)) W := by
  have hr := run_load_ent hb
  unfold execOp
  simp only [ho, hx, hr, Sem.run_bind, Sem.run_pure, Result.andThen_ok]

theorem getE_false {L : List EntL} {k : Int} (h : (getE L k).2 = false) : ∀ e ∈ L, e.id ≠ k := by
  unfold getE at h
  cases hq : L.find? (fun e => e.id == k) with
  | none => have := List.find?_eq_none.1 hq; simpa using this
  | some y => rw [hq] at h; cases h
theorem kept_weak {w w' : World} {S T : Nat → Prop} (h : Kept w w' S) (hST : ∀ k, S k → T k) : Kept w w' T := h.weaken fun k _ => hST k
theorem ids_put {l : List EntL} {x : EntL} {a : Nat} (h : PlaceIs (l.map (·.id)) x.id a) : putIn (l.map (·.id)) a x.id = (insE l x).map (·.id) := by
  rw [← put_insE h]
  unfold putIn putEnt
  simp
theorem ids_sorted {l : List EntL} (h : l.Pairwise (fun a b => a.id < b.id)) : (l.map (·.id)).Pairwise (· < ·) := List.pairwise_map.2 h

set_option maxHeartbeats 4000000 in
theorem put_bad (T n : Nat) (L : List EntL) (A : Nat → Prop) (x : EntL) (hx : ¬ (1 ≤ x.id ∧ x.id ≤ 65534 ∧ 0 ≤ x.seen ∧ x.seen ≤ 1099511627776)) (w : World) (h : Tab w T n L A) :
    Calls Try.prog 22 #[.pointer (some ⟨T, 0, none⟩), .agg (ec x).toArray] w fun e w' => e = .returned (.int .i64 200) ∧ Below w.heap.size w w' := by
  obtain ⟨E, hE⟩ : ∃ E, E = (ec x).toArray := ⟨_, rfl⟩
  obtain ⟨w0, hw0⟩ : ∃ w0, w0 = w.alloc (.cells E 40) := ⟨_, rfl⟩
  have HW : Hid (w.alloc (.cells E 40) = w0) := hw0.symm
  have HB0 : Hid (Below w.heap.size w w0) := by rw [hw0]; exact (Below.refl _ _).alloc (Nat.le_refl _) _
  have Hn : Hid (NoneIs w0 (.pointer (some ⟨T, 0, none⟩)) false) := by rw [hw0]; exact none_alloc (tab_none h)
  have hb : w0.heap[w.heap.size]? = some (.cells (ec x).toArray 40 (0, 0)) := by rw [hw0, hE]; exact heap_alloc_new w _
  have hA := ent_block hb 0 _ rfl
  have hB := ent_block hb 7 _ rfl
  rw [Nat.zero_add] at hA hB
  have Hk : Hid (decide (1 ≤ x.id ∧ x.id ≤ 65534) = true → decide (0 ≤ x.seen ∧ x.seen ≤ 1099511627776) = false) := by unfold Hid; intro h; simp only [decide_eq_true_eq] at h; simp only [decide_eq_false_iff_not]; exact fun h2 => hx ⟨h.1, h.2, h2⟩
  rw [← hE]
  clear hb hw0 hE h hx
  by_cases hk : decide (1 ≤ x.id ∧ x.id ≤ 65534) = true
  · have Ht := Lib.hid (Hk.out hk)
    have Hk := Lib.hid hk
    clear hk
    go_enter Try.func22, Try.ntmps22
    go_wp2_with (first
      | (go_at_call 30; rw [HW.out]; refine (none_any _ _ _ Hn.out).mono ?_; rintro e w1 ⟨rfl, hw⟩; cases hw)
      | (go_at_call 32; refine (known_any _ _).mono ?_; rintro e w1 ⟨rfl, hw⟩; cases hw; rw [Hk.out])
      | (go_at_call 36; refine (timed_any _ _).mono ?_; rintro e w1 ⟨rfl, hw⟩; cases hw; rw [Ht.out]))
    exact bodyPost_ret (v := .int .i64 200) (by simp [results, Try.results22, go_sem]) rfl ⟨rfl, HB0.out⟩
  · have Hk : Hid (decide (1 ≤ x.id ∧ x.id ≤ 65534) = false) := by unfold Hid; simpa using hk
    clear hk
    go_enter Try.func22, Try.ntmps22
    go_wp2_with (first
      | (go_at_call 30; rw [HW.out]; refine (none_any _ _ _ Hn.out).mono ?_; rintro e w1 ⟨rfl, hw⟩; cases hw)
      | (go_at_call 32; refine (known_any _ _).mono ?_; rintro e w1 ⟨rfl, hw⟩; cases hw; rw [Hk.out]))
    exact bodyPost_ret (v := .int .i64 200) (by simp [results, Try.results22, go_sem]) rfl ⟨rfl, HB0.out⟩

set_option maxHeartbeats 16000000 in
theorem put_there (T n : Nat) (L : List EntL) (A : Nat → Prop) (x : EntL) (hx : 1 ≤ x.id ∧ x.id ≤ 65534 ∧ 0 ≤ x.seen ∧ x.seen ≤ 1099511627776) (hb0 : (getE L x.id).2 = true) (w : World) (h : Tab w T n L A) :
    Calls Try.prog 22 #[.pointer (some ⟨T, 0, none⟩), .agg (ec x).toArray] w fun e w' => e = .returned (.int .i64 201) ∧ Below w.heap.size w w' := by
  obtain ⟨E, hE⟩ : ∃ E, E = (ec x).toArray := ⟨_, rfl⟩
  obtain ⟨w0, hw0⟩ : ∃ w0, w0 = w.alloc (.cells E 40) := ⟨_, rfl⟩
  have HW : Hid (w.alloc (.cells E 40) = w0) := hw0.symm
  have HB0 : Hid (Below w.heap.size w w0) := by rw [hw0]; exact (Below.refl _ _).alloc (Nat.le_refl _) _
  have Hn : Hid (NoneIs w0 (.pointer (some ⟨T, 0, none⟩)) false) := by rw [hw0]; exact none_alloc (tab_none h)
  have hb : w0.heap[w.heap.size]? = some (.cells (ec x).toArray 40 (0, 0)) := by rw [hw0, hE]; exact heap_alloc_new w _
  have hz0 : w0.heap.size = w.heap.size + 1 := by rw [hw0]; simp
  have HZ0 := Lib.hid hz0
  have HE0 := Lib.hid hb
  have hA := ent_block hb 0 _ rfl
  have hB := ent_block hb 7 _ rfl
  rw [Nat.zero_add] at hA hB
  have Hk : Hid (decide (1 ≤ x.id ∧ x.id ≤ 65534) = true) := by unfold Hid; simp only [decide_eq_true_eq]; exact ⟨hx.1, hx.2.1⟩
  have Ht : Hid (decide (0 ≤ x.seen ∧ x.seen ≤ 1099511627776) = true) := by unfold Hid; simp only [decide_eq_true_eq]; exact hx.2.2
  have HAw : Hid (∀ W, Below w0.heap.size w0 W → W.cell? ⟨w.heap.size, 0, none⟩ = some (.int .i64 x.id)) := fun W h => cell_below hA h
  have Hd : Hid (Below w0.heap.size w0 w0.drew) := (Below.refl _ _).drew
  have hg : Good L ∧ 1 ≤ n ∧ n ≤ 64 := by obtain ⟨_, _, _, _, _, _, _, _, _, h1, h2, h3⟩ := h; exact ⟨h3, h1, h2⟩
  obtain ⟨hg, h1, h2⟩ := hg
  obtain ⟨S, M, V, hT, hAs⟩ := h
  obtain ⟨cs, hS, hcs⟩ := hT.shards
  have hs : x.id.toNat % n < n := Nat.mod_lt _ (by omega)
  have hT1 : w.cell? ⟨T, 1, none⟩ = some (.slice (some ⟨S, 0, none⟩) n n) := by rw [cell_of_row w T 1 _ _ _ hT.tab]; rfl
  have HOf : Hid (∀ W, Below w0.heap.size w0 W → Calls Try.prog 33 #[.pointer (some ⟨T, 0, none⟩), .int .i64 x.id] W fun e w' => e = .returned (.pointer (some ⟨S, x.id.toNat % n * 2, none⟩)) ∧ Below W.heap.size W w') := fun W hW =>
    (of_any T S n x.id W (cell_below hT1 (HB0.out.trans (hW.mono HB0.out.size))) hx.1 hx.2.1 h1 h2).mono (by rintro e w' ⟨h, q, rfl⟩; exact ⟨h, ⟨rfl, rfl, rfl, Nat.le_refl _, fun _ _ => rfl⟩⟩)
  obtain ⟨X0, hX0⟩ : ∃ X0, X0 = (getE L x.id).1 := ⟨_, rfl⟩
  obtain ⟨X, hX⟩ : ∃ X, X = (ec X0).toArray := ⟨_, rfl⟩
  have HX := Lib.hid hX
  have HG : Hid (∀ W, Below w0.heap.size w0 W → Calls Try.prog 34 #[.pointer (some ⟨S, x.id.toNat % n * 2, none⟩), .int .i64 x.id] W fun e w' => e = .returned (.tuple #[.agg X, .bool true]) ∧ Below W.heap.size W w') := by
    intro W hW
    have hB := HB0.out.trans (hW.mono HB0.out.size)
    have hc := hcs.2 _ hs
    have hh := rowget_any S (x.id.toNat % n * 2) (V (.key (x.id.toNat % n))) (V (.val (x.id.toNat % n))) (ofShard n (x.id.toNat % n) L) x.id W (cell_below (by rw [cell_of_row w S _ _ _ _ hS]; exact hc.1) hB) (cell_below (by rw [cell_of_row w S _ _ _ _ hS]; exact hc.2) hB)
      ((own_ints (hT.rows.rows (.key (x.id.toNat % n)))).below hB) ((own_ents (hT.rows.rows (.val (x.id.toNat % n)))).below hB) (hg.filter _) (by have : (ofShard n (x.id.toNat % n) L).length ≤ 65534 := hg.flen _; omega)
    rw [getE_row] at hh
    rw [hX, hX0]
    rw [show (getE L x.id).2 = true from hb0] at hh
    exact hh
  rw [← hE]
  clear hb hw0 hE hx hz0 hT hAs hS hcs hT1 hg hX hX0
  go_enter Try.func22, Try.ntmps22
  go_wp2_with (first
    | (go_at_call 30; rw [HW.out]; refine (none_any _ _ _ Hn.out).mono ?_; rintro e w1 ⟨rfl, hw⟩; cases hw)
    | (go_at_call 32; refine (known_any _ _).mono ?_; rintro e w1 ⟨rfl, hw⟩; cases hw; rw [Hk.out])
    | (go_at_call 36; refine (timed_any _ _).mono ?_; rintro e w1 ⟨rfl, hw⟩; cases hw; rw [Ht.out]))
  refine rn_begin w0.heap.size (by kernel_rfl) ?_
  refine rn_take (i := 0) rfl (by kernel_rfl) (by kernel_rfl) (by kernel_rfl) (fun _ _ _ h => h) (by rfl) (v := .pointer (some ⟨T, 0, none⟩)) (by intro W _; go_simp) ?_
  simp only [Act.put, List.setIfInBounds_toArray, List.set_cons_zero, List.set_cons_succ]
  refine rn_take (i := 1) rfl (by kernel_rfl) (by kernel_rfl) (by kernel_rfl) (fun _ _ _ h => h) (by rfl) (v := .pointer (some ⟨w.heap.size, 0, none⟩)) (by intro W _; go_simp) ?_
  simp only [Act.put, List.setIfInBounds_toArray, List.set_cons_zero, List.set_cons_succ]
  have hA := fun W (hW : Sn w0.heap.size w0.drew W) => HAw.out W (Hd.out.trans hW)
  refine rn_take (i := 2) rfl (by kernel_rfl) (by kernel_rfl) (by kernel_rfl) (fun _ _ _ h => h) (by rfl) (v := .int .i64 x.id) (by intro W hW; go_simp) ?_
  simp only [Act.put, List.setIfInBounds_toArray, List.set_cons_zero, List.set_cons_succ]
  refine rn_take (i := 4) rfl (by kernel_rfl) (by kernel_rfl) (by kernel_rfl) (fun _ _ _ h => h) (by rfl) (v := .pointer (some ⟨w.heap.size, 0, none⟩)) (by intro W _; go_simp) ?_
  simp only [Act.put, List.setIfInBounds_toArray, List.set_cons_zero, List.set_cons_succ]
  refine rn_take (i := 5) rfl (by kernel_rfl) (by kernel_rfl) (by kernel_rfl) (fun _ _ _ h => h) (by rfl) (v := .int .i64 x.id) (by intro W hW; go_simp) ?_
  simp only [Act.put, List.setIfInBounds_toArray, List.set_cons_zero, List.set_cons_succ]
  clear hA
  refine rn_two (i := 3) (j := 10) (by kernel_rfl) ?_ ?_
  · refine st_call (i := 3) rfl (by rfl) (f := 33) (args := #[.pointer (some ⟨T, 0, none⟩), .int .i64 x.id]) (by go_simp) ((HOf.out _ Hd.out).mono ?_)
    rintro e wa ⟨rfl, hb⟩
    refine ⟨_, rfl, hb.mono Hd.out.size, ?_⟩
    have Ha : Hid (Below w0.heap.size w0 wa) := Hd.out.trans (hb.mono Hd.out.size)
    have Ha' := Lib.hid hb
    clear hb
    simp only [Act.put, List.setIfInBounds_toArray, List.set_cons_zero, List.set_cons_succ]
    refine rn_two (i := 6) (j := 10) (by kernel_rfl) ?_ ?_
    · refine st_call (i := 6) rfl (by rfl) (f := 34) (args := #[.pointer (some ⟨S, x.id.toNat % n * 2, none⟩), .int .i64 x.id]) (by go_simp) ((HG.out _ Ha.out).mono ?_)
      rintro e wb ⟨rfl, hb⟩
      refine ⟨_, rfl, hb.mono Ha.out.size, ?_⟩
      have Hb : Hid (Below w0.heap.size w0 wb) := Ha.out.trans (hb.mono Ha.out.size)
      have Hb' := Lib.hid hb
      clear hb
      simp only [Act.put, List.setIfInBounds_toArray, List.set_cons_zero, List.set_cons_succ]
      refine rn_take (i := 7) rfl (by kernel_rfl) (by kernel_rfl) (by kernel_rfl) (fun _ _ _ h => h) (by rfl) (v := .tuple #[.agg X, .bool true]) (by intro W _; go_simp) ?_
      simp only [Act.put, List.setIfInBounds_toArray, List.set_cons_zero, List.set_cons_succ]
      refine rn_take (i := 8) rfl (by kernel_rfl) (by kernel_rfl) (by kernel_rfl) (fun _ _ _ h => h) (by rfl) (v := .agg X) (by intro W _; go_simp) ?_
      simp only [Act.put, List.setIfInBounds_toArray, List.set_cons_zero, List.set_cons_succ]
      refine rn_take (i := 9) rfl (by kernel_rfl) (by kernel_rfl) (by kernel_rfl) (fun _ _ _ h => h) (by rfl) (v := .bool true) (by intro W _; go_simp) ?_
      simp only [Act.put, List.setIfInBounds_toArray, List.set_cons_zero, List.set_cons_succ]
      refine rn_one (i := 10) (by kernel_rfl) ?_
      refine st_made (i := 10) rfl (by rfl) (v := .pointer (some ⟨wb.heap.size, 0, none⟩)) (x := .cells zE 40) (by go_simp) Hb.out.size ?_
      intro v10 wc hv10 hw10 hb10
      subst hv10
      have hN : wc.heap[wb.heap.size]? = some (.cells zE 40 (0, 0)) := by rw [hw10]; exact heap_alloc_new _ _
      have hNl : w0.heap.size ≤ wb.heap.size := Hb.out.size
      have Hc : Hid (Below w0.heap.size w0 wc) := Hb.out.trans hb10
      generalize wb.heap.size = N at *
      clear hw10 hb10
      simp only [Act.put, List.setIfInBounds_toArray, List.set_cons_zero, List.set_cons_succ]
      have Hc' := Hc
      rw [HX.out]
      refine rn_one (i := 11) (by kernel_rfl) ?_
      refine st_skip (i := 11) rfl (by rfl) (w' := wc.setRow N (ec X0).toArray) (exec_store_ent rfl (by rfl) (by rfl) hN rfl) (below_setRow (Below.refl _ _) hNl _) ?_
      have H5 : Hid (Below w0.heap.size w0 (wc.setRow N (ec X0).toArray)) := Hc.out.trans (below_setRow (Below.refl _ _) hNl _)
      generalize wc.setRow N (ec X0).toArray = w5 at *
      clear hN hNl Hc Hc'
      simp only [Act.put, List.setIfInBounds_toArray, List.set_cons_zero, List.set_cons_succ]
      refine rn_take (i := 12) rfl (by kernel_rfl) (by kernel_rfl) (by kernel_rfl) (fun _ _ _ h => h) (by rfl) (v := .bool true) (by intro W _; go_simp) ?_
      simp only [Act.put, List.setIfInBounds_toArray, List.set_cons_zero, List.set_cons_succ]
      refine rn_done (by kernel_rfl) ?_
      go_wp2
      exact bodyPost_ret (v := .int .i64 201) (by simp [results, Try.results22, go_sem]) rfl ⟨rfl, HB0.out.trans (H5.out.mono HB0.out.size)⟩
    · refine st_made (i := 10) rfl (by rfl) (v := .pointer (some ⟨wa.heap.size, 0, none⟩)) (x := .cells zE 40) (by go_simp) Ha.out.size ?_
      intro v10 wb hv10 hw10 hb10
      subst hv10
      have hN : wb.heap[wa.heap.size]? = some (.cells zE 40 (0, 0)) := by rw [hw10]; exact heap_alloc_new _ _
      have hNl : w0.heap.size ≤ wa.heap.size := Ha.out.size
      have Hb : Hid (Below w0.heap.size w0 wb) := Ha.out.trans hb10
      generalize wa.heap.size = N at *
      clear hw10 hb10
      simp only [Act.put, List.setIfInBounds_toArray, List.set_cons_zero, List.set_cons_succ]
      refine rn_one (i := 6) (by kernel_rfl) ?_
      refine st_call (i := 6) rfl (by rfl) (f := 34) (args := #[.pointer (some ⟨S, x.id.toNat % n * 2, none⟩), .int .i64 x.id]) (by go_simp) ((HG.out _ Hb.out).mono ?_)
      rintro e wc ⟨rfl, hb⟩
      refine ⟨_, rfl, hb.mono Hb.out.size, ?_⟩
      have Hc : Hid (Below w0.heap.size w0 wc) := Hb.out.trans (hb.mono Hb.out.size)
      have Hc' := Lib.hid hb
      clear hb
      simp only [Act.put, List.setIfInBounds_toArray, List.set_cons_zero, List.set_cons_succ]
      have hN : wc.heap[N]? = some (.cells zE 40 (0, 0)) := (Hc'.out.block N (Array.getElem?_eq_some_iff.1 hN).1).trans hN
      refine rn_take (i := 7) rfl (by kernel_rfl) (by kernel_rfl) (by kernel_rfl) (fun _ _ _ h => h) (by rfl) (v := .tuple #[.agg X, .bool true]) (by intro W _; go_simp) ?_
      simp only [Act.put, List.setIfInBounds_toArray, List.set_cons_zero, List.set_cons_succ]
      refine rn_take (i := 8) rfl (by kernel_rfl) (by kernel_rfl) (by kernel_rfl) (fun _ _ _ h => h) (by rfl) (v := .agg X) (by intro W _; go_simp) ?_
      simp only [Act.put, List.setIfInBounds_toArray, List.set_cons_zero, List.set_cons_succ]
      refine rn_take (i := 9) rfl (by kernel_rfl) (by kernel_rfl) (by kernel_rfl) (fun _ _ _ h => h) (by rfl) (v := .bool true) (by intro W _; go_simp) ?_
      simp only [Act.put, List.setIfInBounds_toArray, List.set_cons_zero, List.set_cons_succ]
      rw [HX.out]
      refine rn_one (i := 11) (by kernel_rfl) ?_
      refine st_skip (i := 11) rfl (by rfl) (w' := wc.setRow N (ec X0).toArray) (exec_store_ent rfl (by rfl) (by rfl) hN rfl) (below_setRow (Below.refl _ _) hNl _) ?_
      have H5 : Hid (Below w0.heap.size w0 (wc.setRow N (ec X0).toArray)) := Hc.out.trans (below_setRow (Below.refl _ _) hNl _)
      generalize wc.setRow N (ec X0).toArray = w5 at *
      clear hN hNl Hc Hc'
      simp only [Act.put, List.setIfInBounds_toArray, List.set_cons_zero, List.set_cons_succ]
      refine rn_take (i := 12) rfl (by kernel_rfl) (by kernel_rfl) (by kernel_rfl) (fun _ _ _ h => h) (by rfl) (v := .bool true) (by intro W _; go_simp) ?_
      simp only [Act.put, List.setIfInBounds_toArray, List.set_cons_zero, List.set_cons_succ]
      refine rn_done (by kernel_rfl) ?_
      go_wp2
      exact bodyPost_ret (v := .int .i64 201) (by simp [results, Try.results22, go_sem]) rfl ⟨rfl, HB0.out.trans (H5.out.mono HB0.out.size)⟩
  · refine st_made (i := 10) rfl (by rfl) (v := .pointer (some ⟨w0.drew.heap.size, 0, none⟩)) (x := .cells zE 40) (by go_simp) Hd.out.size ?_
    intro v10 wa hv10 hw10 hb10
    subst hv10
    have hN : wa.heap[w0.drew.heap.size]? = some (.cells zE 40 (0, 0)) := by rw [hw10]; exact heap_alloc_new _ _
    have hNl : w0.heap.size ≤ w0.drew.heap.size := Hd.out.size
    have Ha : Hid (Below w0.heap.size w0 wa) := Hd.out.trans hb10
    generalize w0.drew.heap.size = N at *
    clear hw10 hb10
    simp only [Act.put, List.setIfInBounds_toArray, List.set_cons_zero, List.set_cons_succ]
    refine rn_one (i := 3) (by kernel_rfl) ?_
    refine st_call (i := 3) rfl (by rfl) (f := 33) (args := #[.pointer (some ⟨T, 0, none⟩), .int .i64 x.id]) (by go_simp) ((HOf.out _ Ha.out).mono ?_)
    rintro e wb ⟨rfl, hb⟩
    refine ⟨_, rfl, hb.mono Ha.out.size, ?_⟩
    have Hb : Hid (Below w0.heap.size w0 wb) := Ha.out.trans (hb.mono Ha.out.size)
    have Hb' := Lib.hid hb
    clear hb
    simp only [Act.put, List.setIfInBounds_toArray, List.set_cons_zero, List.set_cons_succ]
    have hN : wb.heap[N]? = some (.cells zE 40 (0, 0)) := (Hb'.out.block N (Array.getElem?_eq_some_iff.1 hN).1).trans hN
    refine rn_one (i := 6) (by kernel_rfl) ?_
    refine st_call (i := 6) rfl (by rfl) (f := 34) (args := #[.pointer (some ⟨S, x.id.toNat % n * 2, none⟩), .int .i64 x.id]) (by go_simp) ((HG.out _ Hb.out).mono ?_)
    rintro e wc ⟨rfl, hb⟩
    refine ⟨_, rfl, hb.mono Hb.out.size, ?_⟩
    have Hc : Hid (Below w0.heap.size w0 wc) := Hb.out.trans (hb.mono Hb.out.size)
    have Hc' := Lib.hid hb
    clear hb
    simp only [Act.put, List.setIfInBounds_toArray, List.set_cons_zero, List.set_cons_succ]
    have hN : wc.heap[N]? = some (.cells zE 40 (0, 0)) := (Hc'.out.block N (Array.getElem?_eq_some_iff.1 hN).1).trans hN
    refine rn_take (i := 7) rfl (by kernel_rfl) (by kernel_rfl) (by kernel_rfl) (fun _ _ _ h => h) (by rfl) (v := .tuple #[.agg X, .bool true]) (by intro W _; go_simp) ?_
    simp only [Act.put, List.setIfInBounds_toArray, List.set_cons_zero, List.set_cons_succ]
    refine rn_take (i := 8) rfl (by kernel_rfl) (by kernel_rfl) (by kernel_rfl) (fun _ _ _ h => h) (by rfl) (v := .agg X) (by intro W _; go_simp) ?_
    simp only [Act.put, List.setIfInBounds_toArray, List.set_cons_zero, List.set_cons_succ]
    refine rn_take (i := 9) rfl (by kernel_rfl) (by kernel_rfl) (by kernel_rfl) (fun _ _ _ h => h) (by rfl) (v := .bool true) (by intro W _; go_simp) ?_
    simp only [Act.put, List.setIfInBounds_toArray, List.set_cons_zero, List.set_cons_succ]
    rw [HX.out]
    refine rn_one (i := 11) (by kernel_rfl) ?_
    refine st_skip (i := 11) rfl (by rfl) (w' := wc.setRow N (ec X0).toArray) (exec_store_ent rfl (by rfl) (by rfl) hN rfl) (below_setRow (Below.refl _ _) hNl _) ?_
    have H5 : Hid (Below w0.heap.size w0 (wc.setRow N (ec X0).toArray)) := Hc.out.trans (below_setRow (Below.refl _ _) hNl _)
    generalize wc.setRow N (ec X0).toArray = w5 at *
    clear hN hNl Hc Hc'
    simp only [Act.put, List.setIfInBounds_toArray, List.set_cons_zero, List.set_cons_succ]
    refine rn_take (i := 12) rfl (by kernel_rfl) (by kernel_rfl) (by kernel_rfl) (fun _ _ _ h => h) (by rfl) (v := .bool true) (by intro W _; go_simp) ?_
    simp only [Act.put, List.setIfInBounds_toArray, List.set_cons_zero, List.set_cons_succ]
    refine rn_done (by kernel_rfl) ?_
    go_wp2
    exact bodyPost_ret (v := .int .i64 201) (by simp [results, Try.results22, go_sem]) rfl ⟨rfl, HB0.out.trans (H5.out.mono HB0.out.size)⟩

set_option maxHeartbeats 16000000 in
theorem put_new (T n : Nat) (L : List EntL) (A : Nat → Prop) (x : EntL) (hx : 1 ≤ x.id ∧ x.id ≤ 65534 ∧ 0 ≤ x.seen ∧ x.seen ≤ 1099511627776) (hb0 : (getE L x.id).2 = false) (w : World) (h : Tab w T n L A) :
    Calls Try.prog 22 #[.pointer (some ⟨T, 0, none⟩), .agg (ec x).toArray] w fun e w' => e = .returned (.int .i64 0) ∧ Tab w' T n (insE L x) (fun b => A b ∨ (w.heap.size ≤ b ∧ b < w'.heap.size)) ∧ Kept w w' A := by
  obtain ⟨E, hE⟩ : ∃ E, E = (ec x).toArray := ⟨_, rfl⟩
  obtain ⟨w0, hw0⟩ : ∃ w0, w0 = w.alloc (.cells E 40) := ⟨_, rfl⟩
  have HW : Hid (w.alloc (.cells E 40) = w0) := hw0.symm
  have HB0 : Hid (Below w.heap.size w w0) := by rw [hw0]; exact (Below.refl _ _).alloc (Nat.le_refl _) _
  have Hn : Hid (NoneIs w0 (.pointer (some ⟨T, 0, none⟩)) false) := by rw [hw0]; exact none_alloc (tab_none h)
  have hb : w0.heap[w.heap.size]? = some (.cells (ec x).toArray 40 (0, 0)) := by rw [hw0, hE]; exact heap_alloc_new w _
  have hz0 : w0.heap.size = w.heap.size + 1 := by rw [hw0]; simp
  have HZ0 := Lib.hid hz0
  have HE0 := Lib.hid hb
  have hA := ent_block hb 0 _ rfl
  have hB := ent_block hb 7 _ rfl
  rw [Nat.zero_add] at hA hB
  have Hk : Hid (decide (1 ≤ x.id ∧ x.id ≤ 65534) = true) := by unfold Hid; simp only [decide_eq_true_eq]; exact ⟨hx.1, hx.2.1⟩
  have Ht : Hid (decide (0 ≤ x.seen ∧ x.seen ≤ 1099511627776) = true) := by unfold Hid; simp only [decide_eq_true_eq]; exact hx.2.2
  have HAw : Hid (∀ W, Below w0.heap.size w0 W → W.cell? ⟨w.heap.size, 0, none⟩ = some (.int .i64 x.id)) := fun W h => cell_below hA h
  have Hd : Hid (Below w0.heap.size w0 w0.drew) := (Below.refl _ _).drew
  have hg : Good L ∧ 1 ≤ n ∧ n ≤ 64 := by obtain ⟨_, _, _, _, _, _, _, _, _, h1, h2, h3⟩ := h; exact ⟨h3, h1, h2⟩
  obtain ⟨hg, h1, h2⟩ := hg
  obtain ⟨S, M, V, hT, hAs⟩ := h
  obtain ⟨cs, hS, hcs⟩ := hT.shards
  have hs : x.id.toNat % n < n := Nat.mod_lt _ (by omega)
  have hT1 : w.cell? ⟨T, 1, none⟩ = some (.slice (some ⟨S, 0, none⟩) n n) := by rw [cell_of_row w T 1 _ _ _ hT.tab]; rfl
  have HOf : Hid (∀ W, Below w0.heap.size w0 W → Calls Try.prog 33 #[.pointer (some ⟨T, 0, none⟩), .int .i64 x.id] W fun e w' => e = .returned (.pointer (some ⟨S, x.id.toNat % n * 2, none⟩)) ∧ Below W.heap.size W w') := fun W hW =>
    (of_any T S n x.id W (cell_below hT1 (HB0.out.trans (hW.mono HB0.out.size))) hx.1 hx.2.1 h1 h2).mono (by rintro e w' ⟨h, q, rfl⟩; exact ⟨h, ⟨rfl, rfl, rfl, Nat.le_refl _, fun _ _ => rfl⟩⟩)
  obtain ⟨X0, hX0⟩ : ∃ X0, X0 = (getE L x.id).1 := ⟨_, rfl⟩
  obtain ⟨X, hX⟩ : ∃ X, X = (ec X0).toArray := ⟨_, rfl⟩
  have HX := Lib.hid hX
  have HG : Hid (∀ W, Below w0.heap.size w0 W → Calls Try.prog 34 #[.pointer (some ⟨S, x.id.toNat % n * 2, none⟩), .int .i64 x.id] W fun e w' => e = .returned (.tuple #[.agg X, .bool false]) ∧ Below W.heap.size W w') := by
    intro W hW
    have hB := HB0.out.trans (hW.mono HB0.out.size)
    have hc := hcs.2 _ hs
    have hh := rowget_any S (x.id.toNat % n * 2) (V (.key (x.id.toNat % n))) (V (.val (x.id.toNat % n))) (ofShard n (x.id.toNat % n) L) x.id W (cell_below (by rw [cell_of_row w S _ _ _ _ hS]; exact hc.1) hB) (cell_below (by rw [cell_of_row w S _ _ _ _ hS]; exact hc.2) hB)
      ((own_ints (hT.rows.rows (.key (x.id.toNat % n)))).below hB) ((own_ents (hT.rows.rows (.val (x.id.toNat % n)))).below hB) (hg.filter _) (by have : (ofShard n (x.id.toNat % n) L).length ≤ 65534 := hg.flen _; omega)
    rw [getE_row] at hh
    rw [hX, hX0]
    rw [show (getE L x.id).2 = false from hb0] at hh
    exact hh
  have HT := Lib.hid hT
  have HAs := Lib.hid hAs
  have HSh := Lib.hid hS
  have HCS := Lib.hid hcs
  have HGD := Lib.hid hg
  have HX9 := Lib.hid hx
  have HEE := Lib.hid hE
  have HNO := Lib.hid (getE_false hb0)
  have Hs := Lib.hid hs
  rw [← hE]
  clear hb hw0 hE hx hz0 hT hAs hS hcs hT1 hg hX hX0 hs hb0
  go_enter Try.func22, Try.ntmps22
  go_wp2_with (first
    | (go_at_call 30; rw [HW.out]; refine (none_any _ _ _ Hn.out).mono ?_; rintro e w1 ⟨rfl, hw⟩; cases hw)
    | (go_at_call 32; refine (known_any _ _).mono ?_; rintro e w1 ⟨rfl, hw⟩; cases hw; rw [Hk.out])
    | (go_at_call 36; refine (timed_any _ _).mono ?_; rintro e w1 ⟨rfl, hw⟩; cases hw; rw [Ht.out]))
  refine rn_begin w0.heap.size (by kernel_rfl) ?_
  refine rn_take (i := 0) rfl (by kernel_rfl) (by kernel_rfl) (by kernel_rfl) (fun _ _ _ h => h) (by rfl) (v := .pointer (some ⟨T, 0, none⟩)) (by intro W _; go_simp) ?_
  simp only [Act.put, List.setIfInBounds_toArray, List.set_cons_zero, List.set_cons_succ]
  refine rn_take (i := 1) rfl (by kernel_rfl) (by kernel_rfl) (by kernel_rfl) (fun _ _ _ h => h) (by rfl) (v := .pointer (some ⟨w.heap.size, 0, none⟩)) (by intro W _; go_simp) ?_
  simp only [Act.put, List.setIfInBounds_toArray, List.set_cons_zero, List.set_cons_succ]
  have hA := fun W (hW : Sn w0.heap.size w0.drew W) => HAw.out W (Hd.out.trans hW)
  refine rn_take (i := 2) rfl (by kernel_rfl) (by kernel_rfl) (by kernel_rfl) (fun _ _ _ h => h) (by rfl) (v := .int .i64 x.id) (by intro W hW; go_simp) ?_
  simp only [Act.put, List.setIfInBounds_toArray, List.set_cons_zero, List.set_cons_succ]
  refine rn_take (i := 4) rfl (by kernel_rfl) (by kernel_rfl) (by kernel_rfl) (fun _ _ _ h => h) (by rfl) (v := .pointer (some ⟨w.heap.size, 0, none⟩)) (by intro W _; go_simp) ?_
  simp only [Act.put, List.setIfInBounds_toArray, List.set_cons_zero, List.set_cons_succ]
  refine rn_take (i := 5) rfl (by kernel_rfl) (by kernel_rfl) (by kernel_rfl) (fun _ _ _ h => h) (by rfl) (v := .int .i64 x.id) (by intro W hW; go_simp) ?_
  simp only [Act.put, List.setIfInBounds_toArray, List.set_cons_zero, List.set_cons_succ]
  clear hA
  refine rn_two (i := 3) (j := 10) (by kernel_rfl) ?_ ?_
  · refine st_call (i := 3) rfl (by rfl) (f := 33) (args := #[.pointer (some ⟨T, 0, none⟩), .int .i64 x.id]) (by go_simp) ((HOf.out _ Hd.out).mono ?_)
    rintro e wa ⟨rfl, hb⟩
    refine ⟨_, rfl, hb.mono Hd.out.size, ?_⟩
    have Ha : Hid (Below w0.heap.size w0 wa) := Hd.out.trans (hb.mono Hd.out.size)
    have Ha' := Lib.hid hb
    clear hb
    simp only [Act.put, List.setIfInBounds_toArray, List.set_cons_zero, List.set_cons_succ]
    refine rn_two (i := 6) (j := 10) (by kernel_rfl) ?_ ?_
    · refine st_call (i := 6) rfl (by rfl) (f := 34) (args := #[.pointer (some ⟨S, x.id.toNat % n * 2, none⟩), .int .i64 x.id]) (by go_simp) ((HG.out _ Ha.out).mono ?_)
      rintro e wb ⟨rfl, hb⟩
      refine ⟨_, rfl, hb.mono Ha.out.size, ?_⟩
      have Hb : Hid (Below w0.heap.size w0 wb) := Ha.out.trans (hb.mono Ha.out.size)
      have Hb' := Lib.hid hb
      clear hb
      simp only [Act.put, List.setIfInBounds_toArray, List.set_cons_zero, List.set_cons_succ]
      refine rn_take (i := 7) rfl (by kernel_rfl) (by kernel_rfl) (by kernel_rfl) (fun _ _ _ h => h) (by rfl) (v := .tuple #[.agg X, .bool false]) (by intro W _; go_simp) ?_
      simp only [Act.put, List.setIfInBounds_toArray, List.set_cons_zero, List.set_cons_succ]
      refine rn_take (i := 8) rfl (by kernel_rfl) (by kernel_rfl) (by kernel_rfl) (fun _ _ _ h => h) (by rfl) (v := .agg X) (by intro W _; go_simp) ?_
      simp only [Act.put, List.setIfInBounds_toArray, List.set_cons_zero, List.set_cons_succ]
      refine rn_take (i := 9) rfl (by kernel_rfl) (by kernel_rfl) (by kernel_rfl) (fun _ _ _ h => h) (by rfl) (v := .bool false) (by intro W _; go_simp) ?_
      simp only [Act.put, List.setIfInBounds_toArray, List.set_cons_zero, List.set_cons_succ]
      refine rn_one (i := 10) (by kernel_rfl) ?_
      refine st_made (i := 10) rfl (by rfl) (v := .pointer (some ⟨wb.heap.size, 0, none⟩)) (x := .cells zE 40) (by go_simp) Hb.out.size ?_
      intro v10 wc hv10 hw10 hb10
      subst hv10
      have hN : wc.heap[wb.heap.size]? = some (.cells zE 40 (0, 0)) := by rw [hw10]; exact heap_alloc_new _ _
      have hNl : w0.heap.size ≤ wb.heap.size := Hb.out.size
      have Hc : Hid (Below w0.heap.size w0 wc) := Hb.out.trans hb10
      generalize wb.heap.size = N at *
      clear hw10 hb10
      simp only [Act.put, List.setIfInBounds_toArray, List.set_cons_zero, List.set_cons_succ]
      have Hc' := Hc
      rw [HX.out]
      refine rn_one (i := 11) (by kernel_rfl) ?_
      refine st_skip (i := 11) rfl (by rfl) (w' := wc.setRow N (ec X0).toArray) (exec_store_ent rfl (by rfl) (by rfl) hN rfl) (below_setRow (Below.refl _ _) hNl _) ?_
      have H5 : Hid (Below w0.heap.size w0 (wc.setRow N (ec X0).toArray)) := Hc.out.trans (below_setRow (Below.refl _ _) hNl _)
      generalize wc.setRow N (ec X0).toArray = w5 at *
      clear hN hNl Hc Hc'
      simp only [Act.put, List.setIfInBounds_toArray, List.set_cons_zero, List.set_cons_succ]
      refine rn_take (i := 12) rfl (by kernel_rfl) (by kernel_rfl) (by kernel_rfl) (fun _ _ _ h => h) (by rfl) (v := .bool false) (by intro W _; go_simp) ?_
      simp only [Act.put, List.setIfInBounds_toArray, List.set_cons_zero, List.set_cons_succ]
      refine rn_done (by kernel_rfl) ?_
      go_wp2
      have HB5 : Hid (Below w.heap.size w w5) := HB0.out.trans (H5.out.mono HB0.out.size)
      have HT5 := Lib.hid (tabx_below HT.out HB5.out)
      have HR5 : Hid (w5.rangeAt w.heap.size 0 (ec x)) := ent_block ((H5.out.block _ (by have := HZ0.out; omega)).trans HE0.out)
      have Hlt : Hid (∀ t g, (V t).ownBlock = some g → g < w.heap.size) := fun t g hg => Tag.row_lt (HT.out.rows.rows t) hg
      have HSl : Hid (S < w.heap.size) := (Array.getElem?_eq_some_iff.1 HSh.out).1
      have Hw5 : Hid (w.heap.size < w5.heap.size) := by have := H5.out.size; have := HZ0.out; unfold Hid; omega
      have HN8 : Hid (¬ (w.heap.size = S ∨ some w.heap.size = (V (.key (x.id.toNat % n))).ownBlock ∨ some w.heap.size = (V (.val (x.id.toNat % n))).ownBlock)) := by
        have := HSl.out
        rintro (h | h | h)
        · omega
        · have := Hlt.out _ _ h.symm; omega
        · have := Hlt.out _ _ h.symm; omega
      have HR8 : Hid (∀ W, Kept w5 W (fun b => b = S ∨ some b = (V (.key (x.id.toNat % n))).ownBlock ∨ some b = (V (.val (x.id.toNat % n))).ownBlock) → W.rangeAt w.heap.size 0 (ec x)) := fun W hW j v hv =>
        (World.cell?_of_block (hW.block w.heap.size Hw5.out HN8.out)).trans (HR5.out j v hv)
      have HS8 : Hid (Kept w5 w5.drew (fun b => b = S ∨ some b = (V (.key (x.id.toNat % n))).ownBlock ∨ some b = (V (.val (x.id.toNat % n))).ownBlock)) := ⟨rfl, rfl, rfl, Nat.le_refl _, fun _ _ _ => rfl⟩
      refine rs_begin (Kept w5 · (fun b => b = S ∨ some b = (V (.key (x.id.toNat % n))).ownBlock ∨ some b = (V (.val (x.id.toNat % n))).ownBlock)) (by kernel_rfl) ?_
      refine rs_take (i := 0) rfl (by kernel_rfl) (by kernel_rfl) (by kernel_rfl) (fun _ _ _ h => h) (by rfl) HS8.out (v := .pointer (some ⟨T, 0, none⟩)) (by intro W _; go_simp) ?_
      simp only [Act.put, List.setIfInBounds_toArray, List.set_cons_zero, List.set_cons_succ]
      refine rs_take (i := 1) rfl (by kernel_rfl) (by kernel_rfl) (by kernel_rfl) (fun _ _ _ h => h) (by rfl) HS8.out (v := .pointer (some ⟨w.heap.size, 0, none⟩)) (by intro W _; go_simp) ?_
      simp only [Act.put, List.setIfInBounds_toArray, List.set_cons_zero, List.set_cons_succ]
      refine rs_take (i := 2) rfl (by kernel_rfl) (by kernel_rfl) (by kernel_rfl) (fun _ _ _ h => h) (by rfl) HS8.out (v := .int .i64 x.id) (by intro W hW; have hc : W.cell? ⟨w.heap.size, 0, none⟩ = some (.int .i64 x.id) := HR8.out W hW 0 _ rfl; go_simp) ?_
      simp only [Act.put, List.setIfInBounds_toArray, List.set_cons_zero, List.set_cons_succ]
      refine rs_take (i := 4) rfl (by kernel_rfl) (by kernel_rfl) (by kernel_rfl) (fun _ _ _ h => h) (by rfl) HS8.out (v := .pointer (some ⟨w.heap.size, 0, none⟩)) (by intro W _; go_simp) ?_
      simp only [Act.put, List.setIfInBounds_toArray, List.set_cons_zero, List.set_cons_succ]
      refine rs_take (i := 5) rfl (by kernel_rfl) (by kernel_rfl) (by kernel_rfl) (fun _ _ _ h => h) (by rfl) HS8.out (v := .int .i64 x.id) (by intro W hW; have hc : W.cell? ⟨w.heap.size, 0, none⟩ = some (.int .i64 x.id) := HR8.out W hW 0 _ rfl; go_simp) ?_
      simp only [Act.put, List.setIfInBounds_toArray, List.set_cons_zero, List.set_cons_succ]
      refine rs_take (i := 6) rfl (by kernel_rfl) (by kernel_rfl) (by kernel_rfl) (fun _ _ _ h => h) (by rfl) HS8.out (v := .agg E) (fun W hW => by rw [HEE.out]; exact exec_load_ent' rfl (by rfl) (HR8.out W hW)) ?_
      simp only [Act.put, List.setIfInBounds_toArray, List.set_cons_zero, List.set_cons_succ]
      refine rs_one (i := 3) (by kernel_rfl) ?_
      refine ss_call (i := 3) rfl (by rfl) (f := 33) (args := #[.pointer (some ⟨T, 0, none⟩), .int .i64 x.id]) (by go_simp) ((HOf.out w5.drew (H5.out.trans ⟨rfl, rfl, rfl, Nat.le_refl _, fun _ _ => rfl⟩)).mono ?_)
      rintro e w6 ⟨rfl, hb⟩
      have HS6 : Hid (Kept w5 w6 (fun b => b = S ∨ some b = (V (.key (x.id.toNat % n))).ownBlock ∨ some b = (V (.val (x.id.toNat % n))).ownBlock)) := ⟨hb.os, hb.tape, hb.output, hb.size, fun k hk _ => hb.block k hk⟩
      refine ⟨_, rfl, HS6.out, ?_⟩
      have HB6 : Hid (Below w.heap.size w w6) := HB5.out.trans ⟨hb.os, hb.tape, hb.output, hb.size, fun k hk => hb.block k (Nat.lt_trans hk Hw5.out)⟩
      have HT6 := Lib.hid (tabx_below HT.out HB6.out)
      have HS6h : Hid (w6.heap[S]? = some (.cells cs 80 (0, 0))) := (HB6.out.block S HSl.out).trans HSh.out
      have hlen : (ofShard n (x.id.toNat % n) L).length ≤ 65534 := HGD.out.flen _
      have HPE := Lib.hid (put_ent_new S (x.id.toNat % n * 2) cs _ (V (.key (x.id.toNat % n))) (V (.val (x.id.toNat % n))) ((ofShard n (x.id.toNat % n) L).map (·.id)) (ofShard n (x.id.toNat % n) L) x.id x (ofShard n (x.id.toNat % n) L).length w6 HS6h.out ((HCS.out.2 _ Hs.out).1) ((HCS.out.2 _ Hs.out).2)
        (HT6.out.rows.rows (.key (x.id.toNat % n))) (HT6.out.rows.rows (.val (x.id.toNat % n))) (fun h => (HT.out.off _ S h).2 rfl) (fun h => (HT.out.off _ S h).2 rfl) (fun g hg hg' => by have := HT.out.rows.apart _ _ g hg hg'; cases this)
        (ids_sorted (HGD.out.filter _)) (by omega) (fun hm => by obtain ⟨e, he, hi⟩ := List.mem_map.1 hm; exact HNO.out e (List.mem_filter.1 he).1 hi))
      rw [← HEE.out] at HPE
      clear hb hlen
      simp only [Act.put, List.setIfInBounds_toArray, List.set_cons_zero, List.set_cons_succ]
      refine rs_one (i := 7) (by kernel_rfl) ?_
      refine ss_call (i := 7) rfl (by rfl) (f := 41) (args := #[.pointer (some ⟨S, x.id.toNat % n * 2, none⟩), .int .i64 x.id, .agg E]) (by go_simp) (HPE.out.mono ?_)
      rintro e w7 ⟨a, kv', vv', rfl, p1, p2, p3, p4, p5, p6, p7, p8⟩
      have HS7 : Hid (Kept w5 w7 (fun b => b = S ∨ some b = (V (.key (x.id.toNat % n))).ownBlock ∨ some b = (V (.val (x.id.toNat % n))).ownBlock)) := kept_weak (HS6.out.trans p8) (by rintro k (h | h) <;> exact h)
      refine ⟨_, rfl, HS7.out, ?_⟩
      rw [ids_put p1, ← insE_len (ofShard n (x.id.toNat % n) L) x] at p2
      rw [put_insE p1, ← insE_len (ofShard n (x.id.toNat % n) L) x] at p3
      obtain ⟨hT7, hV7⟩ := tabx_shard HT6.out (x.id.toNat % n) HS6h.out HCS.out Hs.out p8 p2 p3 p4 p5 p6 p7
      have HT7 := Lib.hid hT7
      have HV7 := Lib.hid hV7
      clear p1 p2 p3 p4 p5 p6 p7 p8 hT7 hV7 HPE
      simp only [Act.put, List.setIfInBounds_toArray, List.set_cons_zero, List.set_cons_succ]
      refine rs_done (by kernel_rfl) ?_
      go_wp2
      have HT7m := HT7.out.map
      obtain ⟨f, hM7, hf7⟩ := HT7m
      have HM7 := Lib.hid hM7
      have HF7 := Lib.hid hf7
      clear hM7 hf7
      have hk3 : two (.key (x.id.toNat % n)) (.val (x.id.toNat % n)) kv' vv' V (.mk x.mac) = V (.mk x.mac) := two_3 (by intro h; cases h) (by intro h; cases h) _ _ _
      have hv3 : two (.key (x.id.toNat % n)) (.val (x.id.toNat % n)) kv' vv' V (.mv x.mac) = V (.mv x.mac) := two_3 (by intro h; cases h) (by intro h; cases h) _ _ _
      have HK3 := Lib.hid hk3
      have HV3 := Lib.hid hv3
      clear hk3 hv3
      have HMl : Hid (M ≠ w.heap.size) := fun e => by
        obtain ⟨f, hM, _⟩ := HT.out.map
        have := map_lt hM; omega
      have Hw7 : Hid (w.heap.size < w7.heap.size) := by have := HS7.out.size; have := Hw5.out; unfold Hid; omega
      have HN9 : Hid (¬ (w.heap.size = M ∨ some w.heap.size = (V (.mk x.mac)).ownBlock ∨ some w.heap.size = (V (.mv x.mac)).ownBlock)) := by
        rintro (h | h | h)
        · exact HMl.out h.symm
        · have := Hlt.out _ _ h.symm; omega
        · have := Hlt.out _ _ h.symm; omega
      have HR9 : Hid (∀ W, Kept w7 W (fun b => b = M ∨ some b = (V (.mk x.mac)).ownBlock ∨ some b = (V (.mv x.mac)).ownBlock) → W.rangeAt w.heap.size 0 (ec x)) := fun W hW j v hv =>
        (World.cell?_of_block (hW.block w.heap.size Hw7.out HN9.out)).trans (HR8.out w7 HS7.out j v hv)
      have HS9 : Hid (Kept w7 w7.drew (fun b => b = M ∨ some b = (V (.mk x.mac)).ownBlock ∨ some b = (V (.mv x.mac)).ownBlock)) := ⟨rfl, rfl, rfl, Nat.le_refl _, fun _ _ _ => rfl⟩
      refine rs_begin (Kept w7 · (fun b => b = M ∨ some b = (V (.mk x.mac)).ownBlock ∨ some b = (V (.mv x.mac)).ownBlock)) (by kernel_rfl) ?_
      refine rs_take (i := 0) rfl (by kernel_rfl) (by kernel_rfl) (by kernel_rfl) (fun _ _ _ h => h) (by rfl) HS9.out (v := .pointer (some ⟨T, 0, none⟩)) (by intro W _; go_simp) ?_
      simp only [Act.put, List.setIfInBounds_toArray, List.set_cons_zero, List.set_cons_succ]
      refine rs_take (i := 1) rfl (by kernel_rfl) (by kernel_rfl) (by kernel_rfl) (fun _ _ _ h => h) (by rfl) HS9.out (v := .pointer (some ⟨T, 0, none⟩)) (by intro W _; go_simp) ?_
      simp only [Act.put, List.setIfInBounds_toArray, List.set_cons_zero, List.set_cons_succ]
      refine rs_take (i := 2) rfl (by kernel_rfl) (by kernel_rfl) (by kernel_rfl) (fun _ _ _ h => h) (by rfl) HS9.out (v := .pointer (some ⟨T, 0, none⟩)) (by intro W _; go_simp) ?_
      simp only [Act.put, List.setIfInBounds_toArray, List.set_cons_zero, List.set_cons_succ]
      refine rs_take (i := 3) rfl (by kernel_rfl) (by kernel_rfl) (by kernel_rfl) (fun _ _ _ h => h) (by rfl) HS9.out (v := .pointer (some ⟨w.heap.size, 1, none⟩)) (by intro W _; go_simp) ?_
      simp only [Act.put, List.setIfInBounds_toArray, List.set_cons_zero, List.set_cons_succ]
      refine rs_take (i := 4) rfl (by kernel_rfl) (by kernel_rfl) (by kernel_rfl) (fun _ _ _ h => h) (by rfl) HS9.out (v := x.mac.v) (fun W hW => exec_load_mac rfl (by rfl) (fun j v hv => by have := HR9.out W hW (1 + j) v (by rcases j with _ | _ | _ | _ | _ | _ | j <;> simp_all [ec]); rwa [Nat.zero_add] at this)) ?_
      simp only [Act.put, List.setIfInBounds_toArray, List.set_cons_zero, List.set_cons_succ]
      refine rs_take (i := 5) rfl (by kernel_rfl) (by kernel_rfl) (by kernel_rfl) (fun _ _ _ h => h) (by rfl) HS9.out (v := .pointer (some ⟨w.heap.size, 0, none⟩)) (by intro W _; go_simp) ?_
      simp only [Act.put, List.setIfInBounds_toArray, List.set_cons_zero, List.set_cons_succ]
      refine rs_take (i := 6) rfl (by kernel_rfl) (by kernel_rfl) (by kernel_rfl) (fun _ _ _ h => h) (by rfl) HS9.out (v := .int .i64 x.id) (by intro W hW; have hc : W.cell? ⟨w.heap.size, 0, none⟩ = some (.int .i64 x.id) := HR9.out W hW 0 _ rfl; go_simp) ?_
      simp only [Act.put, List.setIfInBounds_toArray, List.set_cons_zero, List.set_cons_succ]
      have hrk : w7.drew.ownsRow 0 3 1 (V (.mk x.mac)) (ofMac x.mac L).length (((ofMac x.mac L).map fun e => e.id).map iv) := by
        have h := HT7.out.rows.rows (.mk x.mac)
        rw [HK3.out, two_3 (by intro h; cases h) (by intro h; cases h)] at h
        exact h
      have hru : w7.drew.ownsRow 0 3 1 (V (.mv x.mac)) (ofMac x.mac L).length (((ofMac x.mac L).map fun e => e.id).map iv) := by
        have h := HT7.out.rows.rows (.mv x.mac)
        rw [HV3.out, two_3 (by intro h; cases h) (by intro h; cases h)] at h
        exact h
      have hf := HF7.out x.mac
      rw [HK3.out, HV3.out] at hf
      have hT7c : w7.drew.cell? ⟨T, 0, none⟩ = some (.map (some M)) := by rw [cell_of_row w7.drew T 0 _ _ _ HT7.out.tab]; rfl
      have hlen : (ofMac x.mac L).length ≤ 65534 := HGD.out.flen _
      have HNO9 := Lib.hid (note_any T M f x.mac x.id (V (.mk x.mac)) (V (.mv x.mac)) ((ofMac x.mac L).map fun e => e.id) ((ofMac x.mac L).map fun e => e.id) (ofMac x.mac L).length w7.drew hT7c HM7.out hf hrk hru
        (fun h => (HT.out.off _ T h).1 rfl) (fun h => (HT.out.off _ T h).1 rfl) (fun g hg hg' => by have := HT.out.rows.apart _ _ g hg hg'; cases this) (ids_sorted (HGD.out.filter _)) (by omega) (fun hm => by obtain ⟨e, he, hi⟩ := List.mem_map.1 hm; exact HNO.out e (List.mem_filter.1 he).1 hi))
      clear hrk hru hf hT7c hlen
      refine rs_one (i := 7) (by kernel_rfl) ?_
      refine ss_call (i := 7) rfl (by rfl) (f := 42) (args := #[.pointer (some ⟨T, 0, none⟩), x.mac.v, .int .i64 x.id]) (by go_simp) (HNO9.out.mono ?_)
      rintro e w8 ⟨a, kv2, vv2, rfl, p1, p2, p3, p4, p5, p6, p7, p8⟩
      have HS10 : Hid (Kept w7 w8 (fun b => b = M ∨ some b = (V (.mk x.mac)).ownBlock ∨ some b = (V (.mv x.mac)).ownBlock)) := ⟨p8.os, p8.tape, p8.output, p8.size, p8.block⟩
      refine ⟨_, rfl, HS10.out, ?_⟩
      rw [ids_put p1, ← insE_len (ofMac x.mac L) x] at p2 p3
      obtain ⟨hu1, hu2⟩ := found_upd f x.mac (.agg #[kv2, vv2])
      have hS10 := HS10.out
      rw [← HK3.out, ← HV3.out] at hS10
      obtain ⟨hT8, hV8⟩ := tabx_mac HT7.out x.mac HM7.out HF7.out hS10 p2 p3 p4 hu1 hu2 (by rw [HK3.out]; exact p5) (by rw [HV3.out]; exact p6) p7
      have HT8 := Lib.hid hT8
      have HV8 := Lib.hid hV8
      clear p1 p2 p3 p4 p5 p6 p7 p8 hT8 hV8 hu1 hu2 hS10 HNO9
      simp only [Act.put, List.setIfInBounds_toArray, List.set_cons_zero, List.set_cons_succ]
      refine rs_done (by kernel_rfl) ?_
      go_wp2
      obtain ⟨a1, a2, a3, a4, a5, a6, a7, a8⟩ := HAs.out
      have hC := cont_ins (n := n) HGD.out x
      have hT8 := HT8.out
      rw [show two (.mk x.mac) (.mv x.mac) (insE (ofMac x.mac L) x) (insE (ofMac x.mac L) x) (two (.key (x.id.toNat % n)) (.val (x.id.toNat % n)) (insE (ofShard n (x.id.toNat % n) L) x) (insE (ofShard n (x.id.toNat % n) L) x) (Cont n L)) = Cont n (insE L x) from hC] at hT8
      have hall : Kept w w8 A := by
        refine kept_weak (((kept_below HB5.out (fun _ => False)).trans HS7.out).trans HS10.out) ?_
        rintro k ((h | h | h | h) | h | h | h)
        · exact h.elim
        · exact h ▸ a2
        · exact a4 _ _ h.symm
        · exact a4 _ _ h.symm
        · exact h ▸ a3
        · exact a4 _ _ h.symm
        · exact a4 _ _ h.symm
      refine bodyPost_ret (v := .int .i64 0) (by simp [results, Try.results22, go_sem]) rfl ⟨rfl, ⟨S, M, _, hT8, .inl a1, .inl a2, .inl a3, fun t g hg => ?_, fun b hb => ?_, h1, h2, insE_good HGD.out HX9.out HNO.out⟩, hall⟩
      · have hgl : g < w8.heap.size := Tag.row_lt (HT8.out.rows.rows t) hg
        have hs6 := HB6.out.size
        have hs7 := HS7.out.size
        have hs5 := HB5.out.size
        rcases HV8.out t g hg with h | h
        · rcases HV7.out t g h with h | h
          · exact .inl (a4 t g h)
          · exact .inr ⟨by omega, hgl⟩
        · exact .inr ⟨by omega, hgl⟩
      · rcases hb with hb | hb
        · exact Nat.lt_of_lt_of_le (a5 b hb) hall.size
        · exact hb.2
    · refine st_made (i := 10) rfl (by rfl) (v := .pointer (some ⟨wa.heap.size, 0, none⟩)) (x := .cells zE 40) (by go_simp) Ha.out.size ?_
      intro v10 wb hv10 hw10 hb10
      subst hv10
      have hN : wb.heap[wa.heap.size]? = some (.cells zE 40 (0, 0)) := by rw [hw10]; exact heap_alloc_new _ _
      have hNl : w0.heap.size ≤ wa.heap.size := Ha.out.size
      have Hb : Hid (Below w0.heap.size w0 wb) := Ha.out.trans hb10
      generalize wa.heap.size = N at *
      clear hw10 hb10
      simp only [Act.put, List.setIfInBounds_toArray, List.set_cons_zero, List.set_cons_succ]
      refine rn_one (i := 6) (by kernel_rfl) ?_
      refine st_call (i := 6) rfl (by rfl) (f := 34) (args := #[.pointer (some ⟨S, x.id.toNat % n * 2, none⟩), .int .i64 x.id]) (by go_simp) ((HG.out _ Hb.out).mono ?_)
      rintro e wc ⟨rfl, hb⟩
      refine ⟨_, rfl, hb.mono Hb.out.size, ?_⟩
      have Hc : Hid (Below w0.heap.size w0 wc) := Hb.out.trans (hb.mono Hb.out.size)
      have Hc' := Lib.hid hb
      clear hb
      simp only [Act.put, List.setIfInBounds_toArray, List.set_cons_zero, List.set_cons_succ]
      have hN : wc.heap[N]? = some (.cells zE 40 (0, 0)) := (Hc'.out.block N (Array.getElem?_eq_some_iff.1 hN).1).trans hN
      refine rn_take (i := 7) rfl (by kernel_rfl) (by kernel_rfl) (by kernel_rfl) (fun _ _ _ h => h) (by rfl) (v := .tuple #[.agg X, .bool false]) (by intro W _; go_simp) ?_
      simp only [Act.put, List.setIfInBounds_toArray, List.set_cons_zero, List.set_cons_succ]
      refine rn_take (i := 8) rfl (by kernel_rfl) (by kernel_rfl) (by kernel_rfl) (fun _ _ _ h => h) (by rfl) (v := .agg X) (by intro W _; go_simp) ?_
      simp only [Act.put, List.setIfInBounds_toArray, List.set_cons_zero, List.set_cons_succ]
      refine rn_take (i := 9) rfl (by kernel_rfl) (by kernel_rfl) (by kernel_rfl) (fun _ _ _ h => h) (by rfl) (v := .bool false) (by intro W _; go_simp) ?_
      simp only [Act.put, List.setIfInBounds_toArray, List.set_cons_zero, List.set_cons_succ]
      rw [HX.out]
      refine rn_one (i := 11) (by kernel_rfl) ?_
      refine st_skip (i := 11) rfl (by rfl) (w' := wc.setRow N (ec X0).toArray) (exec_store_ent rfl (by rfl) (by rfl) hN rfl) (below_setRow (Below.refl _ _) hNl _) ?_
      have H5 : Hid (Below w0.heap.size w0 (wc.setRow N (ec X0).toArray)) := Hc.out.trans (below_setRow (Below.refl _ _) hNl _)
      generalize wc.setRow N (ec X0).toArray = w5 at *
      clear hN hNl Hc Hc'
      simp only [Act.put, List.setIfInBounds_toArray, List.set_cons_zero, List.set_cons_succ]
      refine rn_take (i := 12) rfl (by kernel_rfl) (by kernel_rfl) (by kernel_rfl) (fun _ _ _ h => h) (by rfl) (v := .bool false) (by intro W _; go_simp) ?_
      simp only [Act.put, List.setIfInBounds_toArray, List.set_cons_zero, List.set_cons_succ]
      refine rn_done (by kernel_rfl) ?_
      go_wp2
      have HB5 : Hid (Below w.heap.size w w5) := HB0.out.trans (H5.out.mono HB0.out.size)
      have HT5 := Lib.hid (tabx_below HT.out HB5.out)
      have HR5 : Hid (w5.rangeAt w.heap.size 0 (ec x)) := ent_block ((H5.out.block _ (by have := HZ0.out; omega)).trans HE0.out)
      have Hlt : Hid (∀ t g, (V t).ownBlock = some g → g < w.heap.size) := fun t g hg => Tag.row_lt (HT.out.rows.rows t) hg
      have HSl : Hid (S < w.heap.size) := (Array.getElem?_eq_some_iff.1 HSh.out).1
      have Hw5 : Hid (w.heap.size < w5.heap.size) := by have := H5.out.size; have := HZ0.out; unfold Hid; omega
      have HN8 : Hid (¬ (w.heap.size = S ∨ some w.heap.size = (V (.key (x.id.toNat % n))).ownBlock ∨ some w.heap.size = (V (.val (x.id.toNat % n))).ownBlock)) := by
        have := HSl.out
        rintro (h | h | h)
        · omega
        · have := Hlt.out _ _ h.symm; omega
        · have := Hlt.out _ _ h.symm; omega
      have HR8 : Hid (∀ W, Kept w5 W (fun b => b = S ∨ some b = (V (.key (x.id.toNat % n))).ownBlock ∨ some b = (V (.val (x.id.toNat % n))).ownBlock) → W.rangeAt w.heap.size 0 (ec x)) := fun W hW j v hv =>
        (World.cell?_of_block (hW.block w.heap.size Hw5.out HN8.out)).trans (HR5.out j v hv)
      have HS8 : Hid (Kept w5 w5.drew (fun b => b = S ∨ some b = (V (.key (x.id.toNat % n))).ownBlock ∨ some b = (V (.val (x.id.toNat % n))).ownBlock)) := ⟨rfl, rfl, rfl, Nat.le_refl _, fun _ _ _ => rfl⟩
      refine rs_begin (Kept w5 · (fun b => b = S ∨ some b = (V (.key (x.id.toNat % n))).ownBlock ∨ some b = (V (.val (x.id.toNat % n))).ownBlock)) (by kernel_rfl) ?_
      refine rs_take (i := 0) rfl (by kernel_rfl) (by kernel_rfl) (by kernel_rfl) (fun _ _ _ h => h) (by rfl) HS8.out (v := .pointer (some ⟨T, 0, none⟩)) (by intro W _; go_simp) ?_
      simp only [Act.put, List.setIfInBounds_toArray, List.set_cons_zero, List.set_cons_succ]
      refine rs_take (i := 1) rfl (by kernel_rfl) (by kernel_rfl) (by kernel_rfl) (fun _ _ _ h => h) (by rfl) HS8.out (v := .pointer (some ⟨w.heap.size, 0, none⟩)) (by intro W _; go_simp) ?_
      simp only [Act.put, List.setIfInBounds_toArray, List.set_cons_zero, List.set_cons_succ]
      refine rs_take (i := 2) rfl (by kernel_rfl) (by kernel_rfl) (by kernel_rfl) (fun _ _ _ h => h) (by rfl) HS8.out (v := .int .i64 x.id) (by intro W hW; have hc : W.cell? ⟨w.heap.size, 0, none⟩ = some (.int .i64 x.id) := HR8.out W hW 0 _ rfl; go_simp) ?_
      simp only [Act.put, List.setIfInBounds_toArray, List.set_cons_zero, List.set_cons_succ]
      refine rs_take (i := 4) rfl (by kernel_rfl) (by kernel_rfl) (by kernel_rfl) (fun _ _ _ h => h) (by rfl) HS8.out (v := .pointer (some ⟨w.heap.size, 0, none⟩)) (by intro W _; go_simp) ?_
      simp only [Act.put, List.setIfInBounds_toArray, List.set_cons_zero, List.set_cons_succ]
      refine rs_take (i := 5) rfl (by kernel_rfl) (by kernel_rfl) (by kernel_rfl) (fun _ _ _ h => h) (by rfl) HS8.out (v := .int .i64 x.id) (by intro W hW; have hc : W.cell? ⟨w.heap.size, 0, none⟩ = some (.int .i64 x.id) := HR8.out W hW 0 _ rfl; go_simp) ?_
      simp only [Act.put, List.setIfInBounds_toArray, List.set_cons_zero, List.set_cons_succ]
      refine rs_take (i := 6) rfl (by kernel_rfl) (by kernel_rfl) (by kernel_rfl) (fun _ _ _ h => h) (by rfl) HS8.out (v := .agg E) (fun W hW => by rw [HEE.out]; exact exec_load_ent' rfl (by rfl) (HR8.out W hW)) ?_
      simp only [Act.put, List.setIfInBounds_toArray, List.set_cons_zero, List.set_cons_succ]
      refine rs_one (i := 3) (by kernel_rfl) ?_
      refine ss_call (i := 3) rfl (by rfl) (f := 33) (args := #[.pointer (some ⟨T, 0, none⟩), .int .i64 x.id]) (by go_simp) ((HOf.out w5.drew (H5.out.trans ⟨rfl, rfl, rfl, Nat.le_refl _, fun _ _ => rfl⟩)).mono ?_)
      rintro e w6 ⟨rfl, hb⟩
      have HS6 : Hid (Kept w5 w6 (fun b => b = S ∨ some b = (V (.key (x.id.toNat % n))).ownBlock ∨ some b = (V (.val (x.id.toNat % n))).ownBlock)) := ⟨hb.os, hb.tape, hb.output, hb.size, fun k hk _ => hb.block k hk⟩
      refine ⟨_, rfl, HS6.out, ?_⟩
      have HB6 : Hid (Below w.heap.size w w6) := HB5.out.trans ⟨hb.os, hb.tape, hb.output, hb.size, fun k hk => hb.block k (Nat.lt_trans hk Hw5.out)⟩
      have HT6 := Lib.hid (tabx_below HT.out HB6.out)
      have HS6h : Hid (w6.heap[S]? = some (.cells cs 80 (0, 0))) := (HB6.out.block S HSl.out).trans HSh.out
      have hlen : (ofShard n (x.id.toNat % n) L).length ≤ 65534 := HGD.out.flen _
      have HPE := Lib.hid (put_ent_new S (x.id.toNat % n * 2) cs _ (V (.key (x.id.toNat % n))) (V (.val (x.id.toNat % n))) ((ofShard n (x.id.toNat % n) L).map (·.id)) (ofShard n (x.id.toNat % n) L) x.id x (ofShard n (x.id.toNat % n) L).length w6 HS6h.out ((HCS.out.2 _ Hs.out).1) ((HCS.out.2 _ Hs.out).2)
        (HT6.out.rows.rows (.key (x.id.toNat % n))) (HT6.out.rows.rows (.val (x.id.toNat % n))) (fun h => (HT.out.off _ S h).2 rfl) (fun h => (HT.out.off _ S h).2 rfl) (fun g hg hg' => by have := HT.out.rows.apart _ _ g hg hg'; cases this)
        (ids_sorted (HGD.out.filter _)) (by omega) (fun hm => by obtain ⟨e, he, hi⟩ := List.mem_map.1 hm; exact HNO.out e (List.mem_filter.1 he).1 hi))
      rw [← HEE.out] at HPE
      clear hb hlen
      simp only [Act.put, List.setIfInBounds_toArray, List.set_cons_zero, List.set_cons_succ]
      refine rs_one (i := 7) (by kernel_rfl) ?_
      refine ss_call (i := 7) rfl (by rfl) (f := 41) (args := #[.pointer (some ⟨S, x.id.toNat % n * 2, none⟩), .int .i64 x.id, .agg E]) (by go_simp) (HPE.out.mono ?_)
      rintro e w7 ⟨a, kv', vv', rfl, p1, p2, p3, p4, p5, p6, p7, p8⟩
      have HS7 : Hid (Kept w5 w7 (fun b => b = S ∨ some b = (V (.key (x.id.toNat % n))).ownBlock ∨ some b = (V (.val (x.id.toNat % n))).ownBlock)) := kept_weak (HS6.out.trans p8) (by rintro k (h | h) <;> exact h)
      refine ⟨_, rfl, HS7.out, ?_⟩
      rw [ids_put p1, ← insE_len (ofShard n (x.id.toNat % n) L) x] at p2
      rw [put_insE p1, ← insE_len (ofShard n (x.id.toNat % n) L) x] at p3
      obtain ⟨hT7, hV7⟩ := tabx_shard HT6.out (x.id.toNat % n) HS6h.out HCS.out Hs.out p8 p2 p3 p4 p5 p6 p7
      have HT7 := Lib.hid hT7
      have HV7 := Lib.hid hV7
      clear p1 p2 p3 p4 p5 p6 p7 p8 hT7 hV7 HPE
      simp only [Act.put, List.setIfInBounds_toArray, List.set_cons_zero, List.set_cons_succ]
      refine rs_done (by kernel_rfl) ?_
      go_wp2
      have HT7m := HT7.out.map
      obtain ⟨f, hM7, hf7⟩ := HT7m
      have HM7 := Lib.hid hM7
      have HF7 := Lib.hid hf7
      clear hM7 hf7
      have hk3 : two (.key (x.id.toNat % n)) (.val (x.id.toNat % n)) kv' vv' V (.mk x.mac) = V (.mk x.mac) := two_3 (by intro h; cases h) (by intro h; cases h) _ _ _
      have hv3 : two (.key (x.id.toNat % n)) (.val (x.id.toNat % n)) kv' vv' V (.mv x.mac) = V (.mv x.mac) := two_3 (by intro h; cases h) (by intro h; cases h) _ _ _
      have HK3 := Lib.hid hk3
      have HV3 := Lib.hid hv3
      clear hk3 hv3
      have HMl : Hid (M ≠ w.heap.size) := fun e => by
        obtain ⟨f, hM, _⟩ := HT.out.map
        have := map_lt hM; omega
      have Hw7 : Hid (w.heap.size < w7.heap.size) := by have := HS7.out.size; have := Hw5.out; unfold Hid; omega
      have HN9 : Hid (¬ (w.heap.size = M ∨ some w.heap.size = (V (.mk x.mac)).ownBlock ∨ some w.heap.size = (V (.mv x.mac)).ownBlock)) := by
        rintro (h | h | h)
        · exact HMl.out h.symm
        · have := Hlt.out _ _ h.symm; omega
        · have := Hlt.out _ _ h.symm; omega
      have HR9 : Hid (∀ W, Kept w7 W (fun b => b = M ∨ some b = (V (.mk x.mac)).ownBlock ∨ some b = (V (.mv x.mac)).ownBlock) → W.rangeAt w.heap.size 0 (ec x)) := fun W hW j v hv =>
        (World.cell?_of_block (hW.block w.heap.size Hw7.out HN9.out)).trans (HR8.out w7 HS7.out j v hv)
      have HS9 : Hid (Kept w7 w7.drew (fun b => b = M ∨ some b = (V (.mk x.mac)).ownBlock ∨ some b = (V (.mv x.mac)).ownBlock)) := ⟨rfl, rfl, rfl, Nat.le_refl _, fun _ _ _ => rfl⟩
      refine rs_begin (Kept w7 · (fun b => b = M ∨ some b = (V (.mk x.mac)).ownBlock ∨ some b = (V (.mv x.mac)).ownBlock)) (by kernel_rfl) ?_
      refine rs_take (i := 0) rfl (by kernel_rfl) (by kernel_rfl) (by kernel_rfl) (fun _ _ _ h => h) (by rfl) HS9.out (v := .pointer (some ⟨T, 0, none⟩)) (by intro W _; go_simp) ?_
      simp only [Act.put, List.setIfInBounds_toArray, List.set_cons_zero, List.set_cons_succ]
      refine rs_take (i := 1) rfl (by kernel_rfl) (by kernel_rfl) (by kernel_rfl) (fun _ _ _ h => h) (by rfl) HS9.out (v := .pointer (some ⟨T, 0, none⟩)) (by intro W _; go_simp) ?_
      simp only [Act.put, List.setIfInBounds_toArray, List.set_cons_zero, List.set_cons_succ]
      refine rs_take (i := 2) rfl (by kernel_rfl) (by kernel_rfl) (by kernel_rfl) (fun _ _ _ h => h) (by rfl) HS9.out (v := .pointer (some ⟨T, 0, none⟩)) (by intro W _; go_simp) ?_
      simp only [Act.put, List.setIfInBounds_toArray, List.set_cons_zero, List.set_cons_succ]
      refine rs_take (i := 3) rfl (by kernel_rfl) (by kernel_rfl) (by kernel_rfl) (fun _ _ _ h => h) (by rfl) HS9.out (v := .pointer (some ⟨w.heap.size, 1, none⟩)) (by intro W _; go_simp) ?_
      simp only [Act.put, List.setIfInBounds_toArray, List.set_cons_zero, List.set_cons_succ]
      refine rs_take (i := 4) rfl (by kernel_rfl) (by kernel_rfl) (by kernel_rfl) (fun _ _ _ h => h) (by rfl) HS9.out (v := x.mac.v) (fun W hW => exec_load_mac rfl (by rfl) (fun j v hv => by have := HR9.out W hW (1 + j) v (by rcases j with _ | _ | _ | _ | _ | _ | j <;> simp_all [ec]); rwa [Nat.zero_add] at this)) ?_
      simp only [Act.put, List.setIfInBounds_toArray, List.set_cons_zero, List.set_cons_succ]
      refine rs_take (i := 5) rfl (by kernel_rfl) (by kernel_rfl) (by kernel_rfl) (fun _ _ _ h => h) (by rfl) HS9.out (v := .pointer (some ⟨w.heap.size, 0, none⟩)) (by intro W _; go_simp) ?_
      simp only [Act.put, List.setIfInBounds_toArray, List.set_cons_zero, List.set_cons_succ]
      refine rs_take (i := 6) rfl (by kernel_rfl) (by kernel_rfl) (by kernel_rfl) (fun _ _ _ h => h) (by rfl) HS9.out (v := .int .i64 x.id) (by intro W hW; have hc : W.cell? ⟨w.heap.size, 0, none⟩ = some (.int .i64 x.id) := HR9.out W hW 0 _ rfl; go_simp) ?_
      simp only [Act.put, List.setIfInBounds_toArray, List.set_cons_zero, List.set_cons_succ]
      have hrk : w7.drew.ownsRow 0 3 1 (V (.mk x.mac)) (ofMac x.mac L).length (((ofMac x.mac L).map fun e => e.id).map iv) := by
        have h := HT7.out.rows.rows (.mk x.mac)
        rw [HK3.out, two_3 (by intro h; cases h) (by intro h; cases h)] at h
        exact h
      have hru : w7.drew.ownsRow 0 3 1 (V (.mv x.mac)) (ofMac x.mac L).length (((ofMac x.mac L).map fun e => e.id).map iv) := by
        have h := HT7.out.rows.rows (.mv x.mac)
        rw [HV3.out, two_3 (by intro h; cases h) (by intro h; cases h)] at h
        exact h
      have hf := HF7.out x.mac
      rw [HK3.out, HV3.out] at hf
      have hT7c : w7.drew.cell? ⟨T, 0, none⟩ = some (.map (some M)) := by rw [cell_of_row w7.drew T 0 _ _ _ HT7.out.tab]; rfl
      have hlen : (ofMac x.mac L).length ≤ 65534 := HGD.out.flen _
      have HNO9 := Lib.hid (note_any T M f x.mac x.id (V (.mk x.mac)) (V (.mv x.mac)) ((ofMac x.mac L).map fun e => e.id) ((ofMac x.mac L).map fun e => e.id) (ofMac x.mac L).length w7.drew hT7c HM7.out hf hrk hru
        (fun h => (HT.out.off _ T h).1 rfl) (fun h => (HT.out.off _ T h).1 rfl) (fun g hg hg' => by have := HT.out.rows.apart _ _ g hg hg'; cases this) (ids_sorted (HGD.out.filter _)) (by omega) (fun hm => by obtain ⟨e, he, hi⟩ := List.mem_map.1 hm; exact HNO.out e (List.mem_filter.1 he).1 hi))
      clear hrk hru hf hT7c hlen
      refine rs_one (i := 7) (by kernel_rfl) ?_
      refine ss_call (i := 7) rfl (by rfl) (f := 42) (args := #[.pointer (some ⟨T, 0, none⟩), x.mac.v, .int .i64 x.id]) (by go_simp) (HNO9.out.mono ?_)
      rintro e w8 ⟨a, kv2, vv2, rfl, p1, p2, p3, p4, p5, p6, p7, p8⟩
      have HS10 : Hid (Kept w7 w8 (fun b => b = M ∨ some b = (V (.mk x.mac)).ownBlock ∨ some b = (V (.mv x.mac)).ownBlock)) := ⟨p8.os, p8.tape, p8.output, p8.size, p8.block⟩
      refine ⟨_, rfl, HS10.out, ?_⟩
      rw [ids_put p1, ← insE_len (ofMac x.mac L) x] at p2 p3
      obtain ⟨hu1, hu2⟩ := found_upd f x.mac (.agg #[kv2, vv2])
      have hS10 := HS10.out
      rw [← HK3.out, ← HV3.out] at hS10
      obtain ⟨hT8, hV8⟩ := tabx_mac HT7.out x.mac HM7.out HF7.out hS10 p2 p3 p4 hu1 hu2 (by rw [HK3.out]; exact p5) (by rw [HV3.out]; exact p6) p7
      have HT8 := Lib.hid hT8
      have HV8 := Lib.hid hV8
      clear p1 p2 p3 p4 p5 p6 p7 p8 hT8 hV8 hu1 hu2 hS10 HNO9
      simp only [Act.put, List.setIfInBounds_toArray, List.set_cons_zero, List.set_cons_succ]
      refine rs_done (by kernel_rfl) ?_
      go_wp2
      obtain ⟨a1, a2, a3, a4, a5, a6, a7, a8⟩ := HAs.out
      have hC := cont_ins (n := n) HGD.out x
      have hT8 := HT8.out
      rw [show two (.mk x.mac) (.mv x.mac) (insE (ofMac x.mac L) x) (insE (ofMac x.mac L) x) (two (.key (x.id.toNat % n)) (.val (x.id.toNat % n)) (insE (ofShard n (x.id.toNat % n) L) x) (insE (ofShard n (x.id.toNat % n) L) x) (Cont n L)) = Cont n (insE L x) from hC] at hT8
      have hall : Kept w w8 A := by
        refine kept_weak (((kept_below HB5.out (fun _ => False)).trans HS7.out).trans HS10.out) ?_
        rintro k ((h | h | h | h) | h | h | h)
        · exact h.elim
        · exact h ▸ a2
        · exact a4 _ _ h.symm
        · exact a4 _ _ h.symm
        · exact h ▸ a3
        · exact a4 _ _ h.symm
        · exact a4 _ _ h.symm
      refine bodyPost_ret (v := .int .i64 0) (by simp [results, Try.results22, go_sem]) rfl ⟨rfl, ⟨S, M, _, hT8, .inl a1, .inl a2, .inl a3, fun t g hg => ?_, fun b hb => ?_, h1, h2, insE_good HGD.out HX9.out HNO.out⟩, hall⟩
      · have hgl : g < w8.heap.size := Tag.row_lt (HT8.out.rows.rows t) hg
        have hs6 := HB6.out.size
        have hs7 := HS7.out.size
        have hs5 := HB5.out.size
        rcases HV8.out t g hg with h | h
        · rcases HV7.out t g h with h | h
          · exact .inl (a4 t g h)
          · exact .inr ⟨by omega, hgl⟩
        · exact .inr ⟨by omega, hgl⟩
      · rcases hb with hb | hb
        · exact Nat.lt_of_lt_of_le (a5 b hb) hall.size
        · exact hb.2
  · refine st_made (i := 10) rfl (by rfl) (v := .pointer (some ⟨w0.drew.heap.size, 0, none⟩)) (x := .cells zE 40) (by go_simp) Hd.out.size ?_
    intro v10 wa hv10 hw10 hb10
    subst hv10
    have hN : wa.heap[w0.drew.heap.size]? = some (.cells zE 40 (0, 0)) := by rw [hw10]; exact heap_alloc_new _ _
    have hNl : w0.heap.size ≤ w0.drew.heap.size := Hd.out.size
    have Ha : Hid (Below w0.heap.size w0 wa) := Hd.out.trans hb10
    generalize w0.drew.heap.size = N at *
    clear hw10 hb10
    simp only [Act.put, List.setIfInBounds_toArray, List.set_cons_zero, List.set_cons_succ]
    refine rn_one (i := 3) (by kernel_rfl) ?_
    refine st_call (i := 3) rfl (by rfl) (f := 33) (args := #[.pointer (some ⟨T, 0, none⟩), .int .i64 x.id]) (by go_simp) ((HOf.out _ Ha.out).mono ?_)
    rintro e wb ⟨rfl, hb⟩
    refine ⟨_, rfl, hb.mono Ha.out.size, ?_⟩
    have Hb : Hid (Below w0.heap.size w0 wb) := Ha.out.trans (hb.mono Ha.out.size)
    have Hb' := Lib.hid hb
    clear hb
    simp only [Act.put, List.setIfInBounds_toArray, List.set_cons_zero, List.set_cons_succ]
    have hN : wb.heap[N]? = some (.cells zE 40 (0, 0)) := (Hb'.out.block N (Array.getElem?_eq_some_iff.1 hN).1).trans hN
    refine rn_one (i := 6) (by kernel_rfl) ?_
    refine st_call (i := 6) rfl (by rfl) (f := 34) (args := #[.pointer (some ⟨S, x.id.toNat % n * 2, none⟩), .int .i64 x.id]) (by go_simp) ((HG.out _ Hb.out).mono ?_)
    rintro e wc ⟨rfl, hb⟩
    refine ⟨_, rfl, hb.mono Hb.out.size, ?_⟩
    have Hc : Hid (Below w0.heap.size w0 wc) := Hb.out.trans (hb.mono Hb.out.size)
    have Hc' := Lib.hid hb
    clear hb
    simp only [Act.put, List.setIfInBounds_toArray, List.set_cons_zero, List.set_cons_succ]
    have hN : wc.heap[N]? = some (.cells zE 40 (0, 0)) := (Hc'.out.block N (Array.getElem?_eq_some_iff.1 hN).1).trans hN
    refine rn_take (i := 7) rfl (by kernel_rfl) (by kernel_rfl) (by kernel_rfl) (fun _ _ _ h => h) (by rfl) (v := .tuple #[.agg X, .bool false]) (by intro W _; go_simp) ?_
    simp only [Act.put, List.setIfInBounds_toArray, List.set_cons_zero, List.set_cons_succ]
    refine rn_take (i := 8) rfl (by kernel_rfl) (by kernel_rfl) (by kernel_rfl) (fun _ _ _ h => h) (by rfl) (v := .agg X) (by intro W _; go_simp) ?_
    simp only [Act.put, List.setIfInBounds_toArray, List.set_cons_zero, List.set_cons_succ]
    refine rn_take (i := 9) rfl (by kernel_rfl) (by kernel_rfl) (by kernel_rfl) (fun _ _ _ h => h) (by rfl) (v := .bool false) (by intro W _; go_simp) ?_
    simp only [Act.put, List.setIfInBounds_toArray, List.set_cons_zero, List.set_cons_succ]
    rw [HX.out]
    refine rn_one (i := 11) (by kernel_rfl) ?_
    refine st_skip (i := 11) rfl (by rfl) (w' := wc.setRow N (ec X0).toArray) (exec_store_ent rfl (by rfl) (by rfl) hN rfl) (below_setRow (Below.refl _ _) hNl _) ?_
    have H5 : Hid (Below w0.heap.size w0 (wc.setRow N (ec X0).toArray)) := Hc.out.trans (below_setRow (Below.refl _ _) hNl _)
    generalize wc.setRow N (ec X0).toArray = w5 at *
    clear hN hNl Hc Hc'
    simp only [Act.put, List.setIfInBounds_toArray, List.set_cons_zero, List.set_cons_succ]
    refine rn_take (i := 12) rfl (by kernel_rfl) (by kernel_rfl) (by kernel_rfl) (fun _ _ _ h => h) (by rfl) (v := .bool false) (by intro W _; go_simp) ?_
    simp only [Act.put, List.setIfInBounds_toArray, List.set_cons_zero, List.set_cons_succ]
    refine rn_done (by kernel_rfl) ?_
    go_wp2
    have HB5 : Hid (Below w.heap.size w w5) := HB0.out.trans (H5.out.mono HB0.out.size)
    have HT5 := Lib.hid (tabx_below HT.out HB5.out)
    have HR5 : Hid (w5.rangeAt w.heap.size 0 (ec x)) := ent_block ((H5.out.block _ (by have := HZ0.out; omega)).trans HE0.out)
    have Hlt : Hid (∀ t g, (V t).ownBlock = some g → g < w.heap.size) := fun t g hg => Tag.row_lt (HT.out.rows.rows t) hg
    have HSl : Hid (S < w.heap.size) := (Array.getElem?_eq_some_iff.1 HSh.out).1
    have Hw5 : Hid (w.heap.size < w5.heap.size) := by have := H5.out.size; have := HZ0.out; unfold Hid; omega
    have HN8 : Hid (¬ (w.heap.size = S ∨ some w.heap.size = (V (.key (x.id.toNat % n))).ownBlock ∨ some w.heap.size = (V (.val (x.id.toNat % n))).ownBlock)) := by
      have := HSl.out
      rintro (h | h | h)
      · omega
      · have := Hlt.out _ _ h.symm; omega
      · have := Hlt.out _ _ h.symm; omega
    have HR8 : Hid (∀ W, Kept w5 W (fun b => b = S ∨ some b = (V (.key (x.id.toNat % n))).ownBlock ∨ some b = (V (.val (x.id.toNat % n))).ownBlock) → W.rangeAt w.heap.size 0 (ec x)) := fun W hW j v hv =>
      (World.cell?_of_block (hW.block w.heap.size Hw5.out HN8.out)).trans (HR5.out j v hv)
    have HS8 : Hid (Kept w5 w5.drew (fun b => b = S ∨ some b = (V (.key (x.id.toNat % n))).ownBlock ∨ some b = (V (.val (x.id.toNat % n))).ownBlock)) := ⟨rfl, rfl, rfl, Nat.le_refl _, fun _ _ _ => rfl⟩
    refine rs_begin (Kept w5 · (fun b => b = S ∨ some b = (V (.key (x.id.toNat % n))).ownBlock ∨ some b = (V (.val (x.id.toNat % n))).ownBlock)) (by kernel_rfl) ?_
    refine rs_take (i := 0) rfl (by kernel_rfl) (by kernel_rfl) (by kernel_rfl) (fun _ _ _ h => h) (by rfl) HS8.out (v := .pointer (some ⟨T, 0, none⟩)) (by intro W _; go_simp) ?_
    simp only [Act.put, List.setIfInBounds_toArray, List.set_cons_zero, List.set_cons_succ]
    refine rs_take (i := 1) rfl (by kernel_rfl) (by kernel_rfl) (by kernel_rfl) (fun _ _ _ h => h) (by rfl) HS8.out (v := .pointer (some ⟨w.heap.size, 0, none⟩)) (by intro W _; go_simp) ?_
    simp only [Act.put, List.setIfInBounds_toArray, List.set_cons_zero, List.set_cons_succ]
    refine rs_take (i := 2) rfl (by kernel_rfl) (by kernel_rfl) (by kernel_rfl) (fun _ _ _ h => h) (by rfl) HS8.out (v := .int .i64 x.id) (by intro W hW; have hc : W.cell? ⟨w.heap.size, 0, none⟩ = some (.int .i64 x.id) := HR8.out W hW 0 _ rfl; go_simp) ?_
    simp only [Act.put, List.setIfInBounds_toArray, List.set_cons_zero, List.set_cons_succ]
    refine rs_take (i := 4) rfl (by kernel_rfl) (by kernel_rfl) (by kernel_rfl) (fun _ _ _ h => h) (by rfl) HS8.out (v := .pointer (some ⟨w.heap.size, 0, none⟩)) (by intro W _; go_simp) ?_
    simp only [Act.put, List.setIfInBounds_toArray, List.set_cons_zero, List.set_cons_succ]
    refine rs_take (i := 5) rfl (by kernel_rfl) (by kernel_rfl) (by kernel_rfl) (fun _ _ _ h => h) (by rfl) HS8.out (v := .int .i64 x.id) (by intro W hW; have hc : W.cell? ⟨w.heap.size, 0, none⟩ = some (.int .i64 x.id) := HR8.out W hW 0 _ rfl; go_simp) ?_
    simp only [Act.put, List.setIfInBounds_toArray, List.set_cons_zero, List.set_cons_succ]
    refine rs_take (i := 6) rfl (by kernel_rfl) (by kernel_rfl) (by kernel_rfl) (fun _ _ _ h => h) (by rfl) HS8.out (v := .agg E) (fun W hW => by rw [HEE.out]; exact exec_load_ent' rfl (by rfl) (HR8.out W hW)) ?_
    simp only [Act.put, List.setIfInBounds_toArray, List.set_cons_zero, List.set_cons_succ]
    refine rs_one (i := 3) (by kernel_rfl) ?_
    refine ss_call (i := 3) rfl (by rfl) (f := 33) (args := #[.pointer (some ⟨T, 0, none⟩), .int .i64 x.id]) (by go_simp) ((HOf.out w5.drew (H5.out.trans ⟨rfl, rfl, rfl, Nat.le_refl _, fun _ _ => rfl⟩)).mono ?_)
    rintro e w6 ⟨rfl, hb⟩
    have HS6 : Hid (Kept w5 w6 (fun b => b = S ∨ some b = (V (.key (x.id.toNat % n))).ownBlock ∨ some b = (V (.val (x.id.toNat % n))).ownBlock)) := ⟨hb.os, hb.tape, hb.output, hb.size, fun k hk _ => hb.block k hk⟩
    refine ⟨_, rfl, HS6.out, ?_⟩
    have HB6 : Hid (Below w.heap.size w w6) := HB5.out.trans ⟨hb.os, hb.tape, hb.output, hb.size, fun k hk => hb.block k (Nat.lt_trans hk Hw5.out)⟩
    have HT6 := Lib.hid (tabx_below HT.out HB6.out)
    have HS6h : Hid (w6.heap[S]? = some (.cells cs 80 (0, 0))) := (HB6.out.block S HSl.out).trans HSh.out
    have hlen : (ofShard n (x.id.toNat % n) L).length ≤ 65534 := HGD.out.flen _
    have HPE := Lib.hid (put_ent_new S (x.id.toNat % n * 2) cs _ (V (.key (x.id.toNat % n))) (V (.val (x.id.toNat % n))) ((ofShard n (x.id.toNat % n) L).map (·.id)) (ofShard n (x.id.toNat % n) L) x.id x (ofShard n (x.id.toNat % n) L).length w6 HS6h.out ((HCS.out.2 _ Hs.out).1) ((HCS.out.2 _ Hs.out).2)
      (HT6.out.rows.rows (.key (x.id.toNat % n))) (HT6.out.rows.rows (.val (x.id.toNat % n))) (fun h => (HT.out.off _ S h).2 rfl) (fun h => (HT.out.off _ S h).2 rfl) (fun g hg hg' => by have := HT.out.rows.apart _ _ g hg hg'; cases this)
      (ids_sorted (HGD.out.filter _)) (by omega) (fun hm => by obtain ⟨e, he, hi⟩ := List.mem_map.1 hm; exact HNO.out e (List.mem_filter.1 he).1 hi))
    rw [← HEE.out] at HPE
    clear hb hlen
    simp only [Act.put, List.setIfInBounds_toArray, List.set_cons_zero, List.set_cons_succ]
    refine rs_one (i := 7) (by kernel_rfl) ?_
    refine ss_call (i := 7) rfl (by rfl) (f := 41) (args := #[.pointer (some ⟨S, x.id.toNat % n * 2, none⟩), .int .i64 x.id, .agg E]) (by go_simp) (HPE.out.mono ?_)
    rintro e w7 ⟨a, kv', vv', rfl, p1, p2, p3, p4, p5, p6, p7, p8⟩
    have HS7 : Hid (Kept w5 w7 (fun b => b = S ∨ some b = (V (.key (x.id.toNat % n))).ownBlock ∨ some b = (V (.val (x.id.toNat % n))).ownBlock)) := kept_weak (HS6.out.trans p8) (by rintro k (h | h) <;> exact h)
    refine ⟨_, rfl, HS7.out, ?_⟩
    rw [ids_put p1, ← insE_len (ofShard n (x.id.toNat % n) L) x] at p2
    rw [put_insE p1, ← insE_len (ofShard n (x.id.toNat % n) L) x] at p3
    obtain ⟨hT7, hV7⟩ := tabx_shard HT6.out (x.id.toNat % n) HS6h.out HCS.out Hs.out p8 p2 p3 p4 p5 p6 p7
    have HT7 := Lib.hid hT7
    have HV7 := Lib.hid hV7
    clear p1 p2 p3 p4 p5 p6 p7 p8 hT7 hV7 HPE
    simp only [Act.put, List.setIfInBounds_toArray, List.set_cons_zero, List.set_cons_succ]
    refine rs_done (by kernel_rfl) ?_
    go_wp2
    have HT7m := HT7.out.map
    obtain ⟨f, hM7, hf7⟩ := HT7m
    have HM7 := Lib.hid hM7
    have HF7 := Lib.hid hf7
    clear hM7 hf7
    have hk3 : two (.key (x.id.toNat % n)) (.val (x.id.toNat % n)) kv' vv' V (.mk x.mac) = V (.mk x.mac) := two_3 (by intro h; cases h) (by intro h; cases h) _ _ _
    have hv3 : two (.key (x.id.toNat % n)) (.val (x.id.toNat % n)) kv' vv' V (.mv x.mac) = V (.mv x.mac) := two_3 (by intro h; cases h) (by intro h; cases h) _ _ _
    have HK3 := Lib.hid hk3
    have HV3 := Lib.hid hv3
    clear hk3 hv3
    have HMl : Hid (M ≠ w.heap.size) := fun e => by
      obtain ⟨f, hM, _⟩ := HT.out.map
      have := map_lt hM; omega
    have Hw7 : Hid (w.heap.size < w7.heap.size) := by have := HS7.out.size; have := Hw5.out; unfold Hid; omega
    have HN9 : Hid (¬ (w.heap.size = M ∨ some w.heap.size = (V (.mk x.mac)).ownBlock ∨ some w.heap.size = (V (.mv x.mac)).ownBlock)) := by
      rintro (h | h | h)
      · exact HMl.out h.symm
      · have := Hlt.out _ _ h.symm; omega
      · have := Hlt.out _ _ h.symm; omega
    have HR9 : Hid (∀ W, Kept w7 W (fun b => b = M ∨ some b = (V (.mk x.mac)).ownBlock ∨ some b = (V (.mv x.mac)).ownBlock) → W.rangeAt w.heap.size 0 (ec x)) := fun W hW j v hv =>
      (World.cell?_of_block (hW.block w.heap.size Hw7.out HN9.out)).trans (HR8.out w7 HS7.out j v hv)
    have HS9 : Hid (Kept w7 w7.drew (fun b => b = M ∨ some b = (V (.mk x.mac)).ownBlock ∨ some b = (V (.mv x.mac)).ownBlock)) := ⟨rfl, rfl, rfl, Nat.le_refl _, fun _ _ _ => rfl⟩
    refine rs_begin (Kept w7 · (fun b => b = M ∨ some b = (V (.mk x.mac)).ownBlock ∨ some b = (V (.mv x.mac)).ownBlock)) (by kernel_rfl) ?_
    refine rs_take (i := 0) rfl (by kernel_rfl) (by kernel_rfl) (by kernel_rfl) (fun _ _ _ h => h) (by rfl) HS9.out (v := .pointer (some ⟨T, 0, none⟩)) (by intro W _; go_simp) ?_
    simp only [Act.put, List.setIfInBounds_toArray, List.set_cons_zero, List.set_cons_succ]
    refine rs_take (i := 1) rfl (by kernel_rfl) (by kernel_rfl) (by kernel_rfl) (fun _ _ _ h => h) (by rfl) HS9.out (v := .pointer (some ⟨T, 0, none⟩)) (by intro W _; go_simp) ?_
    simp only [Act.put, List.setIfInBounds_toArray, List.set_cons_zero, List.set_cons_succ]
    refine rs_take (i := 2) rfl (by kernel_rfl) (by kernel_rfl) (by kernel_rfl) (fun _ _ _ h => h) (by rfl) HS9.out (v := .pointer (some ⟨T, 0, none⟩)) (by intro W _; go_simp) ?_
    simp only [Act.put, List.setIfInBounds_toArray, List.set_cons_zero, List.set_cons_succ]
    refine rs_take (i := 3) rfl (by kernel_rfl) (by kernel_rfl) (by kernel_rfl) (fun _ _ _ h => h) (by rfl) HS9.out (v := .pointer (some ⟨w.heap.size, 1, none⟩)) (by intro W _; go_simp) ?_
    simp only [Act.put, List.setIfInBounds_toArray, List.set_cons_zero, List.set_cons_succ]
    refine rs_take (i := 4) rfl (by kernel_rfl) (by kernel_rfl) (by kernel_rfl) (fun _ _ _ h => h) (by rfl) HS9.out (v := x.mac.v) (fun W hW => exec_load_mac rfl (by rfl) (fun j v hv => by have := HR9.out W hW (1 + j) v (by rcases j with _ | _ | _ | _ | _ | _ | j <;> simp_all [ec]); rwa [Nat.zero_add] at this)) ?_
    simp only [Act.put, List.setIfInBounds_toArray, List.set_cons_zero, List.set_cons_succ]
    refine rs_take (i := 5) rfl (by kernel_rfl) (by kernel_rfl) (by kernel_rfl) (fun _ _ _ h => h) (by rfl) HS9.out (v := .pointer (some ⟨w.heap.size, 0, none⟩)) (by intro W _; go_simp) ?_
    simp only [Act.put, List.setIfInBounds_toArray, List.set_cons_zero, List.set_cons_succ]
    refine rs_take (i := 6) rfl (by kernel_rfl) (by kernel_rfl) (by kernel_rfl) (fun _ _ _ h => h) (by rfl) HS9.out (v := .int .i64 x.id) (by intro W hW; have hc : W.cell? ⟨w.heap.size, 0, none⟩ = some (.int .i64 x.id) := HR9.out W hW 0 _ rfl; go_simp) ?_
    simp only [Act.put, List.setIfInBounds_toArray, List.set_cons_zero, List.set_cons_succ]
    have hrk : w7.drew.ownsRow 0 3 1 (V (.mk x.mac)) (ofMac x.mac L).length (((ofMac x.mac L).map fun e => e.id).map iv) := by
      have h := HT7.out.rows.rows (.mk x.mac)
      rw [HK3.out, two_3 (by intro h; cases h) (by intro h; cases h)] at h
      exact h
    have hru : w7.drew.ownsRow 0 3 1 (V (.mv x.mac)) (ofMac x.mac L).length (((ofMac x.mac L).map fun e => e.id).map iv) := by
      have h := HT7.out.rows.rows (.mv x.mac)
      rw [HV3.out, two_3 (by intro h; cases h) (by intro h; cases h)] at h
      exact h
    have hf := HF7.out x.mac
    rw [HK3.out, HV3.out] at hf
    have hT7c : w7.drew.cell? ⟨T, 0, none⟩ = some (.map (some M)) := by rw [cell_of_row w7.drew T 0 _ _ _ HT7.out.tab]; rfl
    have hlen : (ofMac x.mac L).length ≤ 65534 := HGD.out.flen _
    have HNO9 := Lib.hid (note_any T M f x.mac x.id (V (.mk x.mac)) (V (.mv x.mac)) ((ofMac x.mac L).map fun e => e.id) ((ofMac x.mac L).map fun e => e.id) (ofMac x.mac L).length w7.drew hT7c HM7.out hf hrk hru
      (fun h => (HT.out.off _ T h).1 rfl) (fun h => (HT.out.off _ T h).1 rfl) (fun g hg hg' => by have := HT.out.rows.apart _ _ g hg hg'; cases this) (ids_sorted (HGD.out.filter _)) (by omega) (fun hm => by obtain ⟨e, he, hi⟩ := List.mem_map.1 hm; exact HNO.out e (List.mem_filter.1 he).1 hi))
    clear hrk hru hf hT7c hlen
    refine rs_one (i := 7) (by kernel_rfl) ?_
    refine ss_call (i := 7) rfl (by rfl) (f := 42) (args := #[.pointer (some ⟨T, 0, none⟩), x.mac.v, .int .i64 x.id]) (by go_simp) (HNO9.out.mono ?_)
    rintro e w8 ⟨a, kv2, vv2, rfl, p1, p2, p3, p4, p5, p6, p7, p8⟩
    have HS10 : Hid (Kept w7 w8 (fun b => b = M ∨ some b = (V (.mk x.mac)).ownBlock ∨ some b = (V (.mv x.mac)).ownBlock)) := ⟨p8.os, p8.tape, p8.output, p8.size, p8.block⟩
    refine ⟨_, rfl, HS10.out, ?_⟩
    rw [ids_put p1, ← insE_len (ofMac x.mac L) x] at p2 p3
    obtain ⟨hu1, hu2⟩ := found_upd f x.mac (.agg #[kv2, vv2])
    have hS10 := HS10.out
    rw [← HK3.out, ← HV3.out] at hS10
    obtain ⟨hT8, hV8⟩ := tabx_mac HT7.out x.mac HM7.out HF7.out hS10 p2 p3 p4 hu1 hu2 (by rw [HK3.out]; exact p5) (by rw [HV3.out]; exact p6) p7
    have HT8 := Lib.hid hT8
    have HV8 := Lib.hid hV8
    clear p1 p2 p3 p4 p5 p6 p7 p8 hT8 hV8 hu1 hu2 hS10 HNO9
    simp only [Act.put, List.setIfInBounds_toArray, List.set_cons_zero, List.set_cons_succ]
    refine rs_done (by kernel_rfl) ?_
    go_wp2
    obtain ⟨a1, a2, a3, a4, a5, a6, a7, a8⟩ := HAs.out
    have hC := cont_ins (n := n) HGD.out x
    have hT8 := HT8.out
    rw [show two (.mk x.mac) (.mv x.mac) (insE (ofMac x.mac L) x) (insE (ofMac x.mac L) x) (two (.key (x.id.toNat % n)) (.val (x.id.toNat % n)) (insE (ofShard n (x.id.toNat % n) L) x) (insE (ofShard n (x.id.toNat % n) L) x) (Cont n L)) = Cont n (insE L x) from hC] at hT8
    have hall : Kept w w8 A := by
      refine kept_weak (((kept_below HB5.out (fun _ => False)).trans HS7.out).trans HS10.out) ?_
      rintro k ((h | h | h | h) | h | h | h)
      · exact h.elim
      · exact h ▸ a2
      · exact a4 _ _ h.symm
      · exact a4 _ _ h.symm
      · exact h ▸ a3
      · exact a4 _ _ h.symm
      · exact a4 _ _ h.symm
    refine bodyPost_ret (v := .int .i64 0) (by simp [results, Try.results22, go_sem]) rfl ⟨rfl, ⟨S, M, _, hT8, .inl a1, .inl a2, .inl a3, fun t g hg => ?_, fun b hb => ?_, h1, h2, insE_good HGD.out HX9.out HNO.out⟩, hall⟩
    · have hgl : g < w8.heap.size := Tag.row_lt (HT8.out.rows.rows t) hg
      have hs6 := HB6.out.size
      have hs7 := HS7.out.size
      have hs5 := HB5.out.size
      rcases HV8.out t g hg with h | h
      · rcases HV7.out t g h with h | h
        · exact .inl (a4 t g h)
        · exact .inr ⟨by omega, hgl⟩
      · exact .inr ⟨by omega, hgl⟩
    · rcases hb with hb | hb
      · exact Nat.lt_of_lt_of_le (a5 b hb) hall.size
      · exact hb.2
end Go.Proofs.Ytkifagflnpkkaaa
