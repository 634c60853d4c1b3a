/- What a table tells: List, Of. -/
import Derived.Test.YtkifagflnpkkaaaTabG
namespace Go.Proofs.Ytkifagflnpkkaaa
set_option linter.unusedSimpArgs false
set_option linter.unusedVariables false
open Go.RowKit
set_option maxRecDepth 10000

abbrev ofShard (n : Nat) (s : Nat) (L : List EntL) : List EntL := L.filter fun e => e.id.toNat % n == s
abbrev ofMac (m : Mac) (L : List EntL) : List EntL := L.filter fun e => decide (e.mac = m)
theorem list_bad (T n : Nat) (L : List EntL) (A : Nat → Prop) (k : Int) (hk : ¬ (0 ≤ k ∧ k < n)) (w : World) (h : Tab w T n L A) :
    Calls Try.prog 11 #[.pointer (some ⟨T, 0, none⟩), .int .i64 k] w fun e w' => e = .returned (.tuple #[.slice none 0 0, .int .i64 5]) ∧ w' = w := by
  have Hn := Lib.hid (tab_none h)
  obtain ⟨S, hc, _⟩ := tab_len h
  clear h
  go_enter Try.func11, Try.ntmps11
  go_wp2_with (first
    | (go_at_call 30; refine (none_any _ _ _ Hn.out).mono ?_; rintro e w1 ⟨rfl, rfl⟩))
  all_goals first | (exfalso; omega) | skip
  all_goals exact bodyPost_ret (v := .tuple #[.slice none 0 0, .int .i64 5]) (by simp [results, Try.results11, go_sem]) rfl ⟨rfl, rfl⟩
theorem list_any (T n : Nat) (L : List EntL) (A : Nat → Prop) (s : Nat) (hs : s < n) (w : World) (h : Tab w T n L A) :
    Calls Try.prog 11 #[.pointer (some ⟨T, 0, none⟩), .int .i64 s] w fun e w' => ∃ v, e = .returned (.tuple #[v, .int .i64 0]) ∧ Below w.heap.size w w' ∧ w'.ownsRow w.heap.size 40 8 v (ofShard n s L).length (ecs (ofShard n s L)) := by
  have Hn := Lib.hid (tab_none h)
  obtain ⟨S, hc, hr⟩ := tab_row h
  obtain ⟨kv, vv, hc1, hc2, hi, ho⟩ := hr _ hs
  have hg : Good L := by obtain ⟨_, _, _, _, _, _, _, _, _, h1, h2, h3⟩ := h; exact h3
  have HCl := Lib.hid (clone_ent vv (ofShard n s L).length (ecs (ofShard n s L)) w ho (ecs_one _) (by have : (ofShard n s L).length ≤ 65534 := hg.flen _; omega))
  clear hr hi ho h hc1
  go_enter Try.func11, Try.ntmps11
  go_wp2_with (first
    | (go_at_call 30; refine (none_any _ _ _ Hn.out).mono ?_; rintro e w1 ⟨rfl, rfl⟩)
    | (go_at_call 31; refine HCl.out.mono ?_; rintro e w2 ⟨v, rfl, hb, ho⟩
       have HB := Lib.hid hb
       have HO := Lib.hid ho
       clear hb ho))
  all_goals first | (exfalso; omega) | skip
  exact bodyPost_ret (v := .tuple #[v, .int .i64 0]) (by simp [results, Try.results11, go_sem]) rfl ⟨v, rfl, HB.out, HO.out⟩

theorem tab_mac {w : World} {T n : Nat} {L : List EntL} {A : Nat → Prop} (h : Tab w T n L A) (m : Mac) : ∃ M f kv vv, w.cell? ⟨T, 0, none⟩ = some (.map (some M)) ∧ MapAt w M f ∧ found f m = .agg #[kv, vv] ∧
    w.ownsRow 0 3 1 kv (ofMac m L).length (((ofMac m L).map (·.id)).map iv) := by
  obtain ⟨S, M, V, ⟨h1, -, ⟨f, h2, h3⟩, ⟨h4, -⟩, -⟩, -⟩ := h
  exact ⟨M, f, _, _, by rw [cell_of_row w T 0 _ _ _ h1]; rfl, h2, h3 m, h4 (.mk m)⟩
theorem run_field0 (kv vv : Value) (W : World) : (Instr.field 86 (.agg #[kv, vv]) 0).run Try.prog W = .ok kv W := by kernel_rfl
set_option maxHeartbeats 4000000 in
theorem of_mac (T n : Nat) (L : List EntL) (A : Nat → Prop) (m : Mac) (w : World) (h : Tab w T n L A) :
    Calls Try.prog 14 #[.pointer (some ⟨T, 0, none⟩), m.v] w fun e w' => ∃ v, e = .returned v ∧ Below w.heap.size w w' ∧ w'.ownsRow w.heap.size 3 1 v (ofMac m L).length (((ofMac m L).map (·.id)).map iv) := by
  have hn := tab_none h
  obtain ⟨M, f, kv, vv, hT, hM, hf, hk⟩ := tab_mac h m
  have hg : Good L := by obtain ⟨_, _, _, _, _, _, _, _, _, h1, h2, h3⟩ := h; exact h3
  have HT := Lib.hid hT
  have HM := Lib.hid hM
  have HK := Lib.hid hk
  have Hf := Lib.hid hf
  have HL : Hid ((ofMac m L).length ≤ 1000000) := by have : (ofMac m L).length ≤ 65534 := hg.flen _; unfold Hid; omega
  obtain ⟨w0, hw0⟩ : ∃ w0, w0 = w.alloc (.cells #[bv m.a, bv m.b, bv m.c, bv m.d, bv m.e, bv m.f] 38) := ⟨_, rfl⟩
  have HB0 : Hid (Below w.heap.size w w0) := by rw [hw0]; exact (Below.refl _ _).alloc (Nat.le_refl _) _
  have HC0 : Hid (w0.heap[w.heap.size]? = some (.cells #[bv m.a, bv m.b, bv m.c, bv m.d, bv m.e, bv m.f] 38 (0, 0))) := by rw [hw0]; exact heap_alloc_new w _
  have HW : Hid (w.alloc (.cells #[bv m.a, bv m.b, bv m.c, bv m.d, bv m.e, bv m.f] 38) = w0) := hw0.symm
  have Hn : Hid (NoneIs w0 (.pointer (some ⟨T, 0, none⟩)) false) := by rw [hw0]; exact none_alloc hn
  have hz0 : w0.heap.size = w.heap.size + 1 := by rw [hw0]; simp
  have HZ0 := Lib.hid hz0
  clear hn hM hT hk hf hw0 h hz0
  go_enter Try.func14, Try.ntmps14
  unfold Mac.v
  go_wp2_with (first
    | (go_at_call 30; rw [HW.out]; refine (none_any _ _ _ Hn.out).mono ?_; rintro e w1 ⟨rfl, rfl⟩))
  have Hd : Hid (Below w1.heap.size w1 w1.drew) := (Below.refl _ _).drew
  have HTw : Hid (∀ W, Below w1.heap.size w1 W → W.cell? ⟨T, 0, none⟩ = some (.map (some M))) := fun W h => cell_below HT.out (HB0.out.trans (h.mono HB0.out.size))
  have HCw : Hid (∀ W, Below w1.heap.size w1 W → W.heap[w.heap.size]? = some (.cells #[bv m.a, bv m.b, bv m.c, bv m.d, bv m.e, bv m.f] 38 (0, 0))) := fun W h => (h.block _ (by have := HZ0.out; omega)).trans HC0.out
  have HMw : Hid (∀ W, Below w1.heap.size w1 W → MapAt W M f) := fun W h => map_below HM.out (HB0.out.trans (h.mono HB0.out.size))
  refine rn_begin w1.heap.size (by kernel_rfl) ?_
  refine rn_take (i := 0) rfl (by kernel_rfl) (by kernel_rfl) (by kernel_rfl) (fun _ _ _ h => h) (by rfl) (v := .pointer (some ⟨T, 0, none⟩)) (by intro W _; go_simp) ?_
  simp only [Act.put, List.setIfInBounds_toArray, List.set_cons_zero, List.set_cons_succ]
  refine rn_take (i := 1) rfl (by kernel_rfl) (by kernel_rfl) (by kernel_rfl) (fun _ _ _ h => h) (by rfl) (v := .pointer (some ⟨T, 0, none⟩)) (by intro W _; go_simp) ?_
  simp only [Act.put, List.setIfInBounds_toArray, List.set_cons_zero, List.set_cons_succ]
  refine rn_take (i := 2) rfl (by kernel_rfl) (by kernel_rfl) (by kernel_rfl) (fun _ _ _ h => h) (by rfl) (v := .pointer (some ⟨T, 0, none⟩)) (by intro W _; go_simp) ?_
  simp only [Act.put, List.setIfInBounds_toArray, List.set_cons_zero, List.set_cons_succ]
  refine rn_take (i := 3) rfl (by kernel_rfl) (by kernel_rfl) (by kernel_rfl) (fun _ _ _ h => h) (by rfl) (v := .pointer (some ⟨T, 0, none⟩)) (by intro W _; go_simp) ?_
  simp only [Act.put, List.setIfInBounds_toArray, List.set_cons_zero, List.set_cons_succ]
  have hA := fun W (hW : Sn w1.heap.size w1.drew W) => HTw.out W (Hd.out.trans hW)
  refine rn_take (i := 4) rfl (by kernel_rfl) (by kernel_rfl) (by kernel_rfl) (fun _ _ _ h => h) (by rfl) (v := .map (some M)) (by intro W hW; go_simp) ?_
  simp only [Act.put, List.setIfInBounds_toArray, List.set_cons_zero, List.set_cons_succ]
  clear hA
  refine rn_take (i := 5) rfl (by kernel_rfl) (by kernel_rfl) (by kernel_rfl) (fun _ _ _ h => h) (by rfl) (v := m.v) (fun W hW => mac_load rfl (by rfl) (HCw.out W (Hd.out.trans hW))) ?_
  simp only [Act.put, List.setIfInBounds_toArray, List.set_cons_zero, List.set_cons_succ]
  refine rn_take (i := 6) rfl (by kernel_rfl) (by kernel_rfl) (by kernel_rfl) (fun _ _ _ h => h) (by rfl) (v := .agg #[kv, vv]) (fun W hW => by rw [← Hf.out]; exact exec_lookup rfl (by rfl) (by rfl) (HMw.out W (Hd.out.trans hW))) ?_
  simp only [Act.put, List.setIfInBounds_toArray, List.set_cons_zero, List.set_cons_succ]
  refine rn_take (i := 7) rfl (by kernel_rfl) (by kernel_rfl) (by kernel_rfl) (fun _ _ _ h => h) (by rfl) (v := kv) (by intro W _; have hf0 := run_field0 kv vv W; go_simp) ?_
  simp only [Act.put, List.setIfInBounds_toArray, List.set_cons_zero, List.set_cons_succ]
  have HBd : Hid (Below w.heap.size w w1.drew) := HB0.out.trans ⟨rfl, rfl, rfl, Nat.le_refl _, fun _ _ => rfl⟩
  have HCl := Lib.hid (clone_int kv (ofMac m L).length (((ofMac m L).map (·.id)).map iv) w1.drew (own_kept HK.out (kept_below HBd.out (fun _ => False)) (fun _ _ h => h)) (iv_one _) HL.out)
  refine rn_one (i := 8) (by kernel_rfl) ?_
  refine st_call (i := 8) rfl (by rfl) (f := 35) (args := #[kv]) (by go_simp) (HCl.out.mono ?_)
  rintro e w3 ⟨v, rfl, hb, ho⟩
  refine ⟨v, rfl, hb, ?_⟩
  have HB3 := Lib.hid hb
  have HO3 := Lib.hid ho
  clear hb ho
  simp only [Act.put, List.setIfInBounds_toArray, List.set_cons_zero, List.set_cons_succ]
  refine rn_take (i := 9) rfl (by kernel_rfl) (by kernel_rfl) (by kernel_rfl) (fun _ _ _ h => h) (by rfl) (v := v) (by intro W _; go_simp) ?_
  simp only [Act.put, List.setIfInBounds_toArray, List.set_cons_zero, List.set_cons_succ]
  refine rn_done (by kernel_rfl) ?_
  go_wp2
  have hb := HBd.out.trans (HB3.out.mono HBd.out.size)
  exact bodyPost_ret (v := v) (by simp [results, Try.results14, go_sem]) rfl ⟨v, rfl, hb, HO3.out.1, HO3.out.2.imp_right (by rintro ⟨g, cap, cur, h1, h2, h3⟩; exact ⟨g, cap, cur, h1, Nat.le_trans HBd.out.size h2, h3⟩)⟩
end Go.Proofs.Ytkifagflnpkkaaa
