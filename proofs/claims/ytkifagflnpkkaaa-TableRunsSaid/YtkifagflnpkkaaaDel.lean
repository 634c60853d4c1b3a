/- slices.Delete of one element of a row of its own. -/
import Derived.Test.YtkifagflnpkkaaaIns
namespace Go.Proofs.Ytkifagflnpkkaaa
set_option linter.unusedSimpArgs false
set_option linter.unusedVariables false
open Go.RowKit
set_option maxRecDepth 10000

theorem splice_delete (cur : Array Value) (xs z : List Value) (k1 k2 N P : Nat) (hx : cur.toList.take N = xs) (hN : N ≤ cur.size) (h12 : k1 ≤ k2) (h2 : k2 ≤ N) (hP : P = k1 + (N - k2)) :
    (splice (splice cur k1 (xs.drop k2)) P z).toList.take P = xs.take k1 ++ xs.drop k2 := by
  have hxl : xs.length = N := by rw [← hx, List.length_take, Array.length_toList]; omega
  have hk : (cur.toList.take k1) = xs.take k1 := by rw [← hx, List.take_take, Nat.min_eq_left (by omega)]
  have h1 : (splice cur k1 (xs.drop k2)).toList = xs.take k1 ++ xs.drop k2 ++ cur.toList.drop (k1 + (xs.drop k2).length) := by rw [splice_toList, hk]
  have hl : (xs.take k1 ++ xs.drop k2).length = P := by rw [List.length_append, List.length_take, List.length_drop, hxl]; omega
  rw [splice_toList, h1, List.take_left' hl, List.append_assoc]
  exact List.take_left' hl

set_option maxHeartbeats 4000000 in
theorem delete_int (g p cap : Nat) (xs : List Value) (i : Nat) (w : World) (hown : w.ownsRow 0 3 1 (.slice (some ⟨g, 0, none⟩) (p + 1) cap) (p + 1) xs) (hi : i ≤ p) (hn : p ≤ 100000) (h1 : ∀ u ∈ xs, u.oneCell' = true)
    (ys : List Value) (hys : ys = xs.take (i * 1) ++ xs.drop ((i + 1) * 1)) :
    Calls Try.prog 52 #[.slice (some ⟨g, 0, none⟩) (p + 1) cap, .int .i64 i, .int .i64 ((i : Int) + 1)] w fun e w' => e = .returned (.slice (some ⟨g, 0, none⟩) p cap) ∧ w'.ownsRow 0 3 1 (.slice (some ⟨g, 0, none⟩) p cap) p ys ∧ w.grownBy w' (some g) := by
  have hlen := hown.1
  have Hys := Lib.hid hys
  clear hys
  have hn' : (p : Int) ≤ 100000 := by omega
  have hi' : (i : Int) ≤ p := by omega
  rcases hown.2 with ⟨h, _⟩ | ⟨g', cap', cur, hv, -, hg, hnc, hcm, hcs, htk⟩
  · cases h
  · cases hv
    unfold maxLen at hcm
    have hcm' : (cap : Int) ≤ 9223372036854775807 := by omega
    have hnc' : (p : Int) + 1 ≤ cap := by omega
    have hb1 : (0 : Int) ≤ (i : Int) + 1 := by omega
    have htn : ((i : Int) + 1).toNat = i + 1 := by omega
    have hb3 : (i : Int) + 1 ≤ (p : Int) + 1 := by omega
    have hb4 : ¬ (cap = i) := by omega
    have hb5 : (i : Int) ≤ (p : Int) + 1 := by omega
    have hb6 : ¬ (cap = p) := by omega
    obtain ⟨k1, hk1⟩ : ∃ k, k = i * 1 := ⟨_, rfl⟩
    obtain ⟨k2, hk2⟩ : ∃ k, k = (i + 1) * 1 := ⟨_, rfl⟩
    rw [← hk1, ← hk2] at Hys
    have hi2 := Nat.mul_le_mul_right 1 (show i + 1 ≤ p + 1 by omega)
    have hcz := Nat.mul_le_mul_right 1 hnc
    have hdl : (xs.drop k2).length = (p - i) * 1 := by rw [List.length_drop, hlen, hk2, ← Nat.sub_mul]; congr 1; omega
    obtain ⟨j, hj, hz, hs, hby⟩ := el_int.ex
    have hzs : (Value.int .i64 0).cells.size = 1 := el_int.hzs
    have Happ : Hid (∀ ty (a : Addr) c, (a = ⟨g, i + 1, none⟩ ∨ p = i) → (Builtin.append_ #[43, 43] ty #[.slice (some ⟨g, 0, none⟩) i cap, .slice (some a) (p + 1 - (i + 1)) c]).run Try.prog w.drew = .ok (.slice (some ⟨g, 0, none⟩) p cap) (w.drew.setRow g (splice cur k1 (xs.drop k2)))) := fun ty a c ha => by
      have := run_append_room (P := Try.prog) w.drew 43 ty 3 j el_int.ht hj g i cap cur hg a (p + 1 - (i + 1)) c (xs.drop k2) (by rw [hdl, hs]; congr 1; omega) (fun q u hu => by
        rcases ha with rfl | rfl
        · exact row_read (w := w.drew) hg htk (i + 1) k2 (by omega) q u hu
        · have : xs.drop k2 = [] := List.eq_nil_of_length_eq_zero (by rw [hdl]; simp)
          rw [this] at hu; simp at hu) (fun u hu => h1 u (List.mem_of_mem_drop hu)) (by omega) (by rw [hs, hdl, hcs, ← Nat.add_mul]; exact Nat.mul_le_mul_right _ (by omega))
      rw [show i + (p + 1 - (i + 1)) = p by omega, hs, ← hk1] at this
      exact this
    obtain ⟨w2, hw2⟩ : ∃ w2, w2 = w.drew.setRow g (splice cur k1 (xs.drop k2)) := ⟨_, rfl⟩
    have hsz2 : (splice cur k1 (xs.drop k2)).size = cap * 1 := by rw [splice_size _ _ _ (by rw [hdl, hcs, hk1, ← Nat.add_mul]; exact Nat.mul_le_mul_right _ (by omega)), hcs]
    have hg2 : w2.heap[g]? = some (.cells (splice cur k1 (xs.drop k2)) 3 (0, 0)) := by rw [hw2]; exact setRow_heap w.drew g _ _ _ _ hg
    have hzl : (Builtin.zeroCells (Value.int .i64 0).cells 1).toList.length = 1 := by rw [Array.length_toList, size_zeroCells, hzs]
    have Hclr : Hid (∀ ty, (Builtin.clear_ #[43] ty #[.slice (some ⟨g, p, none⟩) 1 (cap - p)]).run Try.prog w2 = .ok (.tuple #[]) (w2.setRow g (splice (splice cur k1 (xs.drop k2)) (p) (Builtin.zeroCells (Value.int .i64 0).cells 1).toList))) := fun ty =>
      run_clear_at w2 43 ty 3 j _ el_int.ht hj hz g (p) 1 _ _ hg2 (by decide) (by decide +kernel) (by rw [size_zeroCells, hzs, hsz2]; omega)
    have HO : Hid ((w2.setRow g (splice (splice cur k1 (xs.drop k2)) (p) (Builtin.zeroCells (Value.int .i64 0).cells 1).toList)).ownsRow 0 3 1 (.slice (some ⟨g, 0, none⟩) p cap) p ys) := by
      refine ⟨?_, .inr ⟨g, cap, _, rfl, Nat.zero_le _, setRow_heap w2 g _ _ _ _ hg2, by omega, by unfold maxLen; omega, ?_, ?_⟩⟩
      · rw [Hys.out, List.length_append, List.length_take, hdl, hlen, Nat.sub_mul]; omega
      · rw [splice_size _ _ _ (by rw [hzl, hsz2]; omega), hsz2]
      · rw [Hys.out]
        have e : p = p * 1 := by omega
        rw [← e]
        exact splice_delete cur xs _ k1 k2 ((p + 1) * 1) (p) htk (by rw [hcs]; omega) (by omega) (by omega) (by omega)
    have HGr : Hid (w.grownBy (w2.setRow g (splice (splice cur k1 (xs.drop k2)) (p) (Builtin.zeroCells (Value.int .i64 0).cells 1).toList)) (some g)) := by
      rw [hw2]
      refine ⟨rfl, rfl, rfl, by simp, fun q _ hq => ?_⟩
      have hqg : q ≠ g := fun e => hq (by rw [e])
      rw [setRow_other _ g q _ hqg, setRow_other _ g q _ hqg]; rfl
    rw [← hw2] at Happ
    generalize hW4 : w2.setRow g (splice (splice cur k1 (xs.drop k2)) (p) (Builtin.zeroCells (Value.int .i64 0).cells 1).toList) = w4 at *
    clear hW4 hw2 hg2 hsz2 hzl hzs hz hj hs hby hcs htk hg hown hk1 hk2 hdl hi2 hcz
    by_cases hc : cap = i + 1
    · obtain rfl : p = i := by omega
      clear hi hi' hb3 hb5 hn hb4 hb6
      have hc' : (cap : Int) = (p : Int) + 1 := by omega
      have hc2 : (cap = p + 1) = True := by simp [hc]
      have hb7 : (p : Int) ≤ (p : Int) + 1 := by omega
      clear hc hnc' hnc hcm
      go_enter Try.func52, Try.ntmps52
      go_wp2
      refine rs_begin (fun _ => True) (by kernel_rfl) ?_
      refine rs_take (i := 0) rfl (by kernel_rfl) (by kernel_rfl) (by kernel_rfl) (fun _ _ _ h => h) (by rfl) trivial (v := ?_) ?_ ?_
      rotate_left 1
      · intro W _; go_simp; all_goals with_reducible rfl
      simp only [Act.put, List.setIfInBounds_toArray, List.set_cons_zero, List.set_cons_succ]
      refine rs_take (i := 1) rfl (by kernel_rfl) (by kernel_rfl) (by kernel_rfl) (fun _ _ _ h => h) (by rfl) trivial (v := ?_) ?_ ?_
      rotate_left 1
      · intro W _; go_simp; all_goals with_reducible rfl
      simp only [Act.put, List.setIfInBounds_toArray, List.set_cons_zero, List.set_cons_succ]
      refine rs_take (i := 2) rfl (by kernel_rfl) (by kernel_rfl) (by kernel_rfl) (fun _ _ _ h => h) (by rfl) trivial (v := ?_) ?_ ?_
      rotate_left 1
      · intro W _; go_simp; all_goals with_reducible rfl
      simp only [Act.put, List.setIfInBounds_toArray, List.set_cons_zero, List.set_cons_succ]
      refine rs_take (i := 3) rfl (by kernel_rfl) (by kernel_rfl) (by kernel_rfl) (fun _ _ _ h => h) (by rfl) trivial (v := ?_) ?_ ?_
      rotate_left 1
      · intro W _; go_simp; all_goals with_reducible rfl
      simp only [Act.put, List.setIfInBounds_toArray, List.set_cons_zero, List.set_cons_succ]
      refine rs_take (i := 4) rfl (by kernel_rfl) (by kernel_rfl) (by kernel_rfl) (fun _ _ _ h => h) (by rfl) trivial (v := ?_) ?_ ?_
      rotate_left 1
      · intro W _; go_simp; all_goals with_reducible rfl
      simp only [Act.put, List.setIfInBounds_toArray, List.set_cons_zero, List.set_cons_succ]
      refine rs_take (i := 5) rfl (by kernel_rfl) (by kernel_rfl) (by kernel_rfl) (fun _ _ _ h => h) (by rfl) trivial (v := ?_) ?_ ?_
      rotate_left 1
      · intro W _; go_simp; all_goals with_reducible rfl
      simp only [Act.put, List.setIfInBounds_toArray, List.set_cons_zero, List.set_cons_succ]
      refine rs_make (i := 6) (by kernel_rfl) rfl (by rfl) (exec_builtin_append _ _ _ _ rfl (by simp [Act.eval]) (by simp [Act.eval]; try rfl) (Happ.out _ ⟨g, 0, none⟩ (cap - (p + 1)) (.inr (by trivial)))) trivial ?_
      simp only [Act.put, List.setIfInBounds_toArray, List.set_cons_zero, List.set_cons_succ]
      refine rs_take (i := 7) rfl (by kernel_rfl) (by kernel_rfl) (by kernel_rfl) (fun _ _ _ h => h) (by rfl) trivial (v := .slice (some ⟨g, 0, none⟩) p cap) (by intro W _; go_simp) ?_
      simp only [Act.put, List.setIfInBounds_toArray, List.set_cons_zero, List.set_cons_succ]
      refine rs_done (by kernel_rfl) ?_
      go_wp2_with (simp only [Hclr.out])
      exact bodyPost_ret (v := .slice (some ⟨g, 0, none⟩) p cap) (by simp [results, Try.results52, go_sem]) rfl ⟨rfl, HO.out, HGr.out⟩
    · have hle : i ≤ cap := by omega
      go_enter Try.func52, Try.ntmps52
      go_wp2
      refine rs_begin (fun _ => True) (by kernel_rfl) ?_
      refine rs_take (i := 0) rfl (by kernel_rfl) (by kernel_rfl) (by kernel_rfl) (fun _ _ _ h => h) (by rfl) trivial (v := ?_) ?_ ?_
      rotate_left 1
      · intro W _; go_simp; all_goals with_reducible rfl
      simp only [Act.put, List.setIfInBounds_toArray, List.set_cons_zero, List.set_cons_succ]
      refine rs_take (i := 1) rfl (by kernel_rfl) (by kernel_rfl) (by kernel_rfl) (fun _ _ _ h => h) (by rfl) trivial (v := ?_) ?_ ?_
      rotate_left 1
      · intro W _; go_simp; all_goals with_reducible rfl
      simp only [Act.put, List.setIfInBounds_toArray, List.set_cons_zero, List.set_cons_succ]
      refine rs_take (i := 2) rfl (by kernel_rfl) (by kernel_rfl) (by kernel_rfl) (fun _ _ _ h => h) (by rfl) trivial (v := ?_) ?_ ?_
      rotate_left 1
      · intro W _; go_simp; all_goals with_reducible rfl
      simp only [Act.put, List.setIfInBounds_toArray, List.set_cons_zero, List.set_cons_succ]
      refine rs_take (i := 3) rfl (by kernel_rfl) (by kernel_rfl) (by kernel_rfl) (fun _ _ _ h => h) (by rfl) trivial (v := ?_) ?_ ?_
      rotate_left 1
      · intro W _; go_simp; all_goals with_reducible rfl
      simp only [Act.put, List.setIfInBounds_toArray, List.set_cons_zero, List.set_cons_succ]
      refine rs_take (i := 4) rfl (by kernel_rfl) (by kernel_rfl) (by kernel_rfl) (fun _ _ _ h => h) (by rfl) trivial (v := ?_) ?_ ?_
      rotate_left 1
      · intro W _; go_simp; all_goals with_reducible rfl
      simp only [Act.put, List.setIfInBounds_toArray, List.set_cons_zero, List.set_cons_succ]
      refine rs_take (i := 5) rfl (by kernel_rfl) (by kernel_rfl) (by kernel_rfl) (fun _ _ _ h => h) (by rfl) trivial (v := ?_) ?_ ?_
      rotate_left 1
      · intro W _; go_simp; all_goals with_reducible rfl
      simp only [Act.put, List.setIfInBounds_toArray, List.set_cons_zero, List.set_cons_succ]
      refine rs_make (i := 6) (by kernel_rfl) rfl (by rfl) (exec_builtin_append _ _ _ _ rfl (by simp [Act.eval]) (by simp [Act.eval]; try rfl) (Happ.out _ ⟨g, i + 1, none⟩ (cap - (i + 1)) (.inl rfl))) trivial ?_
      simp only [Act.put, List.setIfInBounds_toArray, List.set_cons_zero, List.set_cons_succ]
      refine rs_take (i := 7) rfl (by kernel_rfl) (by kernel_rfl) (by kernel_rfl) (fun _ _ _ h => h) (by rfl) trivial (v := .slice (some ⟨g, 0, none⟩) p cap) (by intro W _; go_simp) ?_
      simp only [Act.put, List.setIfInBounds_toArray, List.set_cons_zero, List.set_cons_succ]
      refine rs_done (by kernel_rfl) ?_
      go_wp2_with (simp only [Hclr.out])
      exact bodyPost_ret (v := .slice (some ⟨g, 0, none⟩) p cap) (by simp [results, Try.results52, go_sem]) rfl ⟨rfl, HO.out, HGr.out⟩

set_option maxHeartbeats 4000000 in
theorem delete_ent (g p cap : Nat) (xs : List Value) (i : Nat) (w : World) (hown : w.ownsRow 0 40 8 (.slice (some ⟨g, 0, none⟩) (p + 1) cap) (p + 1) xs) (hi : i ≤ p) (hn : p ≤ 100000) (h1 : ∀ u ∈ xs, u.oneCell' = true)
    (ys : List Value) (hys : ys = xs.take (i * 8) ++ xs.drop ((i + 1) * 8)) :
    Calls Try.prog 53 #[.slice (some ⟨g, 0, none⟩) (p + 1) cap, .int .i64 i, .int .i64 ((i : Int) + 1)] w fun e w' => e = .returned (.slice (some ⟨g, 0, none⟩) p cap) ∧ w'.ownsRow 0 40 8 (.slice (some ⟨g, 0, none⟩) p cap) p ys ∧ w.grownBy w' (some g) := by
  have hlen := hown.1
  have Hys := Lib.hid hys
  clear hys
  have hn' : (p : Int) ≤ 100000 := by omega
  have hi' : (i : Int) ≤ p := by omega
  rcases hown.2 with ⟨h, _⟩ | ⟨g', cap', cur, hv, -, hg, hnc, hcm, hcs, htk⟩
  · cases h
  · cases hv
    unfold maxLen at hcm
    have hcm' : (cap : Int) ≤ 9223372036854775807 := by omega
    have hnc' : (p : Int) + 1 ≤ cap := by omega
    have hb1 : (0 : Int) ≤ (i : Int) + 1 := by omega
    have htn : ((i : Int) + 1).toNat = i + 1 := by omega
    have hb3 : (i : Int) + 1 ≤ (p : Int) + 1 := by omega
    have hb4 : ¬ (cap = i) := by omega
    have hb5 : (i : Int) ≤ (p : Int) + 1 := by omega
    have hb6 : ¬ (cap = p) := by omega
    obtain ⟨k1, hk1⟩ : ∃ k, k = i * 8 := ⟨_, rfl⟩
    obtain ⟨k2, hk2⟩ : ∃ k, k = (i + 1) * 8 := ⟨_, rfl⟩
    rw [← hk1, ← hk2] at Hys
    have hi2 := Nat.mul_le_mul_right 8 (show i + 1 ≤ p + 1 by omega)
    have hcz := Nat.mul_le_mul_right 8 hnc
    have hdl : (xs.drop k2).length = (p - i) * 8 := by rw [List.length_drop, hlen, hk2, ← Nat.sub_mul]; congr 1; omega
    obtain ⟨j, hj, hz, hs, hby⟩ := el_ent.ex
    have hzs : (Value.agg #[.int .i64 0, .int .u8 0, .int .u8 0, .int .u8 0, .int .u8 0, .int .u8 0, .int .u8 0, .int .i64 0]).cells.size = 8 := el_ent.hzs
    have Happ : Hid (∀ ty (a : Addr) c, (a = ⟨g, (i + 1) * 8, none⟩ ∨ p = i) → (Builtin.append_ #[22, 22] ty #[.slice (some ⟨g, 0, none⟩) i cap, .slice (some a) (p + 1 - (i + 1)) c]).run Try.prog w.drew = .ok (.slice (some ⟨g, 0, none⟩) p cap) (w.drew.setRow g (splice cur k1 (xs.drop k2)))) := fun ty a c ha => by
      have := run_append_room (P := Try.prog) w.drew 22 ty 40 j el_ent.ht hj g i cap cur hg a (p + 1 - (i + 1)) c (xs.drop k2) (by rw [hdl, hs]; congr 1; omega) (fun q u hu => by
        rcases ha with rfl | rfl
        · exact row_read (w := w.drew) hg htk ((i + 1) * 8) k2 (by omega) q u hu
        · have : xs.drop k2 = [] := List.eq_nil_of_length_eq_zero (by rw [hdl]; simp)
          rw [this] at hu; simp at hu) (fun u hu => h1 u (List.mem_of_mem_drop hu)) (by omega) (by rw [hs, hdl, hcs, ← Nat.add_mul]; exact Nat.mul_le_mul_right _ (by omega))
      rw [show i + (p + 1 - (i + 1)) = p by omega, hs, ← hk1] at this
      exact this
    obtain ⟨w2, hw2⟩ : ∃ w2, w2 = w.drew.setRow g (splice cur k1 (xs.drop k2)) := ⟨_, rfl⟩
    have hsz2 : (splice cur k1 (xs.drop k2)).size = cap * 8 := by rw [splice_size _ _ _ (by rw [hdl, hcs, hk1, ← Nat.add_mul]; exact Nat.mul_le_mul_right _ (by omega)), hcs]
    have hg2 : w2.heap[g]? = some (.cells (splice cur k1 (xs.drop k2)) 40 (0, 0)) := by rw [hw2]; exact setRow_heap w.drew g _ _ _ _ hg
    have hzl : (Builtin.zeroCells (Value.agg #[.int .i64 0, .int .u8 0, .int .u8 0, .int .u8 0, .int .u8 0, .int .u8 0, .int .u8 0, .int .i64 0]).cells 1).toList.length = 8 := by rw [Array.length_toList, size_zeroCells, hzs]
    have Hclr : Hid (∀ ty, (Builtin.clear_ #[22] ty #[.slice (some ⟨g, p * 8, none⟩) 1 (cap - p)]).run Try.prog w2 = .ok (.tuple #[]) (w2.setRow g (splice (splice cur k1 (xs.drop k2)) (p * 8) (Builtin.zeroCells (Value.agg #[.int .i64 0, .int .u8 0, .int .u8 0, .int .u8 0, .int .u8 0, .int .u8 0, .int .u8 0, .int .i64 0]).cells 1).toList))) := fun ty =>
      run_clear_at w2 22 ty 40 j _ el_ent.ht hj hz g (p * 8) 1 _ _ hg2 (by decide) (by decide +kernel) (by rw [size_zeroCells, hzs, hsz2]; omega)
    have HO : Hid ((w2.setRow g (splice (splice cur k1 (xs.drop k2)) (p * 8) (Builtin.zeroCells (Value.agg #[.int .i64 0, .int .u8 0, .int .u8 0, .int .u8 0, .int .u8 0, .int .u8 0, .int .u8 0, .int .i64 0]).cells 1).toList)).ownsRow 0 40 8 (.slice (some ⟨g, 0, none⟩) p cap) p ys) := by
      refine ⟨?_, .inr ⟨g, cap, _, rfl, Nat.zero_le _, setRow_heap w2 g _ _ _ _ hg2, by omega, by unfold maxLen; omega, ?_, ?_⟩⟩
      · rw [Hys.out, List.length_append, List.length_take, hdl, hlen, Nat.sub_mul]; omega
      · rw [splice_size _ _ _ (by rw [hzl, hsz2]; omega), hsz2]
      · rw [Hys.out]
        have e : p * 8 = p * 8 := by omega
        rw [← e]
        exact splice_delete cur xs _ k1 k2 ((p + 1) * 8) (p * 8) htk (by rw [hcs]; omega) (by omega) (by omega) (by omega)
    have HGr : Hid (w.grownBy (w2.setRow g (splice (splice cur k1 (xs.drop k2)) (p * 8) (Builtin.zeroCells (Value.agg #[.int .i64 0, .int .u8 0, .int .u8 0, .int .u8 0, .int .u8 0, .int .u8 0, .int .u8 0, .int .i64 0]).cells 1).toList)) (some g)) := by
      rw [hw2]
      refine ⟨rfl, rfl, rfl, by simp, fun q _ hq => ?_⟩
      have hqg : q ≠ g := fun e => hq (by rw [e])
      rw [setRow_other _ g q _ hqg, setRow_other _ g q _ hqg]; rfl
    rw [← hw2] at Happ
    generalize hW4 : w2.setRow g (splice (splice cur k1 (xs.drop k2)) (p * 8) (Builtin.zeroCells (Value.agg #[.int .i64 0, .int .u8 0, .int .u8 0, .int .u8 0, .int .u8 0, .int .u8 0, .int .u8 0, .int .i64 0]).cells 1).toList) = w4 at *
    clear hW4 hw2 hg2 hsz2 hzl hzs hz hj hs hby hcs htk hg hown hk1 hk2 hdl hi2 hcz
    by_cases hc : cap = i + 1
    · obtain rfl : p = i := by omega
      clear hi hi' hb3 hb5 hn hb4 hb6
      have hc' : (cap : Int) = (p : Int) + 1 := by omega
      have hc2 : (cap = p + 1) = True := by simp [hc]
      have hb7 : (p : Int) ≤ (p : Int) + 1 := by omega
      clear hc hnc' hnc hcm
      go_enter Try.func53, Try.ntmps53
      go_wp2
      refine rs_begin (fun _ => True) (by kernel_rfl) ?_
      refine rs_take (i := 0) rfl (by kernel_rfl) (by kernel_rfl) (by kernel_rfl) (fun _ _ _ h => h) (by rfl) trivial (v := ?_) ?_ ?_
      rotate_left 1
      · intro W _; go_simp; all_goals with_reducible rfl
      simp only [Act.put, List.setIfInBounds_toArray, List.set_cons_zero, List.set_cons_succ]
      refine rs_take (i := 1) rfl (by kernel_rfl) (by kernel_rfl) (by kernel_rfl) (fun _ _ _ h => h) (by rfl) trivial (v := ?_) ?_ ?_
      rotate_left 1
      · intro W _; go_simp; all_goals with_reducible rfl
      simp only [Act.put, List.setIfInBounds_toArray, List.set_cons_zero, List.set_cons_succ]
      refine rs_take (i := 2) rfl (by kernel_rfl) (by kernel_rfl) (by kernel_rfl) (fun _ _ _ h => h) (by rfl) trivial (v := ?_) ?_ ?_
      rotate_left 1
      · intro W _; go_simp; all_goals with_reducible rfl
      simp only [Act.put, List.setIfInBounds_toArray, List.set_cons_zero, List.set_cons_succ]
      refine rs_take (i := 3) rfl (by kernel_rfl) (by kernel_rfl) (by kernel_rfl) (fun _ _ _ h => h) (by rfl) trivial (v := ?_) ?_ ?_
      rotate_left 1
      · intro W _; go_simp; all_goals with_reducible rfl
      simp only [Act.put, List.setIfInBounds_toArray, List.set_cons_zero, List.set_cons_succ]
      refine rs_take (i := 4) rfl (by kernel_rfl) (by kernel_rfl) (by kernel_rfl) (fun _ _ _ h => h) (by rfl) trivial (v := ?_) ?_ ?_
      rotate_left 1
      · intro W _; go_simp; all_goals with_reducible rfl
      simp only [Act.put, List.setIfInBounds_toArray, List.set_cons_zero, List.set_cons_succ]
      refine rs_take (i := 5) rfl (by kernel_rfl) (by kernel_rfl) (by kernel_rfl) (fun _ _ _ h => h) (by rfl) trivial (v := ?_) ?_ ?_
      rotate_left 1
      · intro W _; go_simp; all_goals with_reducible rfl
      simp only [Act.put, List.setIfInBounds_toArray, List.set_cons_zero, List.set_cons_succ]
      refine rs_make (i := 6) (by kernel_rfl) rfl (by rfl) (exec_builtin_append _ _ _ _ rfl (by simp [Act.eval]) (by simp [Act.eval]; try rfl) (Happ.out _ ⟨g, 0, none⟩ (cap - (p + 1)) (.inr (by trivial)))) trivial ?_
      simp only [Act.put, List.setIfInBounds_toArray, List.set_cons_zero, List.set_cons_succ]
      refine rs_take (i := 7) rfl (by kernel_rfl) (by kernel_rfl) (by kernel_rfl) (fun _ _ _ h => h) (by rfl) trivial (v := .slice (some ⟨g, 0, none⟩) p cap) (by intro W _; go_simp) ?_
      simp only [Act.put, List.setIfInBounds_toArray, List.set_cons_zero, List.set_cons_succ]
      refine rs_done (by kernel_rfl) ?_
      go_wp2_with (simp only [Hclr.out])
      exact bodyPost_ret (v := .slice (some ⟨g, 0, none⟩) p cap) (by simp [results, Try.results53, go_sem]) rfl ⟨rfl, HO.out, HGr.out⟩
    · have hle : i ≤ cap := by omega
      go_enter Try.func53, Try.ntmps53
      go_wp2
      refine rs_begin (fun _ => True) (by kernel_rfl) ?_
      refine rs_take (i := 0) rfl (by kernel_rfl) (by kernel_rfl) (by kernel_rfl) (fun _ _ _ h => h) (by rfl) trivial (v := ?_) ?_ ?_
      rotate_left 1
      · intro W _; go_simp; all_goals with_reducible rfl
      simp only [Act.put, List.setIfInBounds_toArray, List.set_cons_zero, List.set_cons_succ]
      refine rs_take (i := 1) rfl (by kernel_rfl) (by kernel_rfl) (by kernel_rfl) (fun _ _ _ h => h) (by rfl) trivial (v := ?_) ?_ ?_
      rotate_left 1
      · intro W _; go_simp; all_goals with_reducible rfl
      simp only [Act.put, List.setIfInBounds_toArray, List.set_cons_zero, List.set_cons_succ]
      refine rs_take (i := 2) rfl (by kernel_rfl) (by kernel_rfl) (by kernel_rfl) (fun _ _ _ h => h) (by rfl) trivial (v := ?_) ?_ ?_
      rotate_left 1
      · intro W _; go_simp; all_goals with_reducible rfl
      simp only [Act.put, List.setIfInBounds_toArray, List.set_cons_zero, List.set_cons_succ]
      refine rs_take (i := 3) rfl (by kernel_rfl) (by kernel_rfl) (by kernel_rfl) (fun _ _ _ h => h) (by rfl) trivial (v := ?_) ?_ ?_
      rotate_left 1
      · intro W _; go_simp; all_goals with_reducible rfl
      simp only [Act.put, List.setIfInBounds_toArray, List.set_cons_zero, List.set_cons_succ]
      refine rs_take (i := 4) rfl (by kernel_rfl) (by kernel_rfl) (by kernel_rfl) (fun _ _ _ h => h) (by rfl) trivial (v := ?_) ?_ ?_
      rotate_left 1
      · intro W _; go_simp; all_goals with_reducible rfl
      simp only [Act.put, List.setIfInBounds_toArray, List.set_cons_zero, List.set_cons_succ]
      refine rs_take (i := 5) rfl (by kernel_rfl) (by kernel_rfl) (by kernel_rfl) (fun _ _ _ h => h) (by rfl) trivial (v := ?_) ?_ ?_
      rotate_left 1
      · intro W _; go_simp; all_goals with_reducible rfl
      simp only [Act.put, List.setIfInBounds_toArray, List.set_cons_zero, List.set_cons_succ]
      refine rs_make (i := 6) (by kernel_rfl) rfl (by rfl) (exec_builtin_append _ _ _ _ rfl (by simp [Act.eval]) (by simp [Act.eval]; try rfl) (Happ.out _ ⟨g, (i + 1) * 8, none⟩ (cap - (i + 1)) (.inl rfl))) trivial ?_
      simp only [Act.put, List.setIfInBounds_toArray, List.set_cons_zero, List.set_cons_succ]
      refine rs_take (i := 7) rfl (by kernel_rfl) (by kernel_rfl) (by kernel_rfl) (fun _ _ _ h => h) (by rfl) trivial (v := .slice (some ⟨g, 0, none⟩) p cap) (by intro W _; go_simp) ?_
      simp only [Act.put, List.setIfInBounds_toArray, List.set_cons_zero, List.set_cons_succ]
      refine rs_done (by kernel_rfl) ?_
      go_wp2_with (simp only [Hclr.out])
      exact bodyPost_ret (v := .slice (some ⟨g, 0, none⟩) p cap) (by simp [results, Try.results53, go_sem]) rfl ⟨rfl, HO.out, HGr.out⟩
end Go.Proofs.Ytkifagflnpkkaaa
