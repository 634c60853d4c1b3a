/- slices.Insert of one element into a row of its own. -/
import Derived.Test.YtkifagflnpkkaaaRow
import Derived.Test.YtkifagflnpkkaaaRg2
namespace Go.Proofs.Ytkifagflnpkkaaa
set_option linter.unusedSimpArgs false
set_option linter.unusedVariables false
open Go.RowKit
set_option maxRecDepth 10000

def Lies (w : World) (v v' : Value) : Prop := v'.ownBlock = v.ownBlock ∨ ∃ g, v'.ownBlock = some g ∧ w.heap.size ≤ g
theorem el_int : ElemOf Try.prog 43 3 1 8 (.int .i64 0) := ⟨by kernel_rfl, ⟨_, rfl, rfl, rfl, rfl⟩, rfl, by decide, by decide⟩
theorem el_ent : ElemOf Try.prog 22 40 8 24 (.agg #[.int .i64 0, .int .u8 0, .int .u8 0, .int .u8 0, .int .u8 0, .int .u8 0, .int .u8 0, .int .i64 0]) := ⟨by kernel_rfl, ⟨_, rfl, rfl, rfl, rfl⟩, rfl, by decide, by decide⟩

set_option maxHeartbeats 4000000 in
theorem insert_int (v : Value) (n : Nat) (xs : List Value) (i : Nat) (vb : Nat) (vs : List Value) (w : World) (hown : w.ownsRow 0 3 1 v n xs) (hi : i ≤ n) (hn : n ≤ 100000) (hvl : vs.length = 1)
    (hvb : w.heap[vb]? = some (.cells vs.toArray 3 (0, 0))) (hne : v.ownBlock ≠ some vb) (h1 : ∀ u ∈ xs, u.oneCell' = true) (h1v : ∀ u ∈ vs, u.oneCell' = true)
    (ys : List Value) (hys : ys = xs.take (i * 1) ++ vs ++ xs.drop (i * 1)) :
    Calls Try.prog 55 #[v, .int .i64 i, .slice (some ⟨vb, 0, none⟩) 1 1] w fun e w' => ∃ v', e = .returned v' ∧ w'.ownsRow 0 3 1 v' (n + 1) ys ∧ w.grownBy w' v.ownBlock ∧ Lies w v v' := by
  have hlen := hown.1
  have Hys := Lib.hid hys
  clear hys
  have Hown := Lib.hid hown
  have Hnews := Lib.hid (World.news_of_block hvb)
  rw [List.toList_toArray] at Hnews
  have H1v := Lib.hid h1v
  have hn' : (n : Int) ≤ 100000 := by omega
  have hi' : (i : Int) ≤ n := by omega
  rcases Nat.lt_or_eq_of_le hi with hlt | rfl
  · rcases hown.2 with ⟨rfl, rfl⟩ | ⟨g, cap, cur, rfl, -, hg, hnc, hcm, hcs, htk⟩
    · omega
    · have hne' : vb ≠ g := fun e => hne (by rw [e]; rfl)
      have hlt' : (i : Int) < n := by omega
      have Hg := Lib.hid hg
      have Hvb := Lib.hid hvb
      have Hcs := Lib.hid hcs
      have Htk := Lib.hid htk
      unfold maxLen at hcm
      have hcm' : (cap : Int) ≤ 9223372036854775807 := by omega
      have Hov : Hid (∀ o lb cb, (callFunc 61 #[.slice (some ⟨vb, 0, none⟩) 1 1, .slice (some ⟨g, o, none⟩) lb cb]).run Try.prog w = .ok (.value (.bool false)) w) := fun o lb cb => by
        have hc0 : cur.size ≠ 0 := by rw [hcs]; omega
        rw [run_callFunc_extern Try.func61 (by kernel_rfl) (by kernel_rfl) (by kernel_rfl) (e := Extern.SlicesOverlaps.overlaps #[43, 43] #[4]) (by kernel_rfl),
          Lib.run_overlaps_apart w 43 4 3 el_int.ht 1 (fun w => by obtain ⟨j, hj, _, hs, _⟩ := el_int.ex; simp [sizeOf, typeInfo, hj, hs]) ⟨vb, 0, none⟩ ⟨g, o, none⟩ 1 1 lb cb hne' 3 3 vs.toArray.size cur.size (by simp [World.shape?, hvb]) (by simp [World.shape?, hg]) hc0 (frozen_of_row w vb 0 _ _ hvb) (frozen_of_row w vb _ _ _ hvb)]
        rfl
      clear hown hg hvb hcs htk
      by_cases hroom : n + 1 ≤ cap
      · have hroom' : (n : Int) + 1 ≤ cap := by omega
        have hw1 : IntKind.i64.wrap ((i : Int) + 1) = (i : Int) + 1 := by rw [IntKind.wrap_i64]; omega
        have hb1 : (0 : Int) ≤ (i : Int) + 1 := by omega
        have htn : ((i : Int) + 1).toNat = i + 1 := by omega
        have hb2 : ¬ (cap = i + 1) := by omega
        have hb3 : (i : Int) + 1 ≤ (n : Int) + 1 := by omega
        have hb4 : ¬ (cap = i) := by omega
        have hb5 : (i : Int) ≤ (n : Int) + 1 := by omega
        obtain ⟨k, hk⟩ : ∃ k, k = i * 1 := ⟨_, rfl⟩
        rw [← hk] at Hys
        have hiz := Nat.mul_le_mul_right 1 hi
        have hcz := Nat.mul_le_mul_right 1 hroom
        have hdl : (xs.drop k).length = (n - i) * 1 := by rw [List.length_drop, hlen, hk, Nat.sub_mul]
        have Hcp1 : Hid (∀ ty, (Builtin.copy_ #[43, 43] ty #[.slice (some ⟨g, i + 1, none⟩) (n + 1 - (i + 1)) (cap - (i + 1)), .slice (some ⟨g, i, none⟩) (n + 1 - i) (cap - i)]).run Try.prog w.drew = .ok (goInt (Nat.min (n + 1 - i) (n + 1 - (i + 1)))) (w.drew.setRow g (splice cur (i + 1) (xs.drop k)))) := fun ty => by
          obtain ⟨j, hj, _, hs, _⟩ := el_int.ex
          have hm : Nat.min (n + 1 - i) (n + 1 - (i + 1)) = n - i := by show min (n + 1 - i) (n + 1 - (i + 1)) = n - i; omega
          exact run_copy_at w.drew _ _ ty _ j el_int.ht hj g (i + 1) _ _ cur Hg.out ⟨g, i, none⟩ _ _ (xs.drop k) (by rw [hdl, hs, hm]) (row_read Hg.out Htk.out (i) k (by omega)) (fun u hu => h1 u (List.mem_of_mem_drop hu)) (by rw [hdl, Hcs.out]; omega)
        have hsz1 : (splice cur (i + 1) (xs.drop k)).size = cap * 1 := by rw [splice_size _ _ _ (by rw [hdl, Hcs.out]; omega), Hcs.out]
        have Hg1 : Hid ((w.drew.setRow g (splice cur (i + 1) (xs.drop k))).heap[g]? = some (.cells (splice cur (i + 1) (xs.drop k)) 3 (0, 0))) := setRow_heap w.drew g _ _ _ _ Hg.out
        have Hcp2 : Hid (∀ ty, (Builtin.copy_ #[43, 43] ty #[.slice (some ⟨g, i, none⟩) (n + 1 - i) (cap - i), .slice (some ⟨vb, 0, none⟩) 1 1]).run Try.prog (w.drew.setRow g (splice cur (i + 1) (xs.drop k))) = .ok (goInt (Nat.min 1 (n + 1 - i))) ((w.drew.setRow g (splice cur (i + 1) (xs.drop k))).setRow g (splice (splice cur (i + 1) (xs.drop k)) (i) vs))) := fun ty => by
          obtain ⟨j, hj, _, hs, _⟩ := el_int.ex
          have hm : Nat.min 1 (n + 1 - i) = 1 := by show min 1 (n + 1 - i) = 1; omega
          exact run_copy_at _ _ _ ty _ j el_int.ht hj g (i) _ _ _ Hg1.out ⟨vb, 0, none⟩ _ _ vs (by rw [hvl, hs, hm]) (fun k u hu => by rw [World.cell?_of_block (w := w) (setRow_other w.drew g _ _ (by unfold Addr.add; split <;> exact hne'))]; exact Hnews.out k u hu) H1v.out (by rw [hvl, hsz1]; omega)
        have Hk := Lib.hid hk
        clear hk
        go_enter Try.func55, Try.ntmps55
        go_wp2_with (simp only [Hov.out])
        refine rs_begin (fun _ => True) (by kernel_rfl) ?_
        refine rs_take (i := 0) rfl (by kernel_rfl) (by kernel_rfl) (by kernel_rfl) (fun _ _ _ h => h) (by rfl) trivial (v := ?_) ?_ ?_
        rotate_left 1
        · intro W _; go_simp; all_goals with_reducible rfl
        simp only [Act.put, List.setIfInBounds_toArray, List.set_cons_zero, List.set_cons_succ]
        refine rs_take (i := 1) rfl (by kernel_rfl) (by kernel_rfl) (by kernel_rfl) (fun _ _ _ h => h) (by rfl) trivial (v := ?_) ?_ ?_
        rotate_left 1
        · intro W _; go_simp; all_goals with_reducible rfl
        simp only [Act.put, List.setIfInBounds_toArray, List.set_cons_zero, List.set_cons_succ]
        refine rs_take (i := 2) rfl (by kernel_rfl) (by kernel_rfl) (by kernel_rfl) (fun _ _ _ h => h) (by rfl) trivial (v := ?_) ?_ ?_
        rotate_left 1
        · intro W _; go_simp; all_goals with_reducible rfl
        simp only [Act.put, List.setIfInBounds_toArray, List.set_cons_zero, List.set_cons_succ]
        refine rs_take (i := 3) rfl (by kernel_rfl) (by kernel_rfl) (by kernel_rfl) (fun _ _ _ h => h) (by rfl) trivial (v := ?_) ?_ ?_
        rotate_left 1
        · intro W _; go_simp; all_goals with_reducible rfl
        simp only [Act.put, List.setIfInBounds_toArray, List.set_cons_zero, List.set_cons_succ]
        refine rs_take (i := 4) rfl (by kernel_rfl) (by kernel_rfl) (by kernel_rfl) (fun _ _ _ h => h) (by rfl) trivial (v := ?_) ?_ ?_
        rotate_left 1
        · intro W _; go_simp; all_goals with_reducible rfl
        simp only [Act.put, List.setIfInBounds_toArray, List.set_cons_zero, List.set_cons_succ]
        refine rs_take (i := 5) rfl (by kernel_rfl) (by kernel_rfl) (by kernel_rfl) (fun _ _ _ h => h) (by rfl) trivial (v := ?_) ?_ ?_
        rotate_left 1
        · intro W _; go_simp; all_goals with_reducible rfl
        simp only [Act.put, List.setIfInBounds_toArray, List.set_cons_zero, List.set_cons_succ]
        refine rs_take (i := 6) rfl (by kernel_rfl) (by kernel_rfl) (by kernel_rfl) (fun _ _ _ h => h) (by rfl) trivial (v := ?_) ?_ ?_
        rotate_left 1
        · intro W _; go_simp; all_goals with_reducible rfl
        simp only [Act.put, List.setIfInBounds_toArray, List.set_cons_zero, List.set_cons_succ]
        refine rs_take (i := 7) rfl (by kernel_rfl) (by kernel_rfl) (by kernel_rfl) (fun _ _ _ h => h) (by rfl) trivial (v := ?_) ?_ ?_
        rotate_left 1
        · intro W _; go_simp; all_goals with_reducible rfl
        simp only [Act.put, List.setIfInBounds_toArray, List.set_cons_zero, List.set_cons_succ]
        refine rs_make (i := 8) (by kernel_rfl) rfl (by rfl) (exec_builtin_copy _ _ _ _ rfl (by simp [Act.eval]) (by simp [Act.eval]) (Hcp1.out _)) trivial ?_
        simp only [Act.put, List.setIfInBounds_toArray, List.set_cons_zero, List.set_cons_succ]
        refine rs_done (by kernel_rfl) ?_
        generalize hW1 : w.drew.setRow g (splice cur (i + 1) (xs.drop k)) = W1 at *
        go_wp2_with (simp only [Hcp2.out])
        have HO : (W1.setRow g (splice (splice cur (i + 1) (xs.drop k)) (i) vs)).ownsRow 0 3 1 (.slice (some ⟨g, 0, none⟩) (n + 1) cap) (n + 1) ys := by
          refine ⟨?_, .inr ⟨g, cap, _, rfl, Nat.zero_le _, setRow_heap W1 g _ _ _ _ Hg1.out, hroom, by unfold maxLen; omega, ?_, ?_⟩⟩
          · rw [Hys.out, List.length_append, List.length_append, List.length_take, List.length_drop, hlen, hvl]; have := Hk.out; omega
          · rw [splice_size _ _ _ (by have := Hk.out; rw [hvl, hsz1]; omega), hsz1]
          · rw [Hys.out]
            have := Hk.out
            exact splice_insert cur xs vs k (n * 1) 1 (i + 1) (i) ((n + 1) * 1) (by omega) (by omega) (by omega) Htk.out (by rw [Hcs.out]; omega) (by omega) hvl (by rw [Hcs.out]; omega)
        have HGr : w.grownBy (W1.setRow g (splice (splice cur (i + 1) (xs.drop k)) (i) vs)) (some g) := by
          subst hW1
          refine ⟨rfl, rfl, rfl, by simp, fun k _ hk => ?_⟩
          have hkg : k ≠ g := fun e => hk (by rw [e])
          rw [setRow_other _ g k _ hkg, setRow_other _ g k _ hkg]; rfl
        exact bodyPost_ret (v := .slice (some ⟨g, 0, none⟩) (n + 1) cap) (by simp [results, Try.results55, go_sem]) rfl ⟨_, rfl, HO, HGr, .inl rfl⟩
      · obtain rfl : cap = n := by omega
        have hw1 : IntKind.i64.wrap ((i : Int) + 1) = (i : Int) + 1 := by rw [IntKind.wrap_i64]; omega
        have hb1 : (0 : Int) ≤ (i : Int) + 1 := by omega
        have htn : ((i : Int) + 1).toNat = i + 1 := by omega
        have htk : ((cap : Int) + 1 - i) = ((cap + 1 - i : Nat) : Int) := by omega
        have hb3 : (i : Int) + 1 ≤ (cap : Int) + 1 := by omega
        have hb4 : ¬ (cap = i) := by omega
        have hb5 : (i : Int) ≤ (cap : Int) + 1 := by omega
        obtain ⟨k, hk⟩ : ∃ k, k = i * 1 := ⟨_, rfl⟩
        rw [← hk] at Hys
        have hiz := Nat.mul_le_mul_right 1 hi
        have hdl : (xs.drop k).length = (cap - i) * 1 := by rw [List.length_drop, hlen, hk, Nat.sub_mul]
        obtain ⟨j, hj, hz, hs, hby⟩ := el_int.ex
        obtain ⟨c2, hc2⟩ : ∃ c2, c2 = grownCap w (cap + 1) cap 3 := ⟨_, rfl⟩
        have hc2g : cap + 1 ≤ c2 := by rw [hc2]; exact grownCap_ge w (cap + 1) cap _
        have hc2m : c2 ≤ maxLen := by rw [hc2]; exact grownCap_le_maxLen w (cap + 1) cap _ (by unfold maxLen; omega)
        obtain ⟨C, hC⟩ : ∃ C : Array Value, C = (xs.take k).toArray ++ Builtin.zeroCells (Value.int .i64 0).cells (cap + 1 - i) ++ Builtin.zeroCells (Value.int .i64 0).cells (c2 - (cap + 1)) := ⟨_, rfl⟩
        have hzs : (Value.int .i64 0).cells.size = 1 := el_int.hzs
        have hCs : C.size = c2 * 1 := by
          rw [hC]
          simp only [Array.size_append, size_zeroCells, List.size_toArray, List.length_take, hlen, hzs, ← Nat.add_mul, hk]
          rw [Nat.min_eq_left hiz, ← Nat.add_mul, ← Nat.add_mul]
          congr 1
          omega
        have hCt : C.toList.take k = xs.take k := by
          have hl : (xs.take k).length = k := by rw [List.length_take, hlen]; omega
          rw [hC]
          simp only [Array.toList_append, List.append_assoc]
          exact List.take_left' hl
        have Happ : Hid (∀ ty, (Builtin.append_ #[43, 3] ty #[.slice (some ⟨g, 0, none⟩) i cap, .int .i64 ((cap + 1 - i : Nat) : Int)]).run Try.prog w = .ok (.slice (some ⟨w.heap.size, 0, none⟩) (cap + 1) c2) (w.drew.alloc (.cells C 3))) := fun ty => by
          have hold := run_firstCells_some (P := Try.prog) w.drew j.size i ⟨g, 0, none⟩ i cap (xs.take k) (by rw [List.length_take, hlen, hs, ← hk]; omega) (fun q u hu => by
            rw [List.getElem?_take] at hu
            split at hu
            · exact row_read Hg.out Htk.out 0 0 rfl q u (by simpa using hu)
            · cases hu)
          have := Lib.run_append_grow_zeros (P := Try.prog) w 43 3 ty 3 j _ .i64 .i64 el_int.ht (by kernel_rfl) hj hz (some ⟨g, 0, none⟩) i cap (xs.take k) hold (cap + 1 - i) (by omega) (by rw [hs]; decide) (by omega) (by omega) (by rw [hby]; omega) (growslice_fits (by omega) (by rw [hby]; omega))
          rw [show i + (cap + 1 - i) = cap + 1 by omega, ← hc2, ← hC] at this
          exact this
        obtain ⟨w2, hw2⟩ : ∃ w2, w2 = w.drew.alloc (.cells C 3) := ⟨_, rfl⟩
        have hn2 : w2.heap[w.heap.size]? = some (.cells C 3 (0, 0)) := by rw [hw2]; exact heap_alloc_new w.drew _
        have hold2 : ∀ q, q < w.heap.size → w2.heap[q]? = w.heap[q]? := fun q hq => by rw [hw2]; exact heap_alloc_old w.drew _ hq
        have hvlt : vb < w.heap.size := (Array.getElem?_eq_some_iff.1 Hvb.out).1
        have hglt : g < w.heap.size := (Array.getElem?_eq_some_iff.1 Hg.out).1
        have hfit2 : (cap + 1) * 1 ≤ c2 * 1 := Nat.mul_le_mul_right _ hc2g
        have Hcp3 : Hid (∀ ty, (Builtin.copy_ #[43, 43] ty #[.slice (some ⟨w.heap.size, i, none⟩) (cap + 1 - i) (c2 - i), .slice (some ⟨vb, 0, none⟩) 1 1]).run Try.prog w2 = .ok (goInt (Nat.min 1 (cap + 1 - i))) (w2.setRow w.heap.size (splice C (i) vs))) := fun ty => by
          have hm : Nat.min 1 (cap + 1 - i) = 1 := by show min 1 (cap + 1 - i) = 1; omega
          exact run_copy_at _ _ _ ty _ j el_int.ht hj w.heap.size (i) _ _ _ hn2 ⟨vb, 0, none⟩ _ _ vs (by rw [hvl, hs, hm]) (fun q u hu => by rw [World.cell?_of_block (w := w) (hold2 _ (by unfold Addr.add; split <;> exact hvlt))]; exact Hnews.out q u hu) H1v.out (by rw [hvl, hCs]; omega)
        obtain ⟨w3, hw3⟩ : ∃ w3, w3 = w2.setRow w.heap.size (splice C (i) vs) := ⟨_, rfl⟩
        rw [← hw3] at Hcp3
        have hsz3 : (splice C (i) vs).size = c2 * 1 := by rw [splice_size _ _ _ (by rw [hvl, hCs]; omega), hCs]
        have hn3 : w3.heap[w.heap.size]? = some (.cells (splice C (i) vs) 3 (0, 0)) := by rw [hw3]; exact setRow_heap w2 _ _ _ _ _ hn2
        have hold3 : ∀ q, q < w.heap.size → w3.heap[q]? = w.heap[q]? := fun q hq => by rw [hw3, setRow_other w2 _ q _ (by omega)]; exact hold2 q hq
        have hg3 : w3.drew.heap[g]? = some (.cells cur 3 (0, 0)) := (hold3 g hglt).trans Hg.out
        have Hcp4 : Hid (∀ ty, (Builtin.copy_ #[43, 43] ty #[.slice (some ⟨w.heap.size, i + 1, none⟩) (cap + 1 - (i + 1)) (c2 - (i + 1)), .slice (some ⟨g, i, none⟩) (cap - i) (cap - i)]).run Try.prog w3.drew = .ok (goInt (Nat.min (cap - i) (cap + 1 - (i + 1)))) (w3.drew.setRow w.heap.size (splice (splice C (i) vs) (i + 1) (xs.drop k)))) := fun ty => by
          have hm : Nat.min (cap - i) (cap + 1 - (i + 1)) = cap - i := by show min (cap - i) (cap + 1 - (i + 1)) = cap - i; omega
          exact run_copy_at w3.drew _ _ ty _ j el_int.ht hj w.heap.size (i + 1) _ _ _ hn3 ⟨g, i, none⟩ _ _ (xs.drop k) (by rw [hdl, hs, hm]) (row_read hg3 Htk.out (i) k (by omega)) (fun u hu => h1 u (List.mem_of_mem_drop hu)) (by rw [hdl, hsz3]; omega)
        have HO : Hid ((w3.drew.setRow w.heap.size (splice (splice C (i) vs) (i + 1) (xs.drop k))).ownsRow 0 3 1 (.slice (some ⟨w.heap.size, 0, none⟩) (cap + 1) c2) (cap + 1) ys) := by
          refine ⟨?_, .inr ⟨w.heap.size, c2, _, rfl, Nat.zero_le _, setRow_heap w3.drew _ _ _ _ _ hn3, hc2g, hc2m, ?_, ?_⟩⟩
          · rw [Hys.out, List.length_append, List.length_append, List.length_take, List.length_drop, hlen, hvl]; omega
          · rw [splice_size _ _ _ (by rw [hdl, hsz3]; omega), hsz3]
          · rw [Hys.out]
            exact splice_insert2 C xs vs k (cap * 1) 1 (i + 1) (i) ((cap + 1) * 1) (by omega) (by omega) (by omega) hlen (by omega) hCt hvl
        have HGr : Hid (w.grownBy (w3.drew.setRow w.heap.size (splice (splice C (i) vs) (i + 1) (xs.drop k))) (some g)) := by
          have hz3 : w3.heap.size = w.heap.size + 1 := by rw [hw3, setRow_size, hw2, World.size_alloc]; rfl
          refine ⟨by rw [hw3, hw2]; rfl, by rw [hw3, hw2]; rfl, by rw [hw3, hw2]; rfl, ?_, fun q hq _ => ?_⟩
          · rw [setRow_size]; show w.heap.size ≤ w3.heap.size; omega
          · rw [setRow_other _ _ q _ (by omega)]; exact hold3 q hq
        have hb6 : ¬ (c2 = i) := by omega
        have hb7 : ¬ (c2 = i + 1) := by omega
        have hc2' : ((cap + 1 : Nat) : Int) ≤ c2 := by omega
        rw [← hw2] at Happ
        generalize hW4 : w3.drew.setRow w.heap.size (splice (splice C (i) vs) (i + 1) (xs.drop k)) = w4 at *
        clear hW4 hw2 hw3 hn2 hn3 hold2 hold3 hg3 hC hCs hCt hc2 hk hz hj hs hby
        go_enter Try.func55, Try.ntmps55
        go_wp2_with (first | (at_builtin; go_must (refine wpList_append_at rfl _ _ _ _ rfl rfl rfl (Happ.out _) ?_)) | simp only [Hcp3.out])
        refine rs_begin (fun _ => True) (by kernel_rfl) ?_
        refine rs_take (i := 0) rfl (by kernel_rfl) (by kernel_rfl) (by kernel_rfl) (fun _ _ _ h => h) (by rfl) trivial (v := ?_) ?_ ?_
        rotate_left 1
        · intro W _; go_simp; all_goals with_reducible rfl
        simp only [Act.put, List.setIfInBounds_toArray, List.set_cons_zero, List.set_cons_succ]
        refine rs_take (i := 1) rfl (by kernel_rfl) (by kernel_rfl) (by kernel_rfl) (fun _ _ _ h => h) (by rfl) trivial (v := ?_) ?_ ?_
        rotate_left 1
        · intro W _; go_simp; all_goals with_reducible rfl
        simp only [Act.put, List.setIfInBounds_toArray, List.set_cons_zero, List.set_cons_succ]
        refine rs_take (i := 2) rfl (by kernel_rfl) (by kernel_rfl) (by kernel_rfl) (fun _ _ _ h => h) (by rfl) trivial (v := ?_) ?_ ?_
        rotate_left 1
        · intro W _; go_simp; all_goals with_reducible rfl
        simp only [Act.put, List.setIfInBounds_toArray, List.set_cons_zero, List.set_cons_succ]
        refine rs_take (i := 3) rfl (by kernel_rfl) (by kernel_rfl) (by kernel_rfl) (fun _ _ _ h => h) (by rfl) trivial (v := ?_) ?_ ?_
        rotate_left 1
        · intro W _; go_simp; all_goals with_reducible rfl
        simp only [Act.put, List.setIfInBounds_toArray, List.set_cons_zero, List.set_cons_succ]
        refine rs_take (i := 4) rfl (by kernel_rfl) (by kernel_rfl) (by kernel_rfl) (fun _ _ _ h => h) (by rfl) trivial (v := ?_) ?_ ?_
        rotate_left 1
        · intro W _; go_simp; all_goals with_reducible rfl
        simp only [Act.put, List.setIfInBounds_toArray, List.set_cons_zero, List.set_cons_succ]
        refine rs_take (i := 5) rfl (by kernel_rfl) (by kernel_rfl) (by kernel_rfl) (fun _ _ _ h => h) (by rfl) trivial (v := ?_) ?_ ?_
        rotate_left 1
        · intro W _; go_simp; all_goals with_reducible rfl
        simp only [Act.put, List.setIfInBounds_toArray, List.set_cons_zero, List.set_cons_succ]
        refine rs_take (i := 6) rfl (by kernel_rfl) (by kernel_rfl) (by kernel_rfl) (fun _ _ _ h => h) (by rfl) trivial (v := ?_) ?_ ?_
        rotate_left 1
        · intro W _; go_simp; all_goals with_reducible rfl
        simp only [Act.put, List.setIfInBounds_toArray, List.set_cons_zero, List.set_cons_succ]
        refine rs_take (i := 7) rfl (by kernel_rfl) (by kernel_rfl) (by kernel_rfl) (fun _ _ _ h => h) (by rfl) trivial (v := ?_) ?_ ?_
        rotate_left 1
        · intro W _; go_simp; all_goals with_reducible rfl
        simp only [Act.put, List.setIfInBounds_toArray, List.set_cons_zero, List.set_cons_succ]
        refine rs_make (i := 8) (by kernel_rfl) rfl (by rfl) (exec_builtin_copy _ _ _ _ rfl (by simp [Act.eval]) (by simp [Act.eval]) (Hcp4.out _)) trivial ?_
        simp only [Act.put, List.setIfInBounds_toArray, List.set_cons_zero, List.set_cons_succ]
        refine rs_done (by kernel_rfl) ?_
        go_wp2
        exact bodyPost_ret (v := .slice (some ⟨w.heap.size, 0, none⟩) (cap + 1) c2) (by simp [results, Try.results55, go_sem]) rfl ⟨_, rfl, HO.out, HGr.out, .inr ⟨_, rfl, Nat.le_refl _⟩⟩
  · rcases hown.2 with ⟨rfl, rfl⟩ | ⟨g, cap, cur, rfl, -, hg, hnc, hcm, hcs, htk⟩
    · go_enter Try.func55, Try.ntmps55
      go_wp2_with (at_builtin; go_must (refine wpList_append_lies _ rfl _ _ _ rfl 0 _ _ _ 1 8 el_int.ht rfl rfl rfl rfl rfl (by decide) _ _ _ rfl Hown.out ⟨vb, 0, none⟩ 1 1 vs rfl hvl Hnews.out H1v.out (by decide) (by decide) (by decide) (Nat.zero_le _) _ rfl ?_); intro g cap w1 q1 q2 q3 q4)
      obtain rfl : xs = [] := List.eq_nil_of_length_eq_zero (by simpa using hlen)
      refine bodyPost_ret (v := .slice (some ⟨g, 0, none⟩) 1 cap) (by simp [results, Try.results55, go_sem]) rfl ⟨_, rfl, by rw [Hys.out]; simpa using q1, q2, .inr ⟨g, rfl, ?_⟩⟩
      rcases q3 with q3 | rfl
      · cases q3
      · exact Nat.le_refl _
    · unfold maxLen at hcm
      have hcm' : (cap : Int) ≤ 9223372036854775807 := by omega
      have hnc' : (i : Int) ≤ cap := by omega
      clear hown hg hcs htk
      go_enter Try.func55, Try.ntmps55
      go_wp2_with (at_builtin; go_must (refine wpList_append_lies _ rfl _ _ _ rfl 0 _ _ _ 1 8 el_int.ht rfl rfl rfl rfl rfl (by decide) _ _ _ rfl Hown.out ⟨vb, 0, none⟩ 1 1 vs rfl hvl Hnews.out H1v.out (by decide) (by unfold maxLen; omega) (by omega) (Nat.zero_le _) _ rfl ?_); intro g2 cap2 w1 q1 q2 q3 q4)
      all_goals
        refine bodyPost_ret (v := .slice (some ⟨g2, 0, none⟩) (i + 1) cap2) (by simp [results, Try.results55, go_sem]) rfl ⟨_, rfl, by rw [Hys.out, ← hlen, List.take_length, List.drop_length, List.append_nil]; exact q1, q2, ?_⟩
        rcases q3 with q3 | rfl
        · exact .inl q3.symm
        · exact .inr ⟨_, rfl, Nat.le_refl _⟩

set_option maxHeartbeats 4000000 in
theorem insert_ent (v : Value) (n : Nat) (xs : List Value) (i : Nat) (vb : Nat) (vs : List Value) (w : World) (hown : w.ownsRow 0 40 8 v n xs) (hi : i ≤ n) (hn : n ≤ 100000) (hvl : vs.length = 8)
    (hvb : w.heap[vb]? = some (.cells vs.toArray 40 (0, 0))) (hne : v.ownBlock ≠ some vb) (h1 : ∀ u ∈ xs, u.oneCell' = true) (h1v : ∀ u ∈ vs, u.oneCell' = true)
    (ys : List Value) (hys : ys = xs.take (i * 8) ++ vs ++ xs.drop (i * 8)) :
    Calls Try.prog 56 #[v, .int .i64 i, .slice (some ⟨vb, 0, none⟩) 1 1] w fun e w' => ∃ v', e = .returned v' ∧ w'.ownsRow 0 40 8 v' (n + 1) ys ∧ w.grownBy w' v.ownBlock ∧ Lies w v v' := by
  have hlen := hown.1
  have Hys := Lib.hid hys
  clear hys
  have Hown := Lib.hid hown
  have Hnews := Lib.hid (World.news_of_block hvb)
  rw [List.toList_toArray] at Hnews
  have H1v := Lib.hid h1v
  have hn' : (n : Int) ≤ 100000 := by omega
  have hi' : (i : Int) ≤ n := by omega
  rcases Nat.lt_or_eq_of_le hi with hlt | rfl
  · rcases hown.2 with ⟨rfl, rfl⟩ | ⟨g, cap, cur, rfl, -, hg, hnc, hcm, hcs, htk⟩
    · omega
    · have hne' : vb ≠ g := fun e => hne (by rw [e]; rfl)
      have hlt' : (i : Int) < n := by omega
      have Hg := Lib.hid hg
      have Hvb := Lib.hid hvb
      have Hcs := Lib.hid hcs
      have Htk := Lib.hid htk
      unfold maxLen at hcm
      have hcm' : (cap : Int) ≤ 9223372036854775807 := by omega
      have Hov : Hid (∀ o lb cb, (callFunc 63 #[.slice (some ⟨vb, 0, none⟩) 1 1, .slice (some ⟨g, o, none⟩) lb cb]).run Try.prog w = .ok (.value (.bool false)) w) := fun o lb cb => by
        have hc0 : cur.size ≠ 0 := by rw [hcs]; omega
        rw [run_callFunc_extern Try.func63 (by kernel_rfl) (by kernel_rfl) (by kernel_rfl) (e := Extern.SlicesOverlaps.overlaps #[22, 22] #[4]) (by kernel_rfl),
          Lib.run_overlaps_apart w 22 4 40 el_ent.ht 8 (fun w => by obtain ⟨j, hj, _, hs, _⟩ := el_ent.ex; simp [sizeOf, typeInfo, hj, hs]) ⟨vb, 0, none⟩ ⟨g, o, none⟩ 1 1 lb cb hne' 40 40 vs.toArray.size cur.size (by simp [World.shape?, hvb]) (by simp [World.shape?, hg]) hc0 (frozen_of_row w vb 0 _ _ hvb) (frozen_of_row w vb _ _ _ hvb)]
        rfl
      clear hown hg hvb hcs htk
      by_cases hroom : n + 1 ≤ cap
      · have hroom' : (n : Int) + 1 ≤ cap := by omega
        have hw1 : IntKind.i64.wrap ((i : Int) + 1) = (i : Int) + 1 := by rw [IntKind.wrap_i64]; omega
        have hb1 : (0 : Int) ≤ (i : Int) + 1 := by omega
        have htn : ((i : Int) + 1).toNat = i + 1 := by omega
        have hb2 : ¬ (cap = i + 1) := by omega
        have hb3 : (i : Int) + 1 ≤ (n : Int) + 1 := by omega
        have hb4 : ¬ (cap = i) := by omega
        have hb5 : (i : Int) ≤ (n : Int) + 1 := by omega
        obtain ⟨k, hk⟩ : ∃ k, k = i * 8 := ⟨_, rfl⟩
        rw [← hk] at Hys
        have hiz := Nat.mul_le_mul_right 8 hi
        have hcz := Nat.mul_le_mul_right 8 hroom
        have hdl : (xs.drop k).length = (n - i) * 8 := by rw [List.length_drop, hlen, hk, Nat.sub_mul]
        have Hcp1 : Hid (∀ ty, (Builtin.copy_ #[22, 22] ty #[.slice (some ⟨g, (i + 1) * 8, none⟩) (n + 1 - (i + 1)) (cap - (i + 1)), .slice (some ⟨g, i * 8, none⟩) (n + 1 - i) (cap - i)]).run Try.prog w.drew = .ok (goInt (Nat.min (n + 1 - i) (n + 1 - (i + 1)))) (w.drew.setRow g (splice cur ((i + 1) * 8) (xs.drop k)))) := fun ty => by
          obtain ⟨j, hj, _, hs, _⟩ := el_ent.ex
          have hm : Nat.min (n + 1 - i) (n + 1 - (i + 1)) = n - i := by show min (n + 1 - i) (n + 1 - (i + 1)) = n - i; omega
          exact run_copy_at w.drew _ _ ty _ j el_ent.ht hj g ((i + 1) * 8) _ _ cur Hg.out ⟨g, i * 8, none⟩ _ _ (xs.drop k) (by rw [hdl, hs, hm]) (row_read Hg.out Htk.out (i * 8) k (by omega)) (fun u hu => h1 u (List.mem_of_mem_drop hu)) (by rw [hdl, Hcs.out]; omega)
        have hsz1 : (splice cur ((i + 1) * 8) (xs.drop k)).size = cap * 8 := by rw [splice_size _ _ _ (by rw [hdl, Hcs.out]; omega), Hcs.out]
        have Hg1 : Hid ((w.drew.setRow g (splice cur ((i + 1) * 8) (xs.drop k))).heap[g]? = some (.cells (splice cur ((i + 1) * 8) (xs.drop k)) 40 (0, 0))) := setRow_heap w.drew g _ _ _ _ Hg.out
        have Hcp2 : Hid (∀ ty, (Builtin.copy_ #[22, 22] ty #[.slice (some ⟨g, i * 8, none⟩) (n + 1 - i) (cap - i), .slice (some ⟨vb, 0, none⟩) 1 1]).run Try.prog (w.drew.setRow g (splice cur ((i + 1) * 8) (xs.drop k))) = .ok (goInt (Nat.min 1 (n + 1 - i))) ((w.drew.setRow g (splice cur ((i + 1) * 8) (xs.drop k))).setRow g (splice (splice cur ((i + 1) * 8) (xs.drop k)) (i * 8) vs))) := fun ty => by
          obtain ⟨j, hj, _, hs, _⟩ := el_ent.ex
          have hm : Nat.min 1 (n + 1 - i) = 1 := by show min 1 (n + 1 - i) = 1; omega
          exact run_copy_at _ _ _ ty _ j el_ent.ht hj g (i * 8) _ _ _ Hg1.out ⟨vb, 0, none⟩ _ _ vs (by rw [hvl, hs, hm]) (fun k u hu => by rw [World.cell?_of_block (w := w) (setRow_other w.drew g _ _ (by unfold Addr.add; split <;> exact hne'))]; exact Hnews.out k u hu) H1v.out (by rw [hvl, hsz1]; omega)
        have Hk := Lib.hid hk
        clear hk
        go_enter Try.func56, Try.ntmps56
        go_wp2_with (simp only [Hov.out])
        refine rs_begin (fun _ => True) (by kernel_rfl) ?_
        refine rs_take (i := 0) rfl (by kernel_rfl) (by kernel_rfl) (by kernel_rfl) (fun _ _ _ h => h) (by rfl) trivial (v := ?_) ?_ ?_
        rotate_left 1
        · intro W _; go_simp; all_goals with_reducible rfl
        simp only [Act.put, List.setIfInBounds_toArray, List.set_cons_zero, List.set_cons_succ]
        refine rs_take (i := 1) rfl (by kernel_rfl) (by kernel_rfl) (by kernel_rfl) (fun _ _ _ h => h) (by rfl) trivial (v := ?_) ?_ ?_
        rotate_left 1
        · intro W _; go_simp; all_goals with_reducible rfl
        simp only [Act.put, List.setIfInBounds_toArray, List.set_cons_zero, List.set_cons_succ]
        refine rs_take (i := 2) rfl (by kernel_rfl) (by kernel_rfl) (by kernel_rfl) (fun _ _ _ h => h) (by rfl) trivial (v := ?_) ?_ ?_
        rotate_left 1
        · intro W _; go_simp; all_goals with_reducible rfl
        simp only [Act.put, List.setIfInBounds_toArray, List.set_cons_zero, List.set_cons_succ]
        refine rs_take (i := 3) rfl (by kernel_rfl) (by kernel_rfl) (by kernel_rfl) (fun _ _ _ h => h) (by rfl) trivial (v := ?_) ?_ ?_
        rotate_left 1
        · intro W _; go_simp; all_goals with_reducible rfl
        simp only [Act.put, List.setIfInBounds_toArray, List.set_cons_zero, List.set_cons_succ]
        refine rs_take (i := 4) rfl (by kernel_rfl) (by kernel_rfl) (by kernel_rfl) (fun _ _ _ h => h) (by rfl) trivial (v := ?_) ?_ ?_
        rotate_left 1
        · intro W _; go_simp; all_goals with_reducible rfl
        simp only [Act.put, List.setIfInBounds_toArray, List.set_cons_zero, List.set_cons_succ]
        refine rs_take (i := 5) rfl (by kernel_rfl) (by kernel_rfl) (by kernel_rfl) (fun _ _ _ h => h) (by rfl) trivial (v := ?_) ?_ ?_
        rotate_left 1
        · intro W _; go_simp; all_goals with_reducible rfl
        simp only [Act.put, List.setIfInBounds_toArray, List.set_cons_zero, List.set_cons_succ]
        refine rs_take (i := 6) rfl (by kernel_rfl) (by kernel_rfl) (by kernel_rfl) (fun _ _ _ h => h) (by rfl) trivial (v := ?_) ?_ ?_
        rotate_left 1
        · intro W _; go_simp; all_goals with_reducible rfl
        simp only [Act.put, List.setIfInBounds_toArray, List.set_cons_zero, List.set_cons_succ]
        refine rs_take (i := 7) rfl (by kernel_rfl) (by kernel_rfl) (by kernel_rfl) (fun _ _ _ h => h) (by rfl) trivial (v := ?_) ?_ ?_
        rotate_left 1
        · intro W _; go_simp; all_goals with_reducible rfl
        simp only [Act.put, List.setIfInBounds_toArray, List.set_cons_zero, List.set_cons_succ]
        refine rs_make (i := 8) (by kernel_rfl) rfl (by rfl) (exec_builtin_copy _ _ _ _ rfl (by simp [Act.eval]) (by simp [Act.eval]) (Hcp1.out _)) trivial ?_
        simp only [Act.put, List.setIfInBounds_toArray, List.set_cons_zero, List.set_cons_succ]
        refine rs_done (by kernel_rfl) ?_
        generalize hW1 : w.drew.setRow g (splice cur ((i + 1) * 8) (xs.drop k)) = W1 at *
        go_wp2_with (simp only [Hcp2.out])
        have HO : (W1.setRow g (splice (splice cur ((i + 1) * 8) (xs.drop k)) (i * 8) vs)).ownsRow 0 40 8 (.slice (some ⟨g, 0, none⟩) (n + 1) cap) (n + 1) ys := by
          refine ⟨?_, .inr ⟨g, cap, _, rfl, Nat.zero_le _, setRow_heap W1 g _ _ _ _ Hg1.out, hroom, by unfold maxLen; omega, ?_, ?_⟩⟩
          · rw [Hys.out, List.length_append, List.length_append, List.length_take, List.length_drop, hlen, hvl]; have := Hk.out; omega
          · rw [splice_size _ _ _ (by have := Hk.out; rw [hvl, hsz1]; omega), hsz1]
          · rw [Hys.out]
            have := Hk.out
            exact splice_insert cur xs vs k (n * 8) 8 ((i + 1) * 8) (i * 8) ((n + 1) * 8) (by omega) (by omega) (by omega) Htk.out (by rw [Hcs.out]; omega) (by omega) hvl (by rw [Hcs.out]; omega)
        have HGr : w.grownBy (W1.setRow g (splice (splice cur ((i + 1) * 8) (xs.drop k)) (i * 8) vs)) (some g) := by
          subst hW1
          refine ⟨rfl, rfl, rfl, by simp, fun k _ hk => ?_⟩
          have hkg : k ≠ g := fun e => hk (by rw [e])
          rw [setRow_other _ g k _ hkg, setRow_other _ g k _ hkg]; rfl
        exact bodyPost_ret (v := .slice (some ⟨g, 0, none⟩) (n + 1) cap) (by simp [results, Try.results56, go_sem]) rfl ⟨_, rfl, HO, HGr, .inl rfl⟩
      · obtain rfl : cap = n := by omega
        have hw1 : IntKind.i64.wrap ((i : Int) + 1) = (i : Int) + 1 := by rw [IntKind.wrap_i64]; omega
        have hb1 : (0 : Int) ≤ (i : Int) + 1 := by omega
        have htn : ((i : Int) + 1).toNat = i + 1 := by omega
        have htk : ((cap : Int) + 1 - i) = ((cap + 1 - i : Nat) : Int) := by omega
        have hb3 : (i : Int) + 1 ≤ (cap : Int) + 1 := by omega
        have hb4 : ¬ (cap = i) := by omega
        have hb5 : (i : Int) ≤ (cap : Int) + 1 := by omega
        obtain ⟨k, hk⟩ : ∃ k, k = i * 8 := ⟨_, rfl⟩
        rw [← hk] at Hys
        have hiz := Nat.mul_le_mul_right 8 hi
        have hdl : (xs.drop k).length = (cap - i) * 8 := by rw [List.length_drop, hlen, hk, Nat.sub_mul]
        obtain ⟨j, hj, hz, hs, hby⟩ := el_ent.ex
        obtain ⟨c2, hc2⟩ : ∃ c2, c2 = grownCap w (cap + 1) cap 40 := ⟨_, rfl⟩
        have hc2g : cap + 1 ≤ c2 := by rw [hc2]; exact grownCap_ge w (cap + 1) cap _
        have hc2m : c2 ≤ maxLen := by rw [hc2]; exact grownCap_le_maxLen w (cap + 1) cap _ (by unfold maxLen; omega)
        obtain ⟨C, hC⟩ : ∃ C : Array Value, C = (xs.take k).toArray ++ Builtin.zeroCells (Value.agg #[.int .i64 0, .int .u8 0, .int .u8 0, .int .u8 0, .int .u8 0, .int .u8 0, .int .u8 0, .int .i64 0]).cells (cap + 1 - i) ++ Builtin.zeroCells (Value.agg #[.int .i64 0, .int .u8 0, .int .u8 0, .int .u8 0, .int .u8 0, .int .u8 0, .int .u8 0, .int .i64 0]).cells (c2 - (cap + 1)) := ⟨_, rfl⟩
        have hzs : (Value.agg #[.int .i64 0, .int .u8 0, .int .u8 0, .int .u8 0, .int .u8 0, .int .u8 0, .int .u8 0, .int .i64 0]).cells.size = 8 := el_ent.hzs
        have hCs : C.size = c2 * 8 := by
          rw [hC]
          simp only [Array.size_append, size_zeroCells, List.size_toArray, List.length_take, hlen, hzs, ← Nat.add_mul, hk]
          rw [Nat.min_eq_left hiz, ← Nat.add_mul, ← Nat.add_mul]
          congr 1
          omega
        have hCt : C.toList.take k = xs.take k := by
          have hl : (xs.take k).length = k := by rw [List.length_take, hlen]; omega
          rw [hC]
          simp only [Array.toList_append, List.append_assoc]
          exact List.take_left' hl
        have Happ : Hid (∀ ty, (Builtin.append_ #[22, 3] ty #[.slice (some ⟨g, 0, none⟩) i cap, .int .i64 ((cap + 1 - i : Nat) : Int)]).run Try.prog w = .ok (.slice (some ⟨w.heap.size, 0, none⟩) (cap + 1) c2) (w.drew.alloc (.cells C 40))) := fun ty => by
          have hold := run_firstCells_some (P := Try.prog) w.drew j.size i ⟨g, 0, none⟩ i cap (xs.take k) (by rw [List.length_take, hlen, hs, ← hk]; omega) (fun q u hu => by
            rw [List.getElem?_take] at hu
            split at hu
            · exact row_read Hg.out Htk.out 0 0 rfl q u (by simpa using hu)
            · cases hu)
          have := Lib.run_append_grow_zeros (P := Try.prog) w 22 3 ty 40 j _ .i64 .i64 el_ent.ht (by kernel_rfl) hj hz (some ⟨g, 0, none⟩) i cap (xs.take k) hold (cap + 1 - i) (by omega) (by rw [hs]; decide) (by omega) (by omega) (by rw [hby]; omega) (growslice_fits (by omega) (by rw [hby]; omega))
          rw [show i + (cap + 1 - i) = cap + 1 by omega, ← hc2, ← hC] at this
          exact this
        obtain ⟨w2, hw2⟩ : ∃ w2, w2 = w.drew.alloc (.cells C 40) := ⟨_, rfl⟩
        have hn2 : w2.heap[w.heap.size]? = some (.cells C 40 (0, 0)) := by rw [hw2]; exact heap_alloc_new w.drew _
        have hold2 : ∀ q, q < w.heap.size → w2.heap[q]? = w.heap[q]? := fun q hq => by rw [hw2]; exact heap_alloc_old w.drew _ hq
        have hvlt : vb < w.heap.size := (Array.getElem?_eq_some_iff.1 Hvb.out).1
        have hglt : g < w.heap.size := (Array.getElem?_eq_some_iff.1 Hg.out).1
        have hfit2 : (cap + 1) * 8 ≤ c2 * 8 := Nat.mul_le_mul_right _ hc2g
        have Hcp3 : Hid (∀ ty, (Builtin.copy_ #[22, 22] ty #[.slice (some ⟨w.heap.size, i * 8, none⟩) (cap + 1 - i) (c2 - i), .slice (some ⟨vb, 0, none⟩) 1 1]).run Try.prog w2 = .ok (goInt (Nat.min 1 (cap + 1 - i))) (w2.setRow w.heap.size (splice C (i * 8) vs))) := fun ty => by
          have hm : Nat.min 1 (cap + 1 - i) = 1 := by show min 1 (cap + 1 - i) = 1; omega
          exact run_copy_at _ _ _ ty _ j el_ent.ht hj w.heap.size (i * 8) _ _ _ hn2 ⟨vb, 0, none⟩ _ _ vs (by rw [hvl, hs, hm]) (fun q u hu => by rw [World.cell?_of_block (w := w) (hold2 _ (by unfold Addr.add; split <;> exact hvlt))]; exact Hnews.out q u hu) H1v.out (by rw [hvl, hCs]; omega)
        obtain ⟨w3, hw3⟩ : ∃ w3, w3 = w2.setRow w.heap.size (splice C (i * 8) vs) := ⟨_, rfl⟩
        rw [← hw3] at Hcp3
        have hsz3 : (splice C (i * 8) vs).size = c2 * 8 := by rw [splice_size _ _ _ (by rw [hvl, hCs]; omega), hCs]
        have hn3 : w3.heap[w.heap.size]? = some (.cells (splice C (i * 8) vs) 40 (0, 0)) := by rw [hw3]; exact setRow_heap w2 _ _ _ _ _ hn2
        have hold3 : ∀ q, q < w.heap.size → w3.heap[q]? = w.heap[q]? := fun q hq => by rw [hw3, setRow_other w2 _ q _ (by omega)]; exact hold2 q hq
        have hg3 : w3.drew.heap[g]? = some (.cells cur 40 (0, 0)) := (hold3 g hglt).trans Hg.out
        have Hcp4 : Hid (∀ ty, (Builtin.copy_ #[22, 22] ty #[.slice (some ⟨w.heap.size, (i + 1) * 8, none⟩) (cap + 1 - (i + 1)) (c2 - (i + 1)), .slice (some ⟨g, i * 8, none⟩) (cap - i) (cap - i)]).run Try.prog w3.drew = .ok (goInt (Nat.min (cap - i) (cap + 1 - (i + 1)))) (w3.drew.setRow w.heap.size (splice (splice C (i * 8) vs) ((i + 1) * 8) (xs.drop k)))) := fun ty => by
          have hm : Nat.min (cap - i) (cap + 1 - (i + 1)) = cap - i := by show min (cap - i) (cap + 1 - (i + 1)) = cap - i; omega
          exact run_copy_at w3.drew _ _ ty _ j el_ent.ht hj w.heap.size ((i + 1) * 8) _ _ _ hn3 ⟨g, i * 8, none⟩ _ _ (xs.drop k) (by rw [hdl, hs, hm]) (row_read hg3 Htk.out (i * 8) k (by omega)) (fun u hu => h1 u (List.mem_of_mem_drop hu)) (by rw [hdl, hsz3]; omega)
        have HO : Hid ((w3.drew.setRow w.heap.size (splice (splice C (i * 8) vs) ((i + 1) * 8) (xs.drop k))).ownsRow 0 40 8 (.slice (some ⟨w.heap.size, 0, none⟩) (cap + 1) c2) (cap + 1) ys) := by
          refine ⟨?_, .inr ⟨w.heap.size, c2, _, rfl, Nat.zero_le _, setRow_heap w3.drew _ _ _ _ _ hn3, hc2g, hc2m, ?_, ?_⟩⟩
          · rw [Hys.out, List.length_append, List.length_append, List.length_take, List.length_drop, hlen, hvl]; omega
          · rw [splice_size _ _ _ (by rw [hdl, hsz3]; omega), hsz3]
          · rw [Hys.out]
            exact splice_insert2 C xs vs k (cap * 8) 8 ((i + 1) * 8) (i * 8) ((cap + 1) * 8) (by omega) (by omega) (by omega) hlen (by omega) hCt hvl
        have HGr : Hid (w.grownBy (w3.drew.setRow w.heap.size (splice (splice C (i * 8) vs) ((i + 1) * 8) (xs.drop k))) (some g)) := by
          have hz3 : w3.heap.size = w.heap.size + 1 := by rw [hw3, setRow_size, hw2, World.size_alloc]; rfl
          refine ⟨by rw [hw3, hw2]; rfl, by rw [hw3, hw2]; rfl, by rw [hw3, hw2]; rfl, ?_, fun q hq _ => ?_⟩
          · rw [setRow_size]; show w.heap.size ≤ w3.heap.size; omega
          · rw [setRow_other _ _ q _ (by omega)]; exact hold3 q hq
        have hb6 : ¬ (c2 = i) := by omega
        have hb7 : ¬ (c2 = i + 1) := by omega
        have hc2' : ((cap + 1 : Nat) : Int) ≤ c2 := by omega
        rw [← hw2] at Happ
        generalize hW4 : w3.drew.setRow w.heap.size (splice (splice C (i * 8) vs) ((i + 1) * 8) (xs.drop k)) = w4 at *
        clear hW4 hw2 hw3 hn2 hn3 hold2 hold3 hg3 hC hCs hCt hc2 hk hz hj hs hby
        go_enter Try.func56, Try.ntmps56
        go_wp2_with (first | (at_builtin; go_must (refine wpList_append_at rfl _ _ _ _ rfl rfl rfl (Happ.out _) ?_)) | simp only [Hcp3.out])
        refine rs_begin (fun _ => True) (by kernel_rfl) ?_
        refine rs_take (i := 0) rfl (by kernel_rfl) (by kernel_rfl) (by kernel_rfl) (fun _ _ _ h => h) (by rfl) trivial (v := ?_) ?_ ?_
        rotate_left 1
        · intro W _; go_simp; all_goals with_reducible rfl
        simp only [Act.put, List.setIfInBounds_toArray, List.set_cons_zero, List.set_cons_succ]
        refine rs_take (i := 1) rfl (by kernel_rfl) (by kernel_rfl) (by kernel_rfl) (fun _ _ _ h => h) (by rfl) trivial (v := ?_) ?_ ?_
        rotate_left 1
        · intro W _; go_simp; all_goals with_reducible rfl
        simp only [Act.put, List.setIfInBounds_toArray, List.set_cons_zero, List.set_cons_succ]
        refine rs_take (i := 2) rfl (by kernel_rfl) (by kernel_rfl) (by kernel_rfl) (fun _ _ _ h => h) (by rfl) trivial (v := ?_) ?_ ?_
        rotate_left 1
        · intro W _; go_simp; all_goals with_reducible rfl
        simp only [Act.put, List.setIfInBounds_toArray, List.set_cons_zero, List.set_cons_succ]
        refine rs_take (i := 3) rfl (by kernel_rfl) (by kernel_rfl) (by kernel_rfl) (fun _ _ _ h => h) (by rfl) trivial (v := ?_) ?_ ?_
        rotate_left 1
        · intro W _; go_simp; all_goals with_reducible rfl
        simp only [Act.put, List.setIfInBounds_toArray, List.set_cons_zero, List.set_cons_succ]
        refine rs_take (i := 4) rfl (by kernel_rfl) (by kernel_rfl) (by kernel_rfl) (fun _ _ _ h => h) (by rfl) trivial (v := ?_) ?_ ?_
        rotate_left 1
        · intro W _; go_simp; all_goals with_reducible rfl
        simp only [Act.put, List.setIfInBounds_toArray, List.set_cons_zero, List.set_cons_succ]
        refine rs_take (i := 5) rfl (by kernel_rfl) (by kernel_rfl) (by kernel_rfl) (fun _ _ _ h => h) (by rfl) trivial (v := ?_) ?_ ?_
        rotate_left 1
        · intro W _; go_simp; all_goals with_reducible rfl
        simp only [Act.put, List.setIfInBounds_toArray, List.set_cons_zero, List.set_cons_succ]
        refine rs_take (i := 6) rfl (by kernel_rfl) (by kernel_rfl) (by kernel_rfl) (fun _ _ _ h => h) (by rfl) trivial (v := ?_) ?_ ?_
        rotate_left 1
        · intro W _; go_simp; all_goals with_reducible rfl
        simp only [Act.put, List.setIfInBounds_toArray, List.set_cons_zero, List.set_cons_succ]
        refine rs_take (i := 7) rfl (by kernel_rfl) (by kernel_rfl) (by kernel_rfl) (fun _ _ _ h => h) (by rfl) trivial (v := ?_) ?_ ?_
        rotate_left 1
        · intro W _; go_simp; all_goals with_reducible rfl
        simp only [Act.put, List.setIfInBounds_toArray, List.set_cons_zero, List.set_cons_succ]
        refine rs_make (i := 8) (by kernel_rfl) rfl (by rfl) (exec_builtin_copy _ _ _ _ rfl (by simp [Act.eval]) (by simp [Act.eval]) (Hcp4.out _)) trivial ?_
        simp only [Act.put, List.setIfInBounds_toArray, List.set_cons_zero, List.set_cons_succ]
        refine rs_done (by kernel_rfl) ?_
        go_wp2
        exact bodyPost_ret (v := .slice (some ⟨w.heap.size, 0, none⟩) (cap + 1) c2) (by simp [results, Try.results56, go_sem]) rfl ⟨_, rfl, HO.out, HGr.out, .inr ⟨_, rfl, Nat.le_refl _⟩⟩
  · rcases hown.2 with ⟨rfl, rfl⟩ | ⟨g, cap, cur, rfl, -, hg, hnc, hcm, hcs, htk⟩
    · go_enter Try.func56, Try.ntmps56
      go_wp2_with (at_builtin; go_must (refine wpList_append_lies _ rfl _ _ _ rfl 0 _ _ _ 8 24 el_ent.ht rfl rfl rfl rfl rfl (by decide) _ _ _ rfl Hown.out ⟨vb, 0, none⟩ 1 1 vs rfl hvl Hnews.out H1v.out (by decide) (by decide) (by decide) (Nat.zero_le _) _ rfl ?_); intro g cap w1 q1 q2 q3 q4)
      obtain rfl : xs = [] := List.eq_nil_of_length_eq_zero (by simpa using hlen)
      refine bodyPost_ret (v := .slice (some ⟨g, 0, none⟩) 1 cap) (by simp [results, Try.results56, go_sem]) rfl ⟨_, rfl, by rw [Hys.out]; simpa using q1, q2, .inr ⟨g, rfl, ?_⟩⟩
      rcases q3 with q3 | rfl
      · cases q3
      · exact Nat.le_refl _
    · unfold maxLen at hcm
      have hcm' : (cap : Int) ≤ 9223372036854775807 := by omega
      have hnc' : (i : Int) ≤ cap := by omega
      clear hown hg hcs htk
      go_enter Try.func56, Try.ntmps56
      go_wp2_with (at_builtin; go_must (refine wpList_append_lies _ rfl _ _ _ rfl 0 _ _ _ 8 24 el_ent.ht rfl rfl rfl rfl rfl (by decide) _ _ _ rfl Hown.out ⟨vb, 0, none⟩ 1 1 vs rfl hvl Hnews.out H1v.out (by decide) (by unfold maxLen; omega) (by omega) (Nat.zero_le _) _ rfl ?_); intro g2 cap2 w1 q1 q2 q3 q4)
      all_goals
        refine bodyPost_ret (v := .slice (some ⟨g2, 0, none⟩) (i + 1) cap2) (by simp [results, Try.results56, go_sem]) rfl ⟨_, rfl, by rw [Hys.out, ← hlen, List.take_length, List.drop_length, List.append_nil]; exact q1, q2, ?_⟩
        rcases q3 with q3 | rfl
        · exact .inl q3.symm
        · exact .inr ⟨_, rfl, Nat.le_refl _⟩
end Go.Proofs.Ytkifagflnpkkaaa
