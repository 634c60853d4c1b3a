/- row.drop of a number that is there. No condition. -/
import Derived.Test.YtkifagflnpkkaaaVst
import Derived.Test.YtkifagflnpkkaaaStp
import Derived.Test.YtkifagflnpkkaaaTabP
namespace Go.Proofs.Ytkifagflnpkkaaa
set_option linter.unusedSimpArgs false
set_option linter.unusedVariables false
open Go.RowKit
set_option maxRecDepth 10000

theorem put_next {cs : List Value} {o : Nat} {u v : Value} (h : cs[o + 1]? = some v) : (putAt cs o [u])[o + 1]? = some v := by
  have hl := (List.getElem?_eq_some_iff.1 h).1
  unfold putAt
  rw [List.getElem?_append_right (by rw [List.length_append, List.length_take]; simp; omega), List.getElem?_drop]
  rw [← h]; congr 1; rw [List.length_append, List.length_take]; simp; omega
theorem putAt_one {cs : List Value} {o : Nat} {u : Value} (h : o < cs.length) : putAt cs o [u] = cs.set o u := by
  unfold putAt
  rw [List.set_eq_take_append_cons_drop, if_pos h]
  simp
theorem ecs_erase (us : List EntL) (a : Nat) : ecs (us.eraseIdx a) = (ecs us).take (a * 8) ++ (ecs us).drop ((a + 1) * 8) := by
  rw [List.eraseIdx_eq_take_drop_succ, ← ecs_take, ← ecs_drop]
  unfold ecs
  simp

set_option maxHeartbeats 4000000 in
theorem drop_int_st (R o p c1 c2 g1 g2 : Nat) (cs : List Value) (t : TypeId) (ks : List Int) (us : List Int) (k : Int) (w : World) (z : Nat → Prop)
    (hc0 : cs[o]? = some (.slice (some ⟨g1, 0, none⟩) (p + 1) c1)) (hc1 : cs[o + 1]? = some (.slice (some ⟨g2, 0, none⟩) (p + 1) c2))
    (H : St w (feet [vec 3 1 (.slice (some ⟨g1, 0, none⟩) (p + 1) c1) (p + 1) (ks.map iv), vec 3 1 (.slice (some ⟨g2, 0, none⟩) (p + 1) c2) (p + 1) (List.map iv us), va R cs t]) z [vec 3 1 (.slice (some ⟨g1, 0, none⟩) (p + 1) c1) (p + 1) (ks.map iv), vec 3 1 (.slice (some ⟨g2, 0, none⟩) (p + 1) c2) (p + 1) (List.map iv us), va R cs t] [] w)
    (hs : ks.Pairwise (· < ·)) (hp : p ≤ 100000) (hin : k ∈ ks) :
    Calls Try.prog 54 #[.pointer (some ⟨R, o, none⟩), .int .i64 k] w fun e w' => e = .returned (.tuple #[]) ∧ ∃ a, ks[a]? = some k ∧
      St w (feet [vec 3 1 (.slice (some ⟨g1, 0, none⟩) (p + 1) c1) (p + 1) (ks.map iv), vec 3 1 (.slice (some ⟨g2, 0, none⟩) (p + 1) c2) (p + 1) (List.map iv us), va R cs t]) z
        [vec 3 1 (.slice (some ⟨g1, 0, none⟩) p c1) p ((ks.eraseIdx a).map iv), vec 3 1 (.slice (some ⟨g2, 0, none⟩) p c2) p (List.map iv (us.eraseIdx a)), va R ((cs.set o (.slice (some ⟨g1, 0, none⟩) p c1)).set (o + 1) (.slice (some ⟨g2, 0, none⟩) p c2)) t] [] w' := by
  have hk : w.ownsRow 0 3 1 (.slice (some ⟨g1, 0, none⟩) (p + 1) c1) (p + 1) (ks.map iv) := H.has 0 rfl
  have hu : w.ownsRow 0 3 1 (.slice (some ⟨g2, 0, none⟩) (p + 1) c2) (p + 1) (List.map iv us) := H.has 1 rfl
  have hR : w.heap[R]? = some (.cells cs.toArray t (0, 0)) := H.has 2 rfl
  have hl : ks.length = p + 1 := by have := hk.1; rw [List.length_map] at this; omega
  have HI := Lib.hid (iv_one ks)
  have HJ := Lib.hid (iv_one us)
  have HP := Lib.hid (place_int R o (.slice (some ⟨g1, 0, none⟩) (p + 1) c1) ks k w (by rw [cell_of_row w R _ _ _ _ hR]; simpa using hc0) (own_ints hk) hs (by omega))
  have hul : us.length = p + 1 := by have := hu.1; rw [List.length_map] at this; omega
  obtain ⟨Gf, hGf⟩ : ∃ Gf, Gf = feet [vec 3 1 (.slice (some ⟨g1, 0, none⟩) (p + 1) c1) (p + 1) (ks.map iv), vec 3 1 (.slice (some ⟨g2, 0, none⟩) (p + 1) c2) (p + 1) (List.map iv us), va R cs t] := ⟨_, rfl⟩
  rw [← hGf] at H ⊢
  replace H := Lib.hid H
  clear hR hk hu hGf
  have ho0 : o < cs.length := (List.getElem?_eq_some_iff.1 hc0).1
  have ho1 : o + 1 < cs.length := (List.getElem?_eq_some_iff.1 hc1).1
  (try clear F); have F := H.out.facts; simp only [fxx] at F
  have HW := F.1
  have hf0 := F.2.1
  clear F
  have e0 : w.cell? ⟨R, o, none⟩ = some (.slice (some ⟨g1, 0, none⟩) (p + 1) c1) := (HW o).trans hc0
  have F := HW
  clear HW
  go_enter Try.func54, Try.ntmps54
  go_wp2_with (first
    | (go_at_call 60; refine HP.out.mono ?_; rintro e w1 ⟨rfl, a, rfl, hpl⟩; have hka := place_there hs hin hpl; rw [hka, decide_eq_true rfl]; have hal : a < ks.length := (List.getElem?_eq_some_iff.1 hka).1; clear hpl HP; have HKA := Lib.hid hka; clear hka)
    | (go_at_call 52
       refine (delete_int g1 p c1 (ks.map iv) a _ (H.out.has 0 rfl) (by omega) hp HI.out ((ks.eraseIdx a).map iv) (by rw [List.eraseIdx_eq_take_drop_succ]; simp)).mono ?_
       rintro e w2 ⟨rfl, ho, hg⟩
       have H1 := H.out.upd 0 rfl (vec 3 1 (.slice (some ⟨g1, 0, none⟩) p c1) p ((ks.eraseIdx a).map iv)) ⟨hg.os, hg.tape, hg.output, hg.size, fun k hk hn => hg.block k hk (fun e => hn e.symm)⟩ ho (fun b hb => .inl hb) [] (by simp)
       simp only [List.set_cons_zero, List.nil_append] at H1
       clear ho hg e0
       (try clear F); clear H; have H := Lib.hid H1; have F := H1.facts; simp only [fxx] at F; clear H1
       have hf0 := F.2.1; clear F)
    | (go_at_call 52
       refine (delete_int g2 p c2 (List.map iv us) a _ (H.out.has 1 rfl) (by omega) hp HJ.out (List.map iv (us.eraseIdx a)) (by rw [List.eraseIdx_eq_take_drop_succ]; simp)).mono ?_
       rintro e w2 ⟨rfl, ho, hg⟩
       have H1 := H.out.upd 1 rfl (vec 3 1 (.slice (some ⟨g2, 0, none⟩) p c2) p (List.map iv (us.eraseIdx a))) ⟨hg.os, hg.tape, hg.output, hg.size, fun k hk hn => hg.block k hk (fun e => hn e.symm)⟩ ho (fun b hb => .inl hb) [] (by simp)
       simp only [List.set_cons_zero, List.set_cons_succ, List.nil_append] at H1
       clear ho hg; (try clear e1)
       (try clear F); clear H; have H := Lib.hid H1; have F := H1.facts; simp only [fxx] at F; clear H1
       have hf0 := F.2.1; clear F)
    | (show wpList _ _ _ (Oper.mk none (Op.store _ _ _) _ _ _ _ :: _) _ _
       refine wl_store H.out 2 rfl rfl rfl (by rfl) (by simp [Act.eval, Value.cells]; rfl) (by kernel_rfl) (by simp only [List.length_cons, List.length_nil]; first | omega | (rw [putAt_one ho0, List.length_set]; omega)) (by simp [Value.oneCell']) ?_
       intro w3 H1 hle3
       simp only [List.set_cons_zero, List.set_cons_succ] at H1
       (try clear F); clear H; have H := Lib.hid H1; have F := H1.facts; simp only [fxx] at F; clear H1
       (try have e1 := (F.1 (o + 1)).trans (put_next hc1))
       have hf0 := F.2.1; clear F))
  refine bodyPost_end (results_none rfl _ _ _) rfl ⟨rfl, a, HKA.out, ?_⟩
  have h := H.out
  rw [putAt_one ho0, putAt_one (by rw [List.length_set]; exact ho1)] at h
  exact h
theorem drop_int (R o p c1 c2 g1 g2 : Nat) (cs : List Value) (t : TypeId) (ks : List Int) (us : List Int) (k : Int) (w : World) (hR : w.heap[R]? = some (.cells cs.toArray t (0, 0)))
    (hc0 : cs[o]? = some (.slice (some ⟨g1, 0, none⟩) (p + 1) c1)) (hc1 : cs[o + 1]? = some (.slice (some ⟨g2, 0, none⟩) (p + 1) c2))
    (hk : w.ownsRow 0 3 1 (.slice (some ⟨g1, 0, none⟩) (p + 1) c1) (p + 1) (ks.map iv)) (hu : w.ownsRow 0 3 1 (.slice (some ⟨g2, 0, none⟩) (p + 1) c2) (p + 1) (List.map iv us)) (hR1 : g1 ≠ R) (hR2 : g2 ≠ R) (h12 : g1 ≠ g2)
    (hs : ks.Pairwise (· < ·)) (hp : p ≤ 100000) (hin : k ∈ ks) :
    Calls Try.prog 54 #[.pointer (some ⟨R, o, none⟩), .int .i64 k] w fun e w' => e = .returned (.tuple #[]) ∧ ∃ a, ks[a]? = some k ∧
      w'.ownsRow 0 3 1 (.slice (some ⟨g1, 0, none⟩) p c1) p ((ks.eraseIdx a).map iv) ∧ w'.ownsRow 0 3 1 (.slice (some ⟨g2, 0, none⟩) p c2) p (List.map iv (us.eraseIdx a)) ∧
      w'.heap[R]? = some (.cells ((cs.set o (.slice (some ⟨g1, 0, none⟩) p c1)).set (o + 1) (.slice (some ⟨g2, 0, none⟩) p c2)).toArray t (0, 0)) ∧ Kept w w' (fun b => b = R ∨ b = g1 ∨ b = g2) := by
  refine (drop_int_st R o p c1 c2 g1 g2 cs t ks us k w (fun _ => False) hc0 hc1 (St.begin w _ _ _ [] ?_ ?_ ?_ (by simp)) hs hp hin).mono fun e w' ⟨h1, a, h2, h3⟩ => ⟨h1, a, h2, h3.has 0 rfl, h3.has 1 rfl, h3.has 2 rfl, h3.base.os, h3.base.tape, h3.base.output, h3.base.size, fun k hk hn => h3.base.block k hk ?_⟩
  · simp only [List.mem_cons, List.not_mem_nil, or_false, forall_eq_or_imp, forall_eq]; exact ⟨hk, hu, hR⟩
  · exact fun o ho b hb => ⟨⟨o, ho, hb⟩, id⟩
  · refine List.pairwise_cons.2 ⟨?_, List.pairwise_cons.2 ⟨?_, List.pairwise_singleton _ _⟩⟩ <;> simp only [List.mem_cons, List.not_mem_nil, or_false, forall_eq_or_imp, forall_eq]
    · exact ⟨fun b hb hb' => by cases hb; cases hb'; exact h12 rfl, fun b hb hb' => by cases hb; exact hR1 hb'⟩
    · exact fun b hb hb' => by cases hb; exact hR2 hb'
  · rintro ⟨o, ho, hb⟩
    simp only [List.mem_cons, List.not_mem_nil, or_false] at ho
    rcases ho with rfl | rfl | rfl
    · cases hb; exact hn (.inr (.inl rfl))
    · cases hb; exact hn (.inr (.inr rfl))
    · exact hn (.inl hb)


set_option maxHeartbeats 4000000 in
theorem drop_ent_st (R o p c1 c2 g1 g2 : Nat) (cs : List Value) (t : TypeId) (ks : List Int) (us : List EntL) (k : Int) (w : World) (z : Nat → Prop)
    (hc0 : cs[o]? = some (.slice (some ⟨g1, 0, none⟩) (p + 1) c1)) (hc1 : cs[o + 1]? = some (.slice (some ⟨g2, 0, none⟩) (p + 1) c2))
    (H : St w (feet [vec 3 1 (.slice (some ⟨g1, 0, none⟩) (p + 1) c1) (p + 1) (ks.map iv), vec 40 8 (.slice (some ⟨g2, 0, none⟩) (p + 1) c2) (p + 1) (ecs us), va R cs t]) z [vec 3 1 (.slice (some ⟨g1, 0, none⟩) (p + 1) c1) (p + 1) (ks.map iv), vec 40 8 (.slice (some ⟨g2, 0, none⟩) (p + 1) c2) (p + 1) (ecs us), va R cs t] [] w)
    (hs : ks.Pairwise (· < ·)) (hp : p ≤ 100000) (hin : k ∈ ks) :
    Calls Try.prog 39 #[.pointer (some ⟨R, o, none⟩), .int .i64 k] w fun e w' => e = .returned (.tuple #[]) ∧ ∃ a, ks[a]? = some k ∧
      St w (feet [vec 3 1 (.slice (some ⟨g1, 0, none⟩) (p + 1) c1) (p + 1) (ks.map iv), vec 40 8 (.slice (some ⟨g2, 0, none⟩) (p + 1) c2) (p + 1) (ecs us), va R cs t]) z
        [vec 3 1 (.slice (some ⟨g1, 0, none⟩) p c1) p ((ks.eraseIdx a).map iv), vec 40 8 (.slice (some ⟨g2, 0, none⟩) p c2) p (ecs (us.eraseIdx a)), va R ((cs.set o (.slice (some ⟨g1, 0, none⟩) p c1)).set (o + 1) (.slice (some ⟨g2, 0, none⟩) p c2)) t] [] w' := by
  have hk : w.ownsRow 0 3 1 (.slice (some ⟨g1, 0, none⟩) (p + 1) c1) (p + 1) (ks.map iv) := H.has 0 rfl
  have hu : w.ownsRow 0 40 8 (.slice (some ⟨g2, 0, none⟩) (p + 1) c2) (p + 1) (ecs us) := H.has 1 rfl
  have hR : w.heap[R]? = some (.cells cs.toArray t (0, 0)) := H.has 2 rfl
  have hl : ks.length = p + 1 := by have := hk.1; rw [List.length_map] at this; omega
  have HI := Lib.hid (iv_one ks)
  have HJ := Lib.hid (ecs_one us)
  have HP := Lib.hid (place_ent R o (.slice (some ⟨g1, 0, none⟩) (p + 1) c1) ks k w (by rw [cell_of_row w R _ _ _ _ hR]; simpa using hc0) (own_ints hk) hs (by omega))
  have hul : us.length = p + 1 := by have := hu.1; rw [ecs_len] at this; omega
  obtain ⟨Gf, hGf⟩ : ∃ Gf, Gf = feet [vec 3 1 (.slice (some ⟨g1, 0, none⟩) (p + 1) c1) (p + 1) (ks.map iv), vec 40 8 (.slice (some ⟨g2, 0, none⟩) (p + 1) c2) (p + 1) (ecs us), va R cs t] := ⟨_, rfl⟩
  rw [← hGf] at H ⊢
  replace H := Lib.hid H
  clear hR hk hu hGf
  have ho0 : o < cs.length := (List.getElem?_eq_some_iff.1 hc0).1
  have ho1 : o + 1 < cs.length := (List.getElem?_eq_some_iff.1 hc1).1
  (try clear F); have F := H.out.facts; simp only [fxx] at F
  have HW := F.1
  have hf0 := F.2.1
  clear F
  have e0 : w.cell? ⟨R, o, none⟩ = some (.slice (some ⟨g1, 0, none⟩) (p + 1) c1) := (HW o).trans hc0
  have F := HW
  clear HW
  go_enter Try.func39, Try.ntmps39
  go_wp2_with (first
    | (go_at_call 51; refine HP.out.mono ?_; rintro e w1 ⟨rfl, a, rfl, hpl⟩; have hka := place_there hs hin hpl; rw [hka, decide_eq_true rfl]; have hal : a < ks.length := (List.getElem?_eq_some_iff.1 hka).1; clear hpl HP; have HKA := Lib.hid hka; clear hka)
    | (go_at_call 52
       refine (delete_int g1 p c1 (ks.map iv) a _ (H.out.has 0 rfl) (by omega) hp HI.out ((ks.eraseIdx a).map iv) (by rw [List.eraseIdx_eq_take_drop_succ]; simp)).mono ?_
       rintro e w2 ⟨rfl, ho, hg⟩
       have H1 := H.out.upd 0 rfl (vec 3 1 (.slice (some ⟨g1, 0, none⟩) p c1) p ((ks.eraseIdx a).map iv)) ⟨hg.os, hg.tape, hg.output, hg.size, fun k hk hn => hg.block k hk (fun e => hn e.symm)⟩ ho (fun b hb => .inl hb) [] (by simp)
       simp only [List.set_cons_zero, List.nil_append] at H1
       clear ho hg e0
       (try clear F); clear H; have H := Lib.hid H1; have F := H1.facts; simp only [fxx] at F; clear H1
       have hf0 := F.2.1; clear F)
    | (go_at_call 53
       refine (delete_ent g2 p c2 (ecs us) a _ (H.out.has 1 rfl) (by omega) hp HJ.out (ecs (us.eraseIdx a)) (by exact ecs_erase us a)).mono ?_
       rintro e w2 ⟨rfl, ho, hg⟩
       have H1 := H.out.upd 1 rfl (vec 40 8 (.slice (some ⟨g2, 0, none⟩) p c2) p (ecs (us.eraseIdx a))) ⟨hg.os, hg.tape, hg.output, hg.size, fun k hk hn => hg.block k hk (fun e => hn e.symm)⟩ ho (fun b hb => .inl hb) [] (by simp)
       simp only [List.set_cons_zero, List.set_cons_succ, List.nil_append] at H1
       clear ho hg; (try clear e1)
       (try clear F); clear H; have H := Lib.hid H1; have F := H1.facts; simp only [fxx] at F; clear H1
       have hf0 := F.2.1; clear F)
    | (show wpList _ _ _ (Oper.mk none (Op.store _ _ _) _ _ _ _ :: _) _ _
       refine wl_store H.out 2 rfl rfl rfl (by rfl) (by simp [Act.eval, Value.cells]; rfl) (by kernel_rfl) (by simp only [List.length_cons, List.length_nil]; first | omega | (rw [putAt_one ho0, List.length_set]; omega)) (by simp [Value.oneCell']) ?_
       intro w3 H1 hle3
       simp only [List.set_cons_zero, List.set_cons_succ] at H1
       (try clear F); clear H; have H := Lib.hid H1; have F := H1.facts; simp only [fxx] at F; clear H1
       (try have e1 := (F.1 (o + 1)).trans (put_next hc1))
       have hf0 := F.2.1; clear F))
  refine bodyPost_end (results_none rfl _ _ _) rfl ⟨rfl, a, HKA.out, ?_⟩
  have h := H.out
  rw [putAt_one ho0, putAt_one (by rw [List.length_set]; exact ho1)] at h
  exact h
theorem drop_ent (R o p c1 c2 g1 g2 : Nat) (cs : List Value) (t : TypeId) (ks : List Int) (us : List EntL) (k : Int) (w : World) (hR : w.heap[R]? = some (.cells cs.toArray t (0, 0)))
    (hc0 : cs[o]? = some (.slice (some ⟨g1, 0, none⟩) (p + 1) c1)) (hc1 : cs[o + 1]? = some (.slice (some ⟨g2, 0, none⟩) (p + 1) c2))
    (hk : w.ownsRow 0 3 1 (.slice (some ⟨g1, 0, none⟩) (p + 1) c1) (p + 1) (ks.map iv)) (hu : w.ownsRow 0 40 8 (.slice (some ⟨g2, 0, none⟩) (p + 1) c2) (p + 1) (ecs us)) (hR1 : g1 ≠ R) (hR2 : g2 ≠ R) (h12 : g1 ≠ g2)
    (hs : ks.Pairwise (· < ·)) (hp : p ≤ 100000) (hin : k ∈ ks) :
    Calls Try.prog 39 #[.pointer (some ⟨R, o, none⟩), .int .i64 k] w fun e w' => e = .returned (.tuple #[]) ∧ ∃ a, ks[a]? = some k ∧
      w'.ownsRow 0 3 1 (.slice (some ⟨g1, 0, none⟩) p c1) p ((ks.eraseIdx a).map iv) ∧ w'.ownsRow 0 40 8 (.slice (some ⟨g2, 0, none⟩) p c2) p (ecs (us.eraseIdx a)) ∧
      w'.heap[R]? = some (.cells ((cs.set o (.slice (some ⟨g1, 0, none⟩) p c1)).set (o + 1) (.slice (some ⟨g2, 0, none⟩) p c2)).toArray t (0, 0)) ∧ Kept w w' (fun b => b = R ∨ b = g1 ∨ b = g2) := by
  refine (drop_ent_st R o p c1 c2 g1 g2 cs t ks us k w (fun _ => False) hc0 hc1 (St.begin w _ _ _ [] ?_ ?_ ?_ (by simp)) hs hp hin).mono fun e w' ⟨h1, a, h2, h3⟩ => ⟨h1, a, h2, h3.has 0 rfl, h3.has 1 rfl, h3.has 2 rfl, h3.base.os, h3.base.tape, h3.base.output, h3.base.size, fun k hk hn => h3.base.block k hk ?_⟩
  · simp only [List.mem_cons, List.not_mem_nil, or_false, forall_eq_or_imp, forall_eq]; exact ⟨hk, hu, hR⟩
  · exact fun o ho b hb => ⟨⟨o, ho, hb⟩, id⟩
  · refine List.pairwise_cons.2 ⟨?_, List.pairwise_cons.2 ⟨?_, List.pairwise_singleton _ _⟩⟩ <;> simp only [List.mem_cons, List.not_mem_nil, or_false, forall_eq_or_imp, forall_eq]
    · exact ⟨fun b hb hb' => by cases hb; cases hb'; exact h12 rfl, fun b hb hb' => by cases hb; exact hR1 hb'⟩
    · exact fun b hb hb' => by cases hb; exact hR2 hb'
  · rintro ⟨o, ho, hb⟩
    simp only [List.mem_cons, List.not_mem_nil, or_false] at ho
    rcases ho with rfl | rfl | rfl
    · cases hb; exact hn (.inr (.inl rfl))
    · cases hb; exact hn (.inr (.inr rfl))
    · exact hn (.inl hb)

end Go.Proofs.Ytkifagflnpkkaaa
