/- Table.Touch: an entry that is there is written anew. No condition. -/
import Derived.Test.YtkifagflnpkkaaaRmv
import Derived.Test.YtkifagflnpkkaaaRz
namespace Go.Proofs.Ytkifagflnpkkaaa
set_option linter.unusedSimpArgs false
set_option linter.unusedVariables false
-- FSX: ec, iv, facts_txo, macs
open Go.RowKit
set_option maxRecDepth 10000

/-- a store into an element of one's own slice, in a region that draws -/
theorem sz_storev {P : Program} {ops : Array Oper} {Q : Exit → Act → World → Prop} {S : World → Prop} {w0 wk : World} {G z : Nat → Prop} {O : List As} {T : List Rd} {a : Act} {fuel : Nat} {listed : Array Bool} {i : Nat} {o : Oper} (H : St w0 G z O T wk) (k : Nat) {e size g n c : Nat} {xs : List Value} (hO : O[k]? = some (vec e size (.slice (some ⟨g, 0, none⟩) n c) n xs)) (hi : ops.toList[i]? = some o) {ty : TypeId} {x y : Operand} (ho : o.op = .store ty x y) {off : Nat} (hx : a.eval x = .pointer (some ⟨g, off, none⟩)) (hw : Region.wanted o (yielded ops a.tmps) = true)
    {new : List Value} (hn : (a.eval y).cells.toList = new) (hsz : (P.info? ty).map (·.size) = some new.length) (hle : off + new.length ≤ xs.length) (h1 : ∀ u ∈ new, u.oneCell' = true)
    (hS : ∀ W, St w0 G z (O.set k (vec e size (.slice (some ⟨g, 0, none⟩) n c) n (putAt xs off new))) T W → S W)
    (h : ∀ W, St w0 G z (O.set k (vec e size (.slice (some ⟨g, 0, none⟩) n c) n (putAt xs off new))) T W → wk.heap.size ≤ W.heap.size → wpAnyH P .any ops Q S fuel (listed.setIfInBounds i true) (a.put o.dst undef) W) : rsSt P .any ops Q S fuel listed a wk i := by
  obtain ⟨W, h2, h3, h4⟩ := H.putv (P := P) k hO off new hle h1
  exact ss_skip hi hw (exec_store_at ho hx hn hsz h2) (hS W h3) (h W h3 h4)
theorem ecs_set (us : List EntL) (a : Nat) (x : EntL) (h : a < us.length) : putAt (ecs us) (a * 8) (ec x) = ecs (us.set a x) := by
  have h1 : us.set a x = us.take a ++ [x] ++ us.drop (a + 1) := by rw [List.set_eq_take_append_cons_drop, if_pos h]; simp
  have h2 : ecs (us.set a x) = ecs (us.take a) ++ ec x ++ ecs (us.drop (a + 1)) := by rw [h1]; unfold ecs; simp
  rw [h2, ecs_take, ecs_drop]
  unfold putAt
  rw [ec_len, show a * 8 + 8 = (a + 1) * 8 by omega]

set_option maxHeartbeats 4000000 in
theorem putthere_st (R o g c n : Nat) (kv : Value) (ks : List Int) (us : List EntL) (k : Int) (x : EntL) (w : World) (z : Nat → Prop)
    (H : St w (feet [vec 40 8 (.slice (some ⟨g, 0, none⟩) n c) n (ecs us), vec 3 1 kv n (ks.map iv)]) z [vec 40 8 (.slice (some ⟨g, 0, none⟩) n c) n (ecs us), vec 3 1 kv n (ks.map iv)] [rdE R o [kv, .slice (some ⟨g, 0, none⟩) n c]] w)
    (hs : ks.Pairwise (· < ·)) (hn : n ≤ 100000) (hin : k ∈ ks) :
    Calls Try.prog 41 #[.pointer (some ⟨R, o, none⟩), .int .i64 k, .agg (ec x).toArray] w fun e w' => e = .returned (.tuple #[]) ∧ ∃ a, ks[a]? = some k ∧
      St w (feet [vec 40 8 (.slice (some ⟨g, 0, none⟩) n c) n (ecs us), vec 3 1 kv n (ks.map iv)]) z [vec 40 8 (.slice (some ⟨g, 0, none⟩) n c) n (ecs (us.set a x)), vec 3 1 kv n (ks.map iv)] [rdE R o [kv, .slice (some ⟨g, 0, none⟩) n c]] w' := by
  have hl : ks.length = n := by have := (H.has 1 rfl).1; rw [List.length_map] at this; omega
  have hul : us.length = n := by have := (H.has 0 rfl).1; rw [ecs_len] at this; omega
  have HP : Hid (∀ W, W.cell? ⟨R, o, none⟩ = some kv → W.ownsRow 0 3 1 kv n (ks.map iv) → Calls Try.prog 51 #[.pointer (some ⟨R, o, none⟩), .int .i64 k] W fun e w' => w' = W ∧ ∃ a : Nat, e = .returned (.tuple #[.int .i64 a, .bool true]) ∧ ks[a]? = some k) := fun W hc ho => (place_ent R o kv ks k W hc (own_ints ho) hs (by omega)).mono (by
    rintro e w' ⟨h1, a, h2, h3⟩
    have := place_there hs hin h3
    rw [this, decide_eq_true rfl] at h2
    exact ⟨h1, a, h2, this⟩)
  obtain ⟨Gf, hGf⟩ : ∃ Gf, Gf = feet [vec 40 8 (.slice (some ⟨g, 0, none⟩) n c) n (ecs us), vec 3 1 kv n (ks.map iv)] := ⟨_, rfl⟩
  rw [← hGf] at H ⊢
  clear hGf
  replace H := Lib.hid H
  (try clear F); have F := H.out.facts; simp only [fxx, ec, iv, facts_txo, macs] at F
  have HEQ := Lib.hid (ecs_set us)
  have HEL := Lib.hid (ecs_len us)
  go_enter Try.func41, Try.ntmps41
  simp only [ec]
  go_wp2_with (first
    | (go_at_call 51; refine (HP.out _ (by have h := H.out.facts; simp only [fxx, ec, iv, facts_txo, macs] at h; first | exact h.2.2.1 | exact h.2.2.2.2.1 | exact h.2.1 | simp [h]) (H.out.has 2 rfl)).mono ?_; rintro e w5 ⟨rfl, a, rfl, hka⟩; have HKA := Lib.hid hka; have hal : a < n := by { have := (List.getElem?_eq_some_iff.1 hka).1; omega }; clear hka)
    | (show wpList _ _ _ _ _ (World.drewN _ _); refine wl_drewN H.out ?_; intro w4 H1 hle4; (try clear F); clear H; have H := Lib.hid H1; have F := H1.facts; simp only [fxx, ec, iv, facts_txo, macs] at F; clear H1)
    | (show Code.wp _ _ _ _ (World.drewN _ _); refine cw_drewN H.out ?_; intro w4 H1 hle4; (try clear F); clear H; have H := Lib.hid H1; have F := H1.facts; simp only [fxx, ec, iv, facts_txo, macs] at F; clear H1)
    | (show wpList _ _ _ _ _ (World.alloc _ _); refine wl_absorb H.out ?_; intro w1 H1 hlt1; (try clear F); clear H; have H := Lib.hid H1; have F := H1.facts; simp only [fxx, ec, iv, facts_txo, macs] at F; clear H1)
    | (show Code.wp _ _ _ _ (World.alloc _ _); refine cw_absorb H.out ?_; intro w2 H1 hlt2; (try clear F); clear H; have H := Lib.hid H1; have F := H1.facts; simp only [fxx, ec, iv, facts_txo, macs] at F; clear H1)
    | (show wpList _ _ _ (Oper.mk none (Op.store _ _ _) _ _ _ _ :: _) _ _; (first | refine wl_store H.out 0 rfl rfl rfl (by rfl) (by simp [Act.eval, Value.cells]; rfl) (by kernel_rfl) (by simp) (by simp [Value.oneCell']) ?_ | refine wl_store H.out 1 rfl rfl rfl (by rfl) (by simp [Act.eval, Value.cells]; rfl) (by kernel_rfl) (by simp) (by simp [Value.oneCell']) ?_); intro w3 H1 hle3; simp only [px] at H1; (try clear F); clear H; have H := Lib.hid H1; have F := H1.facts; simp only [fxx, ec, iv, facts_txo, macs] at F; clear H1))
  have H1 := H.out.front 1 rfl; simp only [List.eraseIdx_cons_succ, List.eraseIdx_cons_zero] at H1; (try clear F); clear H; have H := Lib.hid H1; have F := H1.facts; simp only [fxx, ec, iv, facts_txo, macs] at F; clear H1
  refine rz_start H.out (List.sublist_cons_self _ _) (by kernel_rfl) ?_; intro w4 H1 hle4; (try clear F); clear H; have H := Lib.hid H1; have F := H1.facts; simp only [fxx, ec, iv, facts_txo, macs] at F; clear H1
  refine rz_reads [0, 1, 2, 3, 4, 5, 6] (by kernel_rfl) (H.out.sub (by first | exact List.Sublist.refl _ | exact List.sublist_cons_self _ _ | exact (List.sublist_cons_self _ _).trans (List.sublist_cons_self _ _) | exact ((List.sublist_cons_self _ _).trans (List.sublist_cons_self _ _)).trans (List.sublist_cons_self _ _)) (by intro _ h; first | exact h | exact .tail _ h | exact .tail _ (.tail _ h) | exact .tail _ (.tail _ (.tail _ h)) | exact .tail _ (.tail _ (.tail _ (.tail _ h))) | (simp only [List.mem_cons, List.not_mem_nil, or_false] at h ⊢; first | (simp [h]; done) | (rcases h with h | h <;> simp [h]; done) | (rcases h with h | h | h <;> simp [h]; done) | (rcases h with h | h | h | h <;> simp [h]; done)))) (fun d _ _ _ _ h => by cases d <;> exact h) ?_; (repeat first | (refine rd_skip rfl (by rfl) ?_; simp only [pz]) | (refine rd_step (v := ?_) rfl (by rfl) ?_ ?_; rotate_left 1; (focus intro W hW; have F := St.facts hW; simp only [fxx, ec, iv, facts_txo, macs] at F; go_simp; all_goals with_reducible rfl); simp only [pz])); refine rd_end ?_; show wpAnyH _ _ _ _ _ _ _ _ _
  refine rz_one 7 (by kernel_rfl) ?_
  refine sz_storev H.out 0 rfl rfl rfl rfl (by rfl) (by simp [Act.eval, Value.cells]; rfl) (by kernel_rfl) (by have h := HEL.out; simp only [List.length_cons, List.length_nil]; omega) (by simp [Value.oneCell']) (fun W h => h.sub (List.sublist_cons_self _ _) (fun _ h => h)) ?_; intro w3 H1 hle3; simp only [List.set_cons_zero] at H1; (try clear F); clear H; have H := Lib.hid H1; have F := H1.facts; simp only [fxx, ec, iv, facts_txo, macs] at F; clear H1; simp only [pz]
  refine rz_done (by kernel_rfl) ?_
  go_wp2_with (first
    | (show wpList _ _ _ _ _ (World.drewN _ _); refine wl_drewN H.out ?_; intro w4 H1 hle4; (try clear F); clear H; have H := Lib.hid H1; have F := H1.facts; simp only [fxx, ec, iv, facts_txo, macs] at F; clear H1)
    | (show Code.wp _ _ _ _ (World.drewN _ _); refine cw_drewN H.out ?_; intro w4 H1 hle4; (try clear F); clear H; have H := Lib.hid H1; have F := H1.facts; simp only [fxx, ec, iv, facts_txo, macs] at F; clear H1)
    | (show wpList _ _ _ _ _ (World.alloc _ _); refine wl_absorb H.out ?_; intro w1 H1 hlt1; (try clear F); clear H; have H := Lib.hid H1; have F := H1.facts; simp only [fxx, ec, iv, facts_txo, macs] at F; clear H1)
    | (show Code.wp _ _ _ _ (World.alloc _ _); refine cw_absorb H.out ?_; intro w2 H1 hlt2; (try clear F); clear H; have H := Lib.hid H1; have F := H1.facts; simp only [fxx, ec, iv, facts_txo, macs] at F; clear H1)
    | (show wpList _ _ _ (Oper.mk none (Op.store _ _ _) _ _ _ _ :: _) _ _; (first | refine wl_store H.out 0 rfl rfl rfl (by rfl) (by simp [Act.eval, Value.cells]; rfl) (by kernel_rfl) (by simp) (by simp [Value.oneCell']) ?_ | refine wl_store H.out 1 rfl rfl rfl (by rfl) (by simp [Act.eval, Value.cells]; rfl) (by kernel_rfl) (by simp) (by simp [Value.oneCell']) ?_); intro w3 H1 hle3; simp only [px] at H1; (try clear F); clear H; have H := Lib.hid H1; have F := H1.facts; simp only [fxx, ec, iv, facts_txo, macs] at F; clear H1))
  refine bodyPost_ret (results_none rfl _ _ _) rfl ⟨rfl, a, HKA.out, ?_⟩
  have h := H.out.sub (O' := [_, _]) (T' := [_]) (List.Sublist.cons_cons _ (List.Sublist.cons _ (List.Sublist.refl _))) (fun _ h => h)
  rw [← HEQ.out a x (by omega)]
  exact h
end Go.Proofs.Ytkifagflnpkkaaa
