/- index.forget: a number that is there goes out of its address's row; an empty row goes out of the map. No condition. -/
import Derived.Test.YtkifagflnpkkaaaDrp
import Derived.Test.YtkifagflnpkkaaaTCom
namespace Go.Proofs.Ytkifagflnpkkaaa
set_option linter.unusedSimpArgs false
set_option linter.unusedVariables false
-- FSX: facts_mobj, macs
open Go.RowKit
set_option maxRecDepth 10000

def del (f : List (Mac × Value)) (m : Mac) : List (Mac × Value) := match lookAt m f 0 with | some (i, _) => f.eraseIdx i | none => f
theorem map_erase {α β : Type} (f : α → β) : ∀ (l : List α) (i : Nat), (l.eraseIdx i).map f = (l.map f).eraseIdx i
  | [], _ => rfl
  | _ :: _, 0 => rfl
  | x :: l, i + 1 => by simp only [List.eraseIdx_cons_succ, List.map_cons]; rw [map_erase f l i]
theorem lookAt_not (m : Mac) : ∀ (f : List (Mac × Value)) (i : Nat), m ∉ f.map (·.1) → lookAt m f i = none
  | [], _, _ => rfl
  | p :: f, i, h => by
    simp only [List.map_cons, List.mem_cons, not_or] at h
    rw [lookAt, if_neg (fun e => h.1 (Mac.same_iff.1 e))]
    exact lookAt_not m f (i + 1) h.2
theorem lookAt_erase (m : Mac) : ∀ (f : List (Mac × Value)) (i d : Nat) (u : Value), (f.map (·.1)).Nodup → lookAt m f i = some (i + d, u) → lookAt m (f.eraseIdx d) i = none ∧ ∀ m', m' ≠ m → (lookAt m' (f.eraseIdx d) i).map (·.2) = (lookAt m' f i).map (·.2)
  | [], _, _, _, _, h => by simp [lookAt] at h
  | p :: f, i, d, u, hn, h => by
    rw [List.map_cons, List.nodup_cons] at hn
    rw [lookAt] at h
    by_cases hq : m.same p.1 = true
    · rw [if_pos hq] at h
      simp only [Option.some.injEq, Prod.mk.injEq] at h
      obtain rfl : d = 0 := by omega
      have hm := Mac.same_iff.1 hq
      rw [List.eraseIdx_cons_zero]
      refine ⟨lookAt_not m f i (hm ▸ hn.1), fun m' hm' => ?_⟩
      have h1 : ¬ m'.same p.1 = true := fun e => hm' (by rw [hm]; exact Mac.same_iff.1 e)
      rw [lookAt, if_neg h1]
      have : ∀ (g : List (Mac × Value)) (i j : Nat), (lookAt m' g i).map (·.2) = (lookAt m' g j).map (·.2) := by
        intro g
        induction g with
        | nil => intro i j; rfl
        | cons q g ih => intro i j; simp only [lookAt]; split; rfl; exact ih _ _
      exact this f i (i + 1)
    · rw [if_neg hq] at h
      obtain ⟨d', h1, _⟩ := lookAt_some m f (i + 1) (i + d) u h
      obtain rfl : d = d' + 1 := by omega
      have ih := lookAt_erase m f (i + 1) d' u hn.2 (by rw [h]; first | done | (congr 2 <;> omega))
      rw [List.eraseIdx_cons_succ]
      refine ⟨by rw [lookAt, if_neg hq]; exact ih.1, fun m' hm' => ?_⟩
      simp only [lookAt]
      split
      · rfl
      · exact ih.2 m' hm'
theorem found_map (f : List (Mac × Value)) (m : Mac) : found f m = ((lookAt m f 0).map (·.2)).getD (.agg #[.slice none 0 0, .slice none 0 0]) := by
  unfold found; cases lookAt m f 0 <;> rfl
theorem found_del {f : List (Mac × Value)} (hn : (f.map (·.1)).Nodup) (m : Mac) : found (del f m) m = .agg #[.slice none 0 0, .slice none 0 0] ∧ ∀ m', m' ≠ m → found (del f m) m' = found f m' := by
  unfold del
  cases h : lookAt m f 0 with
  | none => exact ⟨by rw [found_map, h]; rfl, fun _ _ => rfl⟩
  | some p =>
    obtain ⟨i, u⟩ := p
    have := lookAt_erase m f 0 i u hn (by rw [h]; first | done | (congr 2 <;> omega))
    exact ⟨by rw [found_map]; simp only [this.1]; rfl, fun m' hm' => by rw [found_map, found_map]; simp only [this.2 m' hm']⟩
theorem run_delete (w : World) (M : Nat) (f : List (Mac × Value)) (m : Mac) (t : TypeId) (h : MapAt w M f) :
    ∃ w', (Builtin.delete_ #[67, 38] t #[.map (some M), m.v]).run Try.prog w = .ok (.tuple #[]) w' ∧ MapAt w' M (del f m) ∧ Kept w w' (fun k => k = M) := by
  obtain ⟨es, clock, hM, hes, hnd⟩ := h
  have hu : Try.prog.underlying 67 = some (.map 38 86) := by kernel_rfl
  unfold Builtin.delete_ del
  simp only [Sem.run_bind, Sem.run_pure, List.getElem?_toArray, List.getElem?_cons_zero, List.getElem?_cons_succ, run_underlying hu, Result.andThen_ok, run_getObj_map hM, run_checkKey, run_findKey w m _ f hes]
  cases hq : lookAt m f 0 with
  | none =>
    simp only [Sem.run_bind, run_setObj_map hM, Result.andThen_ok, Sem.run_pure]
    exact ⟨_, rfl, ⟨_, _, putObj_at hM _, hes, hnd⟩, kept_putObj w M _⟩
  | some p =>
    obtain ⟨i, u⟩ := p
    simp only [Sem.run_bind, run_setObj_map hM, Result.andThen_ok, Sem.run_pure]
    refine ⟨_, rfl, ⟨_, _, putObj_at hM _, ?_, ?_⟩, kept_putObj w M _⟩
    · rw [Array.toList_eraseIdxIfInBounds, map_erase, map_erase, hes]
    · rw [map_erase]
      exact hnd.sublist (List.eraseIdx_sublist _ _)

/-- a map, as something owned -/
def mobj (M : Nat) (f : List (Mac × Value)) (m : Mac) : As where
  holds w := MapAt w M f
  foot b := b = M
  lt h b hb := by cases hb; exact map_lt h
  kept := fun h hk hn => by
    obtain ⟨es, clock, hM, hes⟩ := h
    exact ⟨es, clock, (hk.block _ (Array.getElem?_eq_some_iff.1 hM).1 (hn _ rfl)).trans hM, hes⟩
  fact w := (Instr.lookup 67 (.map (some M)) (.agg #[bv m.a, bv m.b, bv m.c, bv m.d, bv m.e, bv m.f]) false).run Try.prog w = .ok (found f m) w
  tell h := run_lookup _ _ _ _ h
theorem facts_mobj {w : World} {M : Nat} {f : List (Mac × Value)} {m : Mac} {l : List As} : Facts (mobj M f m :: l) w = ((Instr.lookup 67 (.map (some M)) (.agg #[bv m.a, bv m.b, bv m.c, bv m.d, bv m.e, bv m.f]) false).run Try.prog w = .ok (found f m) w ∧ Facts l w) := rfl
theorem st_mput {w0 w : World} {G z : Nat → Prop} {O : List As} {T : List Rd} (H : St w0 G z O T w) (i : Nat) {M : Nat} {f : List (Mac × Value)} {m : Mac} (hO : O[i]? = some (mobj M f m)) (v : Value) :
    ∃ W, (Instr.mapUpdate 67 (.map (some M)) m.v v).run Try.prog w = .ok () W ∧ St w0 G z (O.set i (mobj M (upd f m v) m)) T W ∧ w.heap.size ≤ W.heap.size := by
  obtain ⟨W, h1, h2, h3⟩ := run_update w M f m v (H.has i hO)
  refine ⟨W, h1, ?_, h3.size⟩
  have := H.upd i hO (mobj M (upd f m v) m) (w' := W) ⟨h3.os, h3.tape, h3.output, h3.size, h3.block⟩ h2 (fun b hb => .inl hb) [] (by simp)
  simpa using this
theorem st_mdel {w0 w : World} {G z : Nat → Prop} {O : List As} {T : List Rd} (H : St w0 G z O T w) (i : Nat) {M : Nat} {f : List (Mac × Value)} {m : Mac} (hO : O[i]? = some (mobj M f m)) (t : TypeId) :
    ∃ W, (Builtin.delete_ #[67, 38] t #[.map (some M), m.v]).run Try.prog w = .ok (.tuple #[]) W ∧ St w0 G z (O.set i (mobj M (del f m) m)) T W ∧ w.heap.size ≤ W.heap.size := by
  obtain ⟨W, h1, h2, h3⟩ := run_delete w M f m t (H.has i hO)
  refine ⟨W, h1, ?_, h3.size⟩
  have := H.upd i hO (mobj M (del f m) m) (w' := W) ⟨h3.os, h3.tape, h3.output, h3.size, h3.block⟩ h2 (fun b hb => .inl hb) [] (by simp)
  simpa using this
theorem exec_delete {o : Oper} {ev : Operand → Value} {W w' : World} {p q : Operand} {M : Nat} {m : Mac} (ho : o.op = .call { callee := .builtin .delete, args := #[p, q], argTypes := #[67, 38] }) (hp : ev p = .map (some M)) (hq : ev q = m.v)
    (hr : (Builtin.delete_ #[67, 38] o.type #[.map (some M), m.v]).run Try.prog W = .ok (.tuple #[]) w') : (execOp ev o).run Try.prog W = .ok (.value (.tuple #[])) w' := by
  simp [execOp, ho, resolve, invoke, builtin, hp, hq, hr, Result.andThen]

set_option maxHeartbeats 4000000 in
theorem forget_st (T M p c1 c2 g1 g2 : Nat) (f : List (Mac × Value)) (m : Mac) (id : Int) (ks us : List Int) (w : World) (z : Nat → Prop) (hf : found f m = .agg #[.slice (some ⟨g1, 0, none⟩) (p + 1) c1, .slice (some ⟨g2, 0, none⟩) (p + 1) c2])
    (H : St w (feet [vec 3 1 (.slice (some ⟨g1, 0, none⟩) (p + 1) c1) (p + 1) (ks.map iv), vec 3 1 (.slice (some ⟨g2, 0, none⟩) (p + 1) c2) (p + 1) (us.map iv), mobj M f m]) z [vec 3 1 (.slice (some ⟨g1, 0, none⟩) (p + 1) c1) (p + 1) (ks.map iv), vec 3 1 (.slice (some ⟨g2, 0, none⟩) (p + 1) c2) (p + 1) (us.map iv), mobj M f m] [rdE T 0 [.map (some M)]] w)
    (hs : ks.Pairwise (· < ·)) (hp : p ≤ 100000) (hin : id ∈ ks) :
    Calls Try.prog 40 #[.pointer (some ⟨T, 0, none⟩), m.v, .int .i64 id] w fun e w' => e = .returned (.tuple #[]) ∧ ∃ a f', ks[a]? = some id ∧ (∀ m', m' ≠ m → found f' m' = found f m') ∧
      found f' m = (if p = 0 then .agg #[.slice none 0 0, .slice none 0 0] else .agg #[.slice (some ⟨g1, 0, none⟩) p c1, .slice (some ⟨g2, 0, none⟩) p c2]) ∧
      St w (feet [vec 3 1 (.slice (some ⟨g1, 0, none⟩) (p + 1) c1) (p + 1) (ks.map iv), vec 3 1 (.slice (some ⟨g2, 0, none⟩) (p + 1) c2) (p + 1) (us.map iv), mobj M f m]) z [vec 3 1 (.slice (some ⟨g1, 0, none⟩) p c1) p ((ks.eraseIdx a).map iv), vec 3 1 (.slice (some ⟨g2, 0, none⟩) p c2) p ((us.eraseIdx a).map iv), mobj M f' m] [rdE T 0 [.map (some M)]] w' := by
  have hnd : (f.map (·.1)).Nodup := by obtain ⟨_, _, _, _, h⟩ := H.has 2 rfl; exact h
  have HD := Lib.hid (found_del hnd m)
  have HU := Lib.hid (fun v => found_upd f m v)
  obtain ⟨Gf, hGf⟩ : ∃ Gf, Gf = feet [vec 3 1 (.slice (some ⟨g1, 0, none⟩) (p + 1) c1) (p + 1) (ks.map iv), vec 3 1 (.slice (some ⟨g2, 0, none⟩) (p + 1) c2) (p + 1) (us.map iv), mobj M f m] := ⟨_, rfl⟩
  rw [← hGf] at H ⊢
  clear hGf hnd
  replace H := Lib.hid H
  (try clear F); have F := H.out.facts; simp only [fxx, facts_mobj, macs] at F
  go_enter Try.func40, Try.ntmps40
  unfold Mac.v
  go_wp2_with (first
    | (show wpList _ _ _ _ _ (World.drewN _ _); refine wl_drewN H.out ?_; intro w4 H1 hle4; (try clear F); clear H; have H := Lib.hid H1; have F := H1.facts; simp only [fxx, facts_mobj, macs] at F; clear H1)
    | (show Code.wp _ _ _ _ (World.drewN _ _); refine cw_drewN H.out ?_; intro w4 H1 hle4; (try clear F); clear H; have H := Lib.hid H1; have F := H1.facts; simp only [fxx, facts_mobj, macs] at F; clear H1)
    | (show wpList _ _ _ _ _ (World.alloc _ _); refine wl_absorb H.out ?_; intro w1 H1 hlt1; (try clear F); clear H; have H := Lib.hid H1; have F := H1.facts; simp only [fxx, facts_mobj, macs] at F; clear H1)
    | (show Code.wp _ _ _ _ (World.alloc _ _); refine cw_absorb H.out ?_; intro w2 H1 hlt2; (try clear F); clear H; have H := Lib.hid H1; have F := H1.facts; simp only [fxx, facts_mobj, macs] at F; clear H1)
    | (show wpList _ _ _ (Oper.mk none (Op.store _ _ _) _ _ _ _ :: _) _ _; (first | refine wl_store H.out 0 rfl rfl rfl (by rfl) (by simp [Act.eval, Value.cells]; rfl) (by kernel_rfl) (by simp) (by simp [Value.oneCell']) ?_ | refine wl_store H.out 1 rfl rfl rfl (by rfl) (by simp [Act.eval, Value.cells]; rfl) (by kernel_rfl) (by simp) (by simp [Value.oneCell']) ?_); intro w3 H1 hle3; simp only [px] at H1; (try clear F); clear H; have H := Lib.hid H1; have F := H1.facts; simp only [fxx, facts_mobj, macs] at F; clear H1))
  refine rz_start H.out (List.Sublist.refl _) (by kernel_rfl) ?_; intro w4 H1 hle4; (try clear F); clear H; have H := Lib.hid H1; have F := H1.facts; simp only [fxx, facts_mobj, macs] at F; clear H1
  refine rz_reads [0, 1, 2, 3, 4, 5] (by kernel_rfl) (H.out.sub (by first | exact List.Sublist.refl _ | exact List.sublist_cons_self _ _ | exact (List.sublist_cons_self _ _).trans (List.sublist_cons_self _ _) | exact ((List.sublist_cons_self _ _).trans (List.sublist_cons_self _ _)).trans (List.sublist_cons_self _ _)) (by intro _ h; first | exact h | exact .tail _ h | exact .tail _ (.tail _ h) | exact .tail _ (.tail _ (.tail _ h)) | exact .tail _ (.tail _ (.tail _ (.tail _ h))) | (simp only [List.mem_cons, List.not_mem_nil, or_false] at h ⊢; first | (simp [h]; done) | (rcases h with h | h <;> simp [h]; done) | (rcases h with h | h | h <;> simp [h]; done) | (rcases h with h | h | h | h <;> simp [h]; done)))) (fun d _ _ _ _ h => by cases d <;> exact h) ?_; (repeat first | (refine rd_skip rfl (by rfl) ?_; simp only [pz]) | (refine rd_step (v := ?_) rfl (by rfl) ?_ ?_; rotate_left 1; (focus intro W hW; have F := St.facts hW; simp only [fxx, facts_mobj, macs] at F; go_simp; all_goals with_reducible rfl); simp only [pz])); refine rd_end ?_; show wpAnyH _ _ _ _ _ _ _ _ _
  refine rz_one 6 (by kernel_rfl) ?_
  refine sz_alloc H.out rfl (by rfl) (by go_simp; exact ⟨rfl, rfl⟩) (fun W h => h.sub (by first | exact List.Sublist.refl _ | exact List.sublist_cons_self _ _ | exact (List.sublist_cons_self _ _).trans (List.sublist_cons_self _ _) | exact ((List.sublist_cons_self _ _).trans (List.sublist_cons_self _ _)).trans (List.sublist_cons_self _ _)) (by intro _ h; first | exact h | exact .tail _ h | exact .tail _ (.tail _ h) | exact .tail _ (.tail _ (.tail _ h)) | exact .tail _ (.tail _ (.tail _ (.tail _ h))) | (simp only [List.mem_cons, List.not_mem_nil, or_false] at h ⊢; first | (simp [h]; done) | (rcases h with h | h <;> simp [h]; done) | (rcases h with h | h | h <;> simp [h]; done) | (rcases h with h | h | h | h <;> simp [h]; done)))) ?_; intro w1 H1 hlt1; (try clear F); clear H; have H := Lib.hid H1; have F := H1.facts; simp only [fxx, facts_mobj, macs] at F; clear H1; simp only [pz]
  refine rz_one 7 (by kernel_rfl) ?_
  (first | refine sz_store H.out 0 rfl rfl rfl rfl (by rfl) (by simp [Act.eval, Value.cells]; rfl) (by kernel_rfl) (by simp) (by simp [Value.oneCell']) (fun W h => h.sub (by first | exact List.Sublist.refl _ | exact List.sublist_cons_self _ _ | exact (List.sublist_cons_self _ _).trans (List.sublist_cons_self _ _) | exact ((List.sublist_cons_self _ _).trans (List.sublist_cons_self _ _)).trans (List.sublist_cons_self _ _)) (by intro _ h; first | exact h | exact .tail _ h | exact .tail _ (.tail _ h) | exact .tail _ (.tail _ (.tail _ h)) | exact .tail _ (.tail _ (.tail _ (.tail _ h))) | (simp only [List.mem_cons, List.not_mem_nil, or_false] at h ⊢; first | (simp [h]; done) | (rcases h with h | h <;> simp [h]; done) | (rcases h with h | h | h <;> simp [h]; done) | (rcases h with h | h | h | h <;> simp [h]; done)))) ?_ | refine sz_store H.out 1 rfl rfl rfl rfl (by rfl) (by simp [Act.eval, Value.cells]; rfl) (by kernel_rfl) (by simp) (by simp [Value.oneCell']) (fun W h => h.sub (by first | exact List.Sublist.refl _ | exact List.sublist_cons_self _ _ | exact (List.sublist_cons_self _ _).trans (List.sublist_cons_self _ _) | exact ((List.sublist_cons_self _ _).trans (List.sublist_cons_self _ _)).trans (List.sublist_cons_self _ _)) (by intro _ h; first | exact h | exact .tail _ h | exact .tail _ (.tail _ h) | exact .tail _ (.tail _ (.tail _ h)) | exact .tail _ (.tail _ (.tail _ (.tail _ h))) | (simp only [List.mem_cons, List.not_mem_nil, or_false] at h ⊢; first | (simp [h]; done) | (rcases h with h | h <;> simp [h]; done) | (rcases h with h | h | h <;> simp [h]; done) | (rcases h with h | h | h | h <;> simp [h]; done)))) ?_ | refine sz_store H.out 2 rfl rfl rfl rfl (by rfl) (by simp [Act.eval, Value.cells]; rfl) (by kernel_rfl) (by simp) (by simp [Value.oneCell']) (fun W h => h.sub (by first | exact List.Sublist.refl _ | exact List.sublist_cons_self _ _ | exact (List.sublist_cons_self _ _).trans (List.sublist_cons_self _ _) | exact ((List.sublist_cons_self _ _).trans (List.sublist_cons_self _ _)).trans (List.sublist_cons_self _ _)) (by intro _ h; first | exact h | exact .tail _ h | exact .tail _ (.tail _ h) | exact .tail _ (.tail _ (.tail _ h)) | exact .tail _ (.tail _ (.tail _ (.tail _ h))) | (simp only [List.mem_cons, List.not_mem_nil, or_false] at h ⊢; first | (simp [h]; done) | (rcases h with h | h <;> simp [h]; done) | (rcases h with h | h | h <;> simp [h]; done) | (rcases h with h | h | h | h <;> simp [h]; done)))) ?_ | refine sz_store H.out 3 rfl rfl rfl rfl (by rfl) (by simp [Act.eval, Value.cells]; rfl) (by kernel_rfl) (by simp) (by simp [Value.oneCell']) (fun W h => h.sub (by first | exact List.Sublist.refl _ | exact List.sublist_cons_self _ _ | exact (List.sublist_cons_self _ _).trans (List.sublist_cons_self _ _) | exact ((List.sublist_cons_self _ _).trans (List.sublist_cons_self _ _)).trans (List.sublist_cons_self _ _)) (by intro _ h; first | exact h | exact .tail _ h | exact .tail _ (.tail _ h) | exact .tail _ (.tail _ (.tail _ h)) | exact .tail _ (.tail _ (.tail _ (.tail _ h))) | (simp only [List.mem_cons, List.not_mem_nil, or_false] at h ⊢; first | (simp [h]; done) | (rcases h with h | h <;> simp [h]; done) | (rcases h with h | h | h <;> simp [h]; done) | (rcases h with h | h | h | h <;> simp [h]; done)))) ?_ | refine sz_store H.out 4 rfl rfl rfl rfl (by rfl) (by simp [Act.eval, Value.cells]; rfl) (by kernel_rfl) (by simp) (by simp [Value.oneCell']) (fun W h => h.sub (by first | exact List.Sublist.refl _ | exact List.sublist_cons_self _ _ | exact (List.sublist_cons_self _ _).trans (List.sublist_cons_self _ _) | exact ((List.sublist_cons_self _ _).trans (List.sublist_cons_self _ _)).trans (List.sublist_cons_self _ _)) (by intro _ h; first | exact h | exact .tail _ h | exact .tail _ (.tail _ h) | exact .tail _ (.tail _ (.tail _ h)) | exact .tail _ (.tail _ (.tail _ (.tail _ h))) | (simp only [List.mem_cons, List.not_mem_nil, or_false] at h ⊢; first | (simp [h]; done) | (rcases h with h | h <;> simp [h]; done) | (rcases h with h | h | h <;> simp [h]; done) | (rcases h with h | h | h | h <;> simp [h]; done)))) ?_); intro w3 H1 hle3; simp only [px] at H1; (try clear F); clear H; have H := Lib.hid H1; have F := H1.facts; simp only [fxx, facts_mobj, macs] at F; clear H1; simp only [pz]
  refine rz_done (by kernel_rfl) ?_
  have HPP : Hid (p = 0 ∨ 0 < p) := Nat.eq_zero_or_pos p
  rcases HPP.out with rfl | hp0
  · go_wp2_with (first
      | (go_at_call 54; refine (drop_int_st _ 0 _ c1 c2 g1 g2 _ _ ks us id _ _ rfl rfl (St.lend (Oi := [_, _, _]) (Or := [_, _]) ((H.out.front 3 rfl).front 3 rfl) (by simp)) hs hp hin).mono ?_; rintro e w5 ⟨rfl, a, ha, K⟩; have H1 := St.step (Oi := [_, _, _]) (Or := [_, _]) ((H.out.front 3 rfl).front 3 rfl) K; simp only [List.cons_append, List.nil_append, List.set_cons_zero, List.set_cons_succ] at H1; have HA := Lib.hid ha; clear ha K; (try clear F); clear H; have H := Lib.hid H1; have F := H1.facts; simp only [fxx, facts_mobj, macs] at F; clear H1)
      | (show wpList _ _ _ _ _ (World.drewN _ _); refine wl_drewN H.out ?_; intro w4 H1 hle4; (try clear F); clear H; have H := Lib.hid H1; have F := H1.facts; simp only [fxx, facts_mobj, macs] at F; clear H1)
      | (show Code.wp _ _ _ _ (World.drewN _ _); refine cw_drewN H.out ?_; intro w4 H1 hle4; (try clear F); clear H; have H := Lib.hid H1; have F := H1.facts; simp only [fxx, facts_mobj, macs] at F; clear H1)
      | (show wpList _ _ _ _ _ (World.alloc _ _); refine wl_absorb H.out ?_; intro w1 H1 hlt1; (try clear F); clear H; have H := Lib.hid H1; have F := H1.facts; simp only [fxx, facts_mobj, macs] at F; clear H1)
      | (show Code.wp _ _ _ _ (World.alloc _ _); refine cw_absorb H.out ?_; intro w2 H1 hlt2; (try clear F); clear H; have H := Lib.hid H1; have F := H1.facts; simp only [fxx, facts_mobj, macs] at F; clear H1)
      | (show wpList _ _ _ (Oper.mk none (Op.store _ _ _) _ _ _ _ :: _) _ _; (first | refine wl_store H.out 0 rfl rfl rfl (by rfl) (by simp [Act.eval, Value.cells]; rfl) (by kernel_rfl) (by simp) (by simp [Value.oneCell']) ?_ | refine wl_store H.out 1 rfl rfl rfl (by rfl) (by simp [Act.eval, Value.cells]; rfl) (by kernel_rfl) (by simp) (by simp [Value.oneCell']) ?_); intro w3 H1 hle3; simp only [px] at H1; (try clear F); clear H; have H := Lib.hid H1; have F := H1.facts; simp only [fxx, facts_mobj, macs] at F; clear H1))
    have H1 := H.out.front 4 rfl; simp only [List.eraseIdx_cons_succ, List.eraseIdx_cons_zero] at H1; (try clear F); clear H; have H := Lib.hid H1; have F := H1.facts; simp only [fxx, facts_mobj, macs] at F; clear H1
    refine rz_start H.out (List.sublist_cons_self _ _) (by kernel_rfl) ?_; intro w4 H1 hle4; (try clear F); clear H; have H := Lib.hid H1; have F := H1.facts; simp only [fxx, facts_mobj, macs] at F; clear H1
    refine rz_reads [0, 1, 2, 3, 4] (by kernel_rfl) (H.out.sub (by first | exact List.Sublist.refl _ | exact List.sublist_cons_self _ _ | exact (List.sublist_cons_self _ _).trans (List.sublist_cons_self _ _) | exact ((List.sublist_cons_self _ _).trans (List.sublist_cons_self _ _)).trans (List.sublist_cons_self _ _)) (by intro _ h; first | exact h | exact .tail _ h | exact .tail _ (.tail _ h) | exact .tail _ (.tail _ (.tail _ h)) | exact .tail _ (.tail _ (.tail _ (.tail _ h))) | (simp only [List.mem_cons, List.not_mem_nil, or_false] at h ⊢; first | (simp [h]; done) | (rcases h with h | h <;> simp [h]; done) | (rcases h with h | h | h <;> simp [h]; done) | (rcases h with h | h | h | h <;> simp [h]; done)))) (fun d _ _ _ _ h => by cases d <;> exact h) ?_; (repeat first | (refine rd_skip rfl (by rfl) ?_; simp only [pz]) | (refine rd_step (v := ?_) rfl (by rfl) ?_ ?_; rotate_left 1; (focus intro W hW; have F := St.facts hW; simp only [fxx, facts_mobj, macs] at F; go_simp; all_goals with_reducible rfl); simp only [pz])); refine rd_end ?_; show wpAnyH _ _ _ _ _ _ _ _ _
    refine rz_one 5 (by kernel_rfl) ?_
    obtain ⟨W, u1, H1, hle⟩ := st_mdel H.out 0 rfl _; refine ss_val rfl (by rfl) (exec_delete rfl (by rfl) (by rfl) u1) (H1.sub (List.sublist_cons_self _ _) (fun _ h => h)) ?_; clear u1; simp only [List.set_cons_zero] at H1; (try clear F); clear H; have H := Lib.hid H1; have F := H1.facts; simp only [fxx, facts_mobj, macs] at F; clear H1; simp only [pz]
    refine rz_done (by kernel_rfl) ?_
    go_wp2_with (first
      | (show wpList _ _ _ _ _ (World.drewN _ _); refine wl_drewN H.out ?_; intro w4 H1 hle4; (try clear F); clear H; have H := Lib.hid H1; have F := H1.facts; simp only [fxx, facts_mobj, macs] at F; clear H1)
      | (show Code.wp _ _ _ _ (World.drewN _ _); refine cw_drewN H.out ?_; intro w4 H1 hle4; (try clear F); clear H; have H := Lib.hid H1; have F := H1.facts; simp only [fxx, facts_mobj, macs] at F; clear H1)
      | (show wpList _ _ _ _ _ (World.alloc _ _); refine wl_absorb H.out ?_; intro w1 H1 hlt1; (try clear F); clear H; have H := Lib.hid H1; have F := H1.facts; simp only [fxx, facts_mobj, macs] at F; clear H1)
      | (show Code.wp _ _ _ _ (World.alloc _ _); refine cw_absorb H.out ?_; intro w2 H1 hlt2; (try clear F); clear H; have H := Lib.hid H1; have F := H1.facts; simp only [fxx, facts_mobj, macs] at F; clear H1)
      | (show wpList _ _ _ (Oper.mk none (Op.store _ _ _) _ _ _ _ :: _) _ _; (first | refine wl_store H.out 0 rfl rfl rfl (by rfl) (by simp [Act.eval, Value.cells]; rfl) (by kernel_rfl) (by simp) (by simp [Value.oneCell']) ?_ | refine wl_store H.out 1 rfl rfl rfl (by rfl) (by simp [Act.eval, Value.cells]; rfl) (by kernel_rfl) (by simp) (by simp [Value.oneCell']) ?_); intro w3 H1 hle3; simp only [px] at H1; (try clear F); clear H; have H := Lib.hid H1; have F := H1.facts; simp only [fxx, facts_mobj, macs] at F; clear H1))
    refine bodyPost_ret (results_none rfl _ _ _) rfl ⟨rfl, a, HA.out, _, HD.out.2, HD.out.1, ?_⟩
    exact ((H.out.front 2 rfl).front 2 rfl).sub (by repeat (first | exact List.Sublist.slnil | exact List.nil_sublist _ | apply List.Sublist.cons_cons | apply List.Sublist.cons)) (by intro _ h; simp only [List.mem_cons, List.not_mem_nil, or_false] at h ⊢; first | exact h | (simp [h]; done) | (rcases h with h | h <;> simp [h]; done) | (rcases h with h | h | h <;> simp [h]; done) | (rcases h with h | h | h | h <;> simp [h]; done))
  · go_wp2_with (first
      | (go_at_call 54; refine (drop_int_st _ 0 _ c1 c2 g1 g2 _ _ ks us id _ _ rfl rfl (St.lend (Oi := [_, _, _]) (Or := [_, _]) ((H.out.front 3 rfl).front 3 rfl) (by simp)) hs hp hin).mono ?_; rintro e w5 ⟨rfl, a, ha, K⟩; have H1 := St.step (Oi := [_, _, _]) (Or := [_, _]) ((H.out.front 3 rfl).front 3 rfl) K; simp only [List.cons_append, List.nil_append, List.set_cons_zero, List.set_cons_succ] at H1; have HA := Lib.hid ha; clear ha K; (try clear F); clear H; have H := Lib.hid H1; have F := H1.facts; simp only [fxx, facts_mobj, macs] at F; clear H1)
      | (show wpList _ _ _ _ _ (World.drewN _ _); refine wl_drewN H.out ?_; intro w4 H1 hle4; (try clear F); clear H; have H := Lib.hid H1; have F := H1.facts; simp only [fxx, facts_mobj, macs] at F; clear H1)
      | (show Code.wp _ _ _ _ (World.drewN _ _); refine cw_drewN H.out ?_; intro w4 H1 hle4; (try clear F); clear H; have H := Lib.hid H1; have F := H1.facts; simp only [fxx, facts_mobj, macs] at F; clear H1)
      | (show wpList _ _ _ _ _ (World.alloc _ _); refine wl_absorb H.out ?_; intro w1 H1 hlt1; (try clear F); clear H; have H := Lib.hid H1; have F := H1.facts; simp only [fxx, facts_mobj, macs] at F; clear H1)
      | (show Code.wp _ _ _ _ (World.alloc _ _); refine cw_absorb H.out ?_; intro w2 H1 hlt2; (try clear F); clear H; have H := Lib.hid H1; have F := H1.facts; simp only [fxx, facts_mobj, macs] at F; clear H1)
      | (show wpList _ _ _ (Oper.mk none (Op.store _ _ _) _ _ _ _ :: _) _ _; (first | refine wl_store H.out 0 rfl rfl rfl (by rfl) (by simp [Act.eval, Value.cells]; rfl) (by kernel_rfl) (by simp) (by simp [Value.oneCell']) ?_ | refine wl_store H.out 1 rfl rfl rfl (by rfl) (by simp [Act.eval, Value.cells]; rfl) (by kernel_rfl) (by simp) (by simp [Value.oneCell']) ?_); intro w3 H1 hle3; simp only [px] at H1; (try clear F); clear H; have H := Lib.hid H1; have F := H1.facts; simp only [fxx, facts_mobj, macs] at F; clear H1))
    have H1 := H.out.front 4 rfl; simp only [List.eraseIdx_cons_succ, List.eraseIdx_cons_zero] at H1; (try clear F); clear H; have H := Lib.hid H1; have F := H1.facts; simp only [fxx, facts_mobj, macs] at F; clear H1
    refine rz_start H.out (List.sublist_cons_self _ _) (by kernel_rfl) ?_; intro w4 H1 hle4; (try clear F); clear H; have H := Lib.hid H1; have F := H1.facts; simp only [fxx, facts_mobj, macs] at F; clear H1
    refine rz_reads [0, 1, 2, 3, 4, 5] (by kernel_rfl) (H.out.sub (by first | exact List.Sublist.refl _ | exact List.sublist_cons_self _ _ | exact (List.sublist_cons_self _ _).trans (List.sublist_cons_self _ _) | exact ((List.sublist_cons_self _ _).trans (List.sublist_cons_self _ _)).trans (List.sublist_cons_self _ _)) (by intro _ h; first | exact h | exact .tail _ h | exact .tail _ (.tail _ h) | exact .tail _ (.tail _ (.tail _ h)) | exact .tail _ (.tail _ (.tail _ (.tail _ h))) | (simp only [List.mem_cons, List.not_mem_nil, or_false] at h ⊢; first | (simp [h]; done) | (rcases h with h | h <;> simp [h]; done) | (rcases h with h | h | h <;> simp [h]; done) | (rcases h with h | h | h | h <;> simp [h]; done)))) (fun d _ _ _ _ h => by cases d <;> exact h) ?_; (repeat first | (refine rd_skip rfl (by rfl) ?_; simp only [pz]) | (refine rd_step (v := ?_) rfl (by rfl) ?_ ?_; rotate_left 1; (focus intro W hW; have F := St.facts hW; simp only [fxx, facts_mobj, macs] at F; go_simp; all_goals with_reducible rfl); simp only [pz])); refine rd_end ?_; show wpAnyH _ _ _ _ _ _ _ _ _
    refine rz_one 6 (by kernel_rfl) ?_
    obtain ⟨W, u1, H1, hle⟩ := st_mput H.out 0 rfl (.agg #[.slice (some ⟨g1, 0, none⟩) p c1, .slice (some ⟨g2, 0, none⟩) p c2]); refine ss_skip rfl (by rfl) (exec_update rfl (by rfl) (by rfl) (by rfl) u1) (H1.sub (List.sublist_cons_self _ _) (fun _ h => h)) ?_; clear u1; simp only [List.set_cons_zero] at H1; (try clear F); clear H; have H := Lib.hid H1; have F := H1.facts; simp only [fxx, facts_mobj, macs] at F; clear H1; simp only [pz]
    refine rz_done (by kernel_rfl) ?_
    go_wp2_with (first
      | (show wpList _ _ _ _ _ (World.drewN _ _); refine wl_drewN H.out ?_; intro w4 H1 hle4; (try clear F); clear H; have H := Lib.hid H1; have F := H1.facts; simp only [fxx, facts_mobj, macs] at F; clear H1)
      | (show Code.wp _ _ _ _ (World.drewN _ _); refine cw_drewN H.out ?_; intro w4 H1 hle4; (try clear F); clear H; have H := Lib.hid H1; have F := H1.facts; simp only [fxx, facts_mobj, macs] at F; clear H1)
      | (show wpList _ _ _ _ _ (World.alloc _ _); refine wl_absorb H.out ?_; intro w1 H1 hlt1; (try clear F); clear H; have H := Lib.hid H1; have F := H1.facts; simp only [fxx, facts_mobj, macs] at F; clear H1)
      | (show Code.wp _ _ _ _ (World.alloc _ _); refine cw_absorb H.out ?_; intro w2 H1 hlt2; (try clear F); clear H; have H := Lib.hid H1; have F := H1.facts; simp only [fxx, facts_mobj, macs] at F; clear H1)
      | (show wpList _ _ _ (Oper.mk none (Op.store _ _ _) _ _ _ _ :: _) _ _; (first | refine wl_store H.out 0 rfl rfl rfl (by rfl) (by simp [Act.eval, Value.cells]; rfl) (by kernel_rfl) (by simp) (by simp [Value.oneCell']) ?_ | refine wl_store H.out 1 rfl rfl rfl (by rfl) (by simp [Act.eval, Value.cells]; rfl) (by kernel_rfl) (by simp) (by simp [Value.oneCell']) ?_); intro w3 H1 hle3; simp only [px] at H1; (try clear F); clear H; have H := Lib.hid H1; have F := H1.facts; simp only [fxx, facts_mobj, macs] at F; clear H1))
    have HU' := HU.out (.agg #[.slice (some ⟨g1, 0, none⟩) p c1, .slice (some ⟨g2, 0, none⟩) p c2])
    refine bodyPost_end (results_none rfl _ _ _) rfl ⟨rfl, a, HA.out, _, HU'.2, HU'.1, ?_⟩
    exact ((H.out.front 2 rfl).front 2 rfl).sub (by repeat (first | exact List.Sublist.slnil | exact List.nil_sublist _ | apply List.Sublist.cons_cons | apply List.Sublist.cons)) (by intro _ h; simp only [List.mem_cons, List.not_mem_nil, or_false] at h ⊢; first | exact h | (simp [h]; done) | (rcases h with h | h <;> simp [h]; done) | (rcases h with h | h | h <;> simp [h]; done) | (rcases h with h | h | h | h <;> simp [h]; done))
end Go.Proofs.Ytkifagflnpkkaaa
