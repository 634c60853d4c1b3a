/- Table.Remove. No condition. -/
import Derived.Test.YtkifagflnpkkaaaTabV
namespace Go.Proofs.Ytkifagflnpkkaaa
set_option linter.unusedSimpArgs false
set_option linter.unusedVariables false
-- FSX: ec, iv, facts_txo, macs
open Go.RowKit
set_option maxRecDepth 10000

theorem filter_out (p : EntL → Bool) (L : List EntL) (k : Int) : (outE L k).filter p = outE (L.filter p) k := by
  unfold outE; rw [List.filter_filter, List.filter_filter]; congr 1; funext e; exact Bool.and_comm _ _
theorem filter_same {p : EntL → Bool} {L : List EntL} {k : Int} (h : ∀ e ∈ L, e.id = k → p e = false) : (outE L k).filter p = L.filter p := by
  unfold outE; rw [List.filter_filter]
  refine List.filter_congr fun e he => ?_
  by_cases hk : e.id = k
  · simp [h e he hk]
  · simp [hk]
theorem outE_none {L : List EntL} {k : Int} (h : ∀ e ∈ L, e.id ≠ k) : outE L k = L := List.filter_eq_self.2 fun e he => by simpa using h e he
theorem outE_good {L : List EntL} (h : Good L) (k : Int) : Good (outE L k) := ⟨h.sorted.filter _, fun e he => h.range e (List.mem_filter.1 he).1⟩
theorem one_of {L : List EntL} (hs : L.Pairwise (fun a b => a.id < b.id)) {x y : EntL} (hx : x ∈ L) (hy : y ∈ L) (h : x.id = y.id) : x = y := by
  have h1 := getE_mem hs hx
  have h2 := getE_mem hs hy
  rw [h, h2] at h1
  exact (Prod.mk.inj h1).1.symm
theorem two_mv {α : Type} {s : Nat} {m : Mac} {a b : α} {f : Tag → α} : two (.key s) (.val s) a b f (.mv m) = f (.mv m) := two_3 (by intro h; cases h) (by intro h; cases h) _ _ _
theorem cont_out {n : Nat} {L : List EntL} (hG : Good L) {x : EntL} (hx : x ∈ L) (t : Tag) :
    two (.mk x.mac) (.mv x.mac) (outE ((two (.key (x.id.toNat % n)) (.val (x.id.toNat % n)) (outE (Cont n L (.val (x.id.toNat % n))) x.id) (outE (Cont n L (.val (x.id.toNat % n))) x.id) (Cont n L)) (.mv x.mac)) x.id)
      (outE ((two (.key (x.id.toNat % n)) (.val (x.id.toNat % n)) (outE (Cont n L (.val (x.id.toNat % n))) x.id) (outE (Cont n L (.val (x.id.toNat % n))) x.id) (Cont n L)) (.mv x.mac)) x.id)
      (two (.key (x.id.toNat % n)) (.val (x.id.toNat % n)) (outE (Cont n L (.val (x.id.toNat % n))) x.id) (outE (Cont n L (.val (x.id.toNat % n))) x.id) (Cont n L)) t = Cont n (outE L x.id) t := by
  have hmv : two (.key (x.id.toNat % n)) (.val (x.id.toNat % n)) (outE (Cont n L (.val (x.id.toNat % n))) x.id) (outE (Cont n L (.val (x.id.toNat % n))) x.id) (Cont n L) (.mv x.mac) = Cont n L (.mv x.mac) := two_3 (by intro h; cases h) (by intro h; cases h) _ _ _
  rw [hmv]
  have one : ∀ e ∈ L, e.id = x.id → e = x := fun e he h => one_of hG.sorted he hx h
  cases t with
  | mk m =>
    by_cases e : m = x.mac
    · subst e; rw [two_1]; exact (filter_out _ _ _).symm
    · rw [two_3 (by intro h; cases h; exact e rfl) (by intro h; cases h), two_3 (by intro h; cases h) (by intro h; cases h)]
      exact (filter_same fun y hy h => by rw [one y hy h]; simpa using fun h => e h.symm).symm
  | mv m =>
    by_cases e : m = x.mac
    · subst e; rw [two_2 (by intro h; cases h)]; exact (filter_out _ _ _).symm
    · rw [two_3 (by intro h; cases h) (by intro h; cases h; exact e rfl), two_3 (by intro h; cases h) (by intro h; cases h)]
      exact (filter_same fun y hy h => by rw [one y hy h]; simpa using fun h => e h.symm).symm
  | key s =>
    rw [two_3 (by intro h; cases h) (by intro h; cases h)]
    by_cases e : s = x.id.toNat % n
    · subst e; rw [two_1]; exact (filter_out _ _ _).symm
    · rw [two_3 (by intro h; cases h; exact e rfl) (by intro h; cases h)]
      exact (filter_same fun y hy h => by rw [one y hy h]; simpa using fun h => e h.symm).symm
  | val s =>
    rw [two_3 (by intro h; cases h) (by intro h; cases h)]
    by_cases e : s = x.id.toNat % n
    · subst e; rw [two_2 (by intro h; cases h)]; exact (filter_out _ _ _).symm
    · rw [two_3 (by intro h; cases h) (by intro h; cases h; exact e rfl)]
      exact (filter_same fun y hy h => by rw [one y hy h]; simpa using fun h => e h.symm).symm

theorem St.tx {w0 w w' : World} {G z : Nat → Prop} {O : List As} {T : List Rd} (H : St w0 G z O T w) (i : Nat) {B S M n : Nat} {C C' : Tag → List EntL} {A : Nat → Prop} (hO : O[i]? = some (txo B S M n C A)) (ht : TX w' B S M n C' A) (hk : Kpt w w' A) : St w0 G z (O.set i (txo B S M n C' A)) T w' := by
  have := H.upd i hO (txo B S M n C' A) (w' := w') hk ht (fun b hb => .inl hb) [] (by simp)
  simpa using this

set_option maxHeartbeats 4000000 in
theorem remove_any (T n : Nat) (L : List EntL) (A : Nat → Prop) (k : Int) (w : World) (h : Tab w T n L A) :
    Calls Try.prog 21 #[.pointer (some ⟨T, 0, none⟩), .int .i64 k] w fun e w' => e = .returned (.tuple #[.agg (ec (getE L k).1).toArray, .int .i64 (if (getE L k).2 then 0 else 202)]) ∧ Tab w' T n (outE L k) A ∧ Kpt w w' A := by
  obtain ⟨hG, hn1, hn2⟩ := tab_good h
  have HG := Lib.hid hG
  have HN := Lib.hid (tab_none h)
  obtain ⟨S, M, hx⟩ := tab_tx h
  obtain ⟨S', hS', -⟩ := tab_row h
  obtain rfl : S' = S := by
    have := tx_cells hx
    have := cellsAt_of _ 0 (rng_at this)
    simp only [CellsAt, Nat.zero_add] at this
    rw [this.2.1] at hS'; cases hS'; rfl
  have H := Lib.hid (St.begin w A (fun _ => False) [txo T S' M n (Cont n L) A] [] (by simp only [List.mem_singleton, forall_eq]; exact hx) (by simp only [List.mem_singleton, forall_eq]; exact fun b hb => ⟨hb, id⟩) (List.pairwise_singleton _ _) (by simp))
  have HT : Hid (∀ w', TX w' T S' M n (Cont n L) A → Tab w' T n L A) := fun w' h => tx_tab h (fun _ => rfl) hn1 hn2 hG
  have HC : Hid (∀ w', TX w' T S' M n (Cont n L) A → w'.cell? ⟨T, 1, none⟩ = some (.slice (some ⟨S', 0, none⟩) n n)) := fun w' h => by
    have := cellsAt_of _ 0 (rng_at (tx_cells h))
    simp only [CellsAt, Nat.zero_add] at this
    exact this.2.1
  clear hx hS' h
  by_cases hg : (getE L k).2 = true
  · obtain ⟨x, hxm, rfl, hxe⟩ : ∃ x ∈ L, x.id = k ∧ getE L k = (x, true) := by
      unfold getE at hg ⊢
      split
      · rename_i x hf; exact ⟨x, List.mem_of_find?_eq_some hf, by simpa using List.find?_some hf, rfl⟩
      · rename_i hf; rw [hf] at hg; cases hg
    obtain ⟨hk1, hk2, -, -⟩ := hG.range x hxm
    rw [hxe]
    have HX := Lib.hid hxe
    have HM := Lib.hid hxm
    clear hg hxe hG
    go_enter Try.func21, Try.ntmps21
    go_wp2_with (first
      | (go_at_call 30; refine (none_any _ false _ (tab_none (HT.out _ (by first | exact H.out.has 0 rfl | exact H.out.has 1 rfl)))).mono ?_; rintro e w5 ⟨rfl, rfl⟩)
      | (go_at_call 13; refine (get_any T n L A _ _ (HT.out _ (H.out.has 1 rfl))).mono ?_; rintro e w5 ⟨rfl, hb⟩; rw [HX.out]; have H1 := H.out.same hb; clear hb; simp only [ec]; (try clear F); clear H; have H := Lib.hid H1; have F := H1.facts; simp only [fxx, ec, iv, facts_txo, macs] at F; clear H1)
      | (go_at_call 33; refine (of_any T S' n _ _ (HC.out _ (H.out.has 2 rfl)) hk1 hk2 hn1 hn2).mono ?_; rintro e w5 ⟨rfl, q, rfl⟩; have H1 := H.out.draw q; (try clear F); clear H; have H := Lib.hid H1; have F := H1.facts; simp only [fxx, ec, iv, facts_txo, macs] at F; clear H1)
      | (go_at_call 39
         refine (drop_tx T S' M n (Cont n L) A _ _ _ (H.out.has 2 rfl) (Nat.mod_lt _ (by omega)) rfl (HG.out.filter _) (Nat.le_trans (HG.out.flen _) (by decide)) (List.mem_map.2 ⟨x, List.mem_filter.2 ⟨HM.out, by simp⟩, rfl⟩)).mono ?_
         rintro e w5 ⟨rfl, ht, hk⟩
         have H1 := H.out.tx 2 rfl ht hk
         simp only [List.set_cons_zero, List.set_cons_succ] at H1
         clear ht hk
         (try clear F); clear H; have H := Lib.hid H1; have F := H1.facts; simp only [fxx, ec, iv, facts_txo, macs] at F; clear H1)
      | (show wpList _ _ _ _ _ (World.drewN _ _); refine wl_drewN H.out ?_; intro w4 H1 hle4; (try clear F); clear H; have H := Lib.hid H1; have F := H1.facts; simp only [fxx, ec, iv, facts_txo, macs] at F; clear H1)
      | (show Code.wp _ _ _ _ (World.drewN _ _); refine cw_drewN H.out ?_; intro w4 H1 hle4; (try clear F); clear H; have H := Lib.hid H1; have F := H1.facts; simp only [fxx, ec, iv, facts_txo, macs] at F; clear H1)
      | (show wpList _ _ _ _ _ (World.alloc _ _); refine wl_absorb H.out ?_; intro w1 H1 hlt1; (try clear F); clear H; have H := Lib.hid H1; have F := H1.facts; simp only [fxx, ec, iv, facts_txo, macs] at F; clear H1)
      | (show Code.wp _ _ _ _ (World.alloc _ _); refine cw_absorb H.out ?_; intro w2 H1 hlt2; (try clear F); clear H; have H := Lib.hid H1; have F := H1.facts; simp only [fxx, ec, iv, facts_txo, macs] at F; clear H1)
      | (show wpList _ _ _ (Oper.mk none (Op.store _ _ _) _ _ _ _ :: _) _ _; (first | refine wl_store H.out 0 rfl rfl rfl (by rfl) (by simp [Act.eval, Value.cells]; rfl) (by kernel_rfl) (by simp) (by simp [Value.oneCell']) ?_ | refine wl_store H.out 1 rfl rfl rfl (by rfl) (by simp [Act.eval, Value.cells]; rfl) (by kernel_rfl) (by simp) (by simp [Value.oneCell']) ?_); intro w3 H1 hle3; simp only [px] at H1; (try clear F); clear H; have H := Lib.hid H1; have F := H1.facts; simp only [fxx, ec, iv, facts_txo, macs] at F; clear H1))
    have H1 := H.out.front 2 rfl; simp only [List.eraseIdx_cons_succ, List.eraseIdx_cons_zero] at H1; (try clear F); clear H; have H := Lib.hid H1; have F := H1.facts; simp only [fxx, ec, iv, facts_txo, macs] at F; clear H1
    refine rz_start H.out (List.sublist_cons_self _ _) (by kernel_rfl) ?_; intro w4 H1 hle4; (try clear F); clear H; have H := Lib.hid H1; have F := H1.facts; simp only [fxx, ec, iv, facts_txo, macs] at F; clear H1
    refine rz_reads [0, 1, 2, 3, 4, 5] (by kernel_rfl) (H.out.sub (by first | exact List.Sublist.refl _ | exact List.sublist_cons_self _ _ | exact (List.sublist_cons_self _ _).trans (List.sublist_cons_self _ _) | exact ((List.sublist_cons_self _ _).trans (List.sublist_cons_self _ _)).trans (List.sublist_cons_self _ _)) (by intro _ h; first | exact h | exact .tail _ h | exact .tail _ (.tail _ h) | exact .tail _ (.tail _ (.tail _ h)) | exact .tail _ (.tail _ (.tail _ (.tail _ h))) | (simp only [List.mem_cons, List.not_mem_nil, or_false] at h ⊢; first | (simp [h]; done) | (rcases h with h | h <;> simp [h]; done) | (rcases h with h | h | h <;> simp [h]; done) | (rcases h with h | h | h | h <;> simp [h]; done)))) (fun d _ _ _ _ h => by cases d <;> exact h) ?_; (repeat first | (refine rd_skip rfl (by rfl) ?_; simp only [pz]) | (refine rd_step (v := ?_) rfl (by rfl) ?_ ?_; rotate_left 1; (focus intro W hW; have F := St.facts hW; simp only [fxx, ec, iv, facts_txo, macs] at F; go_simp; all_goals with_reducible rfl); simp only [pz])); refine rd_end ?_; show wpAnyH _ _ _ _ _ _ _ _ _
    refine rz_one 6 (by kernel_rfl) ?_
    refine ss_call rfl (by rfl) (f := 40) (args := ?_) ?_ ?_; (rotate_left 1; (focus go_simp; all_goals with_reducible rfl))
    refine (forget_tx T S' M n _ A x.mac _ _ (H.out.has 0 rfl) rfl (by rw [two_mv]; exact HG.out.filter _) (by rw [two_mv]; exact Nat.le_trans (HG.out.flen _) (by decide)) (by rw [two_mv]; exact List.mem_map.2 ⟨x, List.mem_filter.2 ⟨HM.out, by simp⟩, rfl⟩)).mono ?_; rintro e w5 ⟨rfl, ht, hk⟩; have H1 := H.out.tx 0 rfl ht hk; simp only [List.set_cons_zero, List.set_cons_succ] at H1; clear ht hk
    refine ⟨_, rfl, H1.sub (by first | exact List.Sublist.refl _ | exact List.sublist_cons_self _ _ | exact (List.sublist_cons_self _ _).trans (List.sublist_cons_self _ _) | exact ((List.sublist_cons_self _ _).trans (List.sublist_cons_self _ _)).trans (List.sublist_cons_self _ _)) (by intro _ h; first | exact h | exact .tail _ h | exact .tail _ (.tail _ h) | exact .tail _ (.tail _ (.tail _ h)) | exact .tail _ (.tail _ (.tail _ (.tail _ h))) | (simp only [List.mem_cons, List.not_mem_nil, or_false] at h ⊢; first | (simp [h]; done) | (rcases h with h | h <;> simp [h]; done) | (rcases h with h | h | h <;> simp [h]; done) | (rcases h with h | h | h | h <;> simp [h]; done))), ?_⟩
    (try clear F); clear H; have H := Lib.hid H1; have F := H1.facts; simp only [fxx, ec, iv, facts_txo, macs] at F; clear H1
    simp only [pz]
    refine rz_done (by kernel_rfl) ?_
    go_wp2_with (first
      | (show wpList _ _ _ _ _ (World.drewN _ _); refine wl_drewN H.out ?_; intro w4 H1 hle4; (try clear F); clear H; have H := Lib.hid H1; have F := H1.facts; simp only [fxx, ec, iv, facts_txo, macs] at F; clear H1)
      | (show Code.wp _ _ _ _ (World.drewN _ _); refine cw_drewN H.out ?_; intro w4 H1 hle4; (try clear F); clear H; have H := Lib.hid H1; have F := H1.facts; simp only [fxx, ec, iv, facts_txo, macs] at F; clear H1)
      | (show wpList _ _ _ _ _ (World.alloc _ _); refine wl_absorb H.out ?_; intro w1 H1 hlt1; (try clear F); clear H; have H := Lib.hid H1; have F := H1.facts; simp only [fxx, ec, iv, facts_txo, macs] at F; clear H1)
      | (show Code.wp _ _ _ _ (World.alloc _ _); refine cw_absorb H.out ?_; intro w2 H1 hlt2; (try clear F); clear H; have H := Lib.hid H1; have F := H1.facts; simp only [fxx, ec, iv, facts_txo, macs] at F; clear H1)
      | (show wpList _ _ _ (Oper.mk none (Op.store _ _ _) _ _ _ _ :: _) _ _; (first | refine wl_store H.out 0 rfl rfl rfl (by rfl) (by simp [Act.eval, Value.cells]; rfl) (by kernel_rfl) (by simp) (by simp [Value.oneCell']) ?_ | refine wl_store H.out 1 rfl rfl rfl (by rfl) (by simp [Act.eval, Value.cells]; rfl) (by kernel_rfl) (by simp) (by simp [Value.oneCell']) ?_ | refine wl_store H.out 2 rfl rfl rfl (by rfl) (by simp [Act.eval, Value.cells]; rfl) (by kernel_rfl) (by simp) (by simp [Value.oneCell']) ?_); intro w3 H1 hle3; simp only [px] at H1; (try clear F); clear H; have H := Lib.hid H1; have F := H1.facts; simp only [fxx, ec, iv, facts_txo, macs] at F; clear H1))
    refine bodyPost_ret (ret_ct rfl rfl rfl (H.out.has 2 rfl) row_40 rfl) rfl ⟨rfl, tx_tab (H.out.has 0 rfl) (cont_out HG.out HM.out) hn1 hn2 (outE_good HG.out _), H.out.base⟩
  · have hg' : (getE L k).2 = false := by simpa using hg
    have hno := getE_false hg'
    have hge := getE_no hno
    rw [hge, outE_none hno]
    have HX := Lib.hid hge
    clear hg hg' hno hge hG
    go_enter Try.func21, Try.ntmps21
    go_wp2_with (first
      | (go_at_call 30; refine (none_any _ false _ (tab_none (HT.out _ (by first | exact H.out.has 0 rfl | exact H.out.has 1 rfl)))).mono ?_; rintro e w5 ⟨rfl, rfl⟩)
      | (go_at_call 13; refine (get_any T n L A _ _ (HT.out _ (H.out.has 1 rfl))).mono ?_; rintro e w5 ⟨rfl, hb⟩; rw [HX.out]; have H1 := H.out.same hb; clear hb; simp only [ec]; (try clear F); clear H; have H := Lib.hid H1; have F := H1.facts; simp only [fxx, ec, iv, facts_txo, macs] at F; clear H1)
      | (show wpList _ _ _ _ _ (World.drewN _ _); refine wl_drewN H.out ?_; intro w4 H1 hle4; (try clear F); clear H; have H := Lib.hid H1; have F := H1.facts; simp only [fxx, ec, iv, facts_txo, macs] at F; clear H1)
      | (show Code.wp _ _ _ _ (World.drewN _ _); refine cw_drewN H.out ?_; intro w4 H1 hle4; (try clear F); clear H; have H := Lib.hid H1; have F := H1.facts; simp only [fxx, ec, iv, facts_txo, macs] at F; clear H1)
      | (show wpList _ _ _ _ _ (World.alloc _ _); refine wl_absorb H.out ?_; intro w1 H1 hlt1; (try clear F); clear H; have H := Lib.hid H1; have F := H1.facts; simp only [fxx, ec, iv, facts_txo, macs] at F; clear H1)
      | (show Code.wp _ _ _ _ (World.alloc _ _); refine cw_absorb H.out ?_; intro w2 H1 hlt2; (try clear F); clear H; have H := Lib.hid H1; have F := H1.facts; simp only [fxx, ec, iv, facts_txo, macs] at F; clear H1)
      | (show wpList _ _ _ (Oper.mk none (Op.store _ _ _) _ _ _ _ :: _) _ _; (first | refine wl_store H.out 0 rfl rfl rfl (by rfl) (by simp [Act.eval, Value.cells]; rfl) (by kernel_rfl) (by simp) (by simp [Value.oneCell']) ?_ | refine wl_store H.out 1 rfl rfl rfl (by rfl) (by simp [Act.eval, Value.cells]; rfl) (by kernel_rfl) (by simp) (by simp [Value.oneCell']) ?_ | refine wl_store H.out 2 rfl rfl rfl (by rfl) (by simp [Act.eval, Value.cells]; rfl) (by kernel_rfl) (by simp) (by simp [Value.oneCell']) ?_); intro w3 H1 hle3; simp only [px] at H1; (try clear F); clear H; have H := Lib.hid H1; have F := H1.facts; simp only [fxx, ec, iv, facts_txo, macs] at F; clear H1))
    refine bodyPost_ret (ret_ct rfl rfl rfl (H.out.has 1 rfl) row_40 rfl) rfl ⟨rfl, HT.out _ (H.out.has 2 rfl), H.out.base⟩
end Go.Proofs.Ytkifagflnpkkaaa
