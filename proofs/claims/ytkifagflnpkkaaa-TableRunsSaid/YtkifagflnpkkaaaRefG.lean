/- The reference's table: Touch; List and Idle of anything. No condition. -/
import Derived.Test.YtkifagflnpkkaaaRefF
namespace Go.Proofs.Ytkifagflnpkkaaa
set_option linter.unusedSimpArgs false
set_option linter.unusedVariables false
-- FSX: ec, iv, facts_tobj, macs
open Go.RowKit
set_option maxRecDepth 10000

theorem outE_hd {x : EntL} {l : List EntL} (hs : (x :: l).Pairwise (fun a b => a.id < b.id)) : outE (x :: l) x.id = l := by
  rw [List.pairwise_cons] at hs
  unfold outE
  rw [List.filter_cons_of_neg (by simp), List.filter_eq_self.2]
  intro e he
  have := hs.1 e he
  simp; omega
theorem insE_out {x : EntL} : ∀ {L : List EntL}, L.Pairwise (fun a b => a.id < b.id) → x.id ∈ L.map (·.id) → insE (outE L x.id) x = L.map (repE x)
  | [], _, h => by simp at h
  | e :: l, hs, h => by
    have hs' := hs
    rw [List.pairwise_cons] at hs'
    by_cases he : e.id = x.id
    · rw [← he, outE_hd hs, List.map_cons, show repE x e = x by unfold repE; rw [if_pos he]]
      have h1 : ∀ y ∈ l, ¬ y.id < x.id := fun y hy => by have := hs'.1 y hy; omega
      have h2 : ∀ y ∈ l, repE x y = y := fun y hy => by have := hs'.1 y hy; unfold repE; rw [if_neg (by omega)]
      rw [List.map_congr_left h2, List.map_id']
      unfold insE
      rw [List.filter_eq_nil_iff.2 (by simpa using h1), List.filter_eq_self.2 (by simpa using h1)]
      rfl
    · have hx : x.id ∈ l.map (·.id) := by
        rcases List.mem_cons.1 h with h | h
        · exact absurd h.symm he
        · exact h
      obtain ⟨y, hy, hyx⟩ := List.mem_map.1 hx
      have hlt : e.id < x.id := by have := hs'.1 y hy; omega
      have ih := insE_out hs'.2 hx
      have ho : outE (e :: l) x.id = e :: outE l x.id := by unfold outE; rw [List.filter_cons_of_pos (by simpa using he)]
      rw [ho, List.map_cons, show repE x e = e by unfold repE; rw [if_neg he], ← ih]
      unfold insE
      rw [List.filter_cons_of_pos (by simpa using hlt), List.filter_cons_of_neg (by simpa using hlt)]
      rfl
theorem with_out {L : List EntL} (hs : L.Pairwise (fun a b => a.id < b.id)) {x : EntL} (h : x.id ∈ L.map (·.id)) : withE (outE L x.id) x = L.map (repE x) := by
  have h1 : withE (outE L x.id) x = insE (outE L x.id) x := with_ins (hs.filter _) x (fun e he => by simpa using (List.mem_filter.1 he).2)
  rw [h1, insE_out hs h]

set_option maxHeartbeats 4000000 in
theorem rtouch_any (z : Nat → Prop) (n : Int) (v : Value) (L : List EntL) (k t : Int) (w : World) (hv : SlZ rEnt z w v L) (hG : Good L) :
    Calls Try.prog 43 #[.agg #[.int .i64 n, v], .int .i64 k, .int .i64 t] w fun e w' => ∃ v', e = .returned (.tuple #[.agg #[.int .i64 n, v'], .int .i64 (touchR L k t).2]) ∧ Below w.heap.size w w' ∧ SlZ rEnt (Fresh z w w') w' v' (touchR L k t).1 := by
  have hL : L.length ≤ 100000 := by have := hG.len; omega
  have hL' : (outE L k).length ≤ 100000 := Nat.le_trans (List.length_filter_le _ _) hL
  obtain ⟨ad, cap, rfl, hlc, hcm⟩ := hv.shape
  unfold maxLen at hcm
  have H := Lib.hid (St.start w z [rdS rEnt _ L] (by simp only [List.mem_singleton, forall_eq]; exact hv))
  clear hv
  by_cases ht : 0 ≤ t ∧ t ≤ 1099511627776
  · unfold touchR
    rw [if_pos ht]
    by_cases hg : (getE L k).2 = true
    · obtain ⟨x, hxm, rfl, hxe⟩ : ∃ x ∈ L, x.id = k ∧ getE L k = (x, true) := by
        unfold getE at hg ⊢
        split
        · rename_i x hf; exact ⟨x, List.mem_of_find?_eq_some hf, by simpa using List.find?_some hf, rfl⟩
        · rename_i hf; rw [hf] at hg; cases hg
      have HX := Lib.hid hxe
      have HQ : Hid (withE (outE L x.id) { x with seen := max x.seen t } = L.map (repE { x with seen := max x.seen t })) := with_out (x := { x with seen := max x.seen t }) hG.sorted (List.mem_map.2 ⟨x, hxm, rfl⟩)
      rw [hxe, if_pos rfl]
      have HPx : Hid (∀ z s v w, s = max x.seen t → SlZ rEnt z w v (outE L x.id) → Calls Try.prog 50 #[v, .agg (ec { x with seen := s }).toArray] w fun e w' => ∃ v', e = .returned v' ∧ Below w.heap.size w w' ∧ SlZ rEnt (Fresh z w w') w' v' (L.map (repE { x with seen := max x.seen t }))) := fun z s v w hs hv => by
        subst hs
        refine (with_any z v _ { x with seen := max x.seen t } w hv hL').mono ?_
        rintro e w' ⟨v', h1, h2, h3, h4⟩
        rw [HQ.out] at h3
        exact ⟨v', h1, h2, own_slz ⟨h3.1, h3.2.imp_right (by rintro ⟨g, cap, cur, rfl, _, h6⟩; exact ⟨g, cap, cur, rfl, h4 g rfl, h6⟩)⟩ ec_len (by decide) rfl⟩
      clear hg hxe hG HQ
      generalize L.map (repE { x with seen := max x.seen t }) = L1 at *
      simp only [ec] at HPx
      obtain ⟨ht0, ht1⟩ := ht
      go_enter Try.func43, Try.ntmps43
      go_wp2_with (first
        | (go_at_call 45; refine (rget_any _ _ _ L _ _ (H.out.rd 0 rfl)).mono ?_; rintro e w4 ⟨rfl, hb⟩; rw [HX.out]; have H1 := H.out.same hb; clear hb; simp only [ec, ent0]; (try clear F); clear H; have H := Lib.hid H1; have F := H1.facts; simp only [fxx, ec, iv, facts_tobj, macs] at F; clear H1)
        | (show wpList _ _ _ _ _ (World.drewN _ _); refine wl_drewN H.out ?_; intro w4 H1 hle4; (try clear F); clear H; have H := Lib.hid H1; have F := H1.facts; simp only [fxx, ec, iv, facts_tobj, macs] at F; clear H1)
        | (show Code.wp _ _ _ _ (World.drewN _ _); refine cw_drewN H.out ?_; intro w4 H1 hle4; (try clear F); clear H; have H := Lib.hid H1; have F := H1.facts; simp only [fxx, ec, iv, facts_tobj, macs] at F; clear H1)
        | (show wpList _ _ _ _ _ (World.alloc _ _); refine wl_absorb H.out ?_; intro w1 H1 hlt1; (try clear F); clear H; have H := Lib.hid H1; have F := H1.facts; simp only [fxx, ec, iv, facts_tobj, macs] at F; clear H1)
        | (show Code.wp _ _ _ _ (World.alloc _ _); refine cw_absorb H.out ?_; intro w2 H1 hlt2; (try clear F); clear H; have H := Lib.hid H1; have F := H1.facts; simp only [fxx, ec, iv, facts_tobj, macs] at F; clear H1)
        | (show wpList _ _ _ (Oper.mk none (Op.store _ _ _) _ _ _ _ :: _) _ _; (first | refine wl_store H.out 0 rfl rfl rfl (by rfl) (by simp [Act.eval, Value.cells]; rfl) (by kernel_rfl) (by simp) (by simp [Value.oneCell']) ?_ | refine wl_store H.out 1 rfl rfl rfl (by rfl) (by simp [Act.eval, Value.cells]; rfl) (by kernel_rfl) (by simp) (by simp [Value.oneCell']) ?_ | refine wl_store H.out 2 rfl rfl rfl (by rfl) (by simp [Act.eval, Value.cells]; rfl) (by kernel_rfl) (by simp) (by simp [Value.oneCell']) ?_ | refine wl_store H.out 3 rfl rfl rfl (by rfl) (by simp [Act.eval, Value.cells]; rfl) (by kernel_rfl) (by simp) (by simp [Value.oneCell']) ?_ | refine wl_store H.out 4 rfl rfl rfl (by rfl) (by simp [Act.eval, Value.cells]; rfl) (by kernel_rfl) (by simp) (by simp [Value.oneCell']) ?_ | refine wl_store H.out 5 rfl rfl rfl (by rfl) (by simp [Act.eval, Value.cells]; rfl) (by kernel_rfl) (by simp) (by simp [Value.oneCell']) ?_); intro w3 H1 hle3; (try show wpList _ _ _ _ ⟨_, _⟩ _); simp only [px] at H1; (try clear F); clear H; have H := Lib.hid H1; have F := H1.facts; simp only [fxx, ec, iv, facts_tobj, macs] at F; clear H1))
      all_goals
        refine rz_start (O' := [_]) H.out (List.Sublist.cons_cons _ (List.nil_sublist _)) (by kernel_rfl) ?_; intro w4 H1 hle4; (try clear F); clear H; have H := Lib.hid H1; have F := H1.facts; simp only [fxx, ec, iv, facts_tobj, macs] at F; clear H1
        refine rz_reads [0, 2, 4] (by kernel_rfl) (H.out.sub (by first | exact List.Sublist.refl _ | exact List.sublist_cons_self _ _ | exact (List.sublist_cons_self _ _).trans (List.sublist_cons_self _ _) | exact ((List.sublist_cons_self _ _).trans (List.sublist_cons_self _ _)).trans (List.sublist_cons_self _ _) | (repeat (first | exact List.Sublist.slnil | exact List.nil_sublist _ | apply List.Sublist.cons_cons | apply List.Sublist.cons))) (by intro _ h; first | exact h | exact .tail _ h | exact .tail _ (.tail _ h) | exact .tail _ (.tail _ (.tail _ h)) | exact .tail _ (.tail _ (.tail _ (.tail _ h))) | (simp only [List.mem_cons, List.not_mem_nil, or_false] at h ⊢; first | (simp [h]; done) | (rcases h with h | h <;> simp [h]; done) | (rcases h with h | h | h <;> simp [h]; done) | (rcases h with h | h | h | h <;> simp [h]; done)))) (fun d _ _ _ _ h => by cases d <;> exact h) ?_; (repeat first | (refine rd_skip rfl (by rfl) ?_; simp only [pz]) | (refine rd_step (v := ?_) rfl (by rfl) ?_ ?_; rotate_left 1; (focus intro W hW; have F := St.facts hW; simp only [fxx, ec, iv, facts_tobj, macs] at F; go_simp; all_goals with_reducible rfl); simp only [pz])); refine rd_end ?_; show wpAnyH _ _ _ _ _ _ _ _ _
        refine rz_one 1 (by kernel_rfl) ?_
        refine ss_val rfl (by rfl) (v := ?_) ?_ (H.out.sub (by first | exact List.Sublist.refl _ | exact List.sublist_cons_self _ _ | exact (List.sublist_cons_self _ _).trans (List.sublist_cons_self _ _) | exact ((List.sublist_cons_self _ _).trans (List.sublist_cons_self _ _)).trans (List.sublist_cons_self _ _) | (repeat (first | exact List.Sublist.slnil | exact List.nil_sublist _ | apply List.Sublist.cons_cons | apply List.Sublist.cons))) (by intro _ h; first | exact h | exact .tail _ h | exact .tail _ (.tail _ h) | exact .tail _ (.tail _ (.tail _ h)) | exact .tail _ (.tail _ (.tail _ (.tail _ h))) | (simp only [List.mem_cons, List.not_mem_nil, or_false] at h ⊢; first | (simp [h]; done) | (rcases h with h | h <;> simp [h]; done) | (rcases h with h | h | h <;> simp [h]; done) | (rcases h with h | h | h | h <;> simp [h]; done)))) ?_; (rotate_left 1; (focus go_simp; all_goals with_reducible rfl)); simp only [pz]
        refine rz_one 3 (by kernel_rfl) ?_
        refine ss_call rfl (by rfl) (f := 58) (args := ?_) ?_ ?_; (rotate_left 1; (focus go_simp; all_goals with_reducible rfl))
        refine (without_any _ _ L _ _ (by first | exact H.out.rd 0 rfl | exact H.out.rd 1 rfl) hL).mono ?_; rintro e w4 ⟨v4, rfl, hb, hv4⟩; obtain ⟨ad4, cap4, rfl, -, -⟩ := hv4.shape; have H1 := H.out.call hb (rdS rEnt _ (outE L x.id)) hv4; clear hb hv4
        refine ⟨_, rfl, H1.sub (by first | exact List.Sublist.refl _ | exact List.sublist_cons_self _ _ | exact (List.sublist_cons_self _ _).trans (List.sublist_cons_self _ _) | exact ((List.sublist_cons_self _ _).trans (List.sublist_cons_self _ _)).trans (List.sublist_cons_self _ _) | (repeat (first | exact List.Sublist.slnil | exact List.nil_sublist _ | apply List.Sublist.cons_cons | apply List.Sublist.cons))) (by intro _ h; first | exact h | exact .tail _ h | exact .tail _ (.tail _ h) | exact .tail _ (.tail _ (.tail _ h)) | exact .tail _ (.tail _ (.tail _ (.tail _ h))) | (simp only [List.mem_cons, List.not_mem_nil, or_false] at h ⊢; first | (simp [h]; done) | (rcases h with h | h <;> simp [h]; done) | (rcases h with h | h | h <;> simp [h]; done) | (rcases h with h | h | h | h <;> simp [h]; done))), ?_⟩
        (try clear F); clear H; have H := Lib.hid H1; have F := H1.facts; simp only [fxx, ec, iv, facts_tobj, macs] at F; clear H1
        simp only [pz]
        refine rz_one 5 (by kernel_rfl) ?_
        refine ss_call rfl (by rfl) (f := 50) (args := ?_) ?_ ?_; (rotate_left 1; (focus go_simp; all_goals with_reducible rfl))
        refine (HPx.out _ _ _ _ (by omega) (H.out.rd 0 rfl)).mono ?_; rintro e w4 ⟨v5, rfl, hb, hv5⟩; obtain ⟨ad5, cap5, rfl, -, -⟩ := hv5.shape; have H1 := H.out.call hb (rdS rEnt _ L1) hv5; clear hb hv5
        refine ⟨_, rfl, H1.sub (by first | exact List.Sublist.refl _ | exact List.sublist_cons_self _ _ | exact (List.sublist_cons_self _ _).trans (List.sublist_cons_self _ _) | exact ((List.sublist_cons_self _ _).trans (List.sublist_cons_self _ _)).trans (List.sublist_cons_self _ _) | (repeat (first | exact List.Sublist.slnil | exact List.nil_sublist _ | apply List.Sublist.cons_cons | apply List.Sublist.cons))) (by intro _ h; first | exact h | exact .tail _ h | exact .tail _ (.tail _ h) | exact .tail _ (.tail _ (.tail _ h)) | exact .tail _ (.tail _ (.tail _ (.tail _ h))) | (simp only [List.mem_cons, List.not_mem_nil, or_false] at h ⊢; first | (simp [h]; done) | (rcases h with h | h <;> simp [h]; done) | (rcases h with h | h | h <;> simp [h]; done) | (rcases h with h | h | h | h <;> simp [h]; done))), ?_⟩
        (try clear F); clear H; have H := Lib.hid H1; have F := H1.facts; simp only [fxx, ec, iv, facts_tobj, macs] at F; clear H1
        simp only [pz]
        refine rz_reads [6] (by kernel_rfl) (H.out.sub (by first | exact List.Sublist.refl _ | exact List.sublist_cons_self _ _ | exact (List.sublist_cons_self _ _).trans (List.sublist_cons_self _ _) | exact ((List.sublist_cons_self _ _).trans (List.sublist_cons_self _ _)).trans (List.sublist_cons_self _ _) | (repeat (first | exact List.Sublist.slnil | exact List.nil_sublist _ | apply List.Sublist.cons_cons | apply List.Sublist.cons))) (by intro _ h; first | exact h | exact .tail _ h | exact .tail _ (.tail _ h) | exact .tail _ (.tail _ (.tail _ h)) | exact .tail _ (.tail _ (.tail _ (.tail _ h))) | (simp only [List.mem_cons, List.not_mem_nil, or_false] at h ⊢; first | (simp [h]; done) | (rcases h with h | h <;> simp [h]; done) | (rcases h with h | h | h <;> simp [h]; done) | (rcases h with h | h | h | h <;> simp [h]; done)))) (fun d _ _ _ _ h => by cases d <;> exact h) ?_; (repeat first | (refine rd_skip rfl (by rfl) ?_; simp only [pz]) | (refine rd_step (v := ?_) rfl (by rfl) ?_ ?_; rotate_left 1; (focus intro W hW; have F := St.facts hW; simp only [fxx, ec, iv, facts_tobj, macs] at F; go_simp; all_goals with_reducible rfl); simp only [pz])); refine rd_end ?_; show wpAnyH _ _ _ _ _ _ _ _ _
        refine rz_one 7 (by kernel_rfl) ?_
        (first | refine sz_store H.out 0 rfl rfl rfl rfl (by rfl) (by simp [Act.eval, Value.cells]; rfl) (by kernel_rfl) (by simp) (by simp [Value.oneCell']) (fun W h => h.sub (by first | exact List.Sublist.refl _ | exact List.sublist_cons_self _ _ | exact (List.sublist_cons_self _ _).trans (List.sublist_cons_self _ _) | exact ((List.sublist_cons_self _ _).trans (List.sublist_cons_self _ _)).trans (List.sublist_cons_self _ _) | (repeat (first | exact List.Sublist.slnil | exact List.nil_sublist _ | apply List.Sublist.cons_cons | apply List.Sublist.cons))) (by intro _ h; first | exact h | exact .tail _ h | exact .tail _ (.tail _ h) | exact .tail _ (.tail _ (.tail _ h)) | exact .tail _ (.tail _ (.tail _ (.tail _ h))) | (simp only [List.mem_cons, List.not_mem_nil, or_false] at h ⊢; first | (simp [h]; done) | (rcases h with h | h <;> simp [h]; done) | (rcases h with h | h | h <;> simp [h]; done) | (rcases h with h | h | h | h <;> simp [h]; done)))) ?_ | refine sz_store H.out 1 rfl rfl rfl rfl (by rfl) (by simp [Act.eval, Value.cells]; rfl) (by kernel_rfl) (by simp) (by simp [Value.oneCell']) (fun W h => h.sub (by first | exact List.Sublist.refl _ | exact List.sublist_cons_self _ _ | exact (List.sublist_cons_self _ _).trans (List.sublist_cons_self _ _) | exact ((List.sublist_cons_self _ _).trans (List.sublist_cons_self _ _)).trans (List.sublist_cons_self _ _) | (repeat (first | exact List.Sublist.slnil | exact List.nil_sublist _ | apply List.Sublist.cons_cons | apply List.Sublist.cons))) (by intro _ h; first | exact h | exact .tail _ h | exact .tail _ (.tail _ h) | exact .tail _ (.tail _ (.tail _ h)) | exact .tail _ (.tail _ (.tail _ (.tail _ h))) | (simp only [List.mem_cons, List.not_mem_nil, or_false] at h ⊢; first | (simp [h]; done) | (rcases h with h | h <;> simp [h]; done) | (rcases h with h | h | h <;> simp [h]; done) | (rcases h with h | h | h | h <;> simp [h]; done)))) ?_ | refine sz_store H.out 2 rfl rfl rfl rfl (by rfl) (by simp [Act.eval, Value.cells]; rfl) (by kernel_rfl) (by simp) (by simp [Value.oneCell']) (fun W h => h.sub (by first | exact List.Sublist.refl _ | exact List.sublist_cons_self _ _ | exact (List.sublist_cons_self _ _).trans (List.sublist_cons_self _ _) | exact ((List.sublist_cons_self _ _).trans (List.sublist_cons_self _ _)).trans (List.sublist_cons_self _ _) | (repeat (first | exact List.Sublist.slnil | exact List.nil_sublist _ | apply List.Sublist.cons_cons | apply List.Sublist.cons))) (by intro _ h; first | exact h | exact .tail _ h | exact .tail _ (.tail _ h) | exact .tail _ (.tail _ (.tail _ h)) | exact .tail _ (.tail _ (.tail _ (.tail _ h))) | (simp only [List.mem_cons, List.not_mem_nil, or_false] at h ⊢; first | (simp [h]; done) | (rcases h with h | h <;> simp [h]; done) | (rcases h with h | h | h <;> simp [h]; done) | (rcases h with h | h | h | h <;> simp [h]; done)))) ?_ | refine sz_store H.out 3 rfl rfl rfl rfl (by rfl) (by simp [Act.eval, Value.cells]; rfl) (by kernel_rfl) (by simp) (by simp [Value.oneCell']) (fun W h => h.sub (by first | exact List.Sublist.refl _ | exact List.sublist_cons_self _ _ | exact (List.sublist_cons_self _ _).trans (List.sublist_cons_self _ _) | exact ((List.sublist_cons_self _ _).trans (List.sublist_cons_self _ _)).trans (List.sublist_cons_self _ _) | (repeat (first | exact List.Sublist.slnil | exact List.nil_sublist _ | apply List.Sublist.cons_cons | apply List.Sublist.cons))) (by intro _ h; first | exact h | exact .tail _ h | exact .tail _ (.tail _ h) | exact .tail _ (.tail _ (.tail _ h)) | exact .tail _ (.tail _ (.tail _ (.tail _ h))) | (simp only [List.mem_cons, List.not_mem_nil, or_false] at h ⊢; first | (simp [h]; done) | (rcases h with h | h <;> simp [h]; done) | (rcases h with h | h | h <;> simp [h]; done) | (rcases h with h | h | h | h <;> simp [h]; done)))) ?_ | refine sz_store H.out 4 rfl rfl rfl rfl (by rfl) (by simp [Act.eval, Value.cells]; rfl) (by kernel_rfl) (by simp) (by simp [Value.oneCell']) (fun W h => h.sub (by first | exact List.Sublist.refl _ | exact List.sublist_cons_self _ _ | exact (List.sublist_cons_self _ _).trans (List.sublist_cons_self _ _) | exact ((List.sublist_cons_self _ _).trans (List.sublist_cons_self _ _)).trans (List.sublist_cons_self _ _) | (repeat (first | exact List.Sublist.slnil | exact List.nil_sublist _ | apply List.Sublist.cons_cons | apply List.Sublist.cons))) (by intro _ h; first | exact h | exact .tail _ h | exact .tail _ (.tail _ h) | exact .tail _ (.tail _ (.tail _ h)) | exact .tail _ (.tail _ (.tail _ (.tail _ h))) | (simp only [List.mem_cons, List.not_mem_nil, or_false] at h ⊢; first | (simp [h]; done) | (rcases h with h | h <;> simp [h]; done) | (rcases h with h | h | h <;> simp [h]; done) | (rcases h with h | h | h | h <;> simp [h]; done)))) ?_); intro w3 H1 hle3; simp only [px] at H1; (try clear F); clear H; have H := Lib.hid H1; have F := H1.facts; simp only [fxx, ec, iv, facts_tobj, macs] at F; clear H1; simp only [pz]
        refine rz_done (by kernel_rfl) ?_
        go_wp2_with (first
          | (show wpList _ _ _ _ _ (World.drewN _ _); refine wl_drewN H.out ?_; intro w4 H1 hle4; (try clear F); clear H; have H := Lib.hid H1; have F := H1.facts; simp only [fxx, ec, iv, facts_tobj, macs] at F; clear H1)
          | (show Code.wp _ _ _ _ (World.drewN _ _); refine cw_drewN H.out ?_; intro w4 H1 hle4; (try clear F); clear H; have H := Lib.hid H1; have F := H1.facts; simp only [fxx, ec, iv, facts_tobj, macs] at F; clear H1)
          | (show wpList _ _ _ _ _ (World.alloc _ _); refine wl_absorb H.out ?_; intro w1 H1 hlt1; (try clear F); clear H; have H := Lib.hid H1; have F := H1.facts; simp only [fxx, ec, iv, facts_tobj, macs] at F; clear H1)
          | (show Code.wp _ _ _ _ (World.alloc _ _); refine cw_absorb H.out ?_; intro w2 H1 hlt2; (try clear F); clear H; have H := Lib.hid H1; have F := H1.facts; simp only [fxx, ec, iv, facts_tobj, macs] at F; clear H1)
          | (show wpList _ _ _ (Oper.mk none (Op.store _ _ _) _ _ _ _ :: _) _ _; (first | refine wl_store H.out 0 rfl rfl rfl (by rfl) (by simp [Act.eval, Value.cells]; rfl) (by kernel_rfl) (by simp) (by simp [Value.oneCell']) ?_ | refine wl_store H.out 1 rfl rfl rfl (by rfl) (by simp [Act.eval, Value.cells]; rfl) (by kernel_rfl) (by simp) (by simp [Value.oneCell']) ?_ | refine wl_store H.out 2 rfl rfl rfl (by rfl) (by simp [Act.eval, Value.cells]; rfl) (by kernel_rfl) (by simp) (by simp [Value.oneCell']) ?_ | refine wl_store H.out 3 rfl rfl rfl (by rfl) (by simp [Act.eval, Value.cells]; rfl) (by kernel_rfl) (by simp) (by simp [Value.oneCell']) ?_ | refine wl_store H.out 4 rfl rfl rfl (by rfl) (by simp [Act.eval, Value.cells]; rfl) (by kernel_rfl) (by simp) (by simp [Value.oneCell']) ?_ | refine wl_store H.out 5 rfl rfl rfl (by rfl) (by simp [Act.eval, Value.cells]; rfl) (by kernel_rfl) (by simp) (by simp [Value.oneCell']) ?_); intro w3 H1 hle3; (try show wpList _ _ _ _ ⟨_, _⟩ _); simp only [px] at H1; (try clear F); clear H; have H := Lib.hid H1; have F := H1.facts; simp only [fxx, ec, iv, facts_tobj, macs] at F; clear H1))
        exact bodyPost_ret (ret_ct rfl rfl rfl (H.out.has 1 rfl) row_28 rfl) rfl ⟨_, rfl, H.out.below', H.out.end_rd 0 rfl⟩
    · have hg' : (getE L k).2 = false := by simpa using hg
      have HX := Lib.hid (getE_no (getE_false hg'))
      rw [if_neg hg]
      clear hg hg' hG
      obtain ⟨ht0, ht1⟩ := ht
      go_enter Try.func43, Try.ntmps43
      go_wp2_with (first
        | (go_at_call 45; refine (rget_any _ _ _ L _ _ (H.out.rd 0 rfl)).mono ?_; rintro e w4 ⟨rfl, hb⟩; rw [HX.out]; have H1 := H.out.same hb; clear hb; simp only [ec, ent0]; (try clear F); clear H; have H := Lib.hid H1; have F := H1.facts; simp only [fxx, ec, iv, facts_tobj, macs] at F; clear H1)
        | (show wpList _ _ _ _ _ (World.drewN _ _); refine wl_drewN H.out ?_; intro w4 H1 hle4; (try clear F); clear H; have H := Lib.hid H1; have F := H1.facts; simp only [fxx, ec, iv, facts_tobj, macs] at F; clear H1)
        | (show Code.wp _ _ _ _ (World.drewN _ _); refine cw_drewN H.out ?_; intro w4 H1 hle4; (try clear F); clear H; have H := Lib.hid H1; have F := H1.facts; simp only [fxx, ec, iv, facts_tobj, macs] at F; clear H1)
        | (show wpList _ _ _ _ _ (World.alloc _ _); refine wl_absorb H.out ?_; intro w1 H1 hlt1; (try clear F); clear H; have H := Lib.hid H1; have F := H1.facts; simp only [fxx, ec, iv, facts_tobj, macs] at F; clear H1)
        | (show Code.wp _ _ _ _ (World.alloc _ _); refine cw_absorb H.out ?_; intro w2 H1 hlt2; (try clear F); clear H; have H := Lib.hid H1; have F := H1.facts; simp only [fxx, ec, iv, facts_tobj, macs] at F; clear H1)
        | (show wpList _ _ _ (Oper.mk none (Op.store _ _ _) _ _ _ _ :: _) _ _; (first | refine wl_store H.out 0 rfl rfl rfl (by rfl) (by simp [Act.eval, Value.cells]; rfl) (by kernel_rfl) (by simp) (by simp [Value.oneCell']) ?_ | refine wl_store H.out 1 rfl rfl rfl (by rfl) (by simp [Act.eval, Value.cells]; rfl) (by kernel_rfl) (by simp) (by simp [Value.oneCell']) ?_ | refine wl_store H.out 2 rfl rfl rfl (by rfl) (by simp [Act.eval, Value.cells]; rfl) (by kernel_rfl) (by simp) (by simp [Value.oneCell']) ?_ | refine wl_store H.out 3 rfl rfl rfl (by rfl) (by simp [Act.eval, Value.cells]; rfl) (by kernel_rfl) (by simp) (by simp [Value.oneCell']) ?_ | refine wl_store H.out 4 rfl rfl rfl (by rfl) (by simp [Act.eval, Value.cells]; rfl) (by kernel_rfl) (by simp) (by simp [Value.oneCell']) ?_ | refine wl_store H.out 5 rfl rfl rfl (by rfl) (by simp [Act.eval, Value.cells]; rfl) (by kernel_rfl) (by simp) (by simp [Value.oneCell']) ?_); intro w3 H1 hle3; (try show wpList _ _ _ _ ⟨_, _⟩ _); simp only [px] at H1; (try clear F); clear H; have H := Lib.hid H1; have F := H1.facts; simp only [fxx, ec, iv, facts_tobj, macs] at F; clear H1))
      exact bodyPost_ret (ret_ct rfl rfl rfl (H.out.has 1 rfl) row_28 rfl) rfl ⟨_, rfl, H.out.below', H.out.end_rd 0 rfl⟩
  · unfold touchR
    rw [if_neg ht]
    have ht' : t < 0 ∨ ¬ t < 0 ∧ 1099511627776 < t := by omega
    clear ht hG
    rcases ht' with ht | ⟨ht, ht2⟩
    all_goals
      go_enter Try.func43, Try.ntmps43
      go_wp2_with (first
        | (show wpList _ _ _ _ _ (World.drewN _ _); refine wl_drewN H.out ?_; intro w4 H1 hle4; (try clear F); clear H; have H := Lib.hid H1; have F := H1.facts; simp only [fxx, ec, iv, facts_tobj, macs] at F; clear H1)
        | (show Code.wp _ _ _ _ (World.drewN _ _); refine cw_drewN H.out ?_; intro w4 H1 hle4; (try clear F); clear H; have H := Lib.hid H1; have F := H1.facts; simp only [fxx, ec, iv, facts_tobj, macs] at F; clear H1)
        | (show wpList _ _ _ _ _ (World.alloc _ _); refine wl_absorb H.out ?_; intro w1 H1 hlt1; (try clear F); clear H; have H := Lib.hid H1; have F := H1.facts; simp only [fxx, ec, iv, facts_tobj, macs] at F; clear H1)
        | (show Code.wp _ _ _ _ (World.alloc _ _); refine cw_absorb H.out ?_; intro w2 H1 hlt2; (try clear F); clear H; have H := Lib.hid H1; have F := H1.facts; simp only [fxx, ec, iv, facts_tobj, macs] at F; clear H1)
        | (show wpList _ _ _ (Oper.mk none (Op.store _ _ _) _ _ _ _ :: _) _ _; (first | refine wl_store H.out 0 rfl rfl rfl (by rfl) (by simp [Act.eval, Value.cells]; rfl) (by kernel_rfl) (by simp) (by simp [Value.oneCell']) ?_ | refine wl_store H.out 1 rfl rfl rfl (by rfl) (by simp [Act.eval, Value.cells]; rfl) (by kernel_rfl) (by simp) (by simp [Value.oneCell']) ?_ | refine wl_store H.out 2 rfl rfl rfl (by rfl) (by simp [Act.eval, Value.cells]; rfl) (by kernel_rfl) (by simp) (by simp [Value.oneCell']) ?_ | refine wl_store H.out 3 rfl rfl rfl (by rfl) (by simp [Act.eval, Value.cells]; rfl) (by kernel_rfl) (by simp) (by simp [Value.oneCell']) ?_ | refine wl_store H.out 4 rfl rfl rfl (by rfl) (by simp [Act.eval, Value.cells]; rfl) (by kernel_rfl) (by simp) (by simp [Value.oneCell']) ?_ | refine wl_store H.out 5 rfl rfl rfl (by rfl) (by simp [Act.eval, Value.cells]; rfl) (by kernel_rfl) (by simp) (by simp [Value.oneCell']) ?_); intro w3 H1 hle3; (try show wpList _ _ _ _ ⟨_, _⟩ _); simp only [px] at H1; (try clear F); clear H; have H := Lib.hid H1; have F := H1.facts; simp only [fxx, ec, iv, facts_tobj, macs] at F; clear H1))
      exact bodyPost_ret (ret_ct rfl rfl rfl (H.out.has 0 rfl) row_28 rfl) rfl ⟨_, rfl, H.out.below', H.out.end_rd 0 rfl⟩
end Go.Proofs.Ytkifagflnpkkaaa
