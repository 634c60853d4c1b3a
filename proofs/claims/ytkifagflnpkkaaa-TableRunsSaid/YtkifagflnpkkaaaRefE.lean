/- The reference's table: List, Of, Idle. No condition. -/
import Derived.Test.YtkifagflnpkkaaaRefD
namespace Go.Proofs.Ytkifagflnpkkaaa
set_option linter.unusedSimpArgs false
set_option linter.unusedVariables false
-- FSX: ec, iv, facts_tobj, macs
open Go.RowKit
set_option maxRecDepth 10000

theorem run_eql_mac (a b : Mac) (w : World) : (binOp .eql 38 (.agg (macs a).toArray) (.agg (macs b).toArray)).run Try.prog w = .ok (.bool (decide (a = b))) w := by
  rw [run_eql_struct]
  have h : (Op.equalIn 10000 38 (.agg (macs a).toArray) (.agg (macs b).toArray)).run Try.prog w = .ok (a.same b) w := run_equal_mac w a b
  rw [h]
  have : a.same b = decide (a = b) := by rw [Bool.eq_iff_iff, Mac.same_iff]; simp
  rw [this]; rfl
theorem shard_take {n s : Nat} {L : List EntL} {k : Nat} {x : EntL} (hx : L[k]? = some x) : ofShard n s (L.take (k + 1)) = if x.id.toNat % n = s then ofShard n s (L.take k) ++ [x] else ofShard n s (L.take k) := by
  rw [List.take_add_one, hx]
  simp only [ofShard, List.filter_append, Option.toList_some]
  split <;> simp_all
theorem ids_take {m : Mac} {L : List EntL} {k : Nat} {x : EntL} (hx : L[k]? = some x) : idsOf m (L.take (k + 1)) = if x.mac = m then idsOf m (L.take k) ++ [x.id] else idsOf m (L.take k) := by
  rw [List.take_add_one, hx]
  simp only [idsOf, ofMac, List.filter_append, List.map_append, Option.toList_some]
  split <;> simp_all
theorem idles_take {t u : Int} {L : List EntL} {k : Nat} {x : EntL} (hx : L[k]? = some x) : idles (L.take (k + 1)) t u = if x.seen ≤ t - u then idles (L.take k) t u ++ [x.id] else idles (L.take k) t u := by
  rw [List.take_add_one, hx]
  simp only [idles, List.filter_append, List.map_append, Option.toList_some]
  split <;> simp_all
theorem ints_snoc (l : List Int) (n : Int) : ((l ++ [n]).map fun n => [Value.int .i64 n]).flatten = (l.map fun n => [Value.int .i64 n]).flatten ++ [Value.int .i64 n] := by simp

set_option maxHeartbeats 4000000 in
theorem rlist_any (z : Nat → Prop) (n : Nat) (v : Value) (L : List EntL) (s : Nat) (hs : s < n) (hn : n ≤ 64) (w : World) (hv : SlZ rEnt z w v L) (hL : L.length ≤ 100000) (hG : ∀ e ∈ L, 1 ≤ e.id ∧ e.id ≤ 65534) :
    Calls Try.prog 38 #[.agg #[.int .i64 n, v], .int .i64 s] w fun e w' => ∃ v', e = .returned (.tuple #[v', .int .i64 0]) ∧ Below w.heap.size w w' ∧ SlZ rEnt (Fresh z w w') w' v' (ofShard n s L) := by
  obtain ⟨ad, cap, rfl, hlc, hcm⟩ := hv.shape
  unfold maxLen at hcm
  have HG := Lib.hid hG
  have H := Lib.hid (St.start w z [rdS rEnt _ L] (by simp only [List.mem_singleton, forall_eq]; exact hv))
  clear hv hG
  have hs' : (s : Int) < n := by omega
  have hsn : ¬ (n : Int) ≤ s := by omega
  go_enter Try.func38, Try.ntmps38
  go_wp2_with (first
    | (show wpList _ _ _ _ _ (World.drewN _ _); refine wl_drewN H.out ?_; intro w4 H1 hle4; (try clear F); clear H; have H := Lib.hid H1; have F := H1.facts; simp only [fxx, ec, iv, facts_tobj, macs] at F; clear H1)
    | (show Code.wp _ _ _ _ (World.drewN _ _); refine cw_drewN H.out ?_; intro w4 H1 hle4; (try clear F); clear H; have H := Lib.hid H1; have F := H1.facts; simp only [fxx, ec, iv, facts_tobj, macs] at F; clear H1)
    | (show wpList _ _ _ _ _ (World.alloc _ _); refine wl_absorb H.out ?_; intro w1 H1 hlt1; (try clear F); clear H; have H := Lib.hid H1; have F := H1.facts; simp only [fxx, ec, iv, facts_tobj, macs] at F; clear H1)
    | (show Code.wp _ _ _ _ (World.alloc _ _); refine cw_absorb H.out ?_; intro w2 H1 hlt2; (try clear F); clear H; have H := Lib.hid H1; have F := H1.facts; simp only [fxx, ec, iv, facts_tobj, macs] at F; clear H1)
    | (show wpList _ _ _ (Oper.mk none (Op.store _ _ _) _ _ _ _ :: _) _ _; (first | refine wl_store H.out 0 rfl rfl rfl (by rfl) (by simp [Act.eval, Value.cells]; rfl) (by kernel_rfl) (by simp) (by simp [Value.oneCell']) ?_ | refine wl_store H.out 1 rfl rfl rfl (by rfl) (by simp [Act.eval, Value.cells]; rfl) (by kernel_rfl) (by simp) (by simp [Value.oneCell']) ?_); intro w3 H1 hle3; simp only [px] at H1; (try clear F); clear H; have H := Lib.hid H1; have F := H1.facts; simp only [fxx, ec, iv, facts_tobj, macs] at F; clear H1))
  replace H := Lib.hid (H.out.empty 40 8)
  clear F
  go_loopw [6, 7] (fun o i wr => ∃ k : Nat, k ≤ L.length ∧ i = .int .i64 k ∧ St w (fun _ => False) z [vec 40 8 o (ofShard n s (L.take k)).length ((ofShard n s (L.take k)).map ec).flatten, va w.heap.size _ _] [rdS rEnt (.slice ad L.length cap) L] wr) (fun _ i _ => L.length - (intOf i).toNat)
  case atStart => exact ⟨0, Nat.zero_le _, rfl, H.out⟩
  case round =>
    obtain ⟨k, hk, rfl, hS⟩ := hrel
    clear H
    by_cases hlt : k < L.length
    · obtain ⟨⟨i, mc, sn⟩, hx⟩ : ∃ x, L[k]? = some x := ⟨_, List.getElem?_eq_getElem hlt⟩
      obtain ⟨b, o, cs, rfl, hzb, hr, rfl⟩ := SlZ.get (hS.rd 0 rfl) hx
      have hlt' : (k : Int) < L.length := by omega
      have hg := HG.out _ (List.mem_of_getElem? hx)
      simp only at hg
      obtain ⟨m, rfl⟩ : ∃ m : Nat, i = m := ⟨i.toNat, by omega⟩
      have H := Lib.hid (hS.also (rdE b (o + k * 8) (ec ⟨m, mc, sn⟩)) ⟨hzb, hr⟩)
      have HT := Lib.hid (shard_take (n := n) (s := s) hx)
      simp only [Int.toNat_natCast] at HT
      have hln : (ofShard n s (L.take k)).length ≤ L.length := Nat.le_trans (List.length_filter_le _ _) (by rw [List.length_take]; omega)
      (try clear F); have F := H.out.facts; simp only [fxx, ec, iv, facts_tobj, macs] at F
      have ht : (m : Int).tmod (n : Int) = ((m % n : Nat) : Int) := by rw [Int.tmod_eq_emod_of_nonneg (by omega)]; rfl
      have hne : (n : Int) ≠ 0 := by omega
      have hmn : m % n < n := Nat.mod_lt _ (by omega)
      have hn0 : ¬ n = 0 := by omega
      have hbe : (((m % n : Nat) : Int) == (s : Int)) = decide (m % n = s) := by
        by_cases h : m % n = s
        · simp [h]
        · rw [decide_eq_false h, beq_eq_false_iff_ne]; omega
      clear hS hx hzb hr
      generalize ofShard n s (L.take k) = p at *
      by_cases hms : m % n = s
      · rw [decide_eq_true hms] at hbe
        rw [if_pos hms] at HT
        go_wp2_with (first
          | (show wpList _ _ _ _ _ (World.drewN _ _); refine wl_drewN H.out ?_; intro w4 H1 hle4; (try clear F); clear H; have H := Lib.hid H1; have F := H1.facts; simp only [fxx, ec, iv, facts_tobj, macs] at F; clear H1)
          | (show Code.wp _ _ _ _ (World.drewN _ _); refine cw_drewN H.out ?_; intro w4 H1 hle4; (try clear F); clear H; have H := Lib.hid H1; have F := H1.facts; simp only [fxx, ec, iv, facts_tobj, macs] at F; clear H1)
          | (show wpList _ _ _ _ _ (World.alloc _ _); refine wl_absorb H.out ?_; intro w1 H1 hlt1; (try clear F); clear H; have H := Lib.hid H1; have F := H1.facts; simp only [fxx, ec, iv, facts_tobj, macs] at F; clear H1)
          | (show Code.wp _ _ _ _ (World.alloc _ _); refine cw_absorb H.out ?_; intro w2 H1 hlt2; (try clear F); clear H; have H := Lib.hid H1; have F := H1.facts; simp only [fxx, ec, iv, facts_tobj, macs] at F; clear H1)
          | (show wpList _ _ _ (Oper.mk none (Op.store _ _ _) _ _ _ _ :: _) _ _; (first | refine wl_store H.out 0 rfl rfl rfl (by rfl) (by simp [Act.eval, Value.cells]; rfl) (by kernel_rfl) (by simp) (by simp [Value.oneCell']) ?_ | refine wl_store H.out 1 rfl rfl rfl (by rfl) (by simp [Act.eval, Value.cells]; rfl) (by kernel_rfl) (by simp) (by simp [Value.oneCell']) ?_); intro w3 H1 hle3; simp only [px] at H1; (try clear F); clear H; have H := Lib.hid H1; have F := H1.facts; simp only [fxx, ec, iv, facts_tobj, macs] at F; clear H1))
        refine rz_start H.out (List.Sublist.refl _) (by kernel_rfl) ?_; intro w4 H1 hle4; (try clear F); clear H; have H := Lib.hid H1; have F := H1.facts; simp only [fxx, ec, iv, facts_tobj, macs] at F; clear H1
        refine rz_reads [0, 1, 2, 3, 4, 5, 6, 7, 8, 9, 10] (by kernel_rfl) (H.out.sub (by first | exact List.Sublist.refl _ | exact List.sublist_cons_self _ _ | exact (List.sublist_cons_self _ _).trans (List.sublist_cons_self _ _) | exact ((List.sublist_cons_self _ _).trans (List.sublist_cons_self _ _)).trans (List.sublist_cons_self _ _)) (by intro _ h; first | exact h | exact .tail _ h | exact .tail _ (.tail _ h) | exact .tail _ (.tail _ (.tail _ h)) | exact .tail _ (.tail _ (.tail _ (.tail _ h))) | (simp only [List.mem_cons, List.not_mem_nil, or_false] at h ⊢; first | (simp [h]; done) | (rcases h with h | h <;> simp [h]; done) | (rcases h with h | h | h <;> simp [h]; done) | (rcases h with h | h | h | h <;> simp [h]; done)))) (fun d _ _ _ _ h => by cases d <;> exact h) ?_; (repeat first | (refine rd_skip rfl (by rfl) ?_; simp only [pz]) | (refine rd_step (v := ?_) rfl (by rfl) ?_ ?_; rotate_left 1; (focus intro W hW; have F := St.facts hW; simp only [fxx, ec, iv, facts_tobj, macs] at F; go_simp; all_goals with_reducible rfl); simp only [pz])); refine rd_end ?_; show wpAnyH _ _ _ _ _ _ _ _ _
        refine rz_done (by kernel_rfl) ?_
        go_wp2_with (first
          | (show wpList _ _ _ _ _ (World.drewN _ _); refine wl_drewN H.out ?_; intro w4 H1 hle4; (try clear F); clear H; have H := Lib.hid H1; have F := H1.facts; simp only [fxx, ec, iv, facts_tobj, macs] at F; clear H1)
          | (show Code.wp _ _ _ _ (World.drewN _ _); refine cw_drewN H.out ?_; intro w4 H1 hle4; (try clear F); clear H; have H := Lib.hid H1; have F := H1.facts; simp only [fxx, ec, iv, facts_tobj, macs] at F; clear H1)
          | (show wpList _ _ _ _ _ (World.alloc _ _); refine wl_absorb H.out ?_; intro w1 H1 hlt1; (try clear F); clear H; have H := Lib.hid H1; have F := H1.facts; simp only [fxx, ec, iv, facts_tobj, macs] at F; clear H1)
          | (show Code.wp _ _ _ _ (World.alloc _ _); refine cw_absorb H.out ?_; intro w2 H1 hlt2; (try clear F); clear H; have H := Lib.hid H1; have F := H1.facts; simp only [fxx, ec, iv, facts_tobj, macs] at F; clear H1)
          | (show wpList _ _ _ (Oper.mk none (Op.store _ _ _) _ _ _ _ :: _) _ _; (first | refine wl_store H.out 0 rfl rfl rfl (by rfl) (by simp [Act.eval, Value.cells]; rfl) (by kernel_rfl) (by simp) (by simp [Value.oneCell']) ?_ | refine wl_store H.out 1 rfl rfl rfl (by rfl) (by simp [Act.eval, Value.cells]; rfl) (by kernel_rfl) (by simp) (by simp [Value.oneCell']) ?_); intro w3 H1 hle3; simp only [px] at H1; (try clear F); clear H; have H := Lib.hid H1; have F := H1.facts; simp only [fxx, ec, iv, facts_tobj, macs] at F; clear H1)
          | (at_builtin; refine wl_append H.out 1 rfl el_ent rfl rfl (by rfl) rfl (src_va (H.out.has 0 rfl) _ 1 1 rfl (by simp [Value.oneCell'])) (by first | omega | (simp; omega)) ?_; intro v5 w5 H1 hle5; simp only [List.set_cons_zero, List.set_cons_succ] at H1; replace H1 := H1.sub (List.sublist_cons_self _ _) (fun _ h => h); (try clear F); clear H; have H := Lib.hid H1; have F := H1.facts; simp only [fxx, ec, iv, facts_tobj, macs] at F; clear H1))
        exact ⟨⟨k + 1, hlt, by go_num, by rw [HT.out, ecs_snoc, List.length_append]; exact H.out.sub (by first | exact List.Sublist.refl _ | exact List.sublist_cons_self _ _ | exact (List.sublist_cons_self _ _).trans (List.sublist_cons_self _ _) | exact ((List.sublist_cons_self _ _).trans (List.sublist_cons_self _ _)).trans (List.sublist_cons_self _ _)) (by intro _ h; first | exact h | exact .tail _ h | exact .tail _ (.tail _ h) | exact .tail _ (.tail _ (.tail _ h)) | exact .tail _ (.tail _ (.tail _ (.tail _ h))) | (simp only [List.mem_cons, List.not_mem_nil, or_false] at h ⊢; first | (simp [h]; done) | (rcases h with h | h <;> simp [h]; done) | (rcases h with h | h | h <;> simp [h]; done) | (rcases h with h | h | h | h <;> simp [h]; done)))⟩, by simp [intOf]; omega⟩
      · rw [decide_eq_false hms] at hbe
        rw [if_neg hms] at HT
        go_wp2_with (first
          | (show wpList _ _ _ _ _ (World.drewN _ _); refine wl_drewN H.out ?_; intro w4 H1 hle4; (try clear F); clear H; have H := Lib.hid H1; have F := H1.facts; simp only [fxx, ec, iv, facts_tobj, macs] at F; clear H1)
          | (show Code.wp _ _ _ _ (World.drewN _ _); refine cw_drewN H.out ?_; intro w4 H1 hle4; (try clear F); clear H; have H := Lib.hid H1; have F := H1.facts; simp only [fxx, ec, iv, facts_tobj, macs] at F; clear H1)
          | (show wpList _ _ _ _ _ (World.alloc _ _); refine wl_absorb H.out ?_; intro w1 H1 hlt1; (try clear F); clear H; have H := Lib.hid H1; have F := H1.facts; simp only [fxx, ec, iv, facts_tobj, macs] at F; clear H1)
          | (show Code.wp _ _ _ _ (World.alloc _ _); refine cw_absorb H.out ?_; intro w2 H1 hlt2; (try clear F); clear H; have H := Lib.hid H1; have F := H1.facts; simp only [fxx, ec, iv, facts_tobj, macs] at F; clear H1)
          | (show wpList _ _ _ (Oper.mk none (Op.store _ _ _) _ _ _ _ :: _) _ _; (first | refine wl_store H.out 0 rfl rfl rfl (by rfl) (by simp [Act.eval, Value.cells]; rfl) (by kernel_rfl) (by simp) (by simp [Value.oneCell']) ?_ | refine wl_store H.out 1 rfl rfl rfl (by rfl) (by simp [Act.eval, Value.cells]; rfl) (by kernel_rfl) (by simp) (by simp [Value.oneCell']) ?_); intro w3 H1 hle3; simp only [px] at H1; (try clear F); clear H; have H := Lib.hid H1; have F := H1.facts; simp only [fxx, ec, iv, facts_tobj, macs] at F; clear H1))
        refine rz_start H.out (List.Sublist.refl _) (by kernel_rfl) ?_; intro w4 H1 hle4; (try clear F); clear H; have H := Lib.hid H1; have F := H1.facts; simp only [fxx, ec, iv, facts_tobj, macs] at F; clear H1
        refine rz_reads [0, 1, 2, 3, 4, 5, 6, 7, 8, 9, 10] (by kernel_rfl) (H.out.sub (by first | exact List.Sublist.refl _ | exact List.sublist_cons_self _ _ | exact (List.sublist_cons_self _ _).trans (List.sublist_cons_self _ _) | exact ((List.sublist_cons_self _ _).trans (List.sublist_cons_self _ _)).trans (List.sublist_cons_self _ _)) (by intro _ h; first | exact h | exact .tail _ h | exact .tail _ (.tail _ h) | exact .tail _ (.tail _ (.tail _ h)) | exact .tail _ (.tail _ (.tail _ (.tail _ h))) | (simp only [List.mem_cons, List.not_mem_nil, or_false] at h ⊢; first | (simp [h]; done) | (rcases h with h | h <;> simp [h]; done) | (rcases h with h | h | h <;> simp [h]; done) | (rcases h with h | h | h | h <;> simp [h]; done)))) (fun d _ _ _ _ h => by cases d <;> exact h) ?_; (repeat first | (refine rd_skip rfl (by rfl) ?_; simp only [pz]) | (refine rd_step (v := ?_) rfl (by rfl) ?_ ?_; rotate_left 1; (focus intro W hW; have F := St.facts hW; simp only [fxx, ec, iv, facts_tobj, macs] at F; go_simp; all_goals with_reducible rfl); simp only [pz])); refine rd_end ?_; show wpAnyH _ _ _ _ _ _ _ _ _
        refine rz_done (by kernel_rfl) ?_
        go_wp2_with (first
          | (show wpList _ _ _ _ _ (World.drewN _ _); refine wl_drewN H.out ?_; intro w4 H1 hle4; (try clear F); clear H; have H := Lib.hid H1; have F := H1.facts; simp only [fxx, ec, iv, facts_tobj, macs] at F; clear H1)
          | (show Code.wp _ _ _ _ (World.drewN _ _); refine cw_drewN H.out ?_; intro w4 H1 hle4; (try clear F); clear H; have H := Lib.hid H1; have F := H1.facts; simp only [fxx, ec, iv, facts_tobj, macs] at F; clear H1)
          | (show wpList _ _ _ _ _ (World.alloc _ _); refine wl_absorb H.out ?_; intro w1 H1 hlt1; (try clear F); clear H; have H := Lib.hid H1; have F := H1.facts; simp only [fxx, ec, iv, facts_tobj, macs] at F; clear H1)
          | (show Code.wp _ _ _ _ (World.alloc _ _); refine cw_absorb H.out ?_; intro w2 H1 hlt2; (try clear F); clear H; have H := Lib.hid H1; have F := H1.facts; simp only [fxx, ec, iv, facts_tobj, macs] at F; clear H1)
          | (show wpList _ _ _ (Oper.mk none (Op.store _ _ _) _ _ _ _ :: _) _ _; (first | refine wl_store H.out 0 rfl rfl rfl (by rfl) (by simp [Act.eval, Value.cells]; rfl) (by kernel_rfl) (by simp) (by simp [Value.oneCell']) ?_ | refine wl_store H.out 1 rfl rfl rfl (by rfl) (by simp [Act.eval, Value.cells]; rfl) (by kernel_rfl) (by simp) (by simp [Value.oneCell']) ?_); intro w3 H1 hle3; simp only [px] at H1; (try clear F); clear H; have H := Lib.hid H1; have F := H1.facts; simp only [fxx, ec, iv, facts_tobj, macs] at F; clear H1))
        exact ⟨⟨k + 1, hlt, by go_num, by rw [HT.out]; exact H.out.sub (by first | exact List.Sublist.refl _ | exact List.sublist_cons_self _ _ | exact (List.sublist_cons_self _ _).trans (List.sublist_cons_self _ _) | exact ((List.sublist_cons_self _ _).trans (List.sublist_cons_self _ _)).trans (List.sublist_cons_self _ _)) (by intro _ h; first | exact h | exact .tail _ h | exact .tail _ (.tail _ h) | exact .tail _ (.tail _ (.tail _ h)) | exact .tail _ (.tail _ (.tail _ (.tail _ h))) | (simp only [List.mem_cons, List.not_mem_nil, or_false] at h ⊢; first | (simp [h]; done) | (rcases h with h | h <;> simp [h]; done) | (rcases h with h | h | h <;> simp [h]; done) | (rcases h with h | h | h | h <;> simp [h]; done)))⟩, by simp [intOf]; omega⟩
    · obtain rfl : k = L.length := by omega
      rw [List.take_length] at hS
      have H := Lib.hid hS
      (try clear F); have F := H.out.facts; simp only [fxx, ec, iv, facts_tobj, macs] at F
      clear hS
      go_wp2_with (first
        | (show wpList _ _ _ _ _ (World.drewN _ _); refine wl_drewN H.out ?_; intro w4 H1 hle4; (try clear F); clear H; have H := Lib.hid H1; have F := H1.facts; simp only [fxx, ec, iv, facts_tobj, macs] at F; clear H1)
        | (show Code.wp _ _ _ _ (World.drewN _ _); refine cw_drewN H.out ?_; intro w4 H1 hle4; (try clear F); clear H; have H := Lib.hid H1; have F := H1.facts; simp only [fxx, ec, iv, facts_tobj, macs] at F; clear H1)
        | (show wpList _ _ _ _ _ (World.alloc _ _); refine wl_absorb H.out ?_; intro w1 H1 hlt1; (try clear F); clear H; have H := Lib.hid H1; have F := H1.facts; simp only [fxx, ec, iv, facts_tobj, macs] at F; clear H1)
        | (show Code.wp _ _ _ _ (World.alloc _ _); refine cw_absorb H.out ?_; intro w2 H1 hlt2; (try clear F); clear H; have H := Lib.hid H1; have F := H1.facts; simp only [fxx, ec, iv, facts_tobj, macs] at F; clear H1)
        | (show wpList _ _ _ (Oper.mk none (Op.store _ _ _) _ _ _ _ :: _) _ _; (first | refine wl_store H.out 0 rfl rfl rfl (by rfl) (by simp [Act.eval, Value.cells]; rfl) (by kernel_rfl) (by simp) (by simp [Value.oneCell']) ?_ | refine wl_store H.out 1 rfl rfl rfl (by rfl) (by simp [Act.eval, Value.cells]; rfl) (by kernel_rfl) (by simp) (by simp [Value.oneCell']) ?_); intro w3 H1 hle3; simp only [px] at H1; (try clear F); clear H; have H := Lib.hid H1; have F := H1.facts; simp only [fxx, ec, iv, facts_tobj, macs] at F; clear H1))
      go_ret2
      exact ⟨_, rfl, H.out.below', H.out.end_slz 0 rfl ec_len (by decide) rfl⟩

set_option maxHeartbeats 4000000 in
theorem rof_any (z : Nat → Prop) (n : Int) (v : Value) (L : List EntL) (m : Mac) (w : World) (hv : SlZ rEnt z w v L) (hL : L.length ≤ 100000) :
    Calls Try.prog 37 #[.agg #[.int .i64 n, v], m.v] w fun e w' => ∃ v', e = .returned v' ∧ Below w.heap.size w w' ∧ SlZ (rInt .i64) (Fresh z w w') w' v' (idsOf m L) := by
  obtain ⟨ad, cap, rfl, hlc, hcm⟩ := hv.shape
  unfold maxLen at hcm
  have H := Lib.hid (St.start w z [rdS rEnt _ L] (by simp only [List.mem_singleton, forall_eq]; exact hv))
  clear hv
  show Calls _ _ #[_, .agg (macs m).toArray] _ _
  go_enter Try.func37, Try.ntmps37
  simp only [macs]
  go_wp2_with (first
    | (show wpList _ _ _ _ _ (World.drewN _ _); refine wl_drewN H.out ?_; intro w4 H1 hle4; (try clear F); clear H; have H := Lib.hid H1; have F := H1.facts; simp only [fxx, ec, iv, facts_tobj, macs] at F; clear H1)
    | (show Code.wp _ _ _ _ (World.drewN _ _); refine cw_drewN H.out ?_; intro w4 H1 hle4; (try clear F); clear H; have H := Lib.hid H1; have F := H1.facts; simp only [fxx, ec, iv, facts_tobj, macs] at F; clear H1)
    | (show wpList _ _ _ _ _ (World.alloc _ _); refine wl_absorb H.out ?_; intro w1 H1 hlt1; (try clear F); clear H; have H := Lib.hid H1; have F := H1.facts; simp only [fxx, ec, iv, facts_tobj, macs] at F; clear H1)
    | (show Code.wp _ _ _ _ (World.alloc _ _); refine cw_absorb H.out ?_; intro w2 H1 hlt2; (try clear F); clear H; have H := Lib.hid H1; have F := H1.facts; simp only [fxx, ec, iv, facts_tobj, macs] at F; clear H1)
    | (show wpList _ _ _ (Oper.mk none (Op.store _ _ _) _ _ _ _ :: _) _ _; (first | refine wl_store H.out 0 rfl rfl rfl (by rfl) (by simp [Act.eval, Value.cells]; rfl) (by kernel_rfl) (by simp) (by simp [Value.oneCell']) ?_ | refine wl_store H.out 1 rfl rfl rfl (by rfl) (by simp [Act.eval, Value.cells]; rfl) (by kernel_rfl) (by simp) (by simp [Value.oneCell']) ?_); intro w3 H1 hle3; simp only [px] at H1; (try clear F); clear H; have H := Lib.hid H1; have F := H1.facts; simp only [fxx, ec, iv, facts_tobj, macs] at F; clear H1))
  replace H := Lib.hid (H.out.empty 3 1)
  clear F
  go_loopw [5, 6] (fun o i wr => ∃ k : Nat, k ≤ L.length ∧ i = .int .i64 k ∧ St w (fun _ => False) z [vec 3 1 o (idsOf m (L.take k)).length ((idsOf m (L.take k)).map fun n => [Value.int .i64 n]).flatten, va _ _ _, va _ _ _] [rdS rEnt (.slice ad L.length cap) L] wr) (fun _ i _ => L.length - (intOf i).toNat)
  case atStart => exact ⟨0, Nat.zero_le _, rfl, H.out⟩
  case round =>
    obtain ⟨k, hk, rfl, hS⟩ := hrel
    clear H
    by_cases hlt : k < L.length
    · obtain ⟨x, hx⟩ : ∃ x, L[k]? = some x := ⟨_, List.getElem?_eq_getElem hlt⟩
      obtain ⟨b, o, cs, rfl, hzb, hr, rfl⟩ := SlZ.get (hS.rd 0 rfl) hx
      have hlt' : (k : Int) < L.length := by omega
      have hr2 := rng_sub hr 1 6 (by decide)
      have H := Lib.hid ((hS.also (rdE b (o + k * 8) (ec x)) ⟨hzb, hr⟩).also (rdE b (o + k * 8 + 1) (macs x.mac)) ⟨hzb, hr2⟩)
      have HT := Lib.hid (ids_take (m := m) hx)
      have hln : (idsOf m (L.take k)).length ≤ L.length := by unfold idsOf; rw [List.length_map]; exact Nat.le_trans (List.length_filter_le _ _) (by rw [List.length_take]; omega)
      (try clear F); have F := H.out.facts; simp only [fxx, ec, iv, facts_tobj, macs] at F
      have hq : ∀ W, (binOp .eql 38 (.agg (macs x.mac).toArray) (.agg (macs m).toArray)).run Try.prog W = .ok (.bool (decide (x.mac = m))) W := fun W => run_eql_mac _ _ _
      simp only [macs] at hq
      clear hS hx hzb hr hr2
      generalize idsOf m (L.take k) = p at *
      by_cases hms : x.mac = m
      · rw [decide_eq_true hms] at hq
        rw [if_pos hms] at HT
        clear hms
        go_wp2_with (first
          | (show wpList _ _ _ _ _ (World.drewN _ _); refine wl_drewN H.out ?_; intro w4 H1 hle4; (try clear F); clear H; have H := Lib.hid H1; have F := H1.facts; simp only [fxx, ec, iv, facts_tobj, macs] at F; clear H1)
          | (show Code.wp _ _ _ _ (World.drewN _ _); refine cw_drewN H.out ?_; intro w4 H1 hle4; (try clear F); clear H; have H := Lib.hid H1; have F := H1.facts; simp only [fxx, ec, iv, facts_tobj, macs] at F; clear H1)
          | (show wpList _ _ _ _ _ (World.alloc _ _); refine wl_absorb H.out ?_; intro w1 H1 hlt1; (try clear F); clear H; have H := Lib.hid H1; have F := H1.facts; simp only [fxx, ec, iv, facts_tobj, macs] at F; clear H1)
          | (show Code.wp _ _ _ _ (World.alloc _ _); refine cw_absorb H.out ?_; intro w2 H1 hlt2; (try clear F); clear H; have H := Lib.hid H1; have F := H1.facts; simp only [fxx, ec, iv, facts_tobj, macs] at F; clear H1)
          | (show wpList _ _ _ (Oper.mk none (Op.store _ _ _) _ _ _ _ :: _) _ _; (first | refine wl_store H.out 0 rfl rfl rfl (by rfl) (by simp [Act.eval, Value.cells]; rfl) (by kernel_rfl) (by simp) (by simp [Value.oneCell']) ?_ | refine wl_store H.out 1 rfl rfl rfl (by rfl) (by simp [Act.eval, Value.cells]; rfl) (by kernel_rfl) (by simp) (by simp [Value.oneCell']) ?_); intro w3 H1 hle3; simp only [px] at H1; (try clear F); clear H; have H := Lib.hid H1; have F := H1.facts; simp only [fxx, ec, iv, facts_tobj, macs] at F; clear H1))
        refine rz_start H.out (List.Sublist.refl _) (by kernel_rfl) ?_; intro w4 H1 hle4; (try clear F); clear H; have H := Lib.hid H1; have F := H1.facts; simp only [fxx, ec, iv, facts_tobj, macs] at F; clear H1
        refine rz_reads [0, 1, 2, 3, 4, 5, 6, 7] (by kernel_rfl) (H.out.sub (by first | exact List.Sublist.refl _ | exact List.sublist_cons_self _ _ | exact (List.sublist_cons_self _ _).trans (List.sublist_cons_self _ _) | exact ((List.sublist_cons_self _ _).trans (List.sublist_cons_self _ _)).trans (List.sublist_cons_self _ _)) (by intro _ h; first | exact h | exact .tail _ h | exact .tail _ (.tail _ h) | exact .tail _ (.tail _ (.tail _ h)) | exact .tail _ (.tail _ (.tail _ (.tail _ h))) | (simp only [List.mem_cons, List.not_mem_nil, or_false] at h ⊢; first | (simp [h]; done) | (rcases h with h | h <;> simp [h]; done) | (rcases h with h | h | h <;> simp [h]; done) | (rcases h with h | h | h | h <;> simp [h]; done)))) (fun d _ _ _ _ h => by cases d <;> exact h) ?_; (repeat first | (refine rd_skip rfl (by rfl) ?_; simp only [pz]) | (refine rd_step (v := ?_) rfl (by rfl) ?_ ?_; rotate_left 1; (focus intro W hW; have F := St.facts hW; simp only [fxx, ec, iv, facts_tobj, macs] at F; go_simp; all_goals with_reducible rfl); simp only [pz])); refine rd_end ?_; show wpAnyH _ _ _ _ _ _ _ _ _
        refine rz_done (by kernel_rfl) ?_
        go_wp2_with (first
          | (show wpList _ _ _ _ _ (World.drewN _ _); refine wl_drewN H.out ?_; intro w4 H1 hle4; (try clear F); clear H; have H := Lib.hid H1; have F := H1.facts; simp only [fxx, ec, iv, facts_tobj, macs] at F; clear H1)
          | (show Code.wp _ _ _ _ (World.drewN _ _); refine cw_drewN H.out ?_; intro w4 H1 hle4; (try clear F); clear H; have H := Lib.hid H1; have F := H1.facts; simp only [fxx, ec, iv, facts_tobj, macs] at F; clear H1)
          | (show wpList _ _ _ _ _ (World.alloc _ _); refine wl_absorb H.out ?_; intro w1 H1 hlt1; (try clear F); clear H; have H := Lib.hid H1; have F := H1.facts; simp only [fxx, ec, iv, facts_tobj, macs] at F; clear H1)
          | (show Code.wp _ _ _ _ (World.alloc _ _); refine cw_absorb H.out ?_; intro w2 H1 hlt2; (try clear F); clear H; have H := Lib.hid H1; have F := H1.facts; simp only [fxx, ec, iv, facts_tobj, macs] at F; clear H1)
          | (show wpList _ _ _ (Oper.mk none (Op.store _ _ _) _ _ _ _ :: _) _ _; (first | refine wl_store H.out 0 rfl rfl rfl (by rfl) (by simp [Act.eval, Value.cells]; rfl) (by kernel_rfl) (by simp) (by simp [Value.oneCell']) ?_ | refine wl_store H.out 1 rfl rfl rfl (by rfl) (by simp [Act.eval, Value.cells]; rfl) (by kernel_rfl) (by simp) (by simp [Value.oneCell']) ?_); intro w3 H1 hle3; simp only [px] at H1; (try clear F); clear H; have H := Lib.hid H1; have F := H1.facts; simp only [fxx, ec, iv, facts_tobj, macs] at F; clear H1)
          | (at_builtin; refine wl_append H.out 1 rfl el_int rfl rfl (by rfl) rfl (src_va (H.out.has 0 rfl) _ 1 1 rfl (by simp [Value.oneCell'])) (by first | omega | (simp; omega)) ?_; intro v5 w5 H1 hle5; simp only [List.set_cons_zero, List.set_cons_succ] at H1; replace H1 := H1.sub (List.sublist_cons_self _ _) (fun _ h => h); (try clear F); clear H; have H := Lib.hid H1; have F := H1.facts; simp only [fxx, ec, iv, facts_tobj, macs] at F; clear H1))
        exact ⟨⟨k + 1, hlt, by go_num, by rw [HT.out, ints_snoc, List.length_append]; exact H.out.sub (by first | exact List.Sublist.refl _ | exact List.sublist_cons_self _ _ | exact (List.sublist_cons_self _ _).trans (List.sublist_cons_self _ _) | exact ((List.sublist_cons_self _ _).trans (List.sublist_cons_self _ _)).trans (List.sublist_cons_self _ _)) (by intro _ h; first | exact h | exact .tail _ h | exact .tail _ (.tail _ h) | exact .tail _ (.tail _ (.tail _ h)) | exact .tail _ (.tail _ (.tail _ (.tail _ h))) | (simp only [List.mem_cons, List.not_mem_nil, or_false] at h ⊢; first | (simp [h]; done) | (rcases h with h | h <;> simp [h]; done) | (rcases h with h | h | h <;> simp [h]; done) | (rcases h with h | h | h | h <;> simp [h]; done)))⟩, by simp [intOf]; omega⟩
      · rw [decide_eq_false hms] at hq
        rw [if_neg hms] at HT
        clear hms
        go_wp2_with (first
          | (show wpList _ _ _ _ _ (World.drewN _ _); refine wl_drewN H.out ?_; intro w4 H1 hle4; (try clear F); clear H; have H := Lib.hid H1; have F := H1.facts; simp only [fxx, ec, iv, facts_tobj, macs] at F; clear H1)
          | (show Code.wp _ _ _ _ (World.drewN _ _); refine cw_drewN H.out ?_; intro w4 H1 hle4; (try clear F); clear H; have H := Lib.hid H1; have F := H1.facts; simp only [fxx, ec, iv, facts_tobj, macs] at F; clear H1)
          | (show wpList _ _ _ _ _ (World.alloc _ _); refine wl_absorb H.out ?_; intro w1 H1 hlt1; (try clear F); clear H; have H := Lib.hid H1; have F := H1.facts; simp only [fxx, ec, iv, facts_tobj, macs] at F; clear H1)
          | (show Code.wp _ _ _ _ (World.alloc _ _); refine cw_absorb H.out ?_; intro w2 H1 hlt2; (try clear F); clear H; have H := Lib.hid H1; have F := H1.facts; simp only [fxx, ec, iv, facts_tobj, macs] at F; clear H1)
          | (show wpList _ _ _ (Oper.mk none (Op.store _ _ _) _ _ _ _ :: _) _ _; (first | refine wl_store H.out 0 rfl rfl rfl (by rfl) (by simp [Act.eval, Value.cells]; rfl) (by kernel_rfl) (by simp) (by simp [Value.oneCell']) ?_ | refine wl_store H.out 1 rfl rfl rfl (by rfl) (by simp [Act.eval, Value.cells]; rfl) (by kernel_rfl) (by simp) (by simp [Value.oneCell']) ?_); intro w3 H1 hle3; simp only [px] at H1; (try clear F); clear H; have H := Lib.hid H1; have F := H1.facts; simp only [fxx, ec, iv, facts_tobj, macs] at F; clear H1))
        refine rz_start H.out (List.Sublist.refl _) (by kernel_rfl) ?_; intro w4 H1 hle4; (try clear F); clear H; have H := Lib.hid H1; have F := H1.facts; simp only [fxx, ec, iv, facts_tobj, macs] at F; clear H1
        refine rz_reads [0, 1, 2, 3, 4, 5, 6, 7] (by kernel_rfl) (H.out.sub (by first | exact List.Sublist.refl _ | exact List.sublist_cons_self _ _ | exact (List.sublist_cons_self _ _).trans (List.sublist_cons_self _ _) | exact ((List.sublist_cons_self _ _).trans (List.sublist_cons_self _ _)).trans (List.sublist_cons_self _ _)) (by intro _ h; first | exact h | exact .tail _ h | exact .tail _ (.tail _ h) | exact .tail _ (.tail _ (.tail _ h)) | exact .tail _ (.tail _ (.tail _ (.tail _ h))) | (simp only [List.mem_cons, List.not_mem_nil, or_false] at h ⊢; first | (simp [h]; done) | (rcases h with h | h <;> simp [h]; done) | (rcases h with h | h | h <;> simp [h]; done) | (rcases h with h | h | h | h <;> simp [h]; done)))) (fun d _ _ _ _ h => by cases d <;> exact h) ?_; (repeat first | (refine rd_skip rfl (by rfl) ?_; simp only [pz]) | (refine rd_step (v := ?_) rfl (by rfl) ?_ ?_; rotate_left 1; (focus intro W hW; have F := St.facts hW; simp only [fxx, ec, iv, facts_tobj, macs] at F; go_simp; all_goals with_reducible rfl); simp only [pz])); refine rd_end ?_; show wpAnyH _ _ _ _ _ _ _ _ _
        refine rz_done (by kernel_rfl) ?_
        go_wp2_with (first
          | (show wpList _ _ _ _ _ (World.drewN _ _); refine wl_drewN H.out ?_; intro w4 H1 hle4; (try clear F); clear H; have H := Lib.hid H1; have F := H1.facts; simp only [fxx, ec, iv, facts_tobj, macs] at F; clear H1)
          | (show Code.wp _ _ _ _ (World.drewN _ _); refine cw_drewN H.out ?_; intro w4 H1 hle4; (try clear F); clear H; have H := Lib.hid H1; have F := H1.facts; simp only [fxx, ec, iv, facts_tobj, macs] at F; clear H1)
          | (show wpList _ _ _ _ _ (World.alloc _ _); refine wl_absorb H.out ?_; intro w1 H1 hlt1; (try clear F); clear H; have H := Lib.hid H1; have F := H1.facts; simp only [fxx, ec, iv, facts_tobj, macs] at F; clear H1)
          | (show Code.wp _ _ _ _ (World.alloc _ _); refine cw_absorb H.out ?_; intro w2 H1 hlt2; (try clear F); clear H; have H := Lib.hid H1; have F := H1.facts; simp only [fxx, ec, iv, facts_tobj, macs] at F; clear H1)
          | (show wpList _ _ _ (Oper.mk none (Op.store _ _ _) _ _ _ _ :: _) _ _; (first | refine wl_store H.out 0 rfl rfl rfl (by rfl) (by simp [Act.eval, Value.cells]; rfl) (by kernel_rfl) (by simp) (by simp [Value.oneCell']) ?_ | refine wl_store H.out 1 rfl rfl rfl (by rfl) (by simp [Act.eval, Value.cells]; rfl) (by kernel_rfl) (by simp) (by simp [Value.oneCell']) ?_); intro w3 H1 hle3; simp only [px] at H1; (try clear F); clear H; have H := Lib.hid H1; have F := H1.facts; simp only [fxx, ec, iv, facts_tobj, macs] at F; clear H1))
        exact ⟨⟨k + 1, hlt, by go_num, by rw [HT.out]; exact H.out.sub (by first | exact List.Sublist.refl _ | exact List.sublist_cons_self _ _ | exact (List.sublist_cons_self _ _).trans (List.sublist_cons_self _ _) | exact ((List.sublist_cons_self _ _).trans (List.sublist_cons_self _ _)).trans (List.sublist_cons_self _ _)) (by intro _ h; first | exact h | exact .tail _ h | exact .tail _ (.tail _ h) | exact .tail _ (.tail _ (.tail _ h)) | exact .tail _ (.tail _ (.tail _ (.tail _ h))) | (simp only [List.mem_cons, List.not_mem_nil, or_false] at h ⊢; first | (simp [h]; done) | (rcases h with h | h <;> simp [h]; done) | (rcases h with h | h | h <;> simp [h]; done) | (rcases h with h | h | h | h <;> simp [h]; done)))⟩, by simp [intOf]; omega⟩
    · obtain rfl : k = L.length := by omega
      rw [List.take_length] at hS
      have H := Lib.hid hS
      (try clear F); have F := H.out.facts; simp only [fxx, ec, iv, facts_tobj, macs] at F
      clear hS
      go_wp2_with (first
        | (show wpList _ _ _ _ _ (World.drewN _ _); refine wl_drewN H.out ?_; intro w4 H1 hle4; (try clear F); clear H; have H := Lib.hid H1; have F := H1.facts; simp only [fxx, ec, iv, facts_tobj, macs] at F; clear H1)
        | (show Code.wp _ _ _ _ (World.drewN _ _); refine cw_drewN H.out ?_; intro w4 H1 hle4; (try clear F); clear H; have H := Lib.hid H1; have F := H1.facts; simp only [fxx, ec, iv, facts_tobj, macs] at F; clear H1)
        | (show wpList _ _ _ _ _ (World.alloc _ _); refine wl_absorb H.out ?_; intro w1 H1 hlt1; (try clear F); clear H; have H := Lib.hid H1; have F := H1.facts; simp only [fxx, ec, iv, facts_tobj, macs] at F; clear H1)
        | (show Code.wp _ _ _ _ (World.alloc _ _); refine cw_absorb H.out ?_; intro w2 H1 hlt2; (try clear F); clear H; have H := Lib.hid H1; have F := H1.facts; simp only [fxx, ec, iv, facts_tobj, macs] at F; clear H1)
        | (show wpList _ _ _ (Oper.mk none (Op.store _ _ _) _ _ _ _ :: _) _ _; (first | refine wl_store H.out 0 rfl rfl rfl (by rfl) (by simp [Act.eval, Value.cells]; rfl) (by kernel_rfl) (by simp) (by simp [Value.oneCell']) ?_ | refine wl_store H.out 1 rfl rfl rfl (by rfl) (by simp [Act.eval, Value.cells]; rfl) (by kernel_rfl) (by simp) (by simp [Value.oneCell']) ?_); intro w3 H1 hle3; simp only [px] at H1; (try clear F); clear H; have H := Lib.hid H1; have F := H1.facts; simp only [fxx, ec, iv, facts_tobj, macs] at F; clear H1))
      go_ret
      exact ⟨_, rfl, H.out.below', H.out.end_slz 0 rfl (fun _ => rfl) (by decide) rfl⟩

set_option maxHeartbeats 4000000 in
theorem ridle_any (z : Nat → Prop) (n : Nat) (v : Value) (L : List EntL) (s : Nat) (hs : s < n) (hn : n ≤ 64) (t u : Int) (ht : 0 ≤ t ∧ t ≤ 1099511627776) (hu : 0 ≤ u ∧ u ≤ 1099511627776) (w : World) (hv : SlZ rEnt z w v L) (hL : L.length ≤ 100000) (hG : Good L) :
    Calls Try.prog 47 #[.agg #[.int .i64 n, v], .int .i64 s, .int .i64 t, .int .i64 u] w fun e w' => ∃ v', e = .returned (.tuple #[v', .int .i64 0]) ∧ Below w.heap.size w w' ∧ SlZ (rInt .i64) (Fresh z w w') w' v' (idles (ofShard n s L) t u) := by
  have HC := Lib.hid (fun z v w hv => rlist_any z n v L s hs hn w hv hL fun e he => ⟨(hG.range e he).1, (hG.range e he).2.1⟩)
  have hl : (ofShard n s L).length ≤ L.length := List.length_filter_le _ _
  have HG : Hid (∀ e ∈ ofShard n s L, 0 ≤ e.seen ∧ e.seen ≤ 1099511627776) := fun e he => (hG.range e (List.mem_filter.1 he).1).2.2
  obtain ⟨ad, cap, rfl, hlc, hcm⟩ := hv.shape
  have H := Lib.hid (St.start w z [rdS rEnt _ L] (by simp only [List.mem_singleton, forall_eq]; exact hv))
  clear hv hG
  generalize ofShard n s L = l at *
  obtain ⟨ht0, ht1⟩ := ht
  obtain ⟨hu0, hu1⟩ := hu
  go_enter Try.func47, Try.ntmps47
  go_wp2_with (first
    | (show wpList _ _ _ _ _ (World.drewN _ _); refine wl_drewN H.out ?_; intro w4 H1 hle4; (try clear F); clear H; have H := Lib.hid H1; have F := H1.facts; simp only [fxx, ec, iv, facts_tobj, macs] at F; clear H1)
    | (show Code.wp _ _ _ _ (World.drewN _ _); refine cw_drewN H.out ?_; intro w4 H1 hle4; (try clear F); clear H; have H := Lib.hid H1; have F := H1.facts; simp only [fxx, ec, iv, facts_tobj, macs] at F; clear H1)
    | (show wpList _ _ _ _ _ (World.alloc _ _); refine wl_absorb H.out ?_; intro w1 H1 hlt1; (try clear F); clear H; have H := Lib.hid H1; have F := H1.facts; simp only [fxx, ec, iv, facts_tobj, macs] at F; clear H1)
    | (show Code.wp _ _ _ _ (World.alloc _ _); refine cw_absorb H.out ?_; intro w2 H1 hlt2; (try clear F); clear H; have H := Lib.hid H1; have F := H1.facts; simp only [fxx, ec, iv, facts_tobj, macs] at F; clear H1)
    | (show wpList _ _ _ (Oper.mk none (Op.store _ _ _) _ _ _ _ :: _) _ _; (first | refine wl_store H.out 0 rfl rfl rfl (by rfl) (by simp [Act.eval, Value.cells]; rfl) (by kernel_rfl) (by simp) (by simp [Value.oneCell']) ?_ | refine wl_store H.out 1 rfl rfl rfl (by rfl) (by simp [Act.eval, Value.cells]; rfl) (by kernel_rfl) (by simp) (by simp [Value.oneCell']) ?_); intro w3 H1 hle3; simp only [px] at H1; (try clear F); clear H; have H := Lib.hid H1; have F := H1.facts; simp only [fxx, ec, iv, facts_tobj, macs] at F; clear H1)
    | (go_at_call 38; refine (HC.out _ _ _ (H.out.rd 0 rfl)).mono ?_; rintro e w5 ⟨v', rfl, hb, hv'⟩; obtain ⟨ad', cap', rfl, hlc', hcm'⟩ := hv'.shape; unfold maxLen at hcm'; have H1 := H.out.call hb (rdS rEnt _ l) hv'; clear hb hv'; (try clear F); clear H; have H := Lib.hid H1; have F := H1.facts; simp only [fxx, ec, iv, facts_tobj, macs] at F; clear H1))
  replace H := Lib.hid (H.out.empty 3 1)
  clear F HC
  go_loopw [12, 13] (fun o i wr => ∃ k : Nat, k ≤ l.length ∧ i = .int .i64 k ∧ St w (fun _ => False) z [vec 3 1 o (idles (l.take k) t u).length ((idles (l.take k) t u).map fun n => [Value.int .i64 n]).flatten, va _ _ _] [rdS rEnt (.slice ad' l.length cap') l] wr) (fun _ i _ => l.length - (intOf i).toNat)
  case atStart => exact ⟨0, Nat.zero_le _, rfl, H.out.sub (List.Sublist.refl _) (by intro _ h; simp_all)⟩
  case round =>
    obtain ⟨k, hk, rfl, hS⟩ := hrel
    clear H
    by_cases hlt : k < l.length
    · obtain ⟨x, hx⟩ : ∃ x, l[k]? = some x := ⟨_, List.getElem?_eq_getElem hlt⟩
      obtain ⟨b, o, cs, rfl, hzb, hr, rfl⟩ := SlZ.get (hS.rd 0 rfl) hx
      have hlt' : (k : Int) < l.length := by omega
      have hsx := HG.out _ (List.mem_of_getElem? hx)
      have H := Lib.hid (hS.also (rdE b (o + k * 8) (ec x)) ⟨hzb, hr⟩)
      have HT := Lib.hid (idles_take (t := t) (u := u) hx)
      have hln : (idles (l.take k) t u).length ≤ l.length := by rw [List.length_map]; exact Nat.le_trans (List.length_filter_le _ _) (by rw [List.length_take]; omega)
      (try clear F); have F := H.out.facts; simp only [fxx, ec, iv, facts_tobj, macs] at F
      clear hS hx hzb hr
      generalize idles (l.take k) t u = p at *
      by_cases hms : x.seen ≤ t - u
      · rw [if_pos hms] at HT
        go_wp2_with (first
          | (show wpList _ _ _ _ _ (World.drewN _ _); refine wl_drewN H.out ?_; intro w4 H1 hle4; (try clear F); clear H; have H := Lib.hid H1; have F := H1.facts; simp only [fxx, ec, iv, facts_tobj, macs] at F; clear H1)
          | (show Code.wp _ _ _ _ (World.drewN _ _); refine cw_drewN H.out ?_; intro w4 H1 hle4; (try clear F); clear H; have H := Lib.hid H1; have F := H1.facts; simp only [fxx, ec, iv, facts_tobj, macs] at F; clear H1)
          | (show wpList _ _ _ _ _ (World.alloc _ _); refine wl_absorb H.out ?_; intro w1 H1 hlt1; (try clear F); clear H; have H := Lib.hid H1; have F := H1.facts; simp only [fxx, ec, iv, facts_tobj, macs] at F; clear H1)
          | (show Code.wp _ _ _ _ (World.alloc _ _); refine cw_absorb H.out ?_; intro w2 H1 hlt2; (try clear F); clear H; have H := Lib.hid H1; have F := H1.facts; simp only [fxx, ec, iv, facts_tobj, macs] at F; clear H1)
          | (show wpList _ _ _ (Oper.mk none (Op.store _ _ _) _ _ _ _ :: _) _ _; (first | refine wl_store H.out 0 rfl rfl rfl (by rfl) (by simp [Act.eval, Value.cells]; rfl) (by kernel_rfl) (by simp) (by simp [Value.oneCell']) ?_ | refine wl_store H.out 1 rfl rfl rfl (by rfl) (by simp [Act.eval, Value.cells]; rfl) (by kernel_rfl) (by simp) (by simp [Value.oneCell']) ?_); intro w3 H1 hle3; simp only [px] at H1; (try clear F); clear H; have H := Lib.hid H1; have F := H1.facts; simp only [fxx, ec, iv, facts_tobj, macs] at F; clear H1)
          | (at_builtin; refine wl_append H.out 1 rfl el_int rfl rfl (by rfl) rfl (src_va (H.out.has 0 rfl) _ 1 1 rfl (by simp [Value.oneCell'])) (by first | omega | (simp; omega)) ?_; intro v5 w5 H1 hle5; simp only [List.set_cons_zero, List.set_cons_succ] at H1; replace H1 := H1.sub (List.sublist_cons_self _ _) (fun _ h => h); (try clear F); clear H; have H := Lib.hid H1; have F := H1.facts; simp only [fxx, ec, iv, facts_tobj, macs] at F; clear H1))
        exact ⟨⟨k + 1, hlt, by go_num, by rw [HT.out, ints_snoc, List.length_append]; exact H.out.sub (by first | exact List.Sublist.refl _ | exact List.sublist_cons_self _ _ | exact (List.sublist_cons_self _ _).trans (List.sublist_cons_self _ _) | exact ((List.sublist_cons_self _ _).trans (List.sublist_cons_self _ _)).trans (List.sublist_cons_self _ _)) (by intro _ h; first | exact h | exact .tail _ h | exact .tail _ (.tail _ h) | exact .tail _ (.tail _ (.tail _ h)) | exact .tail _ (.tail _ (.tail _ (.tail _ h))) | (simp only [List.mem_cons, List.not_mem_nil, or_false] at h ⊢; first | (simp [h]; done) | (rcases h with h | h <;> simp [h]; done) | (rcases h with h | h | h <;> simp [h]; done) | (rcases h with h | h | h | h <;> simp [h]; done)))⟩, by simp [intOf]; omega⟩
      · rw [if_neg hms] at HT
        go_wp2_with (first
          | (show wpList _ _ _ _ _ (World.drewN _ _); refine wl_drewN H.out ?_; intro w4 H1 hle4; (try clear F); clear H; have H := Lib.hid H1; have F := H1.facts; simp only [fxx, ec, iv, facts_tobj, macs] at F; clear H1)
          | (show Code.wp _ _ _ _ (World.drewN _ _); refine cw_drewN H.out ?_; intro w4 H1 hle4; (try clear F); clear H; have H := Lib.hid H1; have F := H1.facts; simp only [fxx, ec, iv, facts_tobj, macs] at F; clear H1)
          | (show wpList _ _ _ _ _ (World.alloc _ _); refine wl_absorb H.out ?_; intro w1 H1 hlt1; (try clear F); clear H; have H := Lib.hid H1; have F := H1.facts; simp only [fxx, ec, iv, facts_tobj, macs] at F; clear H1)
          | (show Code.wp _ _ _ _ (World.alloc _ _); refine cw_absorb H.out ?_; intro w2 H1 hlt2; (try clear F); clear H; have H := Lib.hid H1; have F := H1.facts; simp only [fxx, ec, iv, facts_tobj, macs] at F; clear H1)
          | (show wpList _ _ _ (Oper.mk none (Op.store _ _ _) _ _ _ _ :: _) _ _; (first | refine wl_store H.out 0 rfl rfl rfl (by rfl) (by simp [Act.eval, Value.cells]; rfl) (by kernel_rfl) (by simp) (by simp [Value.oneCell']) ?_ | refine wl_store H.out 1 rfl rfl rfl (by rfl) (by simp [Act.eval, Value.cells]; rfl) (by kernel_rfl) (by simp) (by simp [Value.oneCell']) ?_); intro w3 H1 hle3; simp only [px] at H1; (try clear F); clear H; have H := Lib.hid H1; have F := H1.facts; simp only [fxx, ec, iv, facts_tobj, macs] at F; clear H1))
        exact ⟨⟨k + 1, hlt, by go_num, by rw [HT.out]; exact H.out.sub (by first | exact List.Sublist.refl _ | exact List.sublist_cons_self _ _ | exact (List.sublist_cons_self _ _).trans (List.sublist_cons_self _ _) | exact ((List.sublist_cons_self _ _).trans (List.sublist_cons_self _ _)).trans (List.sublist_cons_self _ _)) (by intro _ h; first | exact h | exact .tail _ h | exact .tail _ (.tail _ h) | exact .tail _ (.tail _ (.tail _ h)) | exact .tail _ (.tail _ (.tail _ (.tail _ h))) | (simp only [List.mem_cons, List.not_mem_nil, or_false] at h ⊢; first | (simp [h]; done) | (rcases h with h | h <;> simp [h]; done) | (rcases h with h | h | h <;> simp [h]; done) | (rcases h with h | h | h | h <;> simp [h]; done)))⟩, by simp [intOf]; omega⟩
    · obtain rfl : k = l.length := by omega
      rw [List.take_length] at hS
      have H := Lib.hid hS
      (try clear F); have F := H.out.facts; simp only [fxx, ec, iv, facts_tobj, macs] at F
      clear hS
      go_wp2_with (first
        | (show wpList _ _ _ _ _ (World.drewN _ _); refine wl_drewN H.out ?_; intro w4 H1 hle4; (try clear F); clear H; have H := Lib.hid H1; have F := H1.facts; simp only [fxx, ec, iv, facts_tobj, macs] at F; clear H1)
        | (show Code.wp _ _ _ _ (World.drewN _ _); refine cw_drewN H.out ?_; intro w4 H1 hle4; (try clear F); clear H; have H := Lib.hid H1; have F := H1.facts; simp only [fxx, ec, iv, facts_tobj, macs] at F; clear H1)
        | (show wpList _ _ _ _ _ (World.alloc _ _); refine wl_absorb H.out ?_; intro w1 H1 hlt1; (try clear F); clear H; have H := Lib.hid H1; have F := H1.facts; simp only [fxx, ec, iv, facts_tobj, macs] at F; clear H1)
        | (show Code.wp _ _ _ _ (World.alloc _ _); refine cw_absorb H.out ?_; intro w2 H1 hlt2; (try clear F); clear H; have H := Lib.hid H1; have F := H1.facts; simp only [fxx, ec, iv, facts_tobj, macs] at F; clear H1)
        | (show wpList _ _ _ (Oper.mk none (Op.store _ _ _) _ _ _ _ :: _) _ _; (first | refine wl_store H.out 0 rfl rfl rfl (by rfl) (by simp [Act.eval, Value.cells]; rfl) (by kernel_rfl) (by simp) (by simp [Value.oneCell']) ?_ | refine wl_store H.out 1 rfl rfl rfl (by rfl) (by simp [Act.eval, Value.cells]; rfl) (by kernel_rfl) (by simp) (by simp [Value.oneCell']) ?_); intro w3 H1 hle3; simp only [px] at H1; (try clear F); clear H; have H := Lib.hid H1; have F := H1.facts; simp only [fxx, ec, iv, facts_tobj, macs] at F; clear H1))
      go_ret2
      exact ⟨_, rfl, H.out.below', H.out.end_slz 0 rfl (fun _ => rfl) (by decide) rfl⟩
end Go.Proofs.Ytkifagflnpkkaaa
