/- TableOwn: what is told is one's own. No condition. -/
import Derived.Test.YtkifagflnpkkaaaTSam
import Derived.Test.YtkifagflnpkkaaaVst
namespace Go.Proofs.Ytkifagflnpkkaaa
set_option linter.unusedSimpArgs false
set_option linter.unusedVariables false
-- FSX: ec, facts_tobj, macs
open Go.RowKit
set_option maxRecDepth 10000

set_option maxHeartbeats 16000000 in
theorem lawOwn (z : Nat → Prop) (v : Value) (l : List EntL) (m : UInt8) (w : World) (hv : SlZ rEnt z w v l) :
    Calls Try.prog 5 #[v, bv m] w fun e w' => e = .returned (.bool true) ∧ Below w.heap.size w w' := by
  have HAwk : Hid (∀ w, Calls Try.prog 10 #[] w fun e w' => e = .returned (.bool true) ∧ Below w.heap.size w w') := awake_true
  have hG := fillTo_good (l.take 60)
  have hL60 : (fillTo (l.take 60)).length ≤ 100000 := by have := hG.len; omega
  have H := Lib.hid (St.start w z [rdS rEnt _ l] (by simp only [List.mem_singleton, forall_eq]; exact hv))
  clear hv
  have HF : Hid (∀ z w, SlZ rEnt z w v l → Calls Try.prog 9 #[.int .i64 1, v] w fun e w' => ∃ B, e = .returned (.tuple #[.pointer (some ⟨B, 0, none⟩), .bool true]) ∧ Below w.heap.size w w' ∧ BothAt z w w' B 1 (fillTo (l.take 60))) := fun z w hv => filled_any z 1 (by decide) (by decide) v l w hv
  have HSm : Hid (∀ B X A ad c w, rng w B 0 3 = some [.pointer (some ⟨X, 0, none⟩), .int .i64 1, .slice ad (fillTo (l.take 60)).length c] → Tab w X 1 (fillTo (l.take 60)) A → SlZ rEnt (fun _ => True) w (.slice ad (fillTo (l.take 60)).length c) (fillTo (l.take 60)) →
    Calls Try.prog 20 #[.pointer (some ⟨B, 0, none⟩), bv m] w fun e w' => e = .returned (.bool true) ∧ Below w.heap.size w w') := fun B X A ad c w h1 h2 h3 => same_any (fun _ => True) B 1 X _ A ad c m w trivial h1 h2 (fun _ _ => trivial) h3 hL60
  clear hL60
  generalize fillTo (l.take 60) = L at *
  unfold bv at *
  have HMc : Hid (∀ w, Calls Try.prog 19 #[.int .u8 m.toNat] w fun e w' => e = .returned (mac6 m).v ∧ Below w.heap.size w w') := fun w => mac_any m w
  go_enter Try.func5, Try.ntmps5
  go_wp2_with (first
    | (show wpList _ _ _ _ _ (World.drewN _ _); refine wl_drewN H.out ?_; intro w4 H1 hle4; (try clear F); clear H; have H := Lib.hid H1; have F := H1.facts; simp only [fxx, ec, facts_tobj, macs] at F; clear H1)
    | (show Code.wp _ _ _ _ (World.drewN _ _); refine cw_drewN H.out ?_; intro w4 H1 hle4; (try clear F); clear H; have H := Lib.hid H1; have F := H1.facts; simp only [fxx, ec, facts_tobj, macs] at F; clear H1)
    | (show wpList _ _ _ _ _ (World.alloc _ _); refine wl_absorb H.out ?_; intro w1 H1 hlt1; (try clear F); clear H; have H := Lib.hid H1; have F := H1.facts; simp only [fxx, ec, facts_tobj, macs] at F; clear H1)
    | (show Code.wp _ _ _ _ (World.alloc _ _); refine cw_absorb H.out ?_; intro w2 H1 hlt2; (try clear F); clear H; have H := Lib.hid H1; have F := H1.facts; simp only [fxx, ec, facts_tobj, macs] at F; clear H1)
    | (show wpList _ _ _ (Oper.mk none (Op.store _ _ _) _ _ _ _ :: _) _ _; (first | refine wl_store H.out 0 rfl rfl rfl (by rfl) (by simp [Act.eval, Value.cells]; rfl) (by kernel_rfl) (by simp) (by simp [Value.oneCell']) ?_ | refine wl_store H.out 1 rfl rfl rfl (by rfl) (by simp [Act.eval, Value.cells]; rfl) (by kernel_rfl) (by simp) (by simp [Value.oneCell']) ?_); intro w3 H1 hle3; simp only [px] at H1; (try clear F); clear H; have H := Lib.hid H1; have F := H1.facts; simp only [fxx, ec, facts_tobj, macs] at F; clear H1)
    | (go_at_call 9; refine (HF.out _ _ (H.out.rd 0 rfl)).mono ?_; rintro e w5 ⟨B, rfl, hb, h⟩; obtain ⟨X, A, ad, c, H1⟩ := H.out.both hb h; clear hb h; (try clear F); clear H; have H := Lib.hid H1; have F := H1.facts; simp only [fxx, ec, facts_tobj, macs] at F; clear H1)
    | (go_at_call 10; refine (HAwk.out _).mono ?_; rintro e w6 ⟨rfl, hb⟩; have H1 := H.out.same hb; clear hb; (try clear F); clear H; have H := Lib.hid H1; have F := H1.facts; simp only [fxx, ec, facts_tobj, macs] at F; clear H1)
    | (go_at_call 11; refine (list_any X 1 L A 0 (by decide) _ (H.out.has 0 rfl)).mono ?_; rintro e w5 ⟨x, rfl, hb, ho⟩; obtain ⟨ax, cx, rfl⟩ := own_shape ho; have H1 := H.out.getv hb ho; clear hb ho; (try clear F); clear H; have H := Lib.hid H1; have F := H1.facts; simp only [fxx, ec, facts_tobj, macs] at F; clear H1))
  have hx : (ofShard 1 0 L).length ≤ 65534 := hG.flen _
  have hy : (idsOf (mac6 m) L).length ≤ 65534 := idsOf_len hG _
  have hz : (idles (ofShard 1 0 L) 1099511627776 0).length ≤ 65534 := by rw [List.length_map]; exact Nat.le_trans (List.length_filter_le _ _) hx
  have HOf : Hid (∀ w, Tab w X 1 L A → Calls Try.prog 14 #[.pointer (some ⟨X, 0, none⟩), (mac6 m).v] w fun e w' => ∃ v, e = .returned v ∧ Below w.heap.size w w' ∧ w'.ownsRow w.heap.size 3 1 v (idsOf (mac6 m) L).length ((idsOf (mac6 m) L).map fun n => [Value.int .i64 n]).flatten) := fun w h => of_ids X 1 L A (mac6 m) w h
  have HId : Hid (∀ w, Tab w X 1 L A → Calls Try.prog 18 #[.pointer (some ⟨X, 0, none⟩), .int .i64 0, .int .i64 1099511627776, .int .i64 0] w fun e w' => ∃ v, e = .returned (.tuple #[v, .int .i64 0]) ∧ Below w.heap.size w w' ∧ w'.ownsRow w.heap.size 3 1 v (idles (ofShard 1 0 L) 1099511627776 0).length ((idles (ofShard 1 0 L) 1099511627776 0).map iv)) := fun w h => idle_any X 1 L A 0 (by decide) _ _ (by decide) (by decide) w h
  have HSm' := Lib.hid (fun A' ad' c' w' => HSm.out B X A' ad' c' w')
  clear hG HSm
  generalize (ofShard 1 0 L).length = x at *
  generalize (idsOf (mac6 m) L).length = y at *
  generalize (idles (ofShard 1 0 L) 1099511627776 0).length = q at *
  clear F
  go_loopw [9] (fun i wr => ∃ (k : Nat) (xs : List Value), k ≤ x ∧ i = .int .i64 k ∧ St w (fun _ => False) z [vec 40 8 (.slice ax x cx) x xs, tobj X 1 L A, va B _ _] [rdS rEnt (.slice ad L.length c) L] wr) (fun i _ => x - (intOf i).toNat)
  case atStart => exact ⟨0, _, Nat.zero_le _, rfl, H.out.sub (List.Sublist.refl _) (by intro _ h; simp only [List.mem_cons, List.not_mem_nil, or_false] at h ⊢; first | exact h | (simp [h]; done) | (rcases h with h | h <;> simp [h]; done) | (rcases h with h | h | h <;> simp [h]; done) | (rcases h with h | h | h | h <;> simp [h]; done))⟩
  case round =>
    obtain ⟨k, xs, hk, rfl, hS⟩ := hrel
    clear H
    by_cases hlt : k < x
    · obtain ⟨g, rfl⟩ := own_addr (hS.has 0 rfl) (by omega)
      have hlt' : (k : Int) < x := by omega
      have H := Lib.hid hS
      (try clear F); have F := H.out.facts; simp only [fxx, ec, facts_tobj, macs] at F
      clear hS
      go_wp2_with (first
        | (show wpList _ _ _ (Oper.mk none (Op.store _ _ _) _ _ _ _ :: _) _ _; refine wl_storev H.out 0 rfl rfl rfl (by rfl) (by simp [Act.eval, Value.cells]; rfl) (by kernel_rfl) (by have hq := (H.out.has 0 rfl).1; simp only [List.length_cons, List.length_nil]; omega) (by simp [Value.oneCell']) ?_; intro w3 H1 hle3; simp only [List.set_cons_zero] at H1; (try clear F); clear H; have H := Lib.hid H1; have F := H1.facts; simp only [fxx, ec, facts_tobj, macs] at F; clear H1)
        | (show wpList _ _ _ _ _ (World.drewN _ _); refine wl_drewN H.out ?_; intro w4 H1 hle4; (try clear F); clear H; have H := Lib.hid H1; have F := H1.facts; simp only [fxx, ec, facts_tobj, macs] at F; clear H1)
        | (show Code.wp _ _ _ _ (World.drewN _ _); refine cw_drewN H.out ?_; intro w4 H1 hle4; (try clear F); clear H; have H := Lib.hid H1; have F := H1.facts; simp only [fxx, ec, facts_tobj, macs] at F; clear H1)
        | (show wpList _ _ _ _ _ (World.alloc _ _); refine wl_absorb H.out ?_; intro w1 H1 hlt1; (try clear F); clear H; have H := Lib.hid H1; have F := H1.facts; simp only [fxx, ec, facts_tobj, macs] at F; clear H1)
        | (show Code.wp _ _ _ _ (World.alloc _ _); refine cw_absorb H.out ?_; intro w2 H1 hlt2; (try clear F); clear H; have H := Lib.hid H1; have F := H1.facts; simp only [fxx, ec, facts_tobj, macs] at F; clear H1)
        | (show wpList _ _ _ (Oper.mk none (Op.store _ _ _) _ _ _ _ :: _) _ _; (first | refine wl_store H.out 0 rfl rfl rfl (by rfl) (by simp [Act.eval, Value.cells]; rfl) (by kernel_rfl) (by simp) (by simp [Value.oneCell']) ?_ | refine wl_store H.out 1 rfl rfl rfl (by rfl) (by simp [Act.eval, Value.cells]; rfl) (by kernel_rfl) (by simp) (by simp [Value.oneCell']) ?_); intro w3 H1 hle3; simp only [px] at H1; (try clear F); clear H; have H := Lib.hid H1; have F := H1.facts; simp only [fxx, ec, facts_tobj, macs] at F; clear H1))
      exact ⟨⟨k + 1, _, hlt, by go_num, H.out⟩, by simp [intOf]; omega⟩
    · obtain rfl : k = x := by omega
      have H := Lib.hid (hS.sub (List.sublist_cons_self _ _) (fun _ h => h))
      (try clear F); have F := H.out.facts; simp only [fxx, ec, facts_tobj, macs] at F
      clear hS
      go_wp2_with (first
        | (show wpList _ _ _ _ _ (World.drewN _ _); refine wl_drewN H.out ?_; intro w4 H1 hle4; (try clear F); clear H; have H := Lib.hid H1; have F := H1.facts; simp only [fxx, ec, facts_tobj, macs] at F; clear H1)
        | (show Code.wp _ _ _ _ (World.drewN _ _); refine cw_drewN H.out ?_; intro w4 H1 hle4; (try clear F); clear H; have H := Lib.hid H1; have F := H1.facts; simp only [fxx, ec, facts_tobj, macs] at F; clear H1)
        | (show wpList _ _ _ _ _ (World.alloc _ _); refine wl_absorb H.out ?_; intro w1 H1 hlt1; (try clear F); clear H; have H := Lib.hid H1; have F := H1.facts; simp only [fxx, ec, facts_tobj, macs] at F; clear H1)
        | (show Code.wp _ _ _ _ (World.alloc _ _); refine cw_absorb H.out ?_; intro w2 H1 hlt2; (try clear F); clear H; have H := Lib.hid H1; have F := H1.facts; simp only [fxx, ec, facts_tobj, macs] at F; clear H1)
        | (show wpList _ _ _ (Oper.mk none (Op.store _ _ _) _ _ _ _ :: _) _ _; (first | refine wl_store H.out 0 rfl rfl rfl (by rfl) (by simp [Act.eval, Value.cells]; rfl) (by kernel_rfl) (by simp) (by simp [Value.oneCell']) ?_ | refine wl_store H.out 1 rfl rfl rfl (by rfl) (by simp [Act.eval, Value.cells]; rfl) (by kernel_rfl) (by simp) (by simp [Value.oneCell']) ?_); intro w3 H1 hle3; simp only [px] at H1; (try clear F); clear H; have H := Lib.hid H1; have F := H1.facts; simp only [fxx, ec, facts_tobj, macs] at F; clear H1))
      refine rz_start H.out (List.Sublist.refl _) (by kernel_rfl) ?_; intro w4 H1 hle4; (try clear F); clear H; have H := Lib.hid H1; have F := H1.facts; simp only [fxx, ec, facts_tobj, macs] at F; clear H1
      refine rz_reads [0, 1, 2, 3, 4] (by kernel_rfl) (H.out.sub (by first | exact List.Sublist.refl _ | exact List.sublist_cons_self _ _ | exact (List.sublist_cons_self _ _).trans (List.sublist_cons_self _ _) | exact ((List.sublist_cons_self _ _).trans (List.sublist_cons_self _ _)).trans (List.sublist_cons_self _ _)) (by intro _ h; first | exact h | exact .tail _ h | exact .tail _ (.tail _ h) | exact .tail _ (.tail _ (.tail _ h)) | exact .tail _ (.tail _ (.tail _ (.tail _ h))) | (simp only [List.mem_cons, List.not_mem_nil, or_false] at h ⊢; first | (simp [h]; done) | (rcases h with h | h <;> simp [h]; done) | (rcases h with h | h | h <;> simp [h]; done) | (rcases h with h | h | h | h <;> simp [h]; done)))) (fun d _ _ _ _ h => by cases d <;> exact h) ?_; (repeat first | (refine rd_skip rfl (by rfl) ?_; simp only [pz]) | (refine rd_step (v := ?_) rfl (by rfl) ?_ ?_; rotate_left 1; (focus intro W hW; have F := St.facts hW; simp only [fxx, ec, facts_tobj, macs] at F; go_simp; all_goals with_reducible rfl); simp only [pz])); refine rd_end ?_; show wpAnyH _ _ _ _ _ _ _ _ _
      refine rz_one 5 (by kernel_rfl) ?_
      refine ss_call rfl (by rfl) (f := 19) (args := ?_) ?_ ?_; (rotate_left 1; (focus go_simp; all_goals with_reducible rfl))
      refine (HMc.out _).mono ?_; rintro e w5 ⟨rfl, hb⟩; have H1 := H.out.same hb; clear hb
      refine ⟨_, rfl, H1.sub (by first | exact List.Sublist.refl _ | exact List.sublist_cons_self _ _ | exact (List.sublist_cons_self _ _).trans (List.sublist_cons_self _ _) | exact ((List.sublist_cons_self _ _).trans (List.sublist_cons_self _ _)).trans (List.sublist_cons_self _ _)) (by intro _ h; first | exact h | exact .tail _ h | exact .tail _ (.tail _ h) | exact .tail _ (.tail _ (.tail _ h)) | exact .tail _ (.tail _ (.tail _ (.tail _ h))) | (simp only [List.mem_cons, List.not_mem_nil, or_false] at h ⊢; first | (simp [h]; done) | (rcases h with h | h <;> simp [h]; done) | (rcases h with h | h | h <;> simp [h]; done) | (rcases h with h | h | h | h <;> simp [h]; done))), ?_⟩
      (try clear F); clear H; have H := Lib.hid H1; have F := H1.facts; simp only [fxx, ec, facts_tobj, macs] at F; clear H1
      simp only [pz]
      refine rz_one 6 (by kernel_rfl) ?_
      refine ss_call rfl (by rfl) (f := 14) (args := ?_) ?_ ?_; (rotate_left 1; (focus go_simp; all_goals with_reducible rfl))
      refine (HOf.out _ (H.out.has 0 rfl)).mono ?_; rintro e w5 ⟨v6, rfl, hb, ho⟩; obtain ⟨ay, cy, rfl⟩ := own_shape ho; have H1 := H.out.getv hb ho; clear hb ho
      refine ⟨_, rfl, H1.sub (by first | exact List.Sublist.refl _ | exact List.sublist_cons_self _ _ | exact (List.sublist_cons_self _ _).trans (List.sublist_cons_self _ _) | exact ((List.sublist_cons_self _ _).trans (List.sublist_cons_self _ _)).trans (List.sublist_cons_self _ _)) (by intro _ h; first | exact h | exact .tail _ h | exact .tail _ (.tail _ h) | exact .tail _ (.tail _ (.tail _ h)) | exact .tail _ (.tail _ (.tail _ (.tail _ h))) | (simp only [List.mem_cons, List.not_mem_nil, or_false] at h ⊢; first | (simp [h]; done) | (rcases h with h | h <;> simp [h]; done) | (rcases h with h | h | h <;> simp [h]; done) | (rcases h with h | h | h | h <;> simp [h]; done))), ?_⟩
      (try clear F); clear H; have H := Lib.hid H1; have F := H1.facts; simp only [fxx, ec, facts_tobj, macs] at F; clear H1
      simp only [pz]
      refine rz_reads [7] (by kernel_rfl) (H.out.sub (by first | exact List.Sublist.refl _ | exact List.sublist_cons_self _ _ | exact (List.sublist_cons_self _ _).trans (List.sublist_cons_self _ _) | exact ((List.sublist_cons_self _ _).trans (List.sublist_cons_self _ _)).trans (List.sublist_cons_self _ _)) (by intro _ h; first | exact h | exact .tail _ h | exact .tail _ (.tail _ h) | exact .tail _ (.tail _ (.tail _ h)) | exact .tail _ (.tail _ (.tail _ (.tail _ h))) | (simp only [List.mem_cons, List.not_mem_nil, or_false] at h ⊢; first | (simp [h]; done) | (rcases h with h | h <;> simp [h]; done) | (rcases h with h | h | h <;> simp [h]; done) | (rcases h with h | h | h | h <;> simp [h]; done)))) (fun d _ _ _ _ h => by cases d <;> exact h) ?_; (repeat first | (refine rd_skip rfl (by rfl) ?_; simp only [pz]) | (refine rd_step (v := ?_) rfl (by rfl) ?_ ?_; rotate_left 1; (focus intro W hW; have F := St.facts hW; simp only [fxx, ec, facts_tobj, macs] at F; go_simp; all_goals with_reducible rfl); simp only [pz])); refine rd_end ?_; show wpAnyH _ _ _ _ _ _ _ _ _
      refine rz_done (by kernel_rfl) ?_
      go_wp2_with (first
        | (show wpList _ _ _ _ _ (World.drewN _ _); refine wl_drewN H.out ?_; intro w4 H1 hle4; (try clear F); clear H; have H := Lib.hid H1; have F := H1.facts; simp only [fxx, ec, facts_tobj, macs] at F; clear H1)
        | (show Code.wp _ _ _ _ (World.drewN _ _); refine cw_drewN H.out ?_; intro w4 H1 hle4; (try clear F); clear H; have H := Lib.hid H1; have F := H1.facts; simp only [fxx, ec, facts_tobj, macs] at F; clear H1)
        | (show wpList _ _ _ _ _ (World.alloc _ _); refine wl_absorb H.out ?_; intro w1 H1 hlt1; (try clear F); clear H; have H := Lib.hid H1; have F := H1.facts; simp only [fxx, ec, facts_tobj, macs] at F; clear H1)
        | (show Code.wp _ _ _ _ (World.alloc _ _); refine cw_absorb H.out ?_; intro w2 H1 hlt2; (try clear F); clear H; have H := Lib.hid H1; have F := H1.facts; simp only [fxx, ec, facts_tobj, macs] at F; clear H1)
        | (show wpList _ _ _ (Oper.mk none (Op.store _ _ _) _ _ _ _ :: _) _ _; (first | refine wl_store H.out 0 rfl rfl rfl (by rfl) (by simp [Act.eval, Value.cells]; rfl) (by kernel_rfl) (by simp) (by simp [Value.oneCell']) ?_ | refine wl_store H.out 1 rfl rfl rfl (by rfl) (by simp [Act.eval, Value.cells]; rfl) (by kernel_rfl) (by simp) (by simp [Value.oneCell']) ?_); intro w3 H1 hle3; simp only [px] at H1; (try clear F); clear H; have H := Lib.hid H1; have F := H1.facts; simp only [fxx, ec, facts_tobj, macs] at F; clear H1))
      clear F
      go_loopw [11] (fun i wr => ∃ (k : Nat) (xs : List Value), k ≤ y ∧ i = .int .i64 k ∧ St w (fun _ => False) z [vec 3 1 (.slice ay y cy) y xs, tobj X 1 L A, va B _ _] [rdS rEnt (.slice ad L.length c) L] wr) (fun i _ => y - (intOf i).toNat)
      case atStart => exact ⟨0, _, Nat.zero_le _, rfl, H.out.sub (List.Sublist.refl _) (by intro _ h; simp only [List.mem_cons, List.not_mem_nil, or_false] at h ⊢; first | exact h | (simp [h]; done) | (rcases h with h | h <;> simp [h]; done) | (rcases h with h | h | h <;> simp [h]; done) | (rcases h with h | h | h | h <;> simp [h]; done))⟩
      case round =>
        obtain ⟨k, xs, hk, rfl, hS⟩ := hrel
        clear H
        by_cases hlt : k < y
        · obtain ⟨g, rfl⟩ := own_addr (hS.has 0 rfl) (by omega)
          have hlt' : (k : Int) < y := by omega
          have H := Lib.hid hS
          (try clear F); have F := H.out.facts; simp only [fxx, ec, facts_tobj, macs] at F
          clear hS
          go_wp2_with (first
            | (show wpList _ _ _ (Oper.mk none (Op.store _ _ _) _ _ _ _ :: _) _ _; refine wl_storev H.out 0 rfl rfl rfl (by rfl) (by simp [Act.eval, Value.cells]; rfl) (by kernel_rfl) (by have hq := (H.out.has 0 rfl).1; simp only [List.length_cons, List.length_nil]; omega) (by simp [Value.oneCell']) ?_; intro w3 H1 hle3; simp only [List.set_cons_zero] at H1; (try clear F); clear H; have H := Lib.hid H1; have F := H1.facts; simp only [fxx, ec, facts_tobj, macs] at F; clear H1)
            | (show wpList _ _ _ _ _ (World.drewN _ _); refine wl_drewN H.out ?_; intro w4 H1 hle4; (try clear F); clear H; have H := Lib.hid H1; have F := H1.facts; simp only [fxx, ec, facts_tobj, macs] at F; clear H1)
            | (show Code.wp _ _ _ _ (World.drewN _ _); refine cw_drewN H.out ?_; intro w4 H1 hle4; (try clear F); clear H; have H := Lib.hid H1; have F := H1.facts; simp only [fxx, ec, facts_tobj, macs] at F; clear H1)
            | (show wpList _ _ _ _ _ (World.alloc _ _); refine wl_absorb H.out ?_; intro w1 H1 hlt1; (try clear F); clear H; have H := Lib.hid H1; have F := H1.facts; simp only [fxx, ec, facts_tobj, macs] at F; clear H1)
            | (show Code.wp _ _ _ _ (World.alloc _ _); refine cw_absorb H.out ?_; intro w2 H1 hlt2; (try clear F); clear H; have H := Lib.hid H1; have F := H1.facts; simp only [fxx, ec, facts_tobj, macs] at F; clear H1)
            | (show wpList _ _ _ (Oper.mk none (Op.store _ _ _) _ _ _ _ :: _) _ _; (first | refine wl_store H.out 0 rfl rfl rfl (by rfl) (by simp [Act.eval, Value.cells]; rfl) (by kernel_rfl) (by simp) (by simp [Value.oneCell']) ?_ | refine wl_store H.out 1 rfl rfl rfl (by rfl) (by simp [Act.eval, Value.cells]; rfl) (by kernel_rfl) (by simp) (by simp [Value.oneCell']) ?_); intro w3 H1 hle3; simp only [px] at H1; (try clear F); clear H; have H := Lib.hid H1; have F := H1.facts; simp only [fxx, ec, facts_tobj, macs] at F; clear H1))
          exact ⟨⟨k + 1, _, hlt, by go_num, H.out⟩, by simp [intOf]; omega⟩
        · obtain rfl : k = y := by omega
          have H := Lib.hid (hS.sub (List.sublist_cons_self _ _) (fun _ h => h))
          (try clear F); have F := H.out.facts; simp only [fxx, ec, facts_tobj, macs] at F
          clear hS
          go_wp2_with (first
            | (show wpList _ _ _ _ _ (World.drewN _ _); refine wl_drewN H.out ?_; intro w4 H1 hle4; (try clear F); clear H; have H := Lib.hid H1; have F := H1.facts; simp only [fxx, ec, facts_tobj, macs] at F; clear H1)
            | (show Code.wp _ _ _ _ (World.drewN _ _); refine cw_drewN H.out ?_; intro w4 H1 hle4; (try clear F); clear H; have H := Lib.hid H1; have F := H1.facts; simp only [fxx, ec, facts_tobj, macs] at F; clear H1)
            | (show wpList _ _ _ _ _ (World.alloc _ _); refine wl_absorb H.out ?_; intro w1 H1 hlt1; (try clear F); clear H; have H := Lib.hid H1; have F := H1.facts; simp only [fxx, ec, facts_tobj, macs] at F; clear H1)
            | (show Code.wp _ _ _ _ (World.alloc _ _); refine cw_absorb H.out ?_; intro w2 H1 hlt2; (try clear F); clear H; have H := Lib.hid H1; have F := H1.facts; simp only [fxx, ec, facts_tobj, macs] at F; clear H1)
            | (show wpList _ _ _ (Oper.mk none (Op.store _ _ _) _ _ _ _ :: _) _ _; (first | refine wl_store H.out 0 rfl rfl rfl (by rfl) (by simp [Act.eval, Value.cells]; rfl) (by kernel_rfl) (by simp) (by simp [Value.oneCell']) ?_ | refine wl_store H.out 1 rfl rfl rfl (by rfl) (by simp [Act.eval, Value.cells]; rfl) (by kernel_rfl) (by simp) (by simp [Value.oneCell']) ?_); intro w3 H1 hle3; simp only [px] at H1; (try clear F); clear H; have H := Lib.hid H1; have F := H1.facts; simp only [fxx, ec, facts_tobj, macs] at F; clear H1)
            | (go_at_call 18; refine (HId.out _ (H.out.has 0 rfl)).mono ?_; rintro e w5 ⟨v6, rfl, hb, ho⟩; obtain ⟨aq, cq, rfl⟩ := own_shape ho; have H1 := H.out.getv hb ho; clear hb ho; (try clear F); clear H; have H := Lib.hid H1; have F := H1.facts; simp only [fxx, ec, facts_tobj, macs] at F; clear H1))
          clear F
          go_loopw [14] (fun i wr => ∃ (k : Nat) (xs : List Value), k ≤ q ∧ i = .int .i64 k ∧ St w (fun _ => False) z [vec 3 1 (.slice aq q cq) q xs, tobj X 1 L A, va B _ _] [rdS rEnt (.slice ad L.length c) L] wr) (fun i _ => q - (intOf i).toNat)
          case atStart => exact ⟨0, _, Nat.zero_le _, rfl, H.out.sub (List.Sublist.refl _) (by intro _ h; simp only [List.mem_cons, List.not_mem_nil, or_false] at h ⊢; first | exact h | (simp [h]; done) | (rcases h with h | h <;> simp [h]; done) | (rcases h with h | h | h <;> simp [h]; done) | (rcases h with h | h | h | h <;> simp [h]; done))⟩
          case round =>
            obtain ⟨k, xs, hk, rfl, hS⟩ := hrel
            clear H
            by_cases hlt : k < q
            · obtain ⟨g, rfl⟩ := own_addr (hS.has 0 rfl) (by omega)
              have hlt' : (k : Int) < q := by omega
              have H := Lib.hid hS
              (try clear F); have F := H.out.facts; simp only [fxx, ec, facts_tobj, macs] at F
              clear hS
              go_wp2_with (first
                | (show wpList _ _ _ (Oper.mk none (Op.store _ _ _) _ _ _ _ :: _) _ _; refine wl_storev H.out 0 rfl rfl rfl (by rfl) (by simp [Act.eval, Value.cells]; rfl) (by kernel_rfl) (by have hq := (H.out.has 0 rfl).1; simp only [List.length_cons, List.length_nil]; omega) (by simp [Value.oneCell']) ?_; intro w3 H1 hle3; simp only [List.set_cons_zero] at H1; (try clear F); clear H; have H := Lib.hid H1; have F := H1.facts; simp only [fxx, ec, facts_tobj, macs] at F; clear H1)
                | (show wpList _ _ _ _ _ (World.drewN _ _); refine wl_drewN H.out ?_; intro w4 H1 hle4; (try clear F); clear H; have H := Lib.hid H1; have F := H1.facts; simp only [fxx, ec, facts_tobj, macs] at F; clear H1)
                | (show Code.wp _ _ _ _ (World.drewN _ _); refine cw_drewN H.out ?_; intro w4 H1 hle4; (try clear F); clear H; have H := Lib.hid H1; have F := H1.facts; simp only [fxx, ec, facts_tobj, macs] at F; clear H1)
                | (show wpList _ _ _ _ _ (World.alloc _ _); refine wl_absorb H.out ?_; intro w1 H1 hlt1; (try clear F); clear H; have H := Lib.hid H1; have F := H1.facts; simp only [fxx, ec, facts_tobj, macs] at F; clear H1)
                | (show Code.wp _ _ _ _ (World.alloc _ _); refine cw_absorb H.out ?_; intro w2 H1 hlt2; (try clear F); clear H; have H := Lib.hid H1; have F := H1.facts; simp only [fxx, ec, facts_tobj, macs] at F; clear H1)
                | (show wpList _ _ _ (Oper.mk none (Op.store _ _ _) _ _ _ _ :: _) _ _; (first | refine wl_store H.out 0 rfl rfl rfl (by rfl) (by simp [Act.eval, Value.cells]; rfl) (by kernel_rfl) (by simp) (by simp [Value.oneCell']) ?_ | refine wl_store H.out 1 rfl rfl rfl (by rfl) (by simp [Act.eval, Value.cells]; rfl) (by kernel_rfl) (by simp) (by simp [Value.oneCell']) ?_); intro w3 H1 hle3; simp only [px] at H1; (try clear F); clear H; have H := Lib.hid H1; have F := H1.facts; simp only [fxx, ec, facts_tobj, macs] at F; clear H1))
              exact ⟨⟨k + 1, _, hlt, by go_num, H.out⟩, by simp [intOf]; omega⟩
            · obtain rfl : k = q := by omega
              have H := Lib.hid (hS.sub (List.sublist_cons_self _ _) (fun _ h => h))
              (try clear F); have F := H.out.facts; simp only [fxx, ec, facts_tobj, macs] at F
              clear hS
              go_wp2_with (first
                | (show wpList _ _ _ _ _ (World.drewN _ _); refine wl_drewN H.out ?_; intro w4 H1 hle4; (try clear F); clear H; have H := Lib.hid H1; have F := H1.facts; simp only [fxx, ec, facts_tobj, macs] at F; clear H1)
                | (show Code.wp _ _ _ _ (World.drewN _ _); refine cw_drewN H.out ?_; intro w4 H1 hle4; (try clear F); clear H; have H := Lib.hid H1; have F := H1.facts; simp only [fxx, ec, facts_tobj, macs] at F; clear H1)
                | (show wpList _ _ _ _ _ (World.alloc _ _); refine wl_absorb H.out ?_; intro w1 H1 hlt1; (try clear F); clear H; have H := Lib.hid H1; have F := H1.facts; simp only [fxx, ec, facts_tobj, macs] at F; clear H1)
                | (show Code.wp _ _ _ _ (World.alloc _ _); refine cw_absorb H.out ?_; intro w2 H1 hlt2; (try clear F); clear H; have H := Lib.hid H1; have F := H1.facts; simp only [fxx, ec, facts_tobj, macs] at F; clear H1)
                | (show wpList _ _ _ (Oper.mk none (Op.store _ _ _) _ _ _ _ :: _) _ _; (first | refine wl_store H.out 0 rfl rfl rfl (by rfl) (by simp [Act.eval, Value.cells]; rfl) (by kernel_rfl) (by simp) (by simp [Value.oneCell']) ?_ | refine wl_store H.out 1 rfl rfl rfl (by rfl) (by simp [Act.eval, Value.cells]; rfl) (by kernel_rfl) (by simp) (by simp [Value.oneCell']) ?_); intro w3 H1 hle3; simp only [px] at H1; (try clear F); clear H; have H := Lib.hid H1; have F := H1.facts; simp only [fxx, ec, facts_tobj, macs] at F; clear H1)
                | (go_at_call 20; refine (HSm'.out _ _ _ _ (va_rng (H.out.has 1 rfl)) (H.out.has 0 rfl) (SlZ.stay (H.out.rd 0 rfl) (stay_wider fun _ _ _ => trivial))).mono ?_; rintro e w5 ⟨rfl, hb⟩; have H1 := H.out.same hb; clear hb; (try clear F); clear H; have H := Lib.hid H1; have F := H1.facts; simp only [fxx, ec, facts_tobj, macs] at F; clear H1))
              go_ret
              exact ⟨rfl, H.out.below'⟩
end Go.Proofs.Ytkifagflnpkkaaa
