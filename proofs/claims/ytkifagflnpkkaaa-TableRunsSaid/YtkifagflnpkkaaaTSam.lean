/- Both.same: a table and the document's of the same entries stand alike. No condition. -/
import Derived.Test.YtkifagflnpkkaaaRefE
namespace Go.Proofs.Ytkifagflnpkkaaa
set_option linter.unusedSimpArgs false
set_option linter.unusedVariables false
-- FSX: ec, factsT_rdT
open Go.RowKit
set_option maxRecDepth 10000

theorem own_same {w w' : World} {base : Nat} {e : TypeId} {size : Nat} {v : Value} {n : Nat} {xs : List Value} (h : w.ownsRow base e size v n xs) (hs : ∀ g, v.ownBlock = some g → w'.heap[g]? = w.heap[g]?) : w'.ownsRow base e size v n xs := by
  refine ⟨h.1, ?_⟩
  rcases h.2 with ⟨rfl, h0⟩ | ⟨g, cap, cur, rfl, h1, h2, h3⟩
  · exact .inl ⟨rfl, h0⟩
  · exact .inr ⟨g, cap, cur, rfl, h1, (hs g rfl).trans h2, h3⟩
theorem tab_same {w w' : World} {T n : Nat} {L : List EntL} {A : Nat → Prop} (h : Tab w T n L A) (hs : ∀ b, A b → w'.heap[b]? = w.heap[b]?) : Tab w' T n L A := by
  obtain ⟨S, M, V, ⟨h1, ⟨cs, h2, h2s⟩, ⟨f, ⟨es, clock, q1, q2⟩, h3s⟩, ⟨h4, h4a⟩, h5⟩, hT, hS, hM, hV, hA, hn⟩ := h
  refine ⟨S, M, V, ⟨(hs T hT).trans h1, ⟨cs, (hs S hS).trans h2, h2s⟩, ⟨f, ⟨es, clock, (hs M hM).trans q1, q2⟩, h3s⟩, ⟨fun t => ?_, h4a⟩, h5⟩, hT, hS, hM, hV, fun b hb => ?_, hn⟩
  · have := h4 t
    cases t <;> exact own_same this (fun g hg => hs g (hV _ g hg))
  · exact (Array.getElem?_eq_some_iff.1 ((hs b hb).trans (Array.getElem?_eq_getElem (hA b hb)))).1
theorem tab_lt {w : World} {T n : Nat} {L : List EntL} {A : Nat → Prop} (h : Tab w T n L A) {b : Nat} (hb : A b) : b < w.heap.size := by
  obtain ⟨S, M, V, -, -, -, -, -, hA, -⟩ := h
  exact hA b hb
/-- a table that is read -/
def rdT (X n : Nat) (L : List EntL) (A : Nat → Prop) : Rd where
  p z w := Tab w X n L A ∧ ∀ b, A b → z b
  stay h hs := ⟨tab_same h.1 fun b hb => (hs b (h.2 b hb) (tab_lt h.1 hb)).1, fun b hb => (hs b (h.2 b hb) (tab_lt h.1 hb)).2⟩
  fact _ := True
  tell _ := trivial
theorem factsT_rdT {X n : Nat} {L : List EntL} {A : Nat → Prop} {w : World} {l : List Rd} : FactsT (rdT X n L A :: l) w = FactsT l w := by show (True ∧ _) = _; simp

set_option maxHeartbeats 8000000 in
theorem same_any (z : Nat → Prop) (B n X : Nat) (L : List EntL) (A : Nat → Prop) (ad : Option Addr) (c : Nat) (m : UInt8) (w : World) (hzB : z B) (hB : rng w B 0 3 = some [.pointer (some ⟨X, 0, none⟩), .int .i64 n, .slice ad L.length c]) (hT : Tab w X n L A) (hA : ∀ b, A b → z b) (hv : SlZ rEnt z w (.slice ad L.length c) L) (hL : L.length ≤ 100000) :
    Calls Try.prog 20 #[.pointer (some ⟨B, 0, none⟩), bv m] w fun e w' => e = .returned (.bool true) ∧ Below w.heap.size w w' := by
  obtain ⟨hG, hn1, hn2⟩ := tab_good hT
  have HR : Hid (∀ e ∈ L, 1 ≤ e.id ∧ e.id ≤ 65534) := fun e he => ⟨(hG.range e he).1, (hG.range e he).2.1⟩
  have H := Lib.hid (St.start w z [rdT X n L A, rdE B 0 [.pointer (some ⟨X, 0, none⟩), .int .i64 n, .slice ad L.length c], rdE B 1 [.int .i64 n, .slice ad L.length c], rdS rEnt (.slice ad L.length c) L] (by
    simp only [List.mem_cons, List.not_mem_nil, or_false, forall_eq_or_imp, forall_eq]; exact ⟨⟨hT, hA⟩, ⟨hzB, hB⟩, ⟨hzB, rng_sub hB 1 2 (by decide)⟩, hv⟩))
  have hI : (idsOf (mac6 m) L).length ≤ 65534 := idsOf_len hG _
  have hI' : (idsOf (mac6 m) L).length ≤ 100000 := by omega
  have hSh : ∀ k, (ofShard n k L).length ≤ 100000 := fun k => Nat.le_trans (List.length_filter_le _ _) hL
  have HSh := Lib.hid hSh
  clear hB hT hA hv hG hSh
  unfold bv
  go_enter Try.func20, Try.ntmps20
  go_wp2_with (first
    | (show wpList _ _ _ _ _ (World.drewN _ _); refine wl_drewN H.out ?_; intro w4 H1 hle4; (try clear F); clear H; have H := Lib.hid H1; have F := H1.facts; simp only [fxx, ec, factsT_rdT] at F; clear H1)
    | (show Code.wp _ _ _ _ (World.drewN _ _); refine cw_drewN H.out ?_; intro w4 H1 hle4; (try clear F); clear H; have H := Lib.hid H1; have F := H1.facts; simp only [fxx, ec, factsT_rdT] at F; clear H1)
    | (show wpList _ _ _ _ _ (World.alloc _ _); refine wl_absorb H.out ?_; intro w1 H1 hlt1; (try clear F); clear H; have H := Lib.hid H1; have F := H1.facts; simp only [fxx, ec, factsT_rdT] at F; clear H1)
    | (show Code.wp _ _ _ _ (World.alloc _ _); refine cw_absorb H.out ?_; intro w2 H1 hlt2; (try clear F); clear H; have H := Lib.hid H1; have F := H1.facts; simp only [fxx, ec, factsT_rdT] at F; clear H1)
    | (show wpList _ _ _ (Oper.mk none (Op.store _ _ _) _ _ _ _ :: _) _ _; (first | refine wl_store H.out 0 rfl rfl rfl (by rfl) (by simp [Act.eval, Value.cells]; rfl) (by kernel_rfl) (by simp) (by simp [Value.oneCell']) ?_ | refine wl_store H.out 1 rfl rfl rfl (by rfl) (by simp [Act.eval, Value.cells]; rfl) (by kernel_rfl) (by simp) (by simp [Value.oneCell']) ?_); intro w3 H1 hle3; simp only [px] at H1; (try clear F); clear H; have H := Lib.hid H1; have F := H1.facts; simp only [fxx, ec, factsT_rdT] at F; clear H1))
  (try clear F); have F := H.out.facts; simp only [fxx, ec, factsT_rdT] at F
  refine rz_start H.out (List.Sublist.refl _) (by kernel_rfl) ?_; intro w4 H1 hle4; (try clear F); clear H; have H := Lib.hid H1; have F := H1.facts; simp only [fxx, ec, factsT_rdT] at F; clear H1
  refine rz_reads [0, 1, 2, 3, 5, 6, 7, 8, 9, 10] (by kernel_rfl) (H.out.sub (by first | exact List.Sublist.refl _ | exact List.sublist_cons_self _ _ | exact (List.sublist_cons_self _ _).trans (List.sublist_cons_self _ _) | exact ((List.sublist_cons_self _ _).trans (List.sublist_cons_self _ _)).trans (List.sublist_cons_self _ _)) (by intro _ h; first | exact h | exact .tail _ h | exact .tail _ (.tail _ h) | exact .tail _ (.tail _ (.tail _ h)) | exact .tail _ (.tail _ (.tail _ (.tail _ h))) | (simp only [List.mem_cons, List.not_mem_nil, or_false] at h ⊢; first | (simp [h]; done) | (rcases h with h | h <;> simp [h]; done) | (rcases h with h | h | h <;> simp [h]; done) | (rcases h with h | h | h | h <;> simp [h]; done)))) (fun d _ _ _ _ h => by cases d <;> exact h) ?_; (repeat first | (refine rd_skip rfl (by rfl) ?_; simp only [pz]) | (refine rd_step (v := ?_) rfl (by rfl) ?_ ?_; rotate_left 1; (focus intro W hW; have F := St.facts hW; simp only [fxx, ec, factsT_rdT] at F; go_simp; all_goals with_reducible rfl); simp only [pz])); refine rd_end ?_; show wpAnyH _ _ _ _ _ _ _ _ _
  refine rz_one 4 (by kernel_rfl) ?_
  refine ss_call rfl (by rfl) (f := 15) (args := ?_) ?_ ?_; (rotate_left 1; (focus go_simp; all_goals with_reducible rfl))
  refine (len_any X n L A _ (by first | exact (H.out.rd 0 rfl).1 | exact (H.out.rd 1 rfl).1 | exact (H.out.rd 2 rfl).1 | exact (H.out.rd 3 rfl).1 | exact (H.out.rd 4 rfl).1)).mono ?_; rintro e w5 ⟨rfl, hb⟩; have H1 := H.out.same hb; clear hb
  refine ⟨_, rfl, H1.sub (by first | exact List.Sublist.refl _ | exact List.sublist_cons_self _ _ | exact (List.sublist_cons_self _ _).trans (List.sublist_cons_self _ _) | exact ((List.sublist_cons_self _ _).trans (List.sublist_cons_self _ _)).trans (List.sublist_cons_self _ _)) (by intro _ h; first | exact h | exact .tail _ h | exact .tail _ (.tail _ h) | exact .tail _ (.tail _ (.tail _ h)) | exact .tail _ (.tail _ (.tail _ (.tail _ h))) | (simp only [List.mem_cons, List.not_mem_nil, or_false] at h ⊢; first | (simp [h]; done) | (rcases h with h | h <;> simp [h]; done) | (rcases h with h | h | h <;> simp [h]; done) | (rcases h with h | h | h | h <;> simp [h]; done))), ?_⟩
  (try clear F); clear H; have H := Lib.hid H1; have F := H1.facts; simp only [fxx, ec, factsT_rdT] at F; clear H1
  simp only [pz]
  refine rz_reads [11, 12, 13, 14, 15, 16, 18, 19, 20, 21, 22] (by kernel_rfl) (H.out.sub (by first | exact List.Sublist.refl _ | exact List.sublist_cons_self _ _ | exact (List.sublist_cons_self _ _).trans (List.sublist_cons_self _ _) | exact ((List.sublist_cons_self _ _).trans (List.sublist_cons_self _ _)).trans (List.sublist_cons_self _ _)) (by intro _ h; first | exact h | exact .tail _ h | exact .tail _ (.tail _ h) | exact .tail _ (.tail _ (.tail _ h)) | exact .tail _ (.tail _ (.tail _ (.tail _ h))) | (simp only [List.mem_cons, List.not_mem_nil, or_false] at h ⊢; first | (simp [h]; done) | (rcases h with h | h <;> simp [h]; done) | (rcases h with h | h | h <;> simp [h]; done) | (rcases h with h | h | h | h <;> simp [h]; done)))) (fun d _ _ _ _ h => by cases d <;> exact h) ?_; (repeat first | (refine rd_skip rfl (by rfl) ?_; simp only [pz]) | (refine rd_step (v := ?_) rfl (by rfl) ?_ ?_; rotate_left 1; (focus intro W hW; have F := St.facts hW; simp only [fxx, ec, factsT_rdT] at F; go_simp; all_goals with_reducible rfl); simp only [pz])); refine rd_end ?_; show wpAnyH _ _ _ _ _ _ _ _ _
  refine rz_one 17 (by kernel_rfl) ?_
  refine ss_call rfl (by rfl) (f := 27) (args := ?_) ?_ ?_; (rotate_left 1; (focus go_simp; all_goals with_reducible rfl))
  have hT := (by first | exact (H.out.rd 0 rfl).1 | exact (H.out.rd 1 rfl).1 | exact (H.out.rd 2 rfl).1 | exact (H.out.rd 3 rfl).1 | exact (H.out.rd 4 rfl).1); obtain ⟨S, hS, -⟩ := tab_len hT; refine (shards_of X S n _ (tab_none hT) hS).mono ?_; rintro e w5 ⟨rfl, rfl⟩; clear hT hS; have H1 := H.out
  refine ⟨_, rfl, H1.sub (by first | exact List.Sublist.refl _ | exact List.sublist_cons_self _ _ | exact (List.sublist_cons_self _ _).trans (List.sublist_cons_self _ _) | exact ((List.sublist_cons_self _ _).trans (List.sublist_cons_self _ _)).trans (List.sublist_cons_self _ _)) (by intro _ h; first | exact h | exact .tail _ h | exact .tail _ (.tail _ h) | exact .tail _ (.tail _ (.tail _ h)) | exact .tail _ (.tail _ (.tail _ (.tail _ h))) | (simp only [List.mem_cons, List.not_mem_nil, or_false] at h ⊢; first | (simp [h]; done) | (rcases h with h | h <;> simp [h]; done) | (rcases h with h | h | h <;> simp [h]; done) | (rcases h with h | h | h | h <;> simp [h]; done))), ?_⟩
  (try clear F); clear H; have H := Lib.hid H1; have F := H1.facts; simp only [fxx, ec, factsT_rdT] at F; clear H1
  simp only [pz]
  refine rz_reads [23, 24, 25, 26, 27, 28, 29, 30, 33, 34, 35, 36, 37] (by kernel_rfl) (H.out.sub (by first | exact List.Sublist.refl _ | exact List.sublist_cons_self _ _ | exact (List.sublist_cons_self _ _).trans (List.sublist_cons_self _ _) | exact ((List.sublist_cons_self _ _).trans (List.sublist_cons_self _ _)).trans (List.sublist_cons_self _ _)) (by intro _ h; first | exact h | exact .tail _ h | exact .tail _ (.tail _ h) | exact .tail _ (.tail _ (.tail _ h)) | exact .tail _ (.tail _ (.tail _ (.tail _ h))) | (simp only [List.mem_cons, List.not_mem_nil, or_false] at h ⊢; first | (simp [h]; done) | (rcases h with h | h <;> simp [h]; done) | (rcases h with h | h | h <;> simp [h]; done) | (rcases h with h | h | h | h <;> simp [h]; done)))) (fun d _ _ _ _ h => by cases d <;> exact h) ?_; (repeat first | (refine rd_skip rfl (by rfl) ?_; simp only [pz]) | (refine rd_step (v := ?_) rfl (by rfl) ?_ ?_; rotate_left 1; (focus intro W hW; have F := St.facts hW; simp only [fxx, ec, factsT_rdT] at F; go_simp; all_goals with_reducible rfl); simp only [pz])); refine rd_end ?_; show wpAnyH _ _ _ _ _ _ _ _ _
  refine rz_one 31 (by kernel_rfl) ?_
  refine ss_call rfl (by rfl) (f := 19) (args := ?_) ?_ ?_; (rotate_left 1; (focus go_simp; all_goals with_reducible rfl))
  refine (mac_any m _).mono ?_; rintro e w5 ⟨rfl, hb⟩; have H1 := H.out.same hb; clear hb
  refine ⟨_, rfl, H1.sub (by first | exact List.Sublist.refl _ | exact List.sublist_cons_self _ _ | exact (List.sublist_cons_self _ _).trans (List.sublist_cons_self _ _) | exact ((List.sublist_cons_self _ _).trans (List.sublist_cons_self _ _)).trans (List.sublist_cons_self _ _)) (by intro _ h; first | exact h | exact .tail _ h | exact .tail _ (.tail _ h) | exact .tail _ (.tail _ (.tail _ h)) | exact .tail _ (.tail _ (.tail _ (.tail _ h))) | (simp only [List.mem_cons, List.not_mem_nil, or_false] at h ⊢; first | (simp [h]; done) | (rcases h with h | h <;> simp [h]; done) | (rcases h with h | h | h <;> simp [h]; done) | (rcases h with h | h | h | h <;> simp [h]; done))), ?_⟩
  (try clear F); clear H; have H := Lib.hid H1; have F := H1.facts; simp only [fxx, ec, factsT_rdT] at F; clear H1
  simp only [pz]
  refine rz_one 32 (by kernel_rfl) ?_
  refine ss_call rfl (by rfl) (f := 14) (args := ?_) ?_ ?_; (rotate_left 1; (focus go_simp; all_goals with_reducible rfl))
  refine (of_ids X n L A (mac6 m) _ (by first | exact (H.out.rd 0 rfl).1 | exact (H.out.rd 1 rfl).1 | exact (H.out.rd 2 rfl).1 | exact (H.out.rd 3 rfl).1 | exact (H.out.rd 4 rfl).1)).mono ?_; rintro e w5 ⟨y, rfl, hb, ho⟩; obtain ⟨ay, cy, rfl⟩ := own_shape ho; have H1 := H.out.call hb (rdS (rInt .i64) _ (idsOf (mac6 m) L)) (own_slz ho (fun _ => rfl) (by decide) rfl); clear hb ho
  refine ⟨_, rfl, H1.sub (by first | exact List.Sublist.refl _ | exact List.sublist_cons_self _ _ | exact (List.sublist_cons_self _ _).trans (List.sublist_cons_self _ _) | exact ((List.sublist_cons_self _ _).trans (List.sublist_cons_self _ _)).trans (List.sublist_cons_self _ _)) (by intro _ h; first | exact h | exact .tail _ h | exact .tail _ (.tail _ h) | exact .tail _ (.tail _ (.tail _ h)) | exact .tail _ (.tail _ (.tail _ (.tail _ h))) | (simp only [List.mem_cons, List.not_mem_nil, or_false] at h ⊢; first | (simp [h]; done) | (rcases h with h | h <;> simp [h]; done) | (rcases h with h | h | h <;> simp [h]; done) | (rcases h with h | h | h | h <;> simp [h]; done))), ?_⟩
  (try clear F); clear H; have H := Lib.hid H1; have F := H1.facts; simp only [fxx, ec, factsT_rdT] at F; clear H1
  simp only [pz]
  refine rz_one 38 (by kernel_rfl) ?_
  refine ss_call rfl (by rfl) (f := 19) (args := ?_) ?_ ?_; (rotate_left 1; (focus go_simp; all_goals with_reducible rfl))
  refine (mac_any m _).mono ?_; rintro e w5 ⟨rfl, hb⟩; have H1 := H.out.same hb; clear hb
  refine ⟨_, rfl, H1.sub (by first | exact List.Sublist.refl _ | exact List.sublist_cons_self _ _ | exact (List.sublist_cons_self _ _).trans (List.sublist_cons_self _ _) | exact ((List.sublist_cons_self _ _).trans (List.sublist_cons_self _ _)).trans (List.sublist_cons_self _ _)) (by intro _ h; first | exact h | exact .tail _ h | exact .tail _ (.tail _ h) | exact .tail _ (.tail _ (.tail _ h)) | exact .tail _ (.tail _ (.tail _ (.tail _ h))) | (simp only [List.mem_cons, List.not_mem_nil, or_false] at h ⊢; first | (simp [h]; done) | (rcases h with h | h <;> simp [h]; done) | (rcases h with h | h | h <;> simp [h]; done) | (rcases h with h | h | h | h <;> simp [h]; done))), ?_⟩
  (try clear F); clear H; have H := Lib.hid H1; have F := H1.facts; simp only [fxx, ec, factsT_rdT] at F; clear H1
  simp only [pz]
  refine rz_one 39 (by kernel_rfl) ?_
  refine ss_call rfl (by rfl) (f := 37) (args := ?_) ?_ ?_; (rotate_left 1; (focus go_simp; all_goals with_reducible rfl))
  refine (rof_any _ n _ L (mac6 m) _ (by first | exact H.out.rd 0 rfl | exact H.out.rd 1 rfl | exact H.out.rd 2 rfl | exact H.out.rd 3 rfl | exact H.out.rd 4 rfl) hL).mono ?_; rintro e w5 ⟨v5, rfl, hb, hv5⟩; obtain ⟨az, cz, rfl, -, -⟩ := hv5.shape; have H1 := H.out.call hb (rdS (rInt .i64) _ (idsOf (mac6 m) L)) hv5; clear hb hv5
  refine ⟨_, rfl, H1.sub (by first | exact List.Sublist.refl _ | exact List.sublist_cons_self _ _ | exact (List.sublist_cons_self _ _).trans (List.sublist_cons_self _ _) | exact ((List.sublist_cons_self _ _).trans (List.sublist_cons_self _ _)).trans (List.sublist_cons_self _ _)) (by intro _ h; first | exact h | exact .tail _ h | exact .tail _ (.tail _ h) | exact .tail _ (.tail _ (.tail _ h)) | exact .tail _ (.tail _ (.tail _ (.tail _ h))) | (simp only [List.mem_cons, List.not_mem_nil, or_false] at h ⊢; first | (simp [h]; done) | (rcases h with h | h <;> simp [h]; done) | (rcases h with h | h | h <;> simp [h]; done) | (rcases h with h | h | h | h <;> simp [h]; done))), ?_⟩
  (try clear F); clear H; have H := Lib.hid H1; have F := H1.facts; simp only [fxx, ec, factsT_rdT] at F; clear H1
  simp only [pz]
  refine rz_one 40 (by kernel_rfl) ?_
  refine ss_call rfl (by rfl) (f := 17) (args := ?_) ?_ ?_; (rotate_left 1; (focus go_simp; all_goals with_reducible rfl))
  refine (rsameints_yes _ _ _ (idsOf (mac6 m) L) _ (H.out.rd 1 rfl) (H.out.rd 0 rfl) hI').mono ?_; rintro e w6 ⟨rfl, hb⟩; have H1 := H.out.same hb; clear hb
  refine ⟨_, rfl, H1.sub (by first | exact List.Sublist.refl _ | exact List.sublist_cons_self _ _ | exact (List.sublist_cons_self _ _).trans (List.sublist_cons_self _ _) | exact ((List.sublist_cons_self _ _).trans (List.sublist_cons_self _ _)).trans (List.sublist_cons_self _ _)) (by intro _ h; first | exact h | exact .tail _ h | exact .tail _ (.tail _ h) | exact .tail _ (.tail _ (.tail _ h)) | exact .tail _ (.tail _ (.tail _ (.tail _ h))) | (simp only [List.mem_cons, List.not_mem_nil, or_false] at h ⊢; first | (simp [h]; done) | (rcases h with h | h <;> simp [h]; done) | (rcases h with h | h | h <;> simp [h]; done) | (rcases h with h | h | h | h <;> simp [h]; done))), ?_⟩
  (try clear F); clear H; have H := Lib.hid H1; have F := H1.facts; simp only [fxx, ec, factsT_rdT] at F; clear H1
  simp only [pz]
  refine rz_reads [41, 42] (by kernel_rfl) (H.out.sub (by first | exact List.Sublist.refl _ | exact List.sublist_cons_self _ _ | exact (List.sublist_cons_self _ _).trans (List.sublist_cons_self _ _) | exact ((List.sublist_cons_self _ _).trans (List.sublist_cons_self _ _)).trans (List.sublist_cons_self _ _)) (by intro _ h; first | exact h | exact .tail _ h | exact .tail _ (.tail _ h) | exact .tail _ (.tail _ (.tail _ h)) | exact .tail _ (.tail _ (.tail _ (.tail _ h))) | (simp only [List.mem_cons, List.not_mem_nil, or_false] at h ⊢; first | (simp [h]; done) | (rcases h with h | h <;> simp [h]; done) | (rcases h with h | h | h <;> simp [h]; done) | (rcases h with h | h | h | h <;> simp [h]; done)))) (fun d _ _ _ _ h => by cases d <;> exact h) ?_; (repeat first | (refine rd_skip rfl (by rfl) ?_; simp only [pz]) | (refine rd_step (v := ?_) rfl (by rfl) ?_ ?_; rotate_left 1; (focus intro W hW; have F := St.facts hW; simp only [fxx, ec, factsT_rdT] at F; go_simp; all_goals with_reducible rfl); simp only [pz])); refine rd_end ?_; show wpAnyH _ _ _ _ _ _ _ _ _
  refine rz_done (by kernel_rfl) ?_
  go_wp2_with (first
    | (show wpList _ _ _ _ _ (World.drewN _ _); refine wl_drewN H.out ?_; intro w4 H1 hle4; (try clear F); clear H; have H := Lib.hid H1; have F := H1.facts; simp only [fxx, ec, factsT_rdT] at F; clear H1)
    | (show Code.wp _ _ _ _ (World.drewN _ _); refine cw_drewN H.out ?_; intro w4 H1 hle4; (try clear F); clear H; have H := Lib.hid H1; have F := H1.facts; simp only [fxx, ec, factsT_rdT] at F; clear H1)
    | (show wpList _ _ _ _ _ (World.alloc _ _); refine wl_absorb H.out ?_; intro w1 H1 hlt1; (try clear F); clear H; have H := Lib.hid H1; have F := H1.facts; simp only [fxx, ec, factsT_rdT] at F; clear H1)
    | (show Code.wp _ _ _ _ (World.alloc _ _); refine cw_absorb H.out ?_; intro w2 H1 hlt2; (try clear F); clear H; have H := Lib.hid H1; have F := H1.facts; simp only [fxx, ec, factsT_rdT] at F; clear H1)
    | (show wpList _ _ _ (Oper.mk none (Op.store _ _ _) _ _ _ _ :: _) _ _; (first | refine wl_store H.out 0 rfl rfl rfl (by rfl) (by simp [Act.eval, Value.cells]; rfl) (by kernel_rfl) (by simp) (by simp [Value.oneCell']) ?_ | refine wl_store H.out 1 rfl rfl rfl (by rfl) (by simp [Act.eval, Value.cells]; rfl) (by kernel_rfl) (by simp) (by simp [Value.oneCell']) ?_); intro w3 H1 hle3; simp only [px] at H1; (try clear F); clear H; have H := Lib.hid H1; have F := H1.facts; simp only [fxx, ec, factsT_rdT] at F; clear H1))
  clear F
  go_loopw [5] (fun i wr => ∃ k : Nat, k ≤ n ∧ i = .int .i64 k ∧ St w (fun _ => False) z [] [rdT X n L A, rdE B 0 [.pointer (some ⟨X, 0, none⟩), .int .i64 n, .slice ad L.length c], rdE B 1 [.int .i64 n, .slice ad L.length c], rdS rEnt (.slice ad L.length c) L] wr) (fun i _ => n - (intOf i).toNat)
  case atStart => exact ⟨0, Nat.zero_le _, rfl, H.out.sub (List.Sublist.refl _) (by simp)⟩
  case round =>
    obtain ⟨k, hk, rfl, hS⟩ := hrel
    clear H
    have H := Lib.hid hS
    (try clear F); have F := H.out.facts; simp only [fxx, ec, factsT_rdT] at F
    clear hS
    by_cases hlt : k < n
    · have hlt' : (k : Int) < n := by omega
      go_wp2_with (first
        | (show wpList _ _ _ _ _ (World.drewN _ _); refine wl_drewN H.out ?_; intro w4 H1 hle4; (try clear F); clear H; have H := Lib.hid H1; have F := H1.facts; simp only [fxx, ec, factsT_rdT] at F; clear H1)
        | (show Code.wp _ _ _ _ (World.drewN _ _); refine cw_drewN H.out ?_; intro w4 H1 hle4; (try clear F); clear H; have H := Lib.hid H1; have F := H1.facts; simp only [fxx, ec, factsT_rdT] at F; clear H1)
        | (show wpList _ _ _ _ _ (World.alloc _ _); refine wl_absorb H.out ?_; intro w1 H1 hlt1; (try clear F); clear H; have H := Lib.hid H1; have F := H1.facts; simp only [fxx, ec, factsT_rdT] at F; clear H1)
        | (show Code.wp _ _ _ _ (World.alloc _ _); refine cw_absorb H.out ?_; intro w2 H1 hlt2; (try clear F); clear H; have H := Lib.hid H1; have F := H1.facts; simp only [fxx, ec, factsT_rdT] at F; clear H1)
        | (show wpList _ _ _ (Oper.mk none (Op.store _ _ _) _ _ _ _ :: _) _ _; (first | refine wl_store H.out 0 rfl rfl rfl (by rfl) (by simp [Act.eval, Value.cells]; rfl) (by kernel_rfl) (by simp) (by simp [Value.oneCell']) ?_ | refine wl_store H.out 1 rfl rfl rfl (by rfl) (by simp [Act.eval, Value.cells]; rfl) (by kernel_rfl) (by simp) (by simp [Value.oneCell']) ?_); intro w3 H1 hle3; simp only [px] at H1; (try clear F); clear H; have H := Lib.hid H1; have F := H1.facts; simp only [fxx, ec, factsT_rdT] at F; clear H1)
        | (go_at_call 11; refine (list_any X n L A k hlt _ (H.out.rd 0 rfl).1).mono ?_; rintro e w5 ⟨x, rfl, hb, ho⟩; obtain ⟨ax, cx, rfl⟩ := own_shape ho; have H1 := H.out.call hb (rdS rEnt _ (ofShard n k L)) (own_slz ho ec_len (by decide) rfl); clear hb ho; (try clear F); clear H; have H := Lib.hid H1; have F := H1.facts; simp only [fxx, ec, factsT_rdT] at F; clear H1)
        | (go_at_call 38; refine (rlist_any _ n _ L k hlt hn2 _ (H.out.rd 4 rfl) hL HR.out).mono ?_; rintro e w5 ⟨v', rfl, hb, hv'⟩; obtain ⟨ay, cy, rfl, -, -⟩ := hv'.shape; have H1 := H.out.call hb (rdS rEnt _ (ofShard n k L)) hv'; clear hb hv'; (try clear F); clear H; have H := Lib.hid H1; have F := H1.facts; simp only [fxx, ec, factsT_rdT] at F; clear H1)
        | (go_at_call 16; refine (rsame_yes _ _ _ (ofShard n k L) _ (H.out.rd 1 rfl) (H.out.rd 0 rfl) (HSh.out k)).mono ?_; rintro e w5 ⟨rfl, hb⟩; have H1 := H.out.same hb; clear hb; (try clear F); clear H; have H := Lib.hid H1; have F := H1.facts; simp only [fxx, ec, factsT_rdT] at F; clear H1))
      exact ⟨⟨k + 1, hlt, by go_num, H.out.sub (List.Sublist.refl _) (by intro _ h; simp only [List.mem_cons, List.not_mem_nil, or_false] at h ⊢; first | exact h | (simp [h]; done) | (rcases h with h | h <;> simp [h]; done) | (rcases h with h | h | h <;> simp [h]; done) | (rcases h with h | h | h | h <;> simp [h]; done))⟩, by simp [intOf]; omega⟩
    · obtain rfl : k = n := by omega
      go_wp2_with (first
        | (show wpList _ _ _ _ _ (World.drewN _ _); refine wl_drewN H.out ?_; intro w4 H1 hle4; (try clear F); clear H; have H := Lib.hid H1; have F := H1.facts; simp only [fxx, ec, factsT_rdT] at F; clear H1)
        | (show Code.wp _ _ _ _ (World.drewN _ _); refine cw_drewN H.out ?_; intro w4 H1 hle4; (try clear F); clear H; have H := Lib.hid H1; have F := H1.facts; simp only [fxx, ec, factsT_rdT] at F; clear H1)
        | (show wpList _ _ _ _ _ (World.alloc _ _); refine wl_absorb H.out ?_; intro w1 H1 hlt1; (try clear F); clear H; have H := Lib.hid H1; have F := H1.facts; simp only [fxx, ec, factsT_rdT] at F; clear H1)
        | (show Code.wp _ _ _ _ (World.alloc _ _); refine cw_absorb H.out ?_; intro w2 H1 hlt2; (try clear F); clear H; have H := Lib.hid H1; have F := H1.facts; simp only [fxx, ec, factsT_rdT] at F; clear H1)
        | (show wpList _ _ _ (Oper.mk none (Op.store _ _ _) _ _ _ _ :: _) _ _; (first | refine wl_store H.out 0 rfl rfl rfl (by rfl) (by simp [Act.eval, Value.cells]; rfl) (by kernel_rfl) (by simp) (by simp [Value.oneCell']) ?_ | refine wl_store H.out 1 rfl rfl rfl (by rfl) (by simp [Act.eval, Value.cells]; rfl) (by kernel_rfl) (by simp) (by simp [Value.oneCell']) ?_); intro w3 H1 hle3; simp only [px] at H1; (try clear F); clear H; have H := Lib.hid H1; have F := H1.facts; simp only [fxx, ec, factsT_rdT] at F; clear H1))
      go_ret
      exact ⟨rfl, H.out.below'⟩
end Go.Proofs.Ytkifagflnpkkaaa
