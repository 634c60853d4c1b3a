/- What Fork needs: copied; a row that is laid in; a number that is noted. No condition. -/
import Derived.Test.YtkifagflnpkkaaaTcx
namespace Go.Proofs.Ytkifagflnpkkaaa
set_option linter.unusedSimpArgs false
set_option linter.unusedVariables false
-- FSX: ec, iv, macs
open Go.RowKit
set_option maxRecDepth 10000

theorem sorted_ext : ∀ {l m : List EntL}, l.Pairwise (fun a b => a.id < b.id) → m.Pairwise (fun a b => a.id < b.id) → (∀ x, x ∈ l ↔ x ∈ m) → l = m
  | [], [], _, _, _ => rfl
  | [], y :: m, _, _, h => absurd ((h y).2 List.mem_cons_self) (by simp)
  | x :: l, [], _, _, h => absurd ((h x).1 List.mem_cons_self) (by simp)
  | x :: l, y :: m, hl, hm, h => by
    rw [List.pairwise_cons] at hl hm
    have hxy : x = y := by
      rcases List.mem_cons.1 ((h x).1 List.mem_cons_self) with h1 | h1
      · exact h1
      · rcases List.mem_cons.1 ((h y).2 List.mem_cons_self) with h2 | h2
        · exact h2.symm
        · have := hl.1 y h2; have := hm.1 x h1; omega
    subst hxy
    congr 1
    refine sorted_ext hl.2 hm.2 fun z => ⟨fun hz => ?_, fun hz => ?_⟩
    · rcases List.mem_cons.1 ((h z).1 (List.mem_cons_of_mem _ hz)) with h1 | h1
      · have := hl.1 z hz; rw [h1] at this; omega
      · exact h1
    · rcases List.mem_cons.1 ((h z).2 (List.mem_cons_of_mem _ hz)) with h1 | h1
      · have := hm.1 z hz; rw [h1] at this; omega
      · exact h1
theorem insE_memF {l : List EntL} {x y : EntL} : y ∈ insE l x ↔ y = x ∨ y ∈ l := by
  unfold insE
  simp only [List.mem_append, List.mem_filter, List.mem_singleton, decide_eq_true_eq, Bool.not_eq_true', decide_eq_false_iff_not]
  constructor
  · rintro ((h | h) | h)
    · exact .inr h.1
    · exact .inl h
    · exact .inr h.1
  · rintro (h | h)
    · exact .inl (.inr h)
    · by_cases hy : y.id < x.id
      · exact .inl (.inl ⟨h, hy⟩)
      · exact .inr ⟨h, hy⟩
theorem insE_sorted {l : List EntL} {x : EntL} (hs : l.Pairwise (fun a b => a.id < b.id)) (hno : ∀ e ∈ l, e.id ≠ x.id) : (insE l x).Pairwise (fun a b => a.id < b.id) := by
  unfold insE
  rw [List.pairwise_append, List.pairwise_append]
  refine ⟨⟨hs.filter _, List.pairwise_singleton _ _, ?_⟩, hs.filter _, ?_⟩
  · intro a ha b hb
    simp only [List.mem_singleton] at hb
    subst hb
    simpa using (List.mem_filter.1 ha).2
  · intro a ha b hb
    have hb' := List.mem_filter.1 hb
    have h1 : ¬ b.id < x.id := by simpa using hb'.2
    have h2 := hno b hb'.1
    simp only [List.mem_append, List.mem_singleton] at ha
    rcases ha with ha | ha
    · have h3 : a.id < x.id := by simpa using (List.mem_filter.1 ha).2
      omega
    · subst ha; omega
theorem insE_filterF {L : List EntL} (hs : L.Pairwise (fun a b => a.id < b.id)) {x : EntL} (hx : x ∈ L) {p q : EntL → Bool} (hp : p x = false) (hq : ∀ e ∈ L, q e = (p e || decide (e = x))) : insE (L.filter p) x = L.filter q := by
  have hno : ∀ e ∈ L.filter p, e.id ≠ x.id := fun e he h => by
    have he' := List.mem_filter.1 he
    rw [one_of hs he'.1 hx h, hp] at he'
    cases he'.2
  refine sorted_ext (insE_sorted (hs.filter _) hno) (hs.filter _) fun y => ?_
  rw [insE_memF, List.mem_filter, List.mem_filter]
  constructor
  · rintro (rfl | ⟨h1, h2⟩)
    · exact ⟨hx, by rw [hq _ hx]; simp⟩
    · exact ⟨h1, by rw [hq _ h1, h2]; rfl⟩
  · rintro ⟨h1, h2⟩
    rw [hq _ h1] at h2
    simp only [Bool.or_eq_true, decide_eq_true_eq] at h2
    rcases h2 with h2 | h2
    · exact .inr ⟨h1, h2⟩
    · exact .inl h2
theorem insE_lenF (l : List EntL) (x : EntL) : (insE l x).length = l.length + 1 := by
  unfold insE
  have : ∀ (l : List EntL), (l.filter fun e => decide (e.id < x.id)).length + (l.filter fun e => !decide (e.id < x.id)).length = l.length := by
    intro l
    induction l with
    | nil => rfl
    | cons e l ih => by_cases h : e.id < x.id <;> simp [h] at ih ⊢ <;> omega
  have := this l
  simp only [List.length_append, List.length_singleton]
  omega

set_option maxHeartbeats 4000000 in
theorem copied_any (kv vv : Value) (ks : List Int) (us : List EntL) (n : Nat) (w : World) (hk : w.ownsRow 0 3 1 kv n (ks.map iv)) (hu : w.ownsRow 0 40 8 vv n (ecs us)) (hn : n ≤ 100000) :
    Calls Try.prog 48 #[.agg #[kv, vv]] w fun e w' => ∃ g1 c1 g2 c2, e = .returned (.agg #[.slice g1 n c1, .slice g2 n c2]) ∧ Below w.heap.size w w' ∧ w'.ownsRow w.heap.size 3 1 (.slice g1 n c1) n (ks.map iv) ∧ w'.ownsRow w.heap.size 40 8 (.slice g2 n c2) n (ecs us) ∧ ∀ b, (Value.slice g1 n c1).ownBlock = some b → (Value.slice g2 n c2).ownBlock ≠ some b := by
  have HK : Hid (∀ W, Below w.heap.size w W → W.ownsRow 0 3 1 kv n (ks.map iv)) := fun W h => own_below hk h
  have HU : Hid (∀ W, Below w.heap.size w W → W.ownsRow 0 40 8 vv n (ecs us)) := fun W h => own_below hu h
  have HC1 : Hid (∀ W, Below w.heap.size w W → Calls Try.prog 35 #[kv] W fun e w' => ∃ a c, e = .returned (.slice a n c) ∧ Below W.heap.size W w' ∧ w'.ownsRow W.heap.size 3 1 (.slice a n c) n (ks.map iv)) := fun W h => (clone_int kv n _ W (HK.out W h) (iv_one ks) (by omega)).mono fun e w' ⟨v, h1, h2, h3⟩ => by obtain ⟨a, c, rfl⟩ := own_shape h3; exact ⟨a, c, h1, h2, h3⟩
  have HC2 : Hid (∀ W, Below w.heap.size w W → Calls Try.prog 31 #[vv] W fun e w' => ∃ a c, e = .returned (.slice a n c) ∧ Below W.heap.size W w' ∧ w'.ownsRow W.heap.size 40 8 (.slice a n c) n (ecs us)) := fun W h => (clone_ent vv n _ W (HU.out W h) (ecs_one us) (by omega)).mono fun e w' ⟨v, h1, h2, h3⟩ => by obtain ⟨a, c, rfl⟩ := own_shape h3; exact ⟨a, c, h1, h2, h3⟩
  have h1k := own_one hk
  have h1u := own_one hu
  obtain ⟨ak, ck, rfl⟩ := own_shape hk
  obtain ⟨au, cu, rfl⟩ := own_shape hu
  clear hk hu HK HU
  have H := Lib.hid (St.start w (fun _ => True) [] (by simp))
  go_enter Try.func48, Try.ntmps48
  go_wp2_with (first
    | (show wpList _ _ _ _ _ (World.drewN _ _); refine wl_drewN H.out ?_; intro w4 H1 hle4; (try clear F); clear H; have H := Lib.hid H1; have F := H1.facts; simp only [fxx, ec, iv, macs] at F; clear H1)
    | (show Code.wp _ _ _ _ (World.drewN _ _); refine cw_drewN H.out ?_; intro w4 H1 hle4; (try clear F); clear H; have H := Lib.hid H1; have F := H1.facts; simp only [fxx, ec, iv, macs] at F; clear H1)
    | (show wpList _ _ _ _ _ (World.alloc _ _); refine wl_absorb H.out ?_; intro w1 H1 hlt1; (try clear F); clear H; have H := Lib.hid H1; have F := H1.facts; simp only [fxx, ec, iv, macs] at F; clear H1)
    | (show Code.wp _ _ _ _ (World.alloc _ _); refine cw_absorb H.out ?_; intro w2 H1 hlt2; (try clear F); clear H; have H := Lib.hid H1; have F := H1.facts; simp only [fxx, ec, iv, macs] at F; clear H1)
    | (show wpList _ _ _ (Oper.mk none (Op.store _ _ _) _ _ _ _ :: _) _ _; (first | refine wl_store H.out 0 rfl rfl rfl (by rfl) (by simp [Act.eval, Value.cells]; rfl) (by kernel_rfl) (by simp) (by simp [Value.oneCell']) ?_ | refine wl_store H.out 1 rfl rfl rfl (by rfl) (by simp [Act.eval, Value.cells]; rfl) (by kernel_rfl) (by simp) (by simp [Value.oneCell']) ?_); intro w3 H1 hle3; (try show wpList _ _ _ _ ⟨_, _⟩ _); simp only [px] at H1; (try clear F); clear H; have H := Lib.hid H1; have F := H1.facts; simp only [fxx, ec, iv, macs] at F; clear H1))
  refine rz_start (O' := [_]) H.out (List.Sublist.cons _ (List.Sublist.cons_cons _ (List.nil_sublist _))) (by kernel_rfl) ?_; intro w4 H1 hle4; (try clear F); clear H; have H := Lib.hid H1; have F := H1.facts; simp only [fxx, ec, iv, macs] at F; clear H1
  refine rz_reads [0, 1, 3, 4] (by kernel_rfl) (H.out.sub (by first | exact List.Sublist.refl _ | exact List.sublist_cons_self _ _ | exact (List.sublist_cons_self _ _).trans (List.sublist_cons_self _ _) | exact ((List.sublist_cons_self _ _).trans (List.sublist_cons_self _ _)).trans (List.sublist_cons_self _ _) | (repeat (first | exact List.Sublist.slnil | exact List.nil_sublist _ | apply List.Sublist.cons_cons | apply List.Sublist.cons))) (by intro _ h; first | exact h | exact .tail _ h | exact .tail _ (.tail _ h) | exact .tail _ (.tail _ (.tail _ h)) | exact .tail _ (.tail _ (.tail _ (.tail _ h))) | (simp only [List.mem_cons, List.not_mem_nil, or_false] at h ⊢; first | (simp [h]; done) | (rcases h with h | h <;> simp [h]; done) | (rcases h with h | h | h <;> simp [h]; done) | (rcases h with h | h | h | h <;> simp [h]; done)))) (fun d _ _ _ _ h => by cases d <;> exact h) ?_; (repeat first | (refine rd_skip rfl (by rfl) ?_; simp only [pz]) | (refine rd_step (v := ?_) rfl (by rfl) ?_ ?_; rotate_left 1; (focus intro W hW; have F := St.facts hW; simp only [fxx, ec, iv, macs] at F; go_simp; all_goals with_reducible rfl); simp only [pz])); refine rd_end ?_; show wpAnyH _ _ _ _ _ _ _ _ _
  refine rz_one 2 (by kernel_rfl) ?_
  refine ss_call rfl (by rfl) (f := 35) (args := ?_) ?_ ?_; (rotate_left 1; (focus go_simp; all_goals with_reducible rfl))
  refine (HC1.out _ H.out.below').mono ?_; rintro e w5 ⟨a1, c1, rfl, hb, ho⟩; have H1 := H.out.getv hb ho; clear hb ho
  refine ⟨_, rfl, H1.sub (by first | exact List.Sublist.refl _ | exact List.sublist_cons_self _ _ | exact (List.sublist_cons_self _ _).trans (List.sublist_cons_self _ _) | exact ((List.sublist_cons_self _ _).trans (List.sublist_cons_self _ _)).trans (List.sublist_cons_self _ _) | (repeat (first | exact List.Sublist.slnil | exact List.nil_sublist _ | apply List.Sublist.cons_cons | apply List.Sublist.cons))) (by intro _ h; first | exact h | exact .tail _ h | exact .tail _ (.tail _ h) | exact .tail _ (.tail _ (.tail _ h)) | exact .tail _ (.tail _ (.tail _ (.tail _ h))) | (simp only [List.mem_cons, List.not_mem_nil, or_false] at h ⊢; first | (simp [h]; done) | (rcases h with h | h <;> simp [h]; done) | (rcases h with h | h | h <;> simp [h]; done) | (rcases h with h | h | h | h <;> simp [h]; done))), ?_⟩
  (try clear F); clear H; have H := Lib.hid H1; have F := H1.facts; simp only [fxx, ec, iv, macs] at F; clear H1
  simp only [pz]
  refine rz_one 5 (by kernel_rfl) ?_
  refine ss_call rfl (by rfl) (f := 31) (args := ?_) ?_ ?_; (rotate_left 1; (focus go_simp; all_goals with_reducible rfl))
  refine (HC2.out _ H.out.below').mono ?_; rintro e w5 ⟨a2, c2, rfl, hb, ho⟩; have H1 := H.out.getv hb ho; clear hb ho
  refine ⟨_, rfl, H1.sub (by first | exact List.Sublist.refl _ | exact List.sublist_cons_self _ _ | exact (List.sublist_cons_self _ _).trans (List.sublist_cons_self _ _) | exact ((List.sublist_cons_self _ _).trans (List.sublist_cons_self _ _)).trans (List.sublist_cons_self _ _) | (repeat (first | exact List.Sublist.slnil | exact List.nil_sublist _ | apply List.Sublist.cons_cons | apply List.Sublist.cons))) (by intro _ h; first | exact h | exact .tail _ h | exact .tail _ (.tail _ h) | exact .tail _ (.tail _ (.tail _ h)) | exact .tail _ (.tail _ (.tail _ (.tail _ h))) | (simp only [List.mem_cons, List.not_mem_nil, or_false] at h ⊢; first | (simp [h]; done) | (rcases h with h | h <;> simp [h]; done) | (rcases h with h | h | h <;> simp [h]; done) | (rcases h with h | h | h | h <;> simp [h]; done))), ?_⟩
  (try clear F); clear H; have H := Lib.hid H1; have F := H1.facts; simp only [fxx, ec, iv, macs] at F; clear H1
  simp only [pz]
  refine rz_reads [6] (by kernel_rfl) (H.out.sub (by first | exact List.Sublist.refl _ | exact List.sublist_cons_self _ _ | exact (List.sublist_cons_self _ _).trans (List.sublist_cons_self _ _) | exact ((List.sublist_cons_self _ _).trans (List.sublist_cons_self _ _)).trans (List.sublist_cons_self _ _) | (repeat (first | exact List.Sublist.slnil | exact List.nil_sublist _ | apply List.Sublist.cons_cons | apply List.Sublist.cons))) (by intro _ h; first | exact h | exact .tail _ h | exact .tail _ (.tail _ h) | exact .tail _ (.tail _ (.tail _ h)) | exact .tail _ (.tail _ (.tail _ (.tail _ h))) | (simp only [List.mem_cons, List.not_mem_nil, or_false] at h ⊢; first | (simp [h]; done) | (rcases h with h | h <;> simp [h]; done) | (rcases h with h | h | h <;> simp [h]; done) | (rcases h with h | h | h | h <;> simp [h]; done)))) (fun d _ _ _ _ h => by cases d <;> exact h) ?_; (repeat first | (refine rd_skip rfl (by rfl) ?_; simp only [pz]) | (refine rd_step (v := ?_) rfl (by rfl) ?_ ?_; rotate_left 1; (focus intro W hW; have F := St.facts hW; simp only [fxx, ec, iv, macs] at F; go_simp; all_goals with_reducible rfl); simp only [pz])); refine rd_end ?_; show wpAnyH _ _ _ _ _ _ _ _ _
  refine rz_one 7 (by kernel_rfl) ?_
  (first | refine sz_store H.out 2 rfl rfl rfl rfl (by rfl) (by simp [Act.eval, Value.cells]; rfl) (by kernel_rfl) (by simp) (by simp [Value.oneCell']) (fun W h => h.sub (by first | exact List.Sublist.refl _ | exact List.sublist_cons_self _ _ | exact (List.sublist_cons_self _ _).trans (List.sublist_cons_self _ _) | exact ((List.sublist_cons_self _ _).trans (List.sublist_cons_self _ _)).trans (List.sublist_cons_self _ _) | (repeat (first | exact List.Sublist.slnil | exact List.nil_sublist _ | apply List.Sublist.cons_cons | apply List.Sublist.cons))) (by intro _ h; first | exact h | exact .tail _ h | exact .tail _ (.tail _ h) | exact .tail _ (.tail _ (.tail _ h)) | exact .tail _ (.tail _ (.tail _ (.tail _ h))) | (simp only [List.mem_cons, List.not_mem_nil, or_false] at h ⊢; first | (simp [h]; done) | (rcases h with h | h <;> simp [h]; done) | (rcases h with h | h | h <;> simp [h]; done) | (rcases h with h | h | h | h <;> simp [h]; done)))) ?_); intro w3 H1 hle3; simp only [px] at H1; (try clear F); clear H; have H := Lib.hid H1; have F := H1.facts; simp only [fxx, ec, iv, macs] at F; clear H1; simp only [pz]
  refine rz_done (by kernel_rfl) ?_
  go_wp2_with (first
    | (show wpList _ _ _ _ _ (World.drewN _ _); refine wl_drewN H.out ?_; intro w4 H1 hle4; (try clear F); clear H; have H := Lib.hid H1; have F := H1.facts; simp only [fxx, ec, iv, macs] at F; clear H1)
    | (show Code.wp _ _ _ _ (World.drewN _ _); refine cw_drewN H.out ?_; intro w4 H1 hle4; (try clear F); clear H; have H := Lib.hid H1; have F := H1.facts; simp only [fxx, ec, iv, macs] at F; clear H1)
    | (show wpList _ _ _ _ _ (World.alloc _ _); refine wl_absorb H.out ?_; intro w1 H1 hlt1; (try clear F); clear H; have H := Lib.hid H1; have F := H1.facts; simp only [fxx, ec, iv, macs] at F; clear H1)
    | (show Code.wp _ _ _ _ (World.alloc _ _); refine cw_absorb H.out ?_; intro w2 H1 hlt2; (try clear F); clear H; have H := Lib.hid H1; have F := H1.facts; simp only [fxx, ec, iv, macs] at F; clear H1)
    | (show wpList _ _ _ (Oper.mk none (Op.store _ _ _) _ _ _ _ :: _) _ _; (first | refine wl_store H.out 0 rfl rfl rfl (by rfl) (by simp [Act.eval, Value.cells]; rfl) (by kernel_rfl) (by simp) (by simp [Value.oneCell']) ?_ | refine wl_store H.out 1 rfl rfl rfl (by rfl) (by simp [Act.eval, Value.cells]; rfl) (by kernel_rfl) (by simp) (by simp [Value.oneCell']) ?_); intro w3 H1 hle3; (try show wpList _ _ _ _ ⟨_, _⟩ _); simp only [px] at H1; (try clear F); clear H; have H := Lib.hid H1; have F := H1.facts; simp only [fxx, ec, iv, macs] at F; clear H1))
  have hp := List.pairwise_cons.1 H.out.apart
  have hn0 := fun i o (h : _[i]? = some o) b hb => (H.out.new o (List.mem_of_getElem? h) b hb).resolve_right id
  have up : ∀ (i : Nat) e sz v xs, _[i]? = some (vec e sz v n xs) → _ := fun i e sz v xs h => (show World.ownsRow _ w.heap.size e sz v n xs from by
    have h0 := H.out.has i h
    exact ⟨h0.1, h0.2.imp_right (by rintro ⟨g, cap, cur, rfl, _, h3⟩; exact ⟨g, cap, cur, rfl, hn0 i _ h g rfl, h3⟩)⟩)
  refine bodyPost_ret (ret_c rfl rfl (H.out.has 2 rfl) row_80 rfl) rfl ⟨_, _, _, _, rfl, H.out.below', up 1 _ _ _ _ rfl, up 0 _ _ _ _ rfl, fun b h1 h2 => hp.1 _ List.mem_cons_self b h2 h1⟩

/-- two slices of one's own that a call handed back -/
theorem St.getvv {w0 w w' : World} {G z : Nat → Prop} {O : List As} {T : List Rd} (H : St w0 G z O T w) (hb : Below w.heap.size w w') {e size e' size' : Nat} {v v' : Value} {n n' : Nat} {xs ys : List Value} (ho : w'.ownsRow w.heap.size e size v n xs) (ho' : w'.ownsRow w.heap.size e' size' v' n' ys) (hd : ∀ b, v.ownBlock = some b → v'.ownBlock ≠ some b) : St w0 G z (vec e' size' v' n' ys :: vec e size v n xs :: O) T w' := by
  have dn : ∀ {e size : Nat} {v : Value} {n : Nat} {xs : List Value}, w'.ownsRow w.heap.size e size v n xs → w'.ownsRow 0 e size v n xs := fun h => ⟨h.1, h.2.imp_right (by rintro ⟨g, cap, cur, h1, h2, h3⟩; exact ⟨g, cap, cur, h1, Nat.zero_le _, h3⟩)⟩
  have := H.grow [vec e' size' v' n' ys, vec e size v n xs] [] hb (by simp only [List.mem_cons, List.not_mem_nil, or_false, forall_eq_or_imp, forall_eq]; exact ⟨dn ho', dn ho⟩)
    (by simp only [List.mem_cons, List.not_mem_nil, or_false, forall_eq_or_imp, forall_eq]; exact ⟨fun b hb => (ho'.lt b hb).1, fun b hb => (ho.lt b hb).1⟩)
    (List.pairwise_cons.2 ⟨by simp only [List.mem_cons, List.not_mem_nil, or_false, forall_eq]; exact fun k h1 h2 => hd k h2 h1, List.pairwise_singleton _ _⟩) (by simp)
  simpa using this
/-- the parts of a table, with what its own block tells -/
def txc (T S M n : Nat) (C : Tag → List EntL) (A : Nat → Prop) : As where
  holds w := TX w T S M n C A
  foot := A
  lt h := by obtain ⟨_, _, _, _, _, _, h⟩ := h; exact h
  kept := tx_kept
  fact w := w.cell? ⟨T, 0, none⟩ = some (.map (some M)) ∧ w.cell? ⟨T, 1, none⟩ = some (.slice (some ⟨S, 0, none⟩) n n)
  tell h := by
    have := cellsAt_of _ 0 (rng_at (tx_cells h))
    simp only [CellsAt, Nat.zero_add] at this
    exact ⟨this.1, this.2.1⟩
theorem facts_txc {w : World} {T S M n : Nat} {C : Tag → List EntL} {A : Nat → Prop} {l : List As} : Facts (txc T S M n C A :: l) w = (w.cell? ⟨T, 0, none⟩ = some (.map (some M)) ∧ w.cell? ⟨T, 1, none⟩ = some (.slice (some ⟨S, 0, none⟩) n n) ∧ Facts l w) := by
  show ((_ ∧ _) ∧ _) = _
  simp only [and_assoc]

/-- two rows of one's own laid into a shard -/
theorem tx_lay {w W : World} {T S M n : Nat} {C : Tag → List EntL} {A : Nat → Prop} {s : Nat} {kv vv : Value} {l : List EntL} {cs : List Value} (h : TX w T S M n C A) (hs : s < n) (hk : w.ownsRow 0 3 1 kv l.length ((l.map (·.id)).map iv)) (hu : w.ownsRow 0 40 8 vv l.length (ecs l))
    (hkA : ∀ g, kv.ownBlock = some g → ¬ A g) (huA : ∀ g, vv.ownBlock = some g → ¬ A g) (hku : ∀ g, kv.ownBlock = some g → vv.ownBlock ≠ some g)
    (hS : w.heap[S]? = some (.cells cs.toArray 80 (0, 0))) (hW : W.heap[S]? = some (.cells (putAt cs (s * 2) [kv, vv]).toArray 80 (0, 0))) (hK : Kpt w W (fun b => b = S)) :
    TX W T S M n (two (.key s) (.val s) l l C) (fun b => A b ∨ kv.ownBlock = some b ∨ vv.ownBlock = some b) := by
  obtain ⟨V, ⟨h1, ⟨cs', h2, h2z, h2s⟩, ⟨f, h3, h3s⟩, ⟨h4, h4a⟩, h5⟩, hT, hSA, hM, hV, hA⟩ := h
  rw [hS] at h2
  obtain rfl : cs' = cs.toArray := by cases h2; rfl
  have hne : Tag.key s ≠ .val s := by intro h; cases h
  have hk' : Kept w W (fun b => b = S) := ⟨hK.os, hK.tape, hK.output, hK.size, hK.block⟩
  have hl : cs.length = 2 * n := by simpa using h2z
  have hVV : ∀ t g, (two (.key s) (.val s) kv vv V t).ownBlock = some g → A g ∨ kv.ownBlock = some g ∨ vv.ownBlock = some g := fun t g hg => by
    by_cases t1 : t = .key s
    · subst t1; rw [two_1] at hg; exact .inr (.inl hg)
    · by_cases t2 : t = .val s
      · subst t2; rw [two_2 hne] at hg; exact .inr (.inr hg)
      · rw [two_3 t1 t2] at hg; exact .inl (hV t g hg)
  have hTS : T ≠ S := by rintro rfl; rw [h1] at hS; cases hS
  have hMS : M ≠ S := by
    rintro rfl
    obtain ⟨es, clock, hM, -⟩ := h3
    rw [hM] at hS; cases hS
  have get : ∀ j, (putAt cs (s * 2) [kv, vv])[j]? = if j = s * 2 then some kv else if j = s * 2 + 1 then some vv else cs[j]? := fun j => by
    unfold putAt
    have hlt : (cs.take (s * 2)).length = s * 2 := by rw [List.length_take]; omega
    rw [List.append_assoc]
    by_cases j1 : j < s * 2
    · rw [List.getElem?_append_left (by omega), List.getElem?_take_of_lt j1, if_neg (by omega), if_neg (by omega)]
    · rw [List.getElem?_append_right (by omega), hlt]
      by_cases j2 : j = s * 2
      · subst j2; rw [Nat.sub_self, if_pos rfl]; rfl
      · by_cases j3 : j = s * 2 + 1
        · subst j3; rw [show s * 2 + 1 - s * 2 = 1 by omega, if_neg (by omega), if_pos rfl]; rfl
        · rw [if_neg j2, if_neg j3, List.getElem?_append_right (by simp; omega), List.getElem?_drop]
          congr 1
          simp
          omega
  refine ⟨two (.key s) (.val s) kv vv V, ⟨(hK.block T (hA T hT) hTS).trans h1, ⟨_, hW, ?_, fun q hq => ?_⟩, ⟨f, map_kept h3 hk' hMS, fun m => ?_⟩, ⟨fun t => ?_, fun t t' g hg hg' => ?_⟩, fun t g hg => ?_⟩, .inl hT, .inl hSA, .inl hM, hVV, fun b hb => ?_⟩
  · simp only [List.size_toArray]
    rw [putAt_len (by simp; omega), hl]
  · simp only [List.getElem?_toArray]
    rw [get, get]
    by_cases e : q = s
    · subst e
      rw [two_1, two_2 hne, if_pos rfl, if_neg (by omega), if_pos rfl]
      exact ⟨rfl, rfl⟩
    · rw [two_3 (by intro h; cases h; exact e rfl) (by intro h; cases h), two_3 (by intro h; cases h) (by intro h; cases h; exact e rfl), if_neg (by omega), if_neg (by omega), if_neg (by omega), if_neg (by omega)]
      simpa using h2s q hq
  · rw [two_3 (by intro h; cases h) (by intro h; cases h), two_3 (by intro h; cases h) (by intro h; cases h)]; exact h3s m
  · by_cases t1 : t = .key s
    · subst t1; rw [two_1, two_1]
      exact own_kept hk hk' fun g hg e => hkA g hg (e ▸ hSA)
    · by_cases t2 : t = .val s
      · subst t2; rw [two_2 hne, two_2 hne]
        exact own_kept hu hk' fun g hg e => huA g hg (e ▸ hSA)
      · rw [two_3 t1 t2, two_3 t1 t2]
        exact Tag.row_kept (h4 t) hk' fun g hg => (h5 t g hg).2
  · have cl : ∀ t g, (two (.key s) (.val s) kv vv V t).ownBlock = some g → (t = .key s ∧ kv.ownBlock = some g) ∨ (t = .val s ∧ vv.ownBlock = some g) ∨ ((V t).ownBlock = some g ∧ A g) := fun t g hg => by
      by_cases t1 : t = .key s
      · subst t1; rw [two_1] at hg; exact .inl ⟨rfl, hg⟩
      · by_cases t2 : t = .val s
        · subst t2; rw [two_2 hne] at hg; exact .inr (.inl ⟨rfl, hg⟩)
        · rw [two_3 t1 t2] at hg; exact .inr (.inr ⟨hg, hV t g hg⟩)
    rcases cl t g hg with ⟨a1, a2⟩ | ⟨a1, a2⟩ | ⟨a1, a2⟩ <;> rcases cl t' g hg' with ⟨b1, b2⟩ | ⟨b1, b2⟩ | ⟨b1, b2⟩
    · exact a1.trans b1.symm
    · exact absurd b2 (hku g a2)
    · exact absurd b2 (hkA g a2)
    · exact absurd a2 (hku g b2)
    · exact a1.trans b1.symm
    · exact absurd b2 (huA g a2)
    · exact absurd a2 (hkA g b2)
    · exact absurd a2 (huA g b2)
    · exact h4a t t' g a1 b1
  · rcases hVV t g hg with h | h | h
    · by_cases t1 : t = .key s
      · subst t1; rw [two_1] at hg; exact absurd h (hkA g hg)
      · by_cases t2 : t = .val s
        · subst t2; rw [two_2 hne] at hg; exact absurd h (huA g hg)
        · rw [two_3 t1 t2] at hg; exact h5 t g hg
    · exact ⟨fun e => hkA g h (e ▸ hT), fun e => hkA g h (e ▸ hSA)⟩
    · exact ⟨fun e => huA g h (e ▸ hT), fun e => huA g h (e ▸ hSA)⟩
  · rcases hb with h | h | h
    · exact Nat.lt_of_lt_of_le (hA b h) hK.size
    · exact Nat.lt_of_lt_of_le (hk.lt b h).2 hK.size
    · exact Nat.lt_of_lt_of_le (hu.lt b h).2 hK.size
theorem st_lay {P : Program} {w0 w : World} {G z : Nat → Prop} {O : List As} {R : List Rd} {T S M n s : Nat} {C : Tag → List EntL} {A : Nat → Prop} {kv vv : Value} {l : List EntL} (H : St w0 G z (vec 40 8 vv l.length (ecs l) :: vec 3 1 kv l.length ((l.map (·.id)).map iv) :: txc T S M n C A :: O) R w) (hs : s < n) :
    ∃ W, (storeCells ⟨S, s * 2, none⟩ [kv, vv]).run P w = .ok () W ∧ St w0 G z (txc T S M n (two (.key s) (.val s) l l C) (fun b => A b ∨ kv.ownBlock = some b ∨ vv.ownBlock = some b) :: O) R W ∧ w.heap.size ≤ W.heap.size := by
  have hu : w.ownsRow 0 40 8 vv l.length (ecs l) := H.has 0 rfl
  have hk : w.ownsRow 0 3 1 kv l.length ((l.map (·.id)).map iv) := H.has 1 rfl
  have ht : TX w T S M n C A := H.has 2 rfl
  have hp1 := List.pairwise_cons.1 H.apart
  have hp2 := List.pairwise_cons.1 hp1.2
  obtain ⟨cs, hS, hz⟩ : ∃ cs : List Value, w.heap[S]? = some (.cells cs.toArray 80 (0, 0)) ∧ cs.length = 2 * n := by
    obtain ⟨V, ⟨h1, ⟨cs', h2, h2z, h2s⟩, -⟩, -⟩ := ht
    exact ⟨cs'.toList, by simpa using h2, by simpa using h2z⟩
  obtain ⟨W, r1, r2, r3⟩ := run_storeCells (P := P) [kv, vv] cs (s * 2) 0 w hS (by simp; omega) (by simp only [List.mem_cons, List.not_mem_nil, or_false, forall_eq_or_imp, forall_eq]; exact ⟨own_one hk, own_one hu⟩)
  have hA := fun b hb => ht.choose_spec.2.2.2.2.2 b hb
  have hlay := tx_lay ht hs hk hu (fun g hg h => hp2.1 _ List.mem_cons_self g hg h) (fun g hg h => hp1.1 _ (List.mem_cons_of_mem _ List.mem_cons_self) g hg h) (fun g hg hg' => hp1.1 _ List.mem_cons_self g hg' hg) hS r2 r3
  refine ⟨W, r1, ?_, r3.size⟩
  have hSA : A S := ht.choose_spec.2.2.1
  have hfeet : ∀ b, (A b ∨ kv.ownBlock = some b ∨ vv.ownBlock = some b) → feet [vec 40 8 vv l.length (ecs l), vec 3 1 kv l.length ((l.map (·.id)).map iv), txc T S M n C A] b := fun b hb => by
    rcases hb with h | h | h
    · exact ⟨_, List.mem_cons_of_mem _ (List.mem_cons_of_mem _ List.mem_cons_self), h⟩
    · exact ⟨_, List.mem_cons_of_mem _ List.mem_cons_self, h⟩
    · exact ⟨_, List.mem_cons_self, h⟩
  exact St.step (Oi := [_, _, _]) (Oo := [txc T S M n (two (.key s) (.val s) l l C) (fun b => A b ∨ kv.ownBlock = some b ∨ vv.ownBlock = some b)]) (Or := O) (To := []) H
    ⟨⟨r3.os, r3.tape, r3.output, r3.size, fun k hk hn => r3.block k hk (fun e => hn (by subst e; exact hfeet _ (.inl hSA)))⟩, by simp only [List.mem_singleton, forall_eq]; exact hlay, by simp only [List.mem_singleton, forall_eq]; exact fun b hb => .inr (hfeet b hb), List.pairwise_singleton _ _, by simp⟩

/-- a number that is noted -/
theorem note_tx (T S M n : Nat) (C : Tag → List EntL) (A : Nat → Prop) (m : Mac) (x : EntL) (w : World) (h : TX w T S M n C A) (hC : C (.mk m) = C (.mv m)) (hso : (C (.mv m)).Pairwise (fun a b => a.id < b.id)) (hl : (C (.mv m)).length ≤ 100000) (hno : ∀ e ∈ C (.mv m), e.id ≠ x.id) :
    Calls Try.prog 42 #[.pointer (some ⟨T, 0, none⟩), m.v, .int .i64 x.id] w fun e w' => e = .returned (.tuple #[]) ∧ TX w' T S M n (two (.mk m) (.mv m) (insE (C (.mv m)) x) (insE (C (.mv m)) x) C) (fun b => A b ∨ (w.heap.size ≤ b ∧ b < w'.heap.size)) ∧ Kpt w w' A := by
  obtain ⟨V, hx, hT, hS, hM, hV, hA⟩ := h
  have hx' := hx
  obtain ⟨h1, ⟨cs, h2, h2z, h2s⟩, ⟨f, h3, h3s⟩, ⟨h4, h4a⟩, h5⟩ := hx
  have rk : w.ownsRow 0 3 1 (V (.mk m)) _ _ := h4 (.mk m)
  have rv : w.ownsRow 0 3 1 (V (.mv m)) _ _ := h4 (.mv m)
  rw [hC] at rk
  have hku : ∀ g, (V (.mk m)).ownBlock = some g → (V (.mv m)).ownBlock ≠ some g := fun g h1 h2 => by have := h4a _ _ g h1 h2; cases this
  have hids : x.id ∉ (C (.mv m)).map (·.id) := fun h => by obtain ⟨e, he, h⟩ := List.mem_map.1 h; exact hno e he h
  refine (note_any T M f m x.id (V (.mk m)) (V (.mv m)) ((C (.mv m)).map (·.id)) ((C (.mv m)).map (·.id)) _ w (by rw [cell_of_row w T 0 _ _ _ h1]; rfl) h3 (h3s m) rk rv (fun e => (h5 _ _ e).1 rfl) (fun e => (h5 _ _ e).1 rfl) hku (List.pairwise_map.2 hso) hl hids).mono ?_
  rintro e w' ⟨a, kv', vv', rfl, p1, p2, p3, p4, p5, p6, p7, p8⟩
  rw [ids_put p1] at p2 p3
  have r1 : (Tag.mk m).row w' kv' (insE (C (.mv m)) x) := by show w'.ownsRow 0 3 1 _ _ _; rw [insE_lenF]; exact p2
  have r2 : (Tag.mv m).row w' vv' (insE (C (.mv m)) x) := by show w'.ownsRow 0 3 1 _ _ _; rw [insE_lenF]; exact p3
  have hfu := found_upd f m (.agg #[kv', vv'])
  obtain ⟨x1, x2⟩ := tabx_mac hx' m h3 h3s p8 r1 r2 p4 hfu.1 hfu.2 p5 p6 p7
  refine ⟨rfl, ⟨_, x1, .inl hT, .inl hS, .inl hM, fun t g hg => ?_, fun b hb => ?_⟩, ⟨p8.os, p8.tape, p8.output, p8.size, fun b hb hn => p8.block b hb ?_⟩⟩
  · rcases x2 t g hg with h | h
    · exact .inl (hV t g h)
    · exact .inr ⟨h, Tag.row_lt (x1.rows.rows t) hg⟩
  · rcases hb with h | h
    · exact Nat.lt_of_lt_of_le (hA b h) p8.size
    · exact h.2
  · rintro (h | h | h)
    · exact hn (h ▸ hM)
    · exact hn (hV _ _ h.symm)
    · exact hn (hV _ _ h.symm)
end Go.Proofs.Ytkifagflnpkkaaa
