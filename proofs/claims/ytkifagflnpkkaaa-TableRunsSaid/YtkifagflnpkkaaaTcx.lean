/- Table.Touch. No condition. -/
import Derived.Test.YtkifagflnpkkaaaTch
namespace Go.Proofs.Ytkifagflnpkkaaa
set_option linter.unusedSimpArgs false
set_option linter.unusedVariables false
-- FSX: ec, iv, facts_txo, macs
open Go.RowKit
set_option maxRecDepth 10000

/-- an entry in the place of the one of its number -/
def repE (x e : EntL) : EntL := if e.id = x.id then x else e
theorem repE_id (x e : EntL) : (repE x e).id = e.id := by unfold repE; split <;> simp_all
theorem map_ids (x : EntL) (l : List EntL) : (l.map (repE x)).map (·.id) = l.map (·.id) := by
  rw [List.map_map]; exact List.map_congr_left fun e _ => repE_id x e
theorem filter_rep {p : EntL → Bool} {x : EntL} : ∀ {l : List EntL}, (∀ e ∈ l, p (repE x e) = p e) → (l.map (repE x)).filter p = (l.filter p).map (repE x)
  | [], _ => rfl
  | e :: l, h => by
    have h1 := h e List.mem_cons_self
    have ih := filter_rep (l := l) fun q hq => h q (List.mem_cons_of_mem _ hq)
    simp only [List.map_cons, List.filter_cons, h1, ih]
    split <;> rfl
theorem set_rep {x : EntL} : ∀ {l : List EntL} {a : Nat}, l.Pairwise (fun a b => a.id < b.id) → (l.map (·.id))[a]? = some x.id → l.set a x = l.map (repE x)
  | [], a, _, h => by simp at h
  | e :: l, 0, hs, h => by
    simp only [List.map_cons, List.getElem?_cons_zero, Option.some.injEq] at h
    rw [List.pairwise_cons] at hs
    rw [List.set_cons_zero, List.map_cons, show repE x e = x by unfold repE; rw [if_pos h]]
    congr 1
    have hh : ∀ y ∈ l, repE x y = y := fun y hy => by have := hs.1 y hy; unfold repE; rw [if_neg (by omega)]
    rw [List.map_congr_left hh, List.map_id']
  | e :: l, a + 1, hs, h => by
    simp only [List.map_cons, List.getElem?_cons_succ] at h
    rw [List.pairwise_cons] at hs
    obtain ⟨y, hy, hyk⟩ := List.mem_map.1 (List.mem_of_getElem? h)
    have := hs.1 y hy
    rw [List.set_cons_succ, List.map_cons, set_rep hs.2 h, show repE x e = e by unfold repE; rw [if_neg (by omega)]]
theorem rep_sorted {l : List EntL} {x : EntL} (h : l.Pairwise (fun a b => a.id < b.id)) : (l.map (repE x)).Pairwise (fun a b => a.id < b.id) := by
  rw [List.pairwise_map]; simpa only [repE_id] using h
theorem rep_good {L : List EntL} (h : Good L) {x : EntL} (hx : 1 ≤ x.id ∧ x.id ≤ 65534 ∧ 0 ≤ x.seen ∧ x.seen ≤ 1099511627776) : Good (L.map (repE x)) := ⟨rep_sorted h.sorted, fun e he => by
  obtain ⟨y, hy, rfl⟩ := List.mem_map.1 he
  unfold repE
  split
  · exact hx
  · exact h.range y hy⟩
theorem own_ids {w : World} {base e size n : Nat} {v : Value} {xs ys : List Value} (h : w.ownsRow base e size v n xs) (hq : xs = ys) : w.ownsRow base e size v n ys := hq ▸ h

theorem touch_tx (T S M n : Nat) (L : List EntL) (A : Nat → Prop) (x y : EntL) (w : World) (h : TX w T S M n (Cont n L) A) (hn : 1 ≤ n) (hG : Good L) (hy : y ∈ L) (hyx : y.id = x.id) (hm : y.mac = x.mac) :
    Calls Try.prog 41 #[.pointer (some ⟨S, x.id.toNat % n * 2, none⟩), .int .i64 x.id, .agg (ec x).toArray] w fun e w' => e = .returned (.tuple #[]) ∧ TX w' T S M n (Cont n (L.map (repE x))) A ∧ Kpt w w' A := by
  obtain ⟨V, hx, hT, hS, hM, hV, hA⟩ := h
  obtain ⟨h1, ⟨cs, h2, h2z, h2s⟩, ⟨f, h3, h3s⟩, ⟨h4, h4a⟩, h5⟩ := hx
  have hsn : x.id.toNat % n < n := Nat.mod_lt _ (by omega)
  obtain ⟨s, hs⟩ : ∃ s, s = x.id.toNat % n := ⟨_, rfl⟩
  rw [← hs] at hsn ⊢
  have rk : w.ownsRow 0 3 1 (V (.key s)) (Cont n L (.val s)).length ((Cont n L (.val s)).map (·.id) |>.map iv) := h4 (.key s)
  have rv : w.ownsRow 0 40 8 (V (.val s)) (Cont n L (.val s)).length (ecs (Cont n L (.val s))) := h4 (.val s)
  have hin : x.id ∈ (Cont n L (.val s)).map (·.id) := List.mem_map.2 ⟨y, List.mem_filter.2 ⟨hy, by simp [hyx, hs]⟩, hyx⟩
  have hso : (Cont n L (.val s)).Pairwise (fun a b => a.id < b.id) := hG.filter _
  have hlen : (Cont n L (.val s)).length ≤ 65534 := hG.flen _
  have hpos : 0 < (Cont n L (.val s)).length := by have := List.length_pos_of_mem hin; rwa [List.length_map] at this
  obtain ⟨g2, c2, e2⟩ := own_some rv hpos
  have o2 : (V (.val s)).ownBlock = some g2 := by rw [e2]; rfl
  have hne : (V (.key s)).ownBlock ≠ some g2 := fun e => by have := h4a _ _ g2 e o2; cases this
  have e2' := e2
  rw [e2] at rv
  obtain ⟨c0, c1'⟩ := h2s s hsn
  have hzS : ∀ k, s * 2 + k < cs.size → rng w S (s * 2) 2 = some [V (.key s), V (.val s)] := fun _ _ => by
    refine rng_of (cs := [V (.key s), V (.val s)]) (fun j v hv => ?_) (by simp)
    rw [cell_of_row w S _ _ _ _ h2]
    match j, hv with
    | 0, hv => simpa using c0.trans (by simpa using hv)
    | 1, hv => simpa using c1'.trans (by simpa using hv)
    | j + 2, hv => simp at hv
  have hr := hzS 0 (by omega)
  rw [e2] at hr
  refine (putthere_st S (s * 2) g2 c2 (Cont n L (.val s)).length (V (.key s)) ((Cont n L (.val s)).map (·.id)) (Cont n L (.val s)) x.id x w (fun b => b = S) (St.begin w _ _ _ _ ?_ ?_ ?_ ?_) (List.pairwise_map.2 hso) (by omega) hin).mono ?_
  · simp only [List.mem_cons, List.not_mem_nil, or_false, forall_eq_or_imp, forall_eq]; exact ⟨rv, rk⟩
  · intro o ho b hb
    refine ⟨⟨o, ho, hb⟩, ?_⟩
    simp only [List.mem_cons, List.not_mem_nil, or_false] at ho
    rcases ho with rfl | rfl
    · cases hb; exact (h5 _ _ o2).2
    · exact (h5 _ _ hb).2
  · exact List.pairwise_cons.2 ⟨by simp only [List.mem_cons, List.not_mem_nil, or_false, forall_eq]; exact fun b hb hb' => by cases hb; exact hne hb', List.pairwise_singleton _ _⟩
  · simp only [List.mem_singleton, forall_eq]; exact ⟨rfl, hr⟩
  rintro e w' ⟨rfl, a, ha, K⟩
  have r1 : w'.ownsRow 0 40 8 _ _ _ := K.has 0 rfl
  have r2 : w'.ownsRow 0 3 1 _ _ _ := K.has 1 rfl
  have r4 : Kpt w w' (fun b => some b = (V (.key s)).ownBlock ∨ b = g2) := ⟨K.base.os, K.base.tape, K.base.output, K.base.size, fun b hb hn => K.base.block b hb (by
    rintro ⟨o, ho, hb⟩
    simp only [List.mem_cons, List.not_mem_nil, or_false] at ho
    rcases ho with rfl | rfl
    · cases hb; exact hn (.inr rfl)
    · exact hn (.inl hb.symm))⟩
  rw [set_rep hso ha] at r1
  have one : ∀ e ∈ L, e.id = x.id → e.mac = x.mac := fun e he h => by rw [← hm, one_of hG.sorted he hy (h.trans hyx.symm)]
  have hmac : ∀ m : Mac, (L.map (repE x)).filter (fun e => decide (e.mac = m)) = (L.filter fun e => decide (e.mac = m)).map (repE x) := fun m => filter_rep fun e he => by
    unfold repE; split
    · rename_i h; rw [one e he h]
    · rfl
  have hsh : ∀ s : Nat, (L.map (repE x)).filter (fun e => e.id.toNat % n == s) = (L.filter fun e => e.id.toNat % n == s).map (repE x) := fun s => filter_rep fun e he => by rw [repE_id]
  have hids : ∀ t, (Cont n (L.map (repE x)) t).map (·.id) = (Cont n L t).map (·.id) := fun t => by
    cases t <;> simp only [Cont, hmac, hsh, map_ids]
  have hlen2 : ∀ t, (Cont n (L.map (repE x)) t).length = (Cont n L t).length := fun t => by have := congrArg List.length (hids t); simpa using this
  have hnk : ∀ t, t ≠ .key s → t ≠ .val s → ∀ g, (V t).ownBlock = some g → ¬ (some g = (V (.key s)).ownBlock ∨ g = g2) := fun t t1 t2 g hg h => by
    rcases h with h | h
    · exact t1 (h4a _ _ g hg h.symm)
    · exact t2 (h4a _ _ g hg (h ▸ o2))
  have hk' : Kept w w' (fun b => some b = (V (.key s)).ownBlock ∨ b = g2) := ⟨r4.os, r4.tape, r4.output, r4.size, r4.block⟩
  have rows : ∀ t : Tag, t.row w' (V t) (Cont n (L.map (repE x)) t) := fun t => by
    by_cases t1 : t = .key s
    · subst t1
      show w'.ownsRow 0 3 1 _ _ _
      rw [hlen2, hids]; exact r2
    · by_cases t2 : t = .val s
      · subst t2
        show w'.ownsRow 0 40 8 _ _ _
        rw [hlen2, e2']
        have : Cont n (L.map (repE x)) (.val s) = (Cont n L (.val s)).map (repE x) := hsh s
        rw [this]; exact r1
      · have h0 := Tag.row_kept (h4 t) hk' (hnk t t1 t2)
        cases t with
        | key q => show w'.ownsRow 0 3 1 _ _ _; rw [hlen2, hids]; exact h0
        | mk m => show w'.ownsRow 0 3 1 _ _ _; rw [hlen2, hids]; exact h0
        | mv m => show w'.ownsRow 0 3 1 _ _ _; rw [hlen2, hids]; exact h0
        | val q =>
          have hq : q ≠ s := fun e => t2 (by rw [e])
          have : Cont n (L.map (repE x)) (.val q) = Cont n L (.val q) := by
            refine (hsh q).trans ?_
            have hh : ∀ e ∈ L.filter (fun e => e.id.toNat % n == q), repE x e = e := fun e he => by
              unfold repE; rw [if_neg]; intro h
              have := (List.mem_filter.1 he).2
              simp only [beq_iff_eq] at this
              exact hq (by rw [← this, h, hs])
            rw [List.map_congr_left hh, List.map_id']; rfl
          rw [this]; exact h0
  refine ⟨rfl, ⟨V, ⟨?_, ⟨cs, ?_, h2z, h2s⟩, ⟨f, map_kept h3 hk' ?_, h3s⟩, ⟨rows, h4a⟩, h5⟩, hT, hS, hM, hV, fun b hb => Nat.lt_of_lt_of_le (hA b hb) r4.size⟩, ⟨r4.os, r4.tape, r4.output, r4.size, fun b hb hn => r4.block b hb ?_⟩⟩
  · exact (r4.block T (hA T hT) (by rintro (h | h); exact (h5 _ _ h.symm).1 rfl; exact (h5 _ _ o2).1 h.symm)).trans h1
  · exact (r4.block S (hA S hS) (by rintro (h | h); exact (h5 _ _ h.symm).2 rfl; exact (h5 _ _ o2).2 h.symm)).trans h2
  · rintro (h | h)
    · exact own_not_map h3 (h4 (.key s) : w.ownsRow 0 3 1 _ _ _) h.symm
    · exact own_not_map h3 rv (by rw [h]; rfl)
  · rintro (h | h)
    · exact hn (hV _ _ h.symm)
    · exact hn (h ▸ hV _ _ o2)

/-- what Touch makes of a table -/
def touchR (L : List EntL) (k t : Int) : List EntL × Int :=
  if 0 ≤ t ∧ t ≤ 1099511627776 then (if (getE L k).2 then (L.map (repE { (getE L k).1 with seen := max (getE L k).1.seen t }), 0) else (L, 202)) else (L, 1)
set_option maxHeartbeats 4000000 in
theorem touch_any (T n : Nat) (L : List EntL) (A : Nat → Prop) (k t : Int) (w : World) (h : Tab w T n L A) :
    Calls Try.prog 26 #[.pointer (some ⟨T, 0, none⟩), .int .i64 k, .int .i64 t] w fun e w' => e = .returned (.int .i64 (touchR L k t).2) ∧ Tab w' T n (touchR L k t).1 A ∧ Kpt w w' A := by
  obtain ⟨hG, hn1, hn2⟩ := tab_good h
  have HG := Lib.hid hG
  obtain ⟨S, M, hx⟩ := tab_tx h
  obtain ⟨S', hS', -⟩ := tab_row h
  obtain rfl : S' = S := by
    have := tx_cells hx
    have := cellsAt_of _ 0 (rng_at this)
    simp only [CellsAt, Nat.zero_add] at this
    rw [this.2.1] at hS'; cases hS'; rfl
  have H := Lib.hid (St.begin w A (fun _ => False) [txo T S' M n (Cont n L) A] [] (by simp only [List.mem_singleton, forall_eq]; exact hx) (by simp only [List.mem_singleton, forall_eq]; exact fun b hb => ⟨hb, id⟩) (List.pairwise_singleton _ _) (by simp))
  have HT : Hid (∀ w', TX w' T S' M n (Cont n L) A → Tab w' T n L A) := fun w' h => tx_tab h (fun _ => rfl) hn1 hn2 hG
  have HC : Hid (∀ w', TX w' T S' M n (Cont n L) A → w'.cell? ⟨T, 1, none⟩ = some (.slice (some ⟨S', 0, none⟩) n n)) := fun w' h => by
    have := cellsAt_of _ 0 (rng_at (tx_cells h))
    simp only [CellsAt, Nat.zero_add] at this
    exact this.2.1
  clear hx hS' h
  by_cases ht : 0 ≤ t ∧ t ≤ 1099511627776
  · have Ht : Hid (decide (0 ≤ t ∧ t ≤ 1099511627776) = true) := by unfold Hid; simpa using ht
    unfold touchR
    rw [if_pos ht]
    by_cases hg : (getE L k).2 = true
    · obtain ⟨x, hxm, rfl, hxe⟩ : ∃ x ∈ L, x.id = k ∧ getE L k = (x, true) := by
        unfold getE at hg ⊢
        split
        · rename_i x hf; exact ⟨x, List.mem_of_find?_eq_some hf, by simpa using List.find?_some hf, rfl⟩
        · rename_i hf; rw [hf] at hg; cases hg
      obtain ⟨hk1, hk2, hk3, hk4⟩ := hG.range x hxm
      rw [hxe, if_pos rfl]
      have HX := Lib.hid hxe
      have HM := Lib.hid hxm
      have HPx : Hid (∀ s w, s = max x.seen t → TX w T S' M n (Cont n L) A → Calls Try.prog 41 #[.pointer (some ⟨S', x.id.toNat % n * 2, none⟩), .int .i64 x.id, .agg (ec { x with seen := s }).toArray] w fun e w' => e = .returned (.tuple #[]) ∧ TX w' T S' M n (Cont n (L.map (repE { x with seen := max x.seen t }))) A ∧ Kpt w w' A) := fun s w hs h => by
        subst hs
        exact touch_tx T S' M n L A { x with seen := max x.seen t } x w h hn1 hG hxm rfl rfl
      have HGd : Hid (Good (L.map (repE { x with seen := max x.seen t }))) := rep_good hG ⟨hk1, hk2, by show 0 ≤ max x.seen t; omega, by show max x.seen t ≤ _; omega⟩
      clear hg hxe hG
      simp only [ec] at HPx
      go_enter Try.func26, Try.ntmps26
      go_wp2_with (first
        | (go_at_call 30; refine (none_any _ false _ (tab_none (HT.out _ (by first | exact H.out.has 0 rfl | exact H.out.has 1 rfl)))).mono ?_; rintro e w5 ⟨rfl, rfl⟩)
        | (go_at_call 36; refine (timed_any _ _).mono ?_; rintro e w5 ⟨rfl, rfl⟩; rw [Ht.out])
        | (go_at_call 13; refine (get_any T n L A _ _ (HT.out _ (H.out.has 0 rfl))).mono ?_; rintro e w5 ⟨rfl, hb⟩; rw [HX.out]; have H1 := H.out.same hb; clear hb; simp only [ec, ent0]; (try clear F); clear H; have H := Lib.hid H1; have F := H1.facts; simp only [fxx, ec, iv, facts_txo, macs] at F; clear H1)
        | (show wpList _ _ _ _ _ (World.drewN _ _); refine wl_drewN H.out ?_; intro w4 H1 hle4; (try clear F); clear H; have H := Lib.hid H1; have F := H1.facts; simp only [fxx, ec, iv, facts_txo, macs] at F; clear H1)
        | (show Code.wp _ _ _ _ (World.drewN _ _); refine cw_drewN H.out ?_; intro w4 H1 hle4; (try clear F); clear H; have H := Lib.hid H1; have F := H1.facts; simp only [fxx, ec, iv, facts_txo, macs] at F; clear H1)
        | (show wpList _ _ _ _ _ (World.alloc _ _); refine wl_absorb H.out ?_; intro w1 H1 hlt1; (try clear F); clear H; have H := Lib.hid H1; have F := H1.facts; simp only [fxx, ec, iv, facts_txo, macs] at F; clear H1)
        | (show Code.wp _ _ _ _ (World.alloc _ _); refine cw_absorb H.out ?_; intro w2 H1 hlt2; (try clear F); clear H; have H := Lib.hid H1; have F := H1.facts; simp only [fxx, ec, iv, facts_txo, macs] at F; clear H1)
        | (show wpList _ _ _ (Oper.mk none (Op.store _ _ _) _ _ _ _ :: _) _ _; (first | refine wl_store H.out 0 rfl rfl rfl (by rfl) (by simp [Act.eval, Value.cells]; rfl) (by kernel_rfl) (by simp) (by simp [Value.oneCell']) ?_ | refine wl_store H.out 1 rfl rfl rfl (by rfl) (by simp [Act.eval, Value.cells]; rfl) (by kernel_rfl) (by simp) (by simp [Value.oneCell']) ?_); intro w3 H1 hle3; simp only [px] at H1; (try clear F); clear H; have H := Lib.hid H1; have F := H1.facts; simp only [fxx, ec, iv, facts_txo, macs] at F; clear H1))
      all_goals
        have H1 := H.out.front 1 rfl; simp only [List.eraseIdx_cons_succ, List.eraseIdx_cons_zero] at H1; (try clear F); clear H; have H := Lib.hid H1; have F := H1.facts; simp only [fxx, ec, iv, facts_txo, macs] at F; clear H1
        refine rz_start H.out (List.sublist_cons_self _ _) (by kernel_rfl) ?_; intro w4 H1 hle4; (try clear F); clear H; have H := Lib.hid H1; have F := H1.facts; simp only [fxx, ec, iv, facts_txo, macs] at F; clear H1
        refine rz_reads [0, 1, 3, 4] (by kernel_rfl) (H.out.sub (by first | exact List.Sublist.refl _ | exact List.sublist_cons_self _ _ | exact (List.sublist_cons_self _ _).trans (List.sublist_cons_self _ _) | exact ((List.sublist_cons_self _ _).trans (List.sublist_cons_self _ _)).trans (List.sublist_cons_self _ _)) (by intro _ h; first | exact h | exact .tail _ h | exact .tail _ (.tail _ h) | exact .tail _ (.tail _ (.tail _ h)) | exact .tail _ (.tail _ (.tail _ (.tail _ h))) | (simp only [List.mem_cons, List.not_mem_nil, or_false] at h ⊢; first | (simp [h]; done) | (rcases h with h | h <;> simp [h]; done) | (rcases h with h | h | h <;> simp [h]; done) | (rcases h with h | h | h | h <;> simp [h]; done)))) (fun d _ _ _ _ h => by cases d <;> exact h) ?_; (repeat first | (refine rd_skip rfl (by rfl) ?_; simp only [pz]) | (refine rd_step (v := ?_) rfl (by rfl) ?_ ?_; rotate_left 1; (focus intro W hW; have F := St.facts hW; simp only [fxx, ec, iv, facts_txo, macs] at F; go_simp; all_goals with_reducible rfl); simp only [pz])); refine rd_end ?_; show wpAnyH _ _ _ _ _ _ _ _ _
        refine rz_one 2 (by kernel_rfl) ?_
        refine ss_call rfl (by rfl) (f := 33) (args := ?_) ?_ ?_; (rotate_left 1; (focus go_simp; all_goals with_reducible rfl))
        refine (of_any T S' n _ _ (HC.out _ (H.out.has 0 rfl)) hk1 hk2 hn1 hn2).mono ?_; rintro e w5 ⟨rfl, q, rfl⟩; have H1 := H.out.draw q
        refine ⟨_, rfl, H1.sub (by first | exact List.Sublist.refl _ | exact List.sublist_cons_self _ _ | exact (List.sublist_cons_self _ _).trans (List.sublist_cons_self _ _) | exact ((List.sublist_cons_self _ _).trans (List.sublist_cons_self _ _)).trans (List.sublist_cons_self _ _)) (by intro _ h; first | exact h | exact .tail _ h | exact .tail _ (.tail _ h) | exact .tail _ (.tail _ (.tail _ h)) | exact .tail _ (.tail _ (.tail _ (.tail _ h))) | (simp only [List.mem_cons, List.not_mem_nil, or_false] at h ⊢; first | (simp [h]; done) | (rcases h with h | h <;> simp [h]; done) | (rcases h with h | h | h <;> simp [h]; done) | (rcases h with h | h | h | h <;> simp [h]; done))), ?_⟩
        (try clear F); clear H; have H := Lib.hid H1; have F := H1.facts; simp only [fxx, ec, iv, facts_txo, macs] at F; clear H1
        simp only [pz]
        refine rz_one 5 (by kernel_rfl) ?_
        refine ss_call rfl (by rfl) (f := 41) (args := ?_) ?_ ?_; (rotate_left 1; (focus go_simp; all_goals with_reducible rfl))
        refine (HPx.out _ _ (by omega) (H.out.has 0 rfl)).mono ?_; rintro e w5 ⟨rfl, ht', hk'⟩; have H1 := H.out.tx 0 rfl ht' hk'; simp only [List.set_cons_zero] at H1; clear ht' hk'
        refine ⟨_, rfl, H1.sub (by first | exact List.Sublist.refl _ | exact List.sublist_cons_self _ _ | exact (List.sublist_cons_self _ _).trans (List.sublist_cons_self _ _) | exact ((List.sublist_cons_self _ _).trans (List.sublist_cons_self _ _)).trans (List.sublist_cons_self _ _)) (by intro _ h; first | exact h | exact .tail _ h | exact .tail _ (.tail _ h) | exact .tail _ (.tail _ (.tail _ h)) | exact .tail _ (.tail _ (.tail _ (.tail _ h))) | (simp only [List.mem_cons, List.not_mem_nil, or_false] at h ⊢; first | (simp [h]; done) | (rcases h with h | h <;> simp [h]; done) | (rcases h with h | h | h <;> simp [h]; done) | (rcases h with h | h | h | h <;> simp [h]; done))), ?_⟩
        (try clear F); clear H; have H := Lib.hid H1; have F := H1.facts; simp only [fxx, ec, iv, facts_txo, macs] at F; clear H1
        simp only [pz]
        refine rz_done (by kernel_rfl) ?_
        go_wp2_with (first
          | (show wpList _ _ _ _ _ (World.drewN _ _); refine wl_drewN H.out ?_; intro w4 H1 hle4; (try clear F); clear H; have H := Lib.hid H1; have F := H1.facts; simp only [fxx, ec, iv, facts_txo, macs] at F; clear H1)
          | (show Code.wp _ _ _ _ (World.drewN _ _); refine cw_drewN H.out ?_; intro w4 H1 hle4; (try clear F); clear H; have H := Lib.hid H1; have F := H1.facts; simp only [fxx, ec, iv, facts_txo, macs] at F; clear H1)
          | (show wpList _ _ _ _ _ (World.alloc _ _); refine wl_absorb H.out ?_; intro w1 H1 hlt1; (try clear F); clear H; have H := Lib.hid H1; have F := H1.facts; simp only [fxx, ec, iv, facts_txo, macs] at F; clear H1)
          | (show Code.wp _ _ _ _ (World.alloc _ _); refine cw_absorb H.out ?_; intro w2 H1 hlt2; (try clear F); clear H; have H := Lib.hid H1; have F := H1.facts; simp only [fxx, ec, iv, facts_txo, macs] at F; clear H1)
          | (show wpList _ _ _ (Oper.mk none (Op.store _ _ _) _ _ _ _ :: _) _ _; (first | refine wl_store H.out 0 rfl rfl rfl (by rfl) (by simp [Act.eval, Value.cells]; rfl) (by kernel_rfl) (by simp) (by simp [Value.oneCell']) ?_ | refine wl_store H.out 1 rfl rfl rfl (by rfl) (by simp [Act.eval, Value.cells]; rfl) (by kernel_rfl) (by simp) (by simp [Value.oneCell']) ?_); intro w3 H1 hle3; simp only [px] at H1; (try clear F); clear H; have H := Lib.hid H1; have F := H1.facts; simp only [fxx, ec, iv, facts_txo, macs] at F; clear H1))
        go_ret
        exact ⟨rfl, tx_tab (H.out.has 0 rfl) (fun _ => rfl) hn1 hn2 HGd.out, H.out.base⟩
    · have hg' : (getE L k).2 = false := by simpa using hg
      have HX := Lib.hid (getE_no (getE_false hg'))
      rw [if_neg hg]
      clear hg hg' hG
      go_enter Try.func26, Try.ntmps26
      go_wp2_with (first
        | (go_at_call 30; refine (none_any _ false _ (tab_none (HT.out _ (by first | exact H.out.has 0 rfl | exact H.out.has 1 rfl)))).mono ?_; rintro e w5 ⟨rfl, rfl⟩)
        | (go_at_call 36; refine (timed_any _ _).mono ?_; rintro e w5 ⟨rfl, rfl⟩; rw [Ht.out])
        | (go_at_call 13; refine (get_any T n L A _ _ (HT.out _ (H.out.has 0 rfl))).mono ?_; rintro e w5 ⟨rfl, hb⟩; rw [HX.out]; have H1 := H.out.same hb; clear hb; simp only [ec, ent0]; (try clear F); clear H; have H := Lib.hid H1; have F := H1.facts; simp only [fxx, ec, iv, facts_txo, macs] at F; clear H1)
        | (show wpList _ _ _ _ _ (World.drewN _ _); refine wl_drewN H.out ?_; intro w4 H1 hle4; (try clear F); clear H; have H := Lib.hid H1; have F := H1.facts; simp only [fxx, ec, iv, facts_txo, macs] at F; clear H1)
        | (show Code.wp _ _ _ _ (World.drewN _ _); refine cw_drewN H.out ?_; intro w4 H1 hle4; (try clear F); clear H; have H := Lib.hid H1; have F := H1.facts; simp only [fxx, ec, iv, facts_txo, macs] at F; clear H1)
        | (show wpList _ _ _ _ _ (World.alloc _ _); refine wl_absorb H.out ?_; intro w1 H1 hlt1; (try clear F); clear H; have H := Lib.hid H1; have F := H1.facts; simp only [fxx, ec, iv, facts_txo, macs] at F; clear H1)
        | (show Code.wp _ _ _ _ (World.alloc _ _); refine cw_absorb H.out ?_; intro w2 H1 hlt2; (try clear F); clear H; have H := Lib.hid H1; have F := H1.facts; simp only [fxx, ec, iv, facts_txo, macs] at F; clear H1)
        | (show wpList _ _ _ (Oper.mk none (Op.store _ _ _) _ _ _ _ :: _) _ _; (first | refine wl_store H.out 0 rfl rfl rfl (by rfl) (by simp [Act.eval, Value.cells]; rfl) (by kernel_rfl) (by simp) (by simp [Value.oneCell']) ?_ | refine wl_store H.out 1 rfl rfl rfl (by rfl) (by simp [Act.eval, Value.cells]; rfl) (by kernel_rfl) (by simp) (by simp [Value.oneCell']) ?_); intro w3 H1 hle3; simp only [px] at H1; (try clear F); clear H; have H := Lib.hid H1; have F := H1.facts; simp only [fxx, ec, iv, facts_txo, macs] at F; clear H1))
      go_ret
      exact ⟨rfl, HT.out _ (H.out.has 1 rfl), H.out.base⟩
  · have Ht : Hid (decide (0 ≤ t ∧ t ≤ 1099511627776) = false) := by unfold Hid; simpa using ht
    unfold touchR
    rw [if_neg ht]
    go_enter Try.func26, Try.ntmps26
    go_wp2_with (first
      | (go_at_call 30; refine (none_any _ false _ (tab_none (HT.out _ (by first | exact H.out.has 0 rfl | exact H.out.has 1 rfl)))).mono ?_; rintro e w5 ⟨rfl, rfl⟩)
      | (go_at_call 36; refine (timed_any _ _).mono ?_; rintro e w5 ⟨rfl, rfl⟩; rw [Ht.out])
      | (show wpList _ _ _ _ _ (World.drewN _ _); refine wl_drewN H.out ?_; intro w4 H1 hle4; (try clear F); clear H; have H := Lib.hid H1; have F := H1.facts; simp only [fxx, ec, iv, facts_txo, macs] at F; clear H1)
      | (show Code.wp _ _ _ _ (World.drewN _ _); refine cw_drewN H.out ?_; intro w4 H1 hle4; (try clear F); clear H; have H := Lib.hid H1; have F := H1.facts; simp only [fxx, ec, iv, facts_txo, macs] at F; clear H1)
      | (show wpList _ _ _ _ _ (World.alloc _ _); refine wl_absorb H.out ?_; intro w1 H1 hlt1; (try clear F); clear H; have H := Lib.hid H1; have F := H1.facts; simp only [fxx, ec, iv, facts_txo, macs] at F; clear H1)
      | (show Code.wp _ _ _ _ (World.alloc _ _); refine cw_absorb H.out ?_; intro w2 H1 hlt2; (try clear F); clear H; have H := Lib.hid H1; have F := H1.facts; simp only [fxx, ec, iv, facts_txo, macs] at F; clear H1)
      | (show wpList _ _ _ (Oper.mk none (Op.store _ _ _) _ _ _ _ :: _) _ _; (first | refine wl_store H.out 0 rfl rfl rfl (by rfl) (by simp [Act.eval, Value.cells]; rfl) (by kernel_rfl) (by simp) (by simp [Value.oneCell']) ?_ | refine wl_store H.out 1 rfl rfl rfl (by rfl) (by simp [Act.eval, Value.cells]; rfl) (by kernel_rfl) (by simp) (by simp [Value.oneCell']) ?_); intro w3 H1 hle3; simp only [px] at H1; (try clear F); clear H; have H := Lib.hid H1; have F := H1.facts; simp only [fxx, ec, iv, facts_txo, macs] at F; clear H1))
    go_ret
    exact ⟨rfl, HT.out _ (H.out.has 0 rfl), H.out.base⟩
end Go.Proofs.Ytkifagflnpkkaaa
