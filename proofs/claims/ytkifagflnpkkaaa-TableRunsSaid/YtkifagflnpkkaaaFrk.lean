/- Table.Fork. No condition. -/
import Derived.Test.YtkifagflnpkkaaaFka
namespace Go.Proofs.Ytkifagflnpkkaaa
set_option linter.unusedSimpArgs false
set_option linter.unusedVariables false
-- FSX: ec, iv, facts_txc, macs
open Go.RowKit
set_option maxRecDepth 10000

/-- a fork that is half made -/
def FC (n : Nat) (L : List EntL) (i : Nat) (q : EntL → Bool) : Tag → List EntL
  | .key s => if s < i then ofShard n s L else []
  | .val s => if s < i then ofShard n s L else []
  | .mk m => L.filter fun e => decide (e.mac = m) && q e
  | .mv m => L.filter fun e => decide (e.mac = m) && q e
def qAt (n i : Nat) (e : EntL) : Bool := decide (e.id.toNat % n < i)
def qIn (n : Nat) (L : List EntL) (i j : Nat) (e : EntL) : Bool := decide (e.id.toNat % n < i) || (decide (e.id.toNat % n = i) && decide (e ∈ (ofShard n i L).take j))
theorem fc_congr {n i : Nat} {L : List EntL} {q q' : EntL → Bool} (h : ∀ e ∈ L, q e = q' e) : FC n L i q = FC n L i q' := by
  funext t
  cases t with
  | key s => rfl
  | val s => rfl
  | mk m => exact List.filter_congr fun e he => by rw [h e he]
  | mv m => exact List.filter_congr fun e he => by rw [h e he]
theorem fc_start (n : Nat) (L : List EntL) : FC n L 0 (qAt n 0) = Cont n [] := by
  funext t
  cases t with
  | key s => show (if s < 0 then ofShard n s L else []) = _; rw [if_neg (by omega)]; rfl
  | val s => show (if s < 0 then ofShard n s L else []) = _; rw [if_neg (by omega)]; rfl
  | mk m => exact List.filter_eq_nil_iff.2 fun e _ => by simp [qAt]
  | mv m => exact List.filter_eq_nil_iff.2 fun e _ => by simp [qAt]
theorem fc_lay (n i : Nat) (L : List EntL) (q : EntL → Bool) : two (.key i) (.val i) (ofShard n i L) (ofShard n i L) (FC n L i q) = FC n L (i + 1) q := by
  funext t
  cases t with
  | key s =>
    by_cases e : s = i
    · subst e; rw [two_1]; show _ = if s < s + 1 then ofShard n s L else []; rw [if_pos (by omega)]
    · rw [two_3 (by intro h; cases h; exact e rfl) (by intro h; cases h)]
      show (if s < i then ofShard n s L else []) = if s < i + 1 then ofShard n s L else []
      by_cases h : s < i
      · rw [if_pos h, if_pos (by omega)]
      · rw [if_neg h, if_neg (by omega)]
  | val s =>
    by_cases e : s = i
    · subst e; rw [two_2 (by intro h; cases h)]; show _ = if s < s + 1 then ofShard n s L else []; rw [if_pos (by omega)]
    · rw [two_3 (by intro h; cases h) (by intro h; cases h; exact e rfl)]
      show (if s < i then ofShard n s L else []) = if s < i + 1 then ofShard n s L else []
      by_cases h : s < i
      · rw [if_pos h, if_pos (by omega)]
      · rw [if_neg h, if_neg (by omega)]
  | mk m => rw [two_3 (by intro h; cases h) (by intro h; cases h)]; rfl
  | mv m => rw [two_3 (by intro h; cases h) (by intro h; cases h)]; rfl
theorem fc_end {n : Nat} {L : List EntL} (hn : 1 ≤ n) (t : Tag) : FC n L n (qAt n n) t = Cont n L t := by
  have hlt : ∀ e : EntL, e.id.toNat % n < n := fun e => Nat.mod_lt _ (by omega)
  cases t with
  | key s =>
    show (if s < n then ofShard n s L else []) = _
    by_cases h : s < n
    · rw [if_pos h]; rfl
    · rw [if_neg h]; exact (List.filter_eq_nil_iff.2 fun e _ => by have := hlt e; simp; omega).symm
  | val s =>
    show (if s < n then ofShard n s L else []) = _
    by_cases h : s < n
    · rw [if_pos h]; rfl
    · rw [if_neg h]; exact (List.filter_eq_nil_iff.2 fun e _ => by have := hlt e; simp; omega).symm
  | mk m => exact List.filter_congr fun e he => by simp [qAt, hlt e]
  | mv m => exact List.filter_congr fun e he => by simp [qAt, hlt e]
theorem fc_note {n i : Nat} {L : List EntL} (hs : L.Pairwise (fun a b => a.id < b.id)) {x : EntL} (hx : x ∈ L) {q q' : EntL → Bool} (hq : q x = false) (hq' : ∀ e ∈ L, q' e = (q e || decide (e = x))) :
    two (.mk x.mac) (.mv x.mac) (insE (FC n L i q (.mv x.mac)) x) (insE (FC n L i q (.mv x.mac)) x) (FC n L i q) = FC n L i q' := by
  have h1 : insE (FC n L i q (.mv x.mac)) x = L.filter fun e => decide (e.mac = x.mac) && q' e := insE_filterF hs hx (by simp [hq]) fun e he => by
    rw [hq' e he]
    by_cases h : e = x
    · subst h; simp
    · simp [h]
  have h2 : ∀ m, m ≠ x.mac → (L.filter fun e => decide (e.mac = m) && q e) = L.filter fun e => decide (e.mac = m) && q' e := fun m hm => List.filter_congr fun e he => by
    rw [hq' e he]
    by_cases h : e = x
    · rw [h, decide_eq_false (fun h' => hm h'.symm)]; simp
    · simp [h]
  rw [h1]
  funext t
  cases t with
  | key s => rw [two_3 (by intro h; cases h) (by intro h; cases h)]; rfl
  | val s => rw [two_3 (by intro h; cases h) (by intro h; cases h)]; rfl
  | mk m =>
    by_cases e : m = x.mac
    · subst e; rw [two_1]; rfl
    · rw [two_3 (by intro h; cases h; exact e rfl) (by intro h; cases h)]; exact h2 m e
  | mv m =>
    by_cases e : m = x.mac
    · subst e; rw [two_2 (by intro h; cases h)]; rfl
    · rw [two_3 (by intro h; cases h) (by intro h; cases h; exact e rfl)]; exact h2 m e
theorem qIn_zero (n : Nat) (L : List EntL) (i : Nat) : qIn n L i 0 = qAt n i := by funext e; simp [qIn, qAt]
theorem qIn_end {n : Nat} {L : List EntL} {i : Nat} (e : EntL) (he : e ∈ L) : qIn n L i (ofShard n i L).length e = qAt n (i + 1) e := by
  unfold qIn qAt
  rw [List.take_length]
  by_cases h : e.id.toNat % n = i
  · have : e ∈ ofShard n i L := List.mem_filter.2 ⟨he, by simpa using h⟩
    simp [h, this]
  · simp only [h, decide_false, Bool.false_and, Bool.or_false, decide_eq_decide]; omega
theorem qIn_step {n : Nat} {L : List EntL} {i j : Nat} {x : EntL} (hx : (ofShard n i L)[j]? = some x) (hnd : (ofShard n i L).Pairwise (fun a b => a.id < b.id)) : qIn n L i j x = false ∧ ∀ e, qIn n L i (j + 1) e = (qIn n L i j e || decide (e = x)) := by
  have hxm := (List.mem_filter.1 (List.mem_of_getElem? hx)).2
  have hxi : x.id.toNat % n = i := by simpa using hxm
  obtain ⟨hj, hxe⟩ := List.getElem?_eq_some_iff.1 hx
  have hno : x ∉ (ofShard n i L).take j := fun h => by
    obtain ⟨k, hk, hk2⟩ := List.mem_iff_getElem.1 h
    rw [List.length_take] at hk
    rw [List.getElem_take] at hk2
    have := List.pairwise_iff_getElem.1 hnd k j (by omega) hj (by omega)
    rw [hk2, hxe] at this; omega
  refine ⟨by unfold qIn; rw [hxi]; simp [hno], fun e => ?_⟩
  unfold qIn
  rw [List.take_add_one, hx]
  simp only [Option.toList_some, List.mem_append, List.mem_singleton]
  by_cases h : e = x
  · subst h; simp [hxi]
  · simp [h]
theorem St.txg {w0 w w' : World} {G z : Nat → Prop} {O : List As} {R : List Rd} (H : St w0 G z O R w) (i : Nat) {T S M n : Nat} {C C' : Tag → List EntL} {A : Nat → Prop} (hO : O[i]? = some (txc T S M n C A)) (ht : TX w' T S M n C' (fun b => A b ∨ (w.heap.size ≤ b ∧ b < w'.heap.size))) (hk : Kpt w w' A) :
    St w0 G z (O.set i (txc T S M n C' (fun b => A b ∨ (w.heap.size ≤ b ∧ b < w'.heap.size)))) R w' := by
  have := H.upd i hO (txc T S M n C' (fun b => A b ∨ (w.heap.size ≤ b ∧ b < w'.heap.size))) (w' := w') hk ht (fun b hb => hb.imp id And.left) [] (by simp)
  simpa using this
theorem St.txget {w0 w w' : World} {G z : Nat → Prop} {O : List As} {R : List Rd} (H : St w0 G z O R w) (hb : Below w.heap.size w w') {T S M n : Nat} {C : Tag → List EntL} {A : Nat → Prop} (ht : TX w' T S M n C A) (hA : ∀ b, A b → w.heap.size ≤ b) : St w0 G z (txc T S M n C A :: O) R w' := H.gets hb (txc T S M n C A) ht hA
theorem old_zone {w0 w : World} {z : Nat → Prop} {O : List As} {T : List Rd} (H : St w0 (fun _ => False) z O T w) {b : Nat} (hb : b < w0.heap.size) (hz : z b) : zone w0 z O w b :=
  ⟨fun _ => hz, Nat.lt_of_lt_of_le hb H.base.size, fun o ho hf => by rcases H.new o ho b hf with h | h; omega; exact h⟩

set_option maxHeartbeats 4000000 in
theorem fork_any (T n : Nat) (L : List EntL) (A : Nat → Prop) (w : World) (h : Tab w T n L A) :
    Calls Try.prog 28 #[.pointer (some ⟨T, 0, none⟩)] w fun e w' => ∃ X A', e = .returned (.pointer (some ⟨X, 0, none⟩)) ∧ Below w.heap.size w w' ∧ Tab w' X n L A' ∧ ∀ b, A' b → w.heap.size ≤ b := by
  obtain ⟨hG, hn1, hn2⟩ := tab_good h
  have HN : Hid (∀ W, Below w.heap.size w W → NoneIs W (.pointer (some ⟨T, 0, none⟩)) false) := fun W hb => tab_none (tab_below h hb)
  obtain ⟨S, M, V, hx, -⟩ := h
  obtain ⟨h1, ⟨cs, h2, h2z, h2s⟩, -, ⟨h4, -⟩, -⟩ := hx
  have hTl := (Array.getElem?_eq_some_iff.1 h1).1
  have hSl := (Array.getElem?_eq_some_iff.1 h2).1
  have H := Lib.hid (St.start w (fun _ => True) [rdE T 0 [.map (some M), .slice (some ⟨S, 0, none⟩) n n]] (by simp only [List.mem_singleton, forall_eq]; exact ⟨trivial, by unfold rng; rw [h1]; rfl⟩))
  have HG := Lib.hid hG
  have HSh : Hid (∀ i, i < n → ∃ ak ck au cu, rng w S (i * 2) 2 = some [.slice ak (ofShard n i L).length ck, .slice au (ofShard n i L).length cu] ∧ SlZ rEnt (fun b => b < w.heap.size) w (.slice au (ofShard n i L).length cu) (ofShard n i L) ∧
      ∀ W, Below w.heap.size w W → Calls Try.prog 48 #[.agg #[.slice ak (ofShard n i L).length ck, .slice au (ofShard n i L).length cu]] W fun e w' => ∃ g1 c1 g2 c2, e = .returned (.agg #[.slice g1 (ofShard n i L).length c1, .slice g2 (ofShard n i L).length c2]) ∧ Below W.heap.size W w' ∧ w'.ownsRow W.heap.size 3 1 (.slice g1 (ofShard n i L).length c1) (ofShard n i L).length (((ofShard n i L).map fun e : EntL => e.id).map iv) ∧ w'.ownsRow W.heap.size 40 8 (.slice g2 (ofShard n i L).length c2) (ofShard n i L).length (ecs (ofShard n i L)) ∧ ∀ b, (Value.slice g1 (ofShard n i L).length c1).ownBlock = some b → (Value.slice g2 (ofShard n i L).length c2).ownBlock ≠ some b) := fun i hi => by
    have rk : w.ownsRow 0 3 1 (V (.key i)) (ofShard n i L).length _ := h4 (.key i)
    have rv : w.ownsRow 0 40 8 (V (.val i)) (ofShard n i L).length (ecs (ofShard n i L)) := h4 (.val i)
    obtain ⟨c0, c1⟩ := h2s i hi
    obtain ⟨ak, ck, e1⟩ := own_shape rk
    obtain ⟨au, cu, e2⟩ := own_shape rv
    rw [e1] at rk c0
    rw [e2] at rv c1
    refine ⟨ak, ck, au, cu, ?_, slz_vec rv ec_len (by decide) (fun b hb => (rv.lt b hb).2) (fun _ _ => rfl), fun W hb => copied_any _ _ _ _ _ W (own_below rk hb) (own_below rv hb) (by have : (ofShard n i L).length ≤ 65534 := hG.flen _; omega)⟩
    refine rng_of (cs := [_, _]) (fun j v hv => ?_) (by simp)
    rw [cell_of_row w S _ _ _ _ h2]
    match j, hv with
    | 0, hv => simpa using c0.trans (by simpa using hv)
    | 1, hv => simpa using c1.trans (by simpa using hv)
    | j + 2, hv => simp at hv
  clear hG h1 h2 h2z h2s h4
  (try clear F); have F := H.out.facts; simp only [fxx, ec, iv, facts_txc, macs] at F
  go_enter Try.func28, Try.ntmps28
  go_wp2_with (first
    | (go_at_call 30; refine (none_any _ false _ (HN.out _ H.out.below')).mono ?_; rintro e w5 ⟨rfl, he⟩; rw [he]; clear he w5)
    | (go_at_call 23; refine (new_yes n hn1 hn2 _).mono ?_; rintro e w5 ⟨X, rfl, -, hb, ht⟩; obtain ⟨S', M', hx⟩ := tab_tx ht; rw [← fc_start n L] at hx; have H1 := H.out.txget hb hx (fun b hb => hb.1); clear hb ht hx; (try clear F); clear H; have H := Lib.hid H1; have F := H1.facts; simp only [fxx, ec, iv, facts_txc, macs] at F; clear H1)
    | (show wpList _ _ _ _ _ (World.drewN _ _); refine wl_drewN H.out ?_; intro w4 H1 hle4; (try clear F); clear H; have H := Lib.hid H1; have F := H1.facts; simp only [fxx, ec, iv, facts_txc, macs] at F; clear H1)
    | (show Code.wp _ _ _ _ (World.drewN _ _); refine cw_drewN H.out ?_; intro w4 H1 hle4; (try clear F); clear H; have H := Lib.hid H1; have F := H1.facts; simp only [fxx, ec, iv, facts_txc, macs] at F; clear H1)
    | (show wpList _ _ _ _ _ (World.alloc _ _); refine wl_absorb H.out ?_; intro w1 H1 hlt1; (try clear F); clear H; have H := Lib.hid H1; have F := H1.facts; simp only [fxx, ec, iv, facts_txc, macs] at F; clear H1)
    | (show Code.wp _ _ _ _ (World.alloc _ _); refine cw_absorb H.out ?_; intro w2 H1 hlt2; (try clear F); clear H; have H := Lib.hid H1; have F := H1.facts; simp only [fxx, ec, iv, facts_txc, macs] at F; clear H1)
    | (show wpList _ _ _ (Oper.mk none (Op.store _ _ _) _ _ _ _ :: _) _ _; (first | refine wl_store H.out 0 rfl rfl rfl (by rfl) (by simp [Act.eval, Value.cells]; rfl) (by kernel_rfl) (by simp) (by simp [Value.oneCell']) ?_ | refine wl_store H.out 1 rfl rfl rfl (by rfl) (by simp [Act.eval, Value.cells]; rfl) (by kernel_rfl) (by simp) (by simp [Value.oneCell']) ?_); intro w3 H1 hle3; (try show wpList _ _ _ _ ⟨_, _⟩ _); simp only [px] at H1; (try clear F); clear H; have H := Lib.hid H1; have F := H1.facts; simp only [fxx, ec, iv, facts_txc, macs] at F; clear H1))
  clear F
  go_loopw [25] (fun v wr => ∃ (i : Nat) (A' : Nat → Prop), i ≤ n ∧ v = .int .i64 i ∧ St w (fun _ => False) (fun _ => True) [txc X S' M' n (FC n L i (qAt n i)) A'] [rdE T 0 [.map (some M), .slice (some ⟨S, 0, none⟩) n n]] wr) (fun v _ => n - (intOf v).toNat)
  case atStart => exact ⟨0, _, Nat.zero_le _, rfl, H.out⟩
  case round =>
    obtain ⟨i, A', hi, rfl, hS⟩ := hrel
    clear H
    by_cases hlt : i < n
    · have hlt' : (i : Int) < n := by omega
      obtain ⟨ak, ck, au, cu, hr, hz, hc⟩ := HSh.out i hlt
      have hrs := rng_lt hr
      have hB := hS.below'
      have hr' : rng wr S (i * 2) 2 = _ := (rng_same (hB.block S hrs) _ _).trans hr
      have H := Lib.hid ((hS.also (rdS rEnt (.slice au (ofShard n i L).length cu) (ofShard n i L)) (SlZ.stay hz fun b hb _ => ⟨hB.block b hb, old_zone hS hb trivial⟩)).also (rdE S (i * 2) [.slice ak (ofShard n i L).length ck, .slice au (ofShard n i L).length cu]) ⟨old_zone hS hrs trivial, hr'⟩)
      have HC := Lib.hid hc
      have hxl : (ofShard n i L).length ≤ 65534 := HG.out.flen _
      have HLa := Lib.hid (fc_lay n i L (qAt n i))
      have HEn : Hid (FC n L (i + 1) (qIn n L i (ofShard n i L).length) = FC n L (i + 1) (qAt n (i + 1))) := fc_congr fun e he => qIn_end e he
      have HSt : Hid (∀ j x, (ofShard n i L)[j]? = some x → x ∈ L ∧ qIn n L i j x = false ∧ ∀ e, qIn n L i (j + 1) e = (qIn n L i j e || decide (e = x))) := fun j x hx => ⟨(List.mem_filter.1 (List.mem_of_getElem? hx)).1, qIn_step hx (HG.out.filter _)⟩
      clear hS hz hr hr' hc hB
      generalize ofShard n i L = us at *
      (try clear F); have F := H.out.facts; simp only [fxx, ec, iv, facts_txc, macs] at F
      go_wp2_with (first
        | (show wpList _ _ _ _ _ (World.drewN _ _); refine wl_drewN H.out ?_; intro w4 H1 hle4; (try clear F); clear H; have H := Lib.hid H1; have F := H1.facts; simp only [fxx, ec, iv, facts_txc, macs] at F; clear H1)
        | (show Code.wp _ _ _ _ (World.drewN _ _); refine cw_drewN H.out ?_; intro w4 H1 hle4; (try clear F); clear H; have H := Lib.hid H1; have F := H1.facts; simp only [fxx, ec, iv, facts_txc, macs] at F; clear H1)
        | (show wpList _ _ _ _ _ (World.alloc _ _); refine wl_absorb H.out ?_; intro w1 H1 hlt1; (try clear F); clear H; have H := Lib.hid H1; have F := H1.facts; simp only [fxx, ec, iv, facts_txc, macs] at F; clear H1)
        | (show Code.wp _ _ _ _ (World.alloc _ _); refine cw_absorb H.out ?_; intro w2 H1 hlt2; (try clear F); clear H; have H := Lib.hid H1; have F := H1.facts; simp only [fxx, ec, iv, facts_txc, macs] at F; clear H1)
        | (show wpList _ _ _ (Oper.mk none (Op.store _ _ _) _ _ _ _ :: _) _ _; (first | refine wl_store H.out 0 rfl rfl rfl (by rfl) (by simp [Act.eval, Value.cells]; rfl) (by kernel_rfl) (by simp) (by simp [Value.oneCell']) ?_ | refine wl_store H.out 1 rfl rfl rfl (by rfl) (by simp [Act.eval, Value.cells]; rfl) (by kernel_rfl) (by simp) (by simp [Value.oneCell']) ?_); intro w3 H1 hle3; (try show wpList _ _ _ _ ⟨_, _⟩ _); simp only [px] at H1; (try clear F); clear H; have H := Lib.hid H1; have F := H1.facts; simp only [fxx, ec, iv, facts_txc, macs] at F; clear H1))
      have H1 := H.out.front 1 rfl; simp only [List.eraseIdx_cons_succ, List.eraseIdx_cons_zero] at H1; (try clear F); clear H; have H := Lib.hid H1; have F := H1.facts; simp only [fxx, ec, iv, facts_txc, macs] at F; clear H1
      refine rz_start H.out (List.sublist_cons_self _ _) (by kernel_rfl) ?_; intro w4 H1 hle4; (try clear F); clear H; have H := Lib.hid H1; have F := H1.facts; simp only [fxx, ec, iv, facts_txc, macs] at F; clear H1
      refine rz_reads [0, 1, 2, 4, 5] (by kernel_rfl) (H.out.sub (by first | exact List.Sublist.refl _ | exact List.sublist_cons_self _ _ | exact (List.sublist_cons_self _ _).trans (List.sublist_cons_self _ _) | exact ((List.sublist_cons_self _ _).trans (List.sublist_cons_self _ _)).trans (List.sublist_cons_self _ _) | (repeat (first | exact List.Sublist.slnil | exact List.nil_sublist _ | apply List.Sublist.cons_cons | apply List.Sublist.cons))) (by intro _ h; first | exact h | exact .tail _ h | exact .tail _ (.tail _ h) | exact .tail _ (.tail _ (.tail _ h)) | exact .tail _ (.tail _ (.tail _ (.tail _ h))) | (simp only [List.mem_cons, List.not_mem_nil, or_false] at h ⊢; first | (simp [h]; done) | (rcases h with h | h <;> simp [h]; done) | (rcases h with h | h | h <;> simp [h]; done) | (rcases h with h | h | h | h <;> simp [h]; done)))) (fun d _ _ _ _ h => by cases d <;> exact h) ?_; (repeat first | (refine rd_skip rfl (by rfl) ?_; simp only [pz]) | (refine rd_step (v := ?_) rfl (by rfl) ?_ ?_; rotate_left 1; (focus intro W hW; have F := St.facts hW; simp only [fxx, ec, iv, facts_txc, macs] at F; go_simp; all_goals with_reducible rfl); simp only [pz])); refine rd_end ?_; show wpAnyH _ _ _ _ _ _ _ _ _
      refine rz_two 3 6 (by kernel_rfl) ?_ ?_
      refine ss_val rfl (by rfl) (v := ?_) ?_ (H.out.sub (by first | exact List.Sublist.refl _ | exact List.sublist_cons_self _ _ | exact (List.sublist_cons_self _ _).trans (List.sublist_cons_self _ _) | exact ((List.sublist_cons_self _ _).trans (List.sublist_cons_self _ _)).trans (List.sublist_cons_self _ _) | (repeat (first | exact List.Sublist.slnil | exact List.nil_sublist _ | apply List.Sublist.cons_cons | apply List.Sublist.cons))) (by intro _ h; first | exact h | exact .tail _ h | exact .tail _ (.tail _ h) | exact .tail _ (.tail _ (.tail _ h)) | exact .tail _ (.tail _ (.tail _ (.tail _ h))) | (simp only [List.mem_cons, List.not_mem_nil, or_false] at h ⊢; first | (simp [h]; done) | (rcases h with h | h <;> simp [h]; done) | (rcases h with h | h | h <;> simp [h]; done) | (rcases h with h | h | h | h <;> simp [h]; done)))) ?_; (rotate_left 1; (focus go_simp; all_goals with_reducible rfl)); simp only [pz]
      refine rz_one 6 (by kernel_rfl) ?_
      refine ss_call rfl (by rfl) (f := 48) (args := ?_) ?_ ?_; (rotate_left 1; (focus go_simp; all_goals with_reducible rfl))
      refine (HC.out _ H.out.below').mono ?_; rintro e w5 ⟨g1, c1, g2, c2, rfl, hb, hk, hu, hd⟩; have H1 := H.out.getvv hb hk hu hd; clear hb hk hu hd
      refine ⟨_, rfl, H1.sub (by first | exact List.Sublist.refl _ | exact List.sublist_cons_self _ _ | exact (List.sublist_cons_self _ _).trans (List.sublist_cons_self _ _) | exact ((List.sublist_cons_self _ _).trans (List.sublist_cons_self _ _)).trans (List.sublist_cons_self _ _) | (repeat (first | exact List.Sublist.slnil | exact List.nil_sublist _ | apply List.Sublist.cons_cons | apply List.Sublist.cons))) (by intro _ h; first | exact h | exact .tail _ h | exact .tail _ (.tail _ h) | exact .tail _ (.tail _ (.tail _ h)) | exact .tail _ (.tail _ (.tail _ (.tail _ h))) | (simp only [List.mem_cons, List.not_mem_nil, or_false] at h ⊢; first | (simp [h]; done) | (rcases h with h | h <;> simp [h]; done) | (rcases h with h | h | h <;> simp [h]; done) | (rcases h with h | h | h | h <;> simp [h]; done))), ?_⟩
      (try clear F); clear H; have H := Lib.hid H1; have F := H1.facts; simp only [fxx, ec, iv, facts_txc, macs] at F; clear H1
      simp only [pz]
      refine rz_reads [7] (by kernel_rfl) (H.out.sub (by first | exact List.Sublist.refl _ | exact List.sublist_cons_self _ _ | exact (List.sublist_cons_self _ _).trans (List.sublist_cons_self _ _) | exact ((List.sublist_cons_self _ _).trans (List.sublist_cons_self _ _)).trans (List.sublist_cons_self _ _) | (repeat (first | exact List.Sublist.slnil | exact List.nil_sublist _ | apply List.Sublist.cons_cons | apply List.Sublist.cons))) (by intro _ h; first | exact h | exact .tail _ h | exact .tail _ (.tail _ h) | exact .tail _ (.tail _ (.tail _ h)) | exact .tail _ (.tail _ (.tail _ (.tail _ h))) | (simp only [List.mem_cons, List.not_mem_nil, or_false] at h ⊢; first | (simp [h]; done) | (rcases h with h | h <;> simp [h]; done) | (rcases h with h | h | h <;> simp [h]; done) | (rcases h with h | h | h | h <;> simp [h]; done)))) (fun d _ _ _ _ h => by cases d <;> exact h) ?_; (repeat first | (refine rd_skip rfl (by rfl) ?_; simp only [pz]) | (refine rd_step (v := ?_) rfl (by rfl) ?_ ?_; rotate_left 1; (focus intro W hW; have F := St.facts hW; simp only [fxx, ec, iv, facts_txc, macs] at F; go_simp; all_goals with_reducible rfl); simp only [pz])); refine rd_end ?_; show wpAnyH _ _ _ _ _ _ _ _ _
      refine rz_one 8 (by kernel_rfl) ?_
      obtain ⟨W, u1, H1, hle⟩ := st_lay (P := Try.prog) H.out hlt; refine ss_skip rfl (by rfl) (exec_store_at rfl (by rfl) (by rfl) (by kernel_rfl) u1) (H1.sub (List.sublist_cons_self _ _) (fun _ h => h)) ?_; clear u1; rw [HLa.out] at H1; (try clear F); clear H; have H := Lib.hid H1; have F := H1.facts; simp only [fxx, ec, iv, facts_txc, macs] at F; clear H1; simp only [pz]
      refine rz_done (by kernel_rfl) ?_
      rotate_left 1
      refine ss_call rfl (by rfl) (f := 48) (args := ?_) ?_ ?_; (rotate_left 1; (focus go_simp; all_goals with_reducible rfl))
      refine (HC.out _ H.out.below').mono ?_; rintro e w5 ⟨g1, c1, g2, c2, rfl, hb, hk, hu, hd⟩; have H1 := H.out.getvv hb hk hu hd; clear hb hk hu hd
      refine ⟨_, rfl, H1.sub (by first | exact List.Sublist.refl _ | exact List.sublist_cons_self _ _ | exact (List.sublist_cons_self _ _).trans (List.sublist_cons_self _ _) | exact ((List.sublist_cons_self _ _).trans (List.sublist_cons_self _ _)).trans (List.sublist_cons_self _ _) | (repeat (first | exact List.Sublist.slnil | exact List.nil_sublist _ | apply List.Sublist.cons_cons | apply List.Sublist.cons))) (by intro _ h; first | exact h | exact .tail _ h | exact .tail _ (.tail _ h) | exact .tail _ (.tail _ (.tail _ h)) | exact .tail _ (.tail _ (.tail _ (.tail _ h))) | (simp only [List.mem_cons, List.not_mem_nil, or_false] at h ⊢; first | (simp [h]; done) | (rcases h with h | h <;> simp [h]; done) | (rcases h with h | h | h <;> simp [h]; done) | (rcases h with h | h | h | h <;> simp [h]; done))), ?_⟩
      (try clear F); clear H; have H := Lib.hid H1; have F := H1.facts; simp only [fxx, ec, iv, facts_txc, macs] at F; clear H1
      simp only [pz]
      refine rz_one 3 (by kernel_rfl) ?_
      refine ss_val rfl (by rfl) (v := ?_) ?_ (H.out.sub (by first | exact List.Sublist.refl _ | exact List.sublist_cons_self _ _ | exact (List.sublist_cons_self _ _).trans (List.sublist_cons_self _ _) | exact ((List.sublist_cons_self _ _).trans (List.sublist_cons_self _ _)).trans (List.sublist_cons_self _ _) | (repeat (first | exact List.Sublist.slnil | exact List.nil_sublist _ | apply List.Sublist.cons_cons | apply List.Sublist.cons))) (by intro _ h; first | exact h | exact .tail _ h | exact .tail _ (.tail _ h) | exact .tail _ (.tail _ (.tail _ h)) | exact .tail _ (.tail _ (.tail _ (.tail _ h))) | (simp only [List.mem_cons, List.not_mem_nil, or_false] at h ⊢; first | (simp [h]; done) | (rcases h with h | h <;> simp [h]; done) | (rcases h with h | h | h <;> simp [h]; done) | (rcases h with h | h | h | h <;> simp [h]; done)))) ?_; (rotate_left 1; (focus go_simp; all_goals with_reducible rfl)); simp only [pz]
      refine rz_reads [7] (by kernel_rfl) (H.out.sub (by first | exact List.Sublist.refl _ | exact List.sublist_cons_self _ _ | exact (List.sublist_cons_self _ _).trans (List.sublist_cons_self _ _) | exact ((List.sublist_cons_self _ _).trans (List.sublist_cons_self _ _)).trans (List.sublist_cons_self _ _) | (repeat (first | exact List.Sublist.slnil | exact List.nil_sublist _ | apply List.Sublist.cons_cons | apply List.Sublist.cons))) (by intro _ h; first | exact h | exact .tail _ h | exact .tail _ (.tail _ h) | exact .tail _ (.tail _ (.tail _ h)) | exact .tail _ (.tail _ (.tail _ (.tail _ h))) | (simp only [List.mem_cons, List.not_mem_nil, or_false] at h ⊢; first | (simp [h]; done) | (rcases h with h | h <;> simp [h]; done) | (rcases h with h | h | h <;> simp [h]; done) | (rcases h with h | h | h | h <;> simp [h]; done)))) (fun d _ _ _ _ h => by cases d <;> exact h) ?_; (repeat first | (refine rd_skip rfl (by rfl) ?_; simp only [pz]) | (refine rd_step (v := ?_) rfl (by rfl) ?_ ?_; rotate_left 1; (focus intro W hW; have F := St.facts hW; simp only [fxx, ec, iv, facts_txc, macs] at F; go_simp; all_goals with_reducible rfl); simp only [pz])); refine rd_end ?_; show wpAnyH _ _ _ _ _ _ _ _ _
      refine rz_one 8 (by kernel_rfl) ?_
      obtain ⟨W, u1, H1, hle⟩ := st_lay (P := Try.prog) H.out hlt; refine ss_skip rfl (by rfl) (exec_store_at rfl (by rfl) (by rfl) (by kernel_rfl) u1) (H1.sub (List.sublist_cons_self _ _) (fun _ h => h)) ?_; clear u1; rw [HLa.out] at H1; (try clear F); clear H; have H := Lib.hid H1; have F := H1.facts; simp only [fxx, ec, iv, facts_txc, macs] at F; clear H1; simp only [pz]
      refine rz_done (by kernel_rfl) ?_
      all_goals
        go_wp2_with (first
          | (show wpList _ _ _ _ _ (World.drewN _ _); refine wl_drewN H.out ?_; intro w4 H1 hle4; (try clear F); clear H; have H := Lib.hid H1; have F := H1.facts; simp only [fxx, ec, iv, facts_txc, macs] at F; clear H1)
          | (show Code.wp _ _ _ _ (World.drewN _ _); refine cw_drewN H.out ?_; intro w4 H1 hle4; (try clear F); clear H; have H := Lib.hid H1; have F := H1.facts; simp only [fxx, ec, iv, facts_txc, macs] at F; clear H1)
          | (show wpList _ _ _ _ _ (World.alloc _ _); refine wl_absorb H.out ?_; intro w1 H1 hlt1; (try clear F); clear H; have H := Lib.hid H1; have F := H1.facts; simp only [fxx, ec, iv, facts_txc, macs] at F; clear H1)
          | (show Code.wp _ _ _ _ (World.alloc _ _); refine cw_absorb H.out ?_; intro w2 H1 hlt2; (try clear F); clear H; have H := Lib.hid H1; have F := H1.facts; simp only [fxx, ec, iv, facts_txc, macs] at F; clear H1)
          | (show wpList _ _ _ (Oper.mk none (Op.store _ _ _) _ _ _ _ :: _) _ _; (first | refine wl_store H.out 0 rfl rfl rfl (by rfl) (by simp [Act.eval, Value.cells]; rfl) (by kernel_rfl) (by simp) (by simp [Value.oneCell']) ?_ | refine wl_store H.out 1 rfl rfl rfl (by rfl) (by simp [Act.eval, Value.cells]; rfl) (by kernel_rfl) (by simp) (by simp [Value.oneCell']) ?_); intro w3 H1 hle3; (try show wpList _ _ _ _ ⟨_, _⟩ _); simp only [px] at H1; (try clear F); clear H; have H := Lib.hid H1; have F := H1.facts; simp only [fxx, ec, iv, facts_txc, macs] at F; clear H1))
        obtain ⟨A2, H1⟩ : ∃ A2, St w (fun _ => False) (fun _ => True) [txc X S' M' n (FC n L (i + 1) (qIn n L i 0)) A2] [rdS rEnt (.slice au us.length cu) us, rdE T 0 [.map (some M), .slice (some ⟨S, 0, none⟩) n n]] _ := ⟨_, by rw [qIn_zero]; exact H.out.sub (by repeat (first | exact List.Sublist.slnil | exact List.nil_sublist _ | apply List.Sublist.cons_cons | apply List.Sublist.cons)) (by intro _ h; simp only [List.mem_cons, List.not_mem_nil, or_false] at h ⊢; first | exact h | (simp [h]; done) | (rcases h with h | h <;> simp [h]; done) | (rcases h with h | h | h <;> simp [h]; done) | (rcases h with h | h | h | h <;> simp [h]; done))⟩
        (try clear F); clear H; have H := Lib.hid H1; have F := H1.facts; simp only [fxx, ec, iv, facts_txc, macs] at F; clear H1
        clear F
        go_loopw [41] (fun v wr => ∃ (j : Nat) (A' : Nat → Prop), j ≤ us.length ∧ v = .int .i64 j ∧ St w (fun _ => False) (fun _ => True) [txc X S' M' n (FC n L (i + 1) (qIn n L i j)) A'] [rdS rEnt (.slice au us.length cu) us, rdE T 0 [.map (some M), .slice (some ⟨S, 0, none⟩) n n]] wr) (fun v _ => us.length - (intOf v).toNat)
        case atStart => exact ⟨0, _, Nat.zero_le _, rfl, H.out⟩
        case round =>
          obtain ⟨j, A3, hj, rfl, hS⟩ := hrel
          clear H
          by_cases hjl : j < us.length
          · obtain ⟨x, hx⟩ : ∃ x, us[j]? = some x := ⟨_, List.getElem?_eq_getElem hjl⟩
            obtain ⟨b, o, cs, rfl, hzb, hr, rfl⟩ := SlZ.get (hS.rd 0 rfl) hx
            have hjl' : (j : Int) < us.length := by omega
            have H := Lib.hid (hS.also (rdE b (o + j * 8) (ec x)) ⟨hzb, hr⟩)
            obtain ⟨hxL, hq, hq'⟩ := HSt.out j x hx
            have hC : FC n L (i + 1) (qIn n L i j) (.mk x.mac) = FC n L (i + 1) (qIn n L i j) (.mv x.mac) := rfl
            have hso : (FC n L (i + 1) (qIn n L i j) (.mv x.mac)).Pairwise (fun a b => a.id < b.id) := HG.out.filter _
            have hll : (FC n L (i + 1) (qIn n L i j) (.mv x.mac)).length ≤ 100000 := Nat.le_trans (HG.out.flen _) (by decide)
            have hno : ∀ e ∈ FC n L (i + 1) (qIn n L i j) (.mv x.mac), e.id ≠ x.id := fun e he h => by
              have he' := List.mem_filter.1 he
              rw [one_of HG.out.sorted he'.1 hxL h, hq] at he'
              simp at he'
            have HNt : Hid (∀ A w, TX w X S' M' n (FC n L (i + 1) (qIn n L i j)) A → Calls Try.prog 42 #[.pointer (some ⟨X, 0, none⟩), x.mac.v, .int .i64 x.id] w fun e w' => e = .returned (.tuple #[]) ∧ TX w' X S' M' n (FC n L (i + 1) (qIn n L i (j + 1))) (fun b => A b ∨ (w.heap.size ≤ b ∧ b < w'.heap.size)) ∧ Kpt w w' A) := fun A w h => by
              have := note_tx X S' M' n _ A x.mac x w h hC hso hll hno
              rw [fc_note HG.out.sorted hxL hq (fun e _ => hq' e)] at this
              exact this
            clear hC hso hll hno hxL hq hq' hS hx hzb hr
            generalize FC n L (i + 1) (qIn n L i j) = C0 at *
            generalize hC1 : FC n L (i + 1) (qIn n L i (j + 1)) = C1 at *
            have HC1 := Lib.hid hC1
            clear hC1
            (try clear F); have F := H.out.facts; simp only [fxx, ec, iv, facts_txc, macs] at F
            go_wp2_with (first
              | (show wpList _ _ _ _ _ (World.drewN _ _); refine wl_drewN H.out ?_; intro w4 H1 hle4; (try clear F); clear H; have H := Lib.hid H1; have F := H1.facts; simp only [fxx, ec, iv, facts_txc, macs] at F; clear H1)
              | (show Code.wp _ _ _ _ (World.drewN _ _); refine cw_drewN H.out ?_; intro w4 H1 hle4; (try clear F); clear H; have H := Lib.hid H1; have F := H1.facts; simp only [fxx, ec, iv, facts_txc, macs] at F; clear H1)
              | (show wpList _ _ _ _ _ (World.alloc _ _); refine wl_absorb H.out ?_; intro w1 H1 hlt1; (try clear F); clear H; have H := Lib.hid H1; have F := H1.facts; simp only [fxx, ec, iv, facts_txc, macs] at F; clear H1)
              | (show Code.wp _ _ _ _ (World.alloc _ _); refine cw_absorb H.out ?_; intro w2 H1 hlt2; (try clear F); clear H; have H := Lib.hid H1; have F := H1.facts; simp only [fxx, ec, iv, facts_txc, macs] at F; clear H1)
              | (show wpList _ _ _ (Oper.mk none (Op.store _ _ _) _ _ _ _ :: _) _ _; (first | refine wl_store H.out 0 rfl rfl rfl (by rfl) (by simp [Act.eval, Value.cells]; rfl) (by kernel_rfl) (by simp) (by simp [Value.oneCell']) ?_ | refine wl_store H.out 1 rfl rfl rfl (by rfl) (by simp [Act.eval, Value.cells]; rfl) (by kernel_rfl) (by simp) (by simp [Value.oneCell']) ?_); intro w3 H1 hle3; (try show wpList _ _ _ _ ⟨_, _⟩ _); simp only [px] at H1; (try clear F); clear H; have H := Lib.hid H1; have F := H1.facts; simp only [fxx, ec, iv, facts_txc, macs] at F; clear H1))
            have H1 := H.out.front 1 rfl; simp only [List.eraseIdx_cons_succ, List.eraseIdx_cons_zero] at H1; (try clear F); clear H; have H := Lib.hid H1; have F := H1.facts; simp only [fxx, ec, iv, facts_txc, macs] at F; clear H1
            refine rz_start H.out (List.sublist_cons_self _ _) (by kernel_rfl) ?_; intro w4 H1 hle4; (try clear F); clear H; have H := Lib.hid H1; have F := H1.facts; simp only [fxx, ec, iv, facts_txc, macs] at F; clear H1
            refine rz_reads [0, 1, 2, 3, 4, 5, 6] (by kernel_rfl) (H.out.sub (by first | exact List.Sublist.refl _ | exact List.sublist_cons_self _ _ | exact (List.sublist_cons_self _ _).trans (List.sublist_cons_self _ _) | exact ((List.sublist_cons_self _ _).trans (List.sublist_cons_self _ _)).trans (List.sublist_cons_self _ _) | (repeat (first | exact List.Sublist.slnil | exact List.nil_sublist _ | apply List.Sublist.cons_cons | apply List.Sublist.cons))) (by intro _ h; first | exact h | exact .tail _ h | exact .tail _ (.tail _ h) | exact .tail _ (.tail _ (.tail _ h)) | exact .tail _ (.tail _ (.tail _ (.tail _ h))) | (simp only [List.mem_cons, List.not_mem_nil, or_false] at h ⊢; first | (simp [h]; done) | (rcases h with h | h <;> simp [h]; done) | (rcases h with h | h | h <;> simp [h]; done) | (rcases h with h | h | h | h <;> simp [h]; done)))) (fun d _ _ _ _ h => by cases d <;> exact h) ?_; (repeat first | (refine rd_skip rfl (by rfl) ?_; simp only [pz]) | (refine rd_step (v := ?_) rfl (by rfl) ?_ ?_; rotate_left 1; (focus intro W hW; have F := St.facts hW; simp only [fxx, ec, iv, facts_txc, macs] at F; go_simp; all_goals with_reducible rfl); simp only [pz])); refine rd_end ?_; show wpAnyH _ _ _ _ _ _ _ _ _
            refine rz_one 7 (by kernel_rfl) ?_
            refine ss_call rfl (by rfl) (f := 42) (args := ?_) ?_ ?_; (rotate_left 1; (focus go_simp; all_goals with_reducible rfl))
            refine (HNt.out A3 _ (H.out.has 0 rfl)).mono ?_; rintro e w5 ⟨rfl, ht, hk⟩; have H1 := H.out.txg 0 rfl ht hk; simp only [List.set_cons_zero] at H1; clear ht hk
            refine ⟨_, rfl, H1.sub (by first | exact List.Sublist.refl _ | exact List.sublist_cons_self _ _ | exact (List.sublist_cons_self _ _).trans (List.sublist_cons_self _ _) | exact ((List.sublist_cons_self _ _).trans (List.sublist_cons_self _ _)).trans (List.sublist_cons_self _ _) | (repeat (first | exact List.Sublist.slnil | exact List.nil_sublist _ | apply List.Sublist.cons_cons | apply List.Sublist.cons))) (by intro _ h; first | exact h | exact .tail _ h | exact .tail _ (.tail _ h) | exact .tail _ (.tail _ (.tail _ h)) | exact .tail _ (.tail _ (.tail _ (.tail _ h))) | (simp only [List.mem_cons, List.not_mem_nil, or_false] at h ⊢; first | (simp [h]; done) | (rcases h with h | h <;> simp [h]; done) | (rcases h with h | h | h <;> simp [h]; done) | (rcases h with h | h | h | h <;> simp [h]; done))), ?_⟩
            (try clear F); clear H; have H := Lib.hid H1; have F := H1.facts; simp only [fxx, ec, iv, facts_txc, macs] at F; clear H1
            simp only [pz]
            refine rz_done (by kernel_rfl) ?_
            go_wp2_with (first
              | (show wpList _ _ _ _ _ (World.drewN _ _); refine wl_drewN H.out ?_; intro w4 H1 hle4; (try clear F); clear H; have H := Lib.hid H1; have F := H1.facts; simp only [fxx, ec, iv, facts_txc, macs] at F; clear H1)
              | (show Code.wp _ _ _ _ (World.drewN _ _); refine cw_drewN H.out ?_; intro w4 H1 hle4; (try clear F); clear H; have H := Lib.hid H1; have F := H1.facts; simp only [fxx, ec, iv, facts_txc, macs] at F; clear H1)
              | (show wpList _ _ _ _ _ (World.alloc _ _); refine wl_absorb H.out ?_; intro w1 H1 hlt1; (try clear F); clear H; have H := Lib.hid H1; have F := H1.facts; simp only [fxx, ec, iv, facts_txc, macs] at F; clear H1)
              | (show Code.wp _ _ _ _ (World.alloc _ _); refine cw_absorb H.out ?_; intro w2 H1 hlt2; (try clear F); clear H; have H := Lib.hid H1; have F := H1.facts; simp only [fxx, ec, iv, facts_txc, macs] at F; clear H1)
              | (show wpList _ _ _ (Oper.mk none (Op.store _ _ _) _ _ _ _ :: _) _ _; (first | refine wl_store H.out 0 rfl rfl rfl (by rfl) (by simp [Act.eval, Value.cells]; rfl) (by kernel_rfl) (by simp) (by simp [Value.oneCell']) ?_ | refine wl_store H.out 1 rfl rfl rfl (by rfl) (by simp [Act.eval, Value.cells]; rfl) (by kernel_rfl) (by simp) (by simp [Value.oneCell']) ?_); intro w3 H1 hle3; (try show wpList _ _ _ _ ⟨_, _⟩ _); simp only [px] at H1; (try clear F); clear H; have H := Lib.hid H1; have F := H1.facts; simp only [fxx, ec, iv, facts_txc, macs] at F; clear H1))
            exact ⟨⟨j + 1, _, hjl, by go_num, by rw [HC1.out]; exact H.out.sub (by repeat (first | exact List.Sublist.slnil | exact List.nil_sublist _ | apply List.Sublist.cons_cons | apply List.Sublist.cons)) (by intro _ h; simp only [List.mem_cons, List.not_mem_nil, or_false] at h ⊢; first | exact h | (simp [h]; done) | (rcases h with h | h <;> simp [h]; done) | (rcases h with h | h | h <;> simp [h]; done) | (rcases h with h | h | h | h <;> simp [h]; done))⟩, by simp [intOf]; omega⟩
          · obtain rfl : j = us.length := by omega
            have H := Lib.hid hS
            (try clear F); have F := H.out.facts; simp only [fxx, ec, iv, facts_txc, macs] at F
            clear hS
            go_wp2_with (first
              | (show wpList _ _ _ _ _ (World.drewN _ _); refine wl_drewN H.out ?_; intro w4 H1 hle4; (try clear F); clear H; have H := Lib.hid H1; have F := H1.facts; simp only [fxx, ec, iv, facts_txc, macs] at F; clear H1)
              | (show Code.wp _ _ _ _ (World.drewN _ _); refine cw_drewN H.out ?_; intro w4 H1 hle4; (try clear F); clear H; have H := Lib.hid H1; have F := H1.facts; simp only [fxx, ec, iv, facts_txc, macs] at F; clear H1)
              | (show wpList _ _ _ _ _ (World.alloc _ _); refine wl_absorb H.out ?_; intro w1 H1 hlt1; (try clear F); clear H; have H := Lib.hid H1; have F := H1.facts; simp only [fxx, ec, iv, facts_txc, macs] at F; clear H1)
              | (show Code.wp _ _ _ _ (World.alloc _ _); refine cw_absorb H.out ?_; intro w2 H1 hlt2; (try clear F); clear H; have H := Lib.hid H1; have F := H1.facts; simp only [fxx, ec, iv, facts_txc, macs] at F; clear H1)
              | (show wpList _ _ _ (Oper.mk none (Op.store _ _ _) _ _ _ _ :: _) _ _; (first | refine wl_store H.out 0 rfl rfl rfl (by rfl) (by simp [Act.eval, Value.cells]; rfl) (by kernel_rfl) (by simp) (by simp [Value.oneCell']) ?_ | refine wl_store H.out 1 rfl rfl rfl (by rfl) (by simp [Act.eval, Value.cells]; rfl) (by kernel_rfl) (by simp) (by simp [Value.oneCell']) ?_); intro w3 H1 hle3; (try show wpList _ _ _ _ ⟨_, _⟩ _); simp only [px] at H1; (try clear F); clear H; have H := Lib.hid H1; have F := H1.facts; simp only [fxx, ec, iv, facts_txc, macs] at F; clear H1))
            exact ⟨⟨i + 1, A3, hlt, by go_num, by rw [← HEn.out]; exact H.out.sub (by repeat (first | exact List.Sublist.slnil | exact List.nil_sublist _ | apply List.Sublist.cons_cons | apply List.Sublist.cons)) (by intro _ h; simp only [List.mem_cons, List.not_mem_nil, or_false] at h ⊢; first | exact h | (simp [h]; done) | (rcases h with h | h <;> simp [h]; done) | (rcases h with h | h | h <;> simp [h]; done) | (rcases h with h | h | h | h <;> simp [h]; done))⟩, by simp [intOf]; omega⟩
    · obtain rfl : i = n := by omega
      have H := Lib.hid hS
      (try clear F); have F := H.out.facts; simp only [fxx, ec, iv, facts_txc, macs] at F
      clear hS
      go_wp2_with (first
        | (show wpList _ _ _ _ _ (World.drewN _ _); refine wl_drewN H.out ?_; intro w4 H1 hle4; (try clear F); clear H; have H := Lib.hid H1; have F := H1.facts; simp only [fxx, ec, iv, facts_txc, macs] at F; clear H1)
        | (show Code.wp _ _ _ _ (World.drewN _ _); refine cw_drewN H.out ?_; intro w4 H1 hle4; (try clear F); clear H; have H := Lib.hid H1; have F := H1.facts; simp only [fxx, ec, iv, facts_txc, macs] at F; clear H1)
        | (show wpList _ _ _ _ _ (World.alloc _ _); refine wl_absorb H.out ?_; intro w1 H1 hlt1; (try clear F); clear H; have H := Lib.hid H1; have F := H1.facts; simp only [fxx, ec, iv, facts_txc, macs] at F; clear H1)
        | (show Code.wp _ _ _ _ (World.alloc _ _); refine cw_absorb H.out ?_; intro w2 H1 hlt2; (try clear F); clear H; have H := Lib.hid H1; have F := H1.facts; simp only [fxx, ec, iv, facts_txc, macs] at F; clear H1)
        | (show wpList _ _ _ (Oper.mk none (Op.store _ _ _) _ _ _ _ :: _) _ _; (first | refine wl_store H.out 0 rfl rfl rfl (by rfl) (by simp [Act.eval, Value.cells]; rfl) (by kernel_rfl) (by simp) (by simp [Value.oneCell']) ?_ | refine wl_store H.out 1 rfl rfl rfl (by rfl) (by simp [Act.eval, Value.cells]; rfl) (by kernel_rfl) (by simp) (by simp [Value.oneCell']) ?_); intro w3 H1 hle3; (try show wpList _ _ _ _ ⟨_, _⟩ _); simp only [px] at H1; (try clear F); clear H; have H := Lib.hid H1; have F := H1.facts; simp only [fxx, ec, iv, facts_txc, macs] at F; clear H1))
      go_ret
      exact ⟨X, A', rfl, H.out.below', tx_tab (H.out.has 0 rfl) (fc_end hn1) hn1 hn2 HG.out, fun b hb => (H.out.new _ List.mem_cons_self b hb).resolve_right id⟩
end Go.Proofs.Ytkifagflnpkkaaa
