/- TableBoth: by shard and by client. No condition. -/
import Derived.Test.YtkifagflnpkkaaaTabF
namespace Go.Proofs.Ytkifagflnpkkaaa
-- FSX: ec, facts_tobj, macs
open Go.RowKit
set_option maxRecDepth 10000

def macs (m : Mac) : List Value := [bv m.a, bv m.b, bv m.c, bv m.d, bv m.e, bv m.f]
theorem St.both {w0 w w' : World} {G z : Nat → Prop} {O : List As} {T : List Rd} (H : St w0 G z O T w) (hb : Below w.heap.size w w') {B n : Nat} {L : List EntL} (h : BothAt (zone w0 z O w) w w' B n L) :
    ∃ X A ad c, St w0 G z (tobj X n L A :: va B [.pointer (some ⟨X, 0, none⟩), .int .i64 n, .slice ad L.length c] 31 :: O) (rdS rEnt (.slice ad L.length c) L :: T) w' := by
  obtain ⟨X, A, v, h1, h2, h3, h4, h5⟩ := h
  obtain ⟨ad, c, rfl, -, -⟩ := h5.shape
  refine ⟨X, A, ad, c, ?_⟩
  have := H.grow [tobj X n L A, va B [.pointer (some ⟨X, 0, none⟩), .int .i64 n, .slice ad L.length c] 31] [rdS rEnt (.slice ad L.length c) L] hb
    (by simp only [List.mem_cons, List.not_mem_nil, or_false, forall_eq_or_imp, forall_eq]; exact ⟨h2, h1⟩)
    (by simp only [List.mem_cons, List.not_mem_nil, or_false, forall_eq_or_imp, forall_eq]; exact ⟨fun b hb => (h4 b hb).1, fun b hb => by cases hb; exact h3⟩)
    (List.pairwise_cons.2 ⟨by simp only [List.mem_cons, List.not_mem_nil, or_false, forall_eq]; exact fun k hk e => (h4 k hk).2 e, List.pairwise_singleton _ _⟩)
    (by
      simp only [List.mem_singleton, forall_eq]
      refine SlZ.stay h5 (stay_wider fun b hb' _ => ⟨fun hl => (hb'.1 (Nat.lt_of_lt_of_le hl H.base.size)).1 hl, hb'.2.1, fun o ho => ?_⟩)
      rcases List.mem_append.1 ho with h | h
      · simp only [List.mem_cons, List.not_mem_nil, or_false] at h
        rcases h with rfl | rfl
        · exact hb'.2.2.2
        · exact hb'.2.2.1
      · intro hf
        exact (hb'.1 (H.lt h hf)).2.2 o h hf)
  simpa using this
theorem filled_at (z : Nat → Prop) (m : Int) (hm : 1 ≤ m ∧ m ≤ 64) (v : Value) (l : List EntL) (w : World) (hv : SlZ rEnt z w v l) :
    Calls Try.prog 9 #[.int .i64 m, v] w fun e w' => ∃ B n, e = .returned (.tuple #[.pointer (some ⟨B, 0, none⟩), .bool true]) ∧ Below w.heap.size w w' ∧ BothAt z w w' B n (fillTo (l.take 60)) := by
  obtain ⟨n, rfl⟩ : ∃ n : Nat, m = n := ⟨m.toNat, by omega⟩
  exact (filled_any z n (by omega) (by omega) v l w hv).mono fun e w' ⟨B, h⟩ => ⟨B, n, h⟩
theorem shard_tab (T n : Nat) (L : List EntL) (A : Nat → Prop) (k : Int) (w : World) (h : Tab w T n L A) :
    Calls Try.prog 12 #[.pointer (some ⟨T, 0, none⟩), .int .i64 k] w fun e w' => e = .returned (if 1 ≤ k ∧ k ≤ 65534 then .tuple #[.int .i64 ((k.toNat % n : Nat) : Int), .int .i64 0] else .tuple #[.int .i64 0, .int .i64 5]) ∧ w' = w := by
  obtain ⟨S, hc, _⟩ := tab_len h
  exact shard_any T S n k w (tab_none h) hc (tab_good h).2.1 (tab_good h).2.2
theorem count_one {l : List Int} (h : l.Pairwise (· < ·)) {k : Int} (hk : k ∈ l) : l.count k = 1 := by
  induction l with
  | nil => cases hk
  | cons x l ih =>
    rw [List.pairwise_cons] at h
    rcases List.mem_cons.1 hk with rfl | hk
    · rw [List.count_cons_self, List.count_eq_zero.2 (fun hm => by have := h.1 _ hm; omega)]
    · rw [List.count_cons_of_ne (by rintro rfl; have := h.1 _ hk; omega), ih h.2 hk]
theorem getE_mem {L : List EntL} (hs : L.Pairwise (fun a b => a.id < b.id)) {x : EntL} (hx : x ∈ L) : getE L x.id = (x, true) := by
  obtain ⟨i, hi, rfl⟩ := List.mem_iff_getElem.1 hx
  exact getE_yes hs (List.getElem?_eq_getElem hi) rfl

def idsOf (m : Mac) (L : List EntL) : List Int := (ofMac m L).map (·.id)
theorem idsOf_sorted {L : List EntL} (h : Good L) (m : Mac) : (idsOf m L).Pairwise (· < ·) := ids_sorted (h.filter _)
theorem idsOf_mem {L : List EntL} {x : EntL} (h : x ∈ L) : x.id ∈ idsOf x.mac L := List.mem_map.2 ⟨x, List.mem_filter.2 ⟨h, by simp⟩, rfl⟩
theorem idsOf_len {L : List EntL} (h : Good L) (m : Mac) : (idsOf m L).length ≤ 65534 := by unfold idsOf; rw [List.length_map]; exact h.flen _
theorem of_ids (T n : Nat) (L : List EntL) (A : Nat → Prop) (m : Mac) (w : World) (h : Tab w T n L A) :
    Calls Try.prog 14 #[.pointer (some ⟨T, 0, none⟩), m.v] w fun e w' => ∃ v, e = .returned v ∧ Below w.heap.size w w' ∧ w'.ownsRow w.heap.size 3 1 v (idsOf m L).length ((idsOf m L).map fun n => [Value.int .i64 n]).flatten := by
  refine (of_mac T n L A m w h).mono fun e w' ⟨v, h1, h2, h3⟩ => ⟨v, h1, h2, ?_⟩
  rw [ints_flat]
  unfold idsOf
  rw [List.length_map]
  exact h3

set_option maxHeartbeats 16000000 in
theorem lawBoth (z : Nat → Prop) (s : UInt8) (v : Value) (l : List EntL) (w : World) (hv : SlZ rEnt z w v l) :
    Calls Try.prog 3 #[bv s, v] w fun e w' => e = .returned (.bool true) ∧ Below w.heap.size w w' := by
  have hs := u8_lt s
  have HAwk : Hid (∀ w, Calls Try.prog 10 #[] w fun e w' => e = .returned (.bool true) ∧ Below w.heap.size w w') := awake_true
  have hG := fillTo_good (l.take 60)
  have H := Lib.hid (St.start w z [rdS rEnt _ l] (by simp only [List.mem_singleton, forall_eq]; exact hv))
  clear hv
  have HF : Hid (∀ z m, 1 ≤ m ∧ m ≤ 64 → ∀ w, SlZ rEnt z w v l → Calls Try.prog 9 #[.int .i64 m, v] w fun e w' => ∃ B n, e = .returned (.tuple #[.pointer (some ⟨B, 0, none⟩), .bool true]) ∧ Below w.heap.size w w' ∧ BothAt z w w' B n (fillTo (l.take 60))) := fun z m hm w hv => filled_at z m hm v l w hv
  generalize fillTo (l.take 60) = L at *
  unfold bv
  go_enter Try.func3, Try.ntmps3
  go_wp2_with (first
    | (show wpList _ _ _ _ _ (World.drewN _ _); refine wl_drewN H.out ?_; intro w4 H1 hle4; (try clear F); clear H; have H := Lib.hid H1; have F := H1.facts; simp only [fxx, ec, facts_tobj, macs] at F; clear H1)
    | (show Code.wp _ _ _ _ (World.drewN _ _); refine cw_drewN H.out ?_; intro w4 H1 hle4; (try clear F); clear H; have H := Lib.hid H1; have F := H1.facts; simp only [fxx, ec, facts_tobj, macs] at F; clear H1)
    | (show wpList _ _ _ _ _ (World.alloc _ _); refine wl_absorb H.out ?_; intro w1 H1 hlt1; (try clear F); clear H; have H := Lib.hid H1; have F := H1.facts; simp only [fxx, ec, facts_tobj, macs] at F; clear H1)
    | (show Code.wp _ _ _ _ (World.alloc _ _); refine cw_absorb H.out ?_; intro w2 H1 hlt2; (try clear F); clear H; have H := Lib.hid H1; have F := H1.facts; simp only [fxx, ec, facts_tobj, macs] at F; clear H1)
    | (show wpList _ _ _ (Oper.mk none (Op.store _ _ _) _ _ _ _ :: _) _ _; (first | refine wl_store H.out 0 rfl rfl rfl (by rfl) (by simp [Act.eval, Value.cells]; rfl) (by kernel_rfl) (by simp) (by simp [Value.oneCell']) ?_ | refine wl_store H.out 1 rfl rfl rfl (by rfl) (by simp [Act.eval, Value.cells]; rfl) (by kernel_rfl) (by simp) (by simp [Value.oneCell']) ?_); intro w3 H1 hle3; simp only [px] at H1; (try clear F); clear H; have H := Lib.hid H1; have F := H1.facts; simp only [fxx, ec, facts_tobj, macs] at F; clear H1)
    | (go_at_call 9; refine (HF.out _ _ (by omega) _ (H.out.rd 0 rfl)).mono ?_; rintro e w5 ⟨B, n, rfl, hb, h⟩; obtain ⟨X, A, ad, c, H1⟩ := H.out.both hb h; clear hb h; (try clear F); clear H; have H := Lib.hid H1; have F := H1.facts; simp only [fxx, ec, facts_tobj, macs] at F; clear H1)
    | (go_at_call 10; refine (HAwk.out _).mono ?_; rintro e w6 ⟨rfl, hb⟩; have H1 := H.out.same hb; clear hb; (try clear F); clear H; have H := Lib.hid H1; have F := H1.facts; simp only [fxx, ec, facts_tobj, macs] at F; clear H1))
  have hT := tab_good (H.out.has 0 rfl)
  have hGl := hG.len
  have HG := Lib.hid hG
  clear F HF hG
  go_loopw [7, 8] (fun t i wr => ∃ k : Nat, k ≤ n ∧ t = .int .i64 (lenTo n L k) ∧ i = .int .i64 k ∧ St w (fun _ => False) z [tobj X n L A, va B _ _] [rdS rEnt (.slice ad L.length c) L] wr) (fun _ i _ => n - (intOf i).toNat)
  case atStart => exact ⟨0, Nat.zero_le _, by rw [lenTo_zero]; rfl, rfl, H.out.sub (List.Sublist.refl _) (by simp)⟩
  case round =>
    obtain ⟨k, hk, rfl, rfl, hS⟩ := hrel
    replace H := Lib.hid hS
    (try clear F); have F := H.out.facts; simp only [fxx, ec, facts_tobj, macs] at F
    clear hS
    by_cases hlt : k < n
    · have hlt' : (k : Int) < n := by omega
      go_wp2_with (first
        | (show wpList _ _ _ _ _ (World.drewN _ _); refine wl_drewN H.out ?_; intro w4 H1 hle4; (try clear F); clear H; have H := Lib.hid H1; have F := H1.facts; simp only [fxx, ec, facts_tobj, macs] at F; clear H1)
        | (show Code.wp _ _ _ _ (World.drewN _ _); refine cw_drewN H.out ?_; intro w4 H1 hle4; (try clear F); clear H; have H := Lib.hid H1; have F := H1.facts; simp only [fxx, ec, facts_tobj, macs] at F; clear H1)
        | (show wpList _ _ _ _ _ (World.alloc _ _); refine wl_absorb H.out ?_; intro w1 H1 hlt1; (try clear F); clear H; have H := Lib.hid H1; have F := H1.facts; simp only [fxx, ec, facts_tobj, macs] at F; clear H1)
        | (show Code.wp _ _ _ _ (World.alloc _ _); refine cw_absorb H.out ?_; intro w2 H1 hlt2; (try clear F); clear H; have H := Lib.hid H1; have F := H1.facts; simp only [fxx, ec, facts_tobj, macs] at F; clear H1)
        | (show wpList _ _ _ (Oper.mk none (Op.store _ _ _) _ _ _ _ :: _) _ _; (first | refine wl_store H.out 0 rfl rfl rfl (by rfl) (by simp [Act.eval, Value.cells]; rfl) (by kernel_rfl) (by simp) (by simp [Value.oneCell']) ?_ | refine wl_store H.out 1 rfl rfl rfl (by rfl) (by simp [Act.eval, Value.cells]; rfl) (by kernel_rfl) (by simp) (by simp [Value.oneCell']) ?_); intro w3 H1 hle3; simp only [px] at H1; (try clear F); clear H; have H := Lib.hid H1; have F := H1.facts; simp only [fxx, ec, facts_tobj, macs] at F; clear H1)
        | (go_at_call 11; refine (list_any X n L A k hlt _ (H.out.has 0 rfl)).mono ?_; rintro e w5 ⟨x, rfl, hb, ho⟩; obtain ⟨ax, cx, rfl⟩ := own_shape ho; have H1 := H.out.call hb (rdS rEnt _ (ofShard n k L)) (own_slz ho ec_len (by decide) rfl); clear hb ho; (try clear F); clear H; have H := Lib.hid H1; have F := H1.facts; simp only [fxx, ec, facts_tobj, macs] at F; clear H1))
      clear F
      go_loopw [11] (fun i wr => ∃ j : Nat, j ≤ (ofShard n k L).length ∧ i = .int .i64 j ∧ St w (fun _ => False) z [tobj X n L A, va B _ _] [rdS rEnt (.slice ax (ofShard n k L).length cx) (ofShard n k L), rdS rEnt (.slice ad L.length c) L] wr) (fun i _ => (ofShard n k L).length - (intOf i).toNat)
      case atStart => exact ⟨0, Nat.zero_le _, rfl, H.out⟩
      case round =>
        obtain ⟨j, hj, rfl, hS⟩ := hrel
        clear H
        have hxl : (ofShard n k L).length ≤ 65534 := HG.out.flen _
        by_cases hjl : j < (ofShard n k L).length
        · obtain ⟨x, hx⟩ : ∃ x, (ofShard n k L)[j]? = some x := ⟨_, List.getElem?_eq_getElem hjl⟩
          obtain ⟨b, o, cs, rfl, hzb, hr, rfl⟩ := SlZ.get (hS.rd 0 rfl) hx
          have hr2 := rng_sub hr 1 6 (by decide)
          have H := Lib.hid ((hS.also (rdE b (o + j * 8) (ec x)) ⟨hzb, hr⟩).also (rdE b (o + j * 8 + 1) (macs x.mac)) ⟨hzb, hr2⟩)
          have hm := List.mem_of_getElem? hx
          have hm2 := List.mem_filter.1 hm
          have HMod : Hid (x.id.toNat % n = k) := by unfold Hid; simpa using hm2.2
          have hgx := HG.out.range x hm2.1
          have HE := Lib.hid (getE_mem HG.out.sorted hm2.1)
          have hjl' : (j : Int) < (ofShard n k L).length := by omega
          (try clear F); have F := H.out.facts; simp only [fxx, ec, facts_tobj, macs] at F
          have HPrev : Hid (∀ i p, (ofShard n k L)[i]? = some p → i + 1 = j → p.id < x.id) := fun i p hp e => by
            obtain ⟨h1, rfl⟩ := List.getElem?_eq_some_iff.1 hp
            obtain ⟨h2, rfl⟩ := List.getElem?_eq_some_iff.1 hx
            exact List.pairwise_iff_getElem.1 (HG.out.filter fun e => e.id.toNat % n == k) i j h1 h2 (by omega)
          clear hS hx hzb hr hr2
          go_wp2_with (first
            | (show wpList _ _ _ _ _ (World.drewN _ _); refine wl_drewN H.out ?_; intro w4 H1 hle4; (try clear F); clear H; have H := Lib.hid H1; have F := H1.facts; simp only [fxx, ec, facts_tobj, macs] at F; clear H1)
            | (show Code.wp _ _ _ _ (World.drewN _ _); refine cw_drewN H.out ?_; intro w4 H1 hle4; (try clear F); clear H; have H := Lib.hid H1; have F := H1.facts; simp only [fxx, ec, facts_tobj, macs] at F; clear H1)
            | (show wpList _ _ _ _ _ (World.alloc _ _); refine wl_absorb H.out ?_; intro w1 H1 hlt1; (try clear F); clear H; have H := Lib.hid H1; have F := H1.facts; simp only [fxx, ec, facts_tobj, macs] at F; clear H1)
            | (show Code.wp _ _ _ _ (World.alloc _ _); refine cw_absorb H.out ?_; intro w2 H1 hlt2; (try clear F); clear H; have H := Lib.hid H1; have F := H1.facts; simp only [fxx, ec, facts_tobj, macs] at F; clear H1)
            | (show wpList _ _ _ (Oper.mk none (Op.store _ _ _) _ _ _ _ :: _) _ _; (first | refine wl_store H.out 0 rfl rfl rfl (by rfl) (by simp [Act.eval, Value.cells]; rfl) (by kernel_rfl) (by simp) (by simp [Value.oneCell']) ?_ | refine wl_store H.out 1 rfl rfl rfl (by rfl) (by simp [Act.eval, Value.cells]; rfl) (by kernel_rfl) (by simp) (by simp [Value.oneCell']) ?_); intro w3 H1 hle3; simp only [px] at H1; (try clear F); clear H; have H := Lib.hid H1; have F := H1.facts; simp only [fxx, ec, facts_tobj, macs] at F; clear H1))
          refine rz_start H.out (List.Sublist.refl _) (by kernel_rfl) ?_; intro w4 H1 hle4; (try clear F); clear H; have H := Lib.hid H1; have F := H1.facts; simp only [fxx, ec, facts_tobj, macs] at F; clear H1
          refine rz_reads [0, 1, 2, 3, 4, 5, 6, 7, 8] (by kernel_rfl) (H.out.sub (by first | exact List.Sublist.refl _ | exact List.sublist_cons_self _ _ | exact (List.sublist_cons_self _ _).trans (List.sublist_cons_self _ _) | exact ((List.sublist_cons_self _ _).trans (List.sublist_cons_self _ _)).trans (List.sublist_cons_self _ _)) (by intro _ h; first | exact h | exact List.mem_cons_of_mem _ h | simp_all)) (fun d _ _ _ _ h => by cases d <;> exact h) ?_; (repeat first | (refine rd_skip rfl (by rfl) ?_; simp only [pz]) | (refine rd_step (v := ?_) rfl (by rfl) ?_ ?_; rotate_left 1; (focus intro W hW; have F := St.facts hW; simp only [fxx, ec, facts_tobj, macs] at F; go_simp; all_goals with_reducible rfl); simp only [pz])); refine rd_end ?_; show wpAnyH _ _ _ _ _ _ _ _ _
          refine rz_one 9 (by kernel_rfl) ?_; refine ss_call rfl (by rfl) (f := 12) (args := ?args1) ?hrun1 ?_; (case hrun1 => go_simp; all_goals with_reducible rfl)
          refine (shard_tab X n L A _ _ (H.out.has 0 rfl)).mono ?_
          rintro e w5 ⟨rfl, rfl⟩
          rw [if_pos ⟨hgx.1, hgx.2.1⟩, HMod.out]
          refine ⟨_, rfl, H.out.sub (by first | exact List.Sublist.refl _ | exact List.sublist_cons_self _ _ | exact (List.sublist_cons_self _ _).trans (List.sublist_cons_self _ _) | exact ((List.sublist_cons_self _ _).trans (List.sublist_cons_self _ _)).trans (List.sublist_cons_self _ _)) (by intro _ h; first | exact h | exact List.mem_cons_of_mem _ h | simp_all), ?_⟩
          simp only [pz]
          refine rz_reads [10, 11, 12, 13, 14] (by kernel_rfl) (H.out.sub (by first | exact List.Sublist.refl _ | exact List.sublist_cons_self _ _ | exact (List.sublist_cons_self _ _).trans (List.sublist_cons_self _ _) | exact ((List.sublist_cons_self _ _).trans (List.sublist_cons_self _ _)).trans (List.sublist_cons_self _ _)) (by intro _ h; first | exact h | exact List.mem_cons_of_mem _ h | simp_all)) (fun d _ _ _ _ h => by cases d <;> exact h) ?_; (repeat first | (refine rd_skip rfl (by rfl) ?_; simp only [pz]) | (refine rd_step (v := ?_) rfl (by rfl) ?_ ?_; rotate_left 1; (focus intro W hW; have F := St.facts hW; simp only [fxx, ec, facts_tobj, macs] at F; go_simp; all_goals with_reducible rfl); simp only [pz])); refine rd_end ?_; show wpAnyH _ _ _ _ _ _ _ _ _
          refine rz_done (by kernel_rfl) ?_
          go_wp2_with (first
            | (show wpList _ _ _ _ _ (World.drewN _ _); refine wl_drewN H.out ?_; intro w4 H1 hle4; (try clear F); clear H; have H := Lib.hid H1; have F := H1.facts; simp only [fxx, ec, facts_tobj, macs] at F; clear H1)
            | (show Code.wp _ _ _ _ (World.drewN _ _); refine cw_drewN H.out ?_; intro w4 H1 hle4; (try clear F); clear H; have H := Lib.hid H1; have F := H1.facts; simp only [fxx, ec, facts_tobj, macs] at F; clear H1)
            | (show wpList _ _ _ _ _ (World.alloc _ _); refine wl_absorb H.out ?_; intro w1 H1 hlt1; (try clear F); clear H; have H := Lib.hid H1; have F := H1.facts; simp only [fxx, ec, facts_tobj, macs] at F; clear H1)
            | (show Code.wp _ _ _ _ (World.alloc _ _); refine cw_absorb H.out ?_; intro w2 H1 hlt2; (try clear F); clear H; have H := Lib.hid H1; have F := H1.facts; simp only [fxx, ec, facts_tobj, macs] at F; clear H1)
            | (show wpList _ _ _ (Oper.mk none (Op.store _ _ _) _ _ _ _ :: _) _ _; (first | refine wl_store H.out 0 rfl rfl rfl (by rfl) (by simp [Act.eval, Value.cells]; rfl) (by kernel_rfl) (by simp) (by simp [Value.oneCell']) ?_ | refine wl_store H.out 1 rfl rfl rfl (by rfl) (by simp [Act.eval, Value.cells]; rfl) (by kernel_rfl) (by simp) (by simp [Value.oneCell']) ?_); intro w3 H1 hle3; simp only [px] at H1; (try clear F); clear H; have H := Lib.hid H1; have F := H1.facts; simp only [fxx, ec, facts_tobj, macs] at F; clear H1))
          refine rz_start H.out (List.Sublist.refl _) (by kernel_rfl) ?_; intro w4 H1 hle4; (try clear F); clear H; have H := Lib.hid H1; have F := H1.facts; simp only [fxx, ec, facts_tobj, macs] at F; clear H1
          refine rz_reads [0, 1, 2, 3, 4, 5, 6, 7, 8] (by kernel_rfl) (H.out.sub (by first | exact List.Sublist.refl _ | exact List.sublist_cons_self _ _ | exact (List.sublist_cons_self _ _).trans (List.sublist_cons_self _ _) | exact ((List.sublist_cons_self _ _).trans (List.sublist_cons_self _ _)).trans (List.sublist_cons_self _ _)) (by intro _ h; first | exact h | exact List.mem_cons_of_mem _ h | simp_all)) (fun d _ _ _ _ h => by cases d <;> exact h) ?_; (repeat first | (refine rd_skip rfl (by rfl) ?_; simp only [pz]) | (refine rd_step (v := ?_) rfl (by rfl) ?_ ?_; rotate_left 1; (focus intro W hW; have F := St.facts hW; simp only [fxx, ec, facts_tobj, macs] at F; go_simp; all_goals with_reducible rfl); simp only [pz])); refine rd_end ?_; show wpAnyH _ _ _ _ _ _ _ _ _
          refine rz_two 9 13 (by kernel_rfl) ?_ ?_
          refine ss_call rfl (by rfl) (f := 13) (args := ?args2) ?hrun2 ?_; (case hrun2 => go_simp; all_goals with_reducible rfl)
          refine (get_any X n L A _ _ (H.out.has 0 rfl)).mono ?_
          rintro e w5 ⟨rfl, hb⟩
          rw [HE.out]
          have H1 := H.out.same hb
          refine ⟨_, rfl, H1.sub (by first | exact List.Sublist.refl _ | exact List.sublist_cons_self _ _ | exact (List.sublist_cons_self _ _).trans (List.sublist_cons_self _ _) | exact ((List.sublist_cons_self _ _).trans (List.sublist_cons_self _ _)).trans (List.sublist_cons_self _ _)) (by intro _ h; first | exact h | exact List.mem_cons_of_mem _ h | simp_all), ?_⟩
          clear hb
          simp only [ec]
          (try clear F); clear H; have H := Lib.hid H1; have F := H1.facts; simp only [fxx, ec, facts_tobj, macs] at F; clear H1
          simp only [pz]
          refine rz_reads [10, 11, 12] (by kernel_rfl) (H.out.sub (by first | exact List.Sublist.refl _ | exact List.sublist_cons_self _ _ | exact (List.sublist_cons_self _ _).trans (List.sublist_cons_self _ _) | exact ((List.sublist_cons_self _ _).trans (List.sublist_cons_self _ _)).trans (List.sublist_cons_self _ _)) (by intro _ h; first | exact h | exact List.mem_cons_of_mem _ h | simp_all)) (fun d _ _ _ _ h => by cases d <;> exact h) ?_; (repeat first | (refine rd_skip rfl (by rfl) ?_; simp only [pz]) | (refine rd_step (v := ?_) rfl (by rfl) ?_ ?_; rotate_left 1; (focus intro W hW; have F := St.facts hW; simp only [fxx, ec, facts_tobj, macs] at F; go_simp; all_goals with_reducible rfl); simp only [pz])); refine rd_end ?_; show wpAnyH _ _ _ _ _ _ _ _ _
          refine rz_one 13 (by kernel_rfl) ?_
          refine sz_alloc H.out rfl (by rfl) (by go_simp; exact ⟨rfl, rfl⟩) (fun W h => h.sub (by first | exact List.Sublist.refl _ | exact List.sublist_cons_self _ _ | exact (List.sublist_cons_self _ _).trans (List.sublist_cons_self _ _) | exact ((List.sublist_cons_self _ _).trans (List.sublist_cons_self _ _)).trans (List.sublist_cons_self _ _)) (by intro _ h; first | exact h | exact List.mem_cons_of_mem _ h | simp_all)) ?_; intro w1 H1 hlt1; (try clear F); clear H; have H := Lib.hid H1; have F := H1.facts; simp only [fxx, ec, facts_tobj, macs] at F; clear H1; simp only [pz]
          refine rz_one 14 (by kernel_rfl) ?_
          (first | refine sz_store H.out 0 rfl rfl rfl rfl (by rfl) (by simp [Act.eval, Value.cells]; rfl) (by kernel_rfl) (by simp) (by simp [Value.oneCell']) (fun W h => h.sub (by first | exact List.Sublist.refl _ | exact List.sublist_cons_self _ _ | exact (List.sublist_cons_self _ _).trans (List.sublist_cons_self _ _) | exact ((List.sublist_cons_self _ _).trans (List.sublist_cons_self _ _)).trans (List.sublist_cons_self _ _)) (by intro _ h; first | exact h | exact List.mem_cons_of_mem _ h | simp_all)) ?_); intro w3 H1 hle3; simp only [px] at H1; (try clear F); clear H; have H := Lib.hid H1; have F := H1.facts; simp only [fxx, ec, facts_tobj, macs] at F; clear H1; simp only [pz]
          refine rz_reads [15] (by kernel_rfl) (H.out.sub (by first | exact List.Sublist.refl _ | exact List.sublist_cons_self _ _ | exact (List.sublist_cons_self _ _).trans (List.sublist_cons_self _ _) | exact ((List.sublist_cons_self _ _).trans (List.sublist_cons_self _ _)).trans (List.sublist_cons_self _ _)) (by intro _ h; first | exact h | exact List.mem_cons_of_mem _ h | simp_all)) (fun d _ _ _ _ h => by cases d <;> exact h) ?_; (repeat first | (refine rd_skip rfl (by rfl) ?_; simp only [pz]) | (refine rd_step (v := ?_) rfl (by rfl) ?_ ?_; rotate_left 1; (focus intro W hW; have F := St.facts hW; simp only [fxx, ec, facts_tobj, macs] at F; go_simp; all_goals with_reducible rfl); simp only [pz])); refine rd_end ?_; show wpAnyH _ _ _ _ _ _ _ _ _
          refine rz_done (by kernel_rfl) ?_
          rotate_left 1
          refine sz_alloc H.out rfl (by rfl) (by go_simp; exact ⟨rfl, rfl⟩) (fun W h => h.sub (by first | exact List.Sublist.refl _ | exact List.sublist_cons_self _ _ | exact (List.sublist_cons_self _ _).trans (List.sublist_cons_self _ _) | exact ((List.sublist_cons_self _ _).trans (List.sublist_cons_self _ _)).trans (List.sublist_cons_self _ _)) (by intro _ h; first | exact h | exact List.mem_cons_of_mem _ h | simp_all)) ?_; intro w1 H1 hlt1; (try clear F); clear H; have H := Lib.hid H1; have F := H1.facts; simp only [fxx, ec, facts_tobj, macs] at F; clear H1; simp only [pz]
          refine rz_one 9 (by kernel_rfl) ?_; refine ss_call rfl (by rfl) (f := 13) (args := ?args3) ?hrun3 ?_; (case hrun3 => go_simp; all_goals with_reducible rfl)
          refine (get_any X n L A _ _ (H.out.has 1 rfl)).mono ?_
          rintro e w5 ⟨rfl, hb⟩
          rw [HE.out]
          have H1 := H.out.same hb
          refine ⟨_, rfl, H1.sub (by first | exact List.Sublist.refl _ | exact List.sublist_cons_self _ _ | exact (List.sublist_cons_self _ _).trans (List.sublist_cons_self _ _) | exact ((List.sublist_cons_self _ _).trans (List.sublist_cons_self _ _)).trans (List.sublist_cons_self _ _)) (by intro _ h; first | exact h | exact List.mem_cons_of_mem _ h | simp_all), ?_⟩
          clear hb
          simp only [ec]
          (try clear F); clear H; have H := Lib.hid H1; have F := H1.facts; simp only [fxx, ec, facts_tobj, macs] at F; clear H1
          simp only [pz]
          refine rz_reads [10, 11, 12] (by kernel_rfl) (H.out.sub (by first | exact List.Sublist.refl _ | exact List.sublist_cons_self _ _ | exact (List.sublist_cons_self _ _).trans (List.sublist_cons_self _ _) | exact ((List.sublist_cons_self _ _).trans (List.sublist_cons_self _ _)).trans (List.sublist_cons_self _ _)) (by intro _ h; first | exact h | exact List.mem_cons_of_mem _ h | simp_all)) (fun d _ _ _ _ h => by cases d <;> exact h) ?_; (repeat first | (refine rd_skip rfl (by rfl) ?_; simp only [pz]) | (refine rd_step (v := ?_) rfl (by rfl) ?_ ?_; rotate_left 1; (focus intro W hW; have F := St.facts hW; simp only [fxx, ec, facts_tobj, macs] at F; go_simp; all_goals with_reducible rfl); simp only [pz])); refine rd_end ?_; show wpAnyH _ _ _ _ _ _ _ _ _
          refine rz_one 14 (by kernel_rfl) ?_
          (first | refine sz_store H.out 0 rfl rfl rfl rfl (by rfl) (by simp [Act.eval, Value.cells]; rfl) (by kernel_rfl) (by simp) (by simp [Value.oneCell']) (fun W h => h.sub (by first | exact List.Sublist.refl _ | exact List.sublist_cons_self _ _ | exact (List.sublist_cons_self _ _).trans (List.sublist_cons_self _ _) | exact ((List.sublist_cons_self _ _).trans (List.sublist_cons_self _ _)).trans (List.sublist_cons_self _ _)) (by intro _ h; first | exact h | exact List.mem_cons_of_mem _ h | simp_all)) ?_); intro w3 H1 hle3; simp only [px] at H1; (try clear F); clear H; have H := Lib.hid H1; have F := H1.facts; simp only [fxx, ec, facts_tobj, macs] at F; clear H1; simp only [pz]
          refine rz_reads [15] (by kernel_rfl) (H.out.sub (by first | exact List.Sublist.refl _ | exact List.sublist_cons_self _ _ | exact (List.sublist_cons_self _ _).trans (List.sublist_cons_self _ _) | exact ((List.sublist_cons_self _ _).trans (List.sublist_cons_self _ _)).trans (List.sublist_cons_self _ _)) (by intro _ h; first | exact h | exact List.mem_cons_of_mem _ h | simp_all)) (fun d _ _ _ _ h => by cases d <;> exact h) ?_; (repeat first | (refine rd_skip rfl (by rfl) ?_; simp only [pz]) | (refine rd_step (v := ?_) rfl (by rfl) ?_ ?_; rotate_left 1; (focus intro W hW; have F := St.facts hW; simp only [fxx, ec, facts_tobj, macs] at F; go_simp; all_goals with_reducible rfl); simp only [pz])); refine rd_end ?_; show wpAnyH _ _ _ _ _ _ _ _ _
          refine rz_done (by kernel_rfl) ?_
          all_goals
            go_wp2_with (first
              | (show wpList _ _ _ _ _ (World.drewN _ _); refine wl_drewN H.out ?_; intro w4 H1 hle4; (try clear F); clear H; have H := Lib.hid H1; have F := H1.facts; simp only [fxx, ec, facts_tobj, macs] at F; clear H1)
              | (show Code.wp _ _ _ _ (World.drewN _ _); refine cw_drewN H.out ?_; intro w4 H1 hle4; (try clear F); clear H; have H := Lib.hid H1; have F := H1.facts; simp only [fxx, ec, facts_tobj, macs] at F; clear H1)
              | (show wpList _ _ _ _ _ (World.alloc _ _); refine wl_absorb H.out ?_; intro w1 H1 hlt1; (try clear F); clear H; have H := Lib.hid H1; have F := H1.facts; simp only [fxx, ec, facts_tobj, macs] at F; clear H1)
              | (show Code.wp _ _ _ _ (World.alloc _ _); refine cw_absorb H.out ?_; intro w2 H1 hlt2; (try clear F); clear H; have H := Lib.hid H1; have F := H1.facts; simp only [fxx, ec, facts_tobj, macs] at F; clear H1)
              | (show wpList _ _ _ (Oper.mk none (Op.store _ _ _) _ _ _ _ :: _) _ _; (first | refine wl_store H.out 0 rfl rfl rfl (by rfl) (by simp [Act.eval, Value.cells]; rfl) (by kernel_rfl) (by simp) (by simp [Value.oneCell']) ?_ | refine wl_store H.out 1 rfl rfl rfl (by rfl) (by simp [Act.eval, Value.cells]; rfl) (by kernel_rfl) (by simp) (by simp [Value.oneCell']) ?_); intro w3 H1 hle3; simp only [px] at H1; (try clear F); clear H; have H := Lib.hid H1; have F := H1.facts; simp only [fxx, ec, facts_tobj, macs] at F; clear H1))
            refine rz_start H.out (List.Sublist.refl _) (by kernel_rfl) ?_; intro w4 H1 hle4; (try clear F); clear H; have H := Lib.hid H1; have F := H1.facts; simp only [fxx, ec, facts_tobj, macs] at F; clear H1
            refine rz_reads [0, 1, 2, 3, 4, 5, 6, 7, 8] (by kernel_rfl) (H.out.sub (by first | exact List.Sublist.refl _ | exact List.sublist_cons_self _ _ | exact (List.sublist_cons_self _ _).trans (List.sublist_cons_self _ _) | exact ((List.sublist_cons_self _ _).trans (List.sublist_cons_self _ _)).trans (List.sublist_cons_self _ _)) (by intro _ h; first | exact h | exact List.mem_cons_of_mem _ h | simp_all)) (fun d _ _ _ _ h => by cases d <;> exact h) ?_; (repeat first | (refine rd_skip rfl (by rfl) ?_; simp only [pz]) | (refine rd_step (v := ?_) rfl (by rfl) ?_ ?_; rotate_left 1; (focus intro W hW; have F := St.facts hW; simp only [fxx, ec, facts_tobj, macs] at F; go_simp; all_goals with_reducible rfl); simp only [pz])); refine rd_end ?_; show wpAnyH _ _ _ _ _ _ _ _ _
            refine rz_one 9 (by kernel_rfl) ?_; refine ss_call rfl (by rfl) (f := 14) (args := ?args4) ?hrun4 ?_; (case hrun4 => go_simp; all_goals with_reducible rfl)
            refine (of_ids X n L A x.mac _ (H.out.has 1 rfl)).mono ?_
            rintro e w5 ⟨y, rfl, hb, ho⟩
            obtain ⟨ay, cy, rfl⟩ := own_shape ho
            have H1 := H.out.call hb (rdS (rInt .i64) _ (idsOf x.mac L)) (own_slz ho (fun _ => rfl) (by decide) rfl)
            refine ⟨_, rfl, H1.sub (by first | exact List.Sublist.refl _ | exact List.sublist_cons_self _ _ | exact (List.sublist_cons_self _ _).trans (List.sublist_cons_self _ _) | exact ((List.sublist_cons_self _ _).trans (List.sublist_cons_self _ _)).trans (List.sublist_cons_self _ _)) (by intro _ h; first | exact h | exact List.mem_cons_of_mem _ h | simp_all), ?_⟩
            clear hb ho
            (try clear F); clear H; have H := Lib.hid H1; have F := H1.facts; simp only [fxx, ec, facts_tobj, macs] at F; clear H1
            simp only [pz]
            refine rz_reads [10] (by kernel_rfl) (H.out.sub (by first | exact List.Sublist.refl _ | exact List.sublist_cons_self _ _ | exact (List.sublist_cons_self _ _).trans (List.sublist_cons_self _ _) | exact ((List.sublist_cons_self _ _).trans (List.sublist_cons_self _ _)).trans (List.sublist_cons_self _ _)) (by intro _ h; first | exact h | exact List.mem_cons_of_mem _ h | simp_all)) (fun d _ _ _ _ h => by cases d <;> exact h) ?_; (repeat first | (refine rd_skip rfl (by rfl) ?_; simp only [pz]) | (refine rd_step (v := ?_) rfl (by rfl) ?_ ?_; rotate_left 1; (focus intro W hW; have F := St.facts hW; simp only [fxx, ec, facts_tobj, macs] at F; go_simp; all_goals with_reducible rfl); simp only [pz])); refine rd_end ?_; show wpAnyH _ _ _ _ _ _ _ _ _
            refine rz_done (by kernel_rfl) ?_
            go_wp2_with (first
              | (show wpList _ _ _ _ _ (World.drewN _ _); refine wl_drewN H.out ?_; intro w4 H1 hle4; (try clear F); clear H; have H := Lib.hid H1; have F := H1.facts; simp only [fxx, ec, facts_tobj, macs] at F; clear H1)
              | (show Code.wp _ _ _ _ (World.drewN _ _); refine cw_drewN H.out ?_; intro w4 H1 hle4; (try clear F); clear H; have H := Lib.hid H1; have F := H1.facts; simp only [fxx, ec, facts_tobj, macs] at F; clear H1)
              | (show wpList _ _ _ _ _ (World.alloc _ _); refine wl_absorb H.out ?_; intro w1 H1 hlt1; (try clear F); clear H; have H := Lib.hid H1; have F := H1.facts; simp only [fxx, ec, facts_tobj, macs] at F; clear H1)
              | (show Code.wp _ _ _ _ (World.alloc _ _); refine cw_absorb H.out ?_; intro w2 H1 hlt2; (try clear F); clear H; have H := Lib.hid H1; have F := H1.facts; simp only [fxx, ec, facts_tobj, macs] at F; clear H1)
              | (show wpList _ _ _ (Oper.mk none (Op.store _ _ _) _ _ _ _ :: _) _ _; (first | refine wl_store H.out 0 rfl rfl rfl (by rfl) (by simp [Act.eval, Value.cells]; rfl) (by kernel_rfl) (by simp) (by simp [Value.oneCell']) ?_ | refine wl_store H.out 1 rfl rfl rfl (by rfl) (by simp [Act.eval, Value.cells]; rfl) (by kernel_rfl) (by simp) (by simp [Value.oneCell']) ?_); intro w3 H1 hle3; simp only [px] at H1; (try clear F); clear H; have H := Lib.hid H1; have F := H1.facts; simp only [fxx, ec, facts_tobj, macs] at F; clear H1))
            clear F
            have HC := Lib.hid (count_one (idsOf_sorted HG.out x.mac) (idsOf_mem hm2.1))
            have hIl := idsOf_len HG.out x.mac
            generalize idsOf x.mac L = I at *
            go_loopw [17, 18] (fun t i wr => ∃ q : Nat, q ≤ I.length ∧ t = .int .i64 ((I.take q).count x.id : Nat) ∧ i = .int .i64 q ∧ St w (fun _ => False) z _ _ wr) (fun _ i _ => I.length - (intOf i).toNat)
            case atStart => exact ⟨0, Nat.zero_le _, rfl, rfl, H.out⟩
            case round =>
              obtain ⟨q, hq, rfl, rfl, hS⟩ := hrel
              clear H
              have hcq := List.count_le_length (a := x.id) (l := I.take q)
              rw [List.length_take] at hcq
              by_cases hql : q < I.length
              · obtain ⟨m, hmq⟩ : ∃ m, I[q]? = some m := ⟨_, List.getElem?_eq_getElem hql⟩
                obtain ⟨b2, o2, cs, rfl, hzb, hr, rfl⟩ := SlZ.get (hS.rd 0 rfl) hmq
                have H := Lib.hid (hS.also (rdE b2 (o2 + q) [.int .i64 m]) ⟨hzb, by simpa using hr⟩)
                have HT : Hid ((I.take (q + 1)).count x.id = (I.take q).count x.id + if m = x.id then 1 else 0) := by
                  unfold Hid
                  rw [List.take_add_one, hmq, List.count_append]
                  simp [List.count_singleton]
                have hql' : (q : Int) < I.length := by omega
                (try clear F); have F := H.out.facts; simp only [fxx, ec, facts_tobj, macs] at F
                clear hS hmq hzb hr
                generalize (I.take q).count x.id = t at *
                have hbe : (m == x.id) = decide (m = x.id) := by by_cases h : m = x.id <;> simp [h]
                by_cases he : m = x.id
                · rw [decide_eq_true he] at hbe
                  go_wp2_with (first
                    | (show wpList _ _ _ _ _ (World.drewN _ _); refine wl_drewN H.out ?_; intro w4 H1 hle4; (try clear F); clear H; have H := Lib.hid H1; have F := H1.facts; simp only [fxx, ec, facts_tobj, macs] at F; clear H1)
                    | (show Code.wp _ _ _ _ (World.drewN _ _); refine cw_drewN H.out ?_; intro w4 H1 hle4; (try clear F); clear H; have H := Lib.hid H1; have F := H1.facts; simp only [fxx, ec, facts_tobj, macs] at F; clear H1)
                    | (show wpList _ _ _ _ _ (World.alloc _ _); refine wl_absorb H.out ?_; intro w1 H1 hlt1; (try clear F); clear H; have H := Lib.hid H1; have F := H1.facts; simp only [fxx, ec, facts_tobj, macs] at F; clear H1)
                    | (show Code.wp _ _ _ _ (World.alloc _ _); refine cw_absorb H.out ?_; intro w2 H1 hlt2; (try clear F); clear H; have H := Lib.hid H1; have F := H1.facts; simp only [fxx, ec, facts_tobj, macs] at F; clear H1)
                    | (show wpList _ _ _ (Oper.mk none (Op.store _ _ _) _ _ _ _ :: _) _ _; (first | refine wl_store H.out 0 rfl rfl rfl (by rfl) (by simp [Act.eval, Value.cells]; rfl) (by kernel_rfl) (by simp) (by simp [Value.oneCell']) ?_ | refine wl_store H.out 1 rfl rfl rfl (by rfl) (by simp [Act.eval, Value.cells]; rfl) (by kernel_rfl) (by simp) (by simp [Value.oneCell']) ?_); intro w3 H1 hle3; simp only [px] at H1; (try clear F); clear H; have H := Lib.hid H1; have F := H1.facts; simp only [fxx, ec, facts_tobj, macs] at F; clear H1))
                  refine rz_start H.out (List.Sublist.refl _) (by kernel_rfl) ?_; intro w4 H1 hle4; (try clear F); clear H; have H := Lib.hid H1; have F := H1.facts; simp only [fxx, ec, facts_tobj, macs] at F; clear H1
                  refine rz_reads [0, 1, 2, 3, 4, 5, 6, 7, 8, 9] (by kernel_rfl) (H.out.sub (by first | exact List.Sublist.refl _ | exact List.sublist_cons_self _ _ | exact (List.sublist_cons_self _ _).trans (List.sublist_cons_self _ _) | exact ((List.sublist_cons_self _ _).trans (List.sublist_cons_self _ _)).trans (List.sublist_cons_self _ _)) (by intro _ h; first | exact h | exact List.mem_cons_of_mem _ h | simp_all)) (fun d _ _ _ _ h => by cases d <;> exact h) ?_; (repeat first | (refine rd_skip rfl (by rfl) ?_; simp only [pz]) | (refine rd_step (v := ?_) rfl (by rfl) ?_ ?_; rotate_left 1; (focus intro W hW; have F := St.facts hW; simp only [fxx, ec, facts_tobj, macs] at F; go_simp; all_goals with_reducible rfl); simp only [pz])); refine rd_end ?_; show wpAnyH _ _ _ _ _ _ _ _ _
                  refine rz_done (by kernel_rfl) ?_
                  go_wp2_with (first
                    | (show wpList _ _ _ _ _ (World.drewN _ _); refine wl_drewN H.out ?_; intro w4 H1 hle4; (try clear F); clear H; have H := Lib.hid H1; have F := H1.facts; simp only [fxx, ec, facts_tobj, macs] at F; clear H1)
                    | (show Code.wp _ _ _ _ (World.drewN _ _); refine cw_drewN H.out ?_; intro w4 H1 hle4; (try clear F); clear H; have H := Lib.hid H1; have F := H1.facts; simp only [fxx, ec, facts_tobj, macs] at F; clear H1)
                    | (show wpList _ _ _ _ _ (World.alloc _ _); refine wl_absorb H.out ?_; intro w1 H1 hlt1; (try clear F); clear H; have H := Lib.hid H1; have F := H1.facts; simp only [fxx, ec, facts_tobj, macs] at F; clear H1)
                    | (show Code.wp _ _ _ _ (World.alloc _ _); refine cw_absorb H.out ?_; intro w2 H1 hlt2; (try clear F); clear H; have H := Lib.hid H1; have F := H1.facts; simp only [fxx, ec, facts_tobj, macs] at F; clear H1)
                    | (show wpList _ _ _ (Oper.mk none (Op.store _ _ _) _ _ _ _ :: _) _ _; (first | refine wl_store H.out 0 rfl rfl rfl (by rfl) (by simp [Act.eval, Value.cells]; rfl) (by kernel_rfl) (by simp) (by simp [Value.oneCell']) ?_ | refine wl_store H.out 1 rfl rfl rfl (by rfl) (by simp [Act.eval, Value.cells]; rfl) (by kernel_rfl) (by simp) (by simp [Value.oneCell']) ?_); intro w3 H1 hle3; simp only [px] at H1; (try clear F); clear H; have H := Lib.hid H1; have F := H1.facts; simp only [fxx, ec, facts_tobj, macs] at F; clear H1))
                  exact ⟨⟨q + 1, hql, by rw [HT.out, if_pos he]; go_num, by go_num, H.out.sub (by first | exact List.Sublist.refl _ | exact List.sublist_cons_self _ _ | exact (List.sublist_cons_self _ _).trans (List.sublist_cons_self _ _) | exact ((List.sublist_cons_self _ _).trans (List.sublist_cons_self _ _)).trans (List.sublist_cons_self _ _)) (by intro _ h; first | exact h | exact List.mem_cons_of_mem _ h | simp_all)⟩, by simp [intOf]; omega⟩
                · rw [decide_eq_false he] at hbe
                  go_wp2_with (first
                    | (show wpList _ _ _ _ _ (World.drewN _ _); refine wl_drewN H.out ?_; intro w4 H1 hle4; (try clear F); clear H; have H := Lib.hid H1; have F := H1.facts; simp only [fxx, ec, facts_tobj, macs] at F; clear H1)
                    | (show Code.wp _ _ _ _ (World.drewN _ _); refine cw_drewN H.out ?_; intro w4 H1 hle4; (try clear F); clear H; have H := Lib.hid H1; have F := H1.facts; simp only [fxx, ec, facts_tobj, macs] at F; clear H1)
                    | (show wpList _ _ _ _ _ (World.alloc _ _); refine wl_absorb H.out ?_; intro w1 H1 hlt1; (try clear F); clear H; have H := Lib.hid H1; have F := H1.facts; simp only [fxx, ec, facts_tobj, macs] at F; clear H1)
                    | (show Code.wp _ _ _ _ (World.alloc _ _); refine cw_absorb H.out ?_; intro w2 H1 hlt2; (try clear F); clear H; have H := Lib.hid H1; have F := H1.facts; simp only [fxx, ec, facts_tobj, macs] at F; clear H1)
                    | (show wpList _ _ _ (Oper.mk none (Op.store _ _ _) _ _ _ _ :: _) _ _; (first | refine wl_store H.out 0 rfl rfl rfl (by rfl) (by simp [Act.eval, Value.cells]; rfl) (by kernel_rfl) (by simp) (by simp [Value.oneCell']) ?_ | refine wl_store H.out 1 rfl rfl rfl (by rfl) (by simp [Act.eval, Value.cells]; rfl) (by kernel_rfl) (by simp) (by simp [Value.oneCell']) ?_); intro w3 H1 hle3; simp only [px] at H1; (try clear F); clear H; have H := Lib.hid H1; have F := H1.facts; simp only [fxx, ec, facts_tobj, macs] at F; clear H1))
                  refine rz_start H.out (List.Sublist.refl _) (by kernel_rfl) ?_; intro w4 H1 hle4; (try clear F); clear H; have H := Lib.hid H1; have F := H1.facts; simp only [fxx, ec, facts_tobj, macs] at F; clear H1
                  refine rz_reads [0, 1, 2, 3, 4, 5, 6, 7, 8, 9] (by kernel_rfl) (H.out.sub (by first | exact List.Sublist.refl _ | exact List.sublist_cons_self _ _ | exact (List.sublist_cons_self _ _).trans (List.sublist_cons_self _ _) | exact ((List.sublist_cons_self _ _).trans (List.sublist_cons_self _ _)).trans (List.sublist_cons_self _ _)) (by intro _ h; first | exact h | exact List.mem_cons_of_mem _ h | simp_all)) (fun d _ _ _ _ h => by cases d <;> exact h) ?_; (repeat first | (refine rd_skip rfl (by rfl) ?_; simp only [pz]) | (refine rd_step (v := ?_) rfl (by rfl) ?_ ?_; rotate_left 1; (focus intro W hW; have F := St.facts hW; simp only [fxx, ec, facts_tobj, macs] at F; go_simp; all_goals with_reducible rfl); simp only [pz])); refine rd_end ?_; show wpAnyH _ _ _ _ _ _ _ _ _
                  refine rz_done (by kernel_rfl) ?_
                  go_wp2_with (first
                    | (show wpList _ _ _ _ _ (World.drewN _ _); refine wl_drewN H.out ?_; intro w4 H1 hle4; (try clear F); clear H; have H := Lib.hid H1; have F := H1.facts; simp only [fxx, ec, facts_tobj, macs] at F; clear H1)
                    | (show Code.wp _ _ _ _ (World.drewN _ _); refine cw_drewN H.out ?_; intro w4 H1 hle4; (try clear F); clear H; have H := Lib.hid H1; have F := H1.facts; simp only [fxx, ec, facts_tobj, macs] at F; clear H1)
                    | (show wpList _ _ _ _ _ (World.alloc _ _); refine wl_absorb H.out ?_; intro w1 H1 hlt1; (try clear F); clear H; have H := Lib.hid H1; have F := H1.facts; simp only [fxx, ec, facts_tobj, macs] at F; clear H1)
                    | (show Code.wp _ _ _ _ (World.alloc _ _); refine cw_absorb H.out ?_; intro w2 H1 hlt2; (try clear F); clear H; have H := Lib.hid H1; have F := H1.facts; simp only [fxx, ec, facts_tobj, macs] at F; clear H1)
                    | (show wpList _ _ _ (Oper.mk none (Op.store _ _ _) _ _ _ _ :: _) _ _; (first | refine wl_store H.out 0 rfl rfl rfl (by rfl) (by simp [Act.eval, Value.cells]; rfl) (by kernel_rfl) (by simp) (by simp [Value.oneCell']) ?_ | refine wl_store H.out 1 rfl rfl rfl (by rfl) (by simp [Act.eval, Value.cells]; rfl) (by kernel_rfl) (by simp) (by simp [Value.oneCell']) ?_); intro w3 H1 hle3; simp only [px] at H1; (try clear F); clear H; have H := Lib.hid H1; have F := H1.facts; simp only [fxx, ec, facts_tobj, macs] at F; clear H1))
                  exact ⟨⟨q + 1, hql, by rw [HT.out, if_neg he]; go_num, by go_num, H.out.sub (by first | exact List.Sublist.refl _ | exact List.sublist_cons_self _ _ | exact (List.sublist_cons_self _ _).trans (List.sublist_cons_self _ _) | exact ((List.sublist_cons_self _ _).trans (List.sublist_cons_self _ _)).trans (List.sublist_cons_self _ _)) (by intro _ h; first | exact h | exact List.mem_cons_of_mem _ h | simp_all)⟩, by simp [intOf]; omega⟩
              · obtain rfl : q = I.length := by omega
                rw [List.take_length, HC.out]
                have H := Lib.hid hS
                (try clear F); have F := H.out.facts; simp only [fxx, ec, facts_tobj, macs] at F
                clear hS hcq
                have hne : ∀ W, (binOp .neq 40 (.agg (ec x).toArray) (.agg (ec x).toArray)).run Try.prog W = .ok (.bool false) W := fun W => run_neq_ent x W
                simp only [ec] at hne
                go_wp2_with (first
                  | (show wpList _ _ _ _ _ (World.drewN _ _); refine wl_drewN H.out ?_; intro w4 H1 hle4; (try clear F); clear H; have H := Lib.hid H1; have F := H1.facts; simp only [fxx, ec, facts_tobj, macs] at F; clear H1)
                  | (show Code.wp _ _ _ _ (World.drewN _ _); refine cw_drewN H.out ?_; intro w4 H1 hle4; (try clear F); clear H; have H := Lib.hid H1; have F := H1.facts; simp only [fxx, ec, facts_tobj, macs] at F; clear H1)
                  | (show wpList _ _ _ _ _ (World.alloc _ _); refine wl_absorb H.out ?_; intro w1 H1 hlt1; (try clear F); clear H; have H := Lib.hid H1; have F := H1.facts; simp only [fxx, ec, facts_tobj, macs] at F; clear H1)
                  | (show Code.wp _ _ _ _ (World.alloc _ _); refine cw_absorb H.out ?_; intro w2 H1 hlt2; (try clear F); clear H; have H := Lib.hid H1; have F := H1.facts; simp only [fxx, ec, facts_tobj, macs] at F; clear H1)
                  | (show wpList _ _ _ (Oper.mk none (Op.store _ _ _) _ _ _ _ :: _) _ _; (first | refine wl_store H.out 0 rfl rfl rfl (by rfl) (by simp [Act.eval, Value.cells]; rfl) (by kernel_rfl) (by simp) (by simp [Value.oneCell']) ?_ | refine wl_store H.out 1 rfl rfl rfl (by rfl) (by simp [Act.eval, Value.cells]; rfl) (by kernel_rfl) (by simp) (by simp [Value.oneCell']) ?_); intro w3 H1 hle3; simp only [px] at H1; (try clear F); clear H; have H := Lib.hid H1; have F := H1.facts; simp only [fxx, ec, facts_tobj, macs] at F; clear H1))
                rcases j with _ | j
                · refine rz_start H.out (List.Sublist.refl _) (by kernel_rfl) ?_; intro w4 H1 hle4; (try clear F); clear H; have H := Lib.hid H1; have F := H1.facts; simp only [fxx, ec, facts_tobj, macs] at F; clear H1
                  refine rz_reads [0, 1, 2, 3, 4, 5, 6, 7, 8, 9, 10, 11, 12, 13, 14, 15, 16, 17, 18, 19, 20, 21, 22, 23, 24, 25, 26, 27, 28, 29, 30, 31, 32, 33, 34, 35, 36, 37, 38, 39, 40] (by kernel_rfl) (H.out.sub (by first | exact List.Sublist.refl _ | exact List.sublist_cons_self _ _ | exact (List.sublist_cons_self _ _).trans (List.sublist_cons_self _ _) | exact ((List.sublist_cons_self _ _).trans (List.sublist_cons_self _ _)).trans (List.sublist_cons_self _ _)) (by intro _ h; first | exact h | exact List.mem_cons_of_mem _ h | simp_all)) (fun d _ _ _ _ h => by cases d <;> exact h) ?_; (repeat first | (refine rd_skip rfl (by rfl) ?_; simp only [pz]) | (refine rd_step (v := ?_) rfl (by rfl) ?_ ?_; rotate_left 1; (focus intro W hW; have F := St.facts hW; simp only [fxx, ec, facts_tobj, macs] at F; go_simp; all_goals with_reducible rfl); simp only [pz])); refine rd_end ?_; show wpAnyH _ _ _ _ _ _ _ _ _
                  refine rz_done (by kernel_rfl) ?_
                  go_wp2_with (first
                    | (show wpList _ _ _ _ _ (World.drewN _ _); refine wl_drewN H.out ?_; intro w4 H1 hle4; (try clear F); clear H; have H := Lib.hid H1; have F := H1.facts; simp only [fxx, ec, facts_tobj, macs] at F; clear H1)
                    | (show Code.wp _ _ _ _ (World.drewN _ _); refine cw_drewN H.out ?_; intro w4 H1 hle4; (try clear F); clear H; have H := Lib.hid H1; have F := H1.facts; simp only [fxx, ec, facts_tobj, macs] at F; clear H1)
                    | (show wpList _ _ _ _ _ (World.alloc _ _); refine wl_absorb H.out ?_; intro w1 H1 hlt1; (try clear F); clear H; have H := Lib.hid H1; have F := H1.facts; simp only [fxx, ec, facts_tobj, macs] at F; clear H1)
                    | (show Code.wp _ _ _ _ (World.alloc _ _); refine cw_absorb H.out ?_; intro w2 H1 hlt2; (try clear F); clear H; have H := Lib.hid H1; have F := H1.facts; simp only [fxx, ec, facts_tobj, macs] at F; clear H1)
                    | (show wpList _ _ _ (Oper.mk none (Op.store _ _ _) _ _ _ _ :: _) _ _; (first | refine wl_store H.out 0 rfl rfl rfl (by rfl) (by simp [Act.eval, Value.cells]; rfl) (by kernel_rfl) (by simp) (by simp [Value.oneCell']) ?_ | refine wl_store H.out 1 rfl rfl rfl (by rfl) (by simp [Act.eval, Value.cells]; rfl) (by kernel_rfl) (by simp) (by simp [Value.oneCell']) ?_); intro w3 H1 hle3; simp only [px] at H1; (try clear F); clear H; have H := Lib.hid H1; have F := H1.facts; simp only [fxx, ec, facts_tobj, macs] at F; clear H1))
                  exact ⟨⟨1, hjl, rfl, H.out.sub ((List.sublist_cons_self _ _)) (by intro _ h; simp_all)⟩, by simp [intOf]; omega⟩
                · obtain ⟨p, hp⟩ : ∃ p, (ofShard n k L)[j]? = some p := ⟨_, List.getElem?_eq_getElem (by omega)⟩
                  obtain ⟨b', o', cs, he, hzb, hr, rfl⟩ := SlZ.get (H.out.rd 3 rfl) hp
                  obtain ⟨rfl, rfl⟩ : b' = b ∧ o' = o := by cases he; exact ⟨rfl, rfl⟩
                  replace H := Lib.hid (H.out.also (rdE b' (o' + j * 8) (ec p)) ⟨hzb, hr⟩)
                  (try clear F); have F := H.out.facts; simp only [fxx, ec, facts_tobj, macs] at F
                  clear hzb hr he
                  have hlt2 : ¬ x.id ≤ p.id := by have := HPrev.out j p hp rfl; omega
                  have hj1 : (j : Int) + 1 < (ofShard n k L).length := by omega
                  have hj2 : ((j : Int) + 1).toNat = j + 1 := by omega
                  have hj3 : (0 : Int) ≤ (j : Int) + 1 := by omega
                  have hj4 : (0 : Int) < (j : Int) + 1 := by omega
                  have hj5 : IntKind.i64.wrap (j : Int) = j := IntWalk.i64_in _ (by omega)
                  have hj6 : (j : Int) < (ofShard n k L).length := by omega
                  clear hp
                  refine rz_start H.out (List.Sublist.refl _) (by kernel_rfl) ?_; intro w4 H1 hle4; (try clear F); clear H; have H := Lib.hid H1; have F := H1.facts; simp only [fxx, ec, facts_tobj, macs] at F; clear H1
                  refine rz_reads [0, 1, 2, 3, 4, 5, 6, 7, 8, 9, 10, 11, 12, 13, 14, 15, 16, 17, 18, 19, 20, 21, 22, 23, 24, 25, 26, 27, 28, 29, 30, 31, 32, 33, 34, 35, 36, 37, 38, 39, 40] (by kernel_rfl) (H.out.sub (by first | exact List.Sublist.refl _ | exact List.sublist_cons_self _ _ | exact (List.sublist_cons_self _ _).trans (List.sublist_cons_self _ _) | exact ((List.sublist_cons_self _ _).trans (List.sublist_cons_self _ _)).trans (List.sublist_cons_self _ _)) (by intro _ h; first | exact h | exact List.mem_cons_of_mem _ h | simp_all)) (fun d _ _ _ _ h => by cases d <;> exact h) ?_; (repeat first | (refine rd_skip rfl (by rfl) ?_; simp only [pz]) | (refine rd_step (v := ?_) rfl (by rfl) ?_ ?_; rotate_left 1; (focus intro W hW; have F := St.facts hW; simp only [fxx, ec, facts_tobj, macs] at F; go_simp; all_goals with_reducible rfl); simp only [pz])); refine rd_end ?_; show wpAnyH _ _ _ _ _ _ _ _ _
                  refine rz_done (by kernel_rfl) ?_
                  go_wp2_with (first
                    | (show wpList _ _ _ _ _ (World.drewN _ _); refine wl_drewN H.out ?_; intro w4 H1 hle4; (try clear F); clear H; have H := Lib.hid H1; have F := H1.facts; simp only [fxx, ec, facts_tobj, macs] at F; clear H1)
                    | (show Code.wp _ _ _ _ (World.drewN _ _); refine cw_drewN H.out ?_; intro w4 H1 hle4; (try clear F); clear H; have H := Lib.hid H1; have F := H1.facts; simp only [fxx, ec, facts_tobj, macs] at F; clear H1)
                    | (show wpList _ _ _ _ _ (World.alloc _ _); refine wl_absorb H.out ?_; intro w1 H1 hlt1; (try clear F); clear H; have H := Lib.hid H1; have F := H1.facts; simp only [fxx, ec, facts_tobj, macs] at F; clear H1)
                    | (show Code.wp _ _ _ _ (World.alloc _ _); refine cw_absorb H.out ?_; intro w2 H1 hlt2; (try clear F); clear H; have H := Lib.hid H1; have F := H1.facts; simp only [fxx, ec, facts_tobj, macs] at F; clear H1)
                    | (show wpList _ _ _ (Oper.mk none (Op.store _ _ _) _ _ _ _ :: _) _ _; (first | refine wl_store H.out 0 rfl rfl rfl (by rfl) (by simp [Act.eval, Value.cells]; rfl) (by kernel_rfl) (by simp) (by simp [Value.oneCell']) ?_ | refine wl_store H.out 1 rfl rfl rfl (by rfl) (by simp [Act.eval, Value.cells]; rfl) (by kernel_rfl) (by simp) (by simp [Value.oneCell']) ?_); intro w3 H1 hle3; simp only [px] at H1; (try clear F); clear H; have H := Lib.hid H1; have F := H1.facts; simp only [fxx, ec, facts_tobj, macs] at F; clear H1))
                  exact ⟨⟨j + 1 + 1, hjl, by go_num, H.out.sub ((List.sublist_cons_self _ _)) (by intro _ h; simp_all)⟩, by simp [intOf]; omega⟩
        · obtain rfl : j = (ofShard n k L).length := by omega
          have H := Lib.hid hS
          have hle := lenTo_le n L k
          have hle1 := lenTo_le n L (k + 1)
          have HL := Lib.hid (lenTo_step n L k)
          rw [HL.out] at hle1
          generalize lenTo n L k = t at *
          generalize (ofShard n k L).length = q at *
          (try clear F); have F := H.out.facts; simp only [fxx, ec, facts_tobj, macs] at F
          clear hS
          go_wp2_with (first
            | (show wpList _ _ _ _ _ (World.drewN _ _); refine wl_drewN H.out ?_; intro w4 H1 hle4; (try clear F); clear H; have H := Lib.hid H1; have F := H1.facts; simp only [fxx, ec, facts_tobj, macs] at F; clear H1)
            | (show Code.wp _ _ _ _ (World.drewN _ _); refine cw_drewN H.out ?_; intro w4 H1 hle4; (try clear F); clear H; have H := Lib.hid H1; have F := H1.facts; simp only [fxx, ec, facts_tobj, macs] at F; clear H1)
            | (show wpList _ _ _ _ _ (World.alloc _ _); refine wl_absorb H.out ?_; intro w1 H1 hlt1; (try clear F); clear H; have H := Lib.hid H1; have F := H1.facts; simp only [fxx, ec, facts_tobj, macs] at F; clear H1)
            | (show Code.wp _ _ _ _ (World.alloc _ _); refine cw_absorb H.out ?_; intro w2 H1 hlt2; (try clear F); clear H; have H := Lib.hid H1; have F := H1.facts; simp only [fxx, ec, facts_tobj, macs] at F; clear H1)
            | (show wpList _ _ _ (Oper.mk none (Op.store _ _ _) _ _ _ _ :: _) _ _; (first | refine wl_store H.out 0 rfl rfl rfl (by rfl) (by simp [Act.eval, Value.cells]; rfl) (by kernel_rfl) (by simp) (by simp [Value.oneCell']) ?_ | refine wl_store H.out 1 rfl rfl rfl (by rfl) (by simp [Act.eval, Value.cells]; rfl) (by kernel_rfl) (by simp) (by simp [Value.oneCell']) ?_); intro w3 H1 hle3; simp only [px] at H1; (try clear F); clear H; have H := Lib.hid H1; have F := H1.facts; simp only [fxx, ec, facts_tobj, macs] at F; clear H1))
          exact ⟨⟨k + 1, hlt, by rw [HL.out]; go_num, by go_num, H.out.sub (List.Sublist.refl _) (by intro _ h; simp_all)⟩, by simp [intOf]; omega⟩
    · obtain rfl : k = n := by omega
      rw [lenTo_all hT.2.1]
      go_wp2_with (first
        | (show wpList _ _ _ _ _ (World.drewN _ _); refine wl_drewN H.out ?_; intro w4 H1 hle4; (try clear F); clear H; have H := Lib.hid H1; have F := H1.facts; simp only [fxx, ec, facts_tobj, macs] at F; clear H1)
        | (show Code.wp _ _ _ _ (World.drewN _ _); refine cw_drewN H.out ?_; intro w4 H1 hle4; (try clear F); clear H; have H := Lib.hid H1; have F := H1.facts; simp only [fxx, ec, facts_tobj, macs] at F; clear H1)
        | (show wpList _ _ _ _ _ (World.alloc _ _); refine wl_absorb H.out ?_; intro w1 H1 hlt1; (try clear F); clear H; have H := Lib.hid H1; have F := H1.facts; simp only [fxx, ec, facts_tobj, macs] at F; clear H1)
        | (show Code.wp _ _ _ _ (World.alloc _ _); refine cw_absorb H.out ?_; intro w2 H1 hlt2; (try clear F); clear H; have H := Lib.hid H1; have F := H1.facts; simp only [fxx, ec, facts_tobj, macs] at F; clear H1)
        | (show wpList _ _ _ (Oper.mk none (Op.store _ _ _) _ _ _ _ :: _) _ _; (first | refine wl_store H.out 0 rfl rfl rfl (by rfl) (by simp [Act.eval, Value.cells]; rfl) (by kernel_rfl) (by simp) (by simp [Value.oneCell']) ?_ | refine wl_store H.out 1 rfl rfl rfl (by rfl) (by simp [Act.eval, Value.cells]; rfl) (by kernel_rfl) (by simp) (by simp [Value.oneCell']) ?_); intro w3 H1 hle3; simp only [px] at H1; (try clear F); clear H; have H := Lib.hid H1; have F := H1.facts; simp only [fxx, ec, facts_tobj, macs] at F; clear H1)
        | (go_at_call 15; refine (len_any X k L A _ (H.out.has 0 rfl)).mono ?_; rintro e w5 ⟨rfl, hb⟩; have H1 := H.out.same hb; clear hb; (try clear F); clear H; have H := Lib.hid H1; have F := H1.facts; simp only [fxx, ec, facts_tobj, macs] at F; clear H1))
      go_ret

      exact ⟨rfl, H.out.below'⟩
end Go.Proofs.Ytkifagflnpkkaaa
