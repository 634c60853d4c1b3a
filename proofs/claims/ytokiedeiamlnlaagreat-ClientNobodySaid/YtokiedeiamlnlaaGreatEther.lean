/- ether.Check, ether.Encode, conciergeref04's: one function of bytes. -/
import Derived.Test.YtokiedeiamlnlaaGreatProg
import Derived.Test.YtokiedeiamlnlaaGreatBase
import Derived.Test.YtokiedeiamlnlaaGreatPut
import Derived.Test.YtokiedeiamlnlaaGreatCat
import Derived.Test.YtokiedeiamlnlaaGreatTags
import Derived.Test.YtokiedeiamlnlaaGreatRg2
import Derived.Test.YtokiedeiamlnlaaGreatPacket
namespace Go.Proofs.YtokiedeiamlnlaaGreat
set_option linter.unusedSimpArgs false
set_option linter.unusedVariables false
open Go.RowKit
set_option maxRecDepth 10000

structure Mac where
  (a b c d e f : UInt8)
def Mac.l (m : Mac) : List UInt8 := [m.a, m.b, m.c, m.d, m.e, m.f]
def etherV (d s : Mac) (t : Int) (v : Value) : Value := .agg #[bv d.a, bv d.b, bv d.c, bv d.d, bv d.e, bv d.f, bv s.a, bv s.b, bv s.c, bv s.d, bv s.e, bv s.f, .int .i64 t, v]
def etherCode (t : Int) (n : Nat) : Int := if 1536 ≤ t ∧ t ≤ 65535 then (if 1500 < n then 2 else 0) else 40
def etherOut (d s : Mac) (t : Int) (p : List UInt8) : List UInt8 := if etherCode t p.length = 0 then d.l ++ s.l ++ be t.toNat 2 ++ p else []

theorem bytes_part {w : World} {B off : Nat} {cs : Array Value} {t : TypeId} {fr : Nat × Nat} (l : List UInt8) (c : Nat) (hb : w.heap[B]? = some (.cells cs t fr)) (h1 : l.length ≤ c) (h2 : c ≤ maxLen)
    (h : ∀ i, i < l.length → cs[off + i]? = some (bv (l[i]?.getD 0))) : IsBytes w (.slice (some ⟨B, off, none⟩) l.length c) l := by
  refine .inr ⟨_, _, rfl, h1, h2, fun i hi => ?_⟩
  have : (⟨B, off, none⟩ : Addr).add i = ⟨B, off + i, none⟩ := by
    unfold Addr.add; split <;> simp_all
  rw [this, cell_of_row w B _ cs t fr hb]
  exact h i hi

theorem etherCode_cases (t : Int) (n : Nat) : etherCode t n = 0 ∨ etherCode t n = 2 ∨ etherCode t n = 40 := by
  unfold etherCode; split
  · split <;> simp
  · simp
theorem etherCode_zero {t : Int} {n : Nat} (h : etherCode t n = 0) : t ≤ 65535 ∧ 0 ≤ t ∧ n ≤ 1500 := by
  unfold etherCode at h; split at h
  · split at h
    · cases h
    · omega
  · cases h

theorem check_any (d s : Mac) (t : Int) (v : Value) (n : Nat) (w : World) (hv : ∃ a c, v = .slice a n c) :
    Calls Tryz.prog 65 #[etherV d s t v] w fun e w' => e = .returned (.int .i64 (etherCode t n)) ∧ Below w.heap.size w w' := by
  obtain ⟨a, c, rfl⟩ := hv
  have HT : Hid (etherCode t n = if 1536 ≤ t ∧ t ≤ 65535 then (if 1500 < n then 2 else 0) else 40) := rfl
  generalize etherCode t n = r at *
  unfold etherV
  go_enter Tryz.func65, Tryz.ntmps65
  go_wp2
  all_goals go_ret
  all_goals refine ⟨ret_eq (int_eq ?_), (Below.refl _ _).alloc (Nat.le_refl _) _⟩
  all_goals (rw [HT.out]; first | (rw [if_pos (by omega), if_pos (by omega)]) | (rw [if_pos (by omega), if_neg (by omega)]) | (rw [if_neg (by omega)]))

theorem rcheck_any (d s : Mac) (t : Int) (v : Value) (n : Nat) (w : World) (hv : ∃ a c, v = .slice a n c) :
    Calls Tryz.prog 90 #[etherV d s t v] w fun e w' => e = .returned (.int .i64 (etherCode t n)) ∧ Below w.heap.size w w' := by
  obtain ⟨a, c, rfl⟩ := hv
  have HT : Hid (etherCode t n = if 1536 ≤ t ∧ t ≤ 65535 then (if 1500 < n then 2 else 0) else 40) := rfl
  generalize etherCode t n = r at *
  unfold etherV
  go_enter Tryz.func90, Tryz.ntmps90
  go_wp2
  all_goals go_ret
  all_goals refine ⟨ret_eq (int_eq ?_), (Below.refl _ _).alloc (Nat.le_refl _) _⟩
  all_goals (rw [HT.out]; first | (rw [if_pos (by omega), if_pos (by omega)]) | (rw [if_pos (by omega), if_neg (by omega)]) | (rw [if_neg (by omega)]))

/-- bytes that read so, in memory that is new since w0 -/
def NewBytes (w0 w : World) (v : Value) (l : List UInt8) : Prop := IsBytes w v l ∧ ∀ x n c, v = .slice (some x) n c → w0.heap.size ≤ x.block
theorem NewBytes.nil (w0 w : World) : NewBytes w0 w (.slice none 0 0) [] := ⟨.nil _, fun x n c h => by cases h⟩
theorem own_new {w0 w : World} {base : Nat} {e : TypeId} {v : Value} {n : Nat} {l : List UInt8} (h : w.ownsRow base e 1 v n (l.map bv)) (hs : w0.heap.size ≤ base) : NewBytes w0 w v l := by
  refine ⟨own_bytes h, fun x n' c hv => ?_⟩
  rcases h.2 with ⟨h0, _⟩ | ⟨g, cap, cur, h0, hg, _⟩
  · rw [hv] at h0; cases h0
  · rw [hv] at h0; cases h0; exact Nat.le_trans hs hg
theorem NewBytes.below {w0 w w' : World} {v : Value} {l : List UInt8} (h : NewBytes w0 w v l) (hb : Below w.heap.size w w') : NewBytes w0 w' v l := ⟨h.1.below hb, h.2⟩
theorem NewBytes.older {w0 w1 w : World} {v : Value} {l : List UInt8} (h : NewBytes w1 w v l) (hs : w0.heap.size ≤ w1.heap.size) : NewBytes w0 w v l := ⟨h.1, fun x n c hv => Nat.le_trans hs (h.2 x n c hv)⟩
/-- they stay where only one older block turns -/
theorem NewBytes.kept {w0 w w' : World} {v : Value} {l : List UInt8} (h : NewBytes w0 w v l) {C : Nat} (hC : C < w0.heap.size) (hk : ∀ k, k < w.heap.size → k ≠ C → w'.heap[k]? = w.heap[k]?) : IsBytes w' v l := by
  obtain ⟨h, hn⟩ := h
  rcases h with h | ⟨x, cap, rfl, h1, h2, h3⟩
  · exact .inl h
  · refine .inr ⟨x, cap, rfl, h1, h2, fun i hi => ?_⟩
    have hc := h3 i hi
    have hxb : w0.heap.size ≤ (x.add i).block := by
      have := hn x _ _ rfl
      unfold Addr.add; split <;> exact this
    rw [World.cell?_of_block (w := w) (hk _ (World.block_lt_of_cell? w _ hc) (by omega))]
    exact hc

set_option maxHeartbeats 4000000 in
theorem ether_enc (d s : Mac) (t : Int) (v : Value) (p : List UInt8) (w : World) (hv : IsBytes w v p) :
    Calls Tryz.prog 111 #[etherV d s t v] w fun e w' => ∃ v', e = .returned (.tuple #[v', .int .i64 (etherCode t p.length)]) ∧ Below w.heap.size w w' ∧ NewBytes w w' v' (etherOut d s t p) := by
  have HC := fun w => check_any d s t v p.length w
  obtain ⟨a, cap, rfl, h1, h2⟩ := hv.shape
  have HC := Lib.hid (fun w => HC w ⟨a, cap, rfl⟩)
  have Hv := Lib.hid hv
  clear hv
  obtain ⟨w1, hw1⟩ : ∃ w1, w1 = w.alloc (.cells (match etherV d s t (.slice a p.length cap) with | .agg cs => cs | v => #[v]) 95) := ⟨_, rfl⟩
  have hn := hw1 ▸ heap_alloc_new w _
  have Hb1 : Hid (Below w.heap.size w w1) := by rw [hw1]; exact (Below.refl _ _).alloc (Nat.le_refl _) _
  unfold etherV at *
  rcases d with ⟨d0, d1, d2, d3, d4, d5⟩
  rcases s with ⟨s0, s1, s2, s3, s4, s5⟩
  simp only at hw1 hn HC ⊢
  have HD : Hid (IsBytes w1 (.slice (some ⟨w.heap.size, 0, none⟩) 6 6) [d0, d1, d2, d3, d4, d5]) := bytes_part [d0, d1, d2, d3, d4, d5] 6 hn (Nat.le_refl _) (by unfold maxLen; omega) (by intro i hi; rcases i with _ | _ | _ | _ | _ | _ | i <;> first | rfl | (exfalso; simp only [List.length_cons, List.length_nil] at hi; omega))
  have HS : Hid (IsBytes w1 (.slice (some ⟨w.heap.size, 6, none⟩) 6 6) [s0, s1, s2, s3, s4, s5]) := bytes_part [s0, s1, s2, s3, s4, s5] 6 hn (Nat.le_refl _) (by unfold maxLen; omega) (by intro i hi; rcases i with _ | _ | _ | _ | _ | _ | i <;> first | rfl | (exfalso; simp only [List.length_cons, List.length_nil] at hi; omega))
  have H12 : Hid (w1.cell? ⟨w.heap.size, 12, none⟩ = some (.int .i64 t)) := by unfold Hid; rw [cell_of_row w1 _ _ _ _ _ hn]; rfl
  have H13 : Hid (w1.cell? ⟨w.heap.size, 13, none⟩ = some (.slice a p.length cap)) := by unfold Hid; rw [cell_of_row w1 _ _ _ _ _ hn]; rfl
  have Hv1 := Lib.hid (Hv.out.below Hb1.out)
  rcases etherCode_cases t p.length with hcode | hcode | hcode
  · have hk : t ≤ 65535 ∧ 0 ≤ t ∧ p.length ≤ 1500 := etherCode_zero hcode
    rw [hcode] at HC
    have Hcode := Lib.hid hcode
    clear hcode
    obtain ⟨k, rfl⟩ : ∃ k : Nat, t = k := ⟨t.toNat, by omega⟩
    have hwk : Hid (IntKind.u64.wrap (k : Int) = k) := by unfold Hid; rw [IntKind.wrap_u64]; omega
    have HP := Lib.hid (putb2 k (by omega))
    have hl : p.length ≤ 1500 := hk.2.2
    have hk2 : k ≤ 65535 := by omega
    clear hk
    go_enter Tryz.func111, Tryz.ntmps111
    go_wp2_with (go_at_call 65; refine (HC.out _).mono ?_; rintro e w2 ⟨rfl, hb2⟩)
    rw [← hw1] at hb2
    have HD := Lib.hid (HD.out.below hb2)
    have HS := Lib.hid (HS.out.below hb2)
    have H12 := Lib.hid (cell_below H12.out hb2)
    have H13 := Lib.hid (cell_below H13.out hb2)
    have Hv1 := Lib.hid (Hv1.out.below hb2)
    have Hb1 := Lib.hid (Hb1.out.trans (hb2.mono Hb1.out.size))
    clear hb2 hw1 hn
    refine rn_begin (w2.heap.size) (by kernel_rfl) ?_
    refine rn_take (i := 0) rfl (by kernel_rfl) (by kernel_rfl) (by kernel_rfl) (fun _ _ _ h => h) (by rfl) (v := ?_) ?_ ?_
    rotate_left 1
    · intro W hW; go_simp; all_goals with_reducible rfl
    simp only [Act.put, List.setIfInBounds_toArray, List.set_cons_zero, List.set_cons_succ]
    refine rn_take (i := 1) rfl (by kernel_rfl) (by kernel_rfl) (by kernel_rfl) (fun _ _ _ h => h) (by rfl) (v := ?_) ?_ ?_
    rotate_left 1
    · intro W hW; go_simp; all_goals with_reducible rfl
    simp only [Act.put, List.setIfInBounds_toArray, List.set_cons_zero, List.set_cons_succ]
    refine rn_take (i := 2) rfl (by kernel_rfl) (by kernel_rfl) (by kernel_rfl) (fun _ _ _ h => h) (by rfl) (v := ?_) ?_ ?_
    rotate_left 1
    · intro W hW; go_simp; all_goals with_reducible rfl
    simp only [Act.put, List.setIfInBounds_toArray, List.set_cons_zero, List.set_cons_succ]
    refine rn_take (i := 3) rfl (by kernel_rfl) (by kernel_rfl) (by kernel_rfl) (fun _ _ _ h => h) (by rfl) (v := ?_) ?_ ?_
    rotate_left 1
    · intro W hW; go_simp; all_goals with_reducible rfl
    simp only [Act.put, List.setIfInBounds_toArray, List.set_cons_zero, List.set_cons_succ]
    refine rn_take (i := 4) rfl (by kernel_rfl) (by kernel_rfl) (by kernel_rfl) (fun _ _ _ h => h) (by rfl) (v := ?_) ?_ ?_
    rotate_left 1
    · intro W hW; go_simp; all_goals with_reducible rfl
    simp only [Act.put, List.setIfInBounds_toArray, List.set_cons_zero, List.set_cons_succ]
    have hA2 := fun W (hW : Sn w2.heap.size w2.drew W) => cell_below H12.out (((Below.refl _ _).drew).trans hW)
    have hA3 := fun W (hW : Sn w2.heap.size w2.drew W) => cell_below H13.out (((Below.refl _ _).drew).trans hW)
    refine rn_take (i := 5) rfl (by kernel_rfl) (by kernel_rfl) (by kernel_rfl) (fun _ _ _ h => h) (by rfl) (v := ?_) ?_ ?_
    rotate_left 1
    · intro W hW; go_simp; all_goals with_reducible rfl
    simp only [Act.put, List.setIfInBounds_toArray, List.set_cons_zero, List.set_cons_succ]
    refine rn_take (i := 6) rfl (by kernel_rfl) (by kernel_rfl) (by kernel_rfl) (fun _ _ _ h => h) (by rfl) (v := ?_) ?_ ?_
    rotate_left 1
    · intro W hW; go_simp; all_goals with_reducible rfl
    simp only [Act.put, List.setIfInBounds_toArray, List.set_cons_zero, List.set_cons_succ]
    refine rn_take (i := 8) rfl (by kernel_rfl) (by kernel_rfl) (by kernel_rfl) (fun _ _ _ h => h) (by rfl) (v := ?_) ?_ ?_
    rotate_left 1
    · intro W hW; go_simp; all_goals with_reducible rfl
    simp only [Act.put, List.setIfInBounds_toArray, List.set_cons_zero, List.set_cons_succ]
    refine rn_take (i := 9) rfl (by kernel_rfl) (by kernel_rfl) (by kernel_rfl) (fun _ _ _ h => h) (by rfl) (v := ?_) ?_ ?_
    rotate_left 1
    · intro W hW; go_simp; all_goals with_reducible rfl
    simp only [Act.put, List.setIfInBounds_toArray, List.set_cons_zero, List.set_cons_succ]
    rw [hwk.out]
    clear hA2 hA3
    have Hbd : Hid (Below w2.heap.size w2 w2.drew) := (Below.refl _ _).drew
    refine rn_one (i := 7) (by kernel_rfl) ?_
    refine st_call (i := 7) rfl (by rfl) (f := 85) (args := #[.int .u64 k, .int .i64 2]) (by go_simp) ((HP.out w2.drew).mono ?_)
    rintro e w7 ⟨v7, rfl, hb7, hs7⟩
    have S7 := Lib.hid hs7
    have hb7 := hb7.mono Hbd.out.size
    have HB := Lib.hid (Hbd.out.trans hb7)
    refine ⟨_, rfl, hb7, ?_⟩
    simp only [Act.put, List.setIfInBounds_toArray, List.set_cons_zero, List.set_cons_succ]
    have HD := Lib.hid (HD.out.below HB.out)
    have HS := Lib.hid (HS.out.below HB.out)
    have HV := Lib.hid (Hv1.out.below HB.out)
    obtain ⟨a7, c7, rfl, -, -⟩ := S7.out.shape
    refine rn_one (i := 10) (by kernel_rfl) ?_
    refine st_made (i := 10) rfl (by rfl) (v := .slice (some ⟨w7.heap.size, 0, none⟩) 4 4) (x := .cells #[.slice (some ⟨w.heap.size, 0, none⟩) 6 6, .slice (some ⟨w.heap.size, 6, none⟩) 6 6, .slice a7 (be k 2).length c7, .slice a p.length cap] 24) (by go_simp) HB.out.size ?_
    intro v10 w10 hv10 hw10 hb10
    have HR : Hid (IsRows w10 v10 [[d0, d1, d2, d3, d4, d5], [s0, s1, s2, s3, s4, s5], be k 2, p]) := by subst hv10; exact rows_four hw10 HD.out HS.out S7.out HV.out
    have HB := Lib.hid (HB.out.trans hb10)
    clear hb10 hw10 hv10
    simp only [Act.put, List.setIfInBounds_toArray, List.set_cons_zero, List.set_cons_succ]
    refine rn_one (i := 11) (by kernel_rfl) ?_
    refine st_call (i := 11) rfl (by rfl) (f := 152) (args := #[v10]) (by go_simp) ((concat_any v10 [[d0, d1, d2, d3, d4, d5], [s0, s1, s2, s3, s4, s5], be k 2, p] (by simp [be_len]; omega) (by simp) w10 HR.out).mono ?_)
    rintro e w11 ⟨v11, rfl, hb11, hs11⟩
    have hsz := Nat.le_trans Hb1.out.size HB.out.size
    have hb11 := hb11.mono HB.out.size
    have HB := Lib.hid (HB.out.trans hb11)
    have HO : Hid (NewBytes w w11 v11 (etherOut ⟨d0, d1, d2, d3, d4, d5⟩ ⟨s0, s1, s2, s3, s4, s5⟩ k p)) := by have := own_new hs11 hsz; unfold Hid etherOut Mac.l; rw [Hcode.out, if_pos rfl]; simpa using this
    refine ⟨_, rfl, hb11, ?_⟩
    clear hs11 hb11
    simp only [Act.put, List.setIfInBounds_toArray, List.set_cons_zero, List.set_cons_succ]
    refine rn_take (i := 12) rfl (by kernel_rfl) (by kernel_rfl) (by kernel_rfl) (fun _ _ _ h => h) (by rfl) (v := v11) (by intro W hW; go_simp) ?_
    simp only [Act.put, List.setIfInBounds_toArray, List.set_cons_zero, List.set_cons_succ]
    refine rn_done (by kernel_rfl) ?_
    go_wp2
    refine bodyPost_ret (v := .tuple #[v11, .int .i64 0]) (by simp [results, Tryz.results111, go_sem]) rfl ⟨_, by rw [Hcode.out], Hb1.out.trans (HB.out.mono Hb1.out.size), HO.out⟩
  · rw [hcode] at HC
    have Hcode := Lib.hid hcode
    clear hcode
    go_enter Tryz.func111, Tryz.ntmps111
    go_wp2_with (go_at_call 65; refine (HC.out _).mono ?_; rintro e w2 ⟨rfl, hb2⟩)
    rw [← hw1] at hb2
    refine bodyPost_ret (v := .tuple #[.slice none 0 0, .int .i64 2]) (by simp [results, Tryz.results111, go_sem]) rfl ⟨_, by rw [Hcode.out], Hb1.out.trans (hb2.mono Hb1.out.size), ?_⟩
    unfold etherOut; rw [Hcode.out]; exact .nil _ _
  · rw [hcode] at HC
    have Hcode := Lib.hid hcode
    clear hcode
    go_enter Tryz.func111, Tryz.ntmps111
    go_wp2_with (go_at_call 65; refine (HC.out _).mono ?_; rintro e w2 ⟨rfl, hb2⟩)
    rw [← hw1] at hb2
    refine bodyPost_ret (v := .tuple #[.slice none 0 0, .int .i64 40]) (by simp [results, Tryz.results111, go_sem]) rfl ⟨_, by rw [Hcode.out], Hb1.out.trans (hb2.mono Hb1.out.size), ?_⟩
    unfold etherOut; rw [Hcode.out]; exact .nil _ _

set_option maxHeartbeats 4000000 in
theorem rether_enc (d s : Mac) (t : Int) (v : Value) (p : List UInt8) (w : World) (hv : IsBytes w v p) :
    Calls Tryz.prog 52 #[etherV d s t v] w fun e w' => ∃ v', e = .returned (.tuple #[v', .int .i64 (etherCode t p.length)]) ∧ Below w.heap.size w w' ∧ NewBytes w w' v' (etherOut d s t p) := by
  have HC := fun w => rcheck_any d s t v p.length w
  obtain ⟨a, cap, rfl, h1, h2⟩ := hv.shape
  have HC := Lib.hid (fun w => HC w ⟨a, cap, rfl⟩)
  have Hv := Lib.hid hv
  clear hv
  obtain ⟨w1, hw1⟩ : ∃ w1, w1 = w.alloc (.cells (match etherV d s t (.slice a p.length cap) with | .agg cs => cs | v => #[v]) 95) := ⟨_, rfl⟩
  have hn := hw1 ▸ heap_alloc_new w _
  have Hb1 : Hid (Below w.heap.size w w1) := by rw [hw1]; exact (Below.refl _ _).alloc (Nat.le_refl _) _
  unfold etherV at *
  rcases d with ⟨d0, d1, d2, d3, d4, d5⟩
  rcases s with ⟨s0, s1, s2, s3, s4, s5⟩
  simp only at hw1 hn HC ⊢
  have HD : Hid (IsBytes w1 (.slice (some ⟨w.heap.size, 0, none⟩) 6 6) [d0, d1, d2, d3, d4, d5]) := bytes_part [d0, d1, d2, d3, d4, d5] 6 hn (Nat.le_refl _) (by unfold maxLen; omega) (by intro i hi; rcases i with _ | _ | _ | _ | _ | _ | i <;> first | rfl | (exfalso; simp only [List.length_cons, List.length_nil] at hi; omega))
  have HS : Hid (IsBytes w1 (.slice (some ⟨w.heap.size, 6, none⟩) 6 6) [s0, s1, s2, s3, s4, s5]) := bytes_part [s0, s1, s2, s3, s4, s5] 6 hn (Nat.le_refl _) (by unfold maxLen; omega) (by intro i hi; rcases i with _ | _ | _ | _ | _ | _ | i <;> first | rfl | (exfalso; simp only [List.length_cons, List.length_nil] at hi; omega))
  have H12 : Hid (w1.cell? ⟨w.heap.size, 12, none⟩ = some (.int .i64 t)) := by unfold Hid; rw [cell_of_row w1 _ _ _ _ _ hn]; rfl
  have H13 : Hid (w1.cell? ⟨w.heap.size, 13, none⟩ = some (.slice a p.length cap)) := by unfold Hid; rw [cell_of_row w1 _ _ _ _ _ hn]; rfl
  have Hv1 := Lib.hid (Hv.out.below Hb1.out)
  rcases etherCode_cases t p.length with hcode | hcode | hcode
  · have hk : t ≤ 65535 ∧ 0 ≤ t ∧ p.length ≤ 1500 := etherCode_zero hcode
    rw [hcode] at HC
    have Hcode := Lib.hid hcode
    clear hcode
    obtain ⟨k, rfl⟩ : ∃ k : Nat, t = k := ⟨t.toNat, by omega⟩
    have hl : p.length ≤ 1500 := hk.2.2
    have hk2 : k ≤ 65535 := by omega
    clear hk
    go_enter Tryz.func52, Tryz.ntmps52
    go_wp2_with (first
      | (have x := Ho3.out; clear x; at_builtin; go_must (refine wpList_append_from rfl _ _ _ rfl w2.heap.size el_u8 rfl Ho3.out rfl HsV.out (by first | omega | (simp only [List.length_cons, List.length_nil]; omega)) HB3.out.size ?_); intro v4 W4 ho4 hg4 hb4)
      | (have x := Ho2.out; clear x; at_builtin; go_must (refine wpList_append_from rfl _ _ _ rfl w2.heap.size el_u8 rfl Ho2.out rfl HsT.out (by first | omega | (simp only [List.length_cons, List.length_nil]; omega)) HB2.out.size ?_); intro v3 W3 ho3 hg3 hb3; have Ho3 := Lib.hid ho3; have HB3 := Lib.hid (HB2.out.trans hb3); have HsV := Lib.hid (Hv1.out.below HB3.out).src; have e13 := cell_below H13.out HB3.out; clear e12 Ho2 HB2 ho3 hg3 hb3)
      | (have x := Ho1.out; clear x; at_builtin; go_must (refine wpList_append_from rfl _ _ _ rfl w2.heap.size el_u8 rfl Ho1.out rfl HsS.out (by first | omega | (simp only [List.length_cons, List.length_nil]; omega)) HB1.out.size ?_); intro v2 W2 ho2 hg2 hb2; have HBy := HB1.out.trans hb2; have e12 := cell_below H12.out HBy; have hal := (Below.refl W2.heap.size W2).alloc (Nat.le_refl _) (.cells #[.int .u8 ((k : Int) / 256), .int .u8 ((k : Int) % 256)] 5); have Ho2 := Lib.hid (own_below ho2 hal); have HB2 := Lib.hid (HBy.trans (hal.mono HBy.size)); have HsT := Lib.hid (src_block 1 2 2 (heap_alloc_new W2 (.cells #[.int .u8 ((k : Int) / 256), .int .u8 ((k : Int) % 256)] 5)) rfl (by simp [Value.oneCell'])); clear hal Ho1 ho2 hg2 hb2 HBy HB1)
      | (have x := Ho0.out; clear x; at_builtin; go_must (refine wpList_append_from rfl _ _ _ rfl w2.heap.size el_u8 rfl Ho0.out rfl HsD.out (by first | omega | (simp only [List.length_cons, List.length_nil]; omega)) HB0.out.size ?_); intro v1 W1 ho1 hg1 hb1; have Ho1 := Lib.hid ho1; have HB1 := Lib.hid (HB0.out.trans hb1); have HsS := Lib.hid (HS.out.below HB1.out).src; clear Ho0 HB0 ho1 hg1 hb1)
      | (go_at_call 90; refine (HC.out _).mono ?_; rintro e w2 ⟨rfl, hb2⟩; rw [← hw1] at hb2; have HD := Lib.hid (HD.out.below hb2); have HS := Lib.hid (HS.out.below hb2); have H12 := Lib.hid (cell_below H12.out hb2); have H13 := Lib.hid (cell_below H13.out hb2); have Hv1 := Lib.hid (Hv1.out.below hb2); have Hb1 := Lib.hid (Hb1.out.trans (hb2.mono Hb1.out.size)); have HB0 : Hid (Below w2.heap.size w2 (w2.alloc (.cells #[] 5))) := (Below.refl _ _).alloc (Nat.le_refl _) _; have Ho0 := Lib.hid (own_empty w2 w2.heap.size (Nat.le_refl _) 5 1); have HsD := Lib.hid (HD.out.below HB0.out).src; clear hb2 hw1 hn))
    refine bodyPost_ret (v := .tuple #[v4, .int .i64 0]) (by simp [results, Tryz.results52, go_sem]) rfl ⟨_, by rw [Hcode.out], Hb1.out.trans ((HB3.out.trans hb4).mono Hb1.out.size), ?_⟩
    unfold etherOut Mac.l; rw [Hcode.out, if_pos rfl]
    have hh : ([] ++ List.map bv [d0, d1, d2, d3, d4, d5] ++ List.map bv [s0, s1, s2, s3, s4, s5] ++ #[Value.int .u8 ((k : Int) / 256), Value.int .u8 ((k : Int) % 256)].toList ++ p.map bv) = ([d0, d1, d2, d3, d4, d5] ++ [s0, s1, s2, s3, s4, s5] ++ be k 2 ++ p).map bv := by
      simp [be2_vals k hk2]
    rw [hh] at ho4
    exact own_new ho4 Hb1.out.size
  · rw [hcode] at HC
    have Hcode := Lib.hid hcode
    clear hcode
    go_enter Tryz.func52, Tryz.ntmps52
    go_wp2_with (go_at_call 90; refine (HC.out _).mono ?_; rintro e w2 ⟨rfl, hb2⟩)
    rw [← hw1] at hb2
    refine bodyPost_ret (v := .tuple #[.slice none 0 0, .int .i64 2]) (by simp [results, Tryz.results52, go_sem]) rfl ⟨_, by rw [Hcode.out], Hb1.out.trans (hb2.mono Hb1.out.size), ?_⟩
    unfold etherOut; rw [Hcode.out]; exact .nil _ _
  · rw [hcode] at HC
    have Hcode := Lib.hid hcode
    clear hcode
    go_enter Tryz.func52, Tryz.ntmps52
    go_wp2_with (go_at_call 90; refine (HC.out _).mono ?_; rintro e w2 ⟨rfl, hb2⟩)
    rw [← hw1] at hb2
    refine bodyPost_ret (v := .tuple #[.slice none 0 0, .int .i64 40]) (by simp [results, Tryz.results52, go_sem]) rfl ⟨_, by rw [Hcode.out], Hb1.out.trans (hb2.mono Hb1.out.size), ?_⟩
    unfold etherOut; rw [Hcode.out]; exact .nil _ _
end Go.Proofs.YtokiedeiamlnlaaGreat
