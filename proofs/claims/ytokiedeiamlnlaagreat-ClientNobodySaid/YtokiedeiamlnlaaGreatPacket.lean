/- pppoe.within, pppoe.Encode, conciergeref06.Encode: one function of bytes. -/
import Derived.Test.YtokiedeiamlnlaaGreatProg
import Derived.Test.YtokiedeiamlnlaaGreatBase
import Derived.Test.YtokiedeiamlnlaaGreatPut
import Derived.Test.YtokiedeiamlnlaaGreatCat
import Derived.Test.YtokiedeiamlnlaaGreatTags
import Derived.Test.YtokiedeiamlnlaaGreatRg2
namespace Go.Proofs.YtokiedeiamlnlaaGreat
set_option linter.unusedSimpArgs false
set_option linter.unusedVariables false
open Go.RowKit
set_option maxRecDepth 10000

def packCode (c s : Int) (n : Nat) : Int := if 0 ≤ c ∧ c ≤ 255 ∧ 0 ≤ s ∧ s ≤ 65535 then (if 1494 < n then 2 else 0) else 60
def packOut (c s : Int) (p : List UInt8) : List UInt8 := if packCode c s p.length = 0 then [17, UInt8.ofNat c.toNat] ++ be s.toNat 2 ++ be p.length 2 ++ p else []

theorem within_b (n lo hi : Int) (b : Bool) (hb : b = true ↔ lo ≤ n ∧ n ≤ hi) (w : World) : Calls Tryz.prog 151 #[.int .i64 n, .int .i64 lo, .int .i64 hi] w fun e w' => e = .returned (.bool b) ∧ w' = w := by
  have Hb := Lib.hid hb
  clear hb
  go_enter Tryz.func151, Tryz.ntmps151
  go_wp2
  all_goals go_ret
  all_goals refine ⟨ret_eq (bool_eq ?_), rfl⟩
  all_goals (rw [Bool.eq_iff_iff, Hb.out]; simp; try omega)
theorem within_any (n lo hi : Int) (w : World) : Calls Tryz.prog 151 #[.int .i64 n, .int .i64 lo, .int .i64 hi] w fun e w' => ∃ b, e = .returned (.bool b) ∧ w' = w ∧ (b = true ↔ lo ≤ n ∧ n ≤ hi) := by
  refine (within_b n lo hi (decide (lo ≤ n ∧ n ≤ hi)) (by simp) w).mono ?_
  rintro e w' ⟨rfl, rfl⟩
  exact ⟨_, rfl, rfl, by simp⟩

theorem bytes_two (w : World) (m : Nat) (t : TypeId) (hm : m ≤ 255) : IsBytes (w.alloc (.cells #[.int .u8 17, .int .u8 m] t)) (.slice (some ⟨w.heap.size, 0, none⟩) 2 2) [17, UInt8.ofNat m] := by
  have h : (UInt8.ofNat m).toNat = m := by simp; omega
  refine bytes_block [17, UInt8.ofNat m] 2 (B := w.heap.size) (t := t) (fr := (0, 0)) ?_ (by simp) (by unfold maxLen; omega)
  rw [heap_alloc_new]
  simp [h]
theorem IsBytes.alloc {w W : World} {v : Value} {l : List UInt8} {x : Obj} (h : IsBytes w v l) (hW : W = w.alloc x) : IsBytes W v l := by
  subst hW; exact h.below ((Below.refl _ _).alloc (Nat.le_refl _) _)

theorem rows_four {w W : World} {t : TypeId} {a b c d : Value} {l1 l2 l3 l4 : List UInt8} (hW : W = w.alloc (.cells #[a, b, c, d] t)) (h1 : IsBytes w a l1) (h2 : IsBytes w b l2) (h3 : IsBytes w c l3) (h4 : IsBytes w d l4) :
    IsRows W (.slice (some ⟨w.heap.size, 0, none⟩) 4 4) [l1, l2, l3, l4] := by
  have hn : W.heap[w.heap.size]? = some (.cells #[a, b, c, d] t (0, 0)) := by rw [hW]; exact heap_alloc_new w _
  have e : ∀ i, (⟨w.heap.size, 0, none⟩ : Addr).add i = ⟨w.heap.size, i, none⟩ := by intro i; unfold Addr.add; split <;> simp_all
  refine ⟨_, _, rfl, fun i l hl => ?_⟩
  rcases i with _ | _ | _ | _ | i
  · simp at hl; subst hl; exact ⟨a, by rw [e, cell_of_row W _ _ _ t _ hn]; rfl, h1.alloc hW⟩
  · simp at hl; subst hl; exact ⟨b, by rw [e, cell_of_row W _ _ _ t _ hn]; rfl, h2.alloc hW⟩
  · simp at hl; subst hl; exact ⟨c, by rw [e, cell_of_row W _ _ _ t _ hn]; rfl, h3.alloc hW⟩
  · simp at hl; subst hl; exact ⟨d, by rw [e, cell_of_row W _ _ _ t _ hn]; rfl, h4.alloc hW⟩
  · simp at hl

theorem own_full (w : World) (base : Nat) (hb : base ≤ w.heap.size) (e : TypeId) (cs : Array Value) (n : Nat) (hn : cs.size = n) (hm : n ≤ maxLen) :
    (w.alloc (.cells cs e)).ownsRow base e 1 (.slice (some ⟨w.heap.size, 0, none⟩) n n) n cs.toList :=
  ⟨by simp [hn], .inr ⟨w.heap.size, n, cs, rfl, hb, heap_alloc_new w _, Nat.le_refl _, hm, by simp [hn], by rw [Nat.mul_one, ← hn, ← Array.length_toList, List.take_length]⟩⟩
theorem be2_vals (k : Nat) (hk : k ≤ 65535) : (be k 2).map bv = [.int .u8 ((k : Int) / 256), .int .u8 ((k : Int) % 256)] := by
  have h1 := beByte_int k 1
  have h0 := beByte_int k 0
  have : (be k 2).map bv = [bv (beByte k 1), bv (beByte k 0)] := rfl
  rw [this, show bv (beByte k 1) = .int .u8 ((k : Int) / 2 ^ (8 * 1) % 256) by rw [h1], show bv (beByte k 0) = .int .u8 ((k : Int) / 2 ^ (8 * 0) % 256) by rw [h0]]
  simp
  omega
theorem head_vals (m k n : Nat) (hm : m ≤ 255) (hk : k ≤ 65535) (hn : n ≤ 65535) : ([17, UInt8.ofNat m] ++ be k 2 ++ be n 2).map bv =
    [.int .u8 17, .int .u8 m, .int .u8 ((k : Int) / 256), .int .u8 ((k : Int) % 256), .int .u8 ((n : Int) / 256), .int .u8 ((n : Int) % 256)] := by
  have h : (UInt8.ofNat m).toNat = m := by simp; omega
  rw [List.map_append, List.map_append, be2_vals k hk, be2_vals n hn]
  simp [bv, h]

theorem putb2 (n : Nat) (hn : n ≤ 65535) (w : World) :
    Calls Tryz.prog 85 #[.int .u64 n, .int .i64 2] w fun e w' => ∃ v, e = .returned v ∧ Below w.heap.size w w' ∧ IsBytes w' v (be n 2) := by
  refine (put_any n (by omega) 2 (by omega) (by omega) w).mono ?_
  rintro e w' ⟨v, rfl, hb, ho⟩
  exact ⟨v, rfl, hb, own_bytes ho⟩

set_option maxHeartbeats 4000000 in
theorem pack_enc (c s : Int) (v : Value) (p : List UInt8) (w : World) (hv : IsBytes w v p) :
    Calls Tryz.prog 110 #[.agg #[.int .i64 c, .int .i64 s, v]] w fun e w' => ∃ v', e = .returned (.tuple #[v', .int .i64 (packCode c s p.length)]) ∧ Below w.heap.size w w' ∧ IsBytes w' v' (packOut c s p) := by
  obtain ⟨a, cap, rfl, h1, h2⟩ := hv.shape
  have Hv := Lib.hid hv
  clear hv
  by_cases hc : 0 ≤ c ∧ c ≤ 255 ∧ 0 ≤ s ∧ s ≤ 65535
  · obtain ⟨m, rfl⟩ : ∃ m : Nat, c = m := ⟨c.toNat, by omega⟩
    obtain ⟨k, rfl⟩ : ∃ k : Nat, s = k := ⟨s.toNat, by omega⟩
    have hm : m ≤ 255 := by omega
    have hk : k ≤ 65535 := by omega
    by_cases hl : 1494 < p.length
    · have hl' : (1494 : Int) < p.length := by omega
      have Hcode : Hid (packCode m k p.length = 2) := by unfold packCode; rw [if_pos hc, if_pos hl]; exact rfl
      go_enter Tryz.func110, Tryz.ntmps110
      go_wp2_with (go_at_call 151; refine (within_any _ _ _ _).mono ?_; rintro e w1 ⟨b, rfl, rfl, hb⟩; obtain rfl : b = true := hb.2 (by omega); clear hb)
      refine bodyPost_ret (v := .tuple #[.slice none 0 0, .int .i64 2]) (by simp [results, Tryz.results110, go_sem]) rfl ⟨_, by rw [Hcode.out], (Below.refl _ _).alloc (Nat.le_refl _) _, ?_⟩
      unfold packOut; rw [Hcode.out]; exact .nil _
    · have hl' : (p.length : Int) ≤ 1494 := by omega
      have Hcode : Hid (packCode m k p.length = 0) := by unfold packCode; rw [if_pos hc, if_neg hl]; exact rfl
      have hwc : Hid (IntKind.u8.wrap (m : Int) = m) := by unfold Hid; rw [IntKind.wrap_u8]; omega
      have hwk : Hid (IntKind.u64.wrap (k : Int) = k) := by unfold Hid; rw [IntKind.wrap_u64]; omega
      have hwl : Hid (IntKind.u64.wrap (p.length : Int) = p.length) := by unfold Hid; rw [IntKind.wrap_u64]; omega
      have HP := Lib.hid (putb2 k hk)
      have HP2 := Lib.hid (putb2 p.length (by omega))
      go_enter Tryz.func110, Tryz.ntmps110
      go_wp2_with (go_at_call 151; refine (within_any _ _ _ _).mono ?_; rintro e w1 ⟨b, rfl, rfl, hb⟩; obtain rfl : b = true := hb.2 (by omega); clear hb)
      obtain ⟨w1, hw1⟩ : ∃ w1, w1 = w.alloc (.cells #[.int .i64 m, .int .i64 k, .slice a p.length cap] 78) := ⟨_, rfl⟩
      rw [← hw1]
      have hn : w1.heap[w.heap.size]? = some (.cells #[.int .i64 m, .int .i64 k, .slice a p.length cap] 78 (0, 0)) := by rw [hw1]; exact heap_alloc_new w _
      have H0 : Hid (w1.cell? ⟨w.heap.size, 0, none⟩ = some (.int .i64 m)) := by unfold Hid; rw [cell_of_row w1 _ _ _ _ _ hn]; rfl
      have H1 : Hid (w1.cell? ⟨w.heap.size, 1, none⟩ = some (.int .i64 k)) := by unfold Hid; rw [cell_of_row w1 _ _ _ _ _ hn]; rfl
      have H2 : Hid (w1.cell? ⟨w.heap.size, 2, none⟩ = some (.slice a p.length cap)) := by unfold Hid; rw [cell_of_row w1 _ _ _ _ _ hn]; rfl
      have Hb1 : Hid (Below w.heap.size w w1) := by rw [hw1]; exact (Below.refl _ _).alloc (Nat.le_refl _) _
      have Hv1 := Lib.hid (Hv.out.below Hb1.out)
      clear hn hw1
      refine rn_begin w1.heap.size (by kernel_rfl) ?_
      refine rn_take (i := 0) rfl (by kernel_rfl) (by kernel_rfl) (by kernel_rfl) (fun _ _ _ h => h) (by rfl) (v := ?_) ?_ ?_
      rotate_left 1
      · intro W hW; go_simp; all_goals with_reducible rfl
      simp only [Act.put, List.setIfInBounds_toArray, List.set_cons_zero, List.set_cons_succ]
      have hA0 := fun W (hW : Sn w1.heap.size w1.drew W) => cell_below H0.out (((Below.refl _ _).drew).trans hW)
      have hA1 := fun W (hW : Sn w1.heap.size w1.drew W) => cell_below H1.out (((Below.refl _ _).drew).trans hW)
      have hA2 := fun W (hW : Sn w1.heap.size w1.drew W) => cell_below H2.out (((Below.refl _ _).drew).trans hW)
      refine rn_take (i := 1) rfl (by kernel_rfl) (by kernel_rfl) (by kernel_rfl) (fun _ _ _ h => h) (by rfl) (v := ?_) ?_ ?_
      rotate_left 1
      · intro W hW; go_simp; all_goals with_reducible rfl
      simp only [Act.put, List.setIfInBounds_toArray, List.set_cons_zero, List.set_cons_succ]
      refine rn_take (i := 2) rfl (by kernel_rfl) (by kernel_rfl) (by kernel_rfl) (fun _ _ _ h => h) (by rfl) (v := ?_) ?_ ?_
      rotate_left 1
      · intro W hW; go_simp; all_goals with_reducible rfl
      simp only [Act.put, List.setIfInBounds_toArray, List.set_cons_zero, List.set_cons_succ]
      refine rn_take (i := 4) rfl (by kernel_rfl) (by kernel_rfl) (by kernel_rfl) (fun _ _ _ h => h) (by rfl) (v := ?_) ?_ ?_
      rotate_left 1
      · intro W hW; go_simp; all_goals with_reducible rfl
      simp only [Act.put, List.setIfInBounds_toArray, List.set_cons_zero, List.set_cons_succ]
      refine rn_take (i := 5) rfl (by kernel_rfl) (by kernel_rfl) (by kernel_rfl) (fun _ _ _ h => h) (by rfl) (v := ?_) ?_ ?_
      rotate_left 1
      · intro W hW; go_simp; all_goals with_reducible rfl
      simp only [Act.put, List.setIfInBounds_toArray, List.set_cons_zero, List.set_cons_succ]
      refine rn_take (i := 6) rfl (by kernel_rfl) (by kernel_rfl) (by kernel_rfl) (fun _ _ _ h => h) (by rfl) (v := ?_) ?_ ?_
      rotate_left 1
      · intro W hW; go_simp; all_goals with_reducible rfl
      simp only [Act.put, List.setIfInBounds_toArray, List.set_cons_zero, List.set_cons_succ]
      refine rn_take (i := 8) rfl (by kernel_rfl) (by kernel_rfl) (by kernel_rfl) (fun _ _ _ h => h) (by rfl) (v := ?_) ?_ ?_
      rotate_left 1
      · intro W hW; go_simp; all_goals with_reducible rfl
      simp only [Act.put, List.setIfInBounds_toArray, List.set_cons_zero, List.set_cons_succ]
      refine rn_take (i := 9) rfl (by kernel_rfl) (by kernel_rfl) (by kernel_rfl) (fun _ _ _ h => h) (by rfl) (v := ?_) ?_ ?_
      rotate_left 1
      · intro W hW; go_simp; all_goals with_reducible rfl
      simp only [Act.put, List.setIfInBounds_toArray, List.set_cons_zero, List.set_cons_succ]
      refine rn_take (i := 10) rfl (by kernel_rfl) (by kernel_rfl) (by kernel_rfl) (fun _ _ _ h => h) (by rfl) (v := ?_) ?_ ?_
      rotate_left 1
      · intro W hW; go_simp; all_goals with_reducible rfl
      simp only [Act.put, List.setIfInBounds_toArray, List.set_cons_zero, List.set_cons_succ]
      refine rn_take (i := 11) rfl (by kernel_rfl) (by kernel_rfl) (by kernel_rfl) (fun _ _ _ h => h) (by rfl) (v := ?_) ?_ ?_
      rotate_left 1
      · intro W hW; go_simp; all_goals with_reducible rfl
      simp only [Act.put, List.setIfInBounds_toArray, List.set_cons_zero, List.set_cons_succ]
      refine rn_take (i := 13) rfl (by kernel_rfl) (by kernel_rfl) (by kernel_rfl) (fun _ _ _ h => h) (by rfl) (v := ?_) ?_ ?_
      rotate_left 1
      · intro W hW; go_simp; all_goals with_reducible rfl
      simp only [Act.put, List.setIfInBounds_toArray, List.set_cons_zero, List.set_cons_succ]
      refine rn_take (i := 14) rfl (by kernel_rfl) (by kernel_rfl) (by kernel_rfl) (fun _ _ _ h => h) (by rfl) (v := ?_) ?_ ?_
      rotate_left 1
      · intro W hW; go_simp; all_goals with_reducible rfl
      simp only [Act.put, List.setIfInBounds_toArray, List.set_cons_zero, List.set_cons_succ]
      rw [hwc.out, hwk.out, hwl.out]
      have Hbd : Hid (Below w1.heap.size w1 w1.drew) := (Below.refl _ _).drew
      clear hA0 hA1 hA2
      refine rn_two (i := 3) (j := 7) (by kernel_rfl) ?_ ?_
      rotate_left 1
      refine st_call (i := 7) rfl (by rfl) (f := 85) (args := #[.int .u64 k, .int .i64 2]) (by go_simp) ((HP.out w1.drew).mono ?_)
      rintro e w7 ⟨v7, rfl, hb7, hs7⟩
      have S7 := Lib.hid hs7; have hb7 := hb7.mono Hbd.out.size; have Hb7 := Lib.hid (Hbd.out.trans hb7)
      refine ⟨_, rfl, hb7, ?_⟩
      simp only [Act.put, List.setIfInBounds_toArray, List.set_cons_zero, List.set_cons_succ]
      refine rn_two (i := 3) (j := 12) (by kernel_rfl) ?_ ?_
      refine st_made (i := 3) rfl (by rfl) (v := .slice (some ⟨w7.heap.size, 0, none⟩) 2 2) (x := .cells #[.int .u8 17, .int .u8 m] 5) (by go_simp) Hb7.out.size ?_
      intro v3 w3 hv3 hw3 hb3
      have S3 : Hid (IsBytes w3 v3 [17, UInt8.ofNat m]) := by subst hv3 hw3; exact bytes_two _ _ _ hm
      simp only [Act.put, List.setIfInBounds_toArray, List.set_cons_zero, List.set_cons_succ]
      have S7 := Lib.hid (S7.out.alloc hw3); have Hb3 := Lib.hid (Hb7.out.trans hb3)
      refine rn_one (i := 12) (by kernel_rfl) ?_
      refine st_call (i := 12) rfl (by rfl) (f := 85) (args := #[.int .u64 p.length, .int .i64 2]) (by go_simp) ((HP2.out w3).mono ?_)
      rintro e W ⟨v12, rfl, hb12, hs12⟩
      have S3 := Lib.hid (S3.out.below hb12); have S7 := Lib.hid (S7.out.below hb12); have S12 := Lib.hid hs12; have hb12 := hb12.mono Hb3.out.size; have HB := Lib.hid (Hb3.out.trans hb12)
      refine ⟨_, rfl, hb12, ?_⟩
      simp only [Act.put, List.setIfInBounds_toArray, List.set_cons_zero, List.set_cons_succ]
      rotate_left 1
      refine st_call (i := 12) rfl (by rfl) (f := 85) (args := #[.int .u64 p.length, .int .i64 2]) (by go_simp) ((HP2.out w7).mono ?_)
      rintro e w12 ⟨v12, rfl, hb12, hs12⟩
      have S7 := Lib.hid (S7.out.below hb12); have S12 := Lib.hid hs12; have hb12 := hb12.mono Hb7.out.size; have Hb12 := Lib.hid (Hb7.out.trans hb12)
      refine ⟨_, rfl, hb12, ?_⟩
      simp only [Act.put, List.setIfInBounds_toArray, List.set_cons_zero, List.set_cons_succ]
      refine rn_one (i := 3) (by kernel_rfl) ?_
      refine st_made (i := 3) rfl (by rfl) (v := .slice (some ⟨w12.heap.size, 0, none⟩) 2 2) (x := .cells #[.int .u8 17, .int .u8 m] 5) (by go_simp) Hb12.out.size ?_
      intro v3 W hv3 hw3 hb3
      have S3 : Hid (IsBytes W v3 [17, UInt8.ofNat m]) := by subst hv3 hw3; exact bytes_two _ _ _ hm
      simp only [Act.put, List.setIfInBounds_toArray, List.set_cons_zero, List.set_cons_succ]
      have S7 := Lib.hid (S7.out.alloc hw3); have S12 := Lib.hid (S12.out.alloc hw3); have HB := Lib.hid (Hb12.out.trans hb3)
      rotate_left 1
      refine st_made (i := 3) rfl (by rfl) (v := .slice (some ⟨w1.drew.heap.size, 0, none⟩) 2 2) (x := .cells #[.int .u8 17, .int .u8 m] 5) (by go_simp) Hbd.out.size ?_
      intro v3 w3 hv3 hw3 hb3
      have S3 : Hid (IsBytes w3 v3 [17, UInt8.ofNat m]) := by subst hv3 hw3; exact bytes_two _ _ _ hm
      simp only [Act.put, List.setIfInBounds_toArray, List.set_cons_zero, List.set_cons_succ]
      have Hb3 := Lib.hid (Hbd.out.trans hb3)
      refine rn_one (i := 7) (by kernel_rfl) ?_
      refine st_call (i := 7) rfl (by rfl) (f := 85) (args := #[.int .u64 k, .int .i64 2]) (by go_simp) ((HP.out w3).mono ?_)
      rintro e w7 ⟨v7, rfl, hb7, hs7⟩
      have S3 := Lib.hid (S3.out.below hb7); have S7 := Lib.hid hs7; have hb7 := hb7.mono Hb3.out.size; have Hb7 := Lib.hid (Hb3.out.trans hb7)
      refine ⟨_, rfl, hb7, ?_⟩
      simp only [Act.put, List.setIfInBounds_toArray, List.set_cons_zero, List.set_cons_succ]
      refine rn_one (i := 12) (by kernel_rfl) ?_
      refine st_call (i := 12) rfl (by rfl) (f := 85) (args := #[.int .u64 p.length, .int .i64 2]) (by go_simp) ((HP2.out w7).mono ?_)
      rintro e W ⟨v12, rfl, hb12, hs12⟩
      have S3 := Lib.hid (S3.out.below hb12); have S7 := Lib.hid (S7.out.below hb12); have S12 := Lib.hid hs12; have hb12 := hb12.mono Hb7.out.size; have HB := Lib.hid (Hb7.out.trans hb12)
      refine ⟨_, rfl, hb12, ?_⟩
      simp only [Act.put, List.setIfInBounds_toArray, List.set_cons_zero, List.set_cons_succ]
      all_goals have HV := Lib.hid (Hv1.out.below HB.out)
      all_goals obtain ⟨a3, c3, rfl, -, -⟩ := S3.out.shape
      all_goals obtain ⟨a7, c7, rfl, -, -⟩ := S7.out.shape
      all_goals obtain ⟨a12, c12, rfl, -, -⟩ := S12.out.shape
      all_goals refine rn_one (i := 15) (by kernel_rfl) ?_
      all_goals refine st_made (i := 15) rfl (by rfl) (v := .slice (some ⟨W.heap.size, 0, none⟩) 4 4) (x := .cells #[.slice a3 2 c3, .slice a7 (be k 2).length c7, .slice a12 (be p.length 2).length c12, .slice a p.length cap] 24) (by go_simp) HB.out.size ?_
      all_goals intro v15 w15 hv15 hw15 hb15
      all_goals have HR : Hid (IsRows w15 v15 [[17, UInt8.ofNat m], be k 2, be p.length 2, p]) := by subst hv15; exact rows_four hw15 S3.out S7.out S12.out HV.out
      all_goals have HB := Lib.hid (HB.out.trans hb15)
      all_goals clear hb15 hw15 hv15
      all_goals simp only [Act.put, List.setIfInBounds_toArray, List.set_cons_zero, List.set_cons_succ]
      all_goals refine rn_one (i := 16) (by kernel_rfl) ?_
      all_goals refine st_call (i := 16) rfl (by rfl) (f := 152) (args := #[v15]) (by go_simp) ((concat_any v15 [[17, UInt8.ofNat m], be k 2, be p.length 2, p] (by simp [be_len]; omega) (by simp) w15 HR.out).mono ?_)
      all_goals rintro e w16 ⟨v16, rfl, hb16, hs16⟩
      all_goals have hb16 := hb16.mono HB.out.size
      all_goals have HB := Lib.hid (HB.out.trans hb16)
      all_goals have HO : Hid (IsBytes w16 v16 (packOut m k p)) := by have := own_bytes hs16; unfold Hid packOut; rw [Hcode.out, if_pos rfl]; simpa using this
      all_goals refine ⟨_, rfl, hb16, ?_⟩
      all_goals clear hs16 hb16
      all_goals simp only [Act.put, List.setIfInBounds_toArray, List.set_cons_zero, List.set_cons_succ]
      all_goals refine rn_take (i := 17) rfl (by kernel_rfl) (by kernel_rfl) (by kernel_rfl) (fun _ _ _ h => h) (by rfl) (v := v16) (by intro W hW; go_simp) ?_
      all_goals simp only [Act.put, List.setIfInBounds_toArray, List.set_cons_zero, List.set_cons_succ]
      all_goals refine rn_take (i := 18) rfl (by kernel_rfl) (by kernel_rfl) (by kernel_rfl) (fun _ _ _ h => h) (by rfl) (v := .int .i64 0) (by intro W hW; go_simp) ?_
      all_goals simp only [Act.put, List.setIfInBounds_toArray, List.set_cons_zero, List.set_cons_succ]
      all_goals refine rn_done (by kernel_rfl) ?_
      all_goals go_wp2
      all_goals refine bodyPost_ret (v := .tuple #[v16, .int .i64 0]) (by simp [results, Tryz.results110, go_sem]) rfl ⟨_, by rw [Hcode.out], Hb1.out.trans (HB.out.mono Hb1.out.size), HO.out⟩
  · have Hcode : Hid (packCode c s p.length = 60) := by unfold packCode; rw [if_neg hc]; exact rfl
    go_enter Tryz.func110, Tryz.ntmps110
    go_wp2_with (go_at_call 151; refine (within_any _ _ _ _).mono ?_; rintro e w1 ⟨b, rfl, rfl, hb⟩; cases b <;> first | (have h := hb.1 rfl; clear hb; exfalso; omega) | (have h := mt hb.2 (by decide); clear hb; exfalso; omega) | (have h := hb.1 rfl; clear hb) | (have h := mt hb.2 (by decide); clear hb))
    all_goals refine bodyPost_ret (v := .tuple #[.slice none 0 0, .int .i64 60]) (by simp [results, Tryz.results110, go_sem]) rfl ⟨_, by rw [Hcode.out], (Below.refl _ _).alloc (Nat.le_refl _) _, ?_⟩
    all_goals (unfold packOut; rw [Hcode.out]; exact .nil _)

set_option maxHeartbeats 4000000 in
theorem rpack_enc (c s : Int) (v : Value) (p : List UInt8) (w : World) (hv : IsBytes w v p) :
    Calls Tryz.prog 51 #[.agg #[.int .i64 c, .int .i64 s, v]] w fun e w' => ∃ v', e = .returned (.tuple #[v', .int .i64 (packCode c s p.length)]) ∧ Below w.heap.size w w' ∧ IsBytes w' v' (packOut c s p) := by
  obtain ⟨a, cap, rfl, h1, h2⟩ := hv.shape
  have Hv := Lib.hid hv
  clear hv
  by_cases hc : 0 ≤ c ∧ c ≤ 255 ∧ 0 ≤ s ∧ s ≤ 65535
  · obtain ⟨m, rfl⟩ : ∃ m : Nat, c = m := ⟨c.toNat, by omega⟩
    obtain ⟨k, rfl⟩ : ∃ k : Nat, s = k := ⟨s.toNat, by omega⟩
    have hm : m ≤ 255 := by omega
    have hk : k ≤ 65535 := by omega
    by_cases hl : 1494 < p.length
    · have hl' : (1494 : Int) < p.length := by omega
      have Hcode : Hid (packCode m k p.length = 2) := by unfold packCode; rw [if_pos hc, if_pos hl]; exact rfl
      go_enter Tryz.func51, Tryz.ntmps51
      go_wp2
      refine bodyPost_ret (v := .tuple #[.slice none 0 0, .int .i64 2]) (by simp [results, Tryz.results51, go_sem]) rfl ⟨_, by rw [Hcode.out], (Below.refl _ _).alloc (Nat.le_refl _) _, ?_⟩
      unfold packOut; rw [Hcode.out]; exact .nil _
    · have hl' : (p.length : Int) ≤ 1494 := by omega
      have Hcode : Hid (packCode m k p.length = 0) := by unfold packCode; rw [if_pos hc, if_neg hl]; exact rfl
      go_enter Tryz.func51, Tryz.ntmps51
      have Hb1 : Hid (Below w.heap.size w ((w.alloc (.cells #[.int .i64 m, .int .i64 k, .slice a p.length cap] 78)).alloc (.cells #[.int .u8 17, .int .u8 m, .int .u8 ((k : Int) / 256), .int .u8 ((k : Int) % 256), .int .u8 ((p.length : Int) / 256), .int .u8 ((p.length : Int) % 256)] 5))) :=
        ((Below.refl _ _).alloc (Nat.le_refl _) _).alloc (by simp) _
      have Hsrc := Lib.hid (Hv.out.below Hb1.out).src
      have Hown := Lib.hid (own_full (w.alloc (.cells #[.int .i64 m, .int .i64 k, .slice a p.length cap] 78)) w.heap.size (by simp) 5 #[.int .u8 17, .int .u8 m, .int .u8 ((k : Int) / 256), .int .u8 ((k : Int) % 256), .int .u8 ((p.length : Int) / 256), .int .u8 ((p.length : Int) % 256)] 6 rfl (by unfold maxLen; omega))
      rw [World.size_alloc] at Hown
      go_wp2_with (at_builtin; go_must (refine wpList_append_from rfl _ _ _ rfl w.heap.size el_u8 rfl Hown.out rfl Hsrc.out (by omega) Hb1.out.size ?_); intro v' w' ho hg hb)
      refine bodyPost_ret (v := .tuple #[v', .int .i64 0]) (by simp [results, Tryz.results51, go_sem]) rfl ⟨_, by rw [Hcode.out], Hb1.out.trans hb, ?_⟩
      unfold packOut; rw [Hcode.out, if_pos rfl]
      have hh := head_vals m k p.length hm hk (by omega)
      rw [← hh, ← List.map_append] at ho
      exact own_bytes ho
  · have Hcode : Hid (packCode c s p.length = 60) := by unfold packCode; rw [if_neg hc]; exact rfl
    go_enter Tryz.func51, Tryz.ntmps51
    go_wp2
    all_goals first | (exfalso; omega) | skip
    all_goals refine bodyPost_ret (v := .tuple #[.slice none 0 0, .int .i64 60]) (by simp [results, Tryz.results51, go_sem]) rfl ⟨_, by rw [Hcode.out], (Below.refl _ _).alloc (Nat.le_refl _) _, ?_⟩
    all_goals (unfold packOut; rw [Hcode.out]; exact .nil _)
end Go.Proofs.YtokiedeiamlnlaaGreat
