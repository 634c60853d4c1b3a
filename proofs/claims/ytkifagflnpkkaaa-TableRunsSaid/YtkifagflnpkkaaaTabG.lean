/- What a table tells: of, Shard, Shards, Get. -/
import Derived.Test.YtkifagflnpkkaaaEntW
namespace Go.Proofs.Ytkifagflnpkkaaa
set_option linter.unusedSimpArgs false
set_option linter.unusedVariables false
open Go.RowKit
set_option maxRecDepth 10000

theorem of_any (T S n : Nat) (k : Int) (w : World) (hc : w.cell? ⟨T, 1, none⟩ = some (.slice (some ⟨S, 0, none⟩) n n)) (h0 : 1 ≤ k) (h9 : k ≤ 65534) (h1 : 1 ≤ n) (h2 : n ≤ 64) :
    Calls Try.prog 33 #[.pointer (some ⟨T, 0, none⟩), .int .i64 k] w fun e w' => e = .returned (.pointer (some ⟨S, k.toNat % n * 2, none⟩)) ∧ ∃ q, w' = w.drewN q := by
  obtain ⟨m, rfl⟩ : ∃ m : Nat, k = m := ⟨k.toNat, by omega⟩
  have hne : (n : Int) ≠ 0 := by omega
  have hm : m % n < n := Nat.mod_lt _ (by omega)
  have ht : (m : Int).tmod (n : Int) = ((m % n : Nat) : Int) := by rw [Int.tmod_eq_emod_of_nonneg (by omega)]; rfl
  go_enter Try.func33, Try.ntmps33
  go_wp2
  go_quiet (fail)
  go_wp2
  exact bodyPost_ret (v := .pointer (some ⟨S, m % n * 2, none⟩)) (by simp [results, Try.results33, go_sem]) rfl ⟨rfl, _, rfl⟩
theorem shards_of (T S n : Nat) (w : World) (h : NoneIs w (.pointer (some ⟨T, 0, none⟩)) false) (hc : w.cell? ⟨T, 1, none⟩ = some (.slice (some ⟨S, 0, none⟩) n n)) :
    Calls Try.prog 27 #[.pointer (some ⟨T, 0, none⟩)] w fun e w' => e = .returned (.int .i64 n) ∧ w' = w := by
  have Hn := Lib.hid h
  clear h
  go_enter Try.func27, Try.ntmps27
  go_wp2_with (go_at_call 30; refine (none_any _ _ _ Hn.out).mono ?_; rintro e w1 ⟨rfl, rfl⟩)
  go_ret
  exact ⟨rfl, rfl⟩
theorem shard_any (T S n : Nat) (k : Int) (w : World) (h : NoneIs w (.pointer (some ⟨T, 0, none⟩)) false) (hc : w.cell? ⟨T, 1, none⟩ = some (.slice (some ⟨S, 0, none⟩) n n)) (h1 : 1 ≤ n) (h2 : n ≤ 64) :
    Calls Try.prog 12 #[.pointer (some ⟨T, 0, none⟩), .int .i64 k] w fun e w' => e = .returned (if 1 ≤ k ∧ k ≤ 65534 then .tuple #[.int .i64 ((k.toNat % n : Nat) : Int), .int .i64 0] else .tuple #[.int .i64 0, .int .i64 5]) ∧ w' = w := by
  have Hn := Lib.hid h
  clear h
  by_cases hk : 1 ≤ k ∧ k ≤ 65534
  · rw [if_pos hk]
    have Hk : Hid (decide (1 ≤ k ∧ k ≤ 65534) = true) := by unfold Hid; simp [hk]
    obtain ⟨m, rfl⟩ : ∃ m : Nat, k = m := ⟨k.toNat, by omega⟩
    have ht : (m : Int).tmod (n : Int) = ((m % n : Nat) : Int) := by rw [Int.tmod_eq_emod_of_nonneg (by omega)]; rfl
    have hne : (n : Int) ≠ 0 := by omega
    have hm : m % n < n := Nat.mod_lt _ (by omega)
    go_enter Try.func12, Try.ntmps12
    go_wp2_with (first
      | (go_at_call 30; refine (none_any _ _ _ Hn.out).mono ?_; rintro e w1 ⟨rfl, rfl⟩)
      | (go_at_call 32; refine (known_any _ _).mono ?_; rintro e w1 ⟨rfl, rfl⟩; rw [Hk.out]))
    exact bodyPost_ret (v := .tuple #[.int .i64 ((m % n : Nat) : Int), .int .i64 0]) (by simp [results, Try.results12, go_sem]) rfl ⟨rfl, rfl⟩
  · rw [if_neg hk]
    have Hk : Hid (decide (1 ≤ k ∧ k ≤ 65534) = false) := by unfold Hid; simpa using hk
    clear hk
    go_enter Try.func12, Try.ntmps12
    go_wp2_with (first
      | (go_at_call 30; refine (none_any _ _ _ Hn.out).mono ?_; rintro e w1 ⟨rfl, rfl⟩)
      | (go_at_call 32; refine (known_any _ _).mono ?_; rintro e w1 ⟨rfl, rfl⟩; rw [Hk.out]))
    exact bodyPost_ret (v := .tuple #[.int .i64 0, .int .i64 5]) (by simp [results, Try.results12, go_sem]) rfl ⟨rfl, rfl⟩

theorem getE_unknown {L : List EntL} (h : Good L) {k : Int} (hk : ¬ (1 ≤ k ∧ k ≤ 65534)) : getE L k = (ent0, false) :=
  getE_no fun x hx e => hk (by have := h.range x hx; omega)
theorem getE_row {n : Nat} {L : List EntL} {k : Int} : getE (L.filter fun e => e.id.toNat % n == k.toNat % n) k = getE L k := by
  unfold getE
  rw [List.find?_filter]
  congr 2
  funext e
  by_cases h : e.id = k <;> simp [h]
theorem Good.filter {L : List EntL} (h : Good L) (p : EntL → Bool) : (L.filter p).Pairwise (fun a b => a.id < b.id) := h.sorted.filter p
theorem sorted_len : ∀ (l : List EntL) (lo hi : Int), lo ≤ hi + 1 → l.Pairwise (fun a b => a.id < b.id) → (∀ x ∈ l, lo ≤ x.id ∧ x.id ≤ hi) → (l.length : Int) ≤ hi - lo + 1
  | [], lo, hi, h, _, _ => by simp; omega
  | x :: l, lo, hi, h, hs, hb => by
    have h1 := hb x List.mem_cons_self
    rw [List.pairwise_cons] at hs
    have := sorted_len l (x.id + 1) hi (by omega) hs.2 (fun y hy => by have := hs.1 y hy; have := hb y (List.mem_cons_of_mem _ hy); omega)
    simp only [List.length_cons]
    omega
theorem Good.len {L : List EntL} (h : Good L) : L.length ≤ 65534 := by
  have := sorted_len L 1 65534 (by omega) h.sorted (fun x hx => by have := h.range x hx; omega)
  omega
theorem Good.flen {L : List EntL} (h : Good L) (p : EntL → Bool) : (L.filter p).length ≤ 65534 := Nat.le_trans (List.length_filter_le p L) h.len
/-- a shard's row -/
theorem tab_row {w : World} {T n : Nat} {L : List EntL} {A : Nat → Prop} (h : Tab w T n L A) : ∃ S, w.cell? ⟨T, 1, none⟩ = some (.slice (some ⟨S, 0, none⟩) n n) ∧ ∀ s, s < n → ∃ kv vv, w.cell? ⟨S, s * 2, none⟩ = some kv ∧ w.cell? ⟨S, s * 2 + 1, none⟩ = some vv ∧
    IsInts w kv ((L.filter fun e => e.id.toNat % n == s).map (·.id)) ∧ w.ownsRow 0 40 8 vv (L.filter fun e => e.id.toNat % n == s).length (ecs (L.filter fun e => e.id.toNat % n == s)) := by
  obtain ⟨S, M, V, ⟨h1, ⟨cs, h2, h2s, h2c⟩, -, ⟨h4, -⟩, -⟩, -⟩ := h
  refine ⟨S, by rw [cell_of_row w T 1 _ _ _ h1]; rfl, fun s hs => ⟨V (.key s), V (.val s), ?_, ?_, ?_, h4 (.val s)⟩⟩
  · rw [cell_of_row w S _ _ _ _ h2]; exact (h2c s hs).1
  · rw [cell_of_row w S _ _ _ _ h2]; exact (h2c s hs).2
  · exact own_ints (h4 (.key s))

set_option maxHeartbeats 4000000 in
theorem get_any (T n : Nat) (L : List EntL) (A : Nat → Prop) (k : Int) (w : World) (h : Tab w T n L A) :
    Calls Try.prog 13 #[.pointer (some ⟨T, 0, none⟩), .int .i64 k] w fun e w' => e = .returned (.tuple #[.agg (ec (getE L k).1).toArray, .bool (getE L k).2]) ∧ Below w.heap.size w w' := by
  have hn := tab_none h
  obtain ⟨S, hc, hr⟩ := tab_row h
  have hg : Good L ∧ 1 ≤ n ∧ n ≤ 64 := by obtain ⟨_, _, _, _, _, _, _, _, _, h1, h2, h3⟩ := h; exact ⟨h3, h1, h2⟩
  obtain ⟨hg, h1, h2⟩ := hg
  obtain ⟨w0, hw0⟩ : ∃ w0, w0 = w.alloc (.cells zE 40) := ⟨_, rfl⟩
  have HB0 : Hid (Below w.heap.size w w0) := by rw [hw0]; exact (Below.refl _ _).alloc (Nat.le_refl _) _
  have HZ : Hid (w0.heap[w.heap.size]? = some (.cells zE 40 (0, 0))) := by rw [hw0]; exact heap_alloc_new w _
  have hz0 : w0.heap.size = w.heap.size + 1 := by rw [hw0]; simp
  have HS0 := Lib.hid hz0
  have HW : Hid (w.alloc (.cells zE 40) = w0) := hw0.symm
  have Hn : Hid (NoneIs w0 (.pointer (some ⟨T, 0, none⟩)) false) := by rw [hw0]; exact none_alloc hn
  by_cases hk : 1 ≤ k ∧ k ≤ 65534
  · have Hk : Hid (decide (1 ≤ k ∧ k ≤ 65534) = true) := by unfold Hid; simp [hk]
    have hs : k.toNat % n < n := Nat.mod_lt _ (by omega)
    obtain ⟨kv, vv, hc1, hc2, hi, ho⟩ := hr _ hs
    have HOf := Lib.hid (of_any T S n k w0 (cell_below hc HB0.out) hk.1 hk.2 h1 h2)
    obtain ⟨X, hX⟩ : ∃ X, X = (getE L k).1 := ⟨_, rfl⟩
    obtain ⟨b, hb⟩ : ∃ b, b = (getE L k).2 := ⟨_, rfl⟩
    rw [← hX, ← hb]
    have HG : Hid (∀ q, Calls Try.prog 34 #[.pointer (some ⟨S, k.toNat % n * 2, none⟩), .int .i64 k] (w0.drewN q) fun e w' => e = .returned (.tuple #[.agg (ec X).toArray, .bool b]) ∧ Below w0.heap.size w0 w') := by
      intro q
      rw [hX, hb, ← getE_row (n := n)]
      have HBq : Below w.heap.size w (w0.drewN q) := HB0.out.trans ⟨rfl, rfl, rfl, Nat.le_refl _, fun _ _ => rfl⟩
      refine (rowget_any S (k.toNat % n * 2) kv vv _ k (w0.drewN q) (cell_below hc1 HBq) (cell_below hc2 HBq) (hi.below HBq) ((own_ents ho).below HBq) (hg.filter _) (by have := hg.flen (fun e => e.id.toNat % n == k.toNat % n); omega)).mono ?_
      rintro e w' ⟨p1, p2⟩
      exact ⟨p1, ⟨p2.os, p2.tape, p2.output, p2.size, p2.block⟩⟩
    clear hX hb hc1 hc2 hi ho hk hs hr hn hw0 hz0 hc h
    go_enter Try.func13, Try.ntmps13
    go_wp2_with (first
      | (go_at_call 30; rw [HW.out]; refine (none_any _ _ _ Hn.out).mono ?_; rintro e w1 ⟨rfl, rfl⟩)
      | (go_at_call 32; refine (known_any _ _).mono ?_; rintro e w1 ⟨rfl, rfl⟩; rw [Hk.out])
      | (go_at_call 33; refine HOf.out.mono ?_; rintro e w1 ⟨rfl, q, rfl⟩)
      | (go_at_call 34; refine (HG.out _).mono ?_; rintro e w2 ⟨rfl, hb2⟩; have HB2 := Lib.hid hb2; clear hb2
         have HZ2 : Hid (w2.heap[w.heap.size]? = some (.cells zE 40 (0, 0))) := (HB2.out.block _ (by have := HS0.out; omega)).trans HZ.out)
      | (show wpList _ _ _ (Oper.mk none (Op.store _ _ _) _ _ _ _ :: _) _ _
         go_must (refine wpList_store_ent rfl _ _ rfl rfl rfl HZ2.out rfl ?_)
         intro w3 hb1 hk1 hs1
         have HC1 := Lib.hid hb1
         have HK1 := Lib.hid hk1
         clear hb1 hk1))
    exact bodyPost_ret (results_ent HC1.out rfl rfl rfl) rfl ⟨rfl, kept_above (HB0.out.trans (HB2.out.mono HB0.out.size)) HK1.out (fun k h => by omega)⟩
  · rw [getE_unknown hg hk]
    have Hk : Hid (decide (1 ≤ k ∧ k ≤ 65534) = false) := by unfold Hid; simpa using hk
    clear hk hr hn hw0 hz0 hc h
    go_enter Try.func13, Try.ntmps13
    go_wp2_with (first
      | (go_at_call 30; rw [HW.out]; refine (none_any _ _ _ Hn.out).mono ?_; rintro e w1 ⟨rfl, rfl⟩)
      | (go_at_call 32; refine (known_any _ _).mono ?_; rintro e w1 ⟨rfl, rfl⟩; rw [Hk.out])
      | (show wpList _ _ _ (Oper.mk none (Op.store _ _ _) _ _ _ _ :: _) _ _
         go_must (refine wpList_store_ent (e := ent0) rfl _ _ rfl rfl rfl HZ.out rfl ?_)
         intro w3 hb1 hk1 hs1
         have HC1 := Lib.hid hb1
         have HK1 := Lib.hid hk1
         clear hb1 hk1))
    exact bodyPost_ret (results_ent HC1.out rfl rfl rfl) rfl ⟨rfl, kept_above HB0.out HK1.out (fun k h => by omega)⟩
end Go.Proofs.Ytkifagflnpkkaaa
