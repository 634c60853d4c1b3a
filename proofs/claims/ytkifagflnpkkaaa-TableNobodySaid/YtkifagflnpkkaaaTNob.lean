/- Calls of a table that nobody made; TableNobody. -/
import Derived.Test.YtkifagflnpkkaaaTAwk
import Derived.Test.YtkifagflnpkkaaaGw
namespace Go.Proofs.Ytkifagflnpkkaaa
open Go.RowKit
set_option maxRecDepth 10000

theorem none_below {w w' : World} {v : Value} {b : Bool} (h : NoneIs w v b) (hb : Below w.heap.size w w') : NoneIs w' v b := by
  rcases h with h | ⟨T, m, rfl, h2, h3⟩
  · exact .inl h
  · exact .inr ⟨T, m, rfl, cell_below h2 hb, h3⟩
theorem get_nil (v : Value) (k : Int) (w : World) (h : NoneIs w v true) : Calls Try.prog 13 #[v, .int .i64 k] w fun e w' => e = .returned (.tuple #[.agg (ec ent0).toArray, .bool false]) ∧ Below w.heap.size w w' := by
  obtain ⟨w0, hw0⟩ : ∃ w0, w0 = w.alloc (.cells zE 40) := ⟨_, rfl⟩
  have HB0 : Hid (Below w.heap.size w w0) := by rw [hw0]; exact (Below.refl _ _).alloc (Nat.le_refl _) _
  have HZ : Hid (w0.heap[w.heap.size]? = some (.cells zE 40 (0, 0))) := by rw [hw0]; exact heap_alloc_new w _
  have HW : Hid (w.alloc (.cells zE 40) = w0) := hw0.symm
  have Hn : Hid (NoneIs w0 v true) := by rw [hw0]; exact none_alloc h
  clear hw0 h
  go_enter Try.func13, Try.ntmps13
  go_wp2_with (first
    | (go_at_call 30; rw [HW.out]; refine (none_any _ _ _ Hn.out).mono ?_; rintro e w1 ⟨rfl, hw⟩; cases hw)
    | (show wpList _ _ _ (Oper.mk none (Op.store _ _ _) _ _ _ _ :: _) _ _
       go_must (refine wpList_store_ent (e := ent0) rfl _ _ rfl rfl rfl HZ.out rfl ?_)
       intro w3 hb1 hk1 hs1
       have HC1 := Lib.hid hb1
       have HK1 := Lib.hid hk1
       clear hb1 hk1 hs1))
  exact bodyPost_ret (results_ent HC1.out rfl rfl rfl) rfl ⟨rfl, kept_above HB0.out HK1.out (fun k h => by omega)⟩
theorem remove_nil (v : Value) (k : Int) (w : World) (h : NoneIs w v true) : Calls Try.prog 21 #[v, .int .i64 k] w fun e w' => e = .returned (.tuple #[.agg (ec ent0).toArray, .int .i64 4]) ∧ Below w.heap.size w w' := by
  obtain ⟨w0, hw0⟩ : ∃ w0, w0 = w.alloc (.cells zE 40) := ⟨_, rfl⟩
  have HB0 : Hid (Below w.heap.size w w0) := by rw [hw0]; exact (Below.refl _ _).alloc (Nat.le_refl _) _
  have HZ : Hid (w0.heap[w.heap.size]? = some (.cells zE 40 (0, 0))) := by rw [hw0]; exact heap_alloc_new w _
  have HW : Hid (w.alloc (.cells zE 40) = w0) := hw0.symm
  have Hn : Hid (NoneIs w0 v true) := by rw [hw0]; exact none_alloc h
  clear hw0 h
  go_enter Try.func21, Try.ntmps21
  go_wp2_with (first
    | (go_at_call 30; rw [HW.out]; refine (none_any _ _ _ Hn.out).mono ?_; rintro e w1 ⟨rfl, hw⟩; cases hw)
    | (show wpList _ _ _ (Oper.mk none (Op.store _ _ _) _ _ _ _ :: _) _ _
       go_must (refine wpList_store_ent (e := ent0) rfl _ _ rfl rfl rfl HZ.out rfl ?_)
       intro w3 hb1 hk1 hs1
       have HC1 := Lib.hid hb1
       have HK1 := Lib.hid hk1
       clear hb1 hk1 hs1))
  exact bodyPost_ret (results_ent HC1.out rfl rfl rfl) rfl ⟨rfl, kept_above HB0.out HK1.out (fun k h => by omega)⟩
theorem put_nil (v : Value) (x : EntL) (w : World) (h : NoneIs w v true) : Calls Try.prog 22 #[v, .agg (ec x).toArray] w fun e w' => e = .returned (.int .i64 4) ∧ Below w.heap.size w w' := by
  obtain ⟨E, hE⟩ : ∃ E, E = (ec x).toArray := ⟨_, rfl⟩
  rw [← hE]
  have Hn := Lib.hid h
  clear h hE
  go_enter Try.func22, Try.ntmps22
  go_wp2_with (go_at_call 30; refine (none_any _ _ _ (none_alloc Hn.out)).mono ?_; rintro e w1 ⟨rfl, hw⟩; cases hw)
  exact bodyPost_ret (v := .int .i64 4) (by simp [results, Try.results22, go_sem]) rfl ⟨rfl, (Below.refl _ _).alloc (Nat.le_refl _) _⟩

theorem ent_row : RowOf Try.prog 40 8 := ⟨by kernel_rfl, by kernel_rfl⟩
@[go_sem ↓] theorem load_ent_rule {ρ : Operand → Value} {dst : Option Tmp} {x : Operand} {ty : TypeId} {pos : String} {after : Array Edge} {guard : Option (Nat × Bool)} {w : World} :
    (execOp ρ { dst, op := .load 40 x, type := ty, pos, after, guard }).run Try.prog w = ldr Try.prog 40 8 (ρ x) w := exec_load_row ent_row

def NobW (wB W : World) (l : List Nat) : Prop := Below wB.heap.size wB W ∧ ∀ b ∈ l, W.rangeAt b 0 (ec ent0)
theorem NobW.step {wB W W' : World} {l : List Nat} (h : NobW wB W l) (hb : Below W.heap.size W W') : NobW wB W' l :=
  ⟨h.1.trans (hb.mono h.1.size), fun b hbl j v hv => cell_below (h.2 b hbl j v hv) hb⟩
theorem NobW.add {wB W W' : World} {l : List Nat} {t : TypeId} {fr : Nat × Nat} (h : NobW wB W l) (hb : W'.heap[W.heap.size]? = some (.cells (ec ent0).toArray t fr)) (hk : Kept (W.alloc (.cells zE 40)) W' (fun k => k = W.heap.size)) : NobW wB W' (W.heap.size :: l) := by
  have h1 : NobW wB W' l := h.step (kept_above ((Below.refl _ _).alloc (Nat.le_refl _) _) hk (fun k h => by omega))
  refine ⟨h1.1, fun b hbl => ?_⟩
  rcases List.mem_cons.1 hbl with rfl | hbl
  · exact ent_block hb
  · exact h1.2 b hbl
def NobRel (wB : World) (i : Value) (wr : World) : Prop := ∃ k : Nat, k ≤ 2 ∧ i = .int .i64 k ∧ Below wB.heap.size wB wr

set_option maxHeartbeats 8000000 in
theorem nobody_true (x : EntL) (m : UInt8) (w : World) : Calls Try.prog 8 #[.agg (ec x).toArray, bv m] w fun e w' => e = .returned (.bool true) ∧ Below w.heap.size w w' := by
  have HAwk : Hid (∀ w, Calls Try.prog 10 #[] w fun e w' => e = .returned (.bool true) ∧ Below w.heap.size w w') := awake_true
  obtain ⟨E, hE⟩ : ∃ E, E = (ec x).toArray := ⟨_, rfl⟩
  have hb0 := heap_alloc_new w (.cells (ec x).toArray 40)
  rw [← hE] at hb0 ⊢
  obtain ⟨w0, hw0⟩ : ∃ w0, w0 = w.alloc (.cells E 40) := ⟨_, rfl⟩
  have HW0 : Hid (w.alloc (.cells E 40) = w0) := hw0.symm
  rw [← hw0] at hb0
  obtain ⟨w1, hw1⟩ : ∃ w1, w1 = w0.alloc (.cells #[.map none, .slice none 0 0] 72) := ⟨_, rfl⟩
  have HW1 : Hid (w0.alloc (.cells #[.map none, .slice none 0 0] 72) = w1) := hw1.symm
  have hz0 : w0.heap.size = w.heap.size + 1 := by rw [hw0]; simp
  have hz1 : w1.heap.size = w.heap.size + 1 + 1 := by rw [hw1, World.size_alloc, hz0]
  obtain ⟨wB, hwB⟩ : ∃ wB, wB = w1.alloc (.cells #[.pointer none, .pointer (some ⟨w.heap.size + 1, 0, none⟩)] 29) := ⟨_, rfl⟩
  have HWB : Hid (w1.alloc (.cells #[.pointer none, .pointer (some ⟨w.heap.size + 1, 0, none⟩)] 29) = wB) := hwB.symm
  have hB1 : Below w0.heap.size w0 w1 := by rw [hw1]; exact (Below.refl _ _).alloc (Nat.le_refl _) _
  have hBB : Below w1.heap.size w1 wB := by rw [hwB]; exact (Below.refl _ _).alloc (Nat.le_refl _) _
  have hl := heap_alloc_new w1 (.cells #[.pointer none, .pointer (some ⟨w.heap.size + 1, 0, none⟩)] 29)
  rw [← hwB, hz1] at hl
  have ht := heap_alloc_new w0 (.cells #[.map none, .slice none 0 0] 72)
  rw [← hw1] at ht
  rw [hz0] at ht
  have hc1 : wB.cell? ⟨w.heap.size + 1, 0, none⟩ = some (.map none) := cell_below (by rw [cell_of_row w1 _ _ _ _ _ ht]; rfl) hBB
  have HL : Hid (∀ W, Below wB.heap.size wB W → ∀ k, k < 2 → ∃ v, W.cell? ⟨w.heap.size + 1 + 1, k, none⟩ = some v ∧ NoneIs wB v true) := fun W hW k hk => by
    rcases k with _ | _ | k
    · exact ⟨_, cell_below (by rw [cell_of_row wB _ _ _ _ _ hl]; rfl) hW, .inl ⟨rfl, rfl⟩⟩
    · exact ⟨_, cell_below (by rw [cell_of_row wB _ _ _ _ _ hl]; rfl) hW, .inr ⟨w.heap.size + 1, none, rfl, hc1, rfl⟩⟩
    · omega
  have hIE : wB.rangeAt w.heap.size 0 (ec x) := fun j v hv => cell_below (cell_below (ent_block (by rw [hb0, hE]) j v hv) hB1) hBB
  have HIE : Hid (∀ W, Below wB.heap.size wB W → W.rangeAt w.heap.size 0 (ec x)) := fun W hW j v hv => cell_below (hIE j v hv) hW
  have HID : Hid (∀ W, Below wB.heap.size wB W → W.cell? ⟨w.heap.size, 0, none⟩ = some (.int .i64 x.id)) := fun W hW => HIE.out W hW 0 _ rfl
  have hne : ∀ W, (binOp .neq 40 (.agg (ec ent0).toArray) (.agg #[.int .i64 0, .int .u8 0, .int .u8 0, .int .u8 0, .int .u8 0, .int .u8 0, .int .u8 0, .int .i64 0])).run Try.prog W = .ok (.bool false) W := fun W => run_neq_ent ent0 W
  have HBw : Hid (Below w.heap.size w wB) := by rw [hwB, hw1, hw0]; exact (((Below.refl _ _).alloc (Nat.le_refl _) _).alloc (by simp) _).alloc (by simp; omega) _
  clear hE hb0 hw0 hw1 hwB hB1 hBB hl ht hc1 hIE hz0 hz1
  obtain ⟨mv, hmv⟩ : ∃ mv, mv = bv m := ⟨_, rfl⟩
  have HMac : Hid (∀ w, Calls Try.prog 19 #[mv] w fun e w' => e = .returned (mac6 m).v ∧ Below w.heap.size w w') := by rw [hmv]; exact fun w => mac_any m w
  rw [← hmv]
  clear hmv
  go_enter Try.func8, Try.ntmps8
  go_wp2
  rw [HW0.out, HW1.out, HWB.out]
  go_loopw [7] (fun i wr => NobRel wB i wr) (fun i _ => 2 - (intOf i).toNat)
  case atStart => exact ⟨0, by omega, rfl, Below.refl _ _⟩
  case round =>
    obtain ⟨k, hk, rfl, hb⟩ := hrel
    have HP0 : Hid (NobW wB wr []) := ⟨hb, by simp⟩
    clear hb
    by_cases hlt : k < 2
    · obtain ⟨v, hcv, hn⟩ := HL.out wr HP0.out.1 k hlt
      have HNn : Hid (∀ W, Below wB.heap.size wB W → NoneIs W v true) := fun W hW => none_below hn hW
      have hc0 := HID.out wr HP0.out.1
      have hlt' : (k : Int) < 2 := by omega
      clear hn
      go_wp2_with (first
          | (have x := HP13.out; clear x; go_at_call 28; refine (fork_nil _ _ (HNn.out _ HP13.out.1)).mono ?_; rintro e w14 ⟨rfl, hb⟩
             have HP14 := Lib.hid (HP13.out.step hb)
             clear hb HP13)
          | (have x := HP12.out; clear x; go_at_call 27; refine (shards_nil _ _ (HNn.out _ HP12.out.1)).mono ?_; rintro e w13 ⟨rfl, hb⟩
             have HP13 := Lib.hid (HP12.out.step hb)
             clear hb HP12)
          | (have x := HP11.out; clear x; go_at_call 15; refine (len_nil _ _ (HNn.out _ HP11.out.1)).mono ?_; rintro e w12 ⟨rfl, hb⟩
             have HP12 := Lib.hid (HP11.out.step hb)
             clear hb HP11)
          | (have x := HP10.out; clear x; go_at_call 14; refine (of_nil _ (mac6 m) _ (HNn.out _ HP10.out.1)).mono ?_; rintro e w11 ⟨rfl, hb⟩
             have HP11 := Lib.hid (HP10.out.step hb)
             clear hb HP10)
          | (have x := HP9.out; clear x; go_at_call 19; refine (HMac.out _).mono ?_; rintro e w10 ⟨rfl, hb⟩
             have HP10 := Lib.hid (HP9.out.step hb)
             clear hb HP9)
          | (have x := HP8.out; clear x; go_at_call 26; refine (touch_nil _ _ _ _ (HNn.out _ HP8.out.1)).mono ?_; rintro e w9 ⟨rfl, hb⟩
             have HP9 := Lib.hid (HP8.out.step hb)
             clear hb HP8)
          | (have x := HP7.out; clear x; go_at_call 22; refine (put_nil _ _ _ (HNn.out _ HP7.out.1)).mono ?_; rintro e w8 ⟨rfl, hb⟩
             have HP8 := Lib.hid (HP7.out.step hb)
             have hc8 := HID.out w8 HP8.out.1
             clear hb HP7)
          | (have x := HP6.out; clear x; go_at_call 12; refine (shard_nil _ _ _ (HNn.out _ HP6.out.1)).mono ?_; rintro e w7 ⟨rfl, hb⟩
             have HP7 := Lib.hid (HP6.out.step hb)
             have hl1 := rng_of (HP7.out.2 _ (List.mem_cons_self)) (by simp [ec])
             have hl2 := rng_of (HP7.out.2 _ (List.mem_cons_of_mem _ List.mem_cons_self)) (by simp [ec])
             have hl3 := rng_of (HIE.out w7 HP7.out.1) (by simp [ec])
             rw [ec_len] at hl1 hl2 hl3
             clear hb HP6)
          | (have x := HP5.out; clear x; go_at_call 18; refine (idle_nil _ _ _ _ _ (HNn.out _ HP5.out.1)).mono ?_; rintro e w6 ⟨rfl, hb⟩
             have HP6 := Lib.hid (HP5.out.step hb)
             have hc6 := HID.out w6 HP6.out.1
             clear hb HP5)
          | (have x := HP4.out; clear x; go_at_call 11; refine (list_nil _ _ _ (HNn.out _ HP4.out.1)).mono ?_; rintro e w5 ⟨rfl, hb⟩
             have HP5 := Lib.hid (HP4.out.step hb)
             clear hb HP4)
          | (have x := HP3.out; clear x; show wpList _ _ _ (Oper.mk none (Op.store 40 _ _) _ _ _ _ :: _) _ _
             go_must (refine wpList_store_ent rfl _ _ rfl rfl rfl (heap_alloc_new _ _) rfl ?_)
             intro w4 hb1 hk1 hs1
             have HP4 := Lib.hid (HP3.out.add hb1 hk1)
             have hc4 := HID.out w4 HP4.out.1
             clear hb1 hk1 hs1 HP3)
          | (have x := HP2.out; clear x; go_at_call 21; refine (remove_nil _ _ _ (HNn.out _ HP2.out.1)).mono ?_; rintro e w3 ⟨rfl, hb⟩
             have HP3 := Lib.hid (HP2.out.step hb)
             clear hb HP2)
          | (have x := HP1.out; clear x; show wpList _ _ _ (Oper.mk none (Op.store 40 _ _) _ _ _ _ :: _) _ _
             go_must (refine wpList_store_ent rfl _ _ rfl rfl rfl (heap_alloc_new _ _) rfl ?_)
             intro w2 hb1 hk1 hs1
             have HP2 := Lib.hid (HP1.out.add hb1 hk1)
             have hc2 := HID.out w2 HP2.out.1
             clear hb1 hk1 hs1 HP1)
          | (have x := HP0.out; clear x; go_at_call 13; refine (get_nil _ _ _ (HNn.out _ HP0.out.1)).mono ?_; rintro e w1' ⟨rfl, hb⟩
             have HP1 := Lib.hid (HP0.out.step hb)
             clear hb HP0))
      go_roundw
      case rel => exact ⟨k + 1, hlt, by go_num, HP14.out.1⟩
      case measure => simp [intOf]; omega
    · obtain rfl : k = 2 := by omega
      go_wp2_with (go_at_call 10; refine (HAwk.out _).mono ?_; rintro e w1 ⟨rfl, hb⟩)
      exact bodyPost_ret (v := .bool true) (by simp [results, Try.results8, go_sem]) rfl ⟨rfl, HBw.out.trans ((HP0.out.1.trans (hb.mono HP0.out.1.size)).mono HBw.out.size)⟩
end Go.Proofs.Ytkifagflnpkkaaa
