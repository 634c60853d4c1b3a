/- octet.Hex, Unhex and the reference's. -/
import Derived.Test.YtmbbcgfcallllaaDoorOct2
namespace Go.Proofs.YtmbbcgfcallllaaDoor
open Go.RowKit
set_option maxRecDepth 10000
def hexDig (j : Nat) : UInt8 := if j < 10 then UInt8.ofNat (48 + j) else UInt8.ofNat (87 + j)
def hexOf (l : List UInt8) : List UInt8 := l.flatMap fun b => [hexDig (b.toNat / 16), hexDig (b.toNat % 16)]
theorem run_digit (W : World) (j : Nat) (h : j < 16) : (Instr.index 9 (.string { data := #[48, 49, 50, 51, 52, 53, 54, 55, 56, 57, 97, 98, 99, 100, 101, 102] }) (.int .u8 (j : Int))).run Tryd.prog W = .ok (.int .u8 ((hexDig j).toNat : Int)) W := by
  rcases (by omega : j = 0 ∨ j = 1 ∨ j = 2 ∨ j = 3 ∨ j = 4 ∨ j = 5 ∨ j = 6 ∨ j = 7 ∨ j = 8 ∨ j = 9 ∨ j = 10 ∨ j = 11 ∨ j = 12 ∨ j = 13 ∨ j = 14 ∨ j = 15) with rfl | rfl | rfl | rfl | rfl | rfl | rfl | rfl | rfl | rfl | rfl | rfl | rfl | rfl | rfl | rfl <;> kernel_rfl
theorem run_digit' (W : World) (j : Nat) (h : j < 16) : (Instr.index 9 (.string { data := #[48, 49, 50, 51, 52, 53, 54, 55, 56, 57, 97, 98, 99, 100, 101, 102] }) (.int .i64 (j : Int))).run Tryd.prog W = .ok (.int .u8 ((hexDig j).toNat : Int)) W := by
  rcases (by omega : j = 0 ∨ j = 1 ∨ j = 2 ∨ j = 3 ∨ j = 4 ∨ j = 5 ∨ j = 6 ∨ j = 7 ∨ j = 8 ∨ j = 9 ∨ j = 10 ∨ j = 11 ∨ j = 12 ∨ j = 13 ∨ j = 14 ∨ j = 15) with rfl | rfl | rfl | rfl | rfl | rfl | rfl | rfl | rfl | rfl | rfl | rfl | rfl | rfl | rfl | rfl <;> kernel_rfl
theorem hexOf_take (l : List UInt8) (k : Nat) (h : k < l.length) : hexOf (l.take (k + 1)) = hexOf (l.take k) ++ [hexDig ((l[k]?.getD 0).toNat / 16), hexDig ((l[k]?.getD 0).toNat % 16)] := by
  rw [List.take_succ_eq_append_getElem h]; unfold hexOf; rw [List.flatMap_append]; congr 1; simp [h]
theorem hexOf_length (l : List UInt8) : (hexOf l).length = 2 * l.length := by
  unfold hexOf
  induction l with
  | nil => rfl
  | cons a l ih => rw [List.flatMap_cons, List.length_append, ih]; simp; omega

def HexRel (w : World) (l : List UInt8) (p i : Value) (wr : World) : Prop :=
  ∃ k : Nat, k ≤ l.length ∧ i = .int .i64 k ∧ Below w.heap.size w wr ∧ wr.ownsRow w.heap.size 5 1 p (2 * k) ((hexOf (l.take k)).map bv)

theorem hex_any (v : Value) (l : List UInt8) (hlen : l.length ≤ 1000000) (w : World) (hv : IsBytes w v l) :
    Calls Tryd.prog 15 #[v] w fun e w' => e = .returned (.string ⟨(hexOf l).toArray⟩) ∧ Below w.heap.size w w' := by
  obtain ⟨i0, hi0, hz0, hs0, hb0⟩ := el_u8.ex
  obtain ⟨w1, hmk, hown, hg⟩ := run_make_own (P := Tryd.prog) w w.heap.size 22 5 i0 _ 1 el_u8.ht hi0 hz0 hs0 .i64 .i64 (2 * l.length) (by rw [hb0]; omega) (by unfold maxLen; omega) (Nat.le_refl _)
  rw [show ((2 * l.length : Nat) : Int) = 2 * (l.length : Int) by simp] at hmk
  have Hown := Lib.hid hown
  have Hb := Lib.hid ((Below.refl w.heap.size w).grown hg (Nat.le_refl _) (fun k hk => by cases hk))
  clear hown hg hi0 hz0 hs0 hb0 i0
  obtain ⟨a, cap, rfl, h1', h2'⟩ := hv.shape
  have Hv := Lib.hid hv
  unfold maxLen at h2'
  clear hv
  go_enter Tryd.func15, Tryd.ntmps15
  go_wp2
  go_loopw [3, 5, 12] (fun p _ i wr => HexRel w l p i wr) (fun _ _ i _ => l.length - (intOf i).toNat)
  case atStart => exact ⟨0, by omega, rfl, Hb.out, Hown.out⟩
  case round =>
    obtain ⟨k, hk, rfl, hb, ho⟩ := hrel
    by_cases hlt : k < l.length
    · have Hr := Lib.hid hb
      have Ho := Lib.hid ho
      have hsz := hb.size
      obtain ⟨x, rfl, c⟩ : ∃ x, a = some x ∧ wr.cell? (x.add k) = some (.int .u8 ((l[k]?.getD 0).toNat : Int)) := by
        rcases Hv.out with ⟨_, rfl⟩ | ⟨x, _, he, _, _, h3⟩
        · simp at hlt
        · cases he
          have := h3 k hlt
          exact ⟨x, rfl, by rw [hb.cell (World.block_lt_of_cell? w _ this)]; exact this⟩
      clear hb ho
      have Hst := Lib.hid (hexOf_take l k hlt)
      generalize l[k]?.getD 0 = b at *
      have e1 : (b.toNat : Int) / 16 = ((b.toNat / 16 : Nat) : Int) := by simp
      have e2 : bits .and .u8 (b.toNat : Int) 15 = ((b.toNat % 16 : Nat) : Int) := by have h := u8_and15 (x := (b.toNat : Int)) (by omega) (by have := u8_lt b; omega); rw [h]; simp
      have d1 := fun W => run_digit W (b.toNat / 16) (by have := u8_lt b; omega)
      have d2 := fun W => run_digit W (b.toNat % 16) (by omega)
      generalize b.toNat / 16 = j1 at *
      generalize b.toNat % 16 = j2 at *
      have hc4 : Hid ((2 * k + 2) * 1 ≤ 140737488355328) := by unfold Hid; omega
      have hc5 : Hid (w.heap.size ≤ wr.heap.size + 1) := by unfold Hid; omega
      go_wp2
      go_region_held3 (fun _ => True) (trivial) ((refine step_append_from (by rfl) _ _ _ (by rfl) w.heap.size el_u8 (by rfl) ((Ho.out.alloc _).drew) (by rfl) (src_block 1 2 2 (heap_alloc_new wr _) (by rfl) (by simp [Value.oneCell'])) hc4.out (by simp; omega) ?_; intro v' w' ho' hg' hb'))
      all_goals go_wp2
      all_goals
        refine ⟨⟨k + 1, hlt, by simp, Hr.out.trans ((((Below.refl _ _).alloc hsz _).drew).trans hb'), ?_⟩, by simp [intOf]; omega⟩
        rw [Hst.out, List.map_append]
        exact ho'
    · obtain rfl : k = l.length := by omega
      rw [List.take_length] at ho
      have hby := run_string_bytes (P := Tryd.prog) el_u8.ht (by kernel_rfl) (dst := 9) (by kernel_rfl) (own_bytes ho)
      go_wp2
      go_ret
      exact ⟨rfl, hb⟩
def digOf (c : UInt8) : Int := if 48 ≤ c.toNat ∧ c.toNat ≤ 57 then (c.toNat : Int) - 48 else if 97 ≤ c.toNat ∧ c.toNat ≤ 102 then (c.toNat : Int) - 87 else -1
theorem digOf_hexDig (k : Nat) (h : k < 16) : digOf (hexDig k) = k := by
  rcases (by omega : k = 0 ∨ k = 1 ∨ k = 2 ∨ k = 3 ∨ k = 4 ∨ k = 5 ∨ k = 6 ∨ k = 7 ∨ k = 8 ∨ k = 9 ∨ k = 10 ∨ k = 11 ∨ k = 12 ∨ k = 13 ∨ k = 14 ∨ k = 15) with rfl | rfl | rfl | rfl | rfl | rfl | rfl | rfl | rfl | rfl | rfl | rfl | rfl | rfl | rfl | rfl <;> rfl
theorem digOf_none (c : UInt8) (h : ∀ j, j < 16 → hexDig j ≠ c) : digOf c = -1 := by
  unfold digOf
  split
  · rename_i hc
    exfalso
    refine h (c.toNat - 48) (by omega) ?_
    unfold hexDig
    rw [if_pos (by omega), show 48 + (c.toNat - 48) = c.toNat by omega]
    simp
  · split
    · rename_i hc
      exfalso
      refine h (c.toNat - 87) (by omega) ?_
      unfold hexDig
      rw [if_neg (by omega), show 87 + (c.toNat - 87) = c.toNat by omega]
      simp
    · rfl

def DigRel (c : UInt8) (i : Value) : Prop := ∃ k : Nat, k ≤ 16 ∧ i = .int .i64 k ∧ ∀ j, j < k → hexDig j ≠ c
theorem digit_any (c : UInt8) (w : World) : Calls Tryd.prog 28 #[bv c] w fun e w' => e = .returned (.int .i64 (digOf c)) ∧ w' = w := by
  go_enter Tryd.func28, Tryd.ntmps28
  go_wp2
  go_loop [3] (fun i => DigRel c i) (fun i => 16 - (intOf i).toNat)
  case atStart => exact ⟨0, by omega, rfl, fun j hj => by omega⟩
  case round =>
    obtain ⟨k, hk, rfl, hno⟩ := hrel
    have Hno := Lib.hid hno
    clear hno
    by_cases hlt : k < 16
    · have d := fun W => run_digit' W k hlt
      by_cases hc : hexDig k = c
      · have hq : (((hexDig k).toNat : Int) == (c.toNat : Int)) = true := by simp [hc]
        go_wp2
        go_ret
        exact ⟨ret_eq (int_eq (by rw [← hc, digOf_hexDig k hlt])), rfl⟩
      · have hq : (((hexDig k).toNat : Int) == (c.toNat : Int)) = false := by
          rw [beq_eq_false_iff_ne]; intro h; apply hc; apply UInt8.toNat_inj.1; omega
        have Hc := Lib.hid hc
        clear hc
        go_wp2
        refine ⟨⟨k + 1, hlt, by simp, fun j hj => ?_⟩, by simp [intOf]; omega⟩
        rcases Nat.lt_succ_iff_lt_or_eq.1 hj with h | rfl
        · exact Hno.out j h
        · exact Hc.out
    · obtain rfl : k = 16 := by omega
      go_wp2
      go_ret
      exact ⟨ret_eq (int_eq (digOf_none c Hno.out).symm), rfl⟩

theorem run_hex_slice (W : World) (j : Nat) (h : j < 16) : (Instr.slice 9 (.string { data := #[48, 49, 50, 51, 52, 53, 54, 55, 56, 57, 97, 98, 99, 100, 101, 102] }) (some (.int .u8 (j : Int))) (some (.int .u8 ((j : Int) + 1))) none).run Tryd.prog W = .ok (.string ⟨#[hexDig j]⟩) W := by
  rcases (by omega : j = 0 ∨ j = 1 ∨ j = 2 ∨ j = 3 ∨ j = 4 ∨ j = 5 ∨ j = 6 ∨ j = 7 ∨ j = 8 ∨ j = 9 ∨ j = 10 ∨ j = 11 ∨ j = 12 ∨ j = 13 ∨ j = 14 ∨ j = 15) with rfl | rfl | rfl | rfl | rfl | rfl | rfl | rfl | rfl | rfl | rfl | rfl | rfl | rfl | rfl | rfl <;> kernel_rfl

def RHexRel (w : World) (l : List UInt8) (p i : Value) (wr : World) : Prop :=
  ∃ k : Nat, k ≤ l.length ∧ i = .int .i64 k ∧ (∃ n, wr = w.drewN n) ∧ p = .string ⟨(hexOf (l.take k)).toArray⟩
theorem rhex_any (v : Value) (l : List UInt8) (hlen : l.length ≤ 1000000) (w : World) (hv : IsBytes w v l) :
    Calls Tryd.prog 16 #[v] w fun e w' => e = .returned (.string ⟨(hexOf l).toArray⟩) ∧ ∃ n, w' = w.drewN n := by
  obtain ⟨a, cap, rfl, h1', h2'⟩ := hv.shape
  have Hv := Lib.hid hv
  unfold maxLen at h2'
  clear hv
  go_enter Tryd.func16, Tryd.ntmps16
  go_wp2
  go_loopw [3, 4] (fun p i wr => RHexRel w l p i wr) (fun _ i _ => l.length - (intOf i).toNat)
  case atStart => exact ⟨0, by omega, rfl, ⟨0, rfl⟩, rfl⟩
  case round =>
    obtain ⟨k, hk, rfl, ⟨n, rfl⟩, rfl⟩ := hrel
    by_cases hlt : k < l.length
    · obtain ⟨x, rfl, c⟩ : ∃ x, a = some x ∧ w.cell? (x.add k) = some (.int .u8 ((l[k]?.getD 0).toNat : Int)) := by
        rcases Hv.out with ⟨_, rfl⟩ | ⟨x, _, he, _, _, h3⟩
        · simp at hlt
        · cases he
          exact ⟨x, rfl, h3 k hlt⟩
      have Hst := Lib.hid (hexOf_take l k hlt)
      have hql : (hexOf (l.take k)).length ≤ 4000000 := by rw [hexOf_length, List.length_take]; omega
      generalize hexOf (l.take k) = q at *
      generalize l[k]?.getD 0 = b at *
      have e1 : (b.toNat : Int) / 16 = ((b.toNat / 16 : Nat) : Int) := by simp
      have e2 : (b.toNat : Int) % 16 = ((b.toNat % 16 : Nat) : Int) := by simp
      have b1 : b.toNat / 16 < 16 := by have := u8_lt b; omega
      have b2 : b.toNat % 16 < 16 := by omega
      have d1 := fun W => run_hex_slice W (b.toNat / 16) b1
      have d2 := fun W => run_hex_slice W (b.toNat % 16) b2
      generalize b.toNat / 16 = j1 at *
      generalize b.toNat % 16 = j2 at *
      go_wp2
      go_quiet (fail)
      go_wp2
      refine ⟨⟨k + 1, hlt, by simp, ⟨n + nq, rfl⟩, ?_⟩, by simp [intOf]; omega⟩
      rw [Hst.out]
      show Value.string (ByteArray.mk _ ++ ByteArray.mk [_].toArray ++ ByteArray.mk [_].toArray) = _
      rw [ByteArray.mk_append_mk, ByteArray.mk_append_mk]
      simp
    · obtain rfl : k = l.length := by omega
      rw [List.take_length]
      go_wp2
      go_ret
      exact ⟨rfl, n, rfl⟩
end Go.Proofs.YtmbbcgfcallllaaDoor
