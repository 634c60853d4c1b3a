/- octet.Unhex and conciergeref01.Unhex. -/
import Derived.Test.YtmbbcgfcallllaaDoorOct3
import Derived.Test.YtmbbcgfcallllaaDoorShelf
namespace Go.Proofs.YtmbbcgfcallllaaDoor
open Go.RowKit
set_option maxRecDepth 10000

def pairOk (l : List UInt8) (k : Nat) : Bool := decide (0 ≤ digOf (l[2 * k]?.getD 0)) && decide (0 ≤ digOf (l[2 * k + 1]?.getD 0))
def pairB (l : List UInt8) (k : Nat) : UInt8 := UInt8.ofNat (16 * digOf (l[2 * k]?.getD 0) + digOf (l[2 * k + 1]?.getD 0)).toNat
def unhexOf (l : List UInt8) : Option (List UInt8) := if l.length % 2 = 0 ∧ ∀ k, k < l.length / 2 → pairOk l k = true then some ((List.range (l.length / 2)).map (pairB l)) else none

theorem run_index_str {P : Program} (w : World) (t : TypeId) (ht : P.underlying t = some .string) (s : ByteArray) (k : IntKind) (i : Nat) (h : i < s.size) :
    (Instr.index t (.string s) (.int k (i : Int))).run P w = .ok (.int .u8 ((s.data.toList[i]?.getD 0).toNat : Int)) w := by
  rw [run_index_string w t s k i ht, dif_pos ⟨by omega, by omega⟩]
  have h' : i < s.data.toList.length := by rw [Array.length_toList]; exact h
  rw [List.getElem?_eq_getElem h']
  rfl

theorem indexByte_digOf (c : UInt8) : Lib.indexByte [48, 49, 50, 51, 52, 53, 54, 55, 56, 57, 97, 98, 99, 100, 101, 102] c = digOf c := by
  have hget : ∀ j, j < 16 → ([48, 49, 50, 51, 52, 53, 54, 55, 56, 57, 97, 98, 99, 100, 101, 102] : List UInt8)[j]? = some (hexDig j) := by
    intro j h
    rcases (by omega : j = 0 ∨ j = 1 ∨ j = 2 ∨ j = 3 ∨ j = 4 ∨ j = 5 ∨ j = 6 ∨ j = 7 ∨ j = 8 ∨ j = 9 ∨ j = 10 ∨ j = 11 ∨ j = 12 ∨ j = 13 ∨ j = 14 ∨ j = 15) with rfl | rfl | rfl | rfl | rfl | rfl | rfl | rfl | rfl | rfl | rfl | rfl | rfl | rfl | rfl | rfl <;> rfl
  have hge := Lib.indexByte_ge [48, 49, 50, 51, 52, 53, 54, 55, 56, 57, 97, 98, 99, 100, 101, 102] c
  generalize ho : Lib.indexByte [48, 49, 50, 51, 52, 53, 54, 55, 56, 57, 97, 98, 99, 100, 101, 102] c = o at *
  by_cases hm : o = -1
  · subst hm
    have hn := Lib.indexByte_none ho
    refine (digOf_none c fun j hj he => hn j ?_).symm
    rw [hget j hj, he]
  · obtain ⟨n, rfl⟩ := Int.eq_ofNat_of_zero_le (show 0 ≤ o by omega)
    have hs := (Lib.indexByte_some ho).1
    have hlt : n < 16 := by
      rcases Nat.lt_or_ge n 16 with h | h
      · exact h
      · rw [List.getElem?_eq_none (by simpa using h)] at hs; cases hs
    rw [hget n hlt] at hs
    cases hs
    exact (digOf_hexDig n hlt).symm
theorem index_digit (c : UInt8) (w : World) : Calls Tryd.prog 27 #[.string { data := #[48, 49, 50, 51, 52, 53, 54, 55, 56, 57, 97, 98, 99, 100, 101, 102] }, bv c] w fun e w' => e = .returned (.int .i64 (digOf c)) ∧ w' = w := by
  refine (Tryd.strings_IndexByte _ _ w).mono ?_
  rintro e w' ⟨rfl, rfl⟩
  refine ⟨ret_eq (int_eq ?_), rfl⟩
  rw [← indexByte_digOf]
  simp
theorem or_nibbles (a b : Int) (ha : 0 ≤ a) (ha' : a ≤ 15) (hb : 0 ≤ b) (hb' : b ≤ 15) : bits .or .i64 (a * 16) b = 16 * a + b := by
  obtain ⟨n, rfl⟩ := Int.eq_ofNat_of_zero_le ha
  obtain ⟨m, rfl⟩ := Int.eq_ofNat_of_zero_le hb
  have H : ∀ n : Fin 16, ∀ m : Fin 16, bits .or .i64 (((n.val : Nat) : Int) * 16) ((m.val : Nat) : Int) = 16 * ((n.val : Nat) : Int) + ((m.val : Nat) : Int) := by decide
  exact H ⟨n, by omega⟩ ⟨m, by omega⟩
theorem digOf_le (c : UInt8) : digOf c ≤ 15 := by unfold digOf; split; omega; split <;> omega
theorem digOf_ge (c : UInt8) : -1 ≤ digOf c := by unfold digOf; split; omega; split <;> omega

def UnhexPost (w : World) (l : List UInt8) (e : Ending) (w' : World) : Prop :=
  Below w.heap.size w w' ∧ ((∃ r v', unhexOf l = some r ∧ e = .returned (.tuple #[v', .int .i64 0]) ∧ w'.ownsRow w.heap.size 5 1 v' r.length (r.map bv)) ∨ (unhexOf l = none ∧ e = .returned (.tuple #[.slice none 0 0, .int .i64 10])))

theorem unhex_no {l : List UInt8} {k : Nat} (hk : k < l.length / 2) (h : pairOk l k = false) : unhexOf l = none := by
  unfold unhexOf
  rw [if_neg]
  rintro ⟨_, ha⟩
  rw [ha k hk] at h
  cases h

def UnhexRel (w : World) (l : List UInt8) (p i : Value) (wr : World) : Prop :=
  ∃ k : Nat, k ≤ l.length / 2 ∧ i = .int .i64 (2 * (k : Int)) ∧ Below w.heap.size w wr ∧ wr.ownsRow w.heap.size 5 1 p k (((List.range k).map (pairB l)).map bv) ∧ ∀ j, j < k → pairOk l j = true

theorem unhex_odd (s : ByteArray) (hlen : s.size ≤ 1000000) (w : World) (he : s.size % 2 = 1) :
    Calls Tryd.prog 13 #[.string s] w (UnhexPost w s.data.toList) := by
  have he2 : ((s.size : Int) % 2 != 0) = true := by rw [bne_iff_ne]; omega
  go_enter Tryd.func13, Tryd.ntmps13
  go_wp2
  go_ret2
  refine ⟨Below.refl _ _, .inr ⟨?_, rfl⟩⟩
  unfold unhexOf
  rw [if_neg]
  rintro ⟨h, _⟩
  have : s.data.toList.length = s.size := Array.length_toList
  omega

theorem unhex_even (s : ByteArray) (hlen : s.size ≤ 1000000) (w : World) (he : s.size % 2 = 0) :
    Calls Tryd.prog 13 #[.string s] w (UnhexPost w s.data.toList) := by
  obtain ⟨i0, hi0, hz0, hs0, hb0⟩ := el_u8.ex
  obtain ⟨w1, hmk, hown, hg⟩ := run_make_own (P := Tryd.prog) w w.heap.size 22 5 i0 _ 1 el_u8.ht hi0 hz0 hs0 .i64 .i64 (s.size / 2) (by rw [hb0]; omega) (by unfold maxLen; omega) (Nat.le_refl _)
  rw [show ((s.size / 2 : Nat) : Int) = (s.size : Int) / 2 by omega] at hmk
  have Hown := Lib.hid hown
  have Hb := Lib.hid ((Below.refl w.heap.size w).grown hg (Nat.le_refl _) (fun k hk => by cases hk))
  clear hown hg hi0 hz0 hs0 hb0 i0
  have he2 : ((s.size : Int) % 2 != 0) = false := by rw [bne_eq_false_iff_eq]; omega
  have hl : s.data.toList.length = s.size := Array.length_toList
  generalize hL : s.data.toList = l at *
  have Hl := Lib.hid hl
  have HL := Lib.hid hL
  have He := Lib.hid he
  clear hl hL he
  go_enter Tryd.func13, Tryd.ntmps13
  go_wp2
  go_loopw [4, 5, 6, 7] (fun p i _ _ wr => UnhexRel w l p i wr) (fun _ i _ _ _ => s.size - (intOf i).toNat)
  case atStart => exact ⟨0, by omega, rfl, Hb.out, Hown.out, fun j hj => by omega⟩
  case round =>
    obtain ⟨k, hk, rfl, hb, ho, hall⟩ := hrel
    have Hall := Lib.hid hall
    have Hbb := Lib.hid hb
    have Ho := Lib.hid ho
    have hsz := hb.size
    clear hall hb ho
    by_cases hlt : 2 * k < s.size
    · have Hk : Hid (k < l.length / 2) := by have := Hl.out; have := He.out; unfold Hid; omega
      have d1 := fun W => run_index_str (P := Tryd.prog) W 9 (by kernel_rfl) s .i64 (2 * k) hlt
      have d2 := fun W => run_index_str (P := Tryd.prog) W 9 (by kernel_rfl) s .i64 (2 * k + 1) (by have := He.out; omega)
      rw [HL.out] at d1 d2
      generalize hc1 : l[2 * k]?.getD 0 = c1 at *
      generalize hc2 : l[2 * k + 1]?.getD 0 = c2 at *
      simp only [Int.natCast_add, Int.natCast_mul, Int.cast_ofNat_Int] at d1 d2
      have l1 := digOf_le c1
      have g1 := digOf_ge c1
      have l2 := digOf_le c2
      have g2 := digOf_ge c2
      by_cases o1 : 0 ≤ digOf c1
      · by_cases o2 : 0 ≤ digOf c2
        · have Hq : Hid (pairOk l k = true) := by unfold Hid pairOk; rw [hc1, hc2]; simp [o1, o2]
          have Hp : Hid (pairB l k = UInt8.ofNat (16 * digOf c1 + digOf c2).toNat) := by unfold Hid pairB; rw [hc1, hc2]
          clear hc1 hc2
          have hor := or_nibbles (digOf c1) (digOf c2) o1 l1 o2 l2
          have n1 : decide (digOf c1 < 0) = false := by simp; exact o1
          have n2 : decide (digOf c2 < 0) = false := by simp; exact o2
          have Hsrc : Hid (∀ W : World, SrcOf ((W.alloc (.cells #[.int .u8 (16 * digOf c1 + digOf c2)] 5))) 1 (.slice (some ⟨W.heap.size, 0, none⟩) 1 1) 1 [.int .u8 (16 * digOf c1 + digOf c2)]) := by
            intro W
            exact src_block 1 1 1 (heap_alloc_new W _) (by rfl) (by simp [Value.oneCell'])
          have hc5 : Hid (w.heap.size ≤ (((wr.drewN 0).alloc (.cells #[.int .u8 (16 * digOf c1 + digOf c2)] 5))).heap.size) := by
            unfold Hid; rw [World.size_alloc]; exact Nat.le_succ_of_le hsz
          have hc4 : Hid ((k + 1) * 1 ≤ 140737488355328) := by unfold Hid; omega
          go_wp2
          go_quiet ((go_at_call 27; exact Calls.quiet_of_same (index_digit _ _)))
          go_wp2_with (at_builtin; go_must (refine wpList_append_from (by rfl) _ _ _ (by rfl) w.heap.size el_u8 (by rfl) ((own_drewN Ho.out nq).alloc _) (by rfl) (Hsrc.out _) hc4.out hc5.out ?_); intro v' w' ho' hg' hb')
          refine ⟨⟨k + 1, by have := Hl.out; have := He.out; omega, by simp; omega, Hbb.out.trans ((below_drewN' (Below.refl _ _) nq).alloc hsz _ |>.trans hb'), ?_, ?_⟩, by simp [intOf]; omega⟩
          · have e : [Value.int .u8 (16 * digOf c1 + digOf c2)] = [pairB l k].map bv := by
              rw [Hp.out]
              have := l1; have := l2; have := o1; have := o2
              simp
              omega
            rw [e] at ho'
            rw [List.range_succ, List.map_append, List.map_append]
            exact ho'
          · intro j hj
            rcases Nat.lt_succ_iff_lt_or_eq.1 hj with h | rfl
            · exact Hall.out j h
            · exact Hq.out
        · have Hq : Hid (pairOk l k = false) := by unfold Hid pairOk; rw [hc1, hc2]; simp [o2]
          have n1 : decide (digOf c1 < 0) = false := by simp; exact o1
          have n2 : decide (digOf c2 < 0) = true := by simp; omega
          clear hc1 hc2
          go_wp2
          go_quiet ((go_at_call 27; exact Calls.quiet_of_same (index_digit _ _)))
          go_wp2
          go_ret2
          refine ⟨below_drewN' Hbb.out nq, .inr ⟨unhex_no Hk.out Hq.out, rfl⟩⟩
      · have Hq : Hid (pairOk l k = false) := by unfold Hid pairOk; rw [hc1]; simp [o1]
        have n1 : decide (digOf c1 < 0) = true := by simp; omega
        clear hc1 hc2
        go_wp2
        go_quiet ((go_at_call 27; exact Calls.quiet_of_same (index_digit _ _)))
        go_wp2
        go_ret2
        refine ⟨below_drewN' Hbb.out nq, .inr ⟨unhex_no Hk.out Hq.out, rfl⟩⟩
    · obtain rfl : k = l.length / 2 := by have := Hl.out; omega
      have Hr : Hid (unhexOf l = some ((List.range (l.length / 2)).map (pairB l))) := by
        unfold Hid unhexOf
        rw [if_pos ⟨by rw [Hl.out]; exact He.out, Hall.out⟩]
      go_wp2
      go_ret2
      exact ⟨Hbb.out, .inl ⟨_, _, Hr.out, rfl, by simpa using Ho.out⟩⟩
theorem runhex_odd (s : ByteArray) (hlen : s.size ≤ 1000000) (w : World) (he : s.size % 2 = 1) :
    Calls Tryd.prog 14 #[.string s] w (UnhexPost w s.data.toList) := by
  have he2 : ((s.size : Int) % 2 == 1) = true := by rw [beq_iff_eq]; omega
  go_enter Tryd.func14, Tryd.ntmps14
  go_wp2
  go_ret2
  refine ⟨Below.refl _ _, .inr ⟨?_, rfl⟩⟩
  unfold unhexOf
  rw [if_neg]
  rintro ⟨h, _⟩
  have : s.data.toList.length = s.size := Array.length_toList
  omega

theorem runhex_even (s : ByteArray) (hlen : s.size ≤ 1000000) (w : World) (he : s.size % 2 = 0) :
    Calls Tryd.prog 14 #[.string s] w (UnhexPost w s.data.toList) := by
  have he2 : ((s.size : Int) % 2 == 1) = false := by rw [beq_eq_false_iff_ne]; omega
  have hl : s.data.toList.length = s.size := Array.length_toList
  generalize hL : s.data.toList = l at *
  have Hl := Lib.hid hl
  have HL := Lib.hid hL
  have He := Lib.hid he
  clear hl hL he
  go_enter Tryd.func14, Tryd.ntmps14
  go_wp2
  go_loopw [4, 5, 6, 7] (fun p i _ _ wr => UnhexRel w l p i wr) (fun _ i _ _ _ => s.size - (intOf i).toNat)
  case atStart => exact ⟨0, by omega, rfl, Below.refl _ _, World.ownsRow_nil _ _ _ _, fun j hj => by omega⟩
  case round =>
    obtain ⟨k, hk, rfl, hb, ho, hall⟩ := hrel
    have Hall := Lib.hid hall
    have Hbb := Lib.hid hb
    have Ho := Lib.hid ho
    have hsz := hb.size
    clear hall hb ho
    by_cases hlt : 2 * k < s.size
    · have Hk : Hid (k < l.length / 2) := by have := Hl.out; have := He.out; unfold Hid; omega
      have d1 := fun W => run_index_str (P := Tryd.prog) W 9 (by kernel_rfl) s .i64 (2 * k) hlt
      have d2 := fun W => run_index_str (P := Tryd.prog) W 9 (by kernel_rfl) s .i64 (2 * k + 1) (by have := He.out; omega)
      rw [HL.out] at d1 d2
      generalize hc1 : l[2 * k]?.getD 0 = c1 at *
      generalize hc2 : l[2 * k + 1]?.getD 0 = c2 at *
      simp only [Int.natCast_add, Int.natCast_mul, Int.cast_ofNat_Int] at d1 d2
      have l1 := digOf_le c1
      have g1 := digOf_ge c1
      have l2 := digOf_le c2
      have g2 := digOf_ge c2
      by_cases o1 : 0 ≤ digOf c1
      · by_cases o2 : 0 ≤ digOf c2
        · have Hq : Hid (pairOk l k = true) := by unfold Hid pairOk; rw [hc1, hc2]; simp [o1, o2]
          have Hp : Hid (pairB l k = UInt8.ofNat (16 * digOf c1 + digOf c2).toNat) := by unfold Hid pairB; rw [hc1, hc2]
          clear hc1 hc2
          have n1 : decide (digOf c1 < 0) = false := by simp; exact o1
          have n2 : decide (digOf c2 < 0) = false := by simp; exact o2
          have Hsrc : Hid (∀ W : World, SrcOf ((W.alloc (.cells #[.int .u8 (16 * digOf c1 + digOf c2)] 5))) 1 (.slice (some ⟨W.heap.size, 0, none⟩) 1 1) 1 [.int .u8 (16 * digOf c1 + digOf c2)]) := by
            intro W
            exact src_block 1 1 1 (heap_alloc_new W _) (by rfl) (by simp [Value.oneCell'])
          have hc5 : Hid (w.heap.size ≤ (((wr.drewN 0).alloc (.cells #[.int .u8 (16 * digOf c1 + digOf c2)] 5))).heap.size) := by
            unfold Hid; rw [World.size_alloc]; exact Nat.le_succ_of_le hsz
          have hc4 : Hid ((k + 1) * 1 ≤ 140737488355328) := by unfold Hid; omega
          go_wp2
          go_quiet ((go_at_call 28; exact Calls.quiet_of_same (digit_any _ _)))
          go_wp2_with (at_builtin; go_must (refine wpList_append_from (by rfl) _ _ _ (by rfl) w.heap.size el_u8 (by rfl) ((own_drewN Ho.out nq).alloc _) (by rfl) (Hsrc.out _) hc4.out hc5.out ?_); intro v' w' ho' hg' hb')
          refine ⟨⟨k + 1, by have := Hl.out; have := He.out; omega, by simp; omega, Hbb.out.trans ((below_drewN' (Below.refl _ _) nq).alloc hsz _ |>.trans hb'), ?_, ?_⟩, by simp [intOf]; omega⟩
          · have e : [Value.int .u8 (16 * digOf c1 + digOf c2)] = [pairB l k].map bv := by
              rw [Hp.out]
              have := l1; have := l2; have := o1; have := o2
              simp
              omega
            rw [e] at ho'
            rw [List.range_succ, List.map_append, List.map_append]
            exact ho'
          · intro j hj
            rcases Nat.lt_succ_iff_lt_or_eq.1 hj with h | rfl
            · exact Hall.out j h
            · exact Hq.out
        · have Hq : Hid (pairOk l k = false) := by unfold Hid pairOk; rw [hc1, hc2]; simp [o2]
          have n1 : decide (digOf c1 < 0) = false := by simp; exact o1
          have n2 : decide (digOf c2 < 0) = true := by simp; omega
          clear hc1 hc2
          go_wp2
          go_quiet ((go_at_call 28; exact Calls.quiet_of_same (digit_any _ _)))
          go_wp2
          go_ret2
          refine ⟨below_drewN' Hbb.out nq, .inr ⟨unhex_no Hk.out Hq.out, rfl⟩⟩
      · have Hq : Hid (pairOk l k = false) := by unfold Hid pairOk; rw [hc1]; simp [o1]
        have n1 : decide (digOf c1 < 0) = true := by simp; omega
        clear hc1 hc2
        go_wp2
        go_quiet ((go_at_call 28; exact Calls.quiet_of_same (digit_any _ _)))
        go_wp2
        go_ret2
        refine ⟨below_drewN' Hbb.out nq, .inr ⟨unhex_no Hk.out Hq.out, rfl⟩⟩
    · obtain rfl : k = l.length / 2 := by have := Hl.out; omega
      have Hr : Hid (unhexOf l = some ((List.range (l.length / 2)).map (pairB l))) := by
        unfold Hid unhexOf
        rw [if_pos ⟨by rw [Hl.out]; exact He.out, Hall.out⟩]
      go_wp2
      go_ret2
      exact ⟨Hbb.out, .inl ⟨_, _, Hr.out, rfl, by simpa using Ho.out⟩⟩
end Go.Proofs.YtmbbcgfcallllaaDoor
