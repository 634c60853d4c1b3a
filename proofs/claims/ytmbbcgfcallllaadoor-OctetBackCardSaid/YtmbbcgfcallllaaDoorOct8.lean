/- conciergeref01.Parse. -/
import Derived.Test.YtmbbcgfcallllaaDoorParsePlain
namespace Go.Proofs.YtmbbcgfcallllaaDoor
open Go.RowKit
set_option maxRecDepth 10000

theorem extract_two (s : ByteArray) (a b : Nat) : (s.extract a b).data.toList = (s.data.toList.drop a).take (b - a) := by
  simp [ByteArray.data_extract, List.extract_eq_take_drop]

theorem rparse_bad (s : ByteArray) (h : s.size ≠ 17) (w : World) :
    Calls Tryd.prog 21 #[.string s] w (ParsePost w s.data.toList) := by
  have hne : ((s.size : Int) != 17) = true := by rw [bne_iff_ne]; omega
  have Hno : Hid (parseOf s.data.toList = none) := by
    unfold Hid
    rw [← parse_same]
    unfold parseRef
    rw [if_neg]
    rintro ⟨h', _⟩
    rw [Array.length_toList] at h'
    exact h h'
  clear h
  go_enter Tryd.func21, Tryd.ntmps21
  go_wp2
  exact bodyPost_ret (v := .tuple #[macL [0, 0, 0, 0, 0, 0], .int .i64 10]) (by simp [results, Tryd.results21, go_sem]) rfl
      ⟨((Below.refl _ _).alloc (Nat.le_refl _) _).alloc (by simp) _, .inr ⟨Hno.out, rfl⟩⟩

theorem unhex_two {p : List UInt8} (h : p.length = 2) {r : List UInt8} (hu : unhexOf p = some r) : ∃ x, r = [x] := by
  unfold unhexOf at hu
  split at hu
  · cases hu
    rw [h]
    exact ⟨_, rfl⟩
  · cases hu

theorem rparse_good (s : ByteArray) (h17 : s.size = 17) (w : World) :
    Calls Tryd.prog 21 #[.string s] w (ParsePost w s.data.toList) := by
  have heq : ((s.size : Int) != 17) = false := by rw [bne_eq_false_iff_eq]; omega
  have Hl : Hid (s.data.toList.length = 17) := by unfold Hid; rw [Array.length_toList]; exact h17
  have hs17 : 17 ≤ s.size := by omega
  clear h17
  obtain ⟨b, hb⟩ : ∃ b : Nat → UInt8, b = byteR s.data.toList := ⟨_, rfl⟩
  obtain ⟨ok, hok⟩ : ∃ ok : Nat → Bool, ok = okR s.data.toList := ⟨_, rfl⟩
  have Hb := Lib.hid hb
  have Hok := Lib.hid hok
  clear hb hok
  obtain ⟨hz2, hz, hW3⟩ := alloc2 w (.cells #[.int .u8 0, .int .u8 0, .int .u8 0, .int .u8 0, .int .u8 0, .int .u8 0] 40) (.cells #[.int .u8 0, .int .u8 0, .int .u8 0, .int .u8 0, .int .u8 0, .int .u8 0] 40)
  have hB3 := ((Below.refl w.heap.size w).alloc (Nat.le_refl _) (.cells #[.int .u8 0, .int .u8 0, .int .u8 0, .int .u8 0, .int .u8 0, .int .u8 0] 40)).alloc (by simp) (.cells #[.int .u8 0, .int .u8 0, .int .u8 0, .int .u8 0, .int .u8 0, .int .u8 0] 40)
  have Hz := Lib.hid hz
  have Hz2 := Lib.hid hz2
  have HW3 := Lib.hid hW3
  have HB3 := Lib.hid hB3
  clear hz hz2 hW3 hB3
  go_enter Tryd.func21, Tryd.ntmps21
  go_wp2
  generalize hW : (w.alloc (.cells #[.int .u8 0, .int .u8 0, .int .u8 0, .int .u8 0, .int .u8 0, .int .u8 0] 40)).alloc (.cells #[.int .u8 0, .int .u8 0, .int .u8 0, .int .u8 0, .int .u8 0, .int .u8 0] 40) = W at *
  clear hW
  go_loopw [5, 6, 7, 16] (fun i _ _ _ wr => ParseRel W (w.heap.size + 1) b ok i wr) (fun i _ _ _ _ => 6 - (intOf i).toNat)
  case atStart => exact ⟨0, by omega, rfl, World.grownBy.refl _ _, Hz.out, fun j hj => by omega⟩
  case round =>
    obtain ⟨k, hk, rfl, hg, hh, hall⟩ := hrel
    have Hg := Lib.hid hg
    have Hh := Lib.hid hh
    have Hall := Lib.hid hall
    clear hg hh hall
    have Hbel : Hid (Below w.heap.size w wr) := HB3.out.trans ⟨Hg.out.os, Hg.out.tape, Hg.out.output, Hg.out.size, fun k hk => Hg.out.block k (by rw [HW3.out]; omega) (by intro e; injection e; omega)⟩
    have Hr : Hid (wr.heap[w.heap.size]? = some (.cells #[.int .u8 0, .int .u8 0, .int .u8 0, .int .u8 0, .int .u8 0, .int .u8 0] 40 (0, 0))) := by
      unfold Hid
      rw [Hg.out.block w.heap.size (by rw [HW3.out]; omega) (by intro e; injection e; omega)]
      exact Hz2.out
    have hws : w.heap.size + 1 < wr.heap.size := by have := Hg.out.size; have := HW3.out; omega
    by_cases hlt : k < 6
    · have hx : (s.extract (3 * k) (3 * k + 2)).data.toList = (s.data.toList.drop (3 * k)).take 2 := by
        rw [extract_two, show 3 * k + 2 - 3 * k = 2 by omega]
      have hxl : ((s.data.toList.drop (3 * k)).take 2).length = 2 := by have := Hl.out; rw [List.length_take, List.length_drop]; omega
      have Hxl := Lib.hid hxl
      have hxs : (s.extract (3 * k) (3 * k + 2)).size ≤ 1000000 := by
        have : (s.extract (3 * k) (3 * k + 2)).size = (s.extract (3 * k) (3 * k + 2)).data.toList.length := Array.length_toList.symm
        rw [this, hx, hxl]; omega
      have HU := Lib.hid (runhex_any (s.extract (3 * k) (3 * k + 2)) hxs wr)
      have Hx := Lib.hid hx
      have Hb' : Hid (b k = (oneOf ((s.data.toList.drop (3 * k)).take 2)).getD 0) := by unfold Hid; rw [Hb.out, byteR]
      have Hok' : Hid (ok k = ((oneOf ((s.data.toList.drop (3 * k)).take 2)).isSome && (k == 0 || s.data.toList[3 * k - 1]?.getD 0 == 58))) := by unfold Hid; rw [Hok.out, okR]
      have Hfail : Hid (ok k = false → parseOf s.data.toList = none) := by
        intro hf
        rw [← parse_same]
        unfold parseRef
        rw [if_neg]
        rintro ⟨_, h⟩
        rw [List.all_eq_true] at h
        have := h k (by simpa using hlt)
        rw [← Hok.out, hf] at this
        cases this
      clear hx hxl hxs
      have hi1 : (3 * (k : Int) + 2).toNat = 3 * k + 2 := by omega
      have hi2 : (3 * (k : Int)).toNat = 3 * k := by omega
      cases hu : unhexOf ((s.data.toList.drop (3 * k)).take 2) with
      | none =>
        have hf : Hid (ok k = false) := by unfold Hid; rw [Hok'.out, oneOf, hu]; rfl
        have HU2 : Hid (Calls Tryd.prog 14 #[.string (s.extract (3 * k) (3 * k + 2))] wr fun e w' => e = .returned (.tuple #[.slice none 0 0, .int .i64 10]) ∧ Below wr.heap.size wr w') := by
          refine HU.out.mono ?_
          rintro e w' ⟨hb, h | h⟩
          · obtain ⟨r, v, h, _⟩ := h; rw [Hx.out, hu] at h; cases h
          · exact ⟨h.2, hb⟩
        clear hu HU Hok' Hb'
        go_wp2_with (go_at_call 14; refine HU2.out.mono ?_; rintro e w' ⟨rfl, hb'⟩; have hr : w'.heap[w.heap.size]? = _ := (hb'.block _ (by omega)).trans Hr.out; obtain ⟨r0, r1, r2, r3, r4, r5, rf⟩ := six_cells hr; clear hr)
        refine bodyPost_ret (v := .tuple #[macL [0, 0, 0, 0, 0, 0], .int .i64 10]) (by simp [results, Tryd.results21, go_sem, r0, r1, r2, r3, r4, r5]) rfl ⟨?_, .inr ⟨Hfail.out hf.out, rfl⟩⟩
        have hB := Hbel.out.trans (hb'.mono (by omega))
        exact (((((hB.setCell (Nat.le_refl _) _).setCell (Nat.le_refl _) _).setCell (Nat.le_refl _) _).setCell (Nat.le_refl _) _).setCell (Nat.le_refl _) _).setCell (Nat.le_refl _) _
      | some r =>
        obtain ⟨x, rfl⟩ := unhex_two Hxl.out hu
        have HU2 : Hid (Calls Tryd.prog 14 #[.string (s.extract (3 * k) (3 * k + 2))] wr fun e w' => ∃ v', e = .returned (.tuple #[v', .int .i64 0]) ∧ Below wr.heap.size wr w' ∧ w'.ownsRow wr.heap.size 5 1 v' 1 [bv x]) := by
          refine HU.out.mono ?_
          rintro e w' ⟨hb, h | h⟩
          · obtain ⟨r', v, h, he, ho⟩ := h
            rw [Hx.out, hu] at h; cases h
            exact ⟨v, he, hb, ho⟩
          · rw [Hx.out, hu] at h; cases h.1
        have hbk : Hid (b k = x) := by unfold Hid; rw [Hb'.out, oneOf, hu]; rfl
        have hok2 : Hid (ok k = (k == 0 || s.data.toList[3 * k - 1]?.getD 0 == 58)) := by unfold Hid; rw [Hok'.out, oneOf, hu]; simp
        clear hu HU Hok' Hb'
        by_cases hk0 : k = 0
        · have hokk : Hid (ok k = true) := by unfold Hid; rw [hok2.out, hk0]; rfl
          have hgt : decide (0 < k) = false := by rw [decide_eq_false_iff_not]; omega
          have hgt2 : ¬ 0 < k := by omega
          have Hk0 := Lib.hid hk0
          clear hk0
          have hset := arrK_set b k hlt
          rw [hbk.out] at hset
          have Hset := Lib.hid hset
          clear hset
          go_wp2_with (go_at_call 14; refine HU2.out.mono ?_; rintro e w' ⟨v', rfl, hb', ho'⟩; obtain ⟨g, cap', cur, rfl, hgg, hg2, -, -, -, -⟩ := ho'.2.resolve_left (by rintro ⟨_, h⟩; cases h); have hx := own_cell ho' 0 (bv x) rfl; have hh := (hb'.block _ (by omega)).trans Hh.out; have hmc := (cell_of_row w' _ k _ _ _ hh).trans (arrK_get b k k hlt); have hmf := frozen_of_row w' _ k _ _ hh; have Hhh := Lib.hid hh; clear hh ho' hg2)
          refine ⟨⟨k + 1, hlt, by simp, grown_setCell (grown_below Hg.out hb') k _, ?_, ?_⟩, by simp [intOf]; omega⟩
          · rw [← Hset.out]
            exact heap_setCell_same w' _ k _ _ _ Hhh.out
          · intro j hj
            rcases Nat.lt_succ_iff_lt_or_eq.1 hj with h | rfl
            · exact Hall.out j h
            · exact hokk.out
        · have hgt : 0 < k := by omega
          have d := fun W => run_index_str (P := Tryd.prog) W 9 (by kernel_rfl) s .i64 (3 * k - 1) (by omega)
          rw [show ((3 * k - 1 : Nat) : Int) = 3 * (k : Int) - 1 by omega] at d
          have Hk0 := Lib.hid hk0
          clear hk0
          by_cases hc : s.data.toList[3 * k - 1]?.getD 0 = 58
          · have hokk : Hid (ok k = true) := by unfold Hid; rw [hok2.out, hc]; simp
            rw [hc] at d
            have d2 : ∀ W : World, (Instr.index 9 (.string s) (.int .i64 (3 * (k : Int) - 1))).run Tryd.prog W = .ok (.int .u8 58) W := d
            clear hc hok2 d
            have hset := arrK_set b k hlt
            rw [hbk.out] at hset
            have Hset := Lib.hid hset
            clear hset
            go_wp2_with (go_at_call 14; refine HU2.out.mono ?_; rintro e w' ⟨v', rfl, hb', ho'⟩; obtain ⟨g, cap', cur, rfl, hgg, hg2, -, -, -, -⟩ := ho'.2.resolve_left (by rintro ⟨_, h⟩; cases h); have hx := own_cell ho' 0 (bv x) rfl; have hh := (hb'.block _ (by omega)).trans Hh.out; have hmc := (cell_of_row w' _ k _ _ _ hh).trans (arrK_get b k k hlt); have hmf := frozen_of_row w' _ k _ _ hh; have Hhh := Lib.hid hh; clear hh ho' hg2)
            refine ⟨⟨k + 1, hlt, by simp, grown_setCell (grown_below Hg.out hb') k _, ?_, ?_⟩, by simp [intOf]; omega⟩
            · rw [← Hset.out]
              exact heap_setCell_same w' _ k _ _ _ Hhh.out
            · intro j hj
              rcases Nat.lt_succ_iff_lt_or_eq.1 hj with h | rfl
              · exact Hall.out j h
              · exact hokk.out
          · have hf : Hid (ok k = false) := by
              unfold Hid; rw [hok2.out, Bool.or_eq_false_iff]
              exact ⟨by rw [beq_eq_false_iff_ne]; exact Hk0.out, by rw [beq_eq_false_iff_ne]; exact hc⟩
            have hne : (((s.data.toList[3 * k - 1]?.getD 0).toNat : Int) != 58) = true := by
              rw [bne_iff_ne]; intro h; apply hc; apply UInt8.toNat_inj.1
              show _ = 58
              omega
            clear hok2
            have Hc := Lib.hid hc
            clear hc
            generalize s.data.toList[3 * k - 1]?.getD 0 = cc at *
            go_wp2_with (go_at_call 14; refine HU2.out.mono ?_; rintro e w' ⟨v', rfl, hb', ho'⟩; have hr : w'.heap[w.heap.size]? = _ := (hb'.block _ (by omega)).trans Hr.out; obtain ⟨r0, r1, r2, r3, r4, r5, rf⟩ := six_cells hr; clear hr)
            refine bodyPost_ret (v := .tuple #[macL [0, 0, 0, 0, 0, 0], .int .i64 10]) (by simp [results, Tryd.results21, go_sem, r0, r1, r2, r3, r4, r5]) rfl ⟨?_, .inr ⟨Hfail.out hf.out, rfl⟩⟩
            have hB := Hbel.out.trans (hb'.mono (by omega))
            exact (((((hB.setCell (Nat.le_refl _) _).setCell (Nat.le_refl _) _).setCell (Nat.le_refl _) _).setCell (Nat.le_refl _) _).setCell (Nat.le_refl _) _).setCell (Nat.le_refl _) _
    · obtain rfl : k = 6 := by omega
      have Hyes : Hid (parseOf s.data.toList = some ((List.range 6).map b)) := by
        unfold Hid
        rw [← parse_same]
        unfold parseRef
        rw [if_pos, Hb.out]
        refine ⟨Hl.out, ?_⟩
        rw [List.all_eq_true]
        intro j hj
        rw [← Hok.out]
        exact Hall.out j (by simpa using hj)
      obtain ⟨m0, m1, m2, m3, m4, m5, mf⟩ := six_cells Hh.out
      obtain ⟨r0, r1, r2, r3, r4, r5, rf⟩ := six_cells Hr.out
      have e0 : cellK b 6 0 = bv (b 0) := rfl
      have e1 : cellK b 6 1 = bv (b 1) := rfl
      have e2 : cellK b 6 2 = bv (b 2) := rfl
      have e3 : cellK b 6 3 = bv (b 3) := rfl
      have e4 : cellK b 6 4 = bv (b 4) := rfl
      have e5 : cellK b 6 5 = bv (b 5) := rfl
      go_wp2
      refine bodyPost_ret (v := .tuple #[macL ((List.range 6).map b), .int .i64 0]) (by simp [results, Tryd.results21, go_sem, r0, r1, r2, r3, r4, r5, List.range, List.range.loop]) rfl ⟨?_, .inl ⟨_, Hyes.out, rfl⟩⟩
      exact (((((Hbel.out.setCell (Nat.le_refl _) _).setCell (Nat.le_refl _) _).setCell (Nat.le_refl _) _).setCell (Nat.le_refl _) _).setCell (Nat.le_refl _) _).setCell (Nat.le_refl _) _
end Go.Proofs.YtmbbcgfcallllaaDoor
