/- octet.Parse. -/
import Derived.Test.YtmbbcgfcallllaaDoorOct6
import Derived.Test.YtmbbcgfcallllaaDoorPieces
namespace Go.Proofs.YtmbbcgfcallllaaDoor
open Go.RowKit
set_option maxRecDepth 10000

theorem grown_below {w w' w2 : World} {row : Option Nat} (h : w.grownBy w' row) (hb : Below w'.heap.size w' w2) : w.grownBy w2 row :=
  ⟨hb.os.trans h.os, hb.tape.trans h.tape, hb.output.trans h.output, Nat.le_trans h.size hb.size, fun k hk hne => (hb.block k (Nat.lt_of_lt_of_le hk h.size)).trans (h.block k hk hne)⟩
theorem grown_setCell {w w' : World} {g : Nat} (h : w.grownBy w' (some g)) (j : Nat) (u : Value) : w.grownBy (w'.setCell ⟨g, j, none⟩ u) (some g) :=
  ⟨h.os, h.tape, h.output, by rw [World.size_setCell]; exact h.size, fun k hk hne => by
    rw [Below.heap_setCell _ _ _ _ (by intro e; exact hne (by rw [e]))]; exact h.block k hk hne⟩
theorem grown_cell {w w' : World} {g : Nat} (h : w.grownBy w' (some g)) {a : Addr} {v : Value} (hc : w.cell? a = some v) (hne : a.block ≠ g) : w'.cell? a = some v :=
  h.cell hc (by intro e; cases e; exact hne rfl)

/-- the byte that a piece is -/
def oneOf (p : List UInt8) : Option UInt8 := match unhexOf p with | some [b] => some b | _ => none
def byteAt (ps : List (List UInt8)) (k : Nat) : UInt8 := (oneOf (ps[k]?.getD [])).getD 0
def okAt (ps : List (List UInt8)) (k : Nat) : Bool := (oneOf (ps[k]?.getD [])).isSome
/-- the address that a text is -/
def parseOf (l : List UInt8) : Option (List UInt8) :=
  if (pieces 58 l).length = 6 ∧ (List.range 6).all (okAt (pieces 58 l)) = true then some ((List.range 6).map (byteAt (pieces 58 l))) else none

abbrev macL (l : List UInt8) : Value := .agg (l.map bv).toArray

theorem unhex_any (s : ByteArray) (hlen : s.size ≤ 1000000) (w : World) : Calls Tryd.prog 13 #[.string s] w (UnhexPost w s.data.toList) := by
  rcases Nat.mod_two_eq_zero_or_one s.size with h | h
  · exact unhex_even s hlen w h
  · exact unhex_odd s hlen w h
theorem runhex_any (s : ByteArray) (hlen : s.size ≤ 1000000) (w : World) : Calls Tryd.prog 14 #[.string s] w (UnhexPost w s.data.toList) := by
  rcases Nat.mod_two_eq_zero_or_one s.size with h | h
  · exact runhex_even s hlen w h
  · exact runhex_odd s hlen w h

def cellK (b : Nat → UInt8) (k j : Nat) : Value := bv (if j < k then b j else 0)
def arrK (b : Nat → UInt8) (k : Nat) : Array Value := #[cellK b k 0, cellK b k 1, cellK b k 2, cellK b k 3, cellK b k 4, cellK b k 5]
theorem arrK_set (b : Nat → UInt8) (k : Nat) (h : k < 6) : (arrK b k).setIfInBounds k (bv (b k)) = arrK b (k + 1) := by
  rcases (by omega : k = 0 ∨ k = 1 ∨ k = 2 ∨ k = 3 ∨ k = 4 ∨ k = 5) with rfl | rfl | rfl | rfl | rfl | rfl <;> rfl
theorem arrK_get (b : Nat → UInt8) (k j : Nat) (h : j < 6) : (arrK b k)[j]? = some (cellK b k j) := by
  rcases (by omega : j = 0 ∨ j = 1 ∨ j = 2 ∨ j = 3 ∨ j = 4 ∨ j = 5) with rfl | rfl | rfl | rfl | rfl | rfl <;> rfl

/-- what Parse answers: the address and 0, or nothing and 10 -/
def ParsePost (w : World) (l : List UInt8) (e : Ending) (w' : World) : Prop :=
  Below w.heap.size w w' ∧ ((∃ m, parseOf l = some m ∧ e = .returned (.tuple #[macL m, .int .i64 0])) ∨ (parseOf l = none ∧ e = .returned (.tuple #[macL [0, 0, 0, 0, 0, 0], .int .i64 10])))

def ParseRel (W : World) (g : Nat) (b : Nat → UInt8) (ok : Nat → Bool) (i : Value) (wr : World) : Prop :=
  ∃ k : Nat, k ≤ 6 ∧ i = .int .i64 k ∧ W.grownBy wr (some g) ∧ wr.heap[g]? = some (.cells (arrK b k) 40 (0, 0)) ∧ ∀ j, j < k → ok j = true

theorem parse_any (s : ByteArray) (hlen : s.size ≤ 1000000) (m : Int) (w : World) (hm : w.cell? ⟨0, 0, none⟩ = some (.int .i64 m)) :
    Calls Tryd.prog 20 #[.string s] w (ParsePost w s.data.toList) := by
  have hm' : ((w.alloc (.cells #[.int .u8 0, .int .u8 0, .int .u8 0, .int .u8 0, .int .u8 0, .int .u8 0] 40)).alloc (.cells #[.int .u8 0, .int .u8 0, .int .u8 0, .int .u8 0, .int .u8 0, .int .u8 0] 40)).cell? ⟨0, 0, none⟩ = some (.int .i64 m) := by
    have h0 := World.block_lt_of_cell? w _ hm
    rw [World.cell?_alloc_lt _ _ _ (by rw [World.size_alloc]; exact Nat.lt_succ_of_lt h0), World.cell?_alloc_lt _ _ _ h0]
    exact hm
  have Hsp := Lib.hid (Tryd.strings_Split s ⟨#[58]⟩ m _ (by omega) hm' (by decide))
  have hps : (Lib.splitB ⟨#[58]⟩ 0 (Lib.countB s ⟨#[58]⟩) s).map (·.data.toList) = pieces 58 s.data.toList := by
    rw [Lib.splitB_data]
    exact split_pieces 58 _ _ (Nat.le_refl _)
  have hln := Lib.splitB_all ⟨#[58]⟩ (by decide) 0 _ s rfl
  have Hps := Lib.hid hps
  have Hln := Lib.hid hln
  clear hps hln hm hm'
  generalize Lib.splitB ⟨#[58]⟩ 0 (Lib.countB s ⟨#[58]⟩) s = ps at *
  generalize Lib.countB s ⟨#[58]⟩ = n at *
  by_cases hn : n = 5
  · subst hn
    have hpl : ps.length = 6 := Hln.out
    have Hpl := Lib.hid hpl
    clear hpl Hln
    obtain ⟨b, hb⟩ : ∃ b : Nat → UInt8, b = byteAt (pieces 58 s.data.toList) := ⟨_, rfl⟩
    obtain ⟨ok, hok⟩ : ∃ ok : Nat → Bool, ok = okAt (pieces 58 s.data.toList) := ⟨_, rfl⟩
    have Hb := Lib.hid hb
    have Hok := Lib.hid hok
    clear hb hok
    go_enter Tryd.func20, Tryd.ntmps20
    go_wp2_with (go_at_call 29; refine Hsp.out.mono ?_; rintro e w' ⟨rfl, rfl⟩)
    obtain ⟨hz2, hz, hstr, hW3, hB3⟩ := alloc3 w (.cells #[.int .u8 0, .int .u8 0, .int .u8 0, .int .u8 0, .int .u8 0, .int .u8 0] 40) (.cells #[.int .u8 0, .int .u8 0, .int .u8 0, .int .u8 0, .int .u8 0, .int .u8 0] 40) (.cells (ps.map Value.string).toArray 9)
    generalize hW : ((w.alloc (.cells #[.int .u8 0, .int .u8 0, .int .u8 0, .int .u8 0, .int .u8 0, .int .u8 0] 40)).alloc (.cells #[.int .u8 0, .int .u8 0, .int .u8 0, .int .u8 0, .int .u8 0, .int .u8 0] 40)).alloc (.cells (ps.map Value.string).toArray 9) = W at *
    have Hz := Lib.hid hz
    have Hz2 := Lib.hid hz2
    have Hstr := Lib.hid hstr
    have HW3 := Lib.hid hW3
    have HB3 := Lib.hid hB3
    clear hz hz2 hstr hW hW3 hB3
    go_loopw [6, 7, 8, 9, 18] (fun _ _ _ _ i wr => ParseRel W (w.heap.size + 1) b ok i wr) (fun _ _ _ _ i _ => 6 - (intOf i).toNat)
    case atStart => exact ⟨0, by omega, rfl, World.grownBy.refl _ _, Hz.out, fun j hj => by omega⟩
    case round =>
      obtain ⟨k, hk, rfl, hg, hh, hall⟩ := hrel
      have Hg := Lib.hid hg
      have Hh := Lib.hid hh
      have Hall := Lib.hid hall
      clear hg hh hall
      by_cases hlt : k < 6
      · have hcs : wr.cell? ⟨w.heap.size + 1 + 1, k, none⟩ = some (.string (ps[k]?.getD ⟨#[]⟩)) := by
          refine grown_cell Hg.out ?_ (by show w.heap.size + 1 + 1 ≠ w.heap.size + 1; omega)
          rw [cell_of_row W _ k _ _ _ Hstr.out]
          have := Hpl.out
          simp [show k < ps.length by omega]
        have hlk : k < ps.length := by have := Hpl.out; omega
        have hlenp : (ps[k]?.getD ⟨#[]⟩).size ≤ 1000000 := by
          have hmem : (ps[k]'hlk).data.toList ∈ pieces 58 s.data.toList := by
            rw [← Hps.out]
            exact List.mem_map.2 ⟨ps[k], List.getElem_mem hlk, rfl⟩
          have := pieces_len 58 _ _ hmem
          rw [List.getElem?_eq_getElem hlk]
          simp only [Option.getD_some]
          rw [Array.length_toList, Array.length_toList] at this
          exact Nat.le_trans this hlen
        have HU := Lib.hid (unhex_any (ps[k]?.getD ⟨#[]⟩) hlenp wr)
        have hq : (pieces 58 s.data.toList)[k]?.getD [] = (ps[k]?.getD ⟨#[]⟩).data.toList := by
          rw [← Hps.out, List.getElem?_map]
          simp [hlk]
        have Hb' : Hid (b k = (oneOf (ps[k]?.getD ⟨#[]⟩).data.toList).getD 0) := by unfold Hid; rw [Hb.out, byteAt, hq]
        have Hok' : Hid (ok k = (oneOf (ps[k]?.getD ⟨#[]⟩).data.toList).isSome) := by unfold Hid; rw [Hok.out, okAt, hq]
        have Hfail : Hid (ok k = false → parseOf s.data.toList = none) := by
          intro hf
          unfold parseOf
          rw [if_neg]
          rintro ⟨_, h⟩
          rw [List.all_eq_true] at h
          have := h k (by simpa using hlt)
          rw [← Hok.out, hf] at this
          cases this
        have Hbel : Hid (Below w.heap.size w wr) := HB3.out.trans ⟨Hg.out.os, Hg.out.tape, Hg.out.output, Hg.out.size, fun k hk => Hg.out.block k (by rw [HW3.out]; omega) (by intro e; injection e; omega)⟩
        have hr : wr.heap[w.heap.size]? = some (.cells #[.int .u8 0, .int .u8 0, .int .u8 0, .int .u8 0, .int .u8 0, .int .u8 0] 40 (0, 0)) := by
          rw [Hg.out.block w.heap.size (by rw [HW3.out]; omega) (by intro e; injection e; omega)]
          exact Hz2.out
        have hws : w.heap.size + 1 + 1 < wr.heap.size := by have := Hg.out.size; have := HW3.out; omega
        clear hq
        generalize ps[k]?.getD ⟨#[]⟩ = pk at *
        have Hr := Lib.hid hr
        clear hr
        cases hu : unhexOf pk.data.toList with
        | none =>
          have hf : Hid (ok k = false) := by unfold Hid; rw [Hok'.out, oneOf, hu]; rfl
          have HU2 : Hid (Calls Tryd.prog 13 #[.string pk] wr fun e w' => e = .returned (.tuple #[.slice none 0 0, .int .i64 10]) ∧ Below wr.heap.size wr w') := by
            refine HU.out.mono ?_
            rintro e w' ⟨hb, h | h⟩
            · obtain ⟨r, v, h, _⟩ := h; rw [hu] at h; cases h
            · exact ⟨h.2, hb⟩
          clear hu HU Hok' Hb'
          go_wp2_with (go_at_call 13; refine HU2.out.mono ?_; rintro e w' ⟨rfl, hb'⟩; have hr : w'.heap[w.heap.size]? = _ := (hb'.block _ (by omega)).trans Hr.out; obtain ⟨r0, r1, r2, r3, r4, r5, rf⟩ := six_cells hr; clear hr)
          refine bodyPost_ret (v := .tuple #[macL [0, 0, 0, 0, 0, 0], .int .i64 10]) (by simp [results, Tryd.results20, go_sem, r0, r1, r2, r3, r4, r5]) rfl ⟨?_, .inr ⟨Hfail.out hf.out, rfl⟩⟩
          have hB := Hbel.out.trans (hb'.mono (by omega))
          exact (((((hB.setCell (Nat.le_refl _) _).setCell (Nat.le_refl _) _).setCell (Nat.le_refl _) _).setCell (Nat.le_refl _) _).setCell (Nat.le_refl _) _).setCell (Nat.le_refl _) _
        | some r =>
          have HU2 : Hid (Calls Tryd.prog 13 #[.string pk] wr fun e w' => ∃ v', e = .returned (.tuple #[v', .int .i64 0]) ∧ Below wr.heap.size wr w' ∧ w'.ownsRow wr.heap.size 5 1 v' r.length (r.map bv)) := by
            refine HU.out.mono ?_
            rintro e w' ⟨hb, h | h⟩
            · obtain ⟨r', v, h, he, ho⟩ := h
              rw [hu] at h; cases h
              exact ⟨v, he, hb, ho⟩
            · rw [hu] at h; cases h.1
          by_cases hl1 : r.length = 1
          · obtain ⟨x, rfl⟩ : ∃ x, r = [x] := by
              match r, hl1 with
              | [x], _ => exact ⟨x, rfl⟩
            have hbk : Hid (b k = x) := by unfold Hid; rw [Hb'.out, oneOf, hu]; rfl
            have hokk : Hid (ok k = true) := by unfold Hid; rw [Hok'.out, oneOf, hu]; rfl
            clear hu HU Hok' Hb' hl1
            have hset := arrK_set b k hlt
            rw [hbk.out] at hset
            have Hset := Lib.hid hset
            clear hset
            go_wp2_with (go_at_call 13; refine HU2.out.mono ?_; rintro e w' ⟨v', rfl, hb', ho'⟩; obtain ⟨g, cap', cur, rfl, hgg, hg2, -, -, -, -⟩ := ho'.2.resolve_left (by rintro ⟨_, h⟩; cases h); have hx := own_cell ho' 0 (bv x) rfl; have hh := (hb'.block _ (by omega)).trans Hh.out; have hmc := (cell_of_row w' _ k _ _ _ hh).trans (arrK_get b k k hlt); have hmf := frozen_of_row w' _ k _ _ hh; have Hhh := Lib.hid hh; clear hh ho' hg2)
            refine ⟨⟨k + 1, hlt, by simp, grown_setCell (grown_below Hg.out hb') k _, ?_, ?_⟩, by simp [intOf]; omega⟩
            · rw [← Hset.out]
              exact heap_setCell_same w' _ k _ _ _ Hhh.out
            · intro j hj
              rcases Nat.lt_succ_iff_lt_or_eq.1 hj with h | rfl
              · exact Hall.out j h
              · exact hokk.out
          · have hf : Hid (ok k = false) := by
              unfold Hid; rw [Hok'.out, oneOf, hu]
              match r, hl1 with
              | [], _ => rfl
              | _ :: _ :: _, _ => rfl
              | [_], h => exact (h rfl).elim
            have hne : ((r.length : Int) != 1) = true := by rw [bne_iff_ne]; omega
            clear hu HU Hok' Hb'
            go_wp2_with (go_at_call 13; refine HU2.out.mono ?_; rintro e w' ⟨v', rfl, hb', ho'⟩; obtain ⟨a', cap', rfl, -, -⟩ := (own_bytes ho').shape; clear ho'; have hr : w'.heap[w.heap.size]? = _ := (hb'.block _ (by omega)).trans Hr.out; obtain ⟨r0, r1, r2, r3, r4, r5, rf⟩ := six_cells hr; clear hr)
            refine bodyPost_ret (v := .tuple #[macL [0, 0, 0, 0, 0, 0], .int .i64 10]) (by simp [results, Tryd.results20, go_sem, r0, r1, r2, r3, r4, r5]) rfl ⟨?_, .inr ⟨Hfail.out hf.out, rfl⟩⟩
            have hB := Hbel.out.trans (hb'.mono (by omega))
            exact (((((hB.setCell (Nat.le_refl _) _).setCell (Nat.le_refl _) _).setCell (Nat.le_refl _) _).setCell (Nat.le_refl _) _).setCell (Nat.le_refl _) _).setCell (Nat.le_refl _) _
      · obtain rfl : k = 6 := by omega
        have Hyes : Hid (parseOf s.data.toList = some ((List.range 6).map b)) := by
          unfold Hid parseOf
          rw [if_pos, Hb.out]
          refine ⟨by rw [← Hps.out, List.length_map, Hpl.out], ?_⟩
          rw [List.all_eq_true]
          intro j hj
          rw [← Hok.out]
          exact Hall.out j (by simpa using hj)
        obtain ⟨m0, m1, m2, m3, m4, m5, mf⟩ := six_cells Hh.out
        have hr : wr.heap[w.heap.size]? = some (.cells #[.int .u8 0, .int .u8 0, .int .u8 0, .int .u8 0, .int .u8 0, .int .u8 0] 40 (0, 0)) := by
          rw [Hg.out.block w.heap.size (by rw [HW3.out]; omega) (by intro e; injection e; omega)]
          exact Hz2.out
        obtain ⟨r0, r1, r2, r3, r4, r5, rf⟩ := six_cells hr
        have Hbel : Hid (Below w.heap.size w wr) := HB3.out.trans ⟨Hg.out.os, Hg.out.tape, Hg.out.output, Hg.out.size, fun k hk => Hg.out.block k (by rw [HW3.out]; omega) (by intro e; injection e; omega)⟩
        clear hr
        have e0 : cellK b 6 0 = bv (b 0) := rfl
        have e1 : cellK b 6 1 = bv (b 1) := rfl
        have e2 : cellK b 6 2 = bv (b 2) := rfl
        have e3 : cellK b 6 3 = bv (b 3) := rfl
        have e4 : cellK b 6 4 = bv (b 4) := rfl
        have e5 : cellK b 6 5 = bv (b 5) := rfl
        go_wp2
        refine bodyPost_ret (v := .tuple #[macL ((List.range 6).map b), .int .i64 0]) (by simp [results, Tryd.results20, go_sem, r0, r1, r2, r3, r4, r5, List.range, List.range.loop]) rfl ⟨?_, .inl ⟨_, Hyes.out, rfl⟩⟩
        exact (((((Hbel.out.setCell (Nat.le_refl _) _).setCell (Nat.le_refl _) _).setCell (Nat.le_refl _) _).setCell (Nat.le_refl _) _).setCell (Nat.le_refl _) _).setCell (Nat.le_refl _) _
  · have hne : ((n : Int) + 1 != 6) = true := by rw [bne_iff_ne]; omega
    go_enter Tryd.func20, Tryd.ntmps20
    go_wp2_with (go_at_call 29; refine Hsp.out.mono ?_; rintro e w' ⟨rfl, rfl⟩)
    have Hno : Hid (parseOf s.data.toList = none) := by
      unfold Hid parseOf
      rw [if_neg]
      rintro ⟨h, _⟩
      rw [← Hps.out, List.length_map, Hln.out] at h
      omega
    exact bodyPost_ret (v := .tuple #[macL [0, 0, 0, 0, 0, 0], .int .i64 10]) (by simp [results, Tryd.results20, go_sem]) rfl
      ⟨(((Below.refl _ _).alloc (Nat.le_refl _) _).alloc (by simp) _).alloc (by simp; omega) _, .inr ⟨Hno.out, rfl⟩⟩
end Go.Proofs.YtmbbcgfcallllaaDoor
