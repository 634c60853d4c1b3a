/- octet.Text and conciergeref01.Text. -/
import Derived.Test.YtmbbcgfcallllaaDoorOct5
namespace Go.Proofs.YtmbbcgfcallllaaDoor
open Go.RowKit
set_option maxRecDepth 10000
theorem el_str : ElemOf Tryd.prog 55 9 1 16 (.string ⟨#[]⟩) := ⟨by kernel_rfl, ⟨_, rfl, rfl, rfl, rfl⟩, rfl, by decide, by decide⟩

def textPre (l : List UInt8) : Nat → List UInt8
  | 0 => []
  | k + 1 => textPre l k ++ (if 0 < k then [58] else []) ++ hexOf [l[k]?.getD 0]
theorem textPre_len (l : List UInt8) : ∀ k, (textPre l k).length ≤ 3 * k
  | 0 => by simp [textPre]
  | k + 1 => by
    have := textPre_len l k
    have h2 : (hexOf [l[k]?.getD 0]).length = 2 := by rw [hexOf_length]; rfl
    unfold textPre
    rw [List.length_append, List.length_append, h2]
    split <;> simp <;> omega

def RTextRel (W : World) (l : List UInt8) (p i : Value) (wr : World) : Prop :=
  ∃ k : Nat, k ≤ 6 ∧ i = .int .i64 k ∧ Below W.heap.size W wr ∧ p = .string ⟨(textPre l k).toArray⟩

theorem rtext_any (a b c d e f : UInt8) (w : World) :
    Calls Tryd.prog 23 #[macV a b c d e f] w fun e' w' => e' = .returned (.string ⟨(textPre [a, b, c, d, e, f] 6).toArray⟩) ∧ Below w.heap.size w w' := by
  have hcell : ∀ k, k < 6 → (w.alloc (.cells #[bv a, bv b, bv c, bv d, bv e, bv f] 40)).cell? ⟨w.heap.size, k, none⟩ = some (bv (([a, b, c, d, e, f] : List UInt8)[k]?.getD 0)) := by
    intro k hk
    rw [World.cell?_alloc_new]
    rcases (by omega : k = 0 ∨ k = 1 ∨ k = 2 ∨ k = 3 ∨ k = 4 ∨ k = 5) with rfl | rfl | rfl | rfl | rfl | rfl <;> rfl
  have HB := Lib.hid ((Below.refl w.heap.size w).alloc (Nat.le_refl _) (.cells #[bv a, bv b, bv c, bv d, bv e, bv f] 40))
  generalize hl : ([a, b, c, d, e, f] : List UInt8) = l at *
  go_enter Tryd.func23, Tryd.ntmps23
  go_wp2
  generalize hW : w.alloc (.cells #[bv a, bv b, bv c, bv d, bv e, bv f] 40) = W at *
  go_loopw [3, 4] (fun p i wr => RTextRel W l p i wr) (fun _ i _ => 6 - (intOf i).toNat)
  case atStart => exact ⟨0, by omega, rfl, Below.refl _ _, rfl⟩
  case round =>
    obtain ⟨k, hk, rfl, hb, rfl⟩ := hrel
    have Hb := Lib.hid hb
    have hsz := hb.size
    by_cases hlt : k < 6
    · have c := hcell k hlt
      rw [← hb.cell (World.block_lt_of_cell? W _ c)] at c
      have Hst : Hid (textPre l (k + 1) = textPre l k ++ (if 0 < k then [58] else []) ++ hexOf [l[k]?.getD 0]) := rfl
      have hlen := textPre_len l k
      clear hb
      generalize textPre l k = q at *
      generalize l[k]?.getD 0 = m at *
      have Hm := Lib.hid (rhex_any (.slice (some ⟨wr.heap.size, 0, none⟩) 1 1) [m] (by simp) (wr.alloc (.cells #[bv m] 5)) (bytes_block [m] 1 (heap_alloc_new wr _) (by simp) (by simp [maxLen])))
      have hl2 : (hexOf [m]).length = 2 := by rw [hexOf_length]; rfl
      generalize hexOf [m] = h at *
      by_cases hk0 : k = 0
      · subst hk0
        go_wp2_with (go_at_call 16; refine Hm.out.mono ?_; rintro e w' ⟨rfl, n, rfl⟩)
        refine ⟨⟨1, by omega, rfl, below_drewN' (Hb.out.alloc hsz _) n, ?_⟩, by simp [intOf]⟩
        rw [Hst.out]
        show Value.string (ByteArray.mk _ ++ ByteArray.mk _) = _
        rw [ByteArray.mk_append_mk]
        simp
      · have hp : (0 : Int) < (k : Int) := by omega
        go_wp2_with (go_at_call 16; refine Hm.out.mono ?_; rintro e w' ⟨rfl, n, rfl⟩)
        refine ⟨⟨k + 1, by omega, by simp, below_drewN' (Hb.out.alloc hsz _) n, ?_⟩, by simp [intOf]; omega⟩
        rw [Hst.out, if_pos (by omega)]
        show Value.string (ByteArray.mk _ ++ ByteArray.mk [_].toArray ++ ByteArray.mk _) = _
        rw [ByteArray.mk_append_mk, ByteArray.mk_append_mk]
    · obtain rfl : k = 6 := by omega
      go_wp2
      go_ret
      exact ⟨rfl, HB.out.trans (Hb.out.mono (by have := HB.out.size; exact this))⟩

def TextRel (W : World) (l : List UInt8) (p i : Value) (wr : World) : Prop :=
  ∃ k : Nat, k ≤ 6 ∧ i = .int .i64 k ∧ Below W.heap.size W wr ∧ wr.ownsRow W.heap.size 9 1 p k ((l.take k).map fun m => .string ⟨(hexOf [m]).toArray⟩)

theorem join_text (l : List UInt8) (h : l.length = 6) : Lib.join ((l.map fun m => (ByteArray.mk (hexOf [m]).toArray)).map (·.data.toList)) [58] = textPre l 6 := by
  match l, h with
  | [a, b, c, d, e, f], _ => simp [Lib.join, textPre, List.intercalate]

theorem text_any (a b c d e f : UInt8) (w : World) :
    Calls Tryd.prog 22 #[macV a b c d e f] w fun e' w' => e' = .returned (.string ⟨(textPre [a, b, c, d, e, f] 6).toArray⟩) ∧ Below w.heap.size w w' := by
  have hcell : ∀ k, k < 6 → (w.alloc (.cells #[bv a, bv b, bv c, bv d, bv e, bv f] 40)).cell? ⟨w.heap.size, k, none⟩ = some (bv (([a, b, c, d, e, f] : List UInt8)[k]?.getD 0)) := by
    intro k hk
    rw [World.cell?_alloc_new]
    rcases (by omega : k = 0 ∨ k = 1 ∨ k = 2 ∨ k = 3 ∨ k = 4 ∨ k = 5) with rfl | rfl | rfl | rfl | rfl | rfl <;> rfl
  have HB := Lib.hid ((Below.refl w.heap.size w).alloc (Nat.le_refl _) (.cells #[bv a, bv b, bv c, bv d, bv e, bv f] 40))
  have hll : ([a, b, c, d, e, f] : List UInt8).length = 6 := rfl
  generalize hl : ([a, b, c, d, e, f] : List UInt8) = l at *
  have Hll := Lib.hid hll
  clear hll
  have hBs : w.heap.size < (w.alloc (.cells #[bv a, bv b, bv c, bv d, bv e, bv f] 40)).heap.size := by rw [World.size_alloc]; omega
  go_enter Tryd.func22, Tryd.ntmps22
  go_wp2
  generalize hW : w.alloc (.cells #[bv a, bv b, bv c, bv d, bv e, bv f] 40) = W at *
  generalize hBe : w.heap.size = B at *
  have HBe := Lib.hid hBe
  clear hBe
  go_loopw [3, 4, 5] (fun p _ i wr => TextRel W l p i wr) (fun _ _ i _ => 6 - (intOf i).toNat)
  case atStart => exact ⟨0, by omega, rfl, Below.refl _ _, World.ownsRow_nil _ _ _ _⟩
  case round =>
    obtain ⟨k, hk, rfl, hb, ho⟩ := hrel
    have Hb := Lib.hid hb
    have Ho := Lib.hid ho
    have hsz := hb.size
    by_cases hlt : k < 6
    · have c := hcell k hlt
      rw [← hb.cell (World.block_lt_of_cell? W _ c)] at c
      have hsl := run_slice_array (P := Tryd.prog) (t := 40) (e := 5) (n := 6) (by kernel_rfl) (by kernel_rfl) B k (k + 1) (by omega) (by omega) hlt .i64 .i64
      rw [show ((k + 1 : Nat) : Int) = (k : Int) + 1 by simp, show k + 1 - k = 1 by omega] at hsl
      have hby : IsBytes wr (.slice (some ⟨B, k, none⟩) 1 (6 - k)) [l[k]?.getD 0] := by
        refine .inr ⟨⟨B, k, none⟩, 6 - k, rfl, by simp; omega, by unfold maxLen; omega, fun i hi => ?_⟩
        obtain rfl : i = 0 := by simpa using hi
        exact c
      have Hc := Lib.hid (hex_any _ _ (by simp) wr hby)
      clear hb ho hby
      have Htk : Hid (((l.take (k + 1)).map fun m => Value.string ⟨(hexOf [m]).toArray⟩) = ((l.take k).map fun m => Value.string ⟨(hexOf [m]).toArray⟩) ++ [.string ⟨(hexOf [l[k]?.getD 0]).toArray⟩]) := by
        unfold Hid
        have hlen := Hll.out
        rw [List.take_succ_eq_append_getElem (by omega), List.map_append]
        simp [show k < l.length by omega]
      generalize hexOf [l[k]?.getD 0] = h at *
      have hc4 : Hid ((k + 1) * 16 ≤ 140737488355328) := by unfold Hid; omega
      go_wp2_with (first | (go_at_call 15; refine Hc.out.mono ?_; rintro e w' ⟨rfl, hb'⟩) | (at_builtin; go_must (refine wpList_append_from (by rfl) _ _ _ (by rfl) W.heap.size el_str (by rfl) ((own_below Ho.out hb').alloc _) (by rfl) (src_block 1 1 1 (heap_alloc_new w' _) (by rfl) (by simp [Value.oneCell'])) hc4.out (by have := hb'.size; rw [World.size_alloc]; omega) ?_); intro v2 w2 ho2 hg2 hb2))
      refine ⟨⟨k + 1, hlt, by simp, Hb.out.trans ((((hb'.mono hsz)).alloc (by have := hb'.size; omega) _).trans hb2), ?_⟩, by simp [intOf]; omega⟩
      rw [Htk.out]
      exact ho2
    · obtain rfl : k = 6 := by omega
      have hlen := Hll.out
      rw [List.take_of_length_le (by omega)] at ho
      obtain ⟨g, cap, cur, hp, _, hgg, hnc, hcm, _, _⟩ := ho.2.resolve_left (by rintro ⟨_, h⟩; omega)
      subst hp
      have hgs : g < wr.heap.size := (Array.getElem?_eq_some_iff.1 hgg).1
      have hj := join_text l hlen
      have Hj := Lib.hid (Tryd.strings_Join g 0 cap (l.map fun m => ByteArray.mk (hexOf [m]).toArray) ⟨#[58]⟩ wr (by
        intro j x hx
        rw [List.getElem?_map] at hx
        rw [Nat.zero_add]
        refine own_cell ho j _ ?_
        rw [List.getElem?_map]
        cases h : l[j]? with
        | none => simp [h] at hx
        | some y => simp [h] at hx ⊢; rw [hx]) hgs (by simp [hlen]) (by simp [hlen]; exact hnc) (by rw [hj]; have := textPre_len l 6; omega))
      have Hj2 := Hj.out
      rw [hj, List.length_map, hlen] at Hj2
      have HH := Lib.hid Hj2
      clear Hj2 Hj hj hgg ho
      go_wp2_with (go_at_call 30; refine HH.out.mono ?_; rintro e w' ⟨rfl, hb'⟩)
      go_ret
      exact ⟨rfl, by rw [HBe.out]; exact HB.out.trans ((Hb.out.trans (hb'.mono hsz)).mono (by omega))⟩
end Go.Proofs.YtmbbcgfcallllaaDoor
