/- The walk of OctetAddresses. -/
import Derived.Test.YtmbbcgfcallllaaDoorOctA
namespace Go.Proofs.YtmbbcgfcallllaaDoor
open Go.RowKit
set_option maxRecDepth 10000

def pb (l : List UInt8) (k : Nat) : UInt8 := ((parseOf l).getD [0, 0, 0, 0, 0, 0])[k]?.getD 0
def parseE (l : List UInt8) : Int := match parseOf l with | some _ => 0 | none => 10
abbrev pbV (l : List UInt8) : Value := macV (pb l 0) (pb l 1) (pb l 2) (pb l 3) (pb l 4) (pb l 5)
theorem parsePost_all {w : World} {l : List UInt8} {e : Ending} {w' : World} (h : ParsePost w l e w') : e = .returned (.tuple #[pbV l, .int .i64 (parseE l)]) ∧ Below w.heap.size w w' := by
  obtain ⟨hb, ⟨m, hp, rfl⟩ | ⟨hp, rfl⟩⟩ := h
  · refine ⟨?_, hb⟩
    have hm : ∃ b : Nat → UInt8, m = (List.range 6).map b := by
      unfold parseOf at hp
      split at hp
      · cases hp; exact ⟨_, rfl⟩
      · cases hp
    obtain ⟨b, rfl⟩ := hm
    simp [pb, parseE, hp, List.range, List.range.loop]
  · refine ⟨?_, hb⟩
    simp [pb, parseE, hp]
theorem parse_all (s : ByteArray) (hlen : s.size ≤ 1000000) (m : Int) (w : World) (hm : w.cell? ⟨0, 0, none⟩ = some (.int .i64 m)) :
    Calls Tryd.prog 20 #[.string s] w fun e w' => e = .returned (.tuple #[pbV s.data.toList, .int .i64 (parseE s.data.toList)]) ∧ Below w.heap.size w w' :=
  (parse_any s hlen m w hm).mono fun _ _ h => parsePost_all h
theorem rparse_all (s : ByteArray) (w : World) :
    Calls Tryd.prog 21 #[.string s] w fun e w' => e = .returned (.tuple #[pbV s.data.toList, .int .i64 (parseE s.data.toList)]) ∧ Below w.heap.size w w' := by
  by_cases h : s.size = 17
  · exact (rparse_good s h w).mono fun _ _ h => parsePost_all h
  · exact (rparse_bad s h w).mono fun _ _ h => parsePost_all h

/-- an address lies in block g -/
def MacAt (w : World) (g : Nat) (a b c d e f : UInt8) : Prop := w.heap[g]? = some (.cells #[bv a, bv b, bv c, bv d, bv e, bv f] 40 (0, 0))
theorem MacAt.below {w W : World} {g : Nat} {a b c d e f : UInt8} (h : MacAt w g a b c d e f) (hB : Below w.heap.size w W) : MacAt W g a b c d e f := by
  unfold MacAt at *
  rw [hB.block g (Array.getElem?_eq_some_iff.1 h).1]; exact h

theorem load_mac {W : World} {g : Nat} {a b c d e f : UInt8} (h : MacAt W g a b c d e f) : (Instr.loadAt 40 (.pointer (some ⟨g, 0, none⟩))).run Tryd.prog W = .ok (macV a b c d e f) W := by
  obtain ⟨h0, h1, h2, h3, h4, h5, -⟩ := six_cells h
  go_simp

theorem lawAddresses (a b c d e f : UInt8) (s : ByteArray) (m : Int) (w : World) (hs : s.size ≤ 9223372036854775807) (hm : w.cell? ⟨0, 0, none⟩ = some (.int .i64 m)) :
    Calls Tryd.prog 7 #[macV a b c d e f, .string s] w fun e w' => e = .returned (.bool true) ∧ Below w.heap.size w w' := by
  have Hm := Lib.hid hm
  have Hsz := Lib.hid (show (s.extract 0 (min (s.size : Int) 100).toNat).size ≤ 100 from size_cut_str s 100)
  have h0 := World.block_lt_of_cell? w _ hm
  clear hm
  go_enter Tryd.func7, Tryd.ntmps7
  go_wp2_with fail
  generalize s.extract 0 (min (s.size : Int) 100).toNat = t at *
  have Hb0 := Lib.hid ((Below.refl w.heap.size w).alloc (Nat.le_refl _) (.cells #[bv a, bv b, bv c, bv d, bv e, bv f] 40))
  have Hm0 := Lib.hid (cell_below Hm.out Hb0.out)
  have HM0 : Hid (MacAt (w.alloc (.cells #[bv a, bv b, bv c, bv d, bv e, bv f] 40)) w.heap.size a b c d e f) := heap_alloc_new w _
  go_wp2_with (first
    | (go_at_call 20; refine (parse_all t (by have := Hsz.out; omega) m _ Hm0.out).mono ?_; rintro e w1 ⟨rfl, hb1⟩; have Hb1 := Lib.hid hb1; clear hb1)
    | (go_at_call 21; refine (rparse_all t _).mono ?_; rintro e w2 ⟨rfl, hb2⟩; have Hb2 := Lib.hid hb2; clear hb2)
    | fail)
  have hal1 := (Below.refl w1.heap.size w1).alloc (Nat.le_refl _) (.cells #[bv (pb t.data.toList 0), bv (pb t.data.toList 1), bv (pb t.data.toList 2), bv (pb t.data.toList 3), bv (pb t.data.toList 4), bv (pb t.data.toList 5)] 40)
  have hal2 := (Below.refl w2.heap.size w2).alloc (Nat.le_refl _) (.cells #[bv (pb t.data.toList 0), bv (pb t.data.toList 1), bv (pb t.data.toList 2), bv (pb t.data.toList 3), bv (pb t.data.toList 4), bv (pb t.data.toList 5)] 40)
  have HA := Lib.hid ((((HM0.out.below Hb1.out).below hal1).below Hb2.out).below hal2)
  have HX0 : MacAt (w1.alloc (.cells #[bv (pb t.data.toList 0), bv (pb t.data.toList 1), bv (pb t.data.toList 2), bv (pb t.data.toList 3), bv (pb t.data.toList 4), bv (pb t.data.toList 5)] 40)) w1.heap.size (pb t.data.toList 0) (pb t.data.toList 1) (pb t.data.toList 2) (pb t.data.toList 3) (pb t.data.toList 4) (pb t.data.toList 5) := heap_alloc_new w1 _
  have HX := Lib.hid ((HX0.below Hb2.out).below hal2)
  have HY : Hid (MacAt (w2.alloc (.cells #[bv (pb t.data.toList 0), bv (pb t.data.toList 1), bv (pb t.data.toList 2), bv (pb t.data.toList 3), bv (pb t.data.toList 4), bv (pb t.data.toList 5)] 40)) w2.heap.size (pb t.data.toList 0) (pb t.data.toList 1) (pb t.data.toList 2) (pb t.data.toList 3) (pb t.data.toList 4) (pb t.data.toList 5)) := heap_alloc_new w2 _
  have HmX := Lib.hid (cell_below (cell_below (cell_below (cell_below Hm0.out Hb1.out) hal1) Hb2.out) hal2)
  have HBX := Lib.hid (below_next hal2 (below_next Hb2.out (below_next hal1 (below_next Hb1.out Hb0.out))))
  have hq := run_eql_mac
  clear hal1 hal2 HX0
  refine rg_begin (by kernel_rfl) ?_
  have hA := fun W (hW : Sb _ W) => six_cells (HA.out.below (w := (w2.alloc _).drew) hW)
  refine rg_take (i := 0) rfl (by kernel_rfl) (by kernel_rfl) (by kernel_rfl) (fun _ _ _ h => h) (by rfl) (v := ?_) ?_ ?_
  rotate_left 1
  · intro W hW; go_simp; all_goals with_reducible rfl
  simp only [Act.put, List.setIfInBounds_toArray, List.set_cons_zero, List.set_cons_succ]
  refine rg_take (i := 2) rfl (by kernel_rfl) (by kernel_rfl) (by kernel_rfl) (fun _ _ _ h => h) (by rfl) (v := ?_) ?_ ?_
  rotate_left 1
  · intro W hW; go_simp; all_goals with_reducible rfl
  simp only [Act.put, List.setIfInBounds_toArray, List.set_cons_zero, List.set_cons_succ]
  refine rg_call (i := 1) (by kernel_rfl) rfl (by rfl) (f := 22) (args := ?_) ?_ ?_
  rotate_left 1
  · go_simp; all_goals with_reducible rfl
  refine (text_any a b c d e f _).mono ?_; rintro e w1 ⟨rfl, hb1⟩
  clear hA
  refine ⟨_, rfl, hb1, ?_⟩
  simp only [Act.put, List.setIfInBounds_toArray, List.set_cons_zero, List.set_cons_succ]
  refine rg_call (i := 3) (by kernel_rfl) rfl (by rfl) (f := 23) (args := ?_) ?_ ?_
  rotate_left 1
  · go_simp; all_goals with_reducible rfl
  refine (rtext_any a b c d e f _).mono ?_; rintro e w3 ⟨rfl, hb3⟩
  have hb13 := below_drewB (below_next hb3 hb1); have hA := fun W (hW : Sb w3 W) => six_cells (HA.out.below (below_next hW hb13))
  refine ⟨_, rfl, hb3, ?_⟩
  simp only [Act.put, List.setIfInBounds_toArray, List.set_cons_zero, List.set_cons_succ]
  refine rg_take (i := 4) rfl (by kernel_rfl) (by kernel_rfl) (by kernel_rfl) (fun _ _ _ h => h) (by rfl) (v := ?_) ?_ ?_
  rotate_left 1
  · intro W hW; go_simp; all_goals with_reducible rfl
  simp only [Act.put, List.setIfInBounds_toArray, List.set_cons_zero, List.set_cons_succ]
  refine rg_take (i := 5) rfl (by kernel_rfl) (by kernel_rfl) (by kernel_rfl) (fun _ _ _ h => h) (by rfl) (v := ?_) ?_ ?_
  rotate_left 1
  · intro W hW; go_simp; all_goals with_reducible rfl
  simp only [Act.put, List.setIfInBounds_toArray, List.set_cons_zero, List.set_cons_succ]
  refine rg_take (i := 6) rfl (by kernel_rfl) (by kernel_rfl) (by kernel_rfl) (fun _ _ _ h => h) (by rfl) (v := ?_) ?_ ?_
  rotate_left 1
  · intro W hW; go_simp; all_goals with_reducible rfl
  simp only [Act.put, List.setIfInBounds_toArray, List.set_cons_zero, List.set_cons_succ]
  refine rg_take (i := 8) rfl (by kernel_rfl) (by kernel_rfl) (by kernel_rfl) (fun _ _ _ h => h) (by rfl) (v := ?_) ?_ ?_
  rotate_left 1
  · intro W hW; go_simp; all_goals with_reducible rfl
  simp only [Act.put, List.setIfInBounds_toArray, List.set_cons_zero, List.set_cons_succ]
  refine rg_call (i := 7) (by kernel_rfl) rfl (by rfl) (f := 24) (args := ?_) ?_ ?_
  rotate_left 1
  · go_simp; all_goals with_reducible rfl
  refine (kind_any a b c d e f _).mono ?_; rintro e w7 ⟨rfl, hb7⟩
  clear hA
  refine ⟨_, rfl, hb7, ?_⟩
  simp only [Act.put, List.setIfInBounds_toArray, List.set_cons_zero, List.set_cons_succ]
  refine rg_call (i := 9) (by kernel_rfl) rfl (by rfl) (f := 25) (args := ?_) ?_ ?_
  rotate_left 1
  · go_simp; all_goals with_reducible rfl
  refine (rkind_any a b c d e f _).mono ?_; rintro e w9 ⟨rfl, hb9⟩
  have hb19 := below_next hb9 (below_next hb7 hb13); have hX := fun W (hW : Sb w9 W) => six_cells (HX.out.below (below_next hW hb19)); have hY := fun W (hW : Sb w9 W) => six_cells (HY.out.below (below_next hW hb19))
  refine ⟨_, rfl, hb9, ?_⟩
  simp only [Act.put, List.setIfInBounds_toArray, List.set_cons_zero, List.set_cons_succ]
  refine rg_take (i := 10) rfl (by kernel_rfl) (by kernel_rfl) (by kernel_rfl) (fun _ _ _ h => h) (by rfl) (v := ?_) ?_ ?_
  rotate_left 1
  · intro W hW; go_simp; all_goals with_reducible rfl
  simp only [Act.put, List.setIfInBounds_toArray, List.set_cons_zero, List.set_cons_succ]
  refine rg_take (i := 11) rfl (by kernel_rfl) (by kernel_rfl) (by kernel_rfl) (fun _ _ _ h => h) (by rfl) (v := ?_) ?_ ?_
  rotate_left 1
  · intro W hW; go_simp; all_goals with_reducible rfl
  simp only [Act.put, List.setIfInBounds_toArray, List.set_cons_zero, List.set_cons_succ]
  refine rg_take (i := 12) rfl (by kernel_rfl) (by kernel_rfl) (by kernel_rfl) (fun _ _ _ h => h) (by rfl) (v := ?_) ?_ ?_
  rotate_left 1
  · intro W hW; go_simp; all_goals with_reducible rfl
  simp only [Act.put, List.setIfInBounds_toArray, List.set_cons_zero, List.set_cons_succ]
  refine rg_take (i := 13) rfl (by kernel_rfl) (by kernel_rfl) (by kernel_rfl) (fun _ _ _ h => h) (by rfl) (v := ?_) ?_ ?_
  rotate_left 1
  · intro W hW; go_simp; all_goals with_reducible rfl
  simp only [Act.put, List.setIfInBounds_toArray, List.set_cons_zero, List.set_cons_succ]
  refine rg_take (i := 14) rfl (by kernel_rfl) (by kernel_rfl) (by kernel_rfl) (fun _ _ _ h => h) (by rfl) (v := ?_) ?_ ?_
  rotate_left 1
  · intro W hW; go_simp; all_goals with_reducible rfl
  simp only [Act.put, List.setIfInBounds_toArray, List.set_cons_zero, List.set_cons_succ]
  refine rg_take (i := 15) rfl (by kernel_rfl) (by kernel_rfl) (by kernel_rfl) (fun _ _ _ h => h) (by rfl) (v := ?_) ?_ ?_
  rotate_left 1
  · intro W hW; go_simp; all_goals with_reducible rfl
  simp only [Act.put, List.setIfInBounds_toArray, List.set_cons_zero, List.set_cons_succ]
  refine rg_take (i := 16) rfl (by kernel_rfl) (by kernel_rfl) (by kernel_rfl) (fun _ _ _ h => h) (by rfl) (v := ?_) ?_ ?_
  rotate_left 1
  · intro W hW; go_simp; all_goals with_reducible rfl
  simp only [Act.put, List.setIfInBounds_toArray, List.set_cons_zero, List.set_cons_succ]
  refine rg_take (i := 17) rfl (by kernel_rfl) (by kernel_rfl) (by kernel_rfl) (fun _ _ _ h => h) (by rfl) (v := ?_) ?_ ?_
  rotate_left 1
  · intro W hW; go_simp; all_goals with_reducible rfl
  simp only [Act.put, List.setIfInBounds_toArray, List.set_cons_zero, List.set_cons_succ]
  refine rg_take (i := 18) rfl (by kernel_rfl) (by kernel_rfl) (by kernel_rfl) (fun _ _ _ h => h) (by rfl) (v := ?_) ?_ ?_
  rotate_left 1
  · intro W hW; go_simp; all_goals with_reducible rfl
  simp only [Act.put, List.setIfInBounds_toArray, List.set_cons_zero, List.set_cons_succ]
  refine rg_take (i := 19) rfl (by kernel_rfl) (by kernel_rfl) (by kernel_rfl) (fun _ _ _ h => h) (by rfl) (v := ?_) ?_ ?_
  rotate_left 1
  · intro W hW; go_simp; all_goals with_reducible rfl
  simp only [Act.put, List.setIfInBounds_toArray, List.set_cons_zero, List.set_cons_succ]
  refine rg_take (i := 20) rfl (by kernel_rfl) (by kernel_rfl) (by kernel_rfl) (fun _ _ _ h => h) (by rfl) (v := ?_) ?_ ?_
  rotate_left 1
  · intro W hW; go_simp; all_goals with_reducible rfl
  simp only [Act.put, List.setIfInBounds_toArray, List.set_cons_zero, List.set_cons_succ]
  refine rg_take (i := 21) rfl (by kernel_rfl) (by kernel_rfl) (by kernel_rfl) (fun _ _ _ h => h) (by rfl) (v := ?_) ?_ ?_
  rotate_left 1
  · intro W hW; go_simp; all_goals with_reducible rfl
  simp only [Act.put, List.setIfInBounds_toArray, List.set_cons_zero, List.set_cons_succ]
  refine rg_take (i := 22) rfl (by kernel_rfl) (by kernel_rfl) (by kernel_rfl) (fun _ _ _ h => h) (by rfl) (v := ?_) ?_ ?_
  rotate_left 1
  · intro W hW; go_simp; all_goals with_reducible rfl
  simp only [Act.put, List.setIfInBounds_toArray, List.set_cons_zero, List.set_cons_succ]
  refine rg_call (i := 23) (by kernel_rfl) rfl (by rfl) (f := 11) (args := ?_) ?_ ?_
  rotate_left 1
  · go_simp; all_goals with_reducible rfl
  refine (awake_true m _ (cell_below HmX.out hb19)).mono ?_; rintro e w23 ⟨rfl, hb23⟩
  have hfin := below_next hb23 hb19
  refine ⟨_, rfl, hb23, ?_⟩
  simp only [Act.put, List.setIfInBounds_toArray, List.set_cons_zero, List.set_cons_succ]
  refine rg_take (i := 24) rfl (by kernel_rfl) (by kernel_rfl) (by kernel_rfl) (fun _ _ _ h => h) (by rfl) (v := ?_) ?_ ?_
  rotate_left 1
  · intro W hW; go_simp; all_goals with_reducible rfl
  simp only [Act.put, List.setIfInBounds_toArray, List.set_cons_zero, List.set_cons_succ]
  refine rg_take (i := 25) rfl (by kernel_rfl) (by kernel_rfl) (by kernel_rfl) (fun _ _ _ h => h) (by rfl) (v := ?_) ?_ ?_
  rotate_left 1
  · intro W hW; go_simp; all_goals with_reducible rfl
  simp only [Act.put, List.setIfInBounds_toArray, List.set_cons_zero, List.set_cons_succ]
  refine rg_done (by kernel_rfl) ?_
  go_wp2
  go_ret
  exact ⟨rfl, HBX.out.trans (hfin.mono HBX.out.size)⟩
end Go.Proofs.YtmbbcgfcallllaaDoor
