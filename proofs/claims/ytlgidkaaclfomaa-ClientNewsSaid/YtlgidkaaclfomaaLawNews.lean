/- The walk of ClientNews. -/
import Derived.Test.YtlgidkaaclfomaaSta
namespace Go.Proofs.Ytlgidkaaclfomaa
open Go.RowKit
set_option maxRecDepth 10000

theorem bCells_eq (p : Value) (m : Mac) (u : Value) (s : ByteArray) (mg ph : Int) : bCells p m u s mg ph = #[p] ++ rCells m u s mg ph := by
  unfold bCells rCells; simp
theorem part_range {w : World} {B2 : Nat} {p : Value} {m : Mac} {u : Value} {s : ByteArray} {mg ph : Int} {t : TypeId} {fr : Nat × Nat} (hb : w.heap[B2]? = some (.cells (bCells p m u s mg ph) t fr)) : w.rangeAt B2 1 (rCells m u s mg ph).toList := by
  intro j v hv
  rw [cell_of_row w B2 _ _ _ _ hb, bCells_eq, Array.getElem?_append_right (by simp)]
  simpa using hv
theorem putAt_part (p : Value) (m : Mac) (u : Value) (s : ByteArray) (mg ph : Int) : putAt (bCells p m u s mg ph) 1 (rCells m u s mg 1).toList = bCells p m u s mg 1 := by
  unfold bCells rCells
  simp only [putAt, List.setIfInBounds_toArray, List.set_cons_zero, List.set_cons_succ]
theorem wpList_load_part {ops : Array Oper} {rest : List Oper} {op : Oper} {a : Act} {w : World} {Q : Exit → Act → World → Prop} (hgd : op.guard = none) (x : Operand) (ho : op.op = .load 37 x)
    {B2 : Nat} {p : Value} {m : Mac} {u : Value} {s : ByteArray} {mg ph : Int} {t : TypeId} {fr : Nat × Nat} (hx : a.eval x = .pointer (some ⟨B2, 1, none⟩)) (hb : w.heap[B2]? = some (.cells (bCells p m u s mg ph) t fr))
    (h : wpList Try.prog ops Q rest (a.put op.dst (.agg (rCells m u s mg ph))) w) : wpList Try.prog ops Q (op :: rest) a w := by
  have hr := exec_load_part (ev := a.eval) ho hx (part_range hb) rfl
  refine wpList_plain hgd fun K hK => ?_
  unfold Oper.wp
  rw [hr]
  exact hK _ _ h
theorem wpList_store_part {ops : Array Oper} {rest : List Oper} {op : Oper} {a : Act} {w : World} {Q : Exit → Act → World → Prop} (hgd : op.guard = none) (x y : Operand) (ho : op.op = .store 37 x y)
    {B2 : Nat} {p : Value} {m : Mac} {ua : Option Addr} {un uc : Nat} {s : ByteArray} {mg ph : Int} (hx : a.eval x = .pointer (some ⟨B2, 1, none⟩)) (hy : a.eval y = .agg (rCells m (.slice ua un uc) s mg 1)) (hb : w.heap[B2]? = some (.cells (bCells p m (.slice ua un uc) s mg ph) 39 (0, 0)))
    (h : ∀ w1, w1.heap[B2]? = some (.cells (bCells p m (.slice ua un uc) s mg 1) 39 (0, 0)) → But B2 w w1 → wpList Try.prog ops Q rest (a.put op.dst undef) w1) : wpList Try.prog ops Q (op :: rest) a w := by
  have hs := setCells_row 39 (0, 0) B2 (rCells m (.slice ua un uc) s mg 1).toList 1 _ w hb
  rw [putAt_part] at hs
  refine wpList_store_mid hgd _ x y ho B2 1 (rCells m (.slice ua un uc) s mg 1) hx hy (fun j hj => ⟨?_, frozen_of_row w B2 _ _ _ hb⟩) (by kernel_rfl) (rc_one m ua un uc s mg 1) (h _ hs.1 hs.2)
  rw [cell_of_row w B2 _ _ _ _ hb]
  have h1 : (rCells m (.slice ua un uc) s mg 1).size = 37 := rfl
  have h2 : (bCells p m (.slice ua un uc) s mg ph).size = 38 := rfl
  have : 1 + j < (bCells p m (.slice ua un uc) s mg ph).size := by omega
  simp [this]

set_option maxHeartbeats 8000000 in
theorem lawNews (m : Mac) (uv : Value) (u : List UInt8) (s : ByteArray) (mg : Int) (w : World) (hv : IsBytes w uv u) :
    Calls Try.prog 3 #[m.v, uv, .string s, .int .i64 mg] w fun e w' => e = .returned (.bool true) ∧ Below w.heap.size w w' := by
  obtain ⟨a, cap, rfl, -, -⟩ := hv.shape
  have HAW := Lib.hid awake_true
  have Hv := Lib.hid hv
  clear hv
  obtain ⟨wA, hwA⟩ : ∃ wA, wA = w.alloc (.cells #[bv m.a, bv m.b, bv m.c, bv m.d, bv m.e, bv m.f] 23) := ⟨_, rfl⟩
  have HbA : Hid (Below w.heap.size w wA) := by rw [hwA]; exact (Below.refl _ _).alloc (Nat.le_refl _) _
  have HvA := Lib.hid (Hv.out.below HbA.out)
  by_cases hok : newOk m u.length s.size mg
  · have h1 : u.length ≤ 64 := hok.2.1
    have h2 : s.size ≤ 64 := hok.2.2.1
    have HS := Lib.hid (start_yes m (.slice a u.length cap) u s mg wA HvA.out hok)
    clear hok
    subst hwA
    obtain ⟨D, hD⟩ : ∃ D, D = discL m bcast 9 0 (tagsOf u s.data.toList) := ⟨_, rfl⟩
    have HBF := Lib.hid (fun B cv w h1' h2' => hD ▸ begin_first B m cv u s mg w (by omega) (by omega) h1' h2')
    have HRB := Lib.hid (fun w h1' => hD ▸ rbegin_first m (.slice a u.length cap) u s mg w (by omega) (by omega) h1')
    have HONE := Lib.hid (rc_one m a u.length cap s mg 1)
    have heq : ((⟨D.toArray⟩ : ByteArray).toList == (⟨D.toArray⟩ : ByteArray).toList) = true := by simp
    clear hD
    go_enter Try.func3, Try.ntmps3
    go_wp2_with (first
      | (have x := HSM.out; clear x; go_at_call 6; refine (begin_later B m cv s mg _ HC7.out).mono ?_; rintro e w8 ⟨rfl, rfl⟩)
      | (have x := HSM.out; clear x; go_at_call 8; refine HSM.out.mono ?_; rintro e w7 ⟨rfl, hb7⟩
         have HC7 : Hid (w7.heap[B]? = _) := (hb7.block _ (Array.getElem?_eq_some_iff.1 HC6.out).1).trans HC6.out
         have HW7 := Lib.hid (HW6.out.trans (hb7.mono HW6.out.size))
         have e0 := cell_below e0 hb7
         clear hb7)
      | (have x := HR5.out; clear x
         show wpList _ _ _ (Oper.mk none (Op.store _ _ _) _ _ _ _ :: _) _ _
         go_must (refine wpList_store_part rfl _ _ rfl rfl rfl HB5.out ?_)
         intro w6 hb6 hbut6
         have HC6 : Hid (w6.heap[B]? = _) := (hbut6.block B (Array.getElem?_eq_some_iff.1 HC5.out).1 (Nat.ne_of_lt Hlt.out)).trans HC5.out
         have HW6 : Hid (Below w.heap.size w w6) := HW5.out.trans ((hbut6.below (Nat.le_of_lt (Array.getElem?_eq_some_iff.1 HB5.out).1)).mono HwB2.out)
         have hX6 := run_string_bytes (P := Try.prog) el_u8.ht (by kernel_rfl) (dst := 9) (by kernel_rfl) (HX5.out.kept (C := B2) Hl2.out hbut6.block)
         have hY6 := run_string_bytes (P := Try.prog) el_u8.ht (by kernel_rfl) (dst := 9) (by kernel_rfl) (HY5.out.kept (C := B2) Hl3.out hbut6.block)
         have e0 : w6.cell? ⟨B2, 0, none⟩ = some (.pointer (some ⟨B, 0, none⟩)) := by rw [cell_of_row w6 _ _ _ _ _ hb6]; rfl
         have HSM := Lib.hid (same_true B2 B (rCells m (.slice a u.length cap) s mg 1) w6 e0 (part_range hb6) rfl rfl (cc_cell HC6.out).2.2.2.1 (cc_cell HC6.out).2.2.1)
         clear hb6 hbut6)
      | (have x := HR5.out; clear x; refine wpList_load_rc rfl _ rfl rfl HR5.out rfl ?_)
      | (have x := HZ.out; clear x
         show wpList _ _ _ (Oper.mk none (Op.store _ _ _) _ _ _ _ :: _) _ _
         go_must (refine wpList_store_rc rfl _ _ rfl rfl (cs := rCells m (.slice a u.length cap) s mg 1) rfl HZ.out rfl rfl HONE.out ?_)
         intro w5 hb5 hbut5
         have hb45 : Below w4.heap.size w4 w5 := ((Below.refl _ _).alloc (Nat.le_refl _) _).trans (hbut5.below (by simp))
         have HR5 := Lib.hid hb5
         have HB5 : Hid (w5.heap[B2]? = _) := (hb45.block _ (Array.getElem?_eq_some_iff.1 HB4.out).1).trans HB4.out
         have HC5 : Hid (w5.heap[B]? = _) := (hb45.block _ (Array.getElem?_eq_some_iff.1 HC4.out).1).trans HC4.out
         have HX5 := Lib.hid (HX4.out.below hb45)
         have HY5 := Lib.hid (HY4.out.below hb45)
         have HW5 := Lib.hid (HW4.out.trans (hb45.mono HW4.out.size))
         clear hb5 hbut5 hb45 HZ)
      | (have x := HB3.out; clear x; refine wpList_load_part rfl _ rfl rfl HB3.out ?_)
      | (have x := HB3.out; clear x; go_at_call 7; refine (HRB.out w3 (Hv.out.below HW3.out)).mono ?_; rintro e w4 ⟨y, rfl, hb4, hy⟩
         have HB4 : Hid (w4.heap[B2]? = _) := (hb4.block _ (Array.getElem?_eq_some_iff.1 HB3.out).1).trans HB3.out
         have HC4 : Hid (w4.heap[B]? = _) := (hb4.block _ (Array.getElem?_eq_some_iff.1 HC3.out).1).trans HC3.out
         have HX4 := Lib.hid (HX3.out.below hb4)
         have HY4 := Lib.hid hy
         have HW4 := Lib.hid (HW3.out.trans (hb4.mono HW3.out.size))
         have HZ := Lib.hid (heap_alloc_new w4 (.cells rZero 37))
         clear hb4 hy)
      | (have x := HQ2.out; clear x; go_at_call 6; refine (HBF.out B cv w2 HC2.out HQ2.out).mono ?_; rintro e w3 ⟨x, rfl, hbut3, hc3, hx⟩
         have HB3 : Hid (w3.heap[B2]? = _) := (hbut3.block B2 Hl2.out (Nat.ne_of_gt Hlt.out)).trans HB2.out
         have HC3 := Lib.hid hc3
         have HX3 := Lib.hid hx
         have HW3 : Hid (Below w.heap.size w w3) := HW2.out.trans ((hbut3.below (Nat.le_of_lt (Nat.lt_trans Hlt.out Hl2.out))).mono HwB.out)
         have Hl3 : Hid (B2 < w3.heap.size) := Nat.lt_of_lt_of_le Hl2.out hbut3.size
         clear hbut3 hc3 hx HQ2 e0)
      | (go_at_call 4; refine HS.out.mono ?_; rintro e w1 ⟨B, B2, cv, rfl, hboth⟩
         have HB := Lib.hid hboth
         have HW1 := Lib.hid (HbA.out.trans (hboth.bel.mono HbA.out.size))
         have Hlt := Lib.hid hboth.lt
         have HwB := Lib.hid (Nat.le_trans HbA.out.size hboth.lo)
         have HwB2 := Lib.hid (Nat.le_trans HwB.out (Nat.le_of_lt Hlt.out))
         clear hboth)
      | (go_at_call 5; refine (HAW.out _).mono ?_; rintro e w2 ⟨rfl, hb2⟩
         have hlB2 := (Array.getElem?_eq_some_iff.1 HB.out.hb).1
         have HB2 : Hid (w2.heap[B2]? = _) := (hb2.block _ hlB2).trans HB.out.hb
         have HC2 : Hid (w2.heap[B]? = _) := (hb2.block _ (Array.getElem?_eq_some_iff.1 HB.out.hc).1).trans HB.out.hc
         have HQ2 : Hid (∃ wq, wq.heap.size = B ∧ IsBytes wq cv u ∧ Below B wq w2) := by
           obtain ⟨wq, q1, q2, q3⟩ := HB.out.hq
           exact ⟨wq, q1, q2, q3.trans (hb2.mono (Nat.le_of_lt (Nat.lt_trans Hlt.out hlB2)))⟩
         have HW2 := Lib.hid (HW1.out.trans (hb2.mono HW1.out.size))
         have Hl2 : Hid (B2 < w2.heap.size) := Nat.lt_of_lt_of_le hlB2 hb2.size
         have e0 : w2.cell? ⟨B2, 0, none⟩ = some (.pointer (some ⟨B, 0, none⟩)) := by rw [cell_of_row w2 _ _ _ _ _ HB2.out]; rfl
         clear hb2 hlB2))
    go_ret
    exact ⟨rfl, HW7.out⟩
  · have HS := Lib.hid (start_no m (.slice a u.length cap) u s mg wA HvA.out hok)
    clear hok
    subst hwA
    go_enter Try.func3, Try.ntmps3
    go_wp2_with (first
      | (go_at_call 4; refine HS.out.mono ?_; rintro e w1 ⟨rfl, hb1⟩
         have HW1 := Lib.hid (HbA.out.trans (hb1.mono HbA.out.size))
         clear hb1)
      | (go_at_call 5; refine (HAW.out _).mono ?_; rintro e w2 ⟨rfl, hb2⟩
         have HW2 := Lib.hid (HW1.out.trans (hb2.mono HW1.out.size))))
    go_ret
    exact ⟨rfl, HW2.out⟩
end Go.Proofs.Ytlgidkaaclfomaa
