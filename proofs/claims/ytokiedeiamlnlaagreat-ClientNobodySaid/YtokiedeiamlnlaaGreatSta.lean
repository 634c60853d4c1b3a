/- The law's own start. -/
import Derived.Test.YtokiedeiamlnlaaGreatAwk
namespace Go.Proofs.YtokiedeiamlnlaaGreat
set_option linter.unusedSimpArgs false
set_option linter.unusedVariables false
open Go.RowKit
set_option maxRecDepth 10000

def bCells (p : Value) (m : Mac) (u : Value) (s : ByteArray) (mg ph : Int) : Array Value :=
  #[p, bv m.a, bv m.b, bv m.c, bv m.d, bv m.e, bv m.f, u, .string s, .int .i64 mg, .int .i64 ph, z8, z8, z8, z8, z8, z8, zi, zi, zi, zi, zn, zi, zi, zi, zi, zi, zi, zi, zi, zi, zi, zi, zn, zi, zi, zi, .bool false]
theorem built_both (B : Nat) (m : Mac) (a : Option Addr) (n c : Nat) (s : ByteArray) (mg ph : Int) :
    Tryz.prog.built 55 [(0, .pointer (some ⟨B, 0, none⟩)), (1, .agg (rCells m (.slice a n c) s mg ph))] = some (bCells (.pointer (some ⟨B, 0, none⟩)) m (.slice a n c) s mg ph) := by
  kernel_rfl
theorem wpList_build_to {P : Program} {ops : Array Oper} {rest : List Oper} {o : Oper} {a : Act} {w : World} {Q : Exit → Act → World → Prop} (hg : o.guard = none) (t : TypeId) (parts : Array (Nat × Operand)) (ho : o.op = .build t parts) {cells : Array Value}
    (hf : P.built t (parts.map fun (i, x) => (i, a.eval x)).toList = some cells)
    (h : wpList P ops Q rest (a.put o.dst (.agg cells)) w) : wpList P ops Q (o :: rest) a w := by
  refine wpList_build hg t parts ho (by rw [hf]; rfl) ?_
  rw [hf]
  exact h

theorem wpList_build_both {ops : Array Oper} {rest : List Oper} {o : Oper} {act : Act} {w : World} {Q : Exit → Act → World → Prop} (hg : o.guard = none) (x y : Operand) (ho : o.op = .build 55 #[(0, x), (1, y)])
    {B : Nat} {m : Mac} {a : Option Addr} {n c : Nat} {s : ByteArray} {mg ph : Int} (hx : act.eval x = .pointer (some ⟨B, 0, none⟩)) (hy : act.eval y = .agg (rCells m (.slice a n c) s mg ph))
    (h : wpList Tryz.prog ops Q rest (act.put o.dst (.agg (bCells (.pointer (some ⟨B, 0, none⟩)) m (.slice a n c) s mg ph))) w) : wpList Tryz.prog ops Q (o :: rest) act w := by
  refine wpList_build_to hg _ _ ho ?_ h
  simp only [List.map_toArray, List.map_cons, List.map_nil, hx, hy]
  exact built_both B m a n c s mg ph

/-- a client and the document's behind one pointer -/
structure BothAt (w w' : World) (B B2 : Nat) (m : Mac) (cv rv : Value) (u : List UInt8) (s : ByteArray) (mg : Int) : Prop where
  lo : w.heap.size ≤ B
  lt : B < B2
  hc : w'.heap[B]? = some (.cells (cCells m cv s mg 0) 37 (0, 0))
  hb : w'.heap[B2]? = some (.cells (bCells (.pointer (some ⟨B, 0, none⟩)) m rv s mg 0) 55 (0, 0))
  hq : ∃ wq, wq.heap.size = B ∧ IsBytes wq cv u ∧ Below B wq w'
  hr : IsBytes w' rv u
  bel : Below w.heap.size w w'

set_option maxHeartbeats 4000000 in
theorem start_yes (m : Mac) (uv : Value) (u : List UInt8) (s : ByteArray) (mg : Int) (w : World) (hv : IsBytes w uv u) (hok : newOk m u.length s.size mg) :
    Calls Tryz.prog 14 #[m.v, uv, .string s, .int .i64 mg] w fun e w' => ∃ B B2 cv, e = .returned (.tuple #[.pointer (some ⟨B2, 0, none⟩), .bool true]) ∧ BothAt w w' B B2 m cv uv u s mg := by
  obtain ⟨a, cap, rfl, -, -⟩ := hv.shape
  have HONE := Lib.hid (rc_one m a u.length cap s mg 0)
  have h1 : u.length ≤ 64 := hok.2.1
  have h2 : s.size ≤ 64 := hok.2.2.1
  have h1' : (u.length : Int) ≤ 64 := by omega
  have h2' : (s.size : Int) ≤ 64 := by omega
  have Hok := Lib.hid hok
  have Hv := Lib.hid hv
  clear hok hv
  obtain ⟨wA, hwA⟩ : ∃ wA, wA = w.alloc (.cells #[bv m.a, bv m.b, bv m.c, bv m.d, bv m.e, bv m.f] 23) := ⟨_, rfl⟩
  have HbA : Hid (Below w.heap.size w wA) := by rw [hwA]; exact (Below.refl _ _).alloc (Nat.le_refl _) _
  have HTA : Hid (wA.heap[w.heap.size]? = some (.cells #[bv m.a, bv m.b, bv m.c, bv m.d, bv m.e, bv m.f] 23 (0, 0))) := by rw [hwA]; exact heap_alloc_new w _
  have HltA : Hid (w.heap.size < wA.heap.size) := by rw [hwA]; simp only [World.size_alloc]; unfold Hid; omega
  have HvA := Lib.hid (Hv.out.below HbA.out)
  have HN := Lib.hid (new_yes m (.slice a u.length cap) u s mg wA HvA.out Hok.out)
  subst hwA
  go_enter Tryz.func14, Tryz.ntmps14
  go_wp2_with (first
    | (show wpList _ _ _ (Oper.mk none (Op.store _ _ _) _ _ _ _ :: _) _ _
       go_must (refine wpList_store_rc rfl _ _ rfl rfl (cs := rCells m (.slice a u.length cap) s mg 0) rfl HZ.out rfl rfl HONE.out ?_)
       intro w4 hb4 hbut4
       have HR4 := Lib.hid hb4
       have HU4 := Lib.hid hbut4
       clear hb4 hbut4)
    | (have x := HR4.out; clear x; refine wpList_load_rc rfl _ rfl rfl HR4.out rfl ?_)
    | (have x := HR4.out; clear x; refine wpList_build_both rfl _ _ rfl rfl rfl ?_)
    | (go_at_call 16; refine HN.out.mono ?_; rintro e w1 ⟨B, cv, rfl, q1, q2, q3, q4⟩
       have hA := six_cells ((q4.block _ HltA.out).trans HTA.out)
       have HC1 := Lib.hid q2
       have HQ1 := Lib.hid q3
       have HB1 := Lib.hid (HbA.out.trans (q4.mono HbA.out.size))
       have Hle := Lib.hid (Nat.le_trans HbA.out.size q1)
       have HRN := Lib.hid (rnew_yes m (.slice a u.length cap) u s mg w1 (HvA.out.below q4) Hok.out)
       have HV1 := Lib.hid (HvA.out.below q4)
       clear q1 q2 q3 q4 HN)
    | (go_at_call 38; refine HRN.out.mono ?_; rintro e w2 ⟨rfl, hb2⟩
       have HB2 := Lib.hid hb2
       have HZ := Lib.hid (heap_alloc_new w2 (.cells rZero 53))
       clear hb2 hA HRN))
  have hlB : B < w1.heap.size := (Array.getElem?_eq_some_iff.1 HC1.out).1
  have hb14 : Below w1.heap.size w1 w4 := HB2.out.trans ((((Below.refl w2.heap.size w2).alloc (Nat.le_refl _) _).trans (HU4.out.below (by simp))).mono HB2.out.size)
  have hb1 : Below w1.heap.size w1 (w4.alloc (.cells (bCells (.pointer (some ⟨B, 0, none⟩)) m (.slice a u.length cap) s mg 0) 55)) := hb14.alloc hb14.size _
  refine bodyPost_ret (v := .tuple #[.pointer (some ⟨w4.heap.size, 0, none⟩), .bool true]) (by simp [results, Tryz.results14, go_sem]) rfl ⟨B, w4.heap.size, cv, rfl, ⟨Hle.out, Nat.lt_of_lt_of_le hlB hb14.size, (hb1.block B hlB).trans HC1.out, heap_alloc_new w4 _, ?_, HV1.out.below hb1, HB1.out.trans (hb1.mono HB1.out.size)⟩⟩
  obtain ⟨wq, rfl, q1, q2⟩ := HQ1.out
  exact ⟨wq, rfl, q1, q2.trans (hb1.mono (Nat.le_of_lt hlB))⟩

theorem bytes_take {w : World} {a : Option Addr} {cap : Nat} {u : List UInt8} (h : IsBytes w (.slice a u.length cap) u) (hu : 100 < u.length) : IsBytes w (.slice a 100 cap) (u.take 100) := by
  rcases h with ⟨_, h⟩ | ⟨x, c, hv, h1, h2, h3⟩
  · subst h; simp at hu
  · cases hv
    have hl : (u.take 100).length = 100 := by rw [List.length_take]; omega
    refine .inr ⟨x, cap, by rw [hl], by omega, h2, fun i hi => ?_⟩
    rw [h3 i (by omega), List.getElem?_take_of_lt (by omega)]

set_option maxHeartbeats 8000000 in
theorem start_no (m : Mac) (uv : Value) (u : List UInt8) (s : ByteArray) (mg : Int) (w : World) (hv : IsBytes w uv u) (hno : ¬ newOk m u.length s.size mg) :
    Calls Tryz.prog 14 #[m.v, uv, .string s, .int .i64 mg] w fun e w' => e = .returned (.tuple #[.pointer none, .bool true]) ∧ Below w.heap.size w w' := by
  obtain ⟨a, cap, rfl, c1, -⟩ := hv.shape
  have HONE : Hid (rZero.all (·.oneCell') = true) := by unfold Hid; simp [rZero, Value.oneCell']
  have Hno := Lib.hid hno
  have Hv := Lib.hid hv
  clear hno hv
  obtain ⟨wA, hwA⟩ : ∃ wA, wA = w.alloc (.cells #[bv m.a, bv m.b, bv m.c, bv m.d, bv m.e, bv m.f] 23) := ⟨_, rfl⟩
  have HbA : Hid (Below w.heap.size w wA) := by rw [hwA]; exact (Below.refl _ _).alloc (Nat.le_refl _) _
  have HTA : Hid (wA.heap[w.heap.size]? = some (.cells #[bv m.a, bv m.b, bv m.c, bv m.d, bv m.e, bv m.f] 23 (0, 0))) := by rw [hwA]; exact heap_alloc_new w _
  have HltA : Hid (w.heap.size < wA.heap.size) := by rw [hwA]; simp only [World.size_alloc]; unfold Hid; omega
  have HvA := Lib.hid (Hv.out.below HbA.out)
  subst hwA
  by_cases hs : 100 < s.size <;> by_cases hu : 100 < u.length
  · have hs' : (100 : Int) < s.size := by omega
    have hu' : (100 : Int) < u.length := by omega
    have HI : Hid (∀ w, IsBytes w (.slice a u.length cap) u → IsBytes w (.slice a (100) cap) (u.take 100)) := fun w h => bytes_take h (by omega)
    have HNO : Hid (¬ newOk m (u.take 100).length (s.extract 0 100).size mg) := fun h => by have := h.2.2.1; rw [ByteArray.size_extract] at this; omega
    go_enter Tryz.func14, Tryz.ntmps14
    go_wp2_with (first
      | (show wpList _ _ _ (Oper.mk none (Op.store _ _ _) _ _ _ _ :: _) _ _
         go_must (refine wpList_store_rc rfl _ _ rfl rfl (cs := rZero) rfl HZ.out rfl rfl HONE.out ?_)
         intro w4 hb4 hbut4
         have HU4 := Lib.hid hbut4
         clear hb4 hbut4)
      | (go_at_call 16; refine (new_no m (.slice a (100) cap) (u.take 100) (s.extract 0 100) mg _ (HI.out _ HvA.out) HNO.out).mono ?_; rintro e w1 ⟨rfl, q4⟩
         have hA := six_cells ((q4.block _ HltA.out).trans HTA.out)
         have HB1 := Lib.hid (HbA.out.trans (q4.mono HbA.out.size))
         have HRN := Lib.hid (rnew_no m (.slice a (100) cap) (u.take 100) (s.extract 0 100) mg w1 (HI.out _ (HvA.out.below q4)) HNO.out)
         clear q4)
      | (go_at_call 38; refine HRN.out.mono ?_; rintro e w2 ⟨rfl, hb2⟩
         have HB2 := Lib.hid hb2
         have HZ := Lib.hid (heap_alloc_new w2 (.cells rZero 53))
         clear hb2 hA HRN))
    have hb14 : Below w1.heap.size w1 w4 := HB2.out.trans ((((Below.refl w2.heap.size w2).alloc (Nat.le_refl _) _).trans (HU4.out.below (by simp))).mono HB2.out.size)
    exact bodyPost_ret (v := .tuple #[.pointer none, .bool true]) (by simp [results, Tryz.results14, go_sem]) rfl ⟨rfl, HB1.out.trans (hb14.mono HB1.out.size)⟩
  · have hs' : (100 : Int) < s.size := by omega
    have hu' : (u.length : Int) ≤ 100 := by omega
    have HI : Hid (∀ w, IsBytes w (.slice a u.length cap) u → IsBytes w (.slice a (u.length) cap) (u)) := fun w h => h
    have HNO : Hid (¬ newOk m (u).length (s.extract 0 100).size mg) := fun h => by have := h.2.2.1; rw [ByteArray.size_extract] at this; omega
    go_enter Tryz.func14, Tryz.ntmps14
    go_wp2_with (first
      | (show wpList _ _ _ (Oper.mk none (Op.store _ _ _) _ _ _ _ :: _) _ _
         go_must (refine wpList_store_rc rfl _ _ rfl rfl (cs := rZero) rfl HZ.out rfl rfl HONE.out ?_)
         intro w4 hb4 hbut4
         have HU4 := Lib.hid hbut4
         clear hb4 hbut4)
      | (go_at_call 16; refine (new_no m (.slice a (u.length) cap) (u) (s.extract 0 100) mg _ (HI.out _ HvA.out) HNO.out).mono ?_; rintro e w1 ⟨rfl, q4⟩
         have hA := six_cells ((q4.block _ HltA.out).trans HTA.out)
         have HB1 := Lib.hid (HbA.out.trans (q4.mono HbA.out.size))
         have HRN := Lib.hid (rnew_no m (.slice a (u.length) cap) (u) (s.extract 0 100) mg w1 (HI.out _ (HvA.out.below q4)) HNO.out)
         clear q4)
      | (go_at_call 38; refine HRN.out.mono ?_; rintro e w2 ⟨rfl, hb2⟩
         have HB2 := Lib.hid hb2
         have HZ := Lib.hid (heap_alloc_new w2 (.cells rZero 53))
         clear hb2 hA HRN))
    have hb14 : Below w1.heap.size w1 w4 := HB2.out.trans ((((Below.refl w2.heap.size w2).alloc (Nat.le_refl _) _).trans (HU4.out.below (by simp))).mono HB2.out.size)
    exact bodyPost_ret (v := .tuple #[.pointer none, .bool true]) (by simp [results, Tryz.results14, go_sem]) rfl ⟨rfl, HB1.out.trans (hb14.mono HB1.out.size)⟩
  · have hs' : (s.size : Int) ≤ 100 := by omega
    have hu' : (100 : Int) < u.length := by omega
    have HI : Hid (∀ w, IsBytes w (.slice a u.length cap) u → IsBytes w (.slice a (100) cap) (u.take 100)) := fun w h => bytes_take h (by omega)
    have HNO : Hid (¬ newOk m (u.take 100).length (s).size mg) := fun h => by have := h.2.1; rw [List.length_take] at this; omega
    go_enter Tryz.func14, Tryz.ntmps14
    go_wp2_with (first
      | (show wpList _ _ _ (Oper.mk none (Op.store _ _ _) _ _ _ _ :: _) _ _
         go_must (refine wpList_store_rc rfl _ _ rfl rfl (cs := rZero) rfl HZ.out rfl rfl HONE.out ?_)
         intro w4 hb4 hbut4
         have HU4 := Lib.hid hbut4
         clear hb4 hbut4)
      | (go_at_call 16; refine (new_no m (.slice a (100) cap) (u.take 100) (s) mg _ (HI.out _ HvA.out) HNO.out).mono ?_; rintro e w1 ⟨rfl, q4⟩
         have hA := six_cells ((q4.block _ HltA.out).trans HTA.out)
         have HB1 := Lib.hid (HbA.out.trans (q4.mono HbA.out.size))
         have HRN := Lib.hid (rnew_no m (.slice a (100) cap) (u.take 100) (s) mg w1 (HI.out _ (HvA.out.below q4)) HNO.out)
         clear q4)
      | (go_at_call 38; refine HRN.out.mono ?_; rintro e w2 ⟨rfl, hb2⟩
         have HB2 := Lib.hid hb2
         have HZ := Lib.hid (heap_alloc_new w2 (.cells rZero 53))
         clear hb2 hA HRN))
    have hb14 : Below w1.heap.size w1 w4 := HB2.out.trans ((((Below.refl w2.heap.size w2).alloc (Nat.le_refl _) _).trans (HU4.out.below (by simp))).mono HB2.out.size)
    exact bodyPost_ret (v := .tuple #[.pointer none, .bool true]) (by simp [results, Tryz.results14, go_sem]) rfl ⟨rfl, HB1.out.trans (hb14.mono HB1.out.size)⟩
  · have hs' : (s.size : Int) ≤ 100 := by omega
    have hu' : (u.length : Int) ≤ 100 := by omega
    have HI : Hid (∀ w, IsBytes w (.slice a u.length cap) u → IsBytes w (.slice a (u.length) cap) (u)) := fun w h => h
    have HNO : Hid (¬ newOk m (u).length (s).size mg) := Hno.out
    go_enter Tryz.func14, Tryz.ntmps14
    go_wp2_with (first
      | (show wpList _ _ _ (Oper.mk none (Op.store _ _ _) _ _ _ _ :: _) _ _
         go_must (refine wpList_store_rc rfl _ _ rfl rfl (cs := rZero) rfl HZ.out rfl rfl HONE.out ?_)
         intro w4 hb4 hbut4
         have HU4 := Lib.hid hbut4
         clear hb4 hbut4)
      | (go_at_call 16; refine (new_no m (.slice a (u.length) cap) (u) (s) mg _ (HI.out _ HvA.out) HNO.out).mono ?_; rintro e w1 ⟨rfl, q4⟩
         have hA := six_cells ((q4.block _ HltA.out).trans HTA.out)
         have HB1 := Lib.hid (HbA.out.trans (q4.mono HbA.out.size))
         have HRN := Lib.hid (rnew_no m (.slice a (u.length) cap) (u) (s) mg w1 (HI.out _ (HvA.out.below q4)) HNO.out)
         clear q4)
      | (go_at_call 38; refine HRN.out.mono ?_; rintro e w2 ⟨rfl, hb2⟩
         have HB2 := Lib.hid hb2
         have HZ := Lib.hid (heap_alloc_new w2 (.cells rZero 53))
         clear hb2 hA HRN))
    have hb14 : Below w1.heap.size w1 w4 := HB2.out.trans ((((Below.refl w2.heap.size w2).alloc (Nat.le_refl _) _).trans (HU4.out.below (by simp))).mono HB2.out.size)
    exact bodyPost_ret (v := .tuple #[.pointer none, .bool true]) (by simp [results, Tryz.results14, go_sem]) rfl ⟨rfl, HB1.out.trans (hb14.mono HB1.out.size)⟩
end Go.Proofs.YtokiedeiamlnlaaGreat
