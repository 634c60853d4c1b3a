/- client.New, conciergeref26.New, single. -/
import Derived.Test.YtokiedeiamlnlaaGreatCl1
namespace Go.Proofs.YtokiedeiamlnlaaGreat
set_option linter.unusedSimpArgs false
set_option linter.unusedVariables false
open Go.RowKit
set_option maxRecDepth 10000

def newOk (m : Mac) (ul sl : Nat) (mg : Int) : Prop := kindN m.a m.b m.c m.d m.e m.f = 4 ∧ ul ≤ 64 ∧ sl ≤ 64 ∧ 1 ≤ mg ∧ mg ≤ 4294967295
abbrev Mac.v (m : Mac) : Value := macV m.a m.b m.c m.d m.e m.f

theorem single_b (m : Mac) (r : Bool) (hr : r = true ↔ kindN m.a m.b m.c m.d m.e m.f = 4) (w : World) :
    Calls Tryz.prog 79 #[m.v] w fun e w' => e = .returned (.bool r) ∧ Below w.heap.size w w' := by
  rcases m with ⟨a, b, c, d, e, f⟩
  have Hr := Lib.hid hr
  clear hr
  have ha : a.toNat < 256 := u8_lt a
  have hb : b.toNat < 256 := u8_lt b
  have hc : c.toNat < 256 := u8_lt c
  have hd : d.toNat < 256 := u8_lt d
  have he : e.toNat < 256 := u8_lt e
  have hf : f.toNat < 256 := u8_lt f
  unfold kindN at Hr
  generalize hA : a.toNat = A at *
  generalize hB : b.toNat = B at *
  generalize hC : c.toNat = C at *
  generalize hD : d.toNat = D at *
  generalize hE : e.toNat = E at *
  generalize hF : f.toNat = F at *
  unfold Mac.v macV bv
  simp only
  rw [hA, hB, hC, hD, hE, hF]
  clear hA hB hC hD hE hF
  have hq := run_eql_mac
  have hq2 : ∀ (w : World) (a b c d e f a1 b1 c1 d1 e1 f1 : Int), (binOp .neq 23 (.agg #[.int .u8 a, .int .u8 b, .int .u8 c, .int .u8 d, .int .u8 e, .int .u8 f]) (.agg #[.int .u8 a1, .int .u8 b1, .int .u8 c1, .int .u8 d1, .int .u8 e1, .int .u8 f1])).run Tryz.prog w = .ok (.bool (!(a == a1 && (b == b1 && (c == c1 && (d == d1 && (e == e1 && f == f1))))))) w := by
    intro w a b c d e f a1 b1 c1 d1 e1 f1
    rw [run_neq_struct, run_equalIn_six w 9998 23 5 (by kernel_rfl) (by kernel_rfl) (by kernel_rfl)]
    rfl
  go_enter Tryz.func79, Tryz.ntmps79
  go_wp2
  all_goals go_ret
  all_goals refine ⟨ret_eq (bool_eq ?_), (Below.refl _ _).alloc (Nat.le_refl _) _⟩
  all_goals (rw [Bool.eq_iff_iff, Hr.out]; simp; try omega)

set_option maxHeartbeats 4000000 in
theorem new_no (m : Mac) (uv : Value) (u : List UInt8) (s : ByteArray) (mg : Int) (w : World) (hv : IsBytes w uv u) (hno : ¬ newOk m u.length s.size mg) :
    Calls Tryz.prog 16 #[m.v, uv, .string s, .int .i64 mg] w fun e w' => e = .returned (.tuple #[.pointer none, .int .i64 260]) ∧ Below w.heap.size w w' := by
  obtain ⟨a, cap, rfl, -, -⟩ := hv.shape
  clear hv
  have HK := Lib.hid (fun w => kind_any m.a m.b m.c m.d m.e m.f w)
  unfold newOk at hno
  unfold Mac.v
  generalize kindN m.a m.b m.c m.d m.e m.f = kk at *
  rcases m with ⟨m1, m2, m3, m4, m5, m6⟩
  go_enter Tryz.func16, Tryz.ntmps16
  go_wp2_with (go_at_call 40; refine (HK.out _).mono ?_; rintro e w1 ⟨rfl, hb1⟩)
  all_goals exact bodyPost_ret (v := .tuple #[.pointer none, .int .i64 260]) (by simp [results, Tryz.results16, go_sem]) rfl ⟨rfl, ((Below.refl _ _).alloc (Nat.le_refl _) _).trans (hb1.mono (by simp))⟩

set_option maxHeartbeats 4000000 in
theorem new_yes (m : Mac) (uv : Value) (u : List UInt8) (s : ByteArray) (mg : Int) (w : World) (hv : IsBytes w uv u) (hok : newOk m u.length s.size mg) :
    Calls Tryz.prog 16 #[m.v, uv, .string s, .int .i64 mg] w fun e w' => ∃ B uv', e = .returned (.tuple #[.pointer (some ⟨B, 0, none⟩), .int .i64 0]) ∧ w.heap.size ≤ B ∧ w'.heap[B]? = some (.cells (cCells m uv' s mg 0) 37 (0, 0)) ∧ (∃ wq, wq.heap.size = B ∧ IsBytes wq uv' u ∧ Below B wq w') ∧ Below w.heap.size w w' := by
  obtain ⟨a, cap, rfl, -, -⟩ := hv.shape
  have Hv := Lib.hid hv
  clear hv
  have HK := Lib.hid (fun w => kind_any m.a m.b m.c m.d m.e m.f w)
  obtain ⟨hk, h1, h2, h3, h4⟩ := hok
  rw [hk] at HK
  clear hk
  unfold Mac.v
  rcases m with ⟨m1, m2, m3, m4, m5, m6⟩
  have h1' : (u.length : Int) ≤ 64 := by omega
  have h2' : (s.size : Int) ≤ 64 := by omega
  go_enter Tryz.func16, Tryz.ntmps16
  go_wp2_with (go_at_call 40; refine (HK.out _).mono ?_; rintro e w1 ⟨rfl, hb1⟩)
  have HA : Hid (w1.heap[w.heap.size]? = some (.cells #[bv m1, bv m2, bv m3, bv m4, bv m5, bv m6] 23 (0, 0))) := (hb1.block _ (by simp)).trans (heap_alloc_new w _)
  have Hlt : Hid (w.heap.size < w1.heap.size) := by have := hb1.size; simp at this; exact this
  have Hb1 : Hid (Below w.heap.size w w1) := ((Below.refl _ _).alloc (Nat.le_refl _) _).trans (hb1.mono (by simp))
  clear hb1
  have Hv1 := Lib.hid (Hv.out.below Hb1.out)
  refine rn_begin (w1.heap.size) (by kernel_rfl) ?_
  have hA := fun W (hW : Sn w1.heap.size w1.drew W) => six_cells ((((Below.refl w1.heap.size w1).drew.trans hW).block _ Hlt.out).trans HA.out)
  refine rn_take (i := 0) rfl (by kernel_rfl) (by kernel_rfl) (by kernel_rfl) (fun _ _ _ h => h) (by rfl) (v := ?_) ?_ ?_
  rotate_left 1
  · intro W hW; go_simp; all_goals with_reducible rfl
  simp only [Act.put, List.setIfInBounds_toArray, List.set_cons_zero, List.set_cons_succ]
  clear hA
  refine rn_take (i := 1) rfl (by kernel_rfl) (by kernel_rfl) (by kernel_rfl) (fun _ _ _ h => h) (by rfl) (v := ?_) ?_ ?_
  rotate_left 1
  · intro W hW; go_simp; all_goals with_reducible rfl
  simp only [Act.put, List.setIfInBounds_toArray, List.set_cons_zero, List.set_cons_succ]
  refine rn_take (i := 3) rfl (by kernel_rfl) (by kernel_rfl) (by kernel_rfl) (fun _ _ _ h => h) (by rfl) (v := ?_) ?_ ?_
  rotate_left 1
  · intro W hW; go_simp; all_goals with_reducible rfl
  simp only [Act.put, List.setIfInBounds_toArray, List.set_cons_zero, List.set_cons_succ]
  refine rn_take (i := 4) rfl (by kernel_rfl) (by kernel_rfl) (by kernel_rfl) (fun _ _ _ h => h) (by rfl) (v := ?_) ?_ ?_
  rotate_left 1
  · intro W hW; go_simp; all_goals with_reducible rfl
  simp only [Act.put, List.setIfInBounds_toArray, List.set_cons_zero, List.set_cons_succ]
  have Hbd : Hid (Below w1.heap.size w1 w1.drew) := (Below.refl _ _).drew
  refine rn_one (i := 2) (by kernel_rfl) ?_
  refine st_call (i := 2) rfl (by rfl) (f := 41) (args := #[.slice a u.length cap]) (by go_simp) ((clone_any (.slice a u.length cap) u w1.drew (Hv1.out.below Hbd.out) (by omega)).mono ?_)
  rintro e w2 ⟨v2, rfl, hb2, hs2⟩
  have S2 := Lib.hid hs2
  have hb2 := hb2.mono Hbd.out.size
  have HB := Lib.hid (Hbd.out.trans hb2)
  refine ⟨_, rfl, hb2, ?_⟩
  simp only [Act.put, List.setIfInBounds_toArray, List.set_cons_zero, List.set_cons_succ]
  obtain ⟨a2, c2, rfl, -, -⟩ := S2.out.shape
  refine rn_take (i := 5) rfl (by kernel_rfl) (by kernel_rfl) (by kernel_rfl) (fun _ _ _ h => h) (by rfl) (v := .agg (cCells ⟨m1, m2, m3, m4, m5, m6⟩ (.slice a2 u.length c2) s mg 0)) (by intro W hW; go_simp; rfl) ?_
  simp only [Act.put, List.setIfInBounds_toArray, List.set_cons_zero, List.set_cons_succ]
  refine rn_one (i := 6) (by kernel_rfl) ?_
  refine st_made (i := 6) rfl (by rfl) (v := .pointer (some ⟨w2.heap.size, 0, none⟩)) (x := .cells (cCells ⟨m1, m2, m3, m4, m5, m6⟩ (.slice a2 u.length c2) s mg 0) 37) (by go_simp) HB.out.size ?_
  intro v6 w6 hv6 hw6 hb6
  have HN : Hid (w6.heap[w2.heap.size]? = some (.cells (cCells ⟨m1, m2, m3, m4, m5, m6⟩ (.slice a2 u.length c2) s mg 0) 37 (0, 0))) := by unfold Hid; rw [hw6]; exact heap_alloc_new w2 _
  have HQ : Hid (Below w2.heap.size w2 w6) := by rw [hw6]; exact (Below.refl _ _).alloc (Nat.le_refl _) _
  have HB6 := Lib.hid (HB.out.trans hb6)
  subst hv6
  clear hw6 hb6 hb2
  simp only [Act.put, List.setIfInBounds_toArray, List.set_cons_zero, List.set_cons_succ]
  refine rn_take (i := 7) rfl (by kernel_rfl) (by kernel_rfl) (by kernel_rfl) (fun _ _ _ h => h) (by rfl) (v := .pointer (some ⟨w2.heap.size, 0, none⟩)) (by intro W hW; go_simp) ?_
  simp only [Act.put, List.setIfInBounds_toArray, List.set_cons_zero, List.set_cons_succ]
  refine rn_take (i := 8) rfl (by kernel_rfl) (by kernel_rfl) (by kernel_rfl) (fun _ _ _ h => h) (by rfl) (v := .int .i64 0) (by intro W hW; go_simp) ?_
  simp only [Act.put, List.setIfInBounds_toArray, List.set_cons_zero, List.set_cons_succ]
  refine rn_done (by kernel_rfl) ?_
  go_wp2
  refine bodyPost_ret (v := .tuple #[.pointer (some ⟨w2.heap.size, 0, none⟩), .int .i64 0]) (by simp [results, Tryz.results16, go_sem]) rfl ⟨w2.heap.size, _, rfl, Nat.le_trans Hb1.out.size HB.out.size, HN.out, ⟨w2, rfl, S2.out, HQ.out⟩, Hb1.out.trans (HB6.out.mono Hb1.out.size)⟩
end Go.Proofs.YtokiedeiamlnlaaGreat
