/- The walk of OctetOrder. -/
import Derived.Test.YtmbbcgfcallllaaDoorBeOrder
import Derived.Test.YtmbbcgfcallllaaDoorLawNumbers
namespace Go.Proofs.YtmbbcgfcallllaaDoor
open Go.RowKit
set_option maxRecDepth 10000

theorem put_lit4 (N : Int) (n : Nat) (h : N = n) (hn : n < 18446744073709551616) (w : World) :
    Calls Tryd.prog 12 #[.int .u64 N, .int .i64 4] w fun e w' => ∃ v, e = .returned v ∧ Below w.heap.size w w' ∧ IsBytes w' v (be n 4) := by
  subst h
  refine (put_any n hn 4 (by decide) (by decide) w).mono ?_
  rintro e w' ⟨v, rfl, hb, ho⟩
  exact ⟨v, rfl, hb, own_bytes ho⟩
theorem put_lit8 (N : Int) (n : Nat) (h : N = n) (hn : n < 18446744073709551616) (w : World) :
    Calls Tryd.prog 12 #[.int .u64 N, .int .i64 8] w fun e w' => ∃ v, e = .returned v ∧ Below w.heap.size w w' ∧ IsBytes w' v (be n 8) := by
  subst h
  refine (put_any n hn 8 (by decide) (by decide) w).mono ?_
  rintro e w' ⟨v, rfl, hb, ho⟩
  exact ⟨v, rfl, hb, own_bytes ho⟩

theorem lawOrder (x y : Nat) (hx : x < 18446744073709551616) (hy : y < 18446744073709551616) (m : Int) (w : World) (hm : w.cell? ⟨0, 0, none⟩ = some (.int .i64 m)) :
    Calls Tryd.prog 4 #[.int .u64 x, .int .u64 y] w fun e w' => e = .returned (.bool true) ∧ Below w.heap.size w w' := by
  have Hm := Lib.hid hm
  clear hm
  have hx4 : x % 4294967296 < 256 ^ 4 := Nat.mod_lt _ (by decide)
  have hy4 : y % 4294967296 < 256 ^ 4 := Nat.mod_lt _ (by decide)
  have HL4 := Lib.hid (be_less 4 (x % 4294967296) (y % 4294967296) hx4 hy4)
  have HS4 := Lib.hid (be_same 4 (x % 4294967296) (y % 4294967296) hx4 hy4)
  have HL8 := Lib.hid (be_less 8 x y hx hy)
  have HS8 := Lib.hid (be_same 8 x y hx hy)
  clear hx4 hy4
  go_enter Tryd.func4, Tryd.ntmps4
  go_wp2
  refine wp_loop_rounds 3 ?_
  rw [rounds_succ]; go_wp2
  refine rg_begin (by kernel_rfl) ?_
  refine rg_take (i := 0) rfl (by kernel_rfl) (by kernel_rfl) (by kernel_rfl) (fun _ _ _ h => h) (by rfl) (v := ?_) ?_ ?_
  rotate_left 1
  · intro W hW; go_simp; all_goals with_reducible rfl
  simp only [Act.put, List.setIfInBounds_toArray, List.set_cons_zero, List.set_cons_succ]
  refine rg_take (i := 1) rfl (by kernel_rfl) (by kernel_rfl) (by kernel_rfl) (fun _ _ _ h => h) (by rfl) (v := ?_) ?_ ?_
  rotate_left 1
  · intro W hW; go_simp; all_goals with_reducible rfl
  simp only [Act.put, List.setIfInBounds_toArray, List.set_cons_zero, List.set_cons_succ]
  refine rg_take (i := 4) rfl (by kernel_rfl) (by kernel_rfl) (by kernel_rfl) (fun _ _ _ h => h) (by rfl) (v := ?_) ?_ ?_
  rotate_left 1
  · intro W hW; go_simp; all_goals with_reducible rfl
  simp only [Act.put, List.setIfInBounds_toArray, List.set_cons_zero, List.set_cons_succ]
  refine rg_take (i := 5) rfl (by kernel_rfl) (by kernel_rfl) (by kernel_rfl) (fun _ _ _ h => h) (by rfl) (v := ?_) ?_ ?_
  rotate_left 1
  · intro W hW; go_simp; all_goals with_reducible rfl
  simp only [Act.put, List.setIfInBounds_toArray, List.set_cons_zero, List.set_cons_succ]
  refine rg_call (i := 2) (by kernel_rfl) rfl (by rfl) (f := 12) (args := ?_) ?_ ?_
  rotate_left 1
  · go_simp; all_goals with_reducible rfl
  refine (put_lit4 ((x : Int) % 4294967296) (x % 4294967296) (by omega) (by omega) _).mono ?_; rintro e wa4 ⟨p4, rfl, ha4, hp4⟩
  have Ha4 := Lib.hid ha4; have hcp4 := fun W (hW : Sb wa4 W) => conv_later hp4 hW
  refine ⟨_, rfl, ha4, ?_⟩
  simp only [Act.put, List.setIfInBounds_toArray, List.set_cons_zero, List.set_cons_succ]
  refine rg_take (i := 3) rfl (by kernel_rfl) (by kernel_rfl) (by kernel_rfl) (fun _ _ _ h => h) (by rfl) (v := ?_) ?_ ?_
  rotate_left 1
  · intro W hW; go_simp; all_goals with_reducible rfl
  simp only [Act.put, List.setIfInBounds_toArray, List.set_cons_zero, List.set_cons_succ]
  refine rg_call (i := 6) (by kernel_rfl) rfl (by rfl) (f := 12) (args := ?_) ?_ ?_
  rotate_left 1
  · go_simp; all_goals with_reducible rfl
  refine (put_lit4 ((y : Int) % 4294967296) (y % 4294967296) (by omega) (by omega) _).mono ?_; rintro e wb4 ⟨q4, rfl, hb4, hq4⟩
  clear hcp4; have hcq4 := fun W (hW : Sb wb4 W) => conv_later hq4 hW; clear hp4
  refine ⟨_, rfl, hb4, ?_⟩
  simp only [Act.put, List.setIfInBounds_toArray, List.set_cons_zero, List.set_cons_succ]
  refine rg_take (i := 7) rfl (by kernel_rfl) (by kernel_rfl) (by kernel_rfl) (fun _ _ _ h => h) (by rfl) (v := ?_) ?_ ?_
  rotate_left 1
  · intro W hW; go_simp; all_goals with_reducible rfl
  simp only [Act.put, List.setIfInBounds_toArray, List.set_cons_zero, List.set_cons_succ]
  refine rg_take (i := 8) rfl (by kernel_rfl) (by kernel_rfl) (by kernel_rfl) (fun _ _ _ h => h) (by rfl) (v := ?_) ?_ ?_
  rotate_left 1
  · intro W hW; go_simp; all_goals with_reducible rfl
  simp only [Act.put, List.setIfInBounds_toArray, List.set_cons_zero, List.set_cons_succ]
  refine rg_take (i := 9) rfl (by kernel_rfl) (by kernel_rfl) (by kernel_rfl) (fun _ _ _ h => h) (by rfl) (v := ?_) ?_ ?_
  rotate_left 1
  · intro W hW; go_simp; all_goals with_reducible rfl
  simp only [Act.put, List.setIfInBounds_toArray, List.set_cons_zero, List.set_cons_succ]
  refine rg_done (by kernel_rfl) ?_
  have hless : Op.bytesLess (be (x % 4294967296) 4) (be (y % 4294967296) 4) = decide ((x : Int) % 4294967296 < (y : Int) % 4294967296) := by
    refine HL4.out.trans (decide_eq_decide.2 ?_)
    omega
  have hsame : (be (x % 4294967296) 4 == be (y % 4294967296) 4) = ((x : Int) % 4294967296 == (y : Int) % 4294967296) := by
    refine HS4.out.trans ?_
    rw [Bool.eq_iff_iff, decide_eq_true_eq, beq_iff_eq]
    omega
  have hsize : (be (x % 4294967296) 4).length = 4 := by simp [be]
  go_wp2
  clear hless hsame hsize
  rw [rounds_succ]; go_wp2
  refine rg_begin (by kernel_rfl) ?_
  refine rg_take (i := 0) rfl (by kernel_rfl) (by kernel_rfl) (by kernel_rfl) (fun _ _ _ h => h) (by rfl) (v := ?_) ?_ ?_
  rotate_left 1
  · intro W hW; go_simp; all_goals with_reducible rfl
  simp only [Act.put, List.setIfInBounds_toArray, List.set_cons_zero, List.set_cons_succ]
  refine rg_take (i := 1) rfl (by kernel_rfl) (by kernel_rfl) (by kernel_rfl) (fun _ _ _ h => h) (by rfl) (v := ?_) ?_ ?_
  rotate_left 1
  · intro W hW; go_simp; all_goals with_reducible rfl
  simp only [Act.put, List.setIfInBounds_toArray, List.set_cons_zero, List.set_cons_succ]
  refine rg_take (i := 4) rfl (by kernel_rfl) (by kernel_rfl) (by kernel_rfl) (fun _ _ _ h => h) (by rfl) (v := ?_) ?_ ?_
  rotate_left 1
  · intro W hW; go_simp; all_goals with_reducible rfl
  simp only [Act.put, List.setIfInBounds_toArray, List.set_cons_zero, List.set_cons_succ]
  refine rg_take (i := 5) rfl (by kernel_rfl) (by kernel_rfl) (by kernel_rfl) (fun _ _ _ h => h) (by rfl) (v := ?_) ?_ ?_
  rotate_left 1
  · intro W hW; go_simp; all_goals with_reducible rfl
  simp only [Act.put, List.setIfInBounds_toArray, List.set_cons_zero, List.set_cons_succ]
  refine rg_call (i := 2) (by kernel_rfl) rfl (by rfl) (f := 12) (args := ?_) ?_ ?_
  rotate_left 1
  · go_simp; all_goals with_reducible rfl
  refine (put_lit8 (x : Int) x (by omega) (by omega) _).mono ?_; rintro e wa8 ⟨p8, rfl, ha8, hp8⟩
  have Ha8 := Lib.hid ha8; have hcp8 := fun W (hW : Sb wa8 W) => conv_later hp8 hW
  refine ⟨_, rfl, ha8, ?_⟩
  simp only [Act.put, List.setIfInBounds_toArray, List.set_cons_zero, List.set_cons_succ]
  refine rg_take (i := 3) rfl (by kernel_rfl) (by kernel_rfl) (by kernel_rfl) (fun _ _ _ h => h) (by rfl) (v := ?_) ?_ ?_
  rotate_left 1
  · intro W hW; go_simp; all_goals with_reducible rfl
  simp only [Act.put, List.setIfInBounds_toArray, List.set_cons_zero, List.set_cons_succ]
  refine rg_call (i := 6) (by kernel_rfl) rfl (by rfl) (f := 12) (args := ?_) ?_ ?_
  rotate_left 1
  · go_simp; all_goals with_reducible rfl
  refine (put_lit8 (y : Int) y (by omega) (by omega) _).mono ?_; rintro e wb8 ⟨q8, rfl, hb8, hq8⟩
  clear hcp8; have hcq8 := fun W (hW : Sb wb8 W) => conv_later hq8 hW; clear hp8
  refine ⟨_, rfl, hb8, ?_⟩
  simp only [Act.put, List.setIfInBounds_toArray, List.set_cons_zero, List.set_cons_succ]
  refine rg_take (i := 7) rfl (by kernel_rfl) (by kernel_rfl) (by kernel_rfl) (fun _ _ _ h => h) (by rfl) (v := ?_) ?_ ?_
  rotate_left 1
  · intro W hW; go_simp; all_goals with_reducible rfl
  simp only [Act.put, List.setIfInBounds_toArray, List.set_cons_zero, List.set_cons_succ]
  refine rg_take (i := 8) rfl (by kernel_rfl) (by kernel_rfl) (by kernel_rfl) (fun _ _ _ h => h) (by rfl) (v := ?_) ?_ ?_
  rotate_left 1
  · intro W hW; go_simp; all_goals with_reducible rfl
  simp only [Act.put, List.setIfInBounds_toArray, List.set_cons_zero, List.set_cons_succ]
  refine rg_take (i := 9) rfl (by kernel_rfl) (by kernel_rfl) (by kernel_rfl) (fun _ _ _ h => h) (by rfl) (v := ?_) ?_ ?_
  rotate_left 1
  · intro W hW; go_simp; all_goals with_reducible rfl
  simp only [Act.put, List.setIfInBounds_toArray, List.set_cons_zero, List.set_cons_succ]
  refine rg_done (by kernel_rfl) ?_
  have hless : Op.bytesLess (be x 8) (be y 8) = decide (x < y) := by
    exact HL8.out
  have hsame : (be x 8 == be y 8) = ((x : Int) == (y : Int)) := by
    refine HS8.out.trans ?_
    rw [Bool.eq_iff_iff, decide_eq_true_eq, beq_iff_eq]
    omega
  have hsize : (be x 8).length = 8 := by simp [be]
  go_wp2
  clear hless hsame hsize
  have HB4 := Lib.hid (below_drewB (below_next hb4 Ha4.out))
  have HB8 := Lib.hid (below_next (below_drewB (below_next hb8 Ha8.out)) HB4.out)
  rw [rounds_succ]; go_wp2_with (go_at_call 11; refine (awake_true m _ (cell_below Hm.out HB8.out)).mono ?_; rintro e w5 ⟨rfl, hb5⟩)
  go_ret
  exact ⟨rfl, below_next hb5 HB8.out⟩
end Go.Proofs.YtmbbcgfcallllaaDoor
