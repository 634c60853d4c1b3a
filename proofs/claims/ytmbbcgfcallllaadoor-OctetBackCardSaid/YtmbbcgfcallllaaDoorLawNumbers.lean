/- The walk of OctetNumbers. -/
import Derived.Test.YtmbbcgfcallllaaDoorOctA
namespace Go.Proofs.YtmbbcgfcallllaaDoor
open Go.RowKit
set_option maxRecDepth 10000

def beI (n : Nat) (s : Int) : List UInt8 := if 1 ≤ s ∧ s ≤ 8 then be n s.toNat else []
theorem put_all (n : Nat) (hn : n < 18446744073709551616) (s : Int) (w : World) :
    Calls Tryd.prog 12 #[.int .u64 n, .int .i64 s] w fun e w' => ∃ v, e = .returned v ∧ Below w.heap.size w w' ∧ IsBytes w' v (beI n s) := by
  by_cases h : 1 ≤ s ∧ s ≤ 8
  · obtain ⟨k, rfl⟩ := Int.eq_ofNat_of_zero_le (show 0 ≤ s by omega)
    have hk : beI n (k : Int) = be n k := by unfold beI; rw [if_pos h]; rfl
    rw [hk]
    refine (put_any n hn k (by omega) (by omega) w).mono ?_
    rintro e w' ⟨v, rfl, hb, ho⟩
    exact ⟨v, rfl, hb, own_bytes ho⟩
  · have hk : beI n s = [] := by unfold beI; rw [if_neg h]
    rw [hk]
    refine (put_bad n s (by omega) w).mono ?_
    rintro e w' ⟨rfl, rfl⟩
    exact ⟨_, rfl, Below.refl _ _, .nil _⟩
theorem rput_all (n : Nat) (hn : n < 18446744073709551616) (s : Int) (w : World) :
    Calls Tryd.prog 19 #[.int .u64 n, .int .i64 s] w fun e w' => ∃ v, e = .returned v ∧ Below w.heap.size w w' ∧ IsBytes w' v (beI n s) := by
  by_cases h : 1 ≤ s ∧ s ≤ 8
  · obtain ⟨k, rfl⟩ := Int.eq_ofNat_of_zero_le (show 0 ≤ s by omega)
    have hk : beI n (k : Int) = be n k := by unfold beI; rw [if_pos h]; rfl
    rw [hk]
    refine (rput_any n hn k (by omega) (by omega) w).mono ?_
    rintro e w' ⟨v, rfl, hb, ho⟩
    exact ⟨v, rfl, hb, own_bytes ho⟩
  · have hk : beI n s = [] := by unfold beI; rw [if_neg h]
    rw [hk]
    refine (rput_bad n s (by omega) w).mono ?_
    rintro e w' ⟨rfl, rfl⟩
    exact ⟨_, rfl, Below.refl _ _, .nil _⟩

def takes (l : List UInt8) (s : Int) : Bool := decide (1 ≤ s ∧ s ≤ 8 ∧ s ≤ l.length)
def takeN (l : List UInt8) (s : Int) : Nat := if takes l s then valOf (l.take s.toNat) else 0
def takeR (l : List UInt8) (s : Int) : List UInt8 := if takes l s then l.drop s.toNat else []
theorem take_all (v : Value) (l : List UInt8) (s : Int) (hlen : l.length ≤ 1000000) (w : World) (hv : IsBytes w v l) :
    Calls Tryd.prog 17 #[v, .int .i64 s] w fun e w' => ∃ v', e = .returned (.tuple #[.int .u64 (takeN l s : Nat), v', .bool (takes l s)]) ∧ Below w.heap.size w w' ∧ IsBytes w' v' (takeR l s) := by
  by_cases h : 1 ≤ s ∧ s ≤ 8 ∧ s ≤ l.length
  · have ht : takes l s = true := by simp [takes, h]
    simp only [takeN, takeR, ht, if_true]
    obtain ⟨k, rfl⟩ := Int.eq_ofNat_of_zero_le (show 0 ≤ s by omega)
    refine (take_any v l k (by omega) (by omega) (by omega) hlen w hv).mono ?_
    rintro e w' ⟨v', rfl, hb, ho⟩
    exact ⟨v', rfl, hb, own_bytes ho⟩
  · have ht : takes l s = false := by simp [takes, h]
    simp only [takeN, takeR, ht]
    refine (take_bad v l s (by omega) w hv).mono ?_
    rintro e w' ⟨rfl, rfl⟩
    exact ⟨_, rfl, Below.refl _ _, .nil _⟩
theorem rtake_all (v : Value) (l : List UInt8) (s : Int) (hlen : l.length ≤ 1000000) (w : World) (hv : IsBytes w v l) :
    Calls Tryd.prog 18 #[v, .int .i64 s] w fun e w' => ∃ v', e = .returned (.tuple #[.int .u64 (takeN l s : Nat), v', .bool (takes l s)]) ∧ Below w.heap.size w w' ∧ IsBytes w' v' (takeR l s) := by
  by_cases h : 1 ≤ s ∧ s ≤ 8 ∧ s ≤ l.length
  · have ht : takes l s = true := by simp [takes, h]
    simp only [takeN, takeR, ht, if_true]
    obtain ⟨k, rfl⟩ := Int.eq_ofNat_of_zero_le (show 0 ≤ s by omega)
    refine (rtake_any v l k (by omega) (by omega) (by omega) hlen w hv).mono ?_
    rintro e w' ⟨v', rfl, hb, ho⟩
    exact ⟨v', rfl, hb, own_bytes ho⟩
  · have ht : takes l s = false := by simp [takes, h]
    simp only [takeN, takeR, ht]
    refine (rtake_bad v l s (by omega) w hv).mono ?_
    rintro e w' ⟨rfl, rfl⟩
    exact ⟨_, rfl, Below.refl _ _, .nil _⟩

theorem lawNumbers (n : Nat) (hn : n < 18446744073709551616) (s : Int) (v : Value) (l : List UInt8) (g : Int) (m : Int) (w : World) (hv : IsBytes w v l) (hm : w.cell? ⟨0, 0, none⟩ = some (.int .i64 m)) :
    Calls Tryd.prog 6 #[.int .u64 n, .int .i64 s, v, .int .i64 g] w fun e w' => e = .returned (.bool true) ∧ Below w.heap.size w w' := by
  have Hcut := Lib.hid (cut_val w v l hv)
  have Hu := Lib.hid (isBytes_cut hv)
  have Hm := Lib.hid hm
  have hL : (l.take 2000).length ≤ 1000000 := by rw [List.length_take]; omega
  clear hv hm
  generalize cutVal v = u at *
  generalize l.take 2000 = L at *
  go_enter Tryd.func6, Tryd.ntmps6
  go_wp2_with (first
    | (go_at_call 9; refine Hcut.out.mono ?_; rintro e w1 ⟨rfl, hw⟩; obtain rfl : w = w1 := hw.symm)
    | (go_at_call 17; refine (take_all u L g hL _ Hu.out).mono ?_; rintro e w1 ⟨x, rfl, hb1, hx⟩; have Hx := Lib.hid hx; have Hb1 := Lib.hid hb1; clear hx hb1)
    | (go_at_call 18; refine (rtake_all u L g hL _ (Hu.out.below Hb1.out)).mono ?_; rintro e wy ⟨y, rfl, hby, hy⟩; have Hy := Lib.hid hy; have Hb2 := Lib.hid (below_next hby Hb1.out); have Hx2 := Lib.hid (Hx.out.below hby); have Hm2 := Lib.hid (cell_below Hm.out (below_next hby Hb1.out)); clear hy hby)
    | fail)
  refine rg_begin (by kernel_rfl) ?_
  refine rg_take (i := 0) rfl (by kernel_rfl) (by kernel_rfl) (by kernel_rfl) (fun _ _ _ h => h) (by rfl) (v := ?_) ?_ ?_
  rotate_left 1
  · intro W hW; go_simp; all_goals with_reducible rfl
  simp only [Act.put, List.setIfInBounds_toArray, List.set_cons_zero, List.set_cons_succ]
  refine rg_take (i := 1) rfl (by kernel_rfl) (by kernel_rfl) (by kernel_rfl) (fun _ _ _ h => h) (by rfl) (v := ?_) ?_ ?_
  rotate_left 1
  · intro W hW; go_simp; all_goals with_reducible rfl
  simp only [Act.put, List.setIfInBounds_toArray, List.set_cons_zero, List.set_cons_succ]
  refine rg_take (i := 4) rfl (by kernel_rfl) (by kernel_rfl) (by kernel_rfl) (fun _ _ _ h => h) (by rfl) (v := ?_) ?_ ?_
  rotate_left 1
  · intro W hW; go_simp; all_goals with_reducible rfl
  simp only [Act.put, List.setIfInBounds_toArray, List.set_cons_zero, List.set_cons_succ]
  refine rg_take (i := 5) rfl (by kernel_rfl) (by kernel_rfl) (by kernel_rfl) (fun _ _ _ h => h) (by rfl) (v := ?_) ?_ ?_
  rotate_left 1
  · intro W hW; go_simp; all_goals with_reducible rfl
  simp only [Act.put, List.setIfInBounds_toArray, List.set_cons_zero, List.set_cons_succ]
  refine rg_call (i := 2) (by kernel_rfl) rfl (by rfl) (f := 12) (args := ?_) ?_ ?_
  rotate_left 1
  · go_simp; all_goals with_reducible rfl
  refine (put_all n hn s _).mono ?_; rintro e w2 ⟨p, rfl, hb2, hp⟩
  have hcp := fun W (hW : Sb w2 W) => conv_later hp hW; have Hp := Lib.hid hp
  refine ⟨_, rfl, hb2, ?_⟩
  simp only [Act.put, List.setIfInBounds_toArray, List.set_cons_zero, List.set_cons_succ]
  refine rg_take (i := 3) rfl (by kernel_rfl) (by kernel_rfl) (by kernel_rfl) (fun _ _ _ h => h) (by rfl) (v := ?_) ?_ ?_
  rotate_left 1
  · intro W hW; go_simp; all_goals with_reducible rfl
  simp only [Act.put, List.setIfInBounds_toArray, List.set_cons_zero, List.set_cons_succ]
  refine rg_call (i := 6) (by kernel_rfl) rfl (by rfl) (f := 19) (args := ?_) ?_ ?_
  rotate_left 1
  · go_simp; all_goals with_reducible rfl
  refine (rput_all n hn s _).mono ?_; rintro e w6 ⟨q, rfl, hb6, hq⟩
  clear hcp; have hcp := fun W (hW : Sb w6 W) => conv_later (Hp.out.below hb6) hW; have hcq := fun W (hW : Sb w6 W) => conv_later hq hW; have hcx := fun W (hW : Sb w6 W) => conv_later (Hx2.out.below (below_next hb6 (below_drewB hb2))) hW; have hcy := fun W (hW : Sb w6 W) => conv_later (Hy.out.below (below_next hb6 (below_drewB hb2))) hW
  refine ⟨_, rfl, hb6, ?_⟩
  simp only [Act.put, List.setIfInBounds_toArray, List.set_cons_zero, List.set_cons_succ]
  refine rg_take (i := 7) rfl (by kernel_rfl) (by kernel_rfl) (by kernel_rfl) (fun _ _ _ h => h) (by rfl) (v := ?_) ?_ ?_
  rotate_left 1
  · intro W hW; go_simp; all_goals with_reducible rfl
  simp only [Act.put, List.setIfInBounds_toArray, List.set_cons_zero, List.set_cons_succ]
  refine rg_take (i := 8) rfl (by kernel_rfl) (by kernel_rfl) (by kernel_rfl) (fun _ _ _ h => h) (by rfl) (v := ?_) ?_ ?_
  rotate_left 1
  · intro W hW; go_simp; all_goals with_reducible rfl
  simp only [Act.put, List.setIfInBounds_toArray, List.set_cons_zero, List.set_cons_succ]
  refine rg_take (i := 9) rfl (by kernel_rfl) (by kernel_rfl) (by kernel_rfl) (fun _ _ _ h => h) (by rfl) (v := ?_) ?_ ?_
  rotate_left 1
  · intro W hW; go_simp; all_goals with_reducible rfl
  simp only [Act.put, List.setIfInBounds_toArray, List.set_cons_zero, List.set_cons_succ]
  refine rg_take (i := 10) rfl (by kernel_rfl) (by kernel_rfl) (by kernel_rfl) (fun _ _ _ h => h) (by rfl) (v := ?_) ?_ ?_
  rotate_left 1
  · intro W hW; go_simp; all_goals with_reducible rfl
  simp only [Act.put, List.setIfInBounds_toArray, List.set_cons_zero, List.set_cons_succ]
  refine rg_take (i := 11) rfl (by kernel_rfl) (by kernel_rfl) (by kernel_rfl) (fun _ _ _ h => h) (by rfl) (v := ?_) ?_ ?_
  rotate_left 1
  · intro W hW; go_simp; all_goals with_reducible rfl
  simp only [Act.put, List.setIfInBounds_toArray, List.set_cons_zero, List.set_cons_succ]
  refine rg_take (i := 12) rfl (by kernel_rfl) (by kernel_rfl) (by kernel_rfl) (fun _ _ _ h => h) (by rfl) (v := ?_) ?_ ?_
  rotate_left 1
  · intro W hW; go_simp; all_goals with_reducible rfl
  simp only [Act.put, List.setIfInBounds_toArray, List.set_cons_zero, List.set_cons_succ]
  refine rg_take (i := 13) rfl (by kernel_rfl) (by kernel_rfl) (by kernel_rfl) (fun _ _ _ h => h) (by rfl) (v := ?_) ?_ ?_
  rotate_left 1
  · intro W hW; go_simp; all_goals with_reducible rfl
  simp only [Act.put, List.setIfInBounds_toArray, List.set_cons_zero, List.set_cons_succ]
  refine rg_take (i := 14) rfl (by kernel_rfl) (by kernel_rfl) (by kernel_rfl) (fun _ _ _ h => h) (by rfl) (v := ?_) ?_ ?_
  rotate_left 1
  · intro W hW; go_simp; all_goals with_reducible rfl
  simp only [Act.put, List.setIfInBounds_toArray, List.set_cons_zero, List.set_cons_succ]
  refine rg_take (i := 15) rfl (by kernel_rfl) (by kernel_rfl) (by kernel_rfl) (fun _ _ _ h => h) (by rfl) (v := ?_) ?_ ?_
  rotate_left 1
  · intro W hW; go_simp; all_goals with_reducible rfl
  simp only [Act.put, List.setIfInBounds_toArray, List.set_cons_zero, List.set_cons_succ]
  refine rg_take (i := 16) rfl (by kernel_rfl) (by kernel_rfl) (by kernel_rfl) (fun _ _ _ h => h) (by rfl) (v := ?_) ?_ ?_
  rotate_left 1
  · intro W hW; go_simp; all_goals with_reducible rfl
  simp only [Act.put, List.setIfInBounds_toArray, List.set_cons_zero, List.set_cons_succ]
  refine rg_take (i := 17) rfl (by kernel_rfl) (by kernel_rfl) (by kernel_rfl) (fun _ _ _ h => h) (by rfl) (v := ?_) ?_ ?_
  rotate_left 1
  · intro W hW; go_simp; all_goals with_reducible rfl
  simp only [Act.put, List.setIfInBounds_toArray, List.set_cons_zero, List.set_cons_succ]
  refine rg_take (i := 18) rfl (by kernel_rfl) (by kernel_rfl) (by kernel_rfl) (fun _ _ _ h => h) (by rfl) (v := ?_) ?_ ?_
  rotate_left 1
  · intro W hW; go_simp; all_goals with_reducible rfl
  simp only [Act.put, List.setIfInBounds_toArray, List.set_cons_zero, List.set_cons_succ]
  refine rg_take (i := 19) rfl (by kernel_rfl) (by kernel_rfl) (by kernel_rfl) (fun _ _ _ h => h) (by rfl) (v := ?_) ?_ ?_
  rotate_left 1
  · intro W hW; go_simp; all_goals with_reducible rfl
  simp only [Act.put, List.setIfInBounds_toArray, List.set_cons_zero, List.set_cons_succ]
  refine rg_take (i := 20) rfl (by kernel_rfl) (by kernel_rfl) (by kernel_rfl) (fun _ _ _ h => h) (by rfl) (v := ?_) ?_ ?_
  rotate_left 1
  · intro W hW; go_simp; all_goals with_reducible rfl
  simp only [Act.put, List.setIfInBounds_toArray, List.set_cons_zero, List.set_cons_succ]
  refine rg_take (i := 21) rfl (by kernel_rfl) (by kernel_rfl) (by kernel_rfl) (fun _ _ _ h => h) (by rfl) (v := ?_) ?_ ?_
  rotate_left 1
  · intro W hW; go_simp; all_goals with_reducible rfl
  simp only [Act.put, List.setIfInBounds_toArray, List.set_cons_zero, List.set_cons_succ]
  refine rg_take (i := 22) rfl (by kernel_rfl) (by kernel_rfl) (by kernel_rfl) (fun _ _ _ h => h) (by rfl) (v := ?_) ?_ ?_
  rotate_left 1
  · intro W hW; go_simp; all_goals with_reducible rfl
  simp only [Act.put, List.setIfInBounds_toArray, List.set_cons_zero, List.set_cons_succ]
  refine rg_take (i := 23) rfl (by kernel_rfl) (by kernel_rfl) (by kernel_rfl) (fun _ _ _ h => h) (by rfl) (v := ?_) ?_ ?_
  rotate_left 1
  · intro W hW; go_simp; all_goals with_reducible rfl
  simp only [Act.put, List.setIfInBounds_toArray, List.set_cons_zero, List.set_cons_succ]
  refine rg_take (i := 24) rfl (by kernel_rfl) (by kernel_rfl) (by kernel_rfl) (fun _ _ _ h => h) (by rfl) (v := ?_) ?_ ?_
  rotate_left 1
  · intro W hW; go_simp; all_goals with_reducible rfl
  simp only [Act.put, List.setIfInBounds_toArray, List.set_cons_zero, List.set_cons_succ]
  refine rg_take (i := 25) rfl (by kernel_rfl) (by kernel_rfl) (by kernel_rfl) (fun _ _ _ h => h) (by rfl) (v := ?_) ?_ ?_
  rotate_left 1
  · intro W hW; go_simp; all_goals with_reducible rfl
  simp only [Act.put, List.setIfInBounds_toArray, List.set_cons_zero, List.set_cons_succ]
  refine rg_take (i := 26) rfl (by kernel_rfl) (by kernel_rfl) (by kernel_rfl) (fun _ _ _ h => h) (by rfl) (v := ?_) ?_ ?_
  rotate_left 1
  · intro W hW; go_simp; all_goals with_reducible rfl
  simp only [Act.put, List.setIfInBounds_toArray, List.set_cons_zero, List.set_cons_succ]
  refine rg_call (i := 27) (by kernel_rfl) rfl (by rfl) (f := 11) (args := ?_) ?_ ?_
  rotate_left 1
  · go_simp; all_goals with_reducible rfl
  refine (awake_true m _ (cell_below Hm2.out (below_next hb6 (below_drewB hb2)))).mono ?_; rintro e w27 ⟨rfl, hb27⟩
  refine ⟨_, rfl, hb27, ?_⟩
  simp only [Act.put, List.setIfInBounds_toArray, List.set_cons_zero, List.set_cons_succ]
  refine rg_take (i := 28) rfl (by kernel_rfl) (by kernel_rfl) (by kernel_rfl) (fun _ _ _ h => h) (by rfl) (v := ?_) ?_ ?_
  rotate_left 1
  · intro W hW; go_simp; all_goals with_reducible rfl
  simp only [Act.put, List.setIfInBounds_toArray, List.set_cons_zero, List.set_cons_succ]
  refine rg_take (i := 29) rfl (by kernel_rfl) (by kernel_rfl) (by kernel_rfl) (fun _ _ _ h => h) (by rfl) (v := ?_) ?_ ?_
  rotate_left 1
  · intro W hW; go_simp; all_goals with_reducible rfl
  simp only [Act.put, List.setIfInBounds_toArray, List.set_cons_zero, List.set_cons_succ]
  refine rg_done (by kernel_rfl) ?_
  go_wp2
  go_ret
  exact ⟨rfl, (Hb2.out.trans (((below_drewB hb2).trans (((hb6.trans (hb27.mono hb6.size)).mono (below_drewB hb2).size))).mono Hb2.out.size))⟩
end Go.Proofs.YtmbbcgfcallllaaDoor
