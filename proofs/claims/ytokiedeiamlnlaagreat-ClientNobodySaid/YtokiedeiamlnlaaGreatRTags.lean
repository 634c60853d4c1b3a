/- conciergeref05.Encode. -/
import Derived.Test.YtokiedeiamlnlaaGreatProg
import Derived.Test.YtokiedeiamlnlaaGreatBase
import Derived.Test.YtokiedeiamlnlaaGreatPut
import Derived.Test.YtokiedeiamlnlaaGreatTags
import Derived.Test.YtokiedeiamlnlaaGreatRg2
namespace Go.Proofs.YtokiedeiamlnlaaGreat
set_option linter.unusedSimpArgs false
set_option linter.unusedVariables false
open Go.RowKit
set_option maxRecDepth 10000

def TagRel3 (w : World) (l : List TagL) (v i : Value) (wr : World) : Prop :=
  ∃ k : Nat, k ≤ l.length ∧ i = .int .i64 k ∧ (l.take k).all tagOk = true ∧ Below w.heap.size w wr ∧ wr.ownsRow w.heap.size 5 1 v (tagsBytes (l.take k)).length ((tagsBytes (l.take k)).map bv)

set_option maxHeartbeats 4000000 in
theorem rtags_enc (v : Value) (l : List TagL) (w : World) (hv : IsTags w v l) :
    Calls Tryz.prog 80 #[v] w fun e w' => ∃ v', e = .returned (.tuple #[v', .int .i64 (tagsCode l)]) ∧ Below w.heap.size w w' ∧ IsBytes w' v' (tagsOut l) := by
  obtain ⟨x, c, rfl, hc, hv⟩ := hv
  have Hv := Lib.hid hv
  clear hv
  by_cases h64 : 64 < l.length
  · have h64' : (64 : Int) < l.length := by omega
    have h1 : tagsCode l = 3 := by unfold tagsCode; rw [if_pos h64]
    have h2 : tagsOut l = [] := by unfold tagsOut; rw [h1]; rfl
    rw [h1, h2]
    clear h1 h2
    go_enter Tryz.func80, Tryz.ntmps80
    go_wp2
    refine bodyPost_ret (v := .tuple #[.slice none 0 0, .int .i64 3]) (by simp [results, Tryz.results80, go_sem]) rfl ⟨_, rfl, Below.refl _ _, .nil _⟩
  · have h64' : (l.length : Int) ≤ 64 := by omega
    go_enter Tryz.func80, Tryz.ntmps80
    go_wp2
    go_loopw [4, 5] (fun v i wr => TagRel3 w l v i wr) (fun _ i _ => l.length - (intOf i).toNat)
    case atStart => exact ⟨0, Nat.zero_le _, rfl, by simp, Below.refl _ _, by simpa [tagsBytes] using World.ownsRow_nil w w.heap.size 5 1⟩
    case round =>
      obtain ⟨k, hk', rfl, hok, hb, ho⟩ := hrel
      by_cases hlt : k < l.length
      · obtain ⟨hc1, u, hc2, hu⟩ := Hv.out k _ (List.getElem?_eq_getElem hlt)
        have hlt' : (k : Int) < l.length := by omega
        have Hget := Lib.hid (List.getElem?_eq_getElem hlt)
        rw [← addr_add, add_one] at hc2
        obtain ⟨a, cap, rfl, hl1, hl2⟩ := hu.shape
        have Huw := Lib.hid hu
        have Hc1w := Lib.hid hc1
        have Hc2 := Lib.hid hc2
        have d1 := cell_below hc1 hb
        have d2 := cell_below hc2 hb
        have hm := is_any (l[k]'hlt).1 _ (l[k]'hlt).2 wr (hu.below hb)
        have Hok := Lib.hid hok
        have Hb := Lib.hid hb
        have Ho := Lib.hid ho
        have hsum : (tagsBytes (l.take k)).length ≤ 64 * 65539 := Nat.le_trans (tagsBytes_le hok) (Nat.mul_le_mul_right _ (by rw [List.length_take]; omega))
        have Hsum := Lib.hid hsum
        clear hok hb ho hu hsum hc1 hc2
        generalize ht : (l[k]'hlt) = t at *
        clear ht
        obtain ⟨t1, tv⟩ := t
        simp only at *
        cases hq : tagOk (t1, tv) with
        | true =>
          obtain ⟨m, rfl, hm1, hm2⟩ : ∃ m : Nat, t1 = m ∧ m ≤ 65535 ∧ tv.length ≤ 65535 := by
            simp only [tagOk, Bool.and_eq_true, decide_eq_true_eq] at hq
            exact ⟨t1.toNat, by omega, by omega, by omega⟩
          have hm0 : (m : Int) ≤ 65535 := by omega
          have Hq := Lib.hid hq
          rw [hq] at hm
          have Hm := Lib.hid hm
          have hwm : Hid (IntKind.u64.wrap (m : Int) = m) := by unfold Hid; rw [IntKind.wrap_u64]; omega
          have hwl : Hid (IntKind.u64.wrap (tv.length : Int) = tv.length) := by unfold Hid; rw [IntKind.wrap_u64]; omega
          have HP := Lib.hid (rput2 m hm1)
          have HP2 := Lib.hid (rput2 tv.length hm2)
          have Hlen : Hid ((tagsBytes (l.take k)).length + (4 + tv.length) ≤ 5000000) := by have := Hsum.out; unfold Hid; omega
          have Hstep := Lib.hid (tagsBytes_take Hget.out)
          have Hbytes : Hid (tagBytes ((m : Int), tv) = be m 2 ++ be tv.length 2 ++ tv) := rfl
          clear hm hq
          go_wp2_with (go_at_call 131; refine Hm.out.mono ?_; rintro e w1 ⟨rfl, hb1⟩)
          have Hod := Lib.hid (show w1.drew.ownsRow w.heap.size 5 1 _ (tagsBytes (l.take k)).length ((tagsBytes (l.take k)).map bv) from own_drewN (own_below Ho.out hb1) 1)
          have Hbd := Lib.hid (Hb.out.trans (hb1.mono Hb.out.size)).drew
          have Hc1 := Hc1w
          clear hb1 d1 d2
          refine rn_begin (w.heap.size) (by kernel_rfl) ?_
          refine rn_take (i := 0) rfl (by kernel_rfl) (by kernel_rfl) (by kernel_rfl) (fun _ _ _ h => h) (by rfl) (v := ?_) ?_ ?_
          rotate_left 1
          · intro W hW; go_simp; all_goals with_reducible rfl
          simp only [Act.put, List.setIfInBounds_toArray, List.set_cons_zero, List.set_cons_succ]
          refine rn_take (i := 1) rfl (by kernel_rfl) (by kernel_rfl) (by kernel_rfl) (fun _ _ _ h => h) (by rfl) (v := ?_) ?_ ?_
          rotate_left 1
          · intro W hW; go_simp; all_goals with_reducible rfl
          simp only [Act.put, List.setIfInBounds_toArray, List.set_cons_zero, List.set_cons_succ]
          refine rn_take (i := 2) rfl (by kernel_rfl) (by kernel_rfl) (by kernel_rfl) (fun _ _ _ h => h) (by rfl) (v := ?_) ?_ ?_
          rotate_left 1
          · intro W hW; go_simp; all_goals with_reducible rfl
          simp only [Act.put, List.setIfInBounds_toArray, List.set_cons_zero, List.set_cons_succ]
          refine rn_take (i := 3) rfl (by kernel_rfl) (by kernel_rfl) (by kernel_rfl) (fun _ _ _ h => h) (by rfl) (v := ?_) ?_ ?_
          rotate_left 1
          · intro W hW; go_simp; all_goals with_reducible rfl
          simp only [Act.put, List.setIfInBounds_toArray, List.set_cons_zero, List.set_cons_succ]
          refine rn_take (i := 4) rfl (by kernel_rfl) (by kernel_rfl) (by kernel_rfl) (fun _ _ _ h => h) (by rfl) (v := ?_) ?_ ?_
          rotate_left 1
          · intro W hW; go_simp; all_goals with_reducible rfl
          simp only [Act.put, List.setIfInBounds_toArray, List.set_cons_zero, List.set_cons_succ]
          have hA := fun W (hW : Sn w.heap.size w1.drew W) => cell_below Hc1.out (Hbd.out.trans hW)
          refine rn_take (i := 5) rfl (by kernel_rfl) (by kernel_rfl) (by kernel_rfl) (fun _ _ _ h => h) (by rfl) (v := ?_) ?_ ?_
          rotate_left 1
          · intro W hW; go_simp; all_goals with_reducible rfl
          simp only [Act.put, List.setIfInBounds_toArray, List.set_cons_zero, List.set_cons_succ]
          refine rn_take (i := 6) rfl (by kernel_rfl) (by kernel_rfl) (by kernel_rfl) (fun _ _ _ h => h) (by rfl) (v := ?_) ?_ ?_
          rotate_left 1
          · intro W hW; go_simp; all_goals with_reducible rfl
          simp only [Act.put, List.setIfInBounds_toArray, List.set_cons_zero, List.set_cons_succ]
          rw [hwm.out]
          refine rn_take (i := 9) rfl (by kernel_rfl) (by kernel_rfl) (by kernel_rfl) (fun _ _ _ h => h) (by rfl) (v := ?_) ?_ ?_
          rotate_left 1
          · intro W hW; go_simp; all_goals with_reducible rfl
          simp only [Act.put, List.setIfInBounds_toArray, List.set_cons_zero, List.set_cons_succ]
          refine rn_take (i := 10) rfl (by kernel_rfl) (by kernel_rfl) (by kernel_rfl) (fun _ _ _ h => h) (by rfl) (v := ?_) ?_ ?_
          rotate_left 1
          · intro W hW; go_simp; all_goals with_reducible rfl
          simp only [Act.put, List.setIfInBounds_toArray, List.set_cons_zero, List.set_cons_succ]
          refine rn_take (i := 11) rfl (by kernel_rfl) (by kernel_rfl) (by kernel_rfl) (fun _ _ _ h => h) (by rfl) (v := ?_) ?_ ?_
          rotate_left 1
          · intro W hW; go_simp; all_goals with_reducible rfl
          simp only [Act.put, List.setIfInBounds_toArray, List.set_cons_zero, List.set_cons_succ]
          refine rn_take (i := 12) rfl (by kernel_rfl) (by kernel_rfl) (by kernel_rfl) (fun _ _ _ h => h) (by rfl) (v := ?_) ?_ ?_
          rotate_left 1
          · intro W hW; go_simp; all_goals with_reducible rfl
          simp only [Act.put, List.setIfInBounds_toArray, List.set_cons_zero, List.set_cons_succ]
          have hA2 := fun W (hW : Sn w.heap.size w1.drew W) => cell_below Hc2.out (Hbd.out.trans hW)
          refine rn_take (i := 13) rfl (by kernel_rfl) (by kernel_rfl) (by kernel_rfl) (fun _ _ _ h => h) (by rfl) (v := ?_) ?_ ?_
          rotate_left 1
          · intro W hW; go_simp; all_goals with_reducible rfl
          simp only [Act.put, List.setIfInBounds_toArray, List.set_cons_zero, List.set_cons_succ]
          refine rn_take (i := 14) rfl (by kernel_rfl) (by kernel_rfl) (by kernel_rfl) (fun _ _ _ h => h) (by rfl) (v := ?_) ?_ ?_
          rotate_left 1
          · intro W hW; go_simp; all_goals with_reducible rfl
          simp only [Act.put, List.setIfInBounds_toArray, List.set_cons_zero, List.set_cons_succ]
          refine rn_take (i := 15) rfl (by kernel_rfl) (by kernel_rfl) (by kernel_rfl) (fun _ _ _ h => h) (by rfl) (v := ?_) ?_ ?_
          rotate_left 1
          · intro W hW; go_simp; all_goals with_reducible rfl
          simp only [Act.put, List.setIfInBounds_toArray, List.set_cons_zero, List.set_cons_succ]
          rw [hwl.out]
          refine rn_call (i := 7) (by kernel_rfl) rfl (by rfl) (f := 108) (args := ?_) ?_ ?_
          rotate_left 1
          · go_simp; all_goals with_reducible rfl
          refine (HP.out w1.drew).mono ?_; rintro e w7 ⟨v7, rfl, hb7, hs7⟩
          have Ho7 := Lib.hid (own_below Hod.out hb7); have hb7 := hb7.mono Hbd.out.size; have Hb7 := Lib.hid (Hbd.out.trans hb7); have Hs7 := Lib.hid hs7; have Hz7 := Lib.hid Hb7.out.size; clear hA hA2 hs7
          refine ⟨_, rfl, hb7, ?_⟩
          simp only [Act.put, List.setIfInBounds_toArray, List.set_cons_zero, List.set_cons_succ]
          refine rn_append (i := 8) (by kernel_rfl) rfl (by rfl) _ _ _ rfl el_u8 (by rfl) Ho7.out (by rfl) Hs7.out (by have := Hlen.out; omega) Hz7.out ?_; intro b8 X8 ho8 hg8 hb8; have Hb8 := Lib.hid (Hb7.out.trans hb8); have Ho8 := Lib.hid ho8; clear hg8 hb8 ho8
          simp only [Act.put, List.setIfInBounds_toArray, List.set_cons_zero, List.set_cons_succ]
          refine rn_call (i := 16) (by kernel_rfl) rfl (by rfl) (f := 108) (args := ?_) ?_ ?_
          rotate_left 1
          · go_simp; all_goals with_reducible rfl
          refine (HP2.out X8).mono ?_; rintro e w16 ⟨v16, rfl, hb16, hs16⟩
          have Ho16 := Lib.hid (own_below Ho8.out hb16); have hb16 := hb16.mono Hb8.out.size; have Hb16 := Lib.hid (Hb8.out.trans hb16); have Hs16 := Lib.hid hs16; have Hz16 := Lib.hid Hb16.out.size; clear hs16
          refine ⟨_, rfl, hb16, ?_⟩
          simp only [Act.put, List.setIfInBounds_toArray, List.set_cons_zero, List.set_cons_succ]
          refine rn_append (i := 17) (by kernel_rfl) rfl (by rfl) _ _ _ rfl el_u8 (by rfl) Ho16.out (by rfl) Hs16.out (by have := Hlen.out; omega) Hz16.out ?_; intro b17 X17 ho17 hg17 hb17; have Hb17 := Lib.hid (Hb16.out.trans hb17); have Ho17 := Lib.hid ho17; clear hg17 hb17 ho17
          simp only [Act.put, List.setIfInBounds_toArray, List.set_cons_zero, List.set_cons_succ]
          refine rn_take (i := 18) rfl (by kernel_rfl) (by kernel_rfl) (by kernel_rfl) (fun _ _ _ h => h) (by rfl) (v := ?_) ?_ ?_
          rotate_left 1
          · intro W hW; go_simp; all_goals with_reducible rfl
          simp only [Act.put, List.setIfInBounds_toArray, List.set_cons_zero, List.set_cons_succ]
          refine rn_done (by kernel_rfl) ?_
          have Hz17 := Lib.hid Hb17.out.size
          have Hsv := Lib.hid (Huw.out.below Hb17.out).src
          have e1 := cell_below Hc1.out Hb17.out
          have e2 := cell_below Hc2.out Hb17.out
          go_wp2_with (at_builtin; go_must (refine wpList_append_from rfl _ _ _ rfl w.heap.size el_u8 rfl Ho17.out rfl Hsv.out (by have := Hlen.out; omega) Hz17.out ?_); intro b5 X5 ho5 hg5 hb5)
          refine ⟨⟨k + 1, hlt, by simp, take_ok Hget.out Hok.out Hq.out, Hb17.out.trans hb5, ?_⟩, by simp [intOf]; omega⟩
          rw [Hstep.out, Hbytes.out, List.length_append, List.map_append, List.length_append, List.length_append, be_len, be_len, List.map_append, List.map_append]
          simp only [Nat.add_assoc, List.append_assoc] at ho5 ⊢
          exact ho5
        | false =>
          rw [hq] at hm
          have Hm := Lib.hid hm
          have Hcode : Hid (tagsCode l = 50) := by
            unfold tagsCode; rw [if_neg h64, if_neg (by rw [not_ok Hget.out hq]; decide)]; exact rfl
          clear hm hq
          go_wp2_with (go_at_call 131; refine Hm.out.mono ?_; rintro e w1 ⟨rfl, hb1⟩)
          refine bodyPost_ret (v := .tuple #[.slice none 0 0, .int .i64 50]) (by simp [results, Tryz.results80, go_sem]) rfl ⟨_, by rw [Hcode.out], Hb.out.trans (hb1.mono Hb.out.size), ?_⟩
          unfold tagsOut; rw [Hcode.out]; exact .nil _
      · obtain rfl : k = l.length := by omega
        rw [List.take_length] at hok ho
        have hsum := Nat.le_trans (tagsBytes_le hok) (Nat.mul_le_mul_right 65539 (show l.length ≤ 64 by omega))
        have Hb := Lib.hid hb
        have Hok := Lib.hid hok
        have Ho := Lib.hid (own_bytes ho)
        obtain ⟨S, hS⟩ : ∃ S, S = (tagsBytes l).length := ⟨_, rfl⟩
        rw [← hS] at hsum ho
        have HS := Lib.hid hS
        obtain ⟨ar, cr, rfl, hsl, -⟩ : ∃ a c, u4 = .slice a S c ∧ S ≤ c ∧ True := by
          obtain ⟨a, c, h1, h2, _⟩ := Ho.out.shape
          exact ⟨a, c, by rw [h1, hS], by omega, trivial⟩
        clear hS hok hb ho
        by_cases hbig : 1494 < S
        · have hbig' : (1494 : Int) < S := by omega
          have Hcode : Hid (tagsCode l = 2) := by
            unfold tagsCode; rw [if_neg h64, if_pos Hok.out, if_pos (by rw [← HS.out]; exact hbig)]; exact rfl
          go_wp2
          refine bodyPost_ret (v := .tuple #[.slice none 0 0, .int .i64 2]) (by simp [results, Tryz.results80, go_sem]) rfl ⟨_, by rw [Hcode.out], Hb.out, ?_⟩
          unfold tagsOut; rw [Hcode.out]; exact .nil _
        · have hbig' : (S : Int) ≤ 1494 := by omega
          have Hcode : Hid (tagsCode l = 0) := by
            unfold tagsCode; rw [if_neg h64, if_pos Hok.out, if_neg (by rw [← HS.out]; exact hbig)]; exact rfl
          go_wp2
          refine bodyPost_ret (v := .tuple #[.slice ar S cr, .int .i64 0]) (by simp [results, Tryz.results80, go_sem]) rfl ⟨_, by rw [Hcode.out], Hb.out, ?_⟩
          unfold tagsOut; rw [Hcode.out, if_pos rfl]; exact Ho.out
end Go.Proofs.YtokiedeiamlnlaaGreat
