/- MpC: texts of this claim, one behind the other: Ky2. No condition. -/
import Derived.Test.YtomblhnchdokmaaGreatDoorMpB
namespace Go.Proofs.YtomblhnchdokmaaGreatDoor
set_option linter.unusedSimpArgs false
set_option linter.unusedVariables false
open Go.RowKit
set_option maxRecDepth 100000
noncomputable section
-- NATLE
-- DEFS
/-- settings that may be -/
def isB (nm : ByteArray) (sv : D) (m0 m1 m2 m3 m4 m5 : Int) (sc : D) (tk a1 a2 o1 o2 lo hi qu ba sz : Int) (rs : D) (l1 l2 l3 l4 l5 l6 l7 ow id sh wk rm : Int) : Bool := (rateB a1 a2 && rateB o1 o2) && (idB lo hi qu && (poolB ba sz rs && (!(lnE l1 l2 l3 l4 l5 l6 l7 ow != 0) && (!(ckiE sc tk != 0) && (!decide (64 < (nm.size : Int)) && (srvB sv && (!(knE m0 m1 m2 m3 m4 m5 != 4) && (!hasD ba sz (ownD sz rs) ow && (decide (1 ≤ id) && (decide (id ≤ 1048576) && (decide (1 ≤ sh) && (decide (sh ≤ 64) && (decide (1 ≤ wk) && (decide (wk ≤ 16) && (decide (1 ≤ rm) && decide (rm ≤ 64))))))))))))))))
def plO (nm : ByteArray) (sv : D) (m0 m1 m2 m3 m4 m5 : Int) (sc : D) (tk a1 a2 o1 o2 lo hi qu ba sz : Int) (rs : D) (l1 l2 l3 l4 l5 l6 l7 ow id sh wk rm : Int) : Hp := ⟨[(0, cfA nm sv m0 m1 m2 m3 m4 m5 sc tk a1 a2 o1 o2 lo hi qu ba sz rs l1 l2 l3 l4 l5 l6 l7 ow id sh wk rm ++ [ik 0, .sc false (.bool false), .any, .ptr 1 0, .ptr 3 0, .mp 6]), (1, [ik lo, ik qu, .rsl false 2 1 (hi - lo + 1).toNat, .sl false inS (growD (.l []) (idE lo) (idN lo hi)) none, ik 0, .sc false (.slice none 0 0), ik 0]), (2, [.rw [.bool] (repD (hi - lo + 1).toNat (.t [.kb false]))]), (3, [ik ba, ik sz, .rsl false 4 1 (nwN sz), .rsl false 5 1 (nwN sz), ik (sz - (rs.len : Int)), .sc false (.bool true)]), (4, [.rw [.int .u64] (ownD sz rs)]), (5, [.rw [.int .u64] (ownD sz rs)]), (6, [.tup [ik 0]])], 7, [], 0, 1000, 1000⟩
def FPl3 {β : Type} (Q : (l1 l2 l3 l4 l5 l6 l7 ow id sh wk rm : Int) → RT β) : List AV → RT β
  | [.sc false (.int .i64 l1), .sc false (.int .i64 l2), .sc false (.int .i64 l3), .sc false (.int .i64 l4), .sc false (.int .i64 l5), .sc false (.int .i64 l6), .sc false (.int .i64 l7), .sc false (.int .i64 ow), .sc false (.int .i64 id), .sc false (.int .i64 sh), .sc false (.int .i64 wk), .sc false (.int .i64 rm)] => Q l1 l2 l3 l4 l5 l6 l7 ow id sh wk rm
  | _ => .bad 682
def FPl2 {β : Type} (Q : (tk a1 a2 o1 o2 lo hi qu ba sz : Int) → (rs : D) → (l1 l2 l3 l4 l5 l6 l7 ow id sh wk rm : Int) → RT β) : List AV → RT β
  | .sc false (.int .i64 tk) :: .sc false (.int .i64 a1) :: .sc false (.int .i64 a2) :: .sc false (.int .i64 o1) :: .sc false (.int .i64 o2) :: .sc false (.int .i64 lo) :: .sc false (.int .i64 hi) :: .sc false (.int .i64 qu) :: .sc false (.int .i64 ba) :: .sc false (.int .i64 sz) :: .sl false [.int .i64] rs none :: r => FPl3 (Q tk a1 a2 o1 o2 lo hi qu ba sz rs) r
  | _ => .bad 681
def cfT {β : Type} (Q : (nm : ByteArray) → (sv : D) → (m0 m1 m2 m3 m4 m5 : Int) → (sc : D) → (tk a1 a2 o1 o2 lo hi qu ba sz : Int) → (rs : D) → (l1 l2 l3 l4 l5 l6 l7 ow id sh wk rm : Int) → RT β) : List AV → RT β
  | .sc false (.string nm) :: .sl false [.str] sv none :: .sc false (.int .u8 m0) :: .sc false (.int .u8 m1) :: .sc false (.int .u8 m2) :: .sc false (.int .u8 m3) :: .sc false (.int .u8 m4) :: .sc false (.int .u8 m5) :: .sl false [.int .u8] sc none :: r => FPl2 (Q nm sv m0 m1 m2 m3 m4 m5 sc) r
  | _ => .bad 683
theorem cfT_inv {β : Type} {Q : (nm : ByteArray) → (sv : D) → (m0 m1 m2 m3 m4 m5 : Int) → (sc : D) → (tk a1 a2 o1 o2 lo hi qu ba sz : Int) → (rs : D) → (l1 l2 l3 l4 l5 l6 l7 ow id sh wk rm : Int) → RT β} {cs : List AV} {K : β → Prop} (H : (cfT Q cs).holds K) : ∃ nm sv m0 m1 m2 m3 m4 m5 sc tk a1 a2 o1 o2 lo hi qu ba sz rs l1 l2 l3 l4 l5 l6 l7 ow id sh wk rm, cs = cfA nm sv m0 m1 m2 m3 m4 m5 sc tk a1 a2 o1 o2 lo hi qu ba sz rs l1 l2 l3 l4 l5 l6 l7 ow id sh wk rm ∧ (Q nm sv m0 m1 m2 m3 m4 m5 sc tk a1 a2 o1 o2 lo hi qu ba sz rs l1 l2 l3 l4 l5 l6 l7 ow id sh wk rm).holds K := by
  unfold cfT at H
  split at H
  · unfold FPl2 at H
    split at H
    · unfold FPl3 at H
      split at H
      · exact ⟨_, _, _, _, _, _, _, _, _, _, _, _, _, _, _, _, _, _, _, _, _, _, _, _, _, _, _, _, _, _, _, _, rfl, H⟩
      · exact H.elim
    · exact H.elim
  · exact H.elim
def FPl : Spec := fun args h => match args, h with
  | [.agg cs], ⟨[], 0, [], 0, 0, 0⟩ => cfT (fun nm sv m0 m1 m2 m3 m4 m5 sc tk a1 a2 o1 o2 lo hi qu ba sz rs l1 l2 l3 l4 l5 l6 l7 ow id sh wk rm => .br (isB nm sv m0 m1 m2 m3 m4 m5 sc tk a1 a2 o1 o2 lo hi qu ba sz rs l1 l2 l3 l4 l5 l6 l7 ow id sh wk rm) (.ok (.tup [.ptr 0 0, ik 0], plO nm sv m0 m1 m2 m3 m4 m5 sc tk a1 a2 o1 o2 lo hi qu ba sz rs l1 l2 l3 l4 l5 l6 l7 ow id sh wk rm)) (.ok (.tup [.sc true (.pointer none), ik 230], ⟨[], 7, [], 0, 1000, 1000⟩))) cs
  | _, _ => .bad 680
-- END
theorem ownD_len {sz : Int} (rs : D) (h : 0 ≤ sz ∧ sz ≤ 65536) : (ownD sz rs).len = nwN sz := by
  have := nw_le h
  unfold ownD
  rw [clrR_len, ownR_len, repD_len (by unfold maxLen; omega)]
set_option maxHeartbeats 4000000 in
theorem pln_pre : SoundF Tryz.prog 6 FPl := by
  refine obj_inS (gc_ok (sp := evF Tryz.prog (gam (plnG Tryz.prog)) (lam []) 100 6) (evF_ok mixed (gam_ok plnG_ok) (lam_ok (P := Tryz.prog) (l := []) trivial) 100 _)) (p := 7) fun args h K H => ?_
  unfold FPl at H
  split at H
  · obtain ⟨nm, sv, m0, m1, m2, m3, m4, m5, sc, tk, a1, a2, o1, o2, lo, hi, qu, ba, sz, rs, l1, l2, l3, l4, l5, l6, l7, ow, id, sh, wk, rm, rfl, H⟩ := cfT_inv H
    refine ⟨rfl, ?_⟩
    obtain ⟨H1, H2⟩ := H
    have no : ∀ {k1 k2 : Bool}, isB nm sv m0 m1 m2 m3 m4 m5 sc tk a1 a2 o1 o2 lo hi qu ba sz rs l1 l2 l3 l4 l5 l6 l7 ow id sh wk rm = false → ∃ y, Le (.tup [.sc k1 (.pointer none), .sc k2 (.int .i64 230)]) y ∧ K (y, ⟨[], 7, [], 0, 1000, 1000⟩) := fun h => ⟨.tup [.sc true (.pointer none), ik 230], le_tup (leL_cons (fun _ _ h => h) (leL_cons (le_int rfl) leL_nil)), H2 h⟩
    have yes : ∀ {k2 : Bool}, isB nm sv m0 m1 m2 m3 m4 m5 sc tk a1 a2 o1 o2 lo hi qu ba sz rs l1 l2 l3 l4 l5 l6 l7 ow id sh wk rm = true → ∃ y, Le (.tup [.ptr 0 0, .sc k2 (.int .i64 0)]) y ∧ K (y, plO nm sv m0 m1 m2 m3 m4 m5 sc tk a1 a2 o1 o2 lo hi qu ba sz rs l1 l2 l3 l4 l5 l6 l7 ow id sh wk rm) := fun h => ⟨.tup [.ptr 0 0, ik 0], le_tup (leL_cons (Le.refl _) (leL_cons (le_int rfl) leL_nil)), H1 h⟩
    clear H1 H2
    unfold isB at no yes
    rw [show (⟨[], 0, [], 0, 0, 0⟩ : Hp) = hp0 from rfl, pln_tree]
    refine ⟨fun c1 => ⟨fun c2 => ⟨fun c3 => ?_, fun c3 => ?_⟩, fun c2 => ⟨fun c3 => ?_, fun c3 => ?_⟩⟩, fun c1 => ⟨fun c2 => ⟨fun c3 => ?_, fun c3 => ?_⟩, fun c2 => ⟨fun c3 => ?_, fun c3 => ?_⟩⟩⟩
    all_goals rw [c1, c2, c3] at no yes
    all_goals simp only [Bool.true_and, Bool.false_and] at no yes
    · refine ⟨fun h => Bool.noConfusion h, fun _ => ⟨fun h => Bool.noConfusion h, fun _ => ⟨fun h => Bool.noConfusion h, fun _ => ?_⟩⟩⟩
      obtain ⟨⟨q1, q2, q3, q4, q5⟩, _⟩ := poolB_of c3
      have hl := ownD_len rs ⟨q3, q4⟩
      have hw := nw_le ⟨q3, q4⟩
      refine ⟨fun h => no (by rw [h]; rfl), fun h4 => ⟨fun h => no (by rw [h4, h]; rfl), fun h5 => ⟨fun h => no (by rw [h4, h5, h]; rfl), fun h6 => ⟨fun h => no (by rw [Bool.not_eq_true'] at h; rw [h4, h5, h6, h]; rfl), fun h7 => ⟨fun h => no (by rw [Bool.not_eq_false'] at h7; rw [h4, h5, h6, h7, h]; rfl), fun h8 => ?_⟩⟩⟩⟩⟩
      rw [Bool.not_eq_false'] at h7
      rw [h4, h5, h6, h7, h8] at no yes
      simp only [Bool.true_and, Bool.not_false] at no yes
      refine ⟨fun _ => ⟨fun h => no (by rw [h]; rfl), fun h9 => ?_⟩, fun h => absurd (by rw [hl]; omega) (of_decide_eq_false h)⟩
      rw [h9] at no yes
      simp only [Bool.true_and, Bool.not_false] at no yes
      refine ⟨fun i1 => ⟨fun h => no ?_, fun i2 => ⟨fun i3 => ⟨fun h => no ?_, fun i4 => ⟨fun i5 => ⟨fun h => no ?_, fun i6 => ⟨fun i7 => ⟨fun h => no ?_, fun i8 => yes ?_⟩, fun h => no ?_⟩⟩, fun h => no ?_⟩⟩, fun h => no ?_⟩⟩, fun h => no ?_⟩
      all_goals clear no yes H c1 c2 c3 h4 h5 h6 h7 h8 h9
      all_goals simp only [Bool.and_eq_true, Bool.and_eq_false_iff, Bool.not_eq_true', Bool.not_eq_false', decide_eq_true_eq, decide_eq_false_iff_not] at *
      all_goals omega
    all_goals first
      | exact ⟨fun _ => no (by first | rfl | trivial), fun h => Bool.noConfusion h⟩
      | exact ⟨fun h => Bool.noConfusion h, fun _ => ⟨fun _ => no (by first | rfl | trivial), fun h => Bool.noConfusion h⟩⟩
      | exact ⟨fun h => Bool.noConfusion h, fun _ => ⟨fun h => Bool.noConfusion h, fun _ => ⟨fun _ => no (by first | rfl | trivial), fun h => Bool.noConfusion h⟩⟩⟩
  · exact H.elim
theorem pln_soundF : SoundF Tryz.prog 6 (newT FPl) := newT_ok pln_pre
end
end Go.Proofs.YtomblhnchdokmaaGreatDoor
