/- MpZ: texts of this claim, one behind the other: We Wg Kz9. No condition. -/
import Derived.Test.YtomblhnchdokmaaGreatDoorMpX
import Derived.Test.YtomblhnchdokmaaGreatDoorMqa
import Derived.Test.YtomblhnchdokmaaGreatDoorMqb
import Derived.Test.YtomblhnchdokmaaGreatDoorMqc
import Derived.Test.YtomblhnchdokmaaGreatDoorMqd
import Derived.Test.YtomblhnchdokmaaGreatDoorMpY
import Derived.Test.YtomblhnchdokmaaGreatDoorMpQ
namespace Go.Proofs.YtomblhnchdokmaaGreatDoor
set_option linter.unusedSimpArgs false
set_option linter.unusedVariables false
open Go.RowKit
set_option maxRecDepth 100000
noncomputable section
theorem mixedW : Fit Tryz.prog := ⟨by kernel_rfl, by kernel_rfl⟩
theorem shG_ok : GamL Tryz.prog (shG Tryz.prog) := by
  have ev : ∀ f, SoundF Tryz.prog f (evF Tryz.prog (gam []) (lam []) 100 f) := fun f => evF_ok mixedW (gam_ok (l := []) trivial) (lam_ok (l := []) trivial) 100 f
  exact ⟨memo_ok (memo_ok (memo_ok (memo_ok (memo_ok (memo_ok (memo_ok (memo_ok (ev _) (ev _) sP7) (ev _) sP6) (ev _) sP5) (ev _) sP4) (ev _) sP3) (ev _) sP2) (ev _) sP1) (ev _) sP0,
    memo_ok (memo_ok (memo_ok (memo_ok (memo_ok (memo_ok (memo_ok (memo_ok (ev _) (ev _) sR7) (ev _) sR6) (ev _) sR5) (ev _) sR4) (ev _) sR3) (ev _) sR2) (ev _) sR1) (ev _) sR0, trivial⟩
end
end Go.Proofs.YtomblhnchdokmaaGreatDoor

namespace Go.Proofs.YtomblhnchdokmaaGreatDoor
set_option linter.unusedSimpArgs false
set_option linter.unusedVariables false
open Go.RowKit
set_option maxRecDepth 100000
noncomputable section
theorem evk {G : List (FuncId × Spec)} (hG : GamL Tryz.prog G) (n : Nat) (f : FuncId) : SoundF Tryz.prog f (evF Tryz.prog (gam G) (lam []) n f) := evF_ok mixedW (gam_ok hG) (lam_ok (l := []) trivial) n f
theorem kn_ok {G : List (FuncId × Spec)} (hG : GamL Tryz.prog G) (f : FuncId) : SoundF Tryz.prog f (kn Tryz.prog G f).2 := known_ok (evk hG 100 f)
theorem me_ok {G G' : List (FuncId × Spec)} (hG : GamL Tryz.prog G) (hG' : GamL Tryz.prog G') {n : Nat} {f : FuncId} {k : List AV} {r : AV} (hk : okV (treeR (evF Tryz.prog (gam G') (lam []) n f) k) = some r) : SoundF Tryz.prog f (me Tryz.prog G f k r).2 := memo_ok (evk hG 100 f) (evk hG' n f) hk
theorem grG_ok : GamL Tryz.prog (grG Tryz.prog) := ⟨grow_soundF, trivial⟩
theorem clG_ok : GamL Tryz.prog clG := ⟨cloneRow_soundF, trivial⟩
theorem niG_ok : GamL Tryz.prog [] := trivial
theorem rsG_ok : GamL Tryz.prog (rsG Tryz.prog) := by
  have e := evk shG_ok 1000 221
  exact ⟨memo_ok (memo_ok (memo_ok (memo_ok (evk shG_ok 100 _) e su3) e su2) e su1) e su0, shG_ok⟩
theorem paG_ok : GamL Tryz.prog (paG Tryz.prog) := ⟨kn_ok niG_ok _, kn_ok grG_ok _, kn_ok niG_ok _, kn_ok clG_ok _, me_ok shG_ok shG_ok ckP, me_ok shG_ok rsG_ok ckR, grG_ok⟩
theorem pbG_ok : GamL Tryz.prog (pbG Tryz.prog) := by
  have e := evk paG_ok 1000 23
  exact ⟨memo_ok (memo_ok (evk paG_ok 100 _) e ln6) e ln1, merge_ok (evk paG_ok 100 _), paG_ok⟩
theorem peG_ok : GamL Tryz.prog (peG Tryz.prog) :=
  ⟨kn_ok pbG_ok _, kn_ok pbG_ok _, kn_ok pbG_ok _, kn_ok pbG_ok _, kn_ok pbG_ok _, kn_ok pbG_ok _, kn_ok pbG_ok _, kn_ok pbG_ok _, kn_ok pbG_ok _, kn_ok niG_ok _, pbG_ok⟩
theorem pcG_ok : GamL Tryz.prog (pcG Tryz.prog) :=
  ⟨me_ok pbG_ok paG_ok ls, me_ok pbG_ok paG_ok dc, me_ok pbG_ok paG_ok ak, me_ok pbG_ok pbG_ok ckc, me_ok pbG_ok paG_ok cf, peG_ok⟩
theorem awk_ok : SoundF Tryz.prog 14 (me Tryz.prog (pcG Tryz.prog) 14 awkK awkR).2 := me_ok pcG_ok pcG_ok awk
end
end Go.Proofs.YtomblhnchdokmaaGreatDoor

namespace Go.Proofs.YtomblhnchdokmaaGreatDoor
set_option linter.unusedSimpArgs false
set_option linter.unusedVariables false
open Go.RowKit
set_option maxRecDepth 100000
noncomputable section
theorem cons_of_len {α : Type} {l : List α} {n : Nat} (h : l.length = n + 1) : ∃ x t, l = x :: t ∧ t.length = n := by
  cases l with
  | nil => cases h
  | cons x t => exact ⟨x, t, rfl, Nat.succ.inj h⟩
theorem list32 {α : Type} {l : List α} (h : l.length = 32) : ∃ x0 x1 x2 x3 x4 x5 x6 x7 x8 x9 x10 x11 x12 x13 x14 x15 x16 x17 x18 x19 x20 x21 x22 x23 x24 x25 x26 x27 x28 x29 x30 x31, l = [x0, x1, x2, x3, x4, x5, x6, x7, x8, x9, x10, x11, x12, x13, x14, x15, x16, x17, x18, x19, x20, x21, x22, x23, x24, x25, x26, x27, x28, x29, x30, x31] := by
  obtain ⟨x0, t0, rfl, h1⟩ := cons_of_len h
  obtain ⟨x1, t1, rfl, h2⟩ := cons_of_len h1
  obtain ⟨x2, t2, rfl, h3⟩ := cons_of_len h2
  obtain ⟨x3, t3, rfl, h4⟩ := cons_of_len h3
  obtain ⟨x4, t4, rfl, h5⟩ := cons_of_len h4
  obtain ⟨x5, t5, rfl, h6⟩ := cons_of_len h5
  obtain ⟨x6, t6, rfl, h7⟩ := cons_of_len h6
  obtain ⟨x7, t7, rfl, h8⟩ := cons_of_len h7
  obtain ⟨x8, t8, rfl, h9⟩ := cons_of_len h8
  obtain ⟨x9, t9, rfl, h10⟩ := cons_of_len h9
  obtain ⟨x10, t10, rfl, h11⟩ := cons_of_len h10
  obtain ⟨x11, t11, rfl, h12⟩ := cons_of_len h11
  obtain ⟨x12, t12, rfl, h13⟩ := cons_of_len h12
  obtain ⟨x13, t13, rfl, h14⟩ := cons_of_len h13
  obtain ⟨x14, t14, rfl, h15⟩ := cons_of_len h14
  obtain ⟨x15, t15, rfl, h16⟩ := cons_of_len h15
  obtain ⟨x16, t16, rfl, h17⟩ := cons_of_len h16
  obtain ⟨x17, t17, rfl, h18⟩ := cons_of_len h17
  obtain ⟨x18, t18, rfl, h19⟩ := cons_of_len h18
  obtain ⟨x19, t19, rfl, h20⟩ := cons_of_len h19
  obtain ⟨x20, t20, rfl, h21⟩ := cons_of_len h20
  obtain ⟨x21, t21, rfl, h22⟩ := cons_of_len h21
  obtain ⟨x22, t22, rfl, h23⟩ := cons_of_len h22
  obtain ⟨x23, t23, rfl, h24⟩ := cons_of_len h23
  obtain ⟨x24, t24, rfl, h25⟩ := cons_of_len h24
  obtain ⟨x25, t25, rfl, h26⟩ := cons_of_len h25
  obtain ⟨x26, t26, rfl, h27⟩ := cons_of_len h26
  obtain ⟨x27, t27, rfl, h28⟩ := cons_of_len h27
  obtain ⟨x28, t28, rfl, h29⟩ := cons_of_len h28
  obtain ⟨x29, t29, rfl, h30⟩ := cons_of_len h29
  obtain ⟨x30, t30, rfl, h31⟩ := cons_of_len h30
  obtain ⟨x31, t31, rfl, h32⟩ := cons_of_len h31
  obtain rfl := List.length_eq_zero_iff.1 h32
  exact ⟨_, _, _, _, _, _, _, _, _, _, _, _, _, _, _, _, _, _, _, _, _, _, _, _, _, _, _, _, _, _, _, _, rfl⟩


theorem lig_soundF : SoundF Tryz.prog 5 (pureS Tryz.prog 5 FLig) := by
  refine pure_in mixed (gs := []) trivial ligLs_ok _ 100 fun args K ho H => ?_
  unfold FLig at H
  split at H
  · obtain ⟨nm, sv, m0, m1, m2, m3, m4, m5, sc, tk, a1, a2, o1, o2, lo, hi, qu, ba, sz, rs, l1, l2, l3, l4, l5, l6, l7, ow, id, sh, wk, rm, rfl, H2⟩ := cfT_inv H
    rw [lig_tree]
    have h1 := imin_bnd nm.size 70 (by decide)
    have h3 := imin_bnd sc.len 70 (by decide)
    have h4 := imin_bnd rs.len 300 (by decide)
    refine ⟨fun _ => ⟨fun _ => ⟨fun _ => ⟨fun _ => ?_, fun h => absurd ⟨Int.le_refl _, h4.1, h4.2, Int.le_refl _⟩ (of_decide_eq_false h)⟩, fun h => absurd ⟨Int.le_refl _, h3.1, h3.2, Int.le_refl _⟩ (of_decide_eq_false h)⟩, fun h => Bool.noConfusion h⟩, fun h => absurd ⟨Int.le_refl _, h1.1, h1.2⟩ (of_decide_eq_false h)⟩
    exact ⟨_, Le.refl _, H2⟩
  · exact H.elim
theorem pfC_ok : GamL Tryz.prog (pfC Tryz.prog) := ⟨args0S_ok pln_soundF, trivial⟩
theorem pce_soundF : SoundF Tryz.prog 8 (pureS Tryz.prog 8 FCk) := by
  refine pure_in mixed pfC_ok (ls := []) trivial _ 100 fun args K ho H => ?_
  unfold FCk at H
  split at H
  · obtain ⟨nm, sv, m0, m1, m2, m3, m4, m5, sc, tk, a1, a2, o1, o2, lo, hi, qu, ba, sz, rs, l1, l2, l3, l4, l5, l6, l7, ow, id, sh, wk, rm, rfl, H2⟩ := cfT_inv H
    clear H
    rw [pce_tree]
    generalize isB nm sv m0 m1 m2 m3 m4 m5 sc tk a1 a2 o1 o2 lo hi qu ba sz rs l1 l2 l3 l4 l5 l6 l7 ow id sh wk rm = q at H2 ⊢
    cases q
    · exact ⟨fun h => Bool.noConfusion h, fun _ => ⟨_, le_int rfl, H2⟩⟩
    · exact ⟨fun _ => ⟨_, le_int rfl, H2⟩, fun h => Bool.noConfusion h⟩
  · exact H.elim
theorem pfG_ok : GamL Tryz.prog (pfG Tryz.prog) := ⟨lig_soundF, awk_ok, ris_soundF, pce_soundF, ifr_soundF, pfC_ok⟩
theorem pfm_soundF : SoundF Tryz.prog 3 (evF Tryz.prog (gam (pfG Tryz.prog)) (lam []) 100 3) :=
  evF_ok mixed (gam_ok pfG_ok) (lam_ok (P := Tryz.prog) (l := []) trivial) 100 _
theorem isB_facts {nm : ByteArray} {sv : D} {m0 m1 m2 m3 m4 m5 : Int} {sc : D} {tk a1 a2 o1 o2 lo hi qu ba sz : Int} {rs : D} {l1 l2 l3 l4 l5 l6 l7 ow id sh wk rm : Int} (h : isB nm sv m0 m1 m2 m3 m4 m5 sc tk a1 a2 o1 o2 lo hi qu ba sz rs l1 l2 l3 l4 l5 l6 l7 ow id sh wk rm = true) : (1 ≤ lo ∧ hi ≤ 65534 ∧ lo ≤ hi) ∧ (0 ≤ sz ∧ sz ≤ 65536) := by
  unfold isB at h
  simp only [Bool.and_eq_true] at h
  obtain ⟨⟨q1, q2, q3, q4, q5⟩, _⟩ := poolB_of h.2.2.1
  have h2 := of_decide_eq_true h.2.1
  exact ⟨⟨h2.1, h2.2.1, h2.2.2.1⟩, q3, q4⟩
set_option maxHeartbeats 4000000 in
theorem pfm_true (nm : ByteArray) (sv : D) (m0 m1 m2 m3 m4 m5 : Int) (sc : D) (tk a1 a2 o1 o2 lo hi qu ba sz : Int) (rs : D) (l1 l2 l3 l4 l5 l6 l7 ow id sh wk rm : Int)
    (hb : (0 ≤ m0 ∧ m0 ≤ 255) ∧ (0 ≤ m1 ∧ m1 ≤ 255) ∧ (0 ≤ m2 ∧ m2 ≤ 255) ∧ (0 ≤ m3 ∧ m3 ≤ 255) ∧ (0 ≤ m4 ∧ m4 ≤ 255) ∧ (0 ≤ m5 ∧ m5 ≤ 255)) :
    Tru (treeF (evF Tryz.prog (gam (pfG Tryz.prog)) (lam []) 100 3) [.agg (cfA nm sv m0 m1 m2 m3 m4 m5 sc tk a1 a2 o1 o2 lo hi qu ba sz rs l1 l2 l3 l4 l5 l6 l7 ow id sh wk rm)]) := by
  rw [pfm_tree]
  have hf : isB (cutS nm) (svC sv) m0 m1 m2 m3 m4 m5 (cutD sc 70) tk a1 a2 o1 o2 lo hi qu ba sz (cutD rs 300) l1 l2 l3 l4 l5 l6 l7 ow id sh wk rm = true → (1 ≤ lo ∧ hi ≤ 65534 ∧ lo ≤ hi) ∧ (0 ≤ sz ∧ sz ≤ 65536) := fun h => isB_facts h
  constructor
  generalize isB _ _ _ _ _ _ _ _ _ _ _ _ _ _ _ _ _ _ _ _ _ _ _ _ _ _ _ _ _ _ _ _ = q at hf ⊢
  have hL : Le (.sc true (.bool true)) (.sc false (.bool true)) := le_bool rfl
  have hd := decide_eq_true hb
  cases q
  · clear hf
    refine ⟨fun h => Bool.noConfusion h, fun _ => ⟨fun _ => ?_, fun h => absurd (hd.symm.trans h) (by decide)⟩⟩
    repeat' first
      | exact hL
      | (refine ⟨fun h => ?_, fun h => ?_⟩ <;> first | exact absurd h (by decide) | skip)
  · obtain ⟨⟨k1, k2, k3⟩, k4, k5⟩ := hf rfl
    have hm := (cutD rs 300).len_le
    unfold maxLen at hm
    have e1 : decide (0 < Int.toNat (hi - lo + 1) ∧ (0 : Int) ≤ 0 ∧ (0 : Int) ≤ 1099511627776) = true := decide_eq_true ⟨by omega, by omega, by omega⟩
    have hg : (growD (.l []) (idE lo) (idN lo hi)).len = idN lo hi := by
      have hN : (idN lo hi : Int) = hi - lo + 1 := by unfold idN; omega
      rw [growD_len (by rw [nil_len]; unfold maxLen; omega), nil_len]; omega
    have e2 : ((((growD (.l []) (idE lo) (idN lo hi)).len : Nat) : Int) == IntKind.wrap IntKind.i64 (IntKind.wrap IntKind.i64 (hi - lo) + 1)) = true := by
      rw [hg, wrap_i64 (n := hi - lo) (by omega), wrap_i64 (by omega)]
      unfold idN
      exact beq_iff_eq.2 (by omega)
    have e3 : (sz - (((cutD rs 300).len : Nat) : Int) == IntKind.wrap IntKind.i64 (IntKind.wrap IntKind.i64 (sz - (((cutD rs 300).len : Nat) : Int)) - 0)) = true := by
      rw [wrap_i64 (n := sz - (((cutD rs 300).len : Nat) : Int)) (by omega), wrap_i64 (by omega)]
      exact beq_iff_eq.2 (by omega)
    refine ⟨fun _ => ⟨fun _ => ?_, fun h => absurd (hd.symm.trans h) (by decide)⟩, fun h => Bool.noConfusion h⟩
    repeat' first
      | exact hL
      | (refine ⟨fun h => ?_, fun h => ?_⟩ <;> first | exact absurd h (by decide) | exact absurd (e1.symm.trans h) (by decide) | exact absurd (e2.symm.trans h) (by decide) | exact absurd (e3.symm.trans h) (by decide) | skip)
theorem pfm_any {A : List AV} {nm : ByteArray} {sv : D} {m0 m1 m2 m3 m4 m5 : Int} {sc : D} {tk a1 a2 o1 o2 lo hi qu ba sz : Int} {rs : D} {l1 l2 l3 l4 l5 l6 l7 ow id sh wk rm : Int} (hA : A = [.agg (cfA nm sv m0 m1 m2 m3 m4 m5 sc tk a1 a2 o1 o2 lo hi qu ba sz rs l1 l2 l3 l4 l5 l6 l7 ow id sh wk rm)])
    (hb : (0 ≤ m0 ∧ m0 ≤ 255) ∧ (0 ≤ m1 ∧ m1 ≤ 255) ∧ (0 ≤ m2 ∧ m2 ≤ 255) ∧ (0 ≤ m3 ∧ m3 ≤ 255) ∧ (0 ≤ m4 ∧ m4 ≤ 255) ∧ (0 ≤ m5 ∧ m5 ≤ 255)) : Tru (treeF (evF Tryz.prog (gam (pfG Tryz.prog)) (lam []) 100 3) A) := by
  subst hA
  exact pfm_true _ _ _ _ _ _ _ _ _ _ _ _ _ _ _ _ _ _ _ _ _ _ _ _ _ _ _ _ _ _ _ _ hb
theorem pfm_join (x0 x1 x2 x3 x4 x5 x6 x7 x8 x9 x10 x11 x12 x13 x14 x15 x16 x17 x18 x19 x20 x21 x22 x23 x24 x25 x26 x27 x28 x29 x30 x31 : D) (g : wfL [.str, .sl [.str], .int .u8, .int .u8, .int .u8, .int .u8, .int .u8, .int .u8, .sl [.int .u8], .int .i64, .int .i64, .int .i64, .int .i64, .int .i64, .int .i64, .int .i64, .int .i64, .int .i64, .int .i64, .sl [.int .i64], .int .i64, .int .i64, .int .i64, .int .i64, .int .i64, .int .i64, .int .i64, .int .i64, .int .i64, .int .i64, .int .i64, .int .i64] [x0, x1, x2, x3, x4, x5, x6, x7, x8, x9, x10, x11, x12, x13, x14, x15, x16, x17, x18, x19, x20, x21, x22, x23, x24, x25, x26, x27, x28, x29, x30, x31]) : Tru (treeF (evF Tryz.prog (gam (pfG Tryz.prog)) (lam []) 100 3) [.agg (avL [.str, .sl [.str], .int .u8, .int .u8, .int .u8, .int .u8, .int .u8, .int .u8, .sl [.int .u8], .int .i64, .int .i64, .int .i64, .int .i64, .int .i64, .int .i64, .int .i64, .int .i64, .int .i64, .int .i64, .sl [.int .i64], .int .i64, .int .i64, .int .i64, .int .i64, .int .i64, .int .i64, .int .i64, .int .i64, .int .i64, .int .i64, .int .i64, .int .i64] [x0, x1, x2, x3, x4, x5, x6, x7, x8, x9, x10, x11, x12, x13, x14, x15, x16, x17, x18, x19, x20, x21, x22, x23, x24, x25, x26, x27, x28, x29, x30, x31])]) :=
  pfm_any (A := [.agg (avL [.str, .sl [.str], .int .u8, .int .u8, .int .u8, .int .u8, .int .u8, .int .u8, .sl [.int .u8], .int .i64, .int .i64, .int .i64, .int .i64, .int .i64, .int .i64, .int .i64, .int .i64, .int .i64, .int .i64, .sl [.int .i64], .int .i64, .int .i64, .int .i64, .int .i64, .int .i64, .int .i64, .int .i64, .int .i64, .int .i64, .int .i64, .int .i64, .int .i64] [x0, x1, x2, x3, x4, x5, x6, x7, x8, x9, x10, x11, x12, x13, x14, x15, x16, x17, x18, x19, x20, x21, x22, x23, x24, x25, x26, x27, x28, x29, x30, x31])]) (nm := x0.toS) (sv := x1) (m0 := x2.toI) (m1 := x3.toI) (m2 := x4.toI) (m3 := x5.toI) (m4 := x6.toI) (m5 := x7.toI) (sc := x8) (tk := x9.toI) (a1 := x10.toI) (a2 := x11.toI) (o1 := x12.toI) (o2 := x13.toI) (lo := x14.toI) (hi := x15.toI) (qu := x16.toI) (ba := x17.toI) (sz := x18.toI) (rs := x19) (l1 := x20.toI) (l2 := x21.toI) (l3 := x22.toI) (l4 := x23.toI) (l5 := x24.toI) (l6 := x25.toI) (l7 := x26.toI) (ow := x27.toI) (id := x28.toI) (sh := x29.toI) (wk := x30.toI) (rm := x31.toI) rfl ⟨g.2.2.1, g.2.2.2.1, g.2.2.2.2.1, g.2.2.2.2.2.1, g.2.2.2.2.2.2.1, g.2.2.2.2.2.2.2.1⟩
end
end Go.Proofs.YtomblhnchdokmaaGreatDoor
