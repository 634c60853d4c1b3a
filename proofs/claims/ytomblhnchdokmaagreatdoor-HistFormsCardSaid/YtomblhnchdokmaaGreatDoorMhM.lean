/- MhM: texts of this claim, one behind the other: Kq7. No condition. -/
import Derived.Test.YtomblhnchdokmaaGreatDoorMhL
namespace Go.Proofs.YtomblhnchdokmaaGreatDoor
set_option linter.unusedSimpArgs false
set_option linter.unusedVariables false
open Go.RowKit
set_option maxRecDepth 100000
noncomputable section
theorem cons_of_len {α : Type} {l : List α} {n : Nat} (h : l.length = n + 1) : ∃ x t, l = x :: t ∧ t.length = n := by
  cases l with
  | nil => cases h
  | cons x t => exact ⟨x, t, rfl, Nat.succ.inj h⟩
theorem list32 {α : Type} {l : List α} (h : l.length = 32) : ∃ x0 x1 x2 x3 x4 x5 x6 x7 x8 x9 x10 x11 x12 x13 x14 x15 x16 x17 x18 x19 x20 x21 x22 x23 x24 x25 x26 x27 x28 x29 x30 x31, l = [x0, x1, x2, x3, x4, x5, x6, x7, x8, x9, x10, x11, x12, x13, x14, x15, x16, x17, x18, x19, x20, x21, x22, x23, x24, x25, x26, x27, x28, x29, x30, x31] := by
  obtain ⟨x0, t0, rfl, h1⟩ := cons_of_len h
  obtain ⟨x1, t1, rfl, h2⟩ := cons_of_len h1
  obtain ⟨x2, t2, rfl, h3⟩ := cons_of_len h2
  obtain ⟨x3, t3, rfl, h4⟩ := cons_of_len h3
  obtain ⟨x4, t4, rfl, h5⟩ := cons_of_len h4
  obtain ⟨x5, t5, rfl, h6⟩ := cons_of_len h5
  obtain ⟨x6, t6, rfl, h7⟩ := cons_of_len h6
  obtain ⟨x7, t7, rfl, h8⟩ := cons_of_len h7
  obtain ⟨x8, t8, rfl, h9⟩ := cons_of_len h8
  obtain ⟨x9, t9, rfl, h10⟩ := cons_of_len h9
  obtain ⟨x10, t10, rfl, h11⟩ := cons_of_len h10
  obtain ⟨x11, t11, rfl, h12⟩ := cons_of_len h11
  obtain ⟨x12, t12, rfl, h13⟩ := cons_of_len h12
  obtain ⟨x13, t13, rfl, h14⟩ := cons_of_len h13
  obtain ⟨x14, t14, rfl, h15⟩ := cons_of_len h14
  obtain ⟨x15, t15, rfl, h16⟩ := cons_of_len h15
  obtain ⟨x16, t16, rfl, h17⟩ := cons_of_len h16
  obtain ⟨x17, t17, rfl, h18⟩ := cons_of_len h17
  obtain ⟨x18, t18, rfl, h19⟩ := cons_of_len h18
  obtain ⟨x19, t19, rfl, h20⟩ := cons_of_len h19
  obtain ⟨x20, t20, rfl, h21⟩ := cons_of_len h20
  obtain ⟨x21, t21, rfl, h22⟩ := cons_of_len h21
  obtain ⟨x22, t22, rfl, h23⟩ := cons_of_len h22
  obtain ⟨x23, t23, rfl, h24⟩ := cons_of_len h23
  obtain ⟨x24, t24, rfl, h25⟩ := cons_of_len h24
  obtain ⟨x25, t25, rfl, h26⟩ := cons_of_len h25
  obtain ⟨x26, t26, rfl, h27⟩ := cons_of_len h26
  obtain ⟨x27, t27, rfl, h28⟩ := cons_of_len h27
  obtain ⟨x28, t28, rfl, h29⟩ := cons_of_len h28
  obtain ⟨x29, t29, rfl, h30⟩ := cons_of_len h29
  obtain ⟨x30, t30, rfl, h31⟩ := cons_of_len h30
  obtain ⟨x31, t31, rfl, h32⟩ := cons_of_len h31
  obtain rfl := List.length_eq_zero_iff.1 h32
  exact ⟨_, _, _, _, _, _, _, _, _, _, _, _, _, _, _, _, _, _, _, _, _, _, _, _, _, _, _, _, _, _, _, _, rfl⟩

theorem imin_in (n : Nat) (k : Int) (hk : 0 ≤ k) : 0 ≤ imin (n : Int) k ∧ imin (n : Int) k ≤ (n : Int) := by unfold imin; split <;> omega
theorem hiG_ok : GamL Tryz.prog (hiG Tryz.prog) := ⟨args0S_ok pln_soundF, trivial⟩
theorem hsG_ok : GamL Tryz.prog (hsG Tryz.prog) := ⟨rg_ok hiG_ok false _, rg_ok hiG_ok false _, rg_ok hiG_ok false _, trivial⟩
theorem hfG_ok : GamL Tryz.prog (hfG Tryz.prog) := ⟨a27_soundF, ris_soundF, hsG_ok⟩
theorem hfm_soundF : SoundF Tryz.prog 4 (evF Tryz.prog (gam (hfG Tryz.prog)) (lam []) 100 4) :=
  evF_ok mixed (gam_ok hfG_ok) (lam_ok (P := Tryz.prog) (l := []) trivial) 100 _
theorem hfm_true (nm : ByteArray) (sv : D) (m0 m1 m2 m3 m4 m5 : Int) (sc : D) (tk a1 a2 o1 o2 lo hi qu ba sz : Int) (rs : D) (l1 l2 l3 l4 l5 l6 l7 ow id sh wk rm : Int)
    (hb : (0 ≤ m0 ∧ m0 ≤ 255) ∧ (0 ≤ m1 ∧ m1 ≤ 255) ∧ (0 ≤ m2 ∧ m2 ≤ 255) ∧ (0 ≤ m3 ∧ m3 ≤ 255) ∧ (0 ≤ m4 ∧ m4 ≤ 255) ∧ (0 ≤ m5 ∧ m5 ≤ 255)) :
    Tru (treeF (evF Tryz.prog (gam (hfG Tryz.prog)) (lam []) 100 4) [.agg (cfA nm sv m0 m1 m2 m3 m4 m5 sc tk a1 a2 o1 o2 lo hi qu ba sz rs l1 l2 l3 l4 l5 l6 l7 ow id sh wk rm)]) := by
  rw [hfm_tree]
  constructor
  generalize isB _ _ _ _ _ _ _ _ _ _ _ _ _ _ _ _ _ _ _ _ _ _ _ _ _ _ _ _ _ _ _ _ = q
  have hL : Le (.sc true (.bool true)) (.sc false (.bool true)) := le_bool rfl
  have h1 := imin_in nm.size 70 (by decide)
  have h2 := imin_in sv.len 10 (by decide)
  have h3 := imin_in sc.len 70 (by decide)
  have h4 := imin_in rs.len 300 (by decide)
  refine ⟨fun _ => ⟨fun _ => ⟨fun _ => ⟨fun _ => ⟨fun _ => ?_, fun h => absurd hb (of_decide_eq_false h)⟩, fun h => absurd ⟨Int.le_refl _, h4.1, h4.2, Int.le_refl _⟩ (of_decide_eq_false h)⟩, fun h => absurd ⟨Int.le_refl _, h3.1, h3.2, Int.le_refl _⟩ (of_decide_eq_false h)⟩, fun h => absurd ⟨Int.le_refl _, h2.1, h2.2, Int.le_refl _⟩ (of_decide_eq_false h)⟩, fun h => absurd ⟨Int.le_refl _, h1.1, h1.2⟩ (of_decide_eq_false h)⟩
  cases q
  all_goals repeat' first
    | exact hL
    | exact fun h => Bool.noConfusion h
    | (refine ⟨fun h => ?_, fun h => ?_⟩ <;> first | exact Bool.noConfusion h | skip)
theorem hfm_any {A : List AV} {nm : ByteArray} {sv : D} {m0 m1 m2 m3 m4 m5 : Int} {sc : D} {tk a1 a2 o1 o2 lo hi qu ba sz : Int} {rs : D} {l1 l2 l3 l4 l5 l6 l7 ow id sh wk rm : Int} (hA : A = [.agg (cfA nm sv m0 m1 m2 m3 m4 m5 sc tk a1 a2 o1 o2 lo hi qu ba sz rs l1 l2 l3 l4 l5 l6 l7 ow id sh wk rm)])
    (hb : (0 ≤ m0 ∧ m0 ≤ 255) ∧ (0 ≤ m1 ∧ m1 ≤ 255) ∧ (0 ≤ m2 ∧ m2 ≤ 255) ∧ (0 ≤ m3 ∧ m3 ≤ 255) ∧ (0 ≤ m4 ∧ m4 ≤ 255) ∧ (0 ≤ m5 ∧ m5 ≤ 255)) : Tru (treeF (evF Tryz.prog (gam (hfG Tryz.prog)) (lam []) 100 4) A) := by
  subst hA
  exact hfm_true _ _ _ _ _ _ _ _ _ _ _ _ _ _ _ _ _ _ _ _ _ _ _ _ _ _ _ _ _ _ _ _ hb
theorem hfm_join (x0 x1 x2 x3 x4 x5 x6 x7 x8 x9 x10 x11 x12 x13 x14 x15 x16 x17 x18 x19 x20 x21 x22 x23 x24 x25 x26 x27 x28 x29 x30 x31 : D) (g : wfL [.str, .sl [.str], .int .u8, .int .u8, .int .u8, .int .u8, .int .u8, .int .u8, .sl [.int .u8], .int .i64, .int .i64, .int .i64, .int .i64, .int .i64, .int .i64, .int .i64, .int .i64, .int .i64, .int .i64, .sl [.int .i64], .int .i64, .int .i64, .int .i64, .int .i64, .int .i64, .int .i64, .int .i64, .int .i64, .int .i64, .int .i64, .int .i64, .int .i64] [x0, x1, x2, x3, x4, x5, x6, x7, x8, x9, x10, x11, x12, x13, x14, x15, x16, x17, x18, x19, x20, x21, x22, x23, x24, x25, x26, x27, x28, x29, x30, x31]) : Tru (treeF (evF Tryz.prog (gam (hfG Tryz.prog)) (lam []) 100 4) [.agg (avL [.str, .sl [.str], .int .u8, .int .u8, .int .u8, .int .u8, .int .u8, .int .u8, .sl [.int .u8], .int .i64, .int .i64, .int .i64, .int .i64, .int .i64, .int .i64, .int .i64, .int .i64, .int .i64, .int .i64, .sl [.int .i64], .int .i64, .int .i64, .int .i64, .int .i64, .int .i64, .int .i64, .int .i64, .int .i64, .int .i64, .int .i64, .int .i64, .int .i64] [x0, x1, x2, x3, x4, x5, x6, x7, x8, x9, x10, x11, x12, x13, x14, x15, x16, x17, x18, x19, x20, x21, x22, x23, x24, x25, x26, x27, x28, x29, x30, x31])]) :=
  hfm_any (A := [.agg (avL [.str, .sl [.str], .int .u8, .int .u8, .int .u8, .int .u8, .int .u8, .int .u8, .sl [.int .u8], .int .i64, .int .i64, .int .i64, .int .i64, .int .i64, .int .i64, .int .i64, .int .i64, .int .i64, .int .i64, .sl [.int .i64], .int .i64, .int .i64, .int .i64, .int .i64, .int .i64, .int .i64, .int .i64, .int .i64, .int .i64, .int .i64, .int .i64, .int .i64] [x0, x1, x2, x3, x4, x5, x6, x7, x8, x9, x10, x11, x12, x13, x14, x15, x16, x17, x18, x19, x20, x21, x22, x23, x24, x25, x26, x27, x28, x29, x30, x31])]) (nm := x0.toS) (sv := x1) (m0 := x2.toI) (m1 := x3.toI) (m2 := x4.toI) (m3 := x5.toI) (m4 := x6.toI) (m5 := x7.toI) (sc := x8) (tk := x9.toI) (a1 := x10.toI) (a2 := x11.toI) (o1 := x12.toI) (o2 := x13.toI) (lo := x14.toI) (hi := x15.toI) (qu := x16.toI) (ba := x17.toI) (sz := x18.toI) (rs := x19) (l1 := x20.toI) (l2 := x21.toI) (l3 := x22.toI) (l4 := x23.toI) (l5 := x24.toI) (l6 := x25.toI) (l7 := x26.toI) (ow := x27.toI) (id := x28.toI) (sh := x29.toI) (wk := x30.toI) (rm := x31.toI) rfl ⟨g.2.2.1, g.2.2.2.1, g.2.2.2.2.1, g.2.2.2.2.2.1, g.2.2.2.2.2.2.1, g.2.2.2.2.2.2.2.1⟩
end
end Go.Proofs.YtomblhnchdokmaaGreatDoor
