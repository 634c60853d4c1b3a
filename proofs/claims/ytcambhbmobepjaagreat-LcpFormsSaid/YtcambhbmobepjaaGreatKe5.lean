/- Ke5: which controls may be: the law's tree is true. No condition. -/
import Derived.Test.YtcambhbmobepjaaGreatKe4
namespace Go.Proofs.YtcambhbmobepjaaGreat
set_option linter.unusedSimpArgs false
set_option linter.unusedVariables false
open Go.RowKit
set_option maxRecDepth 100000
noncomputable section
theorem okFrom_all {p : Nat → Bool} (h : ∀ i, p i = true) : ∀ n i, okFrom p n i = true
  | 0, _ => rfl
  | n + 1, i => by simp only [okFrom, h i, Bool.true_and, okFrom_all h n]
theorem sameO_refl (d : D) : sameO d d = true := by
  unfold sameO
  rw [decide_eq_true rfl, okFrom_all (fun i => by simp [oneE])]; rfl
theorem sameL_refl (st id rq : Int) (d : D) (ct tm nk mg pr mu pe ne : Int) : sameL st id rq d ct tm nk mg pr mu pe ne st id rq d ct tm nk mg pr mu pe ne = true := by
  simp only [sameL, sameO_refl, beq_self_eq_true, Bool.true_and]
theorem bothB_t (p : Bool) (r : Bool × Bool) : (bothB (p, true) r).2 = r.2 := by
  obtain ⟨x, y⟩ := r
  cases p <;> simp [bothB]
theorem errL (b : Bool) : ((errIf b 170 == 0) == b) = true := by cases b <;> decide
theorem errL2 {b : Bool} (h : (errIf b 170 == 0) = false) : (errIf b 170 == 170) = true := by
  cases b
  · decide
  · revert h; decide
theorem byte_rng {d : D} (hw : wfS (.sl byS) d) (i : Nat) (hi : i < d.len) : 0 ≤ byA d i ∧ byA d i < 256 := by
  have h1 := (hw.2 i hi).1
  have h2 : IntKind.u8.min ≤ byA d i ∧ byA d i ≤ IntKind.u8.max := h1
  have e1 : IntKind.u8.min = 0 := by decide
  have e2 : IntKind.u8.max = 255 := by decide
  omega
theorem rngB_of {d : D} (hw : wfS (.sl byS) d) : rngB d = true := by
  unfold rngB
  exact decide_eq_true fun h => ⟨byte_rng hw 0 (by omega), byte_rng hw 1 (by omega)⟩
/-- a tree whose answer is true -/
structure Tru (t : RT AV) : Prop where
  h : t.holds fun r => Le r (.sc false (.bool true))
theorem law_callsT {P : Program} {f : FuncId} {sp : Spec} (hs : SoundF P f sp) {args : List AV} {vals : List Value} {w : World} (hr : RelL (env0 w) args vals) (H : Tru (treeF sp args)) :
    Calls P f vals.toArray w fun e w' => e = .returned (.bool true) ∧ Below w.heap.size w w' := law_calls hs hr H.h
set_option maxHeartbeats 2000000 in
theorem frm_true (a b c e f g h st id rq : Int) (d : D) (ct tm nk mg pr mu pe ne m ic ii : Int) (dd : D) (hr : rngB dd = true) :
    Tru (treeF (evF Tryz.prog (gam (lawG Tryz.prog)) (lam []) 100 3) [cfgA a b c e f g h, lcpA st id rq d ct tm nk mg pr mu pe ne, ai m, .agg [ai ic, ai ii, asl byS dd]]) := by
  rw [frm_tree]
  constructor
  have hL : Le (.sc true (.bool true)) (.sc false (.bool true)) := le_bool rfl
  simp only [RT.holds, hr, sameL_refl, beq_self_eq_true, bne_self_eq_false, errL, true_implies, Bool.true_eq_false, Bool.false_eq_true, false_implies, and_true, true_and]
  have hrest : ∀ L : Bool, ((errIf L 170 == 0) = true → Le (.sc true (.bool true)) (.sc false (.bool true))) ∧ ((errIf L 170 == 0) = false → ((errIf L 170 == 170) = true → Le (.sc true (.bool true)) (.sc false (.bool true))) ∧ ((errIf L 170 == 170) = false → Le (.sc true (.bool false)) (.sc false (.bool true)))) := fun L =>
    ⟨fun _ => hL, fun h => ⟨fun _ => hL, fun h2 => by rw [errL2 h] at h2; cases h2⟩⟩
  refine ⟨fun h1 => ⟨fun h2 => ⟨fun h3 => ?_, fun _ => hrest _⟩, fun _ => hrest _⟩, fun _ => hrest _⟩
  have h1 := of_decide_eq_true h1
  have h2 := of_decide_eq_true h2
  rw [oth_same h1 h2] at h3
  simp only [beq_self_eq_true, bothB_t, Bool.and_true, Bool.not_true, Bool.false_eq_true] at h3
theorem frm_any {A : List AV} {a b c e f g h st id rq : Int} {d : D} {ct tm nk mg pr mu pe ne m ic ii : Int} {dd : D} (hA : A = [cfgA a b c e f g h, lcpA st id rq d ct tm nk mg pr mu pe ne, ai m, .agg [ai ic, ai ii, asl byS dd]]) (hr : rngB dd = true) :
    Tru (treeF (evF Tryz.prog (gam (lawG Tryz.prog)) (lam []) 100 3) A) := by
  subst hA
  exact @frm_true a b c e f g h st id rq d ct tm nk mg pr mu pe ne m ic ii dd hr
theorem frm_join (x0_0 x0_1 x0_2 x0_3 x0_4 x0_5 x0_6 x1_0 x1_1 x1_2 x1_3 x1_4 x1_5 x1_6 x1_7 x1_8 x1_9 x1_10 x1_11 x2_0 x3_0 x3_1 x3_2 : D) (_ : wfL [.int .i64, .int .i64, .int .i64, .int .i64, .int .i64, .int .i64, .int .i64] [x0_0, x0_1, x0_2, x0_3, x0_4, x0_5, x0_6]) (_ : wfL [.int .i64, .int .i64, .int .i64, .sl [.int .i64, .sl [.int .u8]], .int .i64, .int .i64, .int .i64, .int .i64, .int .i64, .int .i64, .int .i64, .int .i64] [x1_0, x1_1, x1_2, x1_3, x1_4, x1_5, x1_6, x1_7, x1_8, x1_9, x1_10, x1_11]) (_ : wfL [.int .i64] [x2_0]) (g3 : wfL [.int .i64, .int .i64, .sl [.int .u8]] [x3_0, x3_1, x3_2]) :
    Tru (treeF (evF Tryz.prog (gam (lawG Tryz.prog)) (lam []) 100 3) [.agg (avL [.int .i64, .int .i64, .int .i64, .int .i64, .int .i64, .int .i64, .int .i64] [x0_0, x0_1, x0_2, x0_3, x0_4, x0_5, x0_6]), .agg (avL [.int .i64, .int .i64, .int .i64, .sl [.int .i64, .sl [.int .u8]], .int .i64, .int .i64, .int .i64, .int .i64, .int .i64, .int .i64, .int .i64, .int .i64] [x1_0, x1_1, x1_2, x1_3, x1_4, x1_5, x1_6, x1_7, x1_8, x1_9, x1_10, x1_11]), leaf false (.int .i64) x2_0, .agg (avL [.int .i64, .int .i64, .sl [.int .u8]] [x3_0, x3_1, x3_2])]) :=
  frm_any (show ([.agg (avL [.int .i64, .int .i64, .int .i64, .int .i64, .int .i64, .int .i64, .int .i64] [x0_0, x0_1, x0_2, x0_3, x0_4, x0_5, x0_6]), .agg (avL [.int .i64, .int .i64, .int .i64, .sl [.int .i64, .sl [.int .u8]], .int .i64, .int .i64, .int .i64, .int .i64, .int .i64, .int .i64, .int .i64, .int .i64] [x1_0, x1_1, x1_2, x1_3, x1_4, x1_5, x1_6, x1_7, x1_8, x1_9, x1_10, x1_11]), leaf false (.int .i64) x2_0, .agg (avL [.int .i64, .int .i64, .sl [.int .u8]] [x3_0, x3_1, x3_2])] : List AV) = [cfgA x0_0.toI x0_1.toI x0_2.toI x0_3.toI x0_4.toI x0_5.toI x0_6.toI, lcpA x1_0.toI x1_1.toI x1_2.toI x1_3 x1_4.toI x1_5.toI x1_6.toI x1_7.toI x1_8.toI x1_9.toI x1_10.toI x1_11.toI, ai x2_0.toI, .agg [ai x3_0.toI, ai x3_1.toI, asl byS x3_2]] from rfl) (rngB_of g3.2.2.1)
end
end Go.Proofs.YtcambhbmobepjaaGreat
