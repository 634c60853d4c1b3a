/- Kc6: which controls may be: contracts. No condition. -/
import Derived.Test.YtcambhbmobepjaaGreatKc5
namespace Go.Proofs.YtcambhbmobepjaaGreat
set_option linter.unusedSimpArgs false
set_option linter.unusedVariables false
open Go.RowKit
set_option maxRecDepth 100000
noncomputable section

-- DEFS
def lisB (a b c e f g h st id rq : Int) (d : D) (ct tm nk mg pr mu pe ne : Int) : Bool := fitsB a b c e f g h && (inB mg 1 4294967295 && (inB pr 0 4294967295 && (inB mu 128 1492 && (inB pe 0 1000 && (soundB st id rq d ct tm nk && (decide (ne = 0) || decide (st = 9 ∧ 0 < g ∧ 1 ≤ ne ∧ ne ≤ 1099512676352)))))))
def FLck : List AV → RT AV
  | [.agg [.sc false (.int .i64 a), .sc false (.int .i64 b), .sc false (.int .i64 c), .sc false (.int .i64 e), .sc false (.int .i64 f), .sc false (.int .i64 g), .sc false (.int .i64 h)],
     .agg [.sc false (.int .i64 st), .sc false (.int .i64 id), .sc false (.int .i64 rq), .sl false [.int .i64, .sl [.int .u8]] d none, .sc false (.int .i64 ct), .sc false (.int .i64 tm), .sc false (.int .i64 nk), .sc false (.int .i64 mg), .sc false (.int .i64 pr), .sc false (.int .i64 mu), .sc false (.int .i64 pe), .sc false (.int .i64 ne)]] => .ok (ai (errIf (lisB a b c e f g h st id rq d ct tm nk mg pr mu pe ne) 170))
  | _ => .bad 209
def FLis : List AV → RT AV
  | [.agg [.sc false (.int .i64 a), .sc false (.int .i64 b), .sc false (.int .i64 c), .sc false (.int .i64 e), .sc false (.int .i64 f), .sc false (.int .i64 g), .sc false (.int .i64 h)],
     .agg [.sc false (.int .i64 st), .sc false (.int .i64 id), .sc false (.int .i64 rq), .sl false [.int .i64, .sl [.int .u8]] d none, .sc false (.int .i64 ct), .sc false (.int .i64 tm), .sc false (.int .i64 nk), .sc false (.int .i64 mg), .sc false (.int .i64 pr), .sc false (.int .i64 mu), .sc false (.int .i64 pe), .sc false (.int .i64 ne)]] => .ok (ab (lisB a b c e f g h st id rq d ct tm nk mg pr mu pe ne))
  | _ => .bad 209
-- END
theorem lisB_iff (a b c e f g h st id rq : Int) (d : D) (ct tm nk mg pr mu pe ne : Int) : lisB a b c e f g h st id rq d ct tm nk mg pr mu pe ne = true ↔ fitsB a b c e f g h = true ∧ (1 ≤ mg ∧ mg ≤ 4294967295) ∧ (0 ≤ pr ∧ pr ≤ 4294967295) ∧ (128 ≤ mu ∧ mu ≤ 1492) ∧ (0 ≤ pe ∧ pe ≤ 1000) ∧ soundB st id rq d ct tm nk = true ∧ (ne = 0 ∨ (st = 9 ∧ 0 < g ∧ 1 ≤ ne ∧ ne ≤ 1099512676352)) := by
  simp only [lisB, inB, Bool.and_eq_true, Bool.or_eq_true, decide_eq_true_eq]
theorem fitsB_iff (a b c d e f g : Int) : fitsB a b c d e f g = true ↔ (128 ≤ a ∧ a ≤ 1492) ∧ (1 ≤ b ∧ b ≤ 1000) ∧ (1 ≤ c ∧ c ≤ 1000) ∧ (0 ≤ d ∧ d ≤ 1000) ∧ (1 ≤ e ∧ e ≤ 1048576) ∧ (0 ≤ f ∧ f ≤ 1048576) ∧ (1 ≤ g ∧ g ≤ 1000) := by
  simp only [fitsB, inB, Bool.and_eq_true, decide_eq_true_eq, and_assoc]
theorem setB_fits {a b c e f g h mg o : Int} (hf : fitsB a b c e f g h = true) (ho : rulesB mg o = true) : setB mg o b c e f = true := by
  rw [fitsB_iff] at hf
  simp only [setB, inB, ho, Bool.true_and, Bool.and_eq_true, decide_eq_true_eq]
  omega
theorem errIf_eq {b : Bool} {n m : Int} (h : b = true ↔ m = 0) (h2 : m = 0 ∨ m = n) : m = errIf b n := by
  cases b
  · rw [errIf, if_neg (by decide)]
    exact h2.resolve_left fun e => by have := h.2 e; cases this
  · rw [errIf, if_pos rfl]; exact h.1 rfl
theorem or3 {x y : Bool} {mg : Int} (h : x = true → 1 ≤ mg → mg ≤ 4294967295 → y = true) : x = false ∨ ¬ (1 ≤ mg ∧ mg ≤ 4294967295) ∨ y = true := by
  cases x
  · exact .inl rfl
  · by_cases e : 1 ≤ mg ∧ mg ≤ 4294967295
    · exact .inr (.inr (h rfl e.1 e.2))
    · exact .inr (.inl e)
theorem or2 {x : Bool} {p : Prop} (h : x = true → p) : x = false ∨ p := by
  cases x
  · exact .inl rfl
  · exact .inr (h rfl)
theorem lcheck_soundF : SoundF Tryz.prog 11 (pureS Tryz.prog 11 FLck) := by
  refine pure_in (gs := autG Tryz.prog) (ls := []) mixed autG_ok trivial 11 100 fun args K ho H => ?_
  unfold FLck at H
  split at H
  · rename_i a b c e f g h st id rq d ct tm nk mg pr mu pe ne
    rw [lck_tree]
    clear ho
    have hL := lisB_iff a b c e f g h st id rq d ct tm nk mg pr mu pe ne
    have hset : fitsB a b c e f g h = false ∨ ¬ (1 ≤ mg ∧ mg ≤ 4294967295) ∨ setB mg (othP mg) b c e f = true := or3 fun h1 h2 h3 => setB_fits h1 (oth_may h2 h3).1
    generalize lisB a b c e f g h st id rq d ct tm nk mg pr mu pe ne = lb at H hL
    generalize fitsB a b c e f g h = fb at hL hset ⊢
    generalize setB mg (othP mg) b c e f = se at hset ⊢
    generalize soundB st id rq d ct tm nk = sb at hL ⊢
    simp only [RT.holds]
    repeat' refine And.intro (fun _ => ?_) (fun _ => ?_)
    all_goals refine ⟨_, le_int (errIf_eq ?_ (by decide)), H⟩
    all_goals clear H
    all_goals rw [hL]
    all_goals clear hL
    all_goals cases fb <;> cases se <;> cases sb
    all_goals simp only [decide_eq_true_eq, decide_eq_false_iff_not, Bool.not_eq_true', Bool.not_eq_false', bne_iff_ne, ne_eq, beq_iff_eq, Bool.not_eq_true, bne_eq_false_iff_eq, beq_eq_false_iff_ne, Bool.false_eq_true, Bool.true_eq_false, false_iff, Bool.not_false, Bool.not_true, true_and, false_and, and_false, false_or, or_false, or_true, true_or, not_false_eq_true, iff_false, iff_true, true_iff] at *
    all_goals omega
  · exact H.elim
theorem rlis_soundF : SoundF Tryz.prog 17 (pureS Tryz.prog 17 FLis) := by
  refine pure_in (gs := autG Tryz.prog) (ls := []) mixed autG_ok trivial 17 100 fun args K ho H => ?_
  unfold FLis at H
  split at H
  · rename_i a b c e f g h st id rq d ct tm nk mg pr mu pe ne
    rw [rlis_tree]
    clear ho
    have hL := lisB_iff a b c e f g h st id rq d ct tm nk mg pr mu pe ne
    have hset : fitsB a b c e f g h = false ∨ ¬ (1 ≤ mg ∧ mg ≤ 4294967295) ∨ setB mg (othR mg) b c e f = true := or3 fun h1 h2 h3 => setB_fits h1 (oth_may h2 h3).2
    have hg : fitsB a b c e f g h = false ∨ 0 ≤ g := or2 fun h1 => by rw [fitsB_iff] at h1; omega
    generalize lisB a b c e f g h st id rq d ct tm nk mg pr mu pe ne = lb at H hL
    generalize fitsB a b c e f g h = fb at hL hset hg ⊢
    generalize setB mg (othR mg) b c e f = se at hset ⊢
    generalize soundB st id rq d ct tm nk = sb at hL ⊢
    simp only [RT.holds]
    repeat' refine And.intro (fun _ => ?_) (fun _ => ?_)
    all_goals refine ⟨_, le_bool ?_, H⟩
    all_goals clear H
    all_goals rw [Bool.eq_iff_iff, hL]
    all_goals clear hL
    all_goals cases fb <;> cases se <;> cases sb
    all_goals simp only [decide_eq_true_eq, decide_eq_false_iff_not, Bool.not_eq_true', Bool.not_eq_false', bne_iff_ne, ne_eq, beq_iff_eq, Bool.not_eq_true, bne_eq_false_iff_eq, beq_eq_false_iff_ne, Bool.false_eq_true, Bool.true_eq_false, false_iff, Bool.not_false, Bool.not_true, true_and, false_and, and_false, false_or, or_false, or_true, true_or, not_false_eq_true, iff_false, iff_true, true_iff] at *
    all_goals omega
  · exact H.elim
end
end Go.Proofs.YtcambhbmobepjaaGreat
