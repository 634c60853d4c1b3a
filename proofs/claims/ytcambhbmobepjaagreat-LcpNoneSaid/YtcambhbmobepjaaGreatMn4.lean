/- Mn, 4: texts of this claim, one behind the other: Kc6 Kc7 Kc8 Kd1 Kd2 Kd3 Kd4 Kd5 EvI Ke1 Ke2 Take Ke3 Ke4 Ke5 EvJ Kf1 Kf2 EvY EvZ Kg1 Kg2 Kg3. No condition. -/
import Derived.WalkLawsBesides
import Derived.WalkSpells
import Derived.Deep.QuietTactic
import Derived.BigQuiet
import Derived.IntWalk
import Derived.RangeFuncRecord
import Derived.RangeFuncCalls
import Derived.RangeFuncLeaves
import Derived.OrdersIn
import Derived.LoopNIn
import Derived.Test.YtcambhbmobepjaaGreatMn3
namespace Go.Proofs.YtcambhbmobepjaaGreat
set_option linter.unusedSimpArgs false
set_option linter.unusedVariables false
open Go.RowKit
set_option maxRecDepth 100000
noncomputable section

-- DEFS
def lisB (a b c e f g h st id rq : Int) (d : D) (ct tm nk mg pr mu pe ne : Int) : Bool := fitsB a b c e f g h && (inB mg 1 4294967295 && (inB pr 0 4294967295 && (inB mu 128 1492 && (inB pe 0 1000 && (soundB st id rq d ct tm nk && (decide (ne = 0) || decide (st = 9 ∧ 0 < g ∧ 1 ≤ ne ∧ ne ≤ 1099512676352)))))))
def FLck : List AV → RT AV
  | [.agg [.sc false (.int .i64 a), .sc false (.int .i64 b), .sc false (.int .i64 c), .sc false (.int .i64 e), .sc false (.int .i64 f), .sc false (.int .i64 g), .sc false (.int .i64 h)],
     .agg [.sc false (.int .i64 st), .sc false (.int .i64 id), .sc false (.int .i64 rq), .sl false [.int .i64, .sl [.int .u8]] d none, .sc false (.int .i64 ct), .sc false (.int .i64 tm), .sc false (.int .i64 nk), .sc false (.int .i64 mg), .sc false (.int .i64 pr), .sc false (.int .i64 mu), .sc false (.int .i64 pe), .sc false (.int .i64 ne)]] => .ok (ai (errIf (lisB a b c e f g h st id rq d ct tm nk mg pr mu pe ne) 170))
  | _ => .bad 209
def FLis : List AV → RT AV
  | [.agg [.sc false (.int .i64 a), .sc false (.int .i64 b), .sc false (.int .i64 c), .sc false (.int .i64 e), .sc false (.int .i64 f), .sc false (.int .i64 g), .sc false (.int .i64 h)],
     .agg [.sc false (.int .i64 st), .sc false (.int .i64 id), .sc false (.int .i64 rq), .sl false [.int .i64, .sl [.int .u8]] d none, .sc false (.int .i64 ct), .sc false (.int .i64 tm), .sc false (.int .i64 nk), .sc false (.int .i64 mg), .sc false (.int .i64 pr), .sc false (.int .i64 mu), .sc false (.int .i64 pe), .sc false (.int .i64 ne)]] => .ok (ab (lisB a b c e f g h st id rq d ct tm nk mg pr mu pe ne))
  | _ => .bad 209
-- END
theorem lisB_iff (a b c e f g h st id rq : Int) (d : D) (ct tm nk mg pr mu pe ne : Int) : lisB a b c e f g h st id rq d ct tm nk mg pr mu pe ne = true ↔ fitsB a b c e f g h = true ∧ (1 ≤ mg ∧ mg ≤ 4294967295) ∧ (0 ≤ pr ∧ pr ≤ 4294967295) ∧ (128 ≤ mu ∧ mu ≤ 1492) ∧ (0 ≤ pe ∧ pe ≤ 1000) ∧ soundB st id rq d ct tm nk = true ∧ (ne = 0 ∨ (st = 9 ∧ 0 < g ∧ 1 ≤ ne ∧ ne ≤ 1099512676352)) := by
  simp only [lisB, inB, Bool.and_eq_true, Bool.or_eq_true, decide_eq_true_eq]
theorem fitsB_iff (a b c d e f g : Int) : fitsB a b c d e f g = true ↔ (128 ≤ a ∧ a ≤ 1492) ∧ (1 ≤ b ∧ b ≤ 1000) ∧ (1 ≤ c ∧ c ≤ 1000) ∧ (0 ≤ d ∧ d ≤ 1000) ∧ (1 ≤ e ∧ e ≤ 1048576) ∧ (0 ≤ f ∧ f ≤ 1048576) ∧ (1 ≤ g ∧ g ≤ 1000) := by
  simp only [fitsB, inB, Bool.and_eq_true, decide_eq_true_eq, and_assoc]
theorem setB_fits {a b c e f g h mg o : Int} (hf : fitsB a b c e f g h = true) (ho : rulesB mg o = true) : setB mg o b c e f = true := by
  rw [fitsB_iff] at hf
  simp only [setB, inB, ho, Bool.true_and, Bool.and_eq_true, decide_eq_true_eq]
  omega
theorem errIf_eq {b : Bool} {n m : Int} (h : b = true ↔ m = 0) (h2 : m = 0 ∨ m = n) : m = errIf b n := by
  cases b
  · rw [errIf, if_neg (by decide)]
    exact h2.resolve_left fun e => by have := h.2 e; cases this
  · rw [errIf, if_pos rfl]; exact h.1 rfl
theorem or3 {x y : Bool} {mg : Int} (h : x = true → 1 ≤ mg → mg ≤ 4294967295 → y = true) : x = false ∨ ¬ (1 ≤ mg ∧ mg ≤ 4294967295) ∨ y = true := by
  cases x
  · exact .inl rfl
  · by_cases e : 1 ≤ mg ∧ mg ≤ 4294967295
    · exact .inr (.inr (h rfl e.1 e.2))
    · exact .inr (.inl e)
theorem or2 {x : Bool} {p : Prop} (h : x = true → p) : x = false ∨ p := by
  cases x
  · exact .inl rfl
  · exact .inr (h rfl)
theorem lcheck_soundF : SoundF Tryz.prog 11 (pureS Tryz.prog 11 FLck) := by
  refine pure_in (gs := autG Tryz.prog) (ls := []) mixed autG_ok trivial 11 100 fun args K ho H => ?_
  unfold FLck at H
  split at H
  · rename_i a b c e f g h st id rq d ct tm nk mg pr mu pe ne
    rw [lck_tree]
    clear ho
    have hL := lisB_iff a b c e f g h st id rq d ct tm nk mg pr mu pe ne
    have hset : fitsB a b c e f g h = false ∨ ¬ (1 ≤ mg ∧ mg ≤ 4294967295) ∨ setB mg (othP mg) b c e f = true := or3 fun h1 h2 h3 => setB_fits h1 (oth_may h2 h3).1
    generalize lisB a b c e f g h st id rq d ct tm nk mg pr mu pe ne = lb at H hL
    generalize fitsB a b c e f g h = fb at hL hset ⊢
    generalize setB mg (othP mg) b c e f = se at hset ⊢
    generalize soundB st id rq d ct tm nk = sb at hL ⊢
    simp only [RT.holds]
    repeat' refine And.intro (fun _ => ?_) (fun _ => ?_)
    all_goals refine ⟨_, le_int (errIf_eq ?_ (by decide)), H⟩
    all_goals clear H
    all_goals rw [hL]
    all_goals clear hL
    all_goals cases fb <;> cases se <;> cases sb
    all_goals simp only [decide_eq_true_eq, decide_eq_false_iff_not, Bool.not_eq_true', Bool.not_eq_false', bne_iff_ne, ne_eq, beq_iff_eq, Bool.not_eq_true, bne_eq_false_iff_eq, beq_eq_false_iff_ne, Bool.false_eq_true, Bool.true_eq_false, false_iff, Bool.not_false, Bool.not_true, true_and, false_and, and_false, false_or, or_false, or_true, true_or, not_false_eq_true, iff_false, iff_true, true_iff] at *
    all_goals omega
  · exact H.elim
theorem rlis_soundF : SoundF Tryz.prog 17 (pureS Tryz.prog 17 FLis) := by
  refine pure_in (gs := autG Tryz.prog) (ls := []) mixed autG_ok trivial 17 100 fun args K ho H => ?_
  unfold FLis at H
  split at H
  · rename_i a b c e f g h st id rq d ct tm nk mg pr mu pe ne
    rw [rlis_tree]
    clear ho
    have hL := lisB_iff a b c e f g h st id rq d ct tm nk mg pr mu pe ne
    have hset : fitsB a b c e f g h = false ∨ ¬ (1 ≤ mg ∧ mg ≤ 4294967295) ∨ setB mg (othR mg) b c e f = true := or3 fun h1 h2 h3 => setB_fits h1 (oth_may h2 h3).2
    have hg : fitsB a b c e f g h = false ∨ 0 ≤ g := or2 fun h1 => by rw [fitsB_iff] at h1; omega
    generalize lisB a b c e f g h st id rq d ct tm nk mg pr mu pe ne = lb at H hL
    generalize fitsB a b c e f g h = fb at hL hset hg ⊢
    generalize setB mg (othR mg) b c e f = se at hset ⊢
    generalize soundB st id rq d ct tm nk = sb at hL ⊢
    simp only [RT.holds]
    repeat' refine And.intro (fun _ => ?_) (fun _ => ?_)
    all_goals refine ⟨_, le_bool ?_, H⟩
    all_goals clear H
    all_goals rw [Bool.eq_iff_iff, hL]
    all_goals clear hL
    all_goals cases fb <;> cases se <;> cases sb
    all_goals simp only [decide_eq_true_eq, decide_eq_false_iff_not, Bool.not_eq_true', Bool.not_eq_false', bne_iff_ne, ne_eq, beq_iff_eq, Bool.not_eq_true, bne_eq_false_iff_eq, beq_eq_false_iff_ne, Bool.false_eq_true, Bool.true_eq_false, false_iff, Bool.not_false, Bool.not_true, true_and, false_and, and_false, false_or, or_false, or_true, true_or, not_false_eq_true, iff_false, iff_true, true_iff] at *
    all_goals omega
  · exact H.elim
end
end Go.Proofs.YtcambhbmobepjaaGreat

namespace Go.Proofs.YtcambhbmobepjaaGreat
set_option linter.unusedSimpArgs false
set_option linter.unusedVariables false
open Go.RowKit
set_option maxRecDepth 100000
noncomputable section

-- DEFS
/-- where the structure of what is handed in is known, by the function's own code -/
def cloA (P : Program) : Spec := altS head1 (evF P (gam []) (lam []) 100 98) (pureS P 98 FCloneB)
def cloAG (P : Program) : List (FuncId × Spec) := [(98, cloA P)]
def copA (P : Program) : Spec := altS head1 (evF P (gam (cloAG P)) (lam []) 100 79) (pureS P 79 FCopied)
def encA (P : Program) : Spec := altS head1 (evF P (gam []) (lam []) 100 78) (pureS P 78 FEnc)
def rencA (P : Program) : Spec := altS head1 (evF P (gam []) (lam []) 100 81) (pureS P 81 FEnc)
def newG (P : Program) : List (FuncId × Spec) := [(35, pureS P 35 FFits), (39, pureS P 39 FFits),
  (78, encA P), (81, rencA P),
  (38, pureS P 38 FPut), (42, pureS P 42 FPut),
  (79, copA P)]
-- END
-- STOPS: encE encO
theorem cloA_ok : SoundF Tryz.prog 98 (cloA Tryz.prog) := alt_ok (evF_ok mixed (gam_ok (l := []) trivial) (lam_ok (l := []) trivial) 100 _) cloneb_soundF
theorem cloAG_ok : GamL Tryz.prog (cloAG Tryz.prog) := ⟨cloA_ok, trivial⟩
theorem copA_ok : SoundF Tryz.prog 79 (copA Tryz.prog) := alt_ok (evF_ok mixed (gam_ok cloAG_ok) (lam_ok (l := []) trivial) 100 _) copied_soundF
theorem encA_ok : SoundF Tryz.prog 78 (encA Tryz.prog) := alt_ok (evF_ok mixed (gam_ok (l := []) trivial) (lam_ok (l := []) trivial) 100 _) encode_soundF
theorem rencA_ok : SoundF Tryz.prog 81 (rencA Tryz.prog) := alt_ok (evF_ok mixed (gam_ok (l := []) trivial) (lam_ok (l := []) trivial) 100 _) rencode_soundF
theorem newG_ok : GamL Tryz.prog (newG Tryz.prog) := ⟨fits_soundF, isconf_soundF, encA_ok, rencA_ok, put_soundF, rput_soundF, copA_ok, trivial⟩
theorem new_tree (a b c e f g h m : Int) : treeF (evF Tryz.prog (gam (newG Tryz.prog)) (lam ([])) 100 9) [cfgA a b c e f g h, ai m] =
    RT.br (!fitsB a b c e f g h)
      (RT.ok
        (AV.tup
          [AV.agg
              [AV.sc true (Value.int IntKind.i64 0), AV.sc true (Value.int IntKind.i64 0),
                AV.sc true (Value.int IntKind.i64 0), AV.sc true (Value.slice none 0 0),
                AV.sc true (Value.int IntKind.i64 0), AV.sc true (Value.int IntKind.i64 0),
                AV.sc true (Value.int IntKind.i64 0), AV.sc true (Value.int IntKind.i64 0),
                AV.sc true (Value.int IntKind.i64 0), AV.sc true (Value.int IntKind.i64 0),
                AV.sc true (Value.int IntKind.i64 0), AV.sc true (Value.int IntKind.i64 0)],
            AV.sc true (Value.int IntKind.i64 170)]))
      (RT.br (decide (1 ≤ m))
        (RT.br (!decide (m ≤ 4294967295))
          (RT.ok
            (AV.tup
              [AV.agg
                  [AV.sc true (Value.int IntKind.i64 0), AV.sc true (Value.int IntKind.i64 0),
                    AV.sc true (Value.int IntKind.i64 0), AV.sc true (Value.slice none 0 0),
                    AV.sc true (Value.int IntKind.i64 0), AV.sc true (Value.int IntKind.i64 0),
                    AV.sc true (Value.int IntKind.i64 0), AV.sc true (Value.int IntKind.i64 0),
                    AV.sc true (Value.int IntKind.i64 0), AV.sc true (Value.int IntKind.i64 0),
                    AV.sc true (Value.int IntKind.i64 0), AV.sc true (Value.int IntKind.i64 0)],
                AV.sc true (Value.int IntKind.i64 170)]))
          (RT.br (decide (0 ≤ IntKind.wrap IntKind.u64 a ∧ IntKind.wrap IntKind.u64 a < 18446744073709551616))
            (RT.br (decide (0 ≤ IntKind.wrap IntKind.u64 m ∧ IntKind.wrap IntKind.u64 m < 18446744073709551616))
              (RT.ok
                (AV.tup
                  [AV.agg
                      [AV.sc true (Value.int IntKind.i64 0), AV.sc true (Value.int IntKind.i64 0),
                        AV.sc true (Value.int IntKind.i64 0),
                        AV.sl true [Sh.int IntKind.i64, Sh.sl [Sh.int IntKind.u8]]
                          (D.app
                            (D.app (D.l [])
                              (D.l
                                [D.t
                                    [D.ki 1,
                                      D.kl
                                        [D.i (byI (IntKind.wrap IntKind.u64 a) 2 0),
                                          D.i (byI (IntKind.wrap IntKind.u64 a) 2 1)]]]))
                            (D.l
                              [D.t
                                  [D.ki 5,
                                    D.kl
                                      [D.i (byI (IntKind.wrap IntKind.u64 m) 4 0),
                                        D.i (byI (IntKind.wrap IntKind.u64 m) 4 1),
                                        D.i (byI (IntKind.wrap IntKind.u64 m) 4 2),
                                        D.i (byI (IntKind.wrap IntKind.u64 m) 4 3)]]]))
                          none,
                        AV.sc true (Value.int IntKind.i64 0), AV.sc true (Value.int IntKind.i64 0),
                        AV.sc true (Value.int IntKind.i64 0), AV.sc false (Value.int IntKind.i64 m),
                        AV.sc true (Value.int IntKind.i64 0), AV.sc true (Value.int IntKind.i64 1492),
                        AV.sc true (Value.int IntKind.i64 0), AV.sc true (Value.int IntKind.i64 0)],
                    AV.sc true (Value.int IntKind.i64 0)]))
              (RT.bad 200))
            (RT.bad 200)))
        (RT.ok
          (AV.tup
            [AV.agg
                [AV.sc true (Value.int IntKind.i64 0), AV.sc true (Value.int IntKind.i64 0),
                  AV.sc true (Value.int IntKind.i64 0), AV.sc true (Value.slice none 0 0),
                  AV.sc true (Value.int IntKind.i64 0), AV.sc true (Value.int IntKind.i64 0),
                  AV.sc true (Value.int IntKind.i64 0), AV.sc true (Value.int IntKind.i64 0),
                  AV.sc true (Value.int IntKind.i64 0), AV.sc true (Value.int IntKind.i64 0),
                  AV.sc true (Value.int IntKind.i64 0), AV.sc true (Value.int IntKind.i64 0)],
              AV.sc true (Value.int IntKind.i64 170)]))) := by kernel_rfl
theorem rnew_tree (a b c e f g h m : Int) : treeF (evF Tryz.prog (gam (newG Tryz.prog)) (lam ([])) 100 10) [cfgA a b c e f g h, ai m] =
    RT.br (!fitsB a b c e f g h)
      (RT.ok
        (AV.tup
          [AV.agg
              [AV.sc true (Value.int IntKind.i64 0), AV.sc true (Value.int IntKind.i64 0),
                AV.sc true (Value.int IntKind.i64 0), AV.sc true (Value.slice none 0 0),
                AV.sc true (Value.int IntKind.i64 0), AV.sc true (Value.int IntKind.i64 0),
                AV.sc true (Value.int IntKind.i64 0), AV.sc true (Value.int IntKind.i64 0),
                AV.sc true (Value.int IntKind.i64 0), AV.sc true (Value.int IntKind.i64 0),
                AV.sc true (Value.int IntKind.i64 0), AV.sc true (Value.int IntKind.i64 0)],
            AV.sc true (Value.int IntKind.i64 170)]))
      (RT.br (decide (1 ≤ m))
        (RT.br (!decide (m ≤ 4294967295))
          (RT.ok
            (AV.tup
              [AV.agg
                  [AV.sc true (Value.int IntKind.i64 0), AV.sc true (Value.int IntKind.i64 0),
                    AV.sc true (Value.int IntKind.i64 0), AV.sc true (Value.slice none 0 0),
                    AV.sc true (Value.int IntKind.i64 0), AV.sc true (Value.int IntKind.i64 0),
                    AV.sc true (Value.int IntKind.i64 0), AV.sc true (Value.int IntKind.i64 0),
                    AV.sc true (Value.int IntKind.i64 0), AV.sc true (Value.int IntKind.i64 0),
                    AV.sc true (Value.int IntKind.i64 0), AV.sc true (Value.int IntKind.i64 0)],
                AV.sc true (Value.int IntKind.i64 170)]))
          (RT.br (decide (0 ≤ IntKind.wrap IntKind.u64 a ∧ IntKind.wrap IntKind.u64 a < 18446744073709551616))
            (RT.br (decide (0 ≤ IntKind.wrap IntKind.u64 m ∧ IntKind.wrap IntKind.u64 m < 18446744073709551616))
              (RT.ok
                (AV.tup
                  [AV.agg
                      [AV.sc true (Value.int IntKind.i64 0), AV.sc true (Value.int IntKind.i64 0),
                        AV.sc true (Value.int IntKind.i64 0),
                        AV.sl true [Sh.int IntKind.i64, Sh.sl [Sh.int IntKind.u8]]
                          (D.l
                            [D.t
                                [D.ki 1,
                                  D.kl
                                    [D.i (byI (IntKind.wrap IntKind.u64 a) 2 0),
                                      D.i (byI (IntKind.wrap IntKind.u64 a) 2 1)]],
                              D.t
                                [D.ki 5,
                                  D.kl
                                    [D.i (byI (IntKind.wrap IntKind.u64 m) 4 0), D.i (byI (IntKind.wrap IntKind.u64 m) 4 1),
                                      D.i (byI (IntKind.wrap IntKind.u64 m) 4 2),
                                      D.i (byI (IntKind.wrap IntKind.u64 m) 4 3)]]])
                          none,
                        AV.sc true (Value.int IntKind.i64 0), AV.sc true (Value.int IntKind.i64 0),
                        AV.sc true (Value.int IntKind.i64 0), AV.sc false (Value.int IntKind.i64 m),
                        AV.sc true (Value.int IntKind.i64 0), AV.sc true (Value.int IntKind.i64 1492),
                        AV.sc true (Value.int IntKind.i64 0), AV.sc true (Value.int IntKind.i64 0)],
                    AV.sc true (Value.int IntKind.i64 0)]))
              (RT.bad 200))
            (RT.bad 200)))
        (RT.ok
          (AV.tup
            [AV.agg
                [AV.sc true (Value.int IntKind.i64 0), AV.sc true (Value.int IntKind.i64 0),
                  AV.sc true (Value.int IntKind.i64 0), AV.sc true (Value.slice none 0 0),
                  AV.sc true (Value.int IntKind.i64 0), AV.sc true (Value.int IntKind.i64 0),
                  AV.sc true (Value.int IntKind.i64 0), AV.sc true (Value.int IntKind.i64 0),
                  AV.sc true (Value.int IntKind.i64 0), AV.sc true (Value.int IntKind.i64 0),
                  AV.sc true (Value.int IntKind.i64 0), AV.sc true (Value.int IntKind.i64 0)],
              AV.sc true (Value.int IntKind.i64 170)]))) := by kernel_rfl
end
end Go.Proofs.YtcambhbmobepjaaGreat

namespace Go.Proofs.YtcambhbmobepjaaGreat
set_option linter.unusedSimpArgs false
set_option linter.unusedVariables false
open Go.RowKit
set_option maxRecDepth 100000
noncomputable section

-- DEFS
abbrev k0 : AV := .sc true (.int .i64 0)
def uns (n : Int) : Int := IntKind.u64.wrap n
def byL (n : Int) : Nat → D
  | 2 => .kl [.i (byI n 2 0), .i (byI n 2 1)]
  | _ => .kl [.i (byI n 4 0), .i (byI n 4 1), .i (byI n 4 2), .i (byI n 4 3)]
def asksD (a m : Int) : D := .l [.t [.ki 1, byL (uns a) 2], .t [.ki 5, byL (uns m) 4]]
def newB (a b c e f g h m : Int) : Bool := fitsB a b c e f g h && decide (1 ≤ m ∧ m ≤ 4294967295)
abbrev newY (a m : Int) : AV := .tup [.agg [k0, k0, k0, .sl true opS (asksD a m) none, k0, k0, k0, ai m, k0, .sc true (.int .i64 1492), k0, k0], k0]
abbrev newN : AV := .tup [.agg [k0, k0, k0, .sc true (.slice none 0 0), k0, k0, k0, k0, k0, k0, k0, k0], .sc true (.int .i64 170)]
def FLNew : List AV → RT AV
  | [.agg [.sc false (.int .i64 a), .sc false (.int .i64 b), .sc false (.int .i64 c), .sc false (.int .i64 e), .sc false (.int .i64 f), .sc false (.int .i64 g), .sc false (.int .i64 h)], .sc false (.int .i64 m)] => .br (newB a b c e f g h m) (.ok (newY a m)) (.ok newN)
  | _ => .bad 210
-- END
theorem uns_range (n : Int) : 0 ≤ IntKind.u64.wrap n ∧ IntKind.u64.wrap n < 18446744073709551616 := by
  have : IntKind.u64.wrap n = n % 18446744073709551616 := by
    simp [IntKind.wrap, IntKind.bits, IntKind.signed]
  omega
theorem newB_iff (a b c e f g h m : Int) : newB a b c e f g h m = true ↔ fitsB a b c e f g h = true ∧ 1 ≤ m ∧ m ≤ 4294967295 := by
  simp only [newB, Bool.and_eq_true, decide_eq_true_eq]
theorem le_asks {a m : Int} {d : D} (h : d.raw = (asksD a m).raw) : Le (.tup [.agg [k0, k0, k0, .sl true opS d none, k0, k0, k0, ai m, k0, .sc true (.int .i64 1492), k0, k0], k0]) (newY a m) :=
  le_tup (leL_cons (le_agg (leL_cons (Le.refl _) (leL_cons (Le.refl _) (leL_cons (Le.refl _) (leL_cons (le_raw h) fun _ _ h => h))))) fun _ _ h => h)
theorem lnew_soundF : SoundF Tryz.prog 9 (pureS Tryz.prog 9 FLNew) := by
  refine pure_in (gs := newG Tryz.prog) (ls := []) mixed newG_ok trivial 9 100 fun args K ho H => ?_
  unfold FLNew at H
  split at H
  · rename_i a b c e f g h m
    rw [new_tree]
    have hn := newB_iff a b c e f g h m
    have hno : ∀ (hx : ¬ (fitsB a b c e f g h = true ∧ 1 ≤ m ∧ m ≤ 4294967295)), K newN := fun hx => H.2 (by cases hb : newB a b c e f g h m; rfl; exact absurd (hn.1 hb) hx)
    refine ⟨fun h1 => ⟨_, Le.refl _, hno fun hx => ?_⟩, fun h1 => ⟨fun h2 => ⟨fun h3 => ⟨_, Le.refl _, hno fun hx => ?_⟩, fun h3 => ⟨fun h4 => ⟨fun h5 => ⟨_, le_asks (a := a) (by kernel_rfl), H.1 (hn.2 ?_)⟩, fun h5 => absurd (uns_range m) (of_decide_eq_false h5)⟩, fun h4 => absurd (uns_range a) (of_decide_eq_false h4)⟩⟩, fun h2 => ⟨_, Le.refl _, hno fun hx => ?_⟩⟩⟩
    · rw [hx.1] at h1; cases h1
    · rw [decide_eq_true hx.2.2] at h3; cases h3
    · refine ⟨by cases hf : fitsB a b c e f g h; rw [hf] at h1; cases h1; rfl, of_decide_eq_true h2, ?_⟩
      simpa using h3
    · exact absurd hx.2.1 (of_decide_eq_false h2)
  · exact H.elim
theorem rlnew_soundF : SoundF Tryz.prog 10 (pureS Tryz.prog 10 FLNew) := by
  refine pure_in (gs := newG Tryz.prog) (ls := []) mixed newG_ok trivial 10 100 fun args K ho H => ?_
  unfold FLNew at H
  split at H
  · rename_i a b c e f g h m
    rw [rnew_tree]
    have hn := newB_iff a b c e f g h m
    have hno : ∀ (hx : ¬ (fitsB a b c e f g h = true ∧ 1 ≤ m ∧ m ≤ 4294967295)), K newN := fun hx => H.2 (by cases hb : newB a b c e f g h m; rfl; exact absurd (hn.1 hb) hx)
    refine ⟨fun h1 => ⟨_, Le.refl _, hno fun hx => ?_⟩, fun h1 => ⟨fun h2 => ⟨fun h3 => ⟨_, Le.refl _, hno fun hx => ?_⟩, fun h3 => ⟨fun h4 => ⟨fun h5 => ⟨_, le_asks (a := a) (by kernel_rfl), H.1 (hn.2 ?_)⟩, fun h5 => absurd (uns_range m) (of_decide_eq_false h5)⟩, fun h4 => absurd (uns_range a) (of_decide_eq_false h4)⟩⟩, fun h2 => ⟨_, Le.refl _, hno fun hx => ?_⟩⟩⟩
    · rw [hx.1] at h1; cases h1
    · rw [decide_eq_true hx.2.2] at h3; cases h3
    · refine ⟨by cases hf : fitsB a b c e f g h; rw [hf] at h1; cases h1; rfl, of_decide_eq_true h2, ?_⟩
      simpa using h3
    · exact absurd hx.2.1 (of_decide_eq_false h2)
  · exact H.elim
end
end Go.Proofs.YtcambhbmobepjaaGreat

namespace Go.Proofs.YtcambhbmobepjaaGreat
set_option linter.unusedSimpArgs false
set_option linter.unusedVariables false
open Go.RowKit
set_option maxRecDepth 100000
noncomputable section

-- DEFS
abbrev f0 : AV := .sc false (.int .i64 0)
abbrev lcpC (st id rq : Int) (d : D) (ct tm nk mg pr mu pe ne : Int) : List AV := [ai st, ai id, ai rq, asl opS d, ai ct, ai tm, ai nk, ai mg, ai pr, ai mu, ai pe, ai ne]
abbrev zerC : List AV := [f0, f0, f0, .sc false (.slice none 0 0), f0, f0, f0, f0, f0, f0, f0, f0]
def lgtL : Lw := ⟨[1, 2, 3, 4], [(false, 3, 0, 92)], 2, 1, 1000, 1000⟩
-- END
theorem lgt_body (st id rq : Int) (d : D) (ct tm nk mg pr mu pe ne : Int) (out : D) (i : Int) : roundT (⟨[1, 2, 3, 4], [(false, 3, 0, 92)], 2, 1, 1000, 1000⟩) (evC Tryz.prog (gam ([])) (lam ([])) 100 8 (loopAt 0 (bodyOf Tryz.prog 8)) (⟨49, [(1, .ptr 0 0), (2, .ptr 1 0), (3, sh opS out 0 1000), (4, ai i)], []⟩) (⟨[(0, lcpC st id rq d ct tm nk mg pr mu pe ne), (1, zerC)], 2, [(0, 1000, 92)], 1, 1001, 1000⟩)) =
    RT.br (decide (i < (↑(D.len d) : Int)))
      (RT.br (decide (i < 70))
        (RT.br (decide (0 ≤ i ∧ i < (↑(D.len d) : Int)))
          (RT.br (decide (0 ≤ i ∧ i < (↑(D.len d) : Int)))
            (RT.br (decide (0 ≤ i ∧ i < (↑(D.len d) : Int)))
              (RT.br
                (decide
                  ((0 : Int) ≤ 0 ∧
                    0 ≤ imin (↑(D.len (D.cell (D.get d (Int.toNat i)) 1)) : Int) 260 ∧
                      imin (↑(D.len (D.cell (D.get d (Int.toNat i)) 1)) : Int) 260 ≤
                          (↑(D.len (D.cell (D.get d (Int.toNat i)) 1)) : Int) ∧
                        (↑(D.len (D.cell (D.get d (Int.toNat i)) 1)) : Int) ≤
                          (↑(D.len (D.cell (D.get d (Int.toNat i)) 1)) : Int)))
                (RT.br (decide ((D.len out + 1) * 32 ≤ 140737488355328))
                  (RT.ok
                    (Ex.normal,
                      { nt := 49,
                        tm :=
                          [(1, AV.ptr 0 0), (2, AV.ptr 1 0),
                            (3,
                              AV.sl false [Sh.int IntKind.i64, Sh.sl [Sh.int IntKind.u8]]
                                (D.app out
                                  (D.l
                                    [D.t
                                        [D.i (D.toI (D.cell (D.get d (Int.toNat i)) 0)),
                                          D.sub (D.cell (D.get d (Int.toNat i)) 1) 0
                                            (Int.toNat (imin (↑(D.len (D.cell (D.get d (Int.toNat i)) 1)) : Int) 260))]]))
                                (some (0, 1000))),
                            (4, AV.sc false (Value.int IntKind.i64 (IntKind.wrap IntKind.i64 (i + 1))))],
                        df := [] },
                      {
                        ob :=
                          [(0,
                              [AV.sc false (Value.int IntKind.i64 st), AV.sc false (Value.int IntKind.i64 id),
                                AV.sc false (Value.int IntKind.i64 rq),
                                AV.sl false [Sh.int IntKind.i64, Sh.sl [Sh.int IntKind.u8]] d none,
                                AV.sc false (Value.int IntKind.i64 ct), AV.sc false (Value.int IntKind.i64 tm),
                                AV.sc false (Value.int IntKind.i64 nk), AV.sc false (Value.int IntKind.i64 mg),
                                AV.sc false (Value.int IntKind.i64 pr), AV.sc false (Value.int IntKind.i64 mu),
                                AV.sc false (Value.int IntKind.i64 pe), AV.sc false (Value.int IntKind.i64 ne)]),
                            (1,
                              [AV.sc false (Value.int IntKind.i64 0), AV.sc false (Value.int IntKind.i64 0),
                                AV.sc false (Value.int IntKind.i64 0), AV.sc false (Value.slice none 0 0),
                                AV.sc false (Value.int IntKind.i64 0), AV.sc false (Value.int IntKind.i64 0),
                                AV.sc false (Value.int IntKind.i64 0), AV.sc false (Value.int IntKind.i64 0),
                                AV.sc false (Value.int IntKind.i64 0), AV.sc false (Value.int IntKind.i64 0),
                                AV.sc false (Value.int IntKind.i64 0), AV.sc false (Value.int IntKind.i64 0)])],
                        nx := 2, gn := [(0, 1000, 92)], nv := 1, ng := 1001, ep := 1000 }))
                  (RT.bad 70))
                (RT.bad 37))
              (RT.bad 42))
            (RT.bad 42))
          (RT.bad 42))
        (RT.ok
          (Ex.exit 0,
            { nt := 49,
              tm :=
                [(1, AV.ptr 0 0), (2, AV.ptr 1 0),
                  (3, AV.sl false [Sh.int IntKind.i64, Sh.sl [Sh.int IntKind.u8]] out (some (0, 1000))),
                  (4, AV.sc false (Value.int IntKind.i64 i))],
              df := [] },
            {
              ob :=
                [(0,
                    [AV.sc false (Value.int IntKind.i64 st), AV.sc false (Value.int IntKind.i64 id),
                      AV.sc false (Value.int IntKind.i64 rq),
                      AV.sl false [Sh.int IntKind.i64, Sh.sl [Sh.int IntKind.u8]] d none,
                      AV.sc false (Value.int IntKind.i64 ct), AV.sc false (Value.int IntKind.i64 tm),
                      AV.sc false (Value.int IntKind.i64 nk), AV.sc false (Value.int IntKind.i64 mg),
                      AV.sc false (Value.int IntKind.i64 pr), AV.sc false (Value.int IntKind.i64 mu),
                      AV.sc false (Value.int IntKind.i64 pe), AV.sc false (Value.int IntKind.i64 ne)]),
                  (1,
                    [AV.sc false (Value.int IntKind.i64 0), AV.sc false (Value.int IntKind.i64 0),
                      AV.sc false (Value.int IntKind.i64 0), AV.sc false (Value.slice none 0 0),
                      AV.sc false (Value.int IntKind.i64 0), AV.sc false (Value.int IntKind.i64 0),
                      AV.sc false (Value.int IntKind.i64 0), AV.sc false (Value.int IntKind.i64 0),
                      AV.sc false (Value.int IntKind.i64 0), AV.sc false (Value.int IntKind.i64 0),
                      AV.sc false (Value.int IntKind.i64 0), AV.sc false (Value.int IntKind.i64 0)])],
              nx := 2, gn := [(0, 1000, 92)], nv := 1, ng := 1001, ep := 1000 })))
      (RT.ok
        (Ex.exit 0,
          { nt := 49,
            tm :=
              [(1, AV.ptr 0 0), (2, AV.ptr 1 0),
                (3, AV.sl false [Sh.int IntKind.i64, Sh.sl [Sh.int IntKind.u8]] out (some (0, 1000))),
                (4, AV.sc false (Value.int IntKind.i64 i))],
            df := [] },
          {
            ob :=
              [(0,
                  [AV.sc false (Value.int IntKind.i64 st), AV.sc false (Value.int IntKind.i64 id),
                    AV.sc false (Value.int IntKind.i64 rq),
                    AV.sl false [Sh.int IntKind.i64, Sh.sl [Sh.int IntKind.u8]] d none,
                    AV.sc false (Value.int IntKind.i64 ct), AV.sc false (Value.int IntKind.i64 tm),
                    AV.sc false (Value.int IntKind.i64 nk), AV.sc false (Value.int IntKind.i64 mg),
                    AV.sc false (Value.int IntKind.i64 pr), AV.sc false (Value.int IntKind.i64 mu),
                    AV.sc false (Value.int IntKind.i64 pe), AV.sc false (Value.int IntKind.i64 ne)]),
                (1,
                  [AV.sc false (Value.int IntKind.i64 0), AV.sc false (Value.int IntKind.i64 0),
                    AV.sc false (Value.int IntKind.i64 0), AV.sc false (Value.slice none 0 0),
                    AV.sc false (Value.int IntKind.i64 0), AV.sc false (Value.int IntKind.i64 0),
                    AV.sc false (Value.int IntKind.i64 0), AV.sc false (Value.int IntKind.i64 0),
                    AV.sc false (Value.int IntKind.i64 0), AV.sc false (Value.int IntKind.i64 0),
                    AV.sc false (Value.int IntKind.i64 0), AV.sc false (Value.int IntKind.i64 0)])],
            nx := 2, gn := [(0, 1000, 92)], nv := 1, ng := 1001, ep := 1000 })) := by kernel_rfl
-- STOPS: lgtN lgtE
/-- how many options are looked at, and what of each -/
def lgtN (d : D) : Nat := min d.len 70
def lgtE (d : D) (i : Nat) : D := .t [.i ((d.get i).cell 0).toI, ((d.get i).cell 1).sub 0 (imin ((((d.get i).cell 1).len : Nat) : Int) 260).toNat]
theorem imin_bounds (n : Nat) : 0 ≤ imin (n : Int) 260 ∧ imin (n : Int) 260 ≤ (n : Int) := by unfold imin; split <;> omega
def lgtF (i : Nat) (out : D) : Tm := ⟨49, [(1, .ptr 0 0), (2, .ptr 1 0), (3, sh opS out 0 1000), (4, ai i)], []⟩
def lgtH (st id rq : Int) (d : D) (ct tm nk mg pr mu pe ne : Int) : Hp := ⟨[(0, lcpC st id rq d ct tm nk mg pr mu pe ne), (1, zerC)], 2, [(0, 1000, 92)], 1, 1001, 1000⟩
structure LcpV where
  st : Int
  id : Int
  rq : Int
  d : D
  ct : Int
  tm : Int
  nk : Int
  mg : Int
  pr : Int
  mu : Int
  pe : Int
  ne : Int
def LcpV.cells (x : LcpV) : List AV := lcpC x.st x.id x.rq x.d x.ct x.tm x.nk x.mg x.pr x.mu x.pe x.ne
def LcpV.heap (x : LcpV) : Hp := lgtH x.st x.id x.rq x.d x.ct x.tm x.nk x.mg x.pr x.mu x.pe x.ne
def lgtDec (F : Tm) (h : Hp) : Option (LcpV × Nat) := match F, h with
  | ⟨49, [(1, .ptr 0 0), (2, .ptr 1 0), (3, .sl false [.int .i64, .sl [.int .u8]] (.l []) (some (0, 1000))), (4, .sc false (.int .i64 0))], []⟩,
    ⟨[(0, [.sc false (.int .i64 st), .sc false (.int .i64 id), .sc false (.int .i64 rq), .sl false [.int .i64, .sl [.int .u8]] d none, .sc false (.int .i64 ct), .sc false (.int .i64 tm), .sc false (.int .i64 nk), .sc false (.int .i64 mg), .sc false (.int .i64 pr), .sc false (.int .i64 mu), .sc false (.int .i64 pe), .sc false (.int .i64 ne)]),
      (1, [.sc false (.int .i64 0), .sc false (.int .i64 0), .sc false (.int .i64 0), .sc false (.slice none 0 0), .sc false (.int .i64 0), .sc false (.int .i64 0), .sc false (.int .i64 0), .sc false (.int .i64 0), .sc false (.int .i64 0), .sc false (.int .i64 0), .sc false (.int .i64 0), .sc false (.int .i64 0)])], 2, [(0, 1000, 92)], 1, 1001, 1000⟩ => some (⟨st, id, rq, d, ct, tm, nk, mg, pr, mu, pe, ne⟩, 0)
  | _, _ => none
def lgtT (x : LcpV × Nat) : RT Out := need false (decide (x.2 ≤ lgtN x.1.d)) 211 (.ok (.normal, lgtF (lgtN x.1.d) (tabD (lgtE x.1.d) (lgtN x.1.d)), x.1.heap))
theorem lgt_loop : LamE Tryz.prog 8 0 (loopS Tryz.prog lgtL lgtDec lgtT) := by
  refine loop_in2 (gs := []) (ls := []) mixed trivial trivial _ 0 100 (by kernel_rfl) lgtL (mkF := fun x => lgtF x.2 (tabD (lgtE x.1.d) x.2)) (mkH := fun x => x.1.heap) (fun x => lgtN x.1.d - x.2) ?_ ?_
  · intro F h x hx
    unfold lgtDec at hx
    split at hx
    · cases hx; exact ⟨rfl, rfl⟩
    · cases hx
  · rintro ⟨⟨st, id, rq, d, ct, tm, nk, mg, pr, mu, pe, ne⟩, i⟩ K H
    obtain ⟨hc, H⟩ := need_holds H
    have hi : i ≤ lgtN d := of_decide_eq_true hc
    have hm := d.len_le
    have hn : lgtN d ≤ d.len := Nat.min_le_left _ _
    have hn' : lgtN d ≤ 70 := Nat.min_le_right _ _
    have hN : lgtN d = min d.len 70 := rfl
    have hmx : (70 : Nat) ≤ maxLen := by unfold maxLen; omega
    have hb := imin_bounds ((d.get i).cell 1).len
    show (roundT lgtL (evC _ _ _ _ _ _ (lgtF i (tabD (lgtE d) i)) (lgtH st id rq d ct tm nk mg pr mu pe ne))).holds _
    unfold lgtL lgtF lgtH
    rw [lgt_body]
    have out : i = lgtN d → Round (fun x : LcpV × Nat => lgtF x.2 (tabD (lgtE x.1.d) x.2)) (fun x => x.1.heap) lgtT (fun x => lgtN x.1.d - x.2) 0 (⟨st, id, rq, d, ct, tm, nk, mg, pr, mu, pe, ne⟩, i) K (.exit 0, lgtF i (tabD (lgtE d) i), lgtH st id rq d ct tm nk mg pr mu pe ne) := fun e => by
      subst e; exact H
    refine ⟨fun h1 => ⟨fun h2 => ?_, fun h2 => out ?_⟩, fun h1 => out ?_⟩
    · have h1 : i < d.len := by have := of_decide_eq_true h1; omega
      have h2 : i < 70 := by have := of_decide_eq_true h2; omega
      have hin : (0 : Int) ≤ (i : Int) ∧ (i : Int) < (d.len : Int) := ⟨by omega, by omega⟩
      refine ⟨fun _ => ⟨fun _ => ⟨fun _ => ⟨fun _ => ⟨fun _ => ?_, fun h => ?_⟩, fun h => ?_⟩, fun h => absurd hin (of_decide_eq_false h)⟩, fun h => absurd hin (of_decide_eq_false h)⟩, fun h => absurd hin (of_decide_eq_false h)⟩
      · refine ⟨(⟨st, id, rq, d, ct, tm, nk, mg, pr, mu, pe, ne⟩, i + 1), ⟨?_, rfl⟩, by show lgtN d - (i + 1) < lgtN d - i; omega, ?_⟩
        · rw [wrap_succ (n := d.len) h1 hm]
          exact congrArg (fun o => lgtF (i + 1) o) (tabD_succ (f := lgtE d) (n := i) (by omega))
        · exact ⟨fun _ => H, fun hf => by
            have := of_decide_eq_false hf
            exact absurd (by show i + 1 ≤ lgtN d; omega) this⟩
      · refine absurd ?_ (of_decide_eq_false h)
        rw [tabD_len (by omega)]
        omega
      · exact absurd ⟨Int.le_refl _, hb.1, hb.2, Int.le_refl _⟩ (of_decide_eq_false h)
    · have h1 : i < d.len := by have := of_decide_eq_true h1; omega
      have h2 : ¬ i < 70 := by have := of_decide_eq_false h2; omega
      omega
    · have h1 : ¬ i < d.len := by have := of_decide_eq_false h1; omega
      omega
def lgtLs (P : Program) : List (FuncId × Nat × BSpec) := [(8, 0, loopS P lgtL lgtDec lgtT)]
theorem lgtLs_ok : LamL Tryz.prog (lgtLs Tryz.prog) := ⟨lgt_loop, trivial⟩
end
end Go.Proofs.YtcambhbmobepjaaGreat

namespace Go.Proofs.YtcambhbmobepjaaGreat
set_option linter.unusedSimpArgs false
set_option linter.unusedVariables false
open Go.RowKit
set_option maxRecDepth 100000
noncomputable section

theorem lgt_tree (st id rq : Int) (d : D) (ct tm nk mg pr mu pe ne : Int) : treeF (evF Tryz.prog (gam ([])) (lam (lgtLs Tryz.prog)) 100 8) [lcpA st id rq d ct tm nk mg pr mu pe ne] =
    RT.br true
      (RT.ok
        (AV.agg
          [AV.sc false (Value.int IntKind.i64 st), AV.sc false (Value.int IntKind.i64 id),
            AV.sc false (Value.int IntKind.i64 rq),
            AV.sl false [Sh.int IntKind.i64, Sh.sl [Sh.int IntKind.u8]]
              (tabD
                (lgtE
                  (LcpV.d
                    { st := st, id := id, rq := rq, d := d, ct := ct, tm := tm, nk := nk, mg := mg, pr := pr, mu := mu,
                      pe := pe, ne := ne }))
                (lgtN d))
              none,
            AV.sc false (Value.int IntKind.i64 ct), AV.sc false (Value.int IntKind.i64 tm),
            AV.sc false (Value.int IntKind.i64 nk), AV.sc false (Value.int IntKind.i64 mg),
            AV.sc false (Value.int IntKind.i64 pr), AV.sc false (Value.int IntKind.i64 mu),
            AV.sc false (Value.int IntKind.i64 pe), AV.sc false (Value.int IntKind.i64 ne)]))
      (RT.bad 211) := by kernel_rfl
def FLight : List AV → RT AV
  | [.agg [.sc false (.int .i64 st), .sc false (.int .i64 id), .sc false (.int .i64 rq), .sl false [.int .i64, .sl [.int .u8]] d none, .sc false (.int .i64 ct), .sc false (.int .i64 tm), .sc false (.int .i64 nk), .sc false (.int .i64 mg), .sc false (.int .i64 pr), .sc false (.int .i64 mu), .sc false (.int .i64 pe), .sc false (.int .i64 ne)]] => .ok (lcpA st id rq (tabD (lgtE d) (lgtN d)) ct tm nk mg pr mu pe ne)
  | _ => .bad 212
theorem light_soundF : SoundF Tryz.prog 8 (pureS Tryz.prog 8 FLight) := by
  refine pure_in (gs := []) (ls := lgtLs Tryz.prog) mixed trivial lgtLs_ok 8 100 fun args K ho H => ?_
  unfold FLight at H
  split at H
  · rename_i st id rq d ct tm nk mg pr mu pe ne
    rw [lgt_tree]
    refine ⟨fun h1 => ⟨_, Le.refl _, H⟩, fun h1 => by cases h1⟩
  · exact H.elim
end
end Go.Proofs.YtcambhbmobepjaaGreat

namespace Go.Proofs.YtcambhbmobepjaaGreat
set_option linter.unusedSimpArgs false
set_option linter.unusedVariables false
open Go.RowKit
set_option maxRecDepth 100000
noncomputable section

-- DEFS
/-- a copy in a row of one's own, that may change -/
def cloneRowS : Spec := fun args h => match args with
  | [.sl kn es d _] => bif Sh.eqsL es opS then brk kn (decide (d.len = 0)) (.ok (.sl true opS (.l []) none, h)) (.ok (.rsl kn h.nx 2 d.len, (newA [.rw opS d] h).2)) else .bad 214
  | [.sc _ (.slice none 0 0)] => .ok (.sl true opS (.l []) none, h)
  | _ => .bad 215
-- END
theorem el_opt : ElemOf Tryz.prog 25 92 2 32 (.agg #[.int .i64 0, .slice none 0 0]) := ⟨by kernel_rfl, ⟨_, rfl, rfl, rfl, rfl⟩, rfl, by decide, by decide⟩
theorem eqlo_nil {w : World} {t e : TypeId} {a : Option Addr} {n c : Nat} (h : Tryz.prog.underlying t = some (.slice e)) : (binOp .eql t (.slice a n c) (.slice none 0 0)).run Tryz.prog w = .ok (.bool a.isNone) w :=
  Lib.run_eql_slice_nil w t e a n c 0 0 h
theorem srcO_alloc {w : World} {size : Nat} {v : Value} {n : Nat} {xs : List Value} (h : SrcOf w size v n xs) (x : Obj) : SrcOf (w.alloc x) size v n xs := h.alloc x
/-- a copy of a row that is not nil -/
theorem clone_opt (ad : Addr) (n cap : Nat) (xs : List Value) (w : World) (hs : SrcOf w 2 (.slice (some ad) n cap) n xs) (hn : n * 32 ≤ 140737488355328) :
    Calls Tryz.prog 97 #[.slice (some ad) n cap] w fun e w' => ∃ v', e = .returned v' ∧ Below w.heap.size w w' ∧ w'.ownsRow w.heap.size 92 2 v' n xs := by
  have hq : ∀ W, (binOp .eql 25 (.slice (some ad) n cap) (.slice none 0 0)).run Tryz.prog W = .ok (.bool false) W := fun W => eqlo_nil el_opt.ht
  have Hsrc := Lib.hid (srcO_alloc hs (.cells #[] 92))
  have Hown := Lib.hid (own_empty w w.heap.size (Nat.le_refl _) 92 2)
  go_enter Tryz.func97, Tryz.ntmps97
  go_wp2_with (at_builtin; go_must (refine wpList_append_from rfl _ _ _ rfl w.heap.size el_opt rfl Hown.out rfl Hsrc.out (by omega) (by simp) ?_); intro v' w' ho hg hb)
  refine bodyPost_ret (v := v') (by simp [results, Tryz.results97, go_sem]) rfl ⟨_, rfl, ((Below.refl _ _).alloc (Nat.le_refl _) _).trans hb, ?_⟩
  simpa using ho
theorem clone_optN (w : World) :
    Calls Tryz.prog 97 #[.slice none 0 0] w fun e w' => e = .returned (.slice none 0 0) ∧ w' = w := by
  have hq : ∀ W, (binOp .eql 25 (.slice none 0 0) (.slice none 0 0)).run Tryz.prog W = .ok (.bool true) W := fun W => eqlo_nil el_opt.ht
  go_enter Tryz.func97, Tryz.ntmps97
  go_wp2
  exact bodyPost_ret (v := .slice none 0 0) (by simp [results, Tryz.results97, go_sem]) rfl ⟨rfl, rfl⟩
theorem lf_empty {Z : Nat → Nat → Option Value} {es : List Sh} {w : World} {base e sz : Nat} {v : Value} {xs : List Value} (h : w.ownsRow base e sz v 0 xs) : LF Z (.sl es) v (.l []) := by
  have h0 : (D.l []).len = 0 := by simp [D.len, D.toL, D.raw]
  rcases h.2 with ⟨rfl, _⟩ | ⟨g, cap, cur, rfl, _, _, _, hcm, _⟩
  · exact ⟨by rw [h0, Nat.zero_mul]; exact Nat.zero_le _, none, 0, by rw [h0], by rw [h0]; exact Nat.le_refl _, Nat.zero_le _, fun _ => rfl, fun hn => absurd h0 hn⟩
  · exact ⟨by rw [h0, Nat.zero_mul]; exact Nat.zero_le _, some ⟨g, 0, none⟩, cap, by rw [h0], by rw [h0]; exact Nat.zero_le _, hcm, (fun h => by cases h), fun hn => absurd h0 hn⟩
theorem cloneRow_soundF : SoundF Tryz.prog 97 cloneRowS := by
  intro args h K H w0 G E w vals I hr
  unfold cloneRowS at H
  split at H
  · rename_i kn es d tip
    cases hes : Sh.eqsL es opS
    · rw [hes] at H; exact H.elim
    rw [hes] at H
    simp only [cond_true] at H
    obtain rfl := Sh.eqsL_eq _ _ hes
    obtain ⟨v, vs', rfl, ⟨hl, _⟩, h3⟩ := hr
    have h3' : vs' = [] := h3
    subst h3'
    obtain ⟨news, hsrc, hnl, hone, hrest⟩ := slice_cells I hl
    obtain ⟨hbd, ad, cap, rfl, h1, h2, h3, h4⟩ := hl
    have hbd' : d.len * 32 ≤ 140737488355328 := by
      have : d.len * 32 ≤ 140737488355328 := hbd
      omega
    rcases brk_holds H with ⟨h0, H⟩ | ⟨h0, H⟩
    · have h0 := of_decide_eq_true h0
      cases ad with
      | none =>
        have hc := h3 rfl
        rw [h0, hc]
        refine (clone_optN w).mono ?_
        rintro e w' ⟨rfl, rfl⟩
        refine ⟨_, h, _, E, H, rfl, Stepd.refl I, ⟨?_, trivial⟩⟩
        have h0' : (D.l []).len = 0 := by simp [D.len, D.toL, D.raw]
        exact ⟨by rw [h0', Nat.zero_mul]; exact Nat.zero_le _, none, 0, by rw [h0'], by rw [h0']; exact Nat.le_refl _, Nat.zero_le _, fun _ => rfl, fun hn => absurd h0' hn⟩
      | some ad =>
        refine (clone_opt ad d.len cap news w hsrc hbd').mono ?_
        rintro e w' ⟨v', rfl, hb, ho⟩
        rw [h0] at ho
        exact ⟨_, h, v', _, H, rfl, I.fresh hb, lf_empty ho, trivial⟩
    · have h0 := of_decide_eq_false h0
      obtain ⟨b, o, ⟨n', c', hv⟩, hel, hz⟩ := hrest h0
      cases ad with
      | none => cases hv
      | some ad =>
        refine (clone_opt ad d.len cap news w hsrc hbd').mono ?_
        rintro e w' ⟨v', rfl, hb, ho⟩
        have hre : ∀ i, i < d.len → RE E.Z opS news.toArray (i * opS.length) (d.get i) 0 := fun i hi => by
          refine el_re hz ?_ (hel i hi)
          have := Nat.mul_le_mul_right opS.length (show i + 1 ≤ d.len by omega)
          rw [Nat.add_mul, Nat.one_mul] at this
          rw [hnl]; omega
        obtain ⟨E', S, hv'⟩ := own_rowE (kn := kn) (es := opS) (d := d) I hb ho h0 hbd hre
        exact ⟨_, _, v', E', H, rfl, S, hv'⟩
  · obtain ⟨v, vs', rfl, ⟨rfl, _⟩, h3⟩ := hr
    have h3' : vs' = [] := h3
    subst h3'
    refine (clone_optN w).mono ?_
    rintro e w' ⟨rfl, rfl⟩
    refine ⟨_, h, _, E, H, rfl, Stepd.refl I, ⟨?_, trivial⟩⟩
    have h0' : (D.l []).len = 0 := by simp [D.len, D.toL, D.raw]
    exact ⟨by rw [h0', Nat.zero_mul]; exact Nat.zero_le _, none, 0, by rw [h0'], by rw [h0']; exact Nat.le_refl _, Nat.zero_le _, fun _ => rfl, fun hn => absurd h0' hn⟩
  · exact H.elim
end
end Go.Proofs.YtcambhbmobepjaaGreat

namespace Go.Proofs.YtcambhbmobepjaaGreat
set_option linter.unusedSimpArgs false
set_option linter.unusedVariables false
open Go.RowKit
set_option maxRecDepth 100000
noncomputable section

-- DEFS
def ownG (P : Program) : List (FuncId × Spec) := [(98, pureS P 98 FCloneB), (97, cloneRowS)]
abbrev ownC (st id rq : Int) (n : Nat) (ct tm nk mg pr mu pe ne : Int) : List AV := [ai st, ai id, ai rq, .rsl false 2 2 n, ai ct, ai tm, ai nk, ai mg, ai pr, ai mu, ai pe, ai ne]
-- END
theorem ownG_ok : GamL Tryz.prog (ownG Tryz.prog) := ⟨cloneb_soundF, cloneRow_soundF, trivial⟩
theorem own_body (st id rq : Int) (n : Nat) (ct tm nk mg pr mu pe ne : Int) (d : D) (i : Int) : roundT (⟨[1, 2, 13, 14], [], 3, 0, 1000, 1000⟩) (evC Tryz.prog (gam (ownG Tryz.prog)) (lam ([])) 100 61 (loopAt 0 (bodyOf Tryz.prog 61)) (⟨33, [(1, .ptr 0 0), (2, .ptr 1 0), (13, ai n), (14, ai i)], []⟩) (⟨[(0, ownC st id rq n ct tm nk mg pr mu pe ne), (1, zerC), (2, [.rw opS d])], 3, [], 0, 1000, 1000⟩)) =
    RT.br (decide (i < (↑n : Int)))
      (RT.br (decide (0 ≤ i ∧ i < (↑n : Int)))
        (RT.br (decide (Int.toNat i < D.len d))
          (RT.br (decide (0 ≤ i ∧ i < (↑n : Int)))
            (RT.br (decide (Int.toNat i < D.len d))
              (RT.ok
                (Ex.normal,
                  { nt := 33,
                    tm :=
                      [(1, AV.ptr 0 0), (2, AV.ptr 1 0), (13, AV.sc false (Value.int IntKind.i64 (↑n : Int))),
                        (14, AV.sc false (Value.int IntKind.i64 (IntKind.wrap IntKind.i64 (i + 1))))],
                    df := [] },
                  {
                    ob :=
                      [(0,
                          [AV.sc false (Value.int IntKind.i64 st), AV.sc false (Value.int IntKind.i64 id),
                            AV.sc false (Value.int IntKind.i64 rq), AV.rsl false 2 2 n,
                            AV.sc false (Value.int IntKind.i64 ct), AV.sc false (Value.int IntKind.i64 tm),
                            AV.sc false (Value.int IntKind.i64 nk), AV.sc false (Value.int IntKind.i64 mg),
                            AV.sc false (Value.int IntKind.i64 pr), AV.sc false (Value.int IntKind.i64 mu),
                            AV.sc false (Value.int IntKind.i64 pe), AV.sc false (Value.int IntKind.i64 ne)]),
                        (1,
                          [AV.sc false (Value.int IntKind.i64 0), AV.sc false (Value.int IntKind.i64 0),
                            AV.sc false (Value.int IntKind.i64 0), AV.sc false (Value.slice none 0 0),
                            AV.sc false (Value.int IntKind.i64 0), AV.sc false (Value.int IntKind.i64 0),
                            AV.sc false (Value.int IntKind.i64 0), AV.sc false (Value.int IntKind.i64 0),
                            AV.sc false (Value.int IntKind.i64 0), AV.sc false (Value.int IntKind.i64 0),
                            AV.sc false (Value.int IntKind.i64 0), AV.sc false (Value.int IntKind.i64 0)]),
                        (2,
                          [AV.rw [Sh.int IntKind.i64, Sh.sl [Sh.int IntKind.u8]]
                              (D.setE d (Int.toNat i)
                                (D.t [D.cell (D.get d (Int.toNat i)) 0, D.cell (D.get d (Int.toNat i)) 1]))])],
                    nx := 3, gn := [], nv := 0, ng := 1000, ep := 1000 }))
              (RT.bad 175))
            (RT.bad 179))
          (RT.bad 170))
        (RT.bad 179))
      (RT.ok
        (Ex.exit 0,
          { nt := 33,
            tm :=
              [(1, AV.ptr 0 0), (2, AV.ptr 1 0), (13, AV.sc false (Value.int IntKind.i64 (↑n : Int))),
                (14, AV.sc false (Value.int IntKind.i64 i))],
            df := [] },
          {
            ob :=
              [(0,
                  [AV.sc false (Value.int IntKind.i64 st), AV.sc false (Value.int IntKind.i64 id),
                    AV.sc false (Value.int IntKind.i64 rq), AV.rsl false 2 2 n, AV.sc false (Value.int IntKind.i64 ct),
                    AV.sc false (Value.int IntKind.i64 tm), AV.sc false (Value.int IntKind.i64 nk),
                    AV.sc false (Value.int IntKind.i64 mg), AV.sc false (Value.int IntKind.i64 pr),
                    AV.sc false (Value.int IntKind.i64 mu), AV.sc false (Value.int IntKind.i64 pe),
                    AV.sc false (Value.int IntKind.i64 ne)]),
                (1,
                  [AV.sc false (Value.int IntKind.i64 0), AV.sc false (Value.int IntKind.i64 0),
                    AV.sc false (Value.int IntKind.i64 0), AV.sc false (Value.slice none 0 0),
                    AV.sc false (Value.int IntKind.i64 0), AV.sc false (Value.int IntKind.i64 0),
                    AV.sc false (Value.int IntKind.i64 0), AV.sc false (Value.int IntKind.i64 0),
                    AV.sc false (Value.int IntKind.i64 0), AV.sc false (Value.int IntKind.i64 0),
                    AV.sc false (Value.int IntKind.i64 0), AV.sc false (Value.int IntKind.i64 0)]),
                (2, [AV.rw [Sh.int IntKind.i64, Sh.sl [Sh.int IntKind.u8]] d])],
            nx := 3, gn := [], nv := 0, ng := 1000, ep := 1000 })) := by kernel_rfl
-- STOPS: rebF
/-- options, each of whose data was copied -/
def rebF : Nat → D → Nat → D
  | 0, d, _ => d
  | m + 1, d, i => rebF m (d.setE i (.t [(d.get i).cell 0, (d.get i).cell 1])) (i + 1)
theorem rebF_ok : ∀ (m : Nat) (d : D) (i : Nat), i + m ≤ d.len → (rebF m d i).len = d.len ∧ ∀ q, eqEl opS ((rebF m d i).get q) (d.get q) 0
  | 0, d, i, _ => ⟨rfl, fun q => eqEl_refl _ _ _⟩
  | m + 1, d, i, h => by
    obtain ⟨h1, h2⟩ := rebF_ok m (d.setE i (.t [(d.get i).cell 0, (d.get i).cell 1])) (i + 1) (by rw [setE_len]; omega)
    refine ⟨h1.trans (setE_len _ _ _), fun q => ?_⟩
    have h3 := h2 q
    rw [setE_get (by omega)] at h3
    by_cases hq : q = i
    · subst hq
      rw [if_pos rfl] at h3
      exact ⟨h3.1, h3.2.1, trivial⟩
    · rw [if_neg hq] at h3; exact h3
def ownL : Lw := ⟨[1, 2, 13, 14], [], 3, 0, 1000, 1000⟩
/-- what the loop stands at: the control's cells, the row, where it is -/
structure OwnX where
  x : LcpV
  z : Int
  n : Nat
  d : D
  i : Nat
def ownF (n : Int) (i : Nat) : Tm := ⟨33, [(1, .ptr 0 0), (2, .ptr 1 0), (13, ai n), (14, ai i)], []⟩
def ownH (x : LcpV) (n : Nat) (d : D) : Hp := ⟨[(0, ownC x.st x.id x.rq n x.ct x.tm x.nk x.mg x.pr x.mu x.pe x.ne), (1, zerC), (2, [.rw opS d])], 3, [], 0, 1000, 1000⟩
def ownDec (F : Tm) (h : Hp) : Option OwnX := match F, h with
  | ⟨33, [(1, .ptr 0 0), (2, .ptr 1 0), (13, .sc false (.int .i64 n)), (14, .sc false (.int .i64 0))], []⟩,
    ⟨[(0, [.sc false (.int .i64 st), .sc false (.int .i64 id), .sc false (.int .i64 rq), .rsl false 2 2 m, .sc false (.int .i64 ct), .sc false (.int .i64 tm), .sc false (.int .i64 nk), .sc false (.int .i64 mg), .sc false (.int .i64 pr), .sc false (.int .i64 mu), .sc false (.int .i64 pe), .sc false (.int .i64 ne)]),
      (1, [.sc false (.int .i64 0), .sc false (.int .i64 0), .sc false (.int .i64 0), .sc false (.slice none 0 0), .sc false (.int .i64 0), .sc false (.int .i64 0), .sc false (.int .i64 0), .sc false (.int .i64 0), .sc false (.int .i64 0), .sc false (.int .i64 0), .sc false (.int .i64 0), .sc false (.int .i64 0)]), (2, [.rw [.int .i64, .sl [.int .u8]] d])], 3, [], 0, 1000, 1000⟩ => some ⟨⟨st, id, rq, .n, ct, tm, nk, mg, pr, mu, pe, ne⟩, n, m, d, 0⟩
  | _, _ => none
def ownT (x : OwnX) : RT Out := need false (decide (x.z = (x.n : Int) ∧ x.n = x.d.len ∧ x.i ≤ x.n)) 216 (.ok (.normal, ownF x.z x.n, ownH x.x x.n (rebF (x.n - x.i) x.d x.i)))
theorem own_loop1 : LamE Tryz.prog 61 0 (loopS Tryz.prog ownL ownDec ownT) := by
  refine loop_in2 (gs := ownG Tryz.prog) (ls := []) mixed ownG_ok trivial _ 0 100 (by kernel_rfl) ownL (mkF := fun x => ownF x.z x.i) (mkH := fun x => ownH x.x x.n x.d) (fun x => x.n - x.i) ?_ ?_
  · intro F h x hx
    unfold ownDec at hx
    split at hx
    · cases hx; exact ⟨rfl, rfl⟩
    · cases hx
  · rintro ⟨⟨st, id, rq, d0, ct, tm, nk, mg, pr, mu, pe, ne⟩, z, n, d, i⟩ K H
    obtain ⟨hc, H⟩ := need_holds H
    obtain ⟨rfl, hn, hi⟩ : z = (n : Int) ∧ n = d.len ∧ i ≤ n := of_decide_eq_true hc
    have hm := d.len_le
    show (roundT ownL (evC _ _ _ _ _ _ (ownF n i) (ownH ⟨st, id, rq, d0, ct, tm, nk, mg, pr, mu, pe, ne⟩ n d))).holds _
    unfold ownL ownF ownH
    rw [own_body]
    have hin : i < n → (0 : Int) ≤ (i : Int) ∧ (i : Int) < (n : Int) := fun h => ⟨by omega, by omega⟩
    have hid : i < n → Int.toNat (i : Int) < d.len := fun h => by rw [Int.toNat_natCast]; omega
    refine ⟨fun h1 => ?_, fun h1 => ?_⟩
    · have h1 : i < n := by have := of_decide_eq_true h1; omega
      refine ⟨fun _ => ⟨fun _ => ⟨fun _ => ⟨fun _ => ?_, fun h => absurd (hid h1) (of_decide_eq_false h)⟩, fun h => absurd (hin h1) (of_decide_eq_false h)⟩, fun h => absurd (hid h1) (of_decide_eq_false h)⟩, fun h => absurd (hin h1) (of_decide_eq_false h)⟩
      refine ⟨⟨⟨st, id, rq, d0, ct, tm, nk, mg, pr, mu, pe, ne⟩, n, n, d.setE i (.t [(d.get i).cell 0, (d.get i).cell 1]), i + 1⟩, ⟨?_, rfl⟩, by show n - (i + 1) < n - i; omega, ?_⟩
      · rw [wrap_succ (n := d.len) (by omega) hm]
      · refine ⟨fun _ => ?_, fun hf => ?_⟩
        · have e : n - i = (n - (i + 1)) + 1 := by omega
          show K (.normal, ownF n n, ownH ⟨st, id, rq, d0, ct, tm, nk, mg, pr, mu, pe, ne⟩ n (rebF (n - (i + 1)) _ (i + 1)))
          have H' : K (.normal, ownF n n, ownH ⟨st, id, rq, d0, ct, tm, nk, mg, pr, mu, pe, ne⟩ n (rebF (n - i) d i)) := H
          rw [e] at H'
          exact H'
        · exact absurd ⟨rfl, by rw [setE_len]; exact hn, by show i + 1 ≤ n; omega⟩ (of_decide_eq_false hf)
    · have h1 : i = n := by have := of_decide_eq_false h1; omega
      subst h1
      have H' : K (.normal, ownF i i, ownH ⟨st, id, rq, d0, ct, tm, nk, mg, pr, mu, pe, ne⟩ i (rebF (i - i) d i)) := H
      rw [Nat.sub_self] at H'
      exact H'
def ownLs (P : Program) : List (FuncId × Nat × BSpec) := [(61, 0, altB (knT 13) (runB P (ownG P) 100 61 0) (loopS P ownL ownDec ownT))]
theorem ownLs_ok : LamL Tryz.prog (ownLs Tryz.prog) := ⟨altB_ok (runB_ok mixed ownG_ok _ 0 100 (by kernel_rfl)) own_loop1, trivial⟩
end
end Go.Proofs.YtcambhbmobepjaaGreat

namespace Go.Proofs.YtcambhbmobepjaaGreat
set_option linter.unusedSimpArgs false
set_option linter.unusedVariables false
open Go.RowKit
set_option maxRecDepth 100000
noncomputable section

theorem own_tree (st id rq : Int) (d : D) (ct tm nk mg pr mu pe ne : Int) : treeR (evF Tryz.prog (gam (ownG Tryz.prog)) (lam (ownLs Tryz.prog)) 100 61) [lcpA st id rq d ct tm nk mg pr mu pe ne] =
    RT.br (decide (D.len d = 0))
      (RT.ok
        (AV.agg
          [AV.sc false (Value.int IntKind.i64 st), AV.sc false (Value.int IntKind.i64 id),
            AV.sc false (Value.int IntKind.i64 rq),
            AV.sl true [Sh.int IntKind.i64, Sh.sl [Sh.int IntKind.u8]] (D.l []) none,
            AV.sc false (Value.int IntKind.i64 ct), AV.sc false (Value.int IntKind.i64 tm),
            AV.sc false (Value.int IntKind.i64 nk), AV.sc false (Value.int IntKind.i64 mg),
            AV.sc false (Value.int IntKind.i64 pr), AV.sc false (Value.int IntKind.i64 mu),
            AV.sc false (Value.int IntKind.i64 pe), AV.sc false (Value.int IntKind.i64 ne)]))
      (RT.br (decide ((↑(D.len d) : Int) = (↑(D.len d) : Int) ∧ D.len d = D.len d ∧ 0 ≤ D.len d))
        (RT.br (decide (D.len d = D.len (rebF (D.len d - 0) d 0)))
          (RT.ok
            (AV.agg
              [AV.sc false (Value.int IntKind.i64 st), AV.sc false (Value.int IntKind.i64 id),
                AV.sc false (Value.int IntKind.i64 rq),
                AV.sl false [Sh.int IntKind.i64, Sh.sl [Sh.int IntKind.u8]] (rebF (D.len d - 0) d 0) none,
                AV.sc false (Value.int IntKind.i64 ct), AV.sc false (Value.int IntKind.i64 tm),
                AV.sc false (Value.int IntKind.i64 nk), AV.sc false (Value.int IntKind.i64 mg),
                AV.sc false (Value.int IntKind.i64 pr), AV.sc false (Value.int IntKind.i64 mu),
                AV.sc false (Value.int IntKind.i64 pe), AV.sc false (Value.int IntKind.i64 ne)]))
          (RT.bad 213))
        (RT.bad 216)) := by kernel_rfl
-- DEFS
def FOwn : List AV → RT AV
  | [.agg [.sc false (.int .i64 st), .sc false (.int .i64 id), .sc false (.int .i64 rq), .sl false [.int .i64, .sl [.int .u8]] d none, .sc false (.int .i64 ct), .sc false (.int .i64 tm), .sc false (.int .i64 nk), .sc false (.int .i64 mg), .sc false (.int .i64 pr), .sc false (.int .i64 mu), .sc false (.int .i64 pe), .sc false (.int .i64 ne)]] => .ok (lcpA st id rq d ct tm nk mg pr mu pe ne)
  | _ => .bad 217
-- END
theorem own_soundF : SoundF Tryz.prog 61 (pureS Tryz.prog 61 FOwn) := by
  refine pure_row (gs := ownG Tryz.prog) (ls := ownLs Tryz.prog) mixed ownG_ok ownLs_ok 61 100 fun args K ho H => ?_
  unfold FOwn at H
  split at H
  · rename_i st id rq d ct tm nk mg pr mu pe ne
    rw [own_tree]
    obtain ⟨hl, hg⟩ := rebF_ok d.len d 0 (by omega)
    refine ⟨fun h1 => ⟨_, le_agg (leL_cons (Le.refl _) (leL_cons (Le.refl _) (leL_cons (Le.refl _) (leL_cons (le_sl ?_ ?_) fun _ _ h => h)))), H⟩, fun h1 => ⟨fun h2 => ⟨fun h3 => ⟨_, le_agg (leL_cons (Le.refl _) (leL_cons (Le.refl _) (leL_cons (Le.refl _) (leL_cons (le_sl hl fun i _ => hg i) fun _ _ h => h)))), H⟩, fun h3 => ?_⟩, fun h2 => ?_⟩⟩
    · rw [of_decide_eq_true h1]; simp [D.len, D.toL, D.raw]
    · intro i hi
      simp [D.len, D.toL, D.raw] at hi
    · exact absurd hl.symm (of_decide_eq_false h3)
    · exact absurd ⟨rfl, rfl, Nat.zero_le _⟩ (of_decide_eq_false h2)
  · exact H.elim
end
end Go.Proofs.YtcambhbmobepjaaGreat

namespace Go.Proofs.YtcambhbmobepjaaGreat
set_option linter.unusedSimpArgs false
set_option linter.unusedVariables false
open Go.RowKit
set_option maxRecDepth 10000
noncomputable section

/-- bytes by their numbers -/
def bs (l : List Nat) : ByteArray := ⟨(l.map UInt8.ofNat).toArray⟩
def bsL (s : ByteArray) : List Nat := s.data.toList.map UInt8.toNat
def all2 (f : D → D → Bool) : List D → List D → Bool
  | [], [] => true
  | a :: x, b :: y => bif f a b then all2 f x y else false
  | _, _ => false
theorem all2_ok {f : D → D → Bool} : ∀ {l l' : List D}, all2 f l l' = true → l.length = l'.length ∧ ∀ i, i < l.length → f (l.getD i .n) (l'.getD i .n) = true
  | [], [], _ => ⟨rfl, fun i hi => by simp at hi⟩
  | a :: x, b :: y, h => by
    simp only [all2] at h
    cases hf : f a b
    · rw [hf] at h; cases h
    · rw [hf] at h
      obtain ⟨h1, h2⟩ := all2_ok (l := x) (l' := y) h
      refine ⟨by simp [h1], fun i hi => ?_⟩
      cases i with
      | zero => exact hf
      | succ i => exact h2 i (by simpa using hi)
  | [], _ :: _, h => by cases h
  | _ :: _, [], h => by cases h
mutual
/-- the same data -/
def eqS : Sh → D → D → Bool
  | .int _, d, e => d.toI == e.toI
  | .bool, d, e => d.toB == e.toB
  | .str, d, e => decide (d.toS = e.toS)
  | .sl es, d, e => all2 (fun a b => eqEs es a b 0) d.toL e.toL
def eqEs : List Sh → D → D → Nat → Bool
  | [], _, _, _ => true
  | s :: ss, d, e, j => bif eqS s (d.cell j) (e.cell j) then eqEs ss d e (j + 1) else false
end
mutual
theorem eqS_lf {Z : Nat → Nat → Option Value} : ∀ (s : Sh) {v : Value} {d e : D}, eqS s d e = true → LF Z s v d → LF Z s v e
  | .int k, v, d, e, h, H => by
    have : d.toI = e.toI := by simpa [eqS] using h
    simp only [LF] at H ⊢; rw [← this]; exact H
  | .bool, v, d, e, h, H => by
    have : d.toB = e.toB := by simpa [eqS] using h
    simp only [LF] at H ⊢; rw [← this]; exact H
  | .str, v, d, e, h, H => by
    have : d.toS = e.toS := by simpa [eqS] using h
    simp only [LF] at H ⊢; rw [← this]; exact H
  | .sl es, v, d, e, h, ⟨h0, ad, cap, h1, h2, h3, h4, h5⟩ => by
    simp only [eqS] at h
    obtain ⟨hl, hg⟩ := all2_ok h
    have hl' : e.len = d.len := hl.symm
    refine ⟨by rw [hl']; exact h0, ad, cap, by rw [hl']; exact h1, by rw [hl']; exact h2, h3, h4, fun hn => ?_⟩
    obtain ⟨b, o, g1, g2⟩ := h5 (by rw [← hl']; exact hn)
    exact ⟨b, o, g1, fun i hi => eqEs_el es (hg i (by rw [hl'] at hi; exact hi)) (g2 i (by rw [← hl']; exact hi))⟩
theorem eqEs_el {Z : Nat → Nat → Option Value} : ∀ (es : List Sh) {b o : Nat} {d e : D} {j : Nat}, eqEs es d e j = true → EL Z es b o d j → EL Z es b o e j
  | [], _, _, _, _, _, _, _ => trivial
  | s :: ss, b, o, d, e, j, h, ⟨⟨v, g1, g2⟩, g3⟩ => by
    simp only [eqEs] at h
    cases hs : eqS s (d.cell j) (e.cell j)
    · rw [hs] at h; cases h
    · rw [hs] at h
      exact ⟨⟨v, g1, eqS_lf s hs g2⟩, eqEs_el ss h g3⟩
end
mutual
/-- the same values, what is known of them set apart -/
def eqA : AV → AV → Bool
  | .sc _ (.int k m), .sc _ (.int k' n) => bif decide (k = k') then m == n else false
  | .sc _ (.bool m), .sc _ (.bool n) => m == n
  | .sc _ (.string m), .sc _ (.string n) => decide (m = n)
  | .sc _ (.slice none 0 0), .sl _ _ e none => decide (e.len = 0)
  | .sc _ (.slice none 0 0), .sc _ (.slice none 0 0) => true
  | .sl _ es d _, .sl _ es' e none => bif Sh.eqsL es es' then eqS (.sl es) d e else false
  | .agg xs, .agg ys => eqAL xs ys
  | .tup xs, .tup ys => eqAL xs ys
  | _, _ => false
def eqAL : List AV → List AV → Bool
  | [], [] => true
  | x :: xs, y :: ys => bif eqA x y then eqAL xs ys else false
  | _, _ => false
end
theorem cond_split {a b : Bool} (h : (bif a then b else false) = true) : a = true ∧ b = true := by
  cases a
  · cases h
  · exact ⟨rfl, h⟩
mutual
theorem eqA_le : ∀ (x y : AV), eqA x y = true → Le x y
  | x, y, h => by
    unfold eqA at h
    split at h
    · obtain ⟨h1, h2⟩ := cond_split h
      obtain rfl := of_decide_eq_true h1
      exact le_int (by simpa using h2)
    · exact le_bool (by simpa using h)
    · exact le_str (of_decide_eq_true h)
    · exact le_nil (of_decide_eq_true h)
    · exact fun E v hv => hv
    · obtain ⟨h1, h2⟩ := cond_split h
      obtain rfl := Sh.eqsL_eq _ _ h1
      exact fun E v hv => ⟨eqS_lf _ h2 hv.1, trivial⟩
    · rename_i xs ys; exact le_agg fun E vs hv => eqAL_le xs ys h E vs hv
    · rename_i xs ys; exact le_tup fun E vs hv => eqAL_le xs ys h E vs hv
    · cases h
theorem eqAL_le : ∀ (xs ys : List AV), eqAL xs ys = true → ∀ E vs, RelL E xs vs → RelL E ys vs
  | [], [], _ => fun _ _ h => h
  | x :: xs, y :: ys, h => by
    simp only [eqAL] at h
    obtain ⟨h1, h2⟩ := cond_split h
    exact leL_cons (eqA_le x y h1) (eqAL_le xs ys h2)
  | [], _ :: _, h => by cases h
  | _ :: _, [], h => by cases h
end
/-- the answer, where all branches are known -/
def okV : RT AV → Option AV
  | .ok a => some a
  | .bad _ => none
  | .br b x y => bif b then okV x else okV y
  | .all x y => match okV x, okV y with
    | some a, some b => bif eqA a b then some b else none
    | _, _ => none
theorem okV_holds : ∀ {t : RT AV} {r : AV}, okV t = some r → t.holds fun a => Le a r
  | .ok a, r, h => by cases h; exact Le.refl _
  | .bad _, r, h => by cases h
  | .br b x y, r, h => by
    simp only [okV] at h
    refine ⟨fun hb => ?_, fun hb => ?_⟩
    · rw [hb] at h; exact okV_holds (t := x) h
    · rw [hb] at h; exact okV_holds (t := y) h
  | .all x y, r, h => by
    simp only [okV] at h
    split at h
    · rename_i a b ha hb
      cases he : eqA a b
      · rw [he] at h; cases h
      · rw [he] at h
        have h2 : b = r := Option.some.inj h
        subst h2
        exact ⟨RT.holds_mono (fun c hc E v hv => eqA_le _ _ he E v (hc E v hv)) _ (okV_holds ha), okV_holds hb⟩
    · cases h
/-- the answer to one row of arguments -/
def Fone (key : List AV) (res : AV) : List AV → RT AV := fun args => bif eqAL args key then .ok res else .bad 219
def hitK (P : Program) (f : FuncId) (key args : List AV) : Bool := bif allKL args then eqAL (args0 P f args) key else false
def memoS (P : Program) (f : FuncId) (key : List AV) (res : AV) (sp : Spec) : Spec := altS (hitK P f key) (pureS P f (Fone key res)) sp
theorem memo_one {P : Program} {f : FuncId} {spm : Spec} {key : List AV} {res : AV} (hm : SoundF P f spm) (hk : okV (treeR spm key) = some res) : SoundF P f (pureS P f (Fone key res)) :=
  pureS_row hm fun args K ho H => by
    unfold Fone at H
    cases he : eqAL args key
    · rw [he] at H; exact H.elim
    · rw [he] at H
      exact ⟨key, eqAL_le _ _ he, RT.holds_mono (fun a ha => ⟨res, ha, H⟩) _ (okV_holds hk)⟩
theorem memo_ok {P : Program} {f : FuncId} {sp spm : Spec} {key : List AV} {res : AV} (hs : SoundF P f sp) (hm : SoundF P f spm) (hk : okV (treeR spm key) = some res) : SoundF P f (memoS P f key res sp) :=
  alt_ok (memo_one hm hk) hs
end
end Go.Proofs.YtcambhbmobepjaaGreat

namespace Go.Proofs.YtcambhbmobepjaaGreat
set_option linter.unusedSimpArgs false
set_option linter.unusedVariables false
open Go.RowKit
set_option maxRecDepth 100000
noncomputable section

-- DEFS
def awkG (P : Program) : List (FuncId × Spec) := [(38, pureS P 38 FPut), (42, pureS P 42 FPut), (61, pureS P 61 FOwn)]
abbrev kk (n : Int) : AV := .sc true (.int .i64 n)
abbrev cfK : AV := .agg [kk 1492, kk 10, kk 2, kk 5, kk 3, kk 10, kk 3]
abbrev askK : AV := .sl true opS (.kl [.t [.ki 1, .kl [.ki 5, .ki 212]], .t [.ki 5, .kl [.ki 0, .ki 0, .ki 0, .ki 7]]]) none
abbrev lc0K : AV := .agg [kk 0, kk 0, kk 0, askK, kk 0, kk 0, kk 0, kk 7, kk 0, kk 1492, kk 0, kk 0]
abbrev lc2K : AV := .agg [kk 2, kk 0, kk 0, askK, kk 0, kk 0, kk 0, kk 7, kk 0, kk 1492, kk 0, kk 0]
-- END
theorem awkG_ok : GamL Tryz.prog (awkG Tryz.prog) := ⟨put_soundF, rput_soundF, own_soundF, trivial⟩
def mNewK : List AV := [cfK, kk 7]
def mNewR : AV :=
    (AV.tup
        [AV.agg
            [AV.sc true (Value.int IntKind.i64 0), AV.sc true (Value.int IntKind.i64 0),
              AV.sc true (Value.int IntKind.i64 0),
              AV.sl true [Sh.int IntKind.i64, Sh.sl [Sh.int IntKind.u8]]
                (D.l [D.t [D.ki 1, D.kl [D.ki 5, D.ki 212]], D.t [D.ki 5, D.kl [D.ki 0, D.ki 0, D.ki 0, D.ki 7]]]) none,
              AV.sc true (Value.int IntKind.i64 0), AV.sc true (Value.int IntKind.i64 0),
              AV.sc true (Value.int IntKind.i64 0), AV.sc true (Value.int IntKind.i64 7),
              AV.sc true (Value.int IntKind.i64 0), AV.sc true (Value.int IntKind.i64 1492),
              AV.sc true (Value.int IntKind.i64 0), AV.sc true (Value.int IntKind.i64 0)],
          AV.sc true (Value.int IntKind.i64 0)])
theorem mNew : okV (treeR (evF Tryz.prog (gam (awkG Tryz.prog)) (lam ([])) 100 9) mNewK) = some mNewR := by kernel_rfl
def mChkK : List AV := [cfK, lc0K]
def mChkR : AV :=
    (AV.sc true (Value.int IntKind.i64 0))
theorem mChk : okV (treeR (evF Tryz.prog (gam (awkG Tryz.prog)) (lam ([])) 100 11) mChkK) = some mChkR := by kernel_rfl
def mChk2K : List AV := [cfK, lc2K]
def mChk2R : AV :=
    (AV.sc true (Value.int IntKind.i64 0))
theorem mChk2 : okV (treeR (evF Tryz.prog (gam (awkG Tryz.prog)) (lam ([])) 100 11) mChk2K) = some mChk2R := by kernel_rfl
def mDo1K : List AV := [cfK, lc0K, kk 1, kk 1]
def mDo1R : AV :=
    (AV.tup
        [AV.agg
            [AV.sc true (Value.int IntKind.i64 2), AV.sc true (Value.int IntKind.i64 0),
              AV.sc true (Value.int IntKind.i64 0),
              AV.sl true [Sh.int IntKind.i64, Sh.sl [Sh.int IntKind.u8]]
                (D.l [D.t [D.ki 1, D.kl [D.ki 5, D.ki 212]], D.t [D.ki 5, D.kl [D.ki 0, D.ki 0, D.ki 0, D.ki 7]]]) none,
              AV.sc true (Value.int IntKind.i64 0), AV.sc true (Value.int IntKind.i64 0),
              AV.sc true (Value.int IntKind.i64 0), AV.sc true (Value.int IntKind.i64 7),
              AV.sc true (Value.int IntKind.i64 0), AV.sc true (Value.int IntKind.i64 1492),
              AV.sc true (Value.int IntKind.i64 0), AV.sc true (Value.int IntKind.i64 0)],
          AV.sl true [Sh.int IntKind.i64, Sh.int IntKind.i64, Sh.sl [Sh.int IntKind.u8]] (D.l []) none,
          AV.sl true [Sh.int IntKind.i64] (D.l []) none])
theorem mDo1 : okV (treeR (evF Tryz.prog (gam (awkG Tryz.prog)) (lam ([])) 100 50) mDo1K) = some mDo1R := by kernel_rfl
def mDo2K : List AV := [cfK, lc2K, kk 3, kk 1]
def mDo2R : AV :=
    (AV.tup
        [AV.agg
            [AV.sc true (Value.int IntKind.i64 6), AV.sc true (Value.int IntKind.i64 1),
              AV.sc true (Value.int IntKind.i64 1),
              AV.sl true [Sh.int IntKind.i64, Sh.sl [Sh.int IntKind.u8]]
                (D.l [D.t [D.ki 1, D.kl [D.ki 5, D.ki 212]], D.t [D.ki 5, D.kl [D.ki 0, D.ki 0, D.ki 0, D.ki 7]]]) none,
              AV.sc true (Value.int IntKind.i64 9), AV.sc true (Value.int IntKind.i64 4),
              AV.sc true (Value.int IntKind.i64 0), AV.sc true (Value.int IntKind.i64 7),
              AV.sc true (Value.int IntKind.i64 0), AV.sc true (Value.int IntKind.i64 1492),
              AV.sc true (Value.int IntKind.i64 0), AV.sc true (Value.int IntKind.i64 0)],
          AV.sl true [Sh.int IntKind.i64, Sh.int IntKind.i64, Sh.sl [Sh.int IntKind.u8]]
            (D.l
              [D.t
                  [D.ki 1, D.ki 1,
                    D.kl
                      [D.t [D.ki 1], D.t [D.ki 4], D.ki 5, D.ki 212, D.t [D.ki 5], D.t [D.ki 6], D.ki 0, D.ki 0, D.ki 0,
                        D.ki 7]]])
            none,
          AV.sl true [Sh.int IntKind.i64] (D.l [D.t [D.ki 5], D.t [D.ki 7]]) none])
theorem mDo2 : okV (treeR (evF Tryz.prog (gam (awkG Tryz.prog)) (lam ([])) 100 50) mDo2K) = some mDo2R := by kernel_rfl
end
end Go.Proofs.YtcambhbmobepjaaGreat

namespace Go.Proofs.YtcambhbmobepjaaGreat
set_option linter.unusedSimpArgs false
set_option linter.unusedVariables false
open Go.RowKit
set_option maxRecDepth 100000
noncomputable section

-- DEFS
def awkG2 (P : Program) : List (FuncId × Spec) :=
  [(9, memoS P 9 mNewK mNewR (evF P (gam (awkG P)) (lam []) 100 9)),
   (50, memoS P 50 mDo1K mDo1R (memoS P 50 mDo2K mDo2R (evF P (gam (awkG P)) (lam []) 100 50)))]
-- END
theorem awkE_ok (f : FuncId) : SoundF Tryz.prog f (evF Tryz.prog (gam (awkG Tryz.prog)) (lam []) 100 f) := evF_ok mixed (gam_ok awkG_ok) (lam_ok (l := []) trivial) 100 f
theorem awkG2_ok : GamL Tryz.prog (awkG2 Tryz.prog) := ⟨memo_ok (awkE_ok _) (awkE_ok _) mNew, memo_ok (memo_ok (awkE_ok _) (awkE_ok _) mDo2) (awkE_ok _) mDo1, trivial⟩
def mAwkK : List AV := []
def mAwkR : AV :=
    (AV.sc true (Value.bool true))
theorem mAwk : okV (treeR (evF Tryz.prog (gam (awkG2 Tryz.prog)) (lam ([])) 100 21) mAwkK) = some mAwkR := by kernel_rfl
theorem rej_tree (c i : Int) (d : D) : treeF (evF Tryz.prog (gam ([])) (lam ([])) 100 14) [.agg [ai c, ai i, asl byS d]] =
    RT.br (decide ((↑(D.len d) : Int) < 2))
      (RT.ok (AV.tup [AV.sc true (Value.int IntKind.i64 0), AV.sc true (Value.bool false)]))
      (RT.br (decide ((0 : Int) ≤ 0 ∧ 0 < (↑(D.len d) : Int)))
        (RT.br true
          (RT.br (decide ((0 : Int) ≤ 1 ∧ 1 < (↑(D.len d) : Int)))
            (RT.br
              (decide
                ((0 : Int) ≤ 2 ∧
                  2 ≤ (↑(D.len d) : Int) ∧
                    (↑(D.len d) : Int) ≤ (↑(D.len d) : Int) ∧ (↑(D.len d) : Int) ≤ (↑(D.len d) : Int)))
              (RT.br (c != 8) (RT.ok (AV.tup [AV.sc true (Value.int IntKind.i64 0), AV.sc true (Value.bool false)]))
                (RT.ok
                  (AV.tup
                    [AV.sc false
                        (Value.int IntKind.i64
                          (IntKind.wrap IntKind.i64
                            (IntKind.wrap IntKind.u64
                              (↑(BitVec.toNat
                                    (BitVec.ofInt (IntKind.bits IntKind.u64)
                                        (IntKind.wrap IntKind.u64
                                          (IntKind.wrap IntKind.u64
                                              (↑(BitVec.toNat
                                                    (BitVec.ofInt (IntKind.bits IntKind.u64)
                                                        (IntKind.wrap IntKind.u64
                                                          (0 * 2 ^ min (Int.toNat 8) (IntKind.bits IntKind.u64))) |||
                                                      BitVec.ofInt (IntKind.bits IntKind.u64)
                                                        (IntKind.wrap IntKind.u64
                                                          (D.toI (D.cell (D.get d (Int.toNat 0)) 0))))) :
                                                Int) *
                                            2 ^ min (Int.toNat 8) (IntKind.bits IntKind.u64))) |||
                                      BitVec.ofInt (IntKind.bits IntKind.u64)
                                        (IntKind.wrap IntKind.u64
                                          (D.toI (D.cell (D.get d (Int.toNat (IntKind.wrap IntKind.i64 (0 + 1)))) 0))))) :
                                Int)))),
                      AV.sc true (Value.bool true)])))
              (RT.bad 37))
            (RT.bad 42))
          (RT.bad 25))
        (RT.bad 42)) := by kernel_rfl
theorem rrej_tree (c i : Int) (d : D) : treeF (evF Tryz.prog (gam ([])) (lam ([])) 100 15) [.agg [ai c, ai i, asl byS d]] =
    RT.br (c != 8) (RT.ok (AV.tup [AV.sc true (Value.int IntKind.i64 0), AV.sc true (Value.bool false)]))
      (RT.br (decide ((↑(D.len d) : Int) < 2))
        (RT.ok (AV.tup [AV.sc true (Value.int IntKind.i64 0), AV.sc true (Value.bool false)]))
        (RT.br (decide ((0 : Int) ≤ 0 ∧ 0 < (↑(D.len d) : Int)))
          (RT.br (decide ((0 : Int) ≤ 1 ∧ 1 < (↑(D.len d) : Int)))
            (RT.ok
              (AV.tup
                [AV.sc false
                    (Value.int IntKind.i64
                      (IntKind.wrap IntKind.i64
                        (IntKind.wrap IntKind.i64 (256 * IntKind.wrap IntKind.i64 (D.toI (D.cell (D.get d 0) 0))) +
                          IntKind.wrap IntKind.i64 (D.toI (D.cell (D.get d 1) 0))))),
                  AV.sc true (Value.bool true)]))
            (RT.bad 42))
          (RT.bad 42))) := by kernel_rfl
end
end Go.Proofs.YtcambhbmobepjaaGreat

namespace Go.Proofs.YtcambhbmobepjaaGreat
set_option linter.unusedSimpArgs false
set_option linter.unusedVariables false
open Go.RowKit
set_option maxRecDepth 10000

def xorAll (a b : List UInt8) : Nat → UInt8
  | 0 => 0
  | k + 1 => xorAll a b k ||| (a[k]?.getD 0 ^^^ b[k]?.getD 0)
theorem u8_or_zero (a b : UInt8) : a ||| b = 0 ↔ a = 0 ∧ b = 0 := by
  constructor
  · intro h
    constructor <;> (apply UInt8.toNat_inj.1; have := congrArg UInt8.toNat h; simp at this ⊢; simp [this])
  · rintro ⟨rfl, rfl⟩; rfl
theorem xorAll_zero (a b : List UInt8) : ∀ k, xorAll a b k = 0 ↔ ∀ i, i < k → a[i]?.getD 0 = b[i]?.getD 0
  | 0 => by simp [xorAll]
  | k + 1 => by
    simp only [xorAll]
    rw [u8_or_zero, xorAll_zero a b k, UInt8.xor_eq_zero_iff]
    constructor
    · rintro ⟨h1, h2⟩ i hi
      rcases Nat.lt_succ_iff_lt_or_eq.1 hi with h | rfl
      · exact h1 i h
      · exact h2
    · intro h
      exact ⟨fun i hi => h i (by omega), h k (by omega)⟩
theorem xorAll_eq (a b : List UInt8) (h : a.length = b.length) : (((xorAll a b a.length).toNat : Int) == 0) = (a == b) := by
  have h1 : ((xorAll a b a.length).toNat : Int) = 0 ↔ xorAll a b a.length = 0 := by
    rw [← UInt8.toNat_inj]; simp
  rw [Bool.eq_iff_iff]
  simp only [beq_iff_eq]
  rw [h1, xorAll_zero]
  constructor
  · intro hh
    apply List.ext_getElem h
    intro i h1 h2
    have := hh i h1
    simpa [h1, h2] using this
  · rintro rfl i _; rfl

def EqRel (w : World) (n : Nat) (l l' : List UInt8) (p i : Value) (wr : World) : Prop :=
  ∃ k : Nat, k ≤ n ∧ i = .int .i64 k ∧ p = .int .u8 (xorAll l l' k).toNat ∧ ∃ m, wr = w.drewN m

theorem EqRel.step {w : World} {n : Nat} {l l' : List UInt8} {k m : Nat} (h : k < n) :
    EqRel w n l l' (.int .u8 (bits .or .u8 ((xorAll l l' k).toNat : Int) (bits .xor .u8 ((l[k]?.getD 0).toNat : Int) ((l'[k]?.getD 0).toNat : Int)))) (.int .i64 ((k : Int) + 1)) (w.drewN m) :=
  ⟨k + 1, h, by simp, by rw [u8_xor_u, u8_or_u]; rfl, m, rfl⟩

theorem equal_same (w : World) (v v' : Value) (l l' : List UInt8) (hv : IsBytes w v l) (hv' : IsBytes w v' l') (hl : l.length = l'.length) (hpos : 0 < l.length) :
    Calls Tryz.prog 133 #[v, v'] w fun e w' => e = .returned (.bool (l == l')) ∧ ∃ n, w' = w.drewN n := by
  have hfin := xorAll_eq l l' hl
  rcases hv with ⟨rfl, rfl⟩ | ⟨x, cap, rfl, h1, h2, h3⟩
  · simp at hpos
  rcases hv' with ⟨rfl, rfl⟩ | ⟨x', cap', rfl, h1', h2', h3'⟩
  · simp at hl; simp [hl] at hpos
  rw [← hl]
  unfold maxLen at h2
  rw [← hl] at h3'
  generalize hn : l.length = n at *
  clear hn hl h1'
  have Hfin := Lib.hid hfin
  clear hfin
  go_enter Tryz.func133, Tryz.ntmps133
  go_wp2
  go_loopw [5, 14] (fun p i wr => EqRel w n l l' p i wr) (fun _ i _ => n - (intOf i).toNat)
  case atStart => exact ⟨0, Nat.zero_le _, rfl, rfl, 0, rfl⟩
  case round =>
    obtain ⟨k, hk, rfl, rfl, m, rfl⟩ := hrel
    by_cases hlt : k < n
    · have c1 := h3 k hlt
      have c2 := h3' k hlt
      go_wp2
      go_quiet (fail)
      go_wp2
      refine ⟨EqRel.step hlt, ?_⟩
      simp [intOf]; omega
    · go_wp2
      go_ret
      obtain rfl : k = n := by omega
      exact ⟨ret_eq (bool_eq Hfin.out), _, rfl⟩

theorem equal_any (w : World) (v v' : Value) (l l' : List UInt8) (hv : IsBytes w v l) (hv' : IsBytes w v' l') :
    Calls Tryz.prog 133 #[v, v'] w fun e w' => e = .returned (.bool (l == l')) ∧ ∃ n, w' = w.drewN n := by
  by_cases hl : l.length = l'.length
  · by_cases hpos : 0 < l.length
    · exact equal_same w v v' l l' hv hv' hl hpos
    · obtain rfl : l = [] := List.eq_nil_of_length_eq_zero (by omega)
      obtain rfl : l' = [] := List.eq_nil_of_length_eq_zero (by simpa using hl.symm)
      obtain ⟨a, cap, rfl, _, _⟩ := hv.shape
      obtain ⟨a', cap', rfl, _, _⟩ := hv'.shape
      clear hv hv' hl hpos
      go_enter Tryz.func133, Tryz.ntmps133
      go_wp2_with fail
      refine wp_loop_rounds 1 ?_; rw [rounds_succ]
      go_wp2
      go_ret
      exact ⟨rfl, 0, rfl⟩
  · have hd : (l == l') = false := by
      rw [beq_eq_false_iff_ne]; rintro rfl; exact hl rfl
    obtain ⟨a, cap, rfl, h1, h2⟩ := hv.shape
    obtain ⟨a', cap', rfl, h1', h2'⟩ := hv'.shape
    rw [hd]
    clear hd hv hv'
    have hne : ((l.length : Int) == (l'.length : Int)) = false := by rw [beq_eq_false_iff_ne]; omega
    generalize l.length = n at *
    generalize l'.length = n' at *
    go_enter Tryz.func133, Tryz.ntmps133
    go_wp2
    go_ret
    exact ⟨rfl, 0, rfl⟩
set_option maxRecDepth 10000
/-- the number that bytes are, the highest first -/
def valOf (l : List UInt8) : Nat := l.foldl (fun n b => 256 * n + b.toNat) 0
theorem valOf_snoc (l : List UInt8) (b : UInt8) : valOf (l ++ [b]) = 256 * valOf l + b.toNat := by simp [valOf]
theorem valOf_take (l : List UInt8) (k : Nat) (h : k < l.length) : valOf (l.take (k + 1)) = 256 * valOf (l.take k) + (l[k]?.getD 0).toNat := by
  rw [List.take_succ_eq_append_getElem h, valOf_snoc]; simp [h]
theorem valOf_lt (l : List UInt8) : ∀ k, k ≤ l.length → valOf (l.take k) < 256 ^ k
  | 0, _ => by simp [valOf]
  | k + 1, h => by
    rw [valOf_take l k (by omega)]
    have := valOf_lt l k (by omega)
    have := u8_lt (l[k]?.getD 0)
    rw [Nat.pow_succ]; omega
theorem pow256_le (k : Nat) (h : k ≤ 7) : 256 ^ k ≤ 72057594037927936 := Nat.le_trans (Nat.pow_le_pow_right (by decide) h) (by decide)

theorem u64_or_byte (q b : Nat) (hq : q < 72057594037927936) (hb : b < 256) : bits .or .u64 ((q : Int) * 256) (IntKind.u64.wrap (b : Int)) = ((256 * q + b : Nat) : Int) := by
  have hw : IntKind.u64.wrap (b : Int) = b := by
    have : IntKind.u64.wrap (b : Int) = (b : Int) % 18446744073709551616 := by simp [IntKind.wrap, IntKind.bits, IntKind.signed]
    rw [this]; omega
  rw [hw]
  have := u64_or_nat (q * 256) b (by omega) (by omega)
  rw [show ((q * 256 : Nat) : Int) = (q : Int) * 256 by simp] at this
  rw [this]
  congr 1
  rw [Nat.mul_comm q 256, show (256 : Nat) = 2 ^ 8 by rfl]
  exact (Nat.two_pow_add_eq_or_of_lt hb q).symm


theorem take_any (v : Value) (l : List UInt8) (s : Nat) (h1 : 1 ≤ s) (h8 : s ≤ 8) (hs : s ≤ l.length) (hlen : l.length ≤ 1000000) (w : World) (hv : IsBytes w v l) :
    Calls Tryz.prog 45 #[v, .int .i64 s] w fun e w' => ∃ v', e = .returned (.tuple #[.int .u64 (valOf (l.take s) : Nat), v', .bool true]) ∧ Below w.heap.size w w' ∧ w'.ownsRow w.heap.size 5 1 v' (l.length - s) ((l.drop s).map bv) := by
  have i1 : (1 : Int) ≤ s := by omega
  have i2 : (s : Int) ≤ 8 := by omega
  have i3 : ¬ l.length < s := by omega
  rcases hv with ⟨rfl, rfl⟩ | ⟨x, cap, rfl, h1', h2', h3'⟩
  · simp at hs; omega
  unfold maxLen at h2'
  have hown := Lib.hid (own_empty w w.heap.size (Nat.le_refl _) 5 1)
  by_cases hcap : cap = s
  · obtain rfl : l.length = s := by omega
    subst hcap
    have hsrc := Lib.hid ((src_drop_all (w := w) x l).alloc (.cells #[] 5))
    have hc4 : Hid ((0 + 0) * 1 ≤ 140737488355328) := by unfold Hid; decide
    have hc5 : Hid (w.heap.size ≤ (w.alloc (.cells #[] 5)).heap.size) := by rw [World.size_alloc]; exact Nat.le_succ _
    go_enter Tryz.func45, Tryz.ntmps45
    go_wp2
    go_loop [7, 8, 19] (fun p _ i => ∃ k : Nat, k ≤ l.length ∧ i = .int .i64 k ∧ p = .int .u64 (valOf (l.take k) : Nat)) (fun _ _ i => l.length - (intOf i).toNat)
    case atStart => exact ⟨0, by omega, rfl, rfl⟩
    case round =>
      obtain ⟨k, hk, rfl, rfl⟩ := hrel
      by_cases hlt : k < l.length
      · have c := h3' k (by omega)
        have hq := Nat.lt_of_lt_of_le (valOf_lt l k (by omega)) (pow256_le k (by omega))
        have hst := Lib.hid (valOf_take l k (by omega))
        generalize valOf (l.take k) = q at *
        go_wp2
        rw [u64_or_byte q _ hq (u8_lt _)]
        go_round
        case rel => exact ⟨k + 1, by omega, by go_num, by rw [hst.out]; try simp [hlt]⟩
        case measure => simp [intOf]; omega
      · obtain rfl : k = l.length := by omega
        go_wp2_with (at_builtin; go_must (refine wpList_append_from rfl _ _ _ rfl (w.heap.size) el_u8 rfl hown.out rfl hsrc.out hc4.out hc5.out ?_); intro v' w' ho hg hb)
        go_ret3
        exact ⟨_, rfl, ((Below.refl _ _).alloc (Nat.le_refl _) _).trans hb, by simpa using ho⟩
  · have hsrc := Lib.hid ((src_drop h3' s (cap - s)).alloc (.cells #[] 5))
    have hc4 : Hid ((0 + (l.length - s)) * 1 ≤ 140737488355328) := by unfold Hid; omega
    have hc5 : Hid (w.heap.size ≤ (w.alloc (.cells #[] 5)).heap.size) := by rw [World.size_alloc]; exact Nat.le_succ _
    go_enter Tryz.func45, Tryz.ntmps45
    go_wp2
    go_loop [7, 8, 19] (fun p _ i => ∃ k : Nat, k ≤ s ∧ i = .int .i64 k ∧ p = .int .u64 (valOf (l.take k) : Nat)) (fun _ _ i => s - (intOf i).toNat)
    case atStart => exact ⟨0, by omega, rfl, rfl⟩
    case round =>
      obtain ⟨k, hk, rfl, rfl⟩ := hrel
      by_cases hlt : k < s
      · have c := h3' k (by omega)
        have hq := Nat.lt_of_lt_of_le (valOf_lt l k (by omega)) (pow256_le k (by omega))
        have hst := Lib.hid (valOf_take l k (by omega))
        generalize valOf (l.take k) = q at *
        go_wp2
        rw [u64_or_byte q _ hq (u8_lt _)]
        go_round
        case rel => exact ⟨k + 1, by omega, by go_num, by rw [hst.out]; try simp [hlt]⟩
        case measure => simp [intOf]; omega
      · obtain rfl : k = s := by omega
        go_wp2_with (at_builtin; go_must (refine wpList_append_from rfl _ _ _ rfl (w.heap.size) el_u8 rfl hown.out rfl hsrc.out hc4.out hc5.out ?_); intro v' w' ho hg hb)
        go_ret3
        exact ⟨_, rfl, ((Below.refl _ _).alloc (Nat.le_refl _) _).trans hb, by simpa using ho⟩
theorem take_bad (v : Value) (l : List UInt8) (s : Int) (h : s < 1 ∨ 8 < s ∨ l.length < s) (w : World) (hv : IsBytes w v l) :
    Calls Tryz.prog 45 #[v, .int .i64 s] w fun e w' => e = .returned (.tuple #[.int .u64 0, .slice none 0 0, .bool false]) ∧ w' = w := by
  obtain ⟨a, cap, rfl, h1, h2⟩ := hv.shape
  clear hv
  generalize l.length = n at *
  by_cases a1 : 1 ≤ s
  · by_cases a2 : s ≤ 8
    · have a3 : (n : Int) < s := by omega
      clear h
      go_enter Tryz.func45, Tryz.ntmps45
      go_wp2
      go_ret3
      exact ⟨rfl, rfl⟩
    · clear h
      go_enter Tryz.func45, Tryz.ntmps45
      go_wp2
      go_ret3
      exact ⟨rfl, rfl⟩
  · clear h
    go_enter Tryz.func45, Tryz.ntmps45
    go_wp2
    go_ret3
    exact ⟨rfl, rfl⟩

end Go.Proofs.YtcambhbmobepjaaGreat

namespace Go.Proofs.YtcambhbmobepjaaGreat
set_option linter.unusedSimpArgs false
set_option linter.unusedVariables false
open Go.RowKit
set_option maxRecDepth 100000
noncomputable section

-- DEFS
def byA (d : D) (i : Nat) : Int := ((d.get i).cell 0).toI
def rejB (c : Int) (d : D) : Bool := decide (c = 8 ∧ 2 ≤ d.len)
def rejN (c : Int) (d : D) : Int := if c = 8 ∧ 2 ≤ d.len then 256 * byA d 0 + byA d 1 else 0
def rngB (d : D) : Bool := decide (2 ≤ d.len → (0 ≤ byA d 0 ∧ byA d 0 < 256) ∧ (0 ≤ byA d 1 ∧ byA d 1 < 256))
def FRej : List AV → RT AV
  | [.agg [.sc false (.int .i64 c), .sc false (.int .i64 _), .sl false [.int .u8] d none]] => need false (rngB d) 221 (.ok (.tup [ai (rejN c d), ab (rejB c d)]))
  | _ => .bad 222
-- END
-- STOPS: rejB rejN rngB newB asksD lisB nextI sameL sameO lgtE lgtN
theorem awk_soundF : SoundF Tryz.prog 21 (pureS Tryz.prog 21 (Fone mAwkK mAwkR)) :=
  memo_one (evF_ok mixed (gam_ok awkG2_ok) (lam_ok (l := []) trivial) 100 _) mAwk
theorem or_bytes {x y : Int} (hx : 0 ≤ x ∧ x < 256) (hy : 0 ≤ y ∧ y < 256) :
    IntKind.wrap IntKind.i64 (IntKind.wrap IntKind.u64 (↑(BitVec.toNat (BitVec.ofInt (IntKind.bits IntKind.u64) (IntKind.wrap IntKind.u64 (IntKind.wrap IntKind.u64 (↑(BitVec.toNat (BitVec.ofInt (IntKind.bits IntKind.u64) (IntKind.wrap IntKind.u64 (0 * 2 ^ min (Int.toNat 8) (IntKind.bits IntKind.u64))) |||
      BitVec.ofInt (IntKind.bits IntKind.u64) (IntKind.wrap IntKind.u64 x))) : Int) * 2 ^ min (Int.toNat 8) (IntKind.bits IntKind.u64))) ||| BitVec.ofInt (IntKind.bits IntKind.u64) (IntKind.wrap IntKind.u64 y))) : Int)) = 256 * x + y := by
  obtain ⟨a, rfl⟩ := Int.eq_ofNat_of_zero_le hx.1
  obtain ⟨b, rfl⟩ := Int.eq_ofNat_of_zero_le hy.1
  have ha : a < 256 := by omega
  have hb : b < 256 := by omega
  have hw : ∀ n : Nat, n < 18446744073709551616 → IntKind.u64.wrap (n : Int) = n := fun n hn => by
    have : IntKind.u64.wrap (n : Int) = (n : Int) % 18446744073709551616 := by simp [IntKind.wrap, IntKind.bits, IntKind.signed]
    rw [this]; omega
  have ho : ∀ p q : Nat, p < 72057594037927936 → q < 256 → BitVec.toNat (BitVec.ofInt (IntKind.bits IntKind.u64) ((p * 256 : Nat) : Int) ||| BitVec.ofInt (IntKind.bits IntKind.u64) (q : Int)) = 256 * p + q := fun p q hp hq => by
    have := u64_or_byte p q hp hq
    rw [hw q (by omega)] at this
    have h2 := hw (256 * p + q) (by omega)
    unfold bits at this
    rw [show ((p : Int) * 256) = ((p * 256 : Nat) : Int) by simp] at this
    have h3 : ∀ z : Nat, z < 18446744073709551616 → IntKind.u64.wrap (z : Int) = ((256 * p + q : Nat) : Int) → z = 256 * p + q := fun z hz h => by
      rw [hw z hz] at h; exact Int.ofNat.inj h
    exact h3 _ (BitVec.isLt _) this
  have hm : min (Int.toNat 8) (IntKind.bits IntKind.u64) = 8 := by decide
  rw [hm, show IntKind.u64.wrap (0 * 2 ^ 8) = ((0 * 256 : Nat) : Int) from by decide, hw a (by omega), ho 0 a (by omega) ha, Nat.mul_zero, Nat.zero_add, hw a (by omega), show ((a : Int) * 2 ^ 8) = ((a * 256 : Nat) : Int) by simp, hw (a * 256) (by omega), hw b (by omega), ho a b (by omega) hb, hw _ (by omega), IntWalk.i64_left]
  unfold wrap64
  omega
theorem rej_soundF : SoundF Tryz.prog 14 (pureS Tryz.prog 14 FRej) := by
  refine pure_in (gs := []) (ls := []) mixed trivial trivial 14 100 fun args K ho H => ?_
  unfold FRej at H
  split at H
  · rename_i c i d
    obtain ⟨hr, H⟩ := need_holds H
    have hr : 2 ≤ d.len → (0 ≤ byA d 0 ∧ byA d 0 < 256) ∧ (0 ≤ byA d 1 ∧ byA d 1 < 256) := of_decide_eq_true hr
    rw [rej_tree]
    have fin : ∀ {n : Int} {b : Bool} {k1 k2 : Bool}, n = rejN c d → b = rejB c d → ∃ y, Le (.tup [.sc k1 (.int .i64 n), .sc k2 (.bool b)]) y ∧ K y := fun h1 h2 => ⟨_, le_tup (leL_cons (le_int h1) (leL_cons (le_bool h2) fun _ _ h => h)), H⟩
    refine ⟨fun h1 => fin ?_ ?_, fun h1 => ?_⟩
    · have h1 : d.len < 2 := by have := of_decide_eq_true h1; omega
      unfold rejN; rw [if_neg (by omega)]
    · have h1 : d.len < 2 := by have := of_decide_eq_true h1; omega
      unfold rejB; rw [decide_eq_false (by omega)]
    · have h1 : 2 ≤ d.len := by have := of_decide_eq_false h1; omega
      refine ⟨fun _ => ⟨fun _ => ⟨fun _ => ⟨fun _ => ⟨fun h2 => fin ?_ ?_, fun h2 => fin ?_ ?_⟩, fun h => absurd ⟨by omega, by omega, by omega, by omega⟩ (of_decide_eq_false h)⟩, fun h => absurd ⟨by omega, by omega⟩ (of_decide_eq_false h)⟩, fun h => by cases h⟩, fun h => absurd ⟨by omega, by omega⟩ (of_decide_eq_false h)⟩
      · have : c ≠ 8 := bne_iff_ne.1 h2
        unfold rejN; rw [if_neg (by omega)]
      · have : c ≠ 8 := bne_iff_ne.1 h2
        unfold rejB; rw [decide_eq_false (by omega)]
      · have : c = 8 := by simpa using h2
        unfold rejN; rw [if_pos ⟨this, h1⟩]
        obtain ⟨r1, r2⟩ := hr h1
        exact or_bytes r1 r2
      · have : c = 8 := by simpa using h2
        unfold rejB; rw [decide_eq_true ⟨this, h1⟩]
  · exact H.elim
theorem i64_id {n : Int} (h : 0 ≤ n ∧ n < 9223372036854775808) : IntKind.i64.wrap n = n := by rw [IntWalk.i64_left]; unfold wrap64; omega
theorem rrej_soundF : SoundF Tryz.prog 15 (pureS Tryz.prog 15 FRej) := by
  refine pure_in (gs := []) (ls := []) mixed trivial trivial 15 100 fun args K ho H => ?_
  unfold FRej at H
  split at H
  · rename_i c i d
    obtain ⟨hr, H⟩ := need_holds H
    have hr : 2 ≤ d.len → (0 ≤ byA d 0 ∧ byA d 0 < 256) ∧ (0 ≤ byA d 1 ∧ byA d 1 < 256) := of_decide_eq_true hr
    rw [rrej_tree]
    have fin : ∀ {n : Int} {b : Bool} {k1 k2 : Bool}, n = rejN c d → b = rejB c d → ∃ y, Le (.tup [.sc k1 (.int .i64 n), .sc k2 (.bool b)]) y ∧ K y := fun h1 h2 => ⟨_, le_tup (leL_cons (le_int h1) (leL_cons (le_bool h2) fun _ _ h => h)), H⟩
    refine ⟨fun h1 => fin ?_ ?_, fun h1 => ⟨fun h2 => fin ?_ ?_, fun h2 => ?_⟩⟩
    · have : c ≠ 8 := bne_iff_ne.1 h1
      unfold rejN; rw [if_neg (by omega)]
    · have : c ≠ 8 := bne_iff_ne.1 h1
      unfold rejB; rw [decide_eq_false (by omega)]
    · have h1 : d.len < 2 := by have := of_decide_eq_true h2; omega
      unfold rejN; rw [if_neg (by omega)]
    · have h1 : d.len < 2 := by have := of_decide_eq_true h2; omega
      unfold rejB; rw [decide_eq_false (by omega)]
    · have hc : c = 8 := by simpa using h1
      have h2 : 2 ≤ d.len := by have := of_decide_eq_false h2; omega
      refine ⟨fun _ => ⟨fun _ => fin ?_ ?_, fun h => absurd ⟨by omega, by omega⟩ (of_decide_eq_false h)⟩, fun h => absurd ⟨by omega, by omega⟩ (of_decide_eq_false h)⟩
      · unfold rejN; rw [if_pos ⟨hc, h2⟩]
        obtain ⟨r1, r2⟩ := hr h2
        show IntKind.i64.wrap (IntKind.i64.wrap (256 * IntKind.i64.wrap (byA d 0)) + IntKind.i64.wrap (byA d 1)) = _
        rw [i64_id (n := byA d 0) (by omega), i64_id (n := byA d 1) (by omega), i64_id (n := 256 * byA d 0) (by omega), i64_id (by omega)]
      · unfold rejB; rw [decide_eq_true ⟨hc, h2⟩]
  · exact H.elim
-- DEFS
/-- a new control, whether there is one or not -/
def nwD (b : Bool) (a m : Int) : D := bif b then asksD a m else .l []
def nwI (b : Bool) (n : Int) : Int := bif b then n else 0
abbrev nwT (b : Bool) (a m : Int) : AV := .tup [.agg [k0, k0, k0, asl opS (nwD b a m), k0, k0, k0, ai (nwI b m), k0, ai (nwI b 1492), k0, k0], ai (errIf b 170)]
def FLNew1 : List AV → RT AV
  | [.agg [.sc false (.int .i64 a), .sc false (.int .i64 b), .sc false (.int .i64 c), .sc false (.int .i64 e), .sc false (.int .i64 f), .sc false (.int .i64 g), .sc false (.int .i64 h)], .sc false (.int .i64 m)] => .ok (nwT (newB a b c e f g h m) a m)
  | _ => .bad 210
-- END
-- STOPS: nwD nwI errIf
theorem le_newN {a m : Int} : Le newN (nwT false a m) := by
  refine le_tup (leL_cons (le_agg (leL_cons (Le.refl _) (leL_cons (Le.refl _) (leL_cons (Le.refl _) (leL_cons (le_nil ?_) (leL_cons (Le.refl _) (leL_cons (Le.refl _) (leL_cons (Le.refl _) (leL_cons (le_int rfl) (leL_cons (Le.refl _) (leL_cons (le_int rfl) fun _ _ h => h))))))))))) (leL_cons (le_int rfl) fun _ _ h => h))
  simp [nwD, D.len, D.toL, D.raw]
theorem le_newY {a m : Int} {d : D} (h : d.raw = (asksD a m).raw) : Le (.tup [.agg [k0, k0, k0, .sl true opS d none, k0, k0, k0, ai m, k0, .sc true (.int .i64 1492), k0, k0], k0]) (nwT true a m) :=
  le_tup (leL_cons (le_agg (leL_cons (Le.refl _) (leL_cons (Le.refl _) (leL_cons (Le.refl _) (leL_cons (le_raw h) (leL_cons (Le.refl _) (leL_cons (Le.refl _) (leL_cons (Le.refl _) (leL_cons (le_int rfl) (leL_cons (Le.refl _) (leL_cons (le_int rfl) fun _ _ h => h))))))))))) (leL_cons (le_int rfl) fun _ _ h => h))
theorem lnew1_soundF : SoundF Tryz.prog 9 (pureS Tryz.prog 9 FLNew1) := by
  refine pure_in (gs := newG Tryz.prog) (ls := []) mixed newG_ok trivial 9 100 fun args K ho H => ?_
  unfold FLNew1 at H
  split at H
  · rename_i a b c e f g h m
    rw [new_tree]
    have hn := newB_iff a b c e f g h m
    have H : K (nwT (newB a b c e f g h m) a m) := H
    have hno : ∀ (hx : ¬ (fitsB a b c e f g h = true ∧ 1 ≤ m ∧ m ≤ 4294967295)), ∃ y, Le newN y ∧ K y := fun hx => by
      have hb : newB a b c e f g h m = false := by cases hb : newB a b c e f g h m; rfl; exact absurd (hn.1 hb) hx
      rw [hb] at H
      exact ⟨_, le_newN, H⟩
    refine ⟨fun h1 => hno fun hx => ?_, fun h1 => ⟨fun h2 => ⟨fun h3 => hno fun hx => ?_, fun h3 => ⟨fun h4 => ⟨fun h5 => ?_, fun h5 => absurd (uns_range m) (of_decide_eq_false h5)⟩, fun h4 => absurd (uns_range a) (of_decide_eq_false h4)⟩⟩, fun h2 => hno fun hx => ?_⟩⟩
    · rw [hx.1] at h1; cases h1
    · rw [decide_eq_true hx.2.2] at h3; cases h3
    · have hb : newB a b c e f g h m = true := hn.2 ⟨by cases hf : fitsB a b c e f g h; rw [hf] at h1; cases h1; rfl, of_decide_eq_true h2, by simpa using h3⟩
      rw [hb] at H
      exact ⟨_, le_newY (a := a) (by kernel_rfl), H⟩
    · exact absurd hx.2.1 (of_decide_eq_false h2)
  · exact H.elim
theorem rlnew1_soundF : SoundF Tryz.prog 10 (pureS Tryz.prog 10 FLNew1) := by
  refine pure_in (gs := newG Tryz.prog) (ls := []) mixed newG_ok trivial 10 100 fun args K ho H => ?_
  unfold FLNew1 at H
  split at H
  · rename_i a b c e f g h m
    rw [rnew_tree]
    have hn := newB_iff a b c e f g h m
    have H : K (nwT (newB a b c e f g h m) a m) := H
    have hno : ∀ (hx : ¬ (fitsB a b c e f g h = true ∧ 1 ≤ m ∧ m ≤ 4294967295)), ∃ y, Le newN y ∧ K y := fun hx => by
      have hb : newB a b c e f g h m = false := by cases hb : newB a b c e f g h m; rfl; exact absurd (hn.1 hb) hx
      rw [hb] at H
      exact ⟨_, le_newN, H⟩
    refine ⟨fun h1 => hno fun hx => ?_, fun h1 => ⟨fun h2 => ⟨fun h3 => hno fun hx => ?_, fun h3 => ⟨fun h4 => ⟨fun h5 => ?_, fun h5 => absurd (uns_range m) (of_decide_eq_false h5)⟩, fun h4 => absurd (uns_range a) (of_decide_eq_false h4)⟩⟩, fun h2 => hno fun hx => ?_⟩⟩
    · rw [hx.1] at h1; cases h1
    · rw [decide_eq_true hx.2.2] at h3; cases h3
    · have hb : newB a b c e f g h m = true := hn.2 ⟨by cases hf : fitsB a b c e f g h; rw [hf] at h1; cases h1; rfl, of_decide_eq_true h2, by simpa using h3⟩
      rw [hb] at H
      exact ⟨_, le_newY (a := a) (by kernel_rfl), H⟩
    · exact absurd hx.2.1 (of_decide_eq_false h2)
  · exact H.elim
-- DEFS
def lawG (P : Program) : List (FuncId × Spec) := [(8, pureS P 8 FLight), (9, pureS P 9 FLNew1), (10, pureS P 10 FLNew1),
  (11, pureS P 11 FLck), (17, pureS P 17 FLis), (12, pureS P 12 FAutP), (13, pureS P 13 FAutR),
  (14, pureS P 14 FRej), (15, pureS P 15 FRej), (18, pureS P 18 FNextL), (19, pureS P 19 FNextL),
  (20, pureS P 20 FSameL), (16, pureS P 16 FSameL), (21, pureS P 21 (Fone mAwkK mAwkR))]
-- END
theorem lawG_ok : GamL Tryz.prog (lawG Tryz.prog) := ⟨light_soundF, lnew1_soundF, rlnew1_soundF, lcheck_soundF, rlis_soundF, auto_soundF, rauto_soundF, rej_soundF, rrej_soundF, lnext_soundF, rlnext_soundF, lsame_soundF, rlsame_soundF, awk_soundF, trivial⟩
end
end Go.Proofs.YtcambhbmobepjaaGreat

namespace Go.Proofs.YtcambhbmobepjaaGreat
set_option linter.unusedSimpArgs false
set_option linter.unusedVariables false
open Go.RowKit
set_option maxRecDepth 100000
noncomputable section
theorem frm_tree (a b c e f g h st id rq : Int) (d : D) (ct tm nk mg pr mu pe ne m ic ii : Int) (dd : D) : treeF (evF Tryz.prog (gam (lawG Tryz.prog)) (lam ([])) 100 3) [cfgA a b c e f g h, lcpA st id rq d ct tm nk mg pr mu pe ne, ai m, .agg [ai ic, ai ii, asl byS dd]] =
    RT.br (decide (-1099511627776 < m))
      (RT.br (decide (m < 1099511627776))
        (RT.br (b != b) (RT.ok (AV.sc true (Value.bool false)))
          (RT.br (c != c) (RT.ok (AV.sc true (Value.bool false)))
            (RT.br (e != e) (RT.ok (AV.sc true (Value.bool false)))
              (RT.br (f != f) (RT.ok (AV.sc true (Value.bool false)))
                (RT.br
                  (!(m == m &&
                      (bothB
                          (hint (true && (true && true))
                                (D.cell (D.get (rulD m (othP m)) (Int.toNat (IntKind.wrap IntKind.i64 (0 + 1))))
                                  (0 + 1 + 1 + 1 + 1)) &&
                              hint (true && (true && true))
                                (D.cell (D.get (rulD m (othR m)) (Int.toNat (IntKind.wrap IntKind.i64 (0 + 1))))
                                  (0 + 1 + 1 + 1 + 1)),
                            D.toI
                                (D.cell (D.get (rulD m (othP m)) (Int.toNat (IntKind.wrap IntKind.i64 (0 + 1))))
                                  (0 + 1 + 1 + 1 + 1)) ==
                              D.toI
                                (D.cell (D.get (rulD m (othR m)) (Int.toNat (IntKind.wrap IntKind.i64 (0 + 1))))
                                  (0 + 1 + 1 + 1 + 1)))
                          (bothB
                            (hint (true && (true && true))
                                  (D.cell (D.get (rulD m (othP m)) (Int.toNat (IntKind.wrap IntKind.i64 (0 + 1))))
                                    (0 + 1 + 1 + 1 + 1 + 1)) &&
                                hint (true && (true && true))
                                  (D.cell (D.get (rulD m (othR m)) (Int.toNat (IntKind.wrap IntKind.i64 (0 + 1))))
                                    (0 + 1 + 1 + 1 + 1 + 1)),
                              D.toI
                                  (D.cell (D.get (rulD m (othP m)) (Int.toNat (IntKind.wrap IntKind.i64 (0 + 1))))
                                    (0 + 1 + 1 + 1 + 1 + 1)) ==
                                D.toI
                                  (D.cell (D.get (rulD m (othR m)) (Int.toNat (IntKind.wrap IntKind.i64 (0 + 1))))
                                    (0 + 1 + 1 + 1 + 1 + 1)))
                            (bothB
                              (hint (true && (true && true))
                                    (D.cell (D.get (rulD m (othP m)) (Int.toNat (IntKind.wrap IntKind.i64 (0 + 1))))
                                      (0 + 1 + 1 + 1 + 1 + 1 + 1)) &&
                                  hint (true && (true && true))
                                    (D.cell (D.get (rulD m (othR m)) (Int.toNat (IntKind.wrap IntKind.i64 (0 + 1))))
                                      (0 + 1 + 1 + 1 + 1 + 1 + 1)),
                                D.toB
                                    (D.cell (D.get (rulD m (othP m)) (Int.toNat (IntKind.wrap IntKind.i64 (0 + 1))))
                                      (0 + 1 + 1 + 1 + 1 + 1 + 1)) ==
                                  D.toB
                                    (D.cell (D.get (rulD m (othR m)) (Int.toNat (IntKind.wrap IntKind.i64 (0 + 1))))
                                      (0 + 1 + 1 + 1 + 1 + 1 + 1)))
                              (true, true)))).2))
                  (RT.ok (AV.sc true (Value.bool false)))
                  (RT.br (rngB dd)
                    (RT.br (rngB dd)
                      (RT.br
                        (sameL 0 0 0 (nwD (newB a b c e f g h m) a m) 0 0 0 (nwI (newB a b c e f g h m) m) 0
                          (nwI (newB a b c e f g h m) 1492) 0 0 0 0 0 (nwD (newB a b c e f g h m) a m) 0 0 0
                          (nwI (newB a b c e f g h m) m) 0 (nwI (newB a b c e f g h m) 1492) 0 0)
                        (RT.br (errIf (newB a b c e f g h m) 170 == errIf (newB a b c e f g h m) 170)
                          (RT.br
                            ((errIf (lisB a b c e f g h st id rq (tabD (lgtE d) (lgtN d)) ct tm nk mg pr mu pe ne) 170 ==
                                0) ==
                              lisB a b c e f g h st id rq (tabD (lgtE d) (lgtN d)) ct tm nk mg pr mu pe ne)
                            (RT.br
                              (errIf (lisB a b c e f g h st id rq (tabD (lgtE d) (lgtN d)) ct tm nk mg pr mu pe ne) 170 ==
                                0)
                              (RT.br (nextI tm ne == nextI tm ne)
                                (RT.br (rejN ic dd == rejN ic dd)
                                  (RT.br (rejB ic dd == rejB ic dd)
                                    (RT.br
                                      (sameL st id rq (tabD (lgtE d) (lgtN d)) ct tm nk mg pr mu pe ne st id rq
                                        (tabD (lgtE d) (lgtN d)) ct tm nk mg pr mu pe ne)
                                      (RT.br
                                        (sameL 0 0 0 (nwD (newB a b c e f g h m) a m) 0 0 0 (nwI (newB a b c e f g h m) m) 0
                                            (nwI (newB a b c e f g h m) 1492) 0 0 st id rq (tabD (lgtE d) (lgtN d)) ct tm nk
                                            mg pr mu pe ne ==
                                          sameL 0 0 0 (nwD (newB a b c e f g h m) a m) 0 0 0 (nwI (newB a b c e f g h m) m)
                                            0 (nwI (newB a b c e f g h m) 1492) 0 0 st id rq (tabD (lgtE d) (lgtN d)) ct tm
                                            nk mg pr mu pe ne)
                                        (RT.ok (AV.sc true (Value.bool true))) (RT.ok (AV.sc true (Value.bool false))))
                                      (RT.ok (AV.sc true (Value.bool false))))
                                    (RT.ok (AV.sc true (Value.bool false))))
                                  (RT.ok (AV.sc true (Value.bool false))))
                                (RT.ok (AV.sc true (Value.bool false))))
                              (RT.br
                                (errIf (lisB a b c e f g h st id rq (tabD (lgtE d) (lgtN d)) ct tm nk mg pr mu pe ne) 170 ==
                                  170)
                                (RT.br (nextI tm ne == nextI tm ne)
                                  (RT.br (rejN ic dd == rejN ic dd)
                                    (RT.br (rejB ic dd == rejB ic dd)
                                      (RT.br
                                        (sameL st id rq (tabD (lgtE d) (lgtN d)) ct tm nk mg pr mu pe ne st id rq
                                          (tabD (lgtE d) (lgtN d)) ct tm nk mg pr mu pe ne)
                                        (RT.br
                                          (sameL 0 0 0 (nwD (newB a b c e f g h m) a m) 0 0 0 (nwI (newB a b c e f g h m) m)
                                              0 (nwI (newB a b c e f g h m) 1492) 0 0 st id rq (tabD (lgtE d) (lgtN d)) ct
                                              tm nk mg pr mu pe ne ==
                                            sameL 0 0 0 (nwD (newB a b c e f g h m) a m) 0 0 0
                                              (nwI (newB a b c e f g h m) m) 0 (nwI (newB a b c e f g h m) 1492) 0 0 st id
                                              rq (tabD (lgtE d) (lgtN d)) ct tm nk mg pr mu pe ne)
                                          (RT.ok (AV.sc true (Value.bool true))) (RT.ok (AV.sc true (Value.bool false))))
                                        (RT.ok (AV.sc true (Value.bool false))))
                                      (RT.ok (AV.sc true (Value.bool false))))
                                    (RT.ok (AV.sc true (Value.bool false))))
                                  (RT.ok (AV.sc true (Value.bool false))))
                                (RT.ok (AV.sc true (Value.bool false)))))
                            (RT.ok (AV.sc true (Value.bool false))))
                          (RT.ok (AV.sc true (Value.bool false))))
                        (RT.ok (AV.sc true (Value.bool false))))
                      (RT.bad 221))
                    (RT.bad 221)))))))
        (RT.br (rngB dd)
          (RT.br (rngB dd)
            (RT.br
              (sameL 0 0 0 (nwD (newB a b c e f g h m) a m) 0 0 0 (nwI (newB a b c e f g h m) m) 0
                (nwI (newB a b c e f g h m) 1492) 0 0 0 0 0 (nwD (newB a b c e f g h m) a m) 0 0 0
                (nwI (newB a b c e f g h m) m) 0 (nwI (newB a b c e f g h m) 1492) 0 0)
              (RT.br (errIf (newB a b c e f g h m) 170 == errIf (newB a b c e f g h m) 170)
                (RT.br
                  ((errIf (lisB a b c e f g h st id rq (tabD (lgtE d) (lgtN d)) ct tm nk mg pr mu pe ne) 170 == 0) ==
                    lisB a b c e f g h st id rq (tabD (lgtE d) (lgtN d)) ct tm nk mg pr mu pe ne)
                  (RT.br (errIf (lisB a b c e f g h st id rq (tabD (lgtE d) (lgtN d)) ct tm nk mg pr mu pe ne) 170 == 0)
                    (RT.br (nextI tm ne == nextI tm ne)
                      (RT.br (rejN ic dd == rejN ic dd)
                        (RT.br (rejB ic dd == rejB ic dd)
                          (RT.br
                            (sameL st id rq (tabD (lgtE d) (lgtN d)) ct tm nk mg pr mu pe ne st id rq
                              (tabD (lgtE d) (lgtN d)) ct tm nk mg pr mu pe ne)
                            (RT.br
                              (sameL 0 0 0 (nwD (newB a b c e f g h m) a m) 0 0 0 (nwI (newB a b c e f g h m) m) 0
                                  (nwI (newB a b c e f g h m) 1492) 0 0 st id rq (tabD (lgtE d) (lgtN d)) ct tm nk mg pr mu
                                  pe ne ==
                                sameL 0 0 0 (nwD (newB a b c e f g h m) a m) 0 0 0 (nwI (newB a b c e f g h m) m) 0
                                  (nwI (newB a b c e f g h m) 1492) 0 0 st id rq (tabD (lgtE d) (lgtN d)) ct tm nk mg pr mu
                                  pe ne)
                              (RT.ok (AV.sc true (Value.bool true))) (RT.ok (AV.sc true (Value.bool false))))
                            (RT.ok (AV.sc true (Value.bool false))))
                          (RT.ok (AV.sc true (Value.bool false))))
                        (RT.ok (AV.sc true (Value.bool false))))
                      (RT.ok (AV.sc true (Value.bool false))))
                    (RT.br (errIf (lisB a b c e f g h st id rq (tabD (lgtE d) (lgtN d)) ct tm nk mg pr mu pe ne) 170 == 170)
                      (RT.br (nextI tm ne == nextI tm ne)
                        (RT.br (rejN ic dd == rejN ic dd)
                          (RT.br (rejB ic dd == rejB ic dd)
                            (RT.br
                              (sameL st id rq (tabD (lgtE d) (lgtN d)) ct tm nk mg pr mu pe ne st id rq
                                (tabD (lgtE d) (lgtN d)) ct tm nk mg pr mu pe ne)
                              (RT.br
                                (sameL 0 0 0 (nwD (newB a b c e f g h m) a m) 0 0 0 (nwI (newB a b c e f g h m) m) 0
                                    (nwI (newB a b c e f g h m) 1492) 0 0 st id rq (tabD (lgtE d) (lgtN d)) ct tm nk mg pr
                                    mu pe ne ==
                                  sameL 0 0 0 (nwD (newB a b c e f g h m) a m) 0 0 0 (nwI (newB a b c e f g h m) m) 0
                                    (nwI (newB a b c e f g h m) 1492) 0 0 st id rq (tabD (lgtE d) (lgtN d)) ct tm nk mg pr
                                    mu pe ne)
                                (RT.ok (AV.sc true (Value.bool true))) (RT.ok (AV.sc true (Value.bool false))))
                              (RT.ok (AV.sc true (Value.bool false))))
                            (RT.ok (AV.sc true (Value.bool false))))
                          (RT.ok (AV.sc true (Value.bool false))))
                        (RT.ok (AV.sc true (Value.bool false))))
                      (RT.ok (AV.sc true (Value.bool false)))))
                  (RT.ok (AV.sc true (Value.bool false))))
                (RT.ok (AV.sc true (Value.bool false))))
              (RT.ok (AV.sc true (Value.bool false))))
            (RT.bad 221))
          (RT.bad 221)))
      (RT.br (rngB dd)
        (RT.br (rngB dd)
          (RT.br
            (sameL 0 0 0 (nwD (newB a b c e f g h m) a m) 0 0 0 (nwI (newB a b c e f g h m) m) 0
              (nwI (newB a b c e f g h m) 1492) 0 0 0 0 0 (nwD (newB a b c e f g h m) a m) 0 0 0
              (nwI (newB a b c e f g h m) m) 0 (nwI (newB a b c e f g h m) 1492) 0 0)
            (RT.br (errIf (newB a b c e f g h m) 170 == errIf (newB a b c e f g h m) 170)
              (RT.br
                ((errIf (lisB a b c e f g h st id rq (tabD (lgtE d) (lgtN d)) ct tm nk mg pr mu pe ne) 170 == 0) ==
                  lisB a b c e f g h st id rq (tabD (lgtE d) (lgtN d)) ct tm nk mg pr mu pe ne)
                (RT.br (errIf (lisB a b c e f g h st id rq (tabD (lgtE d) (lgtN d)) ct tm nk mg pr mu pe ne) 170 == 0)
                  (RT.br (nextI tm ne == nextI tm ne)
                    (RT.br (rejN ic dd == rejN ic dd)
                      (RT.br (rejB ic dd == rejB ic dd)
                        (RT.br
                          (sameL st id rq (tabD (lgtE d) (lgtN d)) ct tm nk mg pr mu pe ne st id rq (tabD (lgtE d) (lgtN d))
                            ct tm nk mg pr mu pe ne)
                          (RT.br
                            (sameL 0 0 0 (nwD (newB a b c e f g h m) a m) 0 0 0 (nwI (newB a b c e f g h m) m) 0
                                (nwI (newB a b c e f g h m) 1492) 0 0 st id rq (tabD (lgtE d) (lgtN d)) ct tm nk mg pr mu pe
                                ne ==
                              sameL 0 0 0 (nwD (newB a b c e f g h m) a m) 0 0 0 (nwI (newB a b c e f g h m) m) 0
                                (nwI (newB a b c e f g h m) 1492) 0 0 st id rq (tabD (lgtE d) (lgtN d)) ct tm nk mg pr mu pe
                                ne)
                            (RT.ok (AV.sc true (Value.bool true))) (RT.ok (AV.sc true (Value.bool false))))
                          (RT.ok (AV.sc true (Value.bool false))))
                        (RT.ok (AV.sc true (Value.bool false))))
                      (RT.ok (AV.sc true (Value.bool false))))
                    (RT.ok (AV.sc true (Value.bool false))))
                  (RT.br (errIf (lisB a b c e f g h st id rq (tabD (lgtE d) (lgtN d)) ct tm nk mg pr mu pe ne) 170 == 170)
                    (RT.br (nextI tm ne == nextI tm ne)
                      (RT.br (rejN ic dd == rejN ic dd)
                        (RT.br (rejB ic dd == rejB ic dd)
                          (RT.br
                            (sameL st id rq (tabD (lgtE d) (lgtN d)) ct tm nk mg pr mu pe ne st id rq
                              (tabD (lgtE d) (lgtN d)) ct tm nk mg pr mu pe ne)
                            (RT.br
                              (sameL 0 0 0 (nwD (newB a b c e f g h m) a m) 0 0 0 (nwI (newB a b c e f g h m) m) 0
                                  (nwI (newB a b c e f g h m) 1492) 0 0 st id rq (tabD (lgtE d) (lgtN d)) ct tm nk mg pr mu
                                  pe ne ==
                                sameL 0 0 0 (nwD (newB a b c e f g h m) a m) 0 0 0 (nwI (newB a b c e f g h m) m) 0
                                  (nwI (newB a b c e f g h m) 1492) 0 0 st id rq (tabD (lgtE d) (lgtN d)) ct tm nk mg pr mu
                                  pe ne)
                              (RT.ok (AV.sc true (Value.bool true))) (RT.ok (AV.sc true (Value.bool false))))
                            (RT.ok (AV.sc true (Value.bool false))))
                          (RT.ok (AV.sc true (Value.bool false))))
                        (RT.ok (AV.sc true (Value.bool false))))
                      (RT.ok (AV.sc true (Value.bool false))))
                    (RT.ok (AV.sc true (Value.bool false)))))
                (RT.ok (AV.sc true (Value.bool false))))
              (RT.ok (AV.sc true (Value.bool false))))
            (RT.ok (AV.sc true (Value.bool false))))
          (RT.bad 221))
        (RT.bad 221)) := by kernel_rfl
end
end Go.Proofs.YtcambhbmobepjaaGreat

namespace Go.Proofs.YtcambhbmobepjaaGreat
set_option linter.unusedSimpArgs false
set_option linter.unusedVariables false
open Go.RowKit
set_option maxRecDepth 100000
noncomputable section
theorem okFrom_all {p : Nat → Bool} (h : ∀ i, p i = true) : ∀ n i, okFrom p n i = true
  | 0, _ => rfl
  | n + 1, i => by simp only [okFrom, h i, Bool.true_and, okFrom_all h n]
theorem sameO_refl (d : D) : sameO d d = true := by
  unfold sameO
  rw [decide_eq_true rfl, okFrom_all (fun i => by simp [oneE])]; rfl
theorem sameL_refl (st id rq : Int) (d : D) (ct tm nk mg pr mu pe ne : Int) : sameL st id rq d ct tm nk mg pr mu pe ne st id rq d ct tm nk mg pr mu pe ne = true := by
  simp only [sameL, sameO_refl, beq_self_eq_true, Bool.true_and]
theorem bothB_t (p : Bool) (r : Bool × Bool) : (bothB (p, true) r).2 = r.2 := by
  obtain ⟨x, y⟩ := r
  cases p <;> simp [bothB]
theorem errL (b : Bool) : ((errIf b 170 == 0) == b) = true := by cases b <;> decide
theorem errL2 {b : Bool} (h : (errIf b 170 == 0) = false) : (errIf b 170 == 170) = true := by
  cases b
  · decide
  · revert h; decide
theorem byte_rng {d : D} (hw : wfS (.sl byS) d) (i : Nat) (hi : i < d.len) : 0 ≤ byA d i ∧ byA d i < 256 := by
  have h1 := (hw.2 i hi).1
  have h2 : IntKind.u8.min ≤ byA d i ∧ byA d i ≤ IntKind.u8.max := h1
  have e1 : IntKind.u8.min = 0 := by decide
  have e2 : IntKind.u8.max = 255 := by decide
  omega
theorem rngB_of {d : D} (hw : wfS (.sl byS) d) : rngB d = true := by
  unfold rngB
  exact decide_eq_true fun h => ⟨byte_rng hw 0 (by omega), byte_rng hw 1 (by omega)⟩
/-- a tree whose answer is true -/
structure Tru (t : RT AV) : Prop where
  h : t.holds fun r => Le r (.sc false (.bool true))
theorem law_callsT {P : Program} {f : FuncId} {sp : Spec} (hs : SoundF P f sp) {args : List AV} {vals : List Value} {w : World} (hr : RelL (env0 w) args vals) (H : Tru (treeF sp args)) :
    Calls P f vals.toArray w fun e w' => e = .returned (.bool true) ∧ Below w.heap.size w w' := law_calls hs hr H.h
set_option maxHeartbeats 2000000 in
theorem frm_true (a b c e f g h st id rq : Int) (d : D) (ct tm nk mg pr mu pe ne m ic ii : Int) (dd : D) (hr : rngB dd = true) :
    Tru (treeF (evF Tryz.prog (gam (lawG Tryz.prog)) (lam []) 100 3) [cfgA a b c e f g h, lcpA st id rq d ct tm nk mg pr mu pe ne, ai m, .agg [ai ic, ai ii, asl byS dd]]) := by
  rw [frm_tree]
  constructor
  have hL : Le (.sc true (.bool true)) (.sc false (.bool true)) := le_bool rfl
  simp only [RT.holds, hr, sameL_refl, beq_self_eq_true, bne_self_eq_false, errL, true_implies, Bool.true_eq_false, Bool.false_eq_true, false_implies, and_true, true_and]
  have hrest : ∀ L : Bool, ((errIf L 170 == 0) = true → Le (.sc true (.bool true)) (.sc false (.bool true))) ∧ ((errIf L 170 == 0) = false → ((errIf L 170 == 170) = true → Le (.sc true (.bool true)) (.sc false (.bool true))) ∧ ((errIf L 170 == 170) = false → Le (.sc true (.bool false)) (.sc false (.bool true)))) := fun L =>
    ⟨fun _ => hL, fun h => ⟨fun _ => hL, fun h2 => by rw [errL2 h] at h2; cases h2⟩⟩
  refine ⟨fun h1 => ⟨fun h2 => ⟨fun h3 => ?_, fun _ => hrest _⟩, fun _ => hrest _⟩, fun _ => hrest _⟩
  have h1 := of_decide_eq_true h1
  have h2 := of_decide_eq_true h2
  rw [oth_same h1 h2] at h3
  simp only [beq_self_eq_true, bothB_t, Bool.and_true, Bool.not_true, Bool.false_eq_true] at h3
theorem frm_any {A : List AV} {a b c e f g h st id rq : Int} {d : D} {ct tm nk mg pr mu pe ne m ic ii : Int} {dd : D} (hA : A = [cfgA a b c e f g h, lcpA st id rq d ct tm nk mg pr mu pe ne, ai m, .agg [ai ic, ai ii, asl byS dd]]) (hr : rngB dd = true) :
    Tru (treeF (evF Tryz.prog (gam (lawG Tryz.prog)) (lam []) 100 3) A) := by
  subst hA
  exact @frm_true a b c e f g h st id rq d ct tm nk mg pr mu pe ne m ic ii dd hr
theorem frm_join (x0_0 x0_1 x0_2 x0_3 x0_4 x0_5 x0_6 x1_0 x1_1 x1_2 x1_3 x1_4 x1_5 x1_6 x1_7 x1_8 x1_9 x1_10 x1_11 x2_0 x3_0 x3_1 x3_2 : D) (_ : wfL [.int .i64, .int .i64, .int .i64, .int .i64, .int .i64, .int .i64, .int .i64] [x0_0, x0_1, x0_2, x0_3, x0_4, x0_5, x0_6]) (_ : wfL [.int .i64, .int .i64, .int .i64, .sl [.int .i64, .sl [.int .u8]], .int .i64, .int .i64, .int .i64, .int .i64, .int .i64, .int .i64, .int .i64, .int .i64] [x1_0, x1_1, x1_2, x1_3, x1_4, x1_5, x1_6, x1_7, x1_8, x1_9, x1_10, x1_11]) (_ : wfL [.int .i64] [x2_0]) (g3 : wfL [.int .i64, .int .i64, .sl [.int .u8]] [x3_0, x3_1, x3_2]) :
    Tru (treeF (evF Tryz.prog (gam (lawG Tryz.prog)) (lam []) 100 3) [.agg (avL [.int .i64, .int .i64, .int .i64, .int .i64, .int .i64, .int .i64, .int .i64] [x0_0, x0_1, x0_2, x0_3, x0_4, x0_5, x0_6]), .agg (avL [.int .i64, .int .i64, .int .i64, .sl [.int .i64, .sl [.int .u8]], .int .i64, .int .i64, .int .i64, .int .i64, .int .i64, .int .i64, .int .i64, .int .i64] [x1_0, x1_1, x1_2, x1_3, x1_4, x1_5, x1_6, x1_7, x1_8, x1_9, x1_10, x1_11]), leaf false (.int .i64) x2_0, .agg (avL [.int .i64, .int .i64, .sl [.int .u8]] [x3_0, x3_1, x3_2])]) :=
  frm_any (show ([.agg (avL [.int .i64, .int .i64, .int .i64, .int .i64, .int .i64, .int .i64, .int .i64] [x0_0, x0_1, x0_2, x0_3, x0_4, x0_5, x0_6]), .agg (avL [.int .i64, .int .i64, .int .i64, .sl [.int .i64, .sl [.int .u8]], .int .i64, .int .i64, .int .i64, .int .i64, .int .i64, .int .i64, .int .i64, .int .i64] [x1_0, x1_1, x1_2, x1_3, x1_4, x1_5, x1_6, x1_7, x1_8, x1_9, x1_10, x1_11]), leaf false (.int .i64) x2_0, .agg (avL [.int .i64, .int .i64, .sl [.int .u8]] [x3_0, x3_1, x3_2])] : List AV) = [cfgA x0_0.toI x0_1.toI x0_2.toI x0_3.toI x0_4.toI x0_5.toI x0_6.toI, lcpA x1_0.toI x1_1.toI x1_2.toI x1_3 x1_4.toI x1_5.toI x1_6.toI x1_7.toI x1_8.toI x1_9.toI x1_10.toI x1_11.toI, ai x2_0.toI, .agg [ai x3_0.toI, ai x3_1.toI, asl byS x3_2]] from rfl) (rngB_of g3.2.2.1)
end
end Go.Proofs.YtcambhbmobepjaaGreat

namespace Go.Proofs.YtcambhbmobepjaaGreat
set_option linter.unusedSimpArgs false
set_option linter.unusedVariables false
open Go.RowKit
set_option maxRecDepth 10000
noncomputable section
section
variable {P : Program} {E : Env} {h : Hp} {w w0 w' : World} {G : Nat → Prop}

theorem own_vecE (I : Inv P w0 G E h w) {e : TypeId} {kn : Bool} {es : List Sh} {d : D} {v : Value} {news : List Value} (hsz : sizeT P e = some es.length) (hb : Below w.heap.size w w') (ho : w'.ownsRow w.heap.size e es.length v d.len news)
    (h1 : ∀ u ∈ news, u.oneCell' = true) (hbd : d.len * szB es ≤ room) (hre : ∀ i, i < d.len → RE E.Z es news.toArray (i * es.length) (d.get i) 0) :
    ∃ E', Stepd P w0 G E h w E' (newVec kn es d e h).2 w' ∧ Rel E' (newVec kn es d e h).1 v := by
  have ho0 : w'.ownsRow 0 e es.length v d.len ([] ++ news) := by
    refine ⟨ho.1, ?_⟩
    rcases ho.2 with h | ⟨g, cap, cur, h1, h2, h3⟩
    · exact .inl h
    · exact .inr ⟨g, cap, cur, h1, Nat.zero_le _, h3⟩
  have hown : v.ownBlock = none ∨ ∃ g, v.ownBlock = some g ∧ w.heap.size ≤ g := by
    rcases ho.2 with ⟨rfl, _⟩ | ⟨g, cap, cur, rfl, h2, h3⟩
    · exact .inl rfl
    · exact .inr ⟨g, rfl, h2⟩
  have S := I.vec_setG (v := .slice none 0 0) (v' := v) (k := h.nv) (m := h.nv + 1) (e := e) (xs := []) (.inr ⟨rfl, rfl, rfl⟩) (fun b hb => by cases hb) hsz ho0 (by simpa using h1) (Kpt.of_below hb _) hown
  refine ⟨_, S, ?_, ?_, ?_, ?_⟩
  · have hZg : ∀ g, v.ownBlock = some g → ∀ k u, news.toArray[k]? = some u → (E.grow h.nv v h.ng e (h.nv + 1) ([] ++ news)).Z g k = some u := fun g hg k u hu => by
      simp only [Env.grow, if_pos hg]; simpa using hu
    rcases ho.2 with ⟨rfl, h0⟩ | ⟨g, cap, cur, rfl, h2, _, hnc, hcm, _⟩
    · exact ⟨hbd, none, 0, by rw [h0], by rw [h0]; exact Nat.le_refl _, Nat.zero_le _, fun _ => rfl, fun hn => absurd h0 hn⟩
    · refine ⟨hbd, some ⟨g, 0, none⟩, cap, rfl, hnc, hcm, (fun h => by cases h), fun _ => ⟨g, 0, rfl, fun i hi => ?_⟩⟩
      have := re_el (Z' := (E.grow h.nv _ h.ng e (h.nv + 1) ([] ++ news)).Z) S.ext.Z (hZg g rfl) (hre i hi)
      rw [Nat.zero_add]; exact this
  · simp [Env.grow]
  · simp [Env.grow]
  · intro _; simp [Env.grow]
/-- a function whose answer is a slice of its own -/
def vecS (P : Program) (f : FuncId) (e : TypeId) (es : List Sh) (F : List AV → RT (Bool × D)) : Spec := fun args h => (F (args0 P f args)).bind fun r => .ok (newVec (r.1 || allKL args) es (bif allKL args then knowD r.2 else r.2) e h)
theorem re_know {Z : Nat → Nat → Option Value} {cs : Array Value} : ∀ {es : List Sh} {p : Nat} {d : D} {j : Nat}, RE Z es cs p d j → RE Z es cs p (knowD d) j
  | [], _, _, _, _ => trivial
  | _ :: _, _, _, _, ⟨⟨v, h1, h2⟩, h3⟩ => ⟨⟨v, h1, by rw [knowD_cell]; exact know_lf _ _ _ h2⟩, re_know h3⟩
theorem vec_direct {f : FuncId} {e : TypeId} {es : List Sh} {F : List AV → RT (Bool × D)} (hsz : sizeT P e = some es.length) (hF : ∀ args K, (F args).holds K → ∀ w0 G E h w vals, Inv P w0 G E h w → RelL E args vals → Calls P f vals.toArray w fun ev w' => ∃ kn d v news, K (kn, d) ∧ ev = .returned v ∧ Below w.heap.size w w' ∧
    w'.ownsRow w.heap.size e es.length v d.len news ∧ (∀ u ∈ news, u.oneCell' = true) ∧ d.len * szB es ≤ room ∧ ∀ i, i < d.len → RE E.Z es news.toArray (i * es.length) (d.get i) 0) : SoundF P f (vecS P f e es F) := by
  intro args h K H w0 G E w vals I hr
  unfold vecS at H
  rw [RT.holds_bind] at H
  refine (hF _ _ H w0 G E h w vals I (args0_rel hr)).mono ?_
  rintro ev w' ⟨kn, d, v, news, hK, rfl, hb, ho, h1, hbd, hre⟩
  cases hk : allKL args
  · rw [hk] at hK
    obtain ⟨E', S, hv⟩ := own_vecE (kn := kn || false) I hsz hb ho h1 hbd hre
    exact ⟨_, _, v, E', hK, rfl, S, hv⟩
  · rw [hk] at hK
    obtain ⟨E', S, hv⟩ := own_vecE (kn := kn || true) (d := knowD d) I hsz hb (by rw [knowD_len]; exact ho) h1 (by rw [knowD_len]; exact hbd) (fun i hi => by rw [knowD_get]; exact re_know (hre i (by rwa [knowD_len] at hi)))
    exact ⟨_, _, v, E', hK, rfl, S, hv⟩
theorem re_bytes {Z : Nat → Nat → Option Value} {l : List UInt8} {i : Nat} (hm : l.length ≤ maxLen) (hi : i < (eBs l).len) : RE Z [.int .u8] (l.map bv).toArray (i * 1) ((eBs l).get i) 0 := by
  rw [len_eBs hm] at hi
  refine ⟨⟨bv (l[i]?.getD 0), by simp [hi], ?_⟩, trivial⟩
  show bv _ = .int .u8 (((eBs l).get i).cell 0).toI
  unfold D.get
  rw [toL_eBs hm]
  simp [hi, eB, D.cell, D.toI, bv]
end
end
end Go.Proofs.YtcambhbmobepjaaGreat

namespace Go.Proofs.YtcambhbmobepjaaGreat
set_option linter.unusedSimpArgs false
set_option linter.unusedVariables false
open Go.RowKit
set_option maxRecDepth 100000
noncomputable section

-- DEFS
def FPutV : List AV → RT (Bool × D)
  | [.sc _ (.int .u64 n), .sc _ (.int .i64 s)] => need false (decide ((0 ≤ n ∧ n < 18446744073709551616) ∧ 1 ≤ s ∧ s ≤ 8)) 240 (.ok (true, beD n s))
  | _ => .bad 241
def putG (P : Program) : List (FuncId × Spec) := [(38, vecS P 38 5 byS FPutV), (42, vecS P 42 5 byS FPutV)]
-- END
-- STOPS: beD
theorem putV_soundF : SoundF Tryz.prog 38 (vecS Tryz.prog 38 5 byS FPutV) := by
  refine vec_direct (by kernel_rfl) fun args K H w0 G E h w vals I hr => ?_
  unfold FPutV at H
  split at H
  · rename_i n s
    obtain ⟨hc, H⟩ := need_holds H
    obtain ⟨⟨h0, h1⟩, hs⟩ := of_decide_eq_true hc
    obtain ⟨u, v, rfl, hu, hv⟩ := relL_two hr
    obtain rfl := rel_int hu
    obtain rfl := rel_int hv
    obtain ⟨m, rfl⟩ := Int.eq_ofNat_of_zero_le h0
    obtain ⟨k, rfl⟩ := Int.eq_ofNat_of_zero_le (show 0 ≤ s by omega)
    have hk : beI m (k : Int) = be m k := by unfold beI; rw [if_pos hs]; rfl
    have hbl : (be m k).length = k := by simp [be]
    have hm : (be m k).length ≤ maxLen := by rw [hbl]; unfold maxLen; omega
    refine (put_any m (by omega) k (by omega) (by omega) w).mono ?_
    rintro e w' ⟨v, rfl, hb, ho⟩
    rw [beD_eq, Int.toNat_natCast, hk] at H
    refine ⟨_, _, v, _, H, rfl, hb, ?_, ?_, ?_, fun i hi => re_bytes hm hi⟩
    · rw [len_eBs hm, hbl]; exact ho
    · intro u hu
      obtain ⟨b, _, rfl⟩ := List.mem_map.1 hu
      rfl
    · rw [len_eBs hm, hbl, show szB byS = 1 from by decide]; unfold room; omega
  · exact H.elim
theorem rputV_soundF : SoundF Tryz.prog 42 (vecS Tryz.prog 42 5 byS FPutV) := by
  refine vec_direct (by kernel_rfl) fun args K H w0 G E h w vals I hr => ?_
  unfold FPutV at H
  split at H
  · rename_i n s
    obtain ⟨hc, H⟩ := need_holds H
    obtain ⟨⟨h0, h1⟩, hs⟩ := of_decide_eq_true hc
    obtain ⟨u, v, rfl, hu, hv⟩ := relL_two hr
    obtain rfl := rel_int hu
    obtain rfl := rel_int hv
    obtain ⟨m, rfl⟩ := Int.eq_ofNat_of_zero_le h0
    obtain ⟨k, rfl⟩ := Int.eq_ofNat_of_zero_le (show 0 ≤ s by omega)
    have hk : beI m (k : Int) = be m k := by unfold beI; rw [if_pos hs]; rfl
    have hbl : (be m k).length = k := by simp [be]
    have hm : (be m k).length ≤ maxLen := by rw [hbl]; unfold maxLen; omega
    refine (rput_any m (by omega) k (by omega) (by omega) w).mono ?_
    rintro e w' ⟨v, rfl, hb, ho⟩
    rw [beD_eq, Int.toNat_natCast, hk] at H
    refine ⟨_, _, v, _, H, rfl, hb, ?_, ?_, ?_, fun i hi => re_bytes hm hi⟩
    · rw [len_eBs hm, hbl]; exact ho
    · intro u hu
      obtain ⟨b, _, rfl⟩ := List.mem_map.1 hu
      rfl
    · rw [len_eBs hm, hbl, show szB byS = 1 from by decide]; unfold room; omega
  · exact H.elim
theorem putG_ok : GamL Tryz.prog (putG Tryz.prog) := ⟨putV_soundF, rputV_soundF, trivial⟩
theorem enc7_tree (c i : Int) (d : D) : treeF (evF Tryz.prog (gam (putG Tryz.prog)) (lam ([])) 100 60) [.agg [ai c, ai i, asl byS d]] =
    RT.br (decide (0 ≤ c))
      (RT.br (!decide (c ≤ 255)) (RT.ok (AV.tup [AV.sc true (Value.slice none 0 0), AV.sc true (Value.int IntKind.i64 1)]))
        (RT.br (decide (0 ≤ i))
          (RT.br (!decide (i ≤ 255))
            (RT.ok (AV.tup [AV.sc true (Value.slice none 0 0), AV.sc true (Value.int IntKind.i64 1)]))
            (RT.br (decide (1488 < (↑(D.len d) : Int)))
              (RT.ok (AV.tup [AV.sc true (Value.slice none 0 0), AV.sc true (Value.int IntKind.i64 2)]))
              (RT.all
                (RT.br
                  (decide
                    ((0 ≤ IntKind.wrap IntKind.u64 (IntKind.wrap IntKind.i64 (4 + (↑(D.len d) : Int))) ∧
                        IntKind.wrap IntKind.u64 (IntKind.wrap IntKind.i64 (4 + (↑(D.len d) : Int))) <
                          18446744073709551616) ∧
                      (1 : Int) ≤ 2 ∧ (2 : Int) ≤ 8))
                  (RT.br (decide ((4 + D.len d) * 1 ≤ 140737488355328))
                    (RT.ok
                      (AV.tup
                        [AV.sl false [Sh.int IntKind.u8]
                            (D.app
                              (D.app (D.l [D.t [D.i (IntKind.wrap IntKind.u8 c)], D.t [D.i (IntKind.wrap IntKind.u8 i)]])
                                (beD (IntKind.wrap IntKind.u64 (IntKind.wrap IntKind.i64 (4 + (↑(D.len d) : Int)))) 2))
                              d)
                            none,
                          AV.sc true (Value.int IntKind.i64 0)]))
                    (RT.bad 70))
                  (RT.bad 240))
                (RT.br
                  (decide
                    ((0 ≤ IntKind.wrap IntKind.u64 (IntKind.wrap IntKind.i64 (4 + (↑(D.len d) : Int))) ∧
                        IntKind.wrap IntKind.u64 (IntKind.wrap IntKind.i64 (4 + (↑(D.len d) : Int))) <
                          18446744073709551616) ∧
                      (1 : Int) ≤ 2 ∧ (2 : Int) ≤ 8))
                  (RT.br (decide ((4 + D.len d) * 1 ≤ 140737488355328))
                    (RT.ok
                      (AV.tup
                        [AV.sl false [Sh.int IntKind.u8]
                            (D.app
                              (D.app (D.l [D.t [D.i (IntKind.wrap IntKind.u8 c)], D.t [D.i (IntKind.wrap IntKind.u8 i)]])
                                (beD (IntKind.wrap IntKind.u64 (IntKind.wrap IntKind.i64 (4 + (↑(D.len d) : Int)))) 2))
                              d)
                            none,
                          AV.sc true (Value.int IntKind.i64 0)]))
                    (RT.bad 70))
                  (RT.bad 240)))))
          (RT.ok (AV.tup [AV.sc true (Value.slice none 0 0), AV.sc true (Value.int IntKind.i64 1)]))))
      (RT.ok (AV.tup [AV.sc true (Value.slice none 0 0), AV.sc true (Value.int IntKind.i64 1)])) := by kernel_rfl
theorem renc7_tree (c i : Int) (d : D) : treeF (evF Tryz.prog (gam (putG Tryz.prog)) (lam ([])) 100 30) [.agg [ai c, ai i, asl byS d]] =
    RT.br (decide (0 ≤ c))
      (RT.br (!decide (c ≤ 255)) (RT.ok (AV.tup [AV.sc true (Value.slice none 0 0), AV.sc true (Value.int IntKind.i64 1)]))
        (RT.br (decide (0 ≤ i))
          (RT.br (!decide (i ≤ 255))
            (RT.ok (AV.tup [AV.sc true (Value.slice none 0 0), AV.sc true (Value.int IntKind.i64 1)]))
            (RT.br (decide (1488 < (↑(D.len d) : Int)))
              (RT.ok (AV.tup [AV.sc true (Value.slice none 0 0), AV.sc true (Value.int IntKind.i64 2)]))
              (RT.all
                (RT.br
                  (decide
                    ((0 ≤ IntKind.wrap IntKind.u64 (IntKind.wrap IntKind.i64 ((↑(D.len d) : Int) + 4)) ∧
                        IntKind.wrap IntKind.u64 (IntKind.wrap IntKind.i64 ((↑(D.len d) : Int) + 4)) <
                          18446744073709551616) ∧
                      (1 : Int) ≤ 2 ∧ (2 : Int) ≤ 8))
                  (RT.br (decide ((4 + D.len d) * 1 ≤ 140737488355328))
                    (RT.ok
                      (AV.tup
                        [AV.sl false [Sh.int IntKind.u8]
                            (D.app
                              (D.app (D.l [D.t [D.i (IntKind.wrap IntKind.u8 c)], D.t [D.i (IntKind.wrap IntKind.u8 i)]])
                                (beD (IntKind.wrap IntKind.u64 (IntKind.wrap IntKind.i64 ((↑(D.len d) : Int) + 4))) 2))
                              d)
                            none,
                          AV.sc true (Value.int IntKind.i64 0)]))
                    (RT.bad 70))
                  (RT.bad 240))
                (RT.br
                  (decide
                    ((0 ≤ IntKind.wrap IntKind.u64 (IntKind.wrap IntKind.i64 ((↑(D.len d) : Int) + 4)) ∧
                        IntKind.wrap IntKind.u64 (IntKind.wrap IntKind.i64 ((↑(D.len d) : Int) + 4)) <
                          18446744073709551616) ∧
                      (1 : Int) ≤ 2 ∧ (2 : Int) ≤ 8))
                  (RT.br (decide ((4 + D.len d) * 1 ≤ 140737488355328))
                    (RT.ok
                      (AV.tup
                        [AV.sl false [Sh.int IntKind.u8]
                            (D.app
                              (D.app (D.l [D.t [D.i (IntKind.wrap IntKind.u8 c)], D.t [D.i (IntKind.wrap IntKind.u8 i)]])
                                (beD (IntKind.wrap IntKind.u64 (IntKind.wrap IntKind.i64 ((↑(D.len d) : Int) + 4))) 2))
                              d)
                            none,
                          AV.sc true (Value.int IntKind.i64 0)]))
                    (RT.bad 70))
                  (RT.bad 240)))))
          (RT.ok (AV.tup [AV.sc true (Value.slice none 0 0), AV.sc true (Value.int IntKind.i64 1)]))))
      (RT.ok (AV.tup [AV.sc true (Value.slice none 0 0), AV.sc true (Value.int IntKind.i64 1)])) := by kernel_rfl
theorem join7_tree (p : Int) (d : D) : treeF (evF Tryz.prog (gam (putG Tryz.prog)) (lam ([])) 100 107) [.agg [ai p, asl byS d]] =
    RT.br (decide (1 ≤ p))
      (RT.br (decide (p ≤ 65535))
        (RT.br true
          (RT.br
            (IntKind.wrap IntKind.i64
                (↑(BitVec.toNat
                      (BitVec.ofInt (IntKind.bits IntKind.i64)
                          (Int.fdiv p (2 ^ min (Int.toNat 8) (IntKind.bits IntKind.i64))) &&&
                        BitVec.ofInt (IntKind.bits IntKind.i64) 1)) :
                  Int) ==
              0)
            (RT.br
              (!IntKind.wrap IntKind.i64
                    (↑(BitVec.toNat
                          (BitVec.ofInt (IntKind.bits IntKind.i64) p &&& BitVec.ofInt (IntKind.bits IntKind.i64) 1)) :
                      Int) ==
                  1)
              (RT.ok (AV.tup [AV.sc true (Value.slice none 0 0), AV.sc true (Value.int IntKind.i64 70)]))
              (RT.br (decide (1492 < (↑(D.len d) : Int)))
                (RT.ok (AV.tup [AV.sc true (Value.slice none 0 0), AV.sc true (Value.int IntKind.i64 2)]))
                (RT.br
                  (decide
                    ((0 ≤ IntKind.wrap IntKind.u64 p ∧ IntKind.wrap IntKind.u64 p < 18446744073709551616) ∧ (1 : Int) ≤ 2 ∧ (2 : Int) ≤ 8))
                  (RT.br (decide ((2 + D.len d) * 1 ≤ 140737488355328))
                    (RT.ok
                      (AV.tup
                        [AV.sl false [Sh.int IntKind.u8] (D.app (beD (IntKind.wrap IntKind.u64 p) 2) d) none,
                          AV.sc true (Value.int IntKind.i64 0)]))
                    (RT.bad 70))
                  (RT.bad 240))))
            (RT.ok (AV.tup [AV.sc true (Value.slice none 0 0), AV.sc true (Value.int IntKind.i64 70)])))
          (RT.bad 26))
        (RT.ok (AV.tup [AV.sc true (Value.slice none 0 0), AV.sc true (Value.int IntKind.i64 70)])))
      (RT.ok (AV.tup [AV.sc true (Value.slice none 0 0), AV.sc true (Value.int IntKind.i64 70)])) := by kernel_rfl
theorem rjoin7_tree (p : Int) (d : D) : treeF (evF Tryz.prog (gam (putG Tryz.prog)) (lam ([])) 100 32) [.agg [ai p, asl byS d]] =
    RT.br (decide (1 ≤ p))
      (RT.br (decide (p ≤ 65535))
        (RT.br true
          (RT.br true
            (RT.br (Int.tmod (IntKind.wrap IntKind.i64 (Int.tdiv p 256)) 2 == 0)
              (RT.br true
                (RT.br (!Int.tmod p 2 == 1)
                  (RT.ok (AV.tup [AV.sc true (Value.slice none 0 0), AV.sc true (Value.int IntKind.i64 70)]))
                  (RT.br (decide (1492 < (↑(D.len d) : Int)))
                    (RT.ok (AV.tup [AV.sc true (Value.slice none 0 0), AV.sc true (Value.int IntKind.i64 2)]))
                    (RT.br
                      (decide
                        ((0 ≤ IntKind.wrap IntKind.u64 p ∧ IntKind.wrap IntKind.u64 p < 18446744073709551616) ∧
                          (1 : Int) ≤ 2 ∧ (2 : Int) ≤ 8))
                      (RT.br (decide ((2 + D.len d) * 1 ≤ 140737488355328))
                        (RT.ok
                          (AV.tup
                            [AV.sl false [Sh.int IntKind.u8] (D.app (beD (IntKind.wrap IntKind.u64 p) 2) d) none,
                              AV.sc true (Value.int IntKind.i64 0)]))
                        (RT.bad 70))
                      (RT.bad 240))))
                (RT.bad 21))
              (RT.ok (AV.tup [AV.sc true (Value.slice none 0 0), AV.sc true (Value.int IntKind.i64 70)])))
            (RT.bad 21))
          (RT.bad 20))
        (RT.ok (AV.tup [AV.sc true (Value.slice none 0 0), AV.sc true (Value.int IntKind.i64 70)])))
      (RT.ok (AV.tup [AV.sc true (Value.slice none 0 0), AV.sc true (Value.int IntKind.i64 70)])) := by kernel_rfl
end
end Go.Proofs.YtcambhbmobepjaaGreat

namespace Go.Proofs.YtcambhbmobepjaaGreat
set_option linter.unusedSimpArgs false
set_option linter.unusedVariables false
open Go.RowKit
set_option maxRecDepth 100000
noncomputable section

-- DEFS
def enc7E (c i : Int) (d : D) : Int := if (0 ≤ c ∧ c ≤ 255) ∧ 0 ≤ i ∧ i ≤ 255 then (if 1488 < d.len then 2 else 0) else 1
def enc7B (c i : Int) (d : D) : D := D.app (D.app (D.l [D.t [D.i c], D.t [D.i i]]) (beD (4 + d.len) 2)) d
def enc7D (c i : Int) (d : D) : D := if enc7E c i d = 0 then enc7B c i d else .l []
def FEnc7 : List AV → RT AV
  | [.agg [.sc false (.int .i64 c), .sc false (.int .i64 i), .sl false [.int .u8] d none]] => .ok (.tup [asl byS (enc7D c i d), ai (enc7E c i d)])
  | _ => .bad 242
def isProto (p : Int) : Prop := (1 ≤ p ∧ p ≤ 65535) ∧ p / 256 % 2 = 0 ∧ p % 2 = 1
instance (p : Int) : Decidable (isProto p) := by unfold isProto; infer_instance
def join7E (p : Int) (d : D) : Int := if isProto p then (if 1492 < d.len then 2 else 0) else 70
def join7D (p : Int) (d : D) : D := if join7E p d = 0 then D.app (beD p 2) d else .l []
def FJoin7 : List AV → RT AV
  | [.agg [.sc false (.int .i64 p), .sl false [.int .u8] d none]] => .ok (.tup [asl byS (join7D p d), ai (join7E p d)])
  | _ => .bad 243
-- END
-- STOPS: enc7E enc7D join7E join7D
theorem wrap_u8 {n : Int} (h : 0 ≤ n ∧ n ≤ 255) : IntKind.wrap IntKind.u8 n = n := by
  have : IntKind.u8.wrap n = n % 256 := by simp [IntKind.wrap, IntKind.bits, IntKind.signed]
  rw [this]; omega
theorem wrap_u64 {n : Int} (h : 0 ≤ n ∧ n < 18446744073709551616) : IntKind.wrap IntKind.u64 n = n := by
  have : IntKind.u64.wrap n = n % 18446744073709551616 := by simp [IntKind.wrap, IntKind.bits, IntKind.signed]
  rw [this]; omega
theorem enc7_fin {c i : Int} {d : D} {K : AV → Prop} (H : K (.tup [asl byS (enc7D c i d), ai (enc7E c i d)])) {e : Int} (he : enc7E c i d = e) (h0 : e ≠ 0) {k1 k2 : Bool} : ∃ y, Le (.tup [.sc k1 (.slice none 0 0), .sc k2 (.int .i64 e)]) y ∧ K y :=
  ⟨_, le_two (le_nil (by unfold enc7D; rw [if_neg (by rw [he]; exact h0)]; exact nil_len)) (le_int he.symm), H⟩
theorem enc7_good {c i : Int} {d : D} {K : AV → Prop} (H : K (.tup [asl byS (enc7D c i d), ai (enc7E c i d)])) (hc : 0 ≤ c ∧ c ≤ 255) (hi : 0 ≤ i ∧ i ≤ 255) (hd : ¬ 1488 < d.len) {x : Int} (hx : x = 4 + d.len) {k1 k2 : Bool} :
    ∃ y, Le (.tup [.sl k1 byS (D.app (D.app (D.l [D.t [D.i (IntKind.wrap IntKind.u8 c)], D.t [D.i (IntKind.wrap IntKind.u8 i)]]) (beD (IntKind.wrap IntKind.u64 (IntKind.wrap IntKind.i64 x)) 2)) d) none, .sc k2 (.int .i64 0)]) y ∧ K y := by
  have he : enc7E c i d = 0 := by unfold enc7E; rw [if_pos ⟨hc, hi⟩, if_neg hd]
  refine ⟨_, le_two (le_sl ?_ ?_) (le_int he.symm), H⟩
  all_goals unfold enc7D; rw [if_pos he, hx, i64_id (by omega), wrap_u64 (by omega), wrap_u8 hc, wrap_u8 hi]
  · rfl
  · exact fun _ _ => eqEl_refl _ _ _
theorem enc7_soundF : SoundF Tryz.prog 60 (pureS Tryz.prog 60 FEnc7) := by
  refine pure_in (gs := putG Tryz.prog) (ls := []) mixed putG_ok trivial 60 100 fun args K ho H => ?_
  unfold FEnc7 at H
  split at H
  · rename_i c i d
    rw [enc7_tree]
    have hm := d.len_le
    refine ⟨fun h1 => ⟨fun h2 => enc7_fin H ?_ (by decide), fun h2 => ⟨fun h3 => ⟨fun h4 => enc7_fin H ?_ (by decide), fun h4 => ⟨fun h5 => enc7_fin H ?_ (by decide), fun h5 => ?_⟩⟩, fun h3 => enc7_fin H ?_ (by decide)⟩⟩, fun h1 => enc7_fin H ?_ (by decide)⟩
    all_goals simp only [decide_eq_true_eq, decide_eq_false_iff_not, Bool.not_eq_true', Bool.not_eq_false'] at *
    · unfold enc7E; rw [if_neg (by omega)]
    · unfold enc7E; rw [if_neg (by omega)]
    · unfold enc7E; rw [if_pos (by omega), if_pos (by omega)]
    · have h5' : ¬ 1488 < d.len := by omega
      have hw : (0 ≤ IntKind.wrap IntKind.u64 (IntKind.wrap IntKind.i64 (4 + (d.len : Int))) ∧ IntKind.wrap IntKind.u64 (IntKind.wrap IntKind.i64 (4 + (d.len : Int))) < 18446744073709551616) ∧ (1 : Int) ≤ 2 ∧ (2 : Int) ≤ 8 := by
        rw [i64_id (by omega), wrap_u64 (by omega)]; omega
      refine ⟨⟨fun _ => ⟨fun _ => enc7_good H ⟨by omega, by omega⟩ ⟨by omega, by omega⟩ h5' rfl, fun h => ?_⟩, fun h => absurd hw (of_decide_eq_false h)⟩, ⟨fun _ => ⟨fun _ => enc7_good H ⟨by omega, by omega⟩ ⟨by omega, by omega⟩ h5' rfl, fun h => ?_⟩, fun h => absurd hw (of_decide_eq_false h)⟩⟩
      all_goals exact absurd (show (4 + d.len) * 1 ≤ 140737488355328 by omega) (of_decide_eq_false h)
    · unfold enc7E; rw [if_neg (by omega)]
    · unfold enc7E; rw [if_neg (by omega)]
  · exact H.elim
theorem renc7_soundF : SoundF Tryz.prog 30 (pureS Tryz.prog 30 FEnc7) := by
  refine pure_in (gs := putG Tryz.prog) (ls := []) mixed putG_ok trivial 30 100 fun args K ho H => ?_
  unfold FEnc7 at H
  split at H
  · rename_i c i d
    rw [renc7_tree]
    have hm := d.len_le
    refine ⟨fun h1 => ⟨fun h2 => enc7_fin H ?_ (by decide), fun h2 => ⟨fun h3 => ⟨fun h4 => enc7_fin H ?_ (by decide), fun h4 => ⟨fun h5 => enc7_fin H ?_ (by decide), fun h5 => ?_⟩⟩, fun h3 => enc7_fin H ?_ (by decide)⟩⟩, fun h1 => enc7_fin H ?_ (by decide)⟩
    all_goals simp only [decide_eq_true_eq, decide_eq_false_iff_not, Bool.not_eq_true', Bool.not_eq_false'] at *
    · unfold enc7E; rw [if_neg (by omega)]
    · unfold enc7E; rw [if_neg (by omega)]
    · unfold enc7E; rw [if_pos (by omega), if_pos (by omega)]
    · have h5' : ¬ 1488 < d.len := by omega
      have hw : (0 ≤ IntKind.wrap IntKind.u64 (IntKind.wrap IntKind.i64 ((d.len : Int) + 4)) ∧ IntKind.wrap IntKind.u64 (IntKind.wrap IntKind.i64 ((d.len : Int) + 4)) < 18446744073709551616) ∧ (1 : Int) ≤ 2 ∧ (2 : Int) ≤ 8 := by
        rw [i64_id (by omega), wrap_u64 (by omega)]; omega
      refine ⟨⟨fun _ => ⟨fun _ => enc7_good H ⟨by omega, by omega⟩ ⟨by omega, by omega⟩ h5' (by omega), fun h => ?_⟩, fun h => absurd hw (of_decide_eq_false h)⟩, ⟨fun _ => ⟨fun _ => enc7_good H ⟨by omega, by omega⟩ ⟨by omega, by omega⟩ h5' (by omega), fun h => ?_⟩, fun h => absurd hw (of_decide_eq_false h)⟩⟩
      all_goals exact absurd (show (4 + d.len) * 1 ≤ 140737488355328 by omega) (of_decide_eq_false h)
    · unfold enc7E; rw [if_neg (by omega)]
    · unfold enc7E; rw [if_neg (by omega)]
  · exact H.elim
theorem and_one {a : Int} (h : 0 ≤ a ∧ a < 4611686018427387904) : IntKind.wrap IntKind.i64 (↑(BitVec.toNat (BitVec.ofInt (IntKind.bits IntKind.i64) a &&& BitVec.ofInt (IntKind.bits IntKind.i64) 1)) : Int) = a % 2 := by
  obtain ⟨n, rfl⟩ := Int.eq_ofNat_of_zero_le h.1
  have : BitVec.toNat (BitVec.ofInt (IntKind.bits IntKind.i64) (n : Int) &&& BitVec.ofInt (IntKind.bits IntKind.i64) 1) = n % 2 := by
    show BitVec.toNat (BitVec.ofInt 64 (n : Int) &&& BitVec.ofInt 64 1) = n % 2
    rw [BitVec.toNat_and, BitVec.toNat_ofInt, BitVec.toNat_ofInt]
    have e1 : (((n : Int) % ((2 ^ 64 : Nat) : Int)).toNat) = n := by omega
    have e2 : (((1 : Int) % ((2 ^ 64 : Nat) : Int)).toNat) = 1 := by decide
    rw [e1, e2, Nat.and_one_is_mod]
  rw [this, i64_id (by omega)]; omega
theorem fdiv_256 {p : Int} (h : 0 ≤ p) : Int.fdiv p (2 ^ min (Int.toNat 8) (IntKind.bits IntKind.i64)) = p / 256 := by
  have : (2 ^ min (Int.toNat 8) (IntKind.bits IntKind.i64) : Int) = 256 := by decide
  rw [this]; exact Int.fdiv_eq_ediv_of_nonneg _ (by decide)
theorem join7_bad {p : Int} {d : D} (h : ¬ isProto p) : join7E p d = 70 := by unfold join7E; rw [if_neg h]
theorem join7_long {p : Int} {d : D} (h : isProto p) (hd : 1492 < d.len) : join7E p d = 2 := by unfold join7E; rw [if_pos h, if_pos hd]
theorem join7_ok {p : Int} {d : D} (h : isProto p) (hd : ¬ 1492 < d.len) : join7E p d = 0 := by unfold join7E; rw [if_pos h, if_neg hd]
theorem join7_fin {p : Int} {d : D} {K : AV → Prop} (H : K (.tup [asl byS (join7D p d), ai (join7E p d)])) {e : Int} (he : join7E p d = e) (h0 : e ≠ 0) {k1 k2 : Bool} : ∃ y, Le (.tup [.sc k1 (.slice none 0 0), .sc k2 (.int .i64 e)]) y ∧ K y :=
  ⟨_, le_two (le_nil (by unfold join7D; rw [if_neg (by rw [he]; exact h0)]; exact nil_len)) (le_int he.symm), H⟩
theorem join7_soundF : SoundF Tryz.prog 107 (pureS Tryz.prog 107 FJoin7) := by
  refine pure_in (gs := putG Tryz.prog) (ls := []) mixed putG_ok trivial 107 100 fun args K ho H => ?_
  unfold FJoin7 at H
  split at H
  · rename_i p d
    rw [join7_tree]
    have hm := d.len_le
    refine ⟨fun h1 => ⟨fun h2 => ?_, fun h2 => join7_fin H ?_ (by decide)⟩, fun h1 => join7_fin H ?_ (by decide)⟩
    rotate_left
    all_goals simp only [decide_eq_true_eq, decide_eq_false_iff_not, Bool.not_eq_true', Bool.not_eq_false'] at h1
    all_goals try simp only [decide_eq_true_eq, decide_eq_false_iff_not, Bool.not_eq_true', Bool.not_eq_false'] at h2
    · exact join7_bad (by unfold isProto; omega)
    · exact join7_bad (by unfold isProto; omega)
    have fin : isProto p → ((decide (1492 < (d.len : Int)) = true → ∃ y, Le (AV.tup [AV.sc true (Value.slice none 0 0), AV.sc true (Value.int IntKind.i64 2)]) y ∧ K y) ∧ (decide (1492 < (d.len : Int)) = false → (decide ((0 ≤ IntKind.wrap IntKind.u64 p ∧ IntKind.wrap IntKind.u64 p < 18446744073709551616) ∧ (1 : Int) ≤ 2 ∧ (2 : Int) ≤ 8) = true → (decide ((2 + D.len d) * 1 ≤ 140737488355328) = true → ∃ y, Le (AV.tup
                        [AV.sl false [Sh.int IntKind.u8] (D.app (beD (IntKind.wrap IntKind.u64 p) 2) d) none,
                          AV.sc true (Value.int IntKind.i64 0)]) y ∧ K y) ∧ (decide ((2 + D.len d) * 1 ≤ 140737488355328) = false → False)) ∧ (decide ((0 ≤ IntKind.wrap IntKind.u64 p ∧ IntKind.wrap IntKind.u64 p < 18446744073709551616) ∧ (1 : Int) ≤ 2 ∧ (2 : Int) ≤ 8) = false → False))) := fun hp => by
      refine ⟨fun h5 => join7_fin H ?_ (by decide), fun h5 => ⟨fun _ => ⟨fun _ => ?_, fun h => ?_⟩, fun h => ?_⟩⟩
      · have := of_decide_eq_true h5
        exact join7_long hp (by omega)
      · have h5 := of_decide_eq_false h5
        have he : join7E p d = 0 := join7_ok hp (by omega)
        refine ⟨_, le_two (le_sl ?_ ?_) (le_int he.symm), H⟩
        all_goals unfold join7D; rw [if_pos he, wrap_u64 (by omega)]
        exact fun _ _ => eqEl_refl _ _ _
      · have h5 := of_decide_eq_false h5
        exact absurd (show (2 + d.len) * 1 ≤ 140737488355328 by omega) (of_decide_eq_false h)
      · refine absurd ?_ (of_decide_eq_false h)
        rw [wrap_u64 (by omega)]; omega
    rw [fdiv_256 (by omega), and_one (by omega), and_one (by omega)]
    refine ⟨fun _ => ⟨fun h3 => ⟨fun h4 => join7_fin H ?_ (by decide), fun h4 => ?_⟩, fun h3 => join7_fin H ?_ (by decide)⟩, fun h => by cases h⟩
    · have : ¬ p % 2 = 1 := by simpa using h4
      exact join7_bad (by unfold isProto; omega)
    · have h4 : p % 2 = 1 := by simpa using h4
      have h3 : p / 256 % 2 = 0 := by simpa using h3
      exact fin ⟨⟨by omega, by omega⟩, h3, h4⟩
    · have : ¬ p / 256 % 2 = 0 := by simpa using h3
      exact join7_bad (by unfold isProto; omega)
  · exact H.elim
theorem rjoin7_soundF : SoundF Tryz.prog 32 (pureS Tryz.prog 32 FJoin7) := by
  refine pure_in (gs := putG Tryz.prog) (ls := []) mixed putG_ok trivial 32 100 fun args K ho H => ?_
  unfold FJoin7 at H
  split at H
  · rename_i p d
    rw [rjoin7_tree]
    have hm := d.len_le
    refine ⟨fun h1 => ⟨fun h2 => ?_, fun h2 => join7_fin H ?_ (by decide)⟩, fun h1 => join7_fin H ?_ (by decide)⟩
    rotate_left
    all_goals simp only [decide_eq_true_eq, decide_eq_false_iff_not, Bool.not_eq_true', Bool.not_eq_false'] at h1
    all_goals try simp only [decide_eq_true_eq, decide_eq_false_iff_not, Bool.not_eq_true', Bool.not_eq_false'] at h2
    · exact join7_bad (by unfold isProto; omega)
    · exact join7_bad (by unfold isProto; omega)
    have fin : isProto p → ((decide (1492 < (d.len : Int)) = true → ∃ y, Le (AV.tup [AV.sc true (Value.slice none 0 0), AV.sc true (Value.int IntKind.i64 2)]) y ∧ K y) ∧ (decide (1492 < (d.len : Int)) = false → (decide ((0 ≤ IntKind.wrap IntKind.u64 p ∧ IntKind.wrap IntKind.u64 p < 18446744073709551616) ∧ (1 : Int) ≤ 2 ∧ (2 : Int) ≤ 8) = true → (decide ((2 + D.len d) * 1 ≤ 140737488355328) = true → ∃ y, Le (AV.tup
                        [AV.sl false [Sh.int IntKind.u8] (D.app (beD (IntKind.wrap IntKind.u64 p) 2) d) none,
                          AV.sc true (Value.int IntKind.i64 0)]) y ∧ K y) ∧ (decide ((2 + D.len d) * 1 ≤ 140737488355328) = false → False)) ∧ (decide ((0 ≤ IntKind.wrap IntKind.u64 p ∧ IntKind.wrap IntKind.u64 p < 18446744073709551616) ∧ (1 : Int) ≤ 2 ∧ (2 : Int) ≤ 8) = false → False))) := fun hp => by
      refine ⟨fun h5 => join7_fin H ?_ (by decide), fun h5 => ⟨fun _ => ⟨fun _ => ?_, fun h => ?_⟩, fun h => ?_⟩⟩
      · have := of_decide_eq_true h5
        exact join7_long hp (by omega)
      · have h5 := of_decide_eq_false h5
        have he : join7E p d = 0 := join7_ok hp (by omega)
        refine ⟨_, le_two (le_sl ?_ ?_) (le_int he.symm), H⟩
        all_goals unfold join7D; rw [if_pos he, wrap_u64 (by omega)]
        exact fun _ _ => eqEl_refl _ _ _
      · have h5 := of_decide_eq_false h5
        exact absurd (show (2 + d.len) * 1 ≤ 140737488355328 by omega) (of_decide_eq_false h)
      · refine absurd ?_ (of_decide_eq_false h)
        rw [wrap_u64 (by omega)]; omega
    have e1 : Int.tmod (IntKind.wrap IntKind.i64 (Int.tdiv p 256)) 2 = p / 256 % 2 := by
      rw [Int.tdiv_eq_ediv_of_nonneg (by omega), i64_id (by omega), Int.tmod_eq_emod_of_nonneg (by omega)]
    have e2 : Int.tmod p 2 = p % 2 := Int.tmod_eq_emod_of_nonneg (by omega)
    rw [e1, e2]
    refine ⟨fun _ => ⟨fun _ => ⟨fun h3 => ⟨fun _ => ⟨fun h4 => join7_fin H ?_ (by decide), fun h4 => ?_⟩, fun h => by cases h⟩, fun h3 => join7_fin H ?_ (by decide)⟩, fun h => by cases h⟩, fun h => by cases h⟩
    · have : ¬ p % 2 = 1 := by simpa using h4
      exact join7_bad (by unfold isProto; omega)
    · have h4 : p % 2 = 1 := by simpa using h4
      have h3 : p / 256 % 2 = 0 := by simpa using h3
      exact fin ⟨⟨by omega, by omega⟩, h3, h4⟩
    · have : ¬ p / 256 % 2 = 0 := by simpa using h3
      exact join7_bad (by unfold isProto; omega)
  · exact H.elim
end
end Go.Proofs.YtcambhbmobepjaaGreat

namespace Go.Proofs.YtcambhbmobepjaaGreat
set_option linter.unusedSimpArgs false
set_option linter.unusedVariables false
open Go.RowKit
set_option maxRecDepth 10000
noncomputable section

/-- the wide fence, in a round or not -/
def FW (r : Option Nat) : Fence := { Fence.wide with round := r }
section
variable {P : Program} {r : Option Nat} {n : Nat} {Q : Exit → Act → World → Prop} {a : Act} {w : World} {ops : Array Oper}
theorem callsFW {f : FuncId} {args : Array Value} {R : Ending → World → Prop} (h : Calls P f args w R) : CallsIn (FW r) n P f args w R := (callsIn_wide (n := n)).2 h
theorem ofCallsFW {f : FuncId} {args : Array Value} {R : Ending → World → Prop} (h : CallsIn (FW r) n P f args w R) : Calls P f args w R := (callsIn_wide (n := n)).1 h
theorem fnFW (f : FuncId) : (FW r).fn f := trivial
theorem depthFW {p : Prop} (h : (FW r).depth.isSome = true) : p := by cases h
theorem rowsFW {row : String} {args : Array Value} {R : Value → World → Prop} (h : Rows P row args w R) : RowsIn (FW r) n P row args w R :=
  fun c cs _ => let ⟨v, w', hr, s⟩ := h c cs; ⟨v, w', hr, stepsIn_wide.2 s⟩
theorem upIn {o : Oper} {next next' : Act → World → Prop} (hn : ∀ a w, next a w → next' a w) : ∀ {res : Result Next}, o.upon P a next Q res → o.uponIn (FW r) n P a next' Q res
  | .ok (.value v) w', h => hn _ _ h
  | .ok .skip w', h => hn _ _ h
  | .ok (.defer d) w', h => hn _ _ h
  | .ok (.enter f args) w', h => ⟨fun hd => depthFW (r := r) hd, callsFW (r := r) (Calls.mono (R := fun
      | .returned v, w'' => next (a.put o.dst v) w''
      | .panicked chain, w'' => Q (.panic chain) a w''
      | .outgrown, _ => LetsOut Q) h (fun e w hh => by
        cases e with
        | returned v => exact hn _ _ hh
        | panicked c => exact hh
        | outgrown => exact hh))⟩
  | .ok (.row row args) w', h => ⟨fun hd => depthFW (r := r) hd, (rowsFW (r := r) (Rows.mono h fun v w hh => hn _ _ hh))⟩
  | .halt (.panic v) w', h => h
  | .halt .blocked w', h => h.elim
  | .halt .waiting w', h => h.elim
  | .halt (.stuck _) w', h => h.elim
  | .halt (.unsupported _) w', h => h.elim
  | .halt (.exit _) w', h => h.elim
  | .halt (.fatal ..) w', h => h.elim
  | .ok (.callThen ..) w', h => h.elim
  | .ok (.stack ..) w', h => h.elim
  | .ok (.round ..) w', h => h.elim
  | .ok .recover w', h => h.elim
  | .ok (.comm ..) w', h => h.elim
  | .ok .numGoroutine w', h => h.elim
  | .ok .collect w', h => h.elim
  | .ok (.watch _) w', h => h.elim
/-- no statement puts a call off -/
def noDef (l : List Oper) : Bool := l.all fun o => match o.op with | .defer _ => false | _ => true
theorem opIn {o : Oper} {next next' : Act → World → Prop} (hd : ∀ c, o.op ≠ .defer c) (hn : ∀ a w, next a w → next' a w) (h : o.wp P a w next Q) : o.wpIn (FW r) n P a w next' Q := by
  refine ⟨fun _ _ => trivial, ?_⟩
  rw [Oper.semAt_eq _ _ _ hd]
  exact upIn hn h
theorem noDef_ne {l : List Oper} (h : noDef l = true) {o : Oper} (ho : o ∈ l) : ∀ c, o.op ≠ .defer c := fun c e => by
  have := List.all_eq_true.1 h o ho
  rw [e] at this; cases this
theorem listIn (hQ : ¬ LetsOut Q) : ∀ (l : List Oper) (a : Act) (w : World), noDef l = true → wpList P ops Q l a w → wpListIn (FW r) n P ops Q l a w
  | [], _, _, _, h => h
  | o :: l, a, w, hd, h => by
    have hd' : noDef l = true := by
      have h := hd
      simp only [noDef, List.all_cons, Bool.and_eq_true] at h
      exact h.2
    unfold wpList at h
    unfold wpListIn
    split
    · rename_i hw
      rw [if_pos hw] at h
      rcases h with h | h
      · exact opIn (noDef_ne hd (List.mem_cons_self ..)) (fun a w h => listIn hQ l a w hd' h) h
      · exact absurd h.2 hQ
    · rename_i hw
      rw [if_neg hw] at h
      exact ⟨fun _ _ => trivial, listIn hQ l _ _ hd' h⟩
theorem anyIn (hQ : ¬ LetsOut Q) (hd : noDef ops.toList = true) : ∀ (m : Nat) (listed : Array Bool) (a : Act) (w : World), wpAny P .any ops Q m listed a w → wpAnyIn (FW r) n P .any ops Q m listed a w
  | 0, _, _, _, h => h
  | m + 1, listed, a, w, h => by
    refine ⟨h.1, fun i hi => ?_⟩
    have h2 := h.2 i hi
    unfold wpOp at h2
    unfold wpOpIn
    split
    · rename_i ho; rw [ho] at h2; exact anyIn hQ hd m _ _ _ h2
    · rename_i o ho
      rw [ho] at h2
      simp only at h2
      have hmem : o ∈ ops.toList := by
        obtain ⟨hlt, he⟩ := Array.getElem?_eq_some_iff.1 ho
        rw [← he]; exact Array.mem_toList_iff.2 (Array.getElem_mem hlt)
      split
      · rename_i hw
        rw [if_pos hw] at h2
        rcases h2 with h | h
        · exact opIn (noDef_ne hd hmem) (fun a w h => anyIn hQ hd m _ a w h) h
        · exact absurd h.2 hQ
      · rename_i hw
        rw [if_neg hw] at h2
        exact ⟨fun _ _ => trivial, anyIn hQ hd m _ _ _ h2⟩
end
/-- no region puts a call off -/
def calmC : Code → Bool
  | .region _ ops _ => noDef ops.toList
  | .seq a b => calmC a && calmC b
  | .cond _ a b => calmC a && calmC b
  | .block _ b => calmC b
  | .loop b => calmC b
  | _ => true
section
variable {P : Program} {Γ : FuncId → Option Spec} {Λ : FuncId → Nat → Option BSpec}
def BOkIn (r : Option Nat) (m : Nat) (P : Program) (c : Code) (sp : BSpec) : Prop := ∀ F h K, (sp F h).holds K → ∀ w0 G E w a Q, ¬ LetsOut Q → Inv P w0 G E h w → RelT E F a → Post P w0 G E h w K Q → c.wpIn (FW r) m P Q a w
def CodeIn (r : Option Nat) (m : Nat) (P : Program) (Γ : FuncId → Option Spec) (Λ : FuncId → Nat → Option BSpec) (n : Nat) : Prop := ∀ f c F h K, (evC P Γ Λ n f c F h).holds K → calmC c = true → (∀ id sp, Λ f id = some sp → ∀ c' ∈ blocksOf id c, BOkIn r m P c' sp) → ∀ w0 G E w a Q, ¬ LetsOut Q → Inv P w0 G E h w → RelT E F a → Post P w0 G E h w K Q → c.wpIn (FW r) m P Q a w
theorem codeIn (hm : Fit P) (hΓ : GamOk P Γ) (hΛ : LamAll P Λ) (r : Option Nat) (m : Nat) : ∀ n, CodeIn r m P Γ Λ n ∧
    ∀ f b F h K, (evC P Γ Λ n f (.loop b) F h).holds K → calmC b = true → (∀ id sp, Λ f id = some sp → ∀ c' ∈ blocksOf id b, BOkIn r m P c' sp) → ∀ w0 G E w a Q, ¬ LetsOut Q → Inv P w0 G E h w → RelT E F a → Post P w0 G E h w K Q → Code.roundsIn (FW r) m P b Q n a w
  | 0 => ⟨fun f c F h K H => by unfold evC at H; exact H.elim, fun f b F h K H => by unfold evC at H; exact H.elim⟩
  | n + 1 => by
    obtain ⟨ihc, ihl⟩ := codeIn hm hΓ hΛ r m n
    have hcall := callE_ok hm.2 (codeOk hm hΓ hΛ n).1 hΓ hΛ
    have then_ : ∀ {Q : Exit → Act → World → Prop} {K : Act → World → Prop}, ¬ LetsOut Q → ¬ LetsOut (Exit.then K Q) := fun hQ h => hQ h
    have loop : ∀ f b F h K, (evC P Γ Λ (n + 1) f (.loop b) F h).holds K → calmC b = true → (∀ id sp, Λ f id = some sp → ∀ c' ∈ blocksOf id b, BOkIn r m P c' sp) → ∀ w0 G E w a Q, ¬ LetsOut Q → Inv P w0 G E h w → RelT E F a → Post P w0 G E h w K Q → Code.roundsIn (FW r) m P b Q (n + 1) a w := by
      intro f b F h K H hc hL w0 G E w a Q hQ I hT hp
      unfold evC at H
      simp only at H
      rw [RT.holds_bind] at H
      rw [roundsIn_succ]
      refine ihc f b F h _ H hc hL w0 G E w a _ (then_ hQ) I hT ?_
      intro ex F' h' E' a' w' hk hs hT'
      cases ex with
      | normal => exact ihl f b F' h' K hk hc hL w0 G E' w' a' Q hQ hs.inv hT' (hp.step hs)
      | exit id => exact hp _ _ _ _ _ _ hk hs hT'
      | ret => exact hp _ _ _ _ _ _ hk hs hT'
    refine ⟨fun f c F h K H hc hL w0 G E w a Q hQ I hT hp => ?_, loop⟩
    have only_ : ¬ LetsOut (fun e a w => e = Exit.normal ∧ Q .normal a w) := fun ⟨_, _, h, _⟩ => by cases h
    cases c with
    | skip => unfold evC at H; exact wpIn_skip (hp _ _ _ _ _ _ H (Stepd.refl I) hT)
    | ret => unfold evC at H; exact wpIn_ret (hp _ _ _ _ _ _ H (Stepd.refl I) hT)
    | exit id => unfold evC at H; exact wpIn_exit (hp _ _ _ _ _ _ H (Stepd.refl I) hT)
    | region id ops draw =>
      cases draw with
      | false =>
        unfold evC at H
        simp only at H
        rw [RT.holds_bind] at H
        exact wpIn_region_list (listIn hQ _ _ _ hc (evList_ok hcall _ H I hT fun F' h' E' a' w' hk hs hT' => hp _ _ _ _ _ _ hk hs hT'))
      | true =>
        unfold evC at H
        simp only at H
        cases hqr : asRow Λ f id ops
        case true =>
          rw [hqr] at H
          simp only [cond_true] at H
          rw [RT.holds_bind] at H
          have hq : quietR ops = true := by
            unfold asRow at hqr
            split at hqr
            · cases hqr
            · exact hqr
          have hd := I.drew (w.drawn + 1)
          exact Go.wpIn_mono (Q := fun e a w => e = .normal ∧ Q .normal a w) (wpIn_region_any hm.1 (anyIn only_ hc _ _ _ _ (evReg_ok hcall hq H hd.inv hT fun F' h' E' a' w' hk hs hT' => ⟨rfl, hp _ _ _ _ _ _ hk (hd.trans hs) hT'⟩))) (fun e a w hq => by obtain ⟨rfl, hq⟩ := hq; exact hq)
        rw [hqr] at H
        simp only [cond_false] at H
        cases hns : Region.noSelect ops
        · rw [hns] at H; exact H.elim
        rw [hns] at H
        simp only [cond_true] at H
        rw [RT.holds_bind] at H
        have hd := I.drew (w.drawn + 1)
        refine Go.wpIn_mono (Q := fun e a w => e = .normal ∧ Q .normal a w) (wpIn_region_any hm.1 (anyIn only_ hc _ _ _ _ (wpL_any _ _ [] _ _ (evDrawn_ok erOf_ok hcall hns (fun _ _ _ _ _ hq => by cases hq.1) _ H hd.inv hT .nil ?_)))) (fun e a w hq => by obtain ⟨rfl, hq⟩ := hq; exact hq)
        exact fun F' h' E' a' w' hk hs hT' => ⟨rfl, hp _ _ _ _ _ _ hk (hd.trans hs) hT'⟩
    | seq x y =>
      unfold evC at H
      simp only at H
      rw [RT.holds_bind] at H
      simp only [calmC, Bool.and_eq_true] at hc
      refine wpIn_seq (ihc f x F h _ H hc.1 (fun id sp hs c' hc' => hL id sp hs c' (List.mem_append_left _ hc')) w0 G E w a _ (then_ hQ) I hT ?_)
      intro ex F' h' E' a' w' hk hs hT'
      cases ex with
      | normal => exact ihc f y F' h' K hk hc.2 (fun id sp hs c' hc' => hL id sp hs c' (List.mem_append_right _ hc')) w0 G E' w' a' Q hQ hs.inv hT' (hp.step hs)
      | exit id => exact hp _ _ _ _ _ _ hk hs hT'
      | ret => exact hp _ _ _ _ _ _ hk hs hT'
    | cond c x y =>
      unfold evC at H
      simp only at H
      simp only [calmC, Bool.and_eq_true] at hc
      split at H
      · rename_i t
        split at H
        · rename_i kn b hl
          have hv := hT.tm t
          rw [hl] at hv
          have hev : a.eval (.tmp t) = .bool b := hv.1
          have hset := setA_ok hT hl
          rcases brk_holds H with ⟨rfl, H2⟩ | ⟨rfl, H2⟩
          · exact wpIn_cond_true hev (ihc f x _ h K H2 hc.1 (fun id sp hs c' hc' => hL id sp hs c' (List.mem_append_left _ hc')) w0 G E w a Q hQ I hset hp)
          · exact wpIn_cond_false hev (ihc f y _ h K H2 hc.2 (fun id sp hs c' hc' => hL id sp hs c' (List.mem_append_right _ hc')) w0 G E w a Q hQ I hset hp)
        · exact H.elim
      · exact H.elim
    | block id b =>
      unfold evC at H
      simp only at H
      split at H
      · rename_i sp hsp
        exact hL id sp hsp (.block id b) (by simp [blocksOf]) F h K H w0 G E w a Q hQ I hT hp
      · rw [RT.holds_bind] at H
        refine wpIn_block (ihc f b F h _ H hc (fun i sp hs c' hc' => hL i sp hs c' (List.mem_append_right _ hc')) w0 G E w a _ (fun h => hQ h) I hT ?_)
        intro ex F' h' E' a' w' hk hs hT'
        cases ex with
        | normal => exact hp _ _ _ _ _ _ hk hs hT'
        | ret => exact hp _ _ _ _ _ _ hk hs hT'
        | exit j =>
          simp only at hk
          show Exit.inBlock id Q (.exit j) a' w'
          simp only [Exit.inBlock]
          cases hb : Nat.beq j id
          · rw [hb] at hk
            rw [if_neg (fun e => by rw [e] at hb; simp at hb)]
            exact hp _ _ _ _ _ _ hk hs hT'
          · rw [hb] at hk
            rw [if_pos (Nat.eq_of_beq_eq_true hb)]
            exact hp _ _ _ _ _ _ hk hs hT'
    | loop b => exact wpIn_loop_rounds (n + 1) (loop f b F h K H hc hL w0 G E w a Q hQ I hT hp)
    | rangeFunc _ _ _ _ => unfold evC at H; exact H.elim
    | scope _ => unfold evC at H; exact H.elim
    | label _ => unfold evC at H; exact H.elim
    | goto _ => unfold evC at H; exact H.elim
    | refuse _ => unfold evC at H; exact H.elim
end
end
end Go.Proofs.YtcambhbmobepjaaGreat

namespace Go.Proofs.YtcambhbmobepjaaGreat
set_option linter.unusedSimpArgs false
set_option linter.unusedVariables false
open Go.RowKit
set_option maxRecDepth 10000
noncomputable section

/-- no cells, no map -/
def farO : Obj → Bool | .loop _ => true | .deferred _ => true | _ => false
/-- all far blocks are as they were -/
def FarK (w w' : World) : Prop := ∀ (b : Nat) (ob : Obj), w.heap[b]? = some ob → farO ob = true → w'.heap[b]? = some ob
theorem FarK.refl (w : World) : FarK w w := fun _ _ h _ => h
theorem FarK.trans {a b c : World} (h : FarK a b) (k : FarK b c) : FarK a c := fun i o hi ho => k i o (h i o hi ho) ho
section
variable {P : Program} {E : Env} {F : Tm} {h : Hp} {w w0 : World} {G : Nat → Prop} {a : Act}
theorem far_live (I : Inv P w0 G E h w) {b : Nat} {ob : Obj} (hb : w.heap[b]? = some ob) (hf : farO ob = true) {o : Nat} (ho : E.live o) : E.β o ≠ b := by
  rintro rfl
  obtain ⟨cs, hcs⟩ : ∃ cs, lookO o h.ob = some cs := Option.isSome_iff_exists.1 ((I.live o).1 ho)
  obtain ⟨vs, ob', g1, _, g2⟩ := I.ob o cs hcs
  rw [hb] at g1; cases g1
  rcases g2 with ⟨t, rfl, _⟩ | ⟨es, ck, rfl, _⟩ | ⟨c, t, rfl, _⟩ <;> cases hf
theorem far_vec (I : Inv P w0 G E h w) {b : Nat} {ob : Obj} (hb : w.heap[b]? = some ob) (hf : farO ob = true) {k : Nat} (hk : k < h.nv) : (E.vc k).ownBlock ≠ some b := by
  intro e
  obtain ⟨sz, n, xs, _, g2, _⟩ := I.vec k hk
  rcases g2.2 with ⟨h0, _⟩ | ⟨g, cap, cur, h0, _, hg, _⟩
  · rw [h0] at e; cases e
  · rw [h0] at e; cases e
    rw [hb] at hg; cases hg; cases hf
theorem far_z (I : Inv P w0 G E h w) {b : Nat} {ob : Obj} (hb : w.heap[b]? = some ob) (hf : farO ob = true) (j : Nat) : E.Z b j = none := by
  cases hz : E.Z b j with
  | none => rfl
  | some v =>
    have := I.z b j v hz
    unfold World.cell? at this
    simp only [hb] at this
    cases ob <;> first | (cases hf; done) | simp at this
theorem far_mine (I : Inv P w0 G E h w) {b : Nat} {ob : Obj} (hb : w.heap[b]? = some ob) (hf : farO ob = true) : ¬ E.mine b := by
  rintro (⟨o, ho, e⟩ | ⟨k, hk, e⟩)
  · exact far_live I hb hf ho e
  · exact far_vec I hb hf (by rw [← I.m]; exact hk) e
theorem far_kept {E' : Env} {h' : Hp} {w' : World} (I : Inv P w0 G E h w) (S : Stepd P w E.mine E h w E' h' w') : FarK w w' := fun b ob hb hf => by
  rw [← hb]
  exact S.inv.kpt.block b (Array.getElem?_eq_some_iff.1 hb).1 (far_mine I hb hf)
/-- a far block is turned -/
theorem Inv.turn (I : Inv P w0 G E h w) {b : Nat} {ob : Obj} (hb : w.heap[b]? = some ob) (hf : farO ob = true) (h0 : w0.heap.size ≤ b) (ob' : Obj) : Stepd P w0 G E h w E h (w.putObj b ob') := by
  have hK : Kpt w (w.putObj b ob') (fun k => k = b) := ⟨rfl, rfl, rfl, by simp, fun k _ hk => World.putObj_heap_other hk⟩
  have oth : ∀ k, k ≠ b → (w.putObj b ob').heap[k]? = w.heap[k]? := fun k hk => World.putObj_heap_other hk
  refine ⟨Ext.refl E, ⟨I.kpt.then hK (fun k e => .inl (e ▸ h0)), I.m, I.ng, I.gn, I.gnlt, I.live, I.nx, fun o cs hcs => ?_, I.own, I.inj, fun c j v hz => ?_, I.zob, fun k hk => ?_, I.vinj⟩, fun o ho => ⟨Nat.le_refl _, fun _ => oth _ (far_live I hb hf ho)⟩, fun _ _ _ hz => .inl hz⟩
  · obtain ⟨vs, t, g1, g2, g3⟩ := I.ob o cs hcs
    exact ⟨vs, t, (oth _ (far_live I hb hf ((I.live o).2 (by rw [hcs]; rfl)))).trans g1, g2, g3⟩
  · have hne : c ≠ b := fun e => by rw [e, far_z I hb hf j] at hz; cases hz
    rw [cell_same (oth c hne)]; exact I.z c j v hz
  · obtain ⟨sz, n, xs, g1, g2, g3, g4⟩ := I.vec k hk
    exact ⟨sz, n, xs, g1, owns_same g2 fun c hc => oth c fun e => far_vec I hb hf hk (e ▸ hc), g3, g4⟩
theorem below_alloc (w : World) (o : Obj) : Below w.heap.size w (w.alloc o) := (Below.refl _ w).alloc (Nat.le_refl _) _
/-- a piece of code, far blocks kept -/
theorem segIn {gs : List (FuncId × Spec)} (hm : Fit P) (hΓ : GamL P gs) (r : Option Nat) (m n f : Nat) {c : Code} {K : Out → Prop} {Q : Exit → Act → World → Prop} (H : (evC P (gam gs) (lam []) n f c F h).holds K) (hc : calmC c = true) (hQ : ¬ LetsOut Q) (I : Inv P w0 G E h w) (hT : RelT E F a)
    (hp : ∀ ex F' h' E' a' w', K (ex, F', h') → Stepd P w0 G E h w E' h' w' → RelT E' F' a' → FarK w w' → Q ex.to a' w') : c.wpIn (FW r) m P Q a w :=
  (codeIn hm (gam_ok hΓ) (lam_ok (l := []) trivial) r m n).1 f c F h K H hc (fun _ _ hs => by cases hs) w E.mine E w a Q hQ I.top hT fun ex F' h' E' a' w' hk S hT' => hp ex F' h' E' a' w' hk (S.under I) hT' (far_kept I S)
/-- operations ahead of others -/
theorem list_app {r : Option Nat} {m : Nat} {ops : Array Oper} {Q : Exit → Act → World → Prop} (rest : List Oper) : ∀ (l : List Oper) (a : Act) (w : World), noDef l = true → wpListIn (FW r) m P ops (Exit.then (wpListIn (FW r) m P ops Q rest) Q) l a w → wpListIn (FW r) m P ops Q (l ++ rest) a w
  | [], _, _, _, h => h
  | o :: l, a, w, hd, h => by
    have hd' : noDef l = true := by
      have h := hd
      simp only [noDef, List.all_cons, Bool.and_eq_true] at h
      exact h.2
    unfold wpListIn at h
    show wpListIn (FW r) m P ops Q (o :: (l ++ rest)) a w
    unfold wpListIn
    split
    · rename_i hw
      rw [if_pos hw] at h
      refine ⟨fun _ _ => trivial, ?_⟩
      have h2 := h.2
      revert h2
      generalize (o.semAt (FW r).round a.eval).run P w = res
      intro h2
      cases res with
      | ok nx w' => cases nx with
        | value v => exact list_app rest l _ _ hd' h2
        | skip => exact list_app rest l _ _ hd' h2
        | defer d => exact list_app rest l _ _ hd' h2
        | enter f args => exact ⟨h2.1, h2.2.mono fun e w hh => by cases e with
            | returned v => exact list_app rest l _ _ hd' hh
            | panicked c => exact hh
            | outgrown => exact hh⟩
        | row row args => exact ⟨h2.1, h2.2.mono fun v w hh => list_app rest l _ _ hd' hh⟩
        | round l' f tmps asg bd => exact ⟨h2.1, h2.2.mono fun e w hh => by cases e with
            | returned v => exact list_app rest l _ _ hd' hh
            | panicked c => exact hh
            | outgrown => exact hh⟩
        | recover => exact h2.elim
        | spawn => exact h2.elim
        | comm => exact h2.elim
        | numGoroutine => exact h2.elim
        | collect => exact h2.elim
        | watch => exact h2.elim
        | newcoro => exact h2.elim
        | coroswitch => exact h2.elim
        | sleep => exact h2.elim
        | timer => exact h2.elim
        | alone => exact h2.elim
        | callThen => exact h2.elim
        | stack => exact h2.elim
      | halt s w' => cases s with
        | panic v => exact h2
        | blocked => exact h2.elim
        | waiting => exact h2.elim
        | exit c => exact h2.elim
        | fatal m => exact h2.elim
        | throw m => exact h2.elim
        | goexit => exact h2.elim
        | stuck m => exact h2.elim
        | unsupported m => exact h2.elim
    · rename_i hw
      rw [if_neg hw] at h
      exact ⟨fun _ _ => trivial, list_app rest l _ _ hd' h.2⟩
/-- operations that the evaluator takes, and what stands behind -/
theorem preIn {gs : List (FuncId × Spec)} (hm : Fit P) (hΓ : GamL P gs) (r : Option Nat) (m n f : Nat) {ops : Array Oper} (l rest : List Oper) {K : Tm × Hp → Prop} {Q : Exit → Act → World → Prop} (H : (evList P (callE P (gam gs) (evC P (gam gs) (lam []) n)) ops l F h).holds K) (hd : noDef l = true) (hQ : ¬ LetsOut Q) (I : Inv P w0 G E h w) (hT : RelT E F a)
    (hp : ∀ F' h' E' a' w', K (F', h') → Stepd P w0 G E h w E' h' w' → RelT E' F' a' → FarK w w' → wpListIn (FW r) m P ops Q rest a' w') : wpListIn (FW r) m P ops Q (l ++ rest) a w := by
  refine list_app rest l a w hd (listIn (Q := Exit.then (wpListIn (FW r) m P ops Q rest) Q) (fun h => hQ h) l a w hd ?_)
  have hcall := callE_ok hm.2 (codeOk hm (gam_ok hΓ) (lam_ok (l := []) trivial) n).1 (gam_ok hΓ) (lam_ok (l := []) trivial)
  exact evList_ok (w0 := w) (G := E.mine) hcall l H I.top hT fun F' h' E' a' w' hk S hT' => hp F' h' E' a' w' hk (S.under I) hT' (far_kept I S)
/-- all far blocks but one are as they were -/
def FarX (l : Nat) (w w' : World) : Prop := ∀ (b : Nat) (ob : Obj), b ≠ l → w.heap[b]? = some ob → farO ob = true → w'.heap[b]? = some ob
theorem FarK.x {w w' : World} (l : Nat) (h : FarK w w') : FarX l w w' := fun b ob _ hb hf => h b ob hb hf
theorem FarX.trans {l : Nat} {a b c : World} (h : FarX l a b) (k : FarX l b c) : FarX l a c := fun i o hl hi ho => k i o hl (h i o hl hi ho) ho
theorem FarX.put {l : Nat} {w w' : World} (h : FarX l w w') (ob : Obj) : FarX l w (w'.putObj l ob) := fun i o hl hi ho => (World.putObj_heap_other hl).trans (h i o hl hi ho)
/-- one round: the assignment, the body -/
theorem roundIn_ev {gs : List (FuncId × Spec)} (hm : Fit P) (hΓ : GamL P gs) (m n f : Nat) {L : Nat} {R : Loop} {T0 : Array Value} {K : Out → Prop} (hL : w.heap[L]? = some (.loop R)) (hst : R.state = .ready) (hpe : R.pending = none) (hL0 : w0.heap.size ≤ L) (I : Inv P w0 G E h w) (hT : RelT E F { tmps := T0, defers := [] })
    (hca : calmC R.assign = true) (hcb : calmC R.body = true)
    (H : (evC P (gam gs) (lam []) n f R.assign F h).holds fun o => o.1 = .normal ∧ (evC P (gam gs) (lam []) n f R.body o.2.1 o.2.2).holds fun o => (o.1 = .normal ∨ o.1 = .ret) ∧ K o) :
    RoundIn (FW none) m P L R.fn T0 R.assign R.body w fun e w' => ∃ ex F2 h2 E2, K (ex, F2, h2) ∧ Stepd P w0 G E h w E2 h2 w' ∧ FarX L w w' ∧
      ((ex = .normal ∧ e = .returned (.bool true) ∧ w'.heap[L]? = some (.loop R)) ∨ (ex = .ret ∧ e = .returned (.bool false) ∧ w'.heap[L]? = some (.loop { R with state := .done, pending := some .ret }))) := by
  refine roundIn_of_wpIn trivial (segIn hm hΓ (some L) m n f H hca (fun ⟨_, _, h⟩ => h) I hT ?_)
  rintro ex F1 h1 E1 a1 w1 ⟨rfl, H1⟩ S1 hT1 k1
  have hL1 := k1 _ _ hL rfl
  refine ⟨_, run_beginRound hL1 hst, ?_⟩
  have St := S1.inv.turn hL1 rfl hL0 (.loop { R with state := .busy })
  have hL2 : (w1.putObj L (.loop { R with state := .busy })).heap[L]? = some (.loop { R with state := .busy }) := World.putObj_heap_same (Array.getElem?_eq_some_iff.1 hL1).1
  refine segIn hm hΓ (some L) m n f H1 hcb (fun ⟨_, _, h⟩ => h) St.inv hT1 ?_
  rintro ex F2 h2 E2 a2 w2 ⟨hex, hK⟩ S2 hT2 k2
  have hL3 := k2 _ _ hL2 rfl
  have hlt := (Array.getElem?_eq_some_iff.1 hL3).1
  have far : FarX L w w2 := ((k1.x L).put _).trans (k2.x L)
  rcases hex with rfl | rfl
  · refine ⟨_, _, run_endRound none hL3, .normal, F2, h2, E2, hK, ((S1.trans St).trans S2).trans (S2.inv.turn hL3 rfl hL0 _), far.put _, .inl ⟨rfl, rfl, ?_⟩⟩
    rw [World.putObj_heap_same hlt]
    obtain ⟨st, pe, rfn, rt, rp, ra, rb, rd⟩ := R
    subst hst; subst hpe; rfl
  · refine ⟨_, _, run_endRound (some .ret) hL3, .ret, F2, h2, E2, hK, ((S1.trans St).trans S2).trans (S2.inv.turn hL3 rfl hL0 _), far.put _, .inr ⟨rfl, rfl, ?_⟩⟩
    rw [World.putObj_heap_same hlt]; rfl
theorem run_yieldOp {o : Oper} {y : Operand} {args : Array Operand} {ts : Array TypeId} {L : Nat} {R : Loop} (ho : o.op = .call ⟨.value y, args, ts⟩) (hy : a.eval y = .func (.yield L) #[] #[]) (hL : w.heap[L]? = some (.loop R)) (hs : args.size = R.params.size) :
    (execOp a.eval o).run P w = .ok (.round L R.fn ((R.params.zip (args.map a.eval)).foldl (fun t (p, v) => t.setIfInBounds p v) R.tmps) R.assign R.body) w := by
  obtain ⟨dst, op, type, pos, after, guard⟩ := o
  subst ho
  have := run_yield (P := P) (args := args.map a.eval) hL (by simpa using hs)
  simp only [execOp, resolve, hy, Deferred.ofValue, Sem.run_bind, Sem.run_pure, Result.andThen_ok, invoke]
  simpa using this
abbrev markD (D : Nat) : Deferred := { target := .collected D, args := #[] }
abbrev recL (fn : FuncId) (tmps : Array Value) (ps : Array Tmp) (assign body : Code) (D : Nat) (st : LoopState) (pe : Option Code) : Loop := { state := st, pending := pe, fn, tmps, params := ps, assign, body, defers := D }
/-- the statement -/
theorem rangeIn (hm : Fit P) {n t gf : Nat} {ps : Array Tmp} {assign body : Code} {cap : List AV} {Q : Exit → Act → World → Prop} {Kk : Option Code → Hp → Prop} (hg : (plainF P gf).isSome = true) (hl : look t F.tm = .fn (.func gf) [] cap) (I : Inv P w0 G E h w) (hT : RelT E F a)
    (hcall : ∀ (fn : FuncId) (L D : Nat) (w1 : World) (E1 : Env) (cap' : List Value), Stepd P w0 G E h w E1 h w1 → FarK w w1 → w0.heap.size ≤ L → w0.heap.size ≤ D → D ≠ L → w1.heap[L]? = some (.loop (recL fn a.tmps ps assign body D .ready none)) → w1.heap[D]? = some (.deferred (some [])) → RelL E1 cap cap' → RelT E1 F a →
      CallsIn (FW none) (n - 1) P gf ((.func (.yield L) #[] #[] :: cap').toArray) w1 fun e W => ∃ v pe st E2 h2, e = .returned v ∧ st ≠ .busy ∧ Stepd P w0 G E1 h w1 E2 h2 W ∧ W.heap[L]? = some (.loop (recL fn a.tmps ps assign body D st pe)) ∧ W.heap[D]? = some (.deferred (some [])) ∧ Kk pe h2 ∧ (pe = none ∨ pe = some .ret))
    (hnext : ∀ D E2 h2 W, Kk none h2 → Stepd P w0 G E h w E2 h2 W → w0.heap.size ≤ D → W.heap[D]? = some (.deferred (some [])) → Q .normal { a with defers := markD D :: a.defers } W)
    (hret : ∀ D E2 h2 W, Kk (some .ret) h2 → Stepd P w0 G E h w E2 h2 W → w0.heap.size ≤ D → W.heap[D]? = some (.deferred (some [])) → Q .ret { a with defers := markD D :: a.defers } W) :
    (Code.rangeFunc (.tmp t) ps assign body).wpIn (FW none) n P Q a w := by
  obtain ⟨a0, lb, hv, h1, hcap⟩ : ∃ a' c', a.eval (.tmp t) = .func (.func gf) a' c' ∧ RelL E [] a'.toList ∧ RelL E cap c'.toList := by
    have := hT.tm t
    rw [hl] at this; exact this
  obtain rfl : a0 = #[] := by cases a0 with | mk l => have : l = [] := h1; subst this; rfl
  refine wpIn_rangeFunc fun fn _ => ?_
  have S1 := I.fresh (below_alloc w (.deferred (some [])))
  have S2 := S1.trans (S1.inv.fresh (below_alloc _ (.loop (recL fn a.tmps ps assign body w.heap.size .ready none))))
  have hL : ((w.alloc (.deferred (some []))).alloc (.loop (recL fn a.tmps ps assign body w.heap.size .ready none))).heap[w.heap.size + 1]? = some (.loop (recL fn a.tmps ps assign body w.heap.size .ready none)) := by
    have := World.alloc_heap_new (w.alloc (.deferred (some []))) (.loop (recL fn a.tmps ps assign body w.heap.size .ready none)); rwa [World.size_alloc] at this
  have hD : ((w.alloc (.deferred (some []))).alloc (.loop (recL fn a.tmps ps assign body w.heap.size .ready none))).heap[w.heap.size]? = some (.deferred (some [])) :=
    (Below.heap_alloc _ _ _ (by simp)).trans (World.alloc_heap_new w _)
  have hlo : w0.heap.size ≤ w.heap.size := I.kpt.size
  have hfk : FarK w ((w.alloc (.deferred (some []))).alloc (.loop (recL fn a.tmps ps assign body w.heap.size .ready none))) := fun b ob hb _ => by
    have hlt := (Array.getElem?_eq_some_iff.1 hb).1
    exact (Below.heap_alloc _ _ _ (by simp; omega)).trans ((Below.heap_alloc w _ b hlt).trans hb)
  have hC := hcall fn (w.heap.size + 1) w.heap.size _ _ lb.toList S2 hfk (by omega) hlo (by omega) hL hD (RelL.mono S2.ext _ _ hcap) (hT.mono S2.ext)
  have hent := run_enterLoop_outer (P := P) (w := w) fn a.tmps ps assign body
  clear hfk
  revert hC hL hD S2 hent
  generalize (w.alloc (.deferred (some []))).alloc (.loop (recL fn a.tmps ps assign body w.heap.size .ready none)) = W1
  intro S2 hL hD hC hent
  refine ⟨w.heap.size + 1, [markD w.heap.size], W1, { target := .fn (.func gf) lb, args := #[.func (.yield (w.heap.size + 1)) #[] #[]] }, W1, gf, (.func (.yield (w.heap.size + 1)) #[] #[] :: lb.toList).toArray, W1, hent, ?_, fun _ _ => trivial, ?_, (fun h => by cases h), hC.mono ?_⟩
  · simp only [resolve, hv]
    simp [go_sem]
  · simp only [invoke]
    rw [callFunc_plain ⟨hg, hm.2⟩]
    simp
  · rintro e W ⟨v, pe, st, E2, h2, rfl, hst, S, hl2, hd2, hK, hpe⟩
    have St := S.inv.turn hl2 rfl (show w0.heap.size ≤ w.heap.size + 1 by omega) (.loop { recL fn a.tmps ps assign body w.heap.size st pe with state := .exhausted })
    have hd3 : (W.putObj (w.heap.size + 1) (.loop { recL fn a.tmps ps assign body w.heap.size st pe with state := .exhausted })).heap[w.heap.size]? = some (.deferred (some [])) := (World.putObj_heap_other (by omega)).trans hd2
    refine ⟨pe, _, run_endLoop hl2 hst, ?_⟩
    rcases hpe with rfl | rfl
    · exact hnext _ _ _ _ hK ((S2.trans S).trans St) hlo hd3
    · exact wpIn_ret (hret _ _ _ _ hK ((S2.trans S).trans St) hlo hd3)
/-- a function's end behind such a statement -/
theorem leaves_mark {n D : Nat} {fn : Func} {tmps : Array Value} {R : Ending → World → Prop} (hD : w.heap[D]? = some (.deferred (some []))) (hr : ∃ v, (results fn tmps).run P (w.putObj D (.deferred none)) = .ok v (w.putObj D (.deferred none)) ∧ R (.returned v) (w.putObj D (.deferred none))) :
    LeavesInM (FW none) n P fn tmps R [markD D] .returning w := ⟨by simp, .inl ⟨D, _, rfl, run_takeDeferred hD, hr⟩⟩
end
end
end Go.Proofs.YtcambhbmobepjaaGreat

namespace Go.Proofs.YtcambhbmobepjaaGreat
set_option linter.unusedSimpArgs false
set_option linter.unusedVariables false
open Go.RowKit
set_option maxRecDepth 100000
noncomputable section

-- DEFS
def sL : Code → Code | .seq a _ => a | _ => .skip
def sR : Code → Code | .seq _ b => b | _ => .skip
def blkB : Code → Code | .block _ b => b | _ => .skip
def loopB : Code → Code | .loop b => b | _ => .skip
def rfA : Code → Code | .rangeFunc _ _ a _ => a | _ => .skip
def rfB : Code → Code | .rangeFunc _ _ _ b => b | _ => .skip
def regO : Code → List Oper | .region _ ops _ => ops.toList | _ => []
def dcB (P : Program) : Code := bodyOf P 104
def dcR (P : Program) : Code := blkB (sR (sL (sR (sR (sR (dcB P))))))
def itX (P : Program) : Code := loopB (blkB (bodyOf P 151))
def itY (P : Program) : Code := blkB (sR (itX P))
def clG (P : Program) : List (FuncId × Spec) := [(98, pureS P 98 FCloneB)]
abbrev opN : AV := .sc false (.slice none 0 0)
abbrev shO (d : D) : AV := .sl false opS d (some (0, 1000))
abbrev itH (d ol : D) : Hp := ⟨[(0, [opN]), (1, [ai 0]), (2, [shO ol]), (3, [asl byS d])], 4, [(0, 1000, 92)], 1, 1001, 1000⟩
abbrev itF (l : Nat) : Tm := ⟨48, [(0, .fn (.yield l) [] []), (1, .ptr 3 0)], []⟩
def thenB : Code → Code | .cond _ a _ => a | _ => .skip
def arrO : Code → Array Oper | .region _ ops _ => ops | _ => #[]
def itR5 (P : Program) : Code := sL (sR (sR (sR (itY P))))
def itR2 (P : Program) : Code := sL (thenB (sR (sL (itY P))))
def byN (d : D) (i : Nat) : Int := D.toI (D.cell (D.get d i) 0)
abbrev optV (d : D) : AV := .agg [ai (IntKind.wrap IntKind.i64 (byN d 0)), asl byS (D.sub d 2 (Int.toNat (byN d 1)))]
abbrev advD (d : D) : D := D.sub d (Int.toNat (byN d 1)) (Int.toNat (d.len : Int))
abbrev advH (d ol : D) : Hp := ⟨[(3, [asl byS (advD d)]), (4, [ai (IntKind.wrap IntKind.i64 (byN d 0)), asl byS (D.sub d 2 (Int.toNat (byN d 1)))]), (4, [.sc true (.int .i64 0), .sc true (.slice none 0 0)]), (0, [opN]), (1, [ai 0]), (2, [shO ol]), (3, [asl byS d])], 5, [(0, 1000, 92)], 1, 1001, 1000⟩
abbrev advF (l : Nat) : Tm := ⟨48, [(0, .fn (.yield l) [] []), (1, .ptr 3 0), (3, .ptr 4 0)], []⟩
abbrev dcF (x : AV) (b : Bool) : Tm := ⟨24, [(13, .sc true (.bool b)), (12, x), (2, .ptr 0 0), (3, .ptr 1 0), (4, .ptr 2 0)], []⟩
abbrev zerV : AV := .agg [.sc true (.int .i64 0), .sc true (.slice none 0 0)]
def callC (P : Program) : FuncId → Spec := callE P (gam (clG P)) (evC P (gam (clG P)) (lam []) 100)
abbrev r1F (x : AV) (b : Bool) (o : Nat) : Tm := ⟨24, [(6, .sc true (.bool b)), (5, .ptr o 0), (13, .sc true (.bool b)), (12, x), (2, .ptr 0 0), (3, .ptr 1 0), (4, .ptr 2 0)], []⟩
abbrev rbH (d ol : D) : Hp := ⟨(4, [.sc true (.int .i64 0), .sc true (.slice none 0 0)]) :: (4, [.sc true (.int .i64 0), .sc true (.slice none 0 0)]) :: (itH d ol).ob, 5, [(0, 1000, 92)], 1, 1001, 1000⟩
abbrev raH (d ol : D) : Hp := ⟨(5, [ai (IntKind.wrap IntKind.i64 (byN d 0)), asl byS (D.sub d 2 (Int.toNat (byN d 1)))]) :: (5, [.sc true (.int .i64 0), .sc true (.slice none 0 0)]) :: (advH d ol).ob, 6, [(0, 1000, 92)], 1, 1001, 1000⟩
-- END
theorem clG_ok : GamL Tryz.prog (clG Tryz.prog) := ⟨cloneb_soundF, trivial⟩
theorem dc_pre (d : D) : evC Tryz.prog (gam (clG Tryz.prog)) (lam []) 100 104 (.seq (sL (dcB Tryz.prog)) (.seq (sL (sR (dcB Tryz.prog))) (.seq (sL (sR (sR (dcB Tryz.prog)))) (sL (sL (sR (sR (sR (dcB Tryz.prog))))))))) ⟨24, [(0, asl byS d)], []⟩ hp0 =
    RT.br (decide (1488 < (↑(D.len d) : Int)))
      (RT.ok
        (Ex.ret,
          { nt := 24,
            tm :=
              [(9, AV.sc true (Value.bool true)), (9, AV.sc false (Value.bool (decide (1488 < (↑(D.len d) : Int))))),
                (8, AV.sc false (Value.int IntKind.i64 (↑(D.len d) : Int))), (7, AV.sl false [Sh.int IntKind.u8] d none),
                (3, AV.ptr 1 0), (2, AV.ptr 0 0), (0, AV.sl false [Sh.int IntKind.u8] d none)],
            df := [] },
          {
            ob :=
              [(1, [AV.sc true (Value.int IntKind.i64 2)]), (0, [AV.sc true (Value.slice none 0 0)]),
                (1, [AV.sc true (Value.int IntKind.i64 0)]), (0, [AV.sc true (Value.slice none 0 0)])],
            nx := 2, gn := [], nv := 0, ng := 0, ep := 0 }))
      (RT.ok
        (Ex.normal,
          { nt := 24,
            tm :=
              [(11, AV.fn (Fn.func 151) [] [AV.ptr 3 0]), (10, AV.sl false [Sh.int IntKind.u8] d none), (4, AV.ptr 2 0),
                (9, AV.sc true (Value.bool false)), (9, AV.sc false (Value.bool (decide (1488 < (↑(D.len d) : Int))))),
                (8, AV.sc false (Value.int IntKind.i64 (↑(D.len d) : Int))), (7, AV.sl false [Sh.int IntKind.u8] d none),
                (3, AV.ptr 1 0), (2, AV.ptr 0 0), (0, AV.sl false [Sh.int IntKind.u8] d none)],
            df := [] },
          {
            ob :=
              [(3, [AV.sl false [Sh.int IntKind.u8] d none]), (2, [AV.sc true (Value.slice none 0 0)]),
                (1, [AV.sc true (Value.int IntKind.i64 0)]), (0, [AV.sc true (Value.slice none 0 0)])],
            nx := 4, gn := [], nv := 0, ng := 0, ep := 0 })) := by kernel_rfl
theorem it_head (l : Nat) (d ol : D) : evC Tryz.prog (gam (clG Tryz.prog)) (lam []) 100 151 (.seq (sL (itX Tryz.prog)) (sL (sL (itY Tryz.prog)))) (itF l) (itH d ol) =
    RT.br (decide (0 < (↑(D.len d) : Int)))
      (RT.br (decide ((↑(D.len d) : Int) < 2))
        (RT.ok
          (Ex.normal,
            { nt := 48,
              tm :=
                [(24, AV.sc true (Value.bool true)), (23, AV.tup []), (16, AV.sc true (Value.bool true)), (22, AV.tup []),
                  (16, AV.sc true (Value.bool true)), (21, AV.tup []), (16, AV.sc true (Value.bool true)), (20, AV.tup []),
                  (16, AV.sc true (Value.bool true)), (19, AV.tup []), (16, AV.sc true (Value.bool true)), (18, AV.tup []),
                  (16, AV.sc true (Value.bool true)), (17, AV.tup []), (16, AV.sc true (Value.bool true)),
                  (16, AV.sc true (Value.bool true)), (15, AV.sc true (Value.bool true)), (14, AV.tup []),
                  (10, AV.sc true (Value.bool true)), (13, AV.tup []), (10, AV.sc true (Value.bool true)), (12, AV.tup []),
                  (10, AV.sc true (Value.bool true)), (11, AV.tup []), (10, AV.sc true (Value.bool true)),
                  (10, AV.sc false (Value.bool (decide ((↑(D.len d) : Int) < 2)))),
                  (9, AV.sc false (Value.bool (decide ((↑(D.len d) : Int) < 2)))),
                  (8, AV.sc false (Value.int IntKind.i64 (↑(D.len d) : Int))), (7, AV.sl false [Sh.int IntKind.u8] d none),
                  (6, AV.sc true (Value.bool true)), (6, AV.sc false (Value.bool (decide (0 < (↑(D.len d) : Int))))),
                  (5, AV.sc false (Value.int IntKind.i64 (↑(D.len d) : Int))), (4, AV.sl false [Sh.int IntKind.u8] d none),
                  (0, AV.fn (Fn.yield l) [] []), (1, AV.ptr 3 0)],
              df := [] },
            {
              ob :=
                [(0, [AV.sc false (Value.slice none 0 0)]), (1, [AV.sc false (Value.int IntKind.i64 0)]),
                  (2, [AV.sl false [Sh.int IntKind.i64, Sh.sl [Sh.int IntKind.u8]] ol (some (0, 1000))]),
                  (3, [AV.sl false [Sh.int IntKind.u8] d none])],
              nx := 4, gn := [(0, 1000, 92)], nv := 1, ng := 1001, ep := 1000 }))
        (RT.br (decide ((0 : Int) ≤ 1 ∧ 1 < (↑(D.len d) : Int)))
          (RT.br (decide (D.toI (D.cell (D.get d 1) 0) < 2))
            (RT.ok
              (Ex.normal,
                { nt := 48,
                  tm :=
                    [(24, AV.sc true (Value.bool true)), (23, AV.tup []), (16, AV.sc true (Value.bool true)),
                      (22, AV.tup []), (16, AV.sc true (Value.bool true)), (21, AV.tup []),
                      (16, AV.sc true (Value.bool true)), (20, AV.tup []), (16, AV.sc true (Value.bool true)),
                      (19, AV.tup []), (16, AV.sc true (Value.bool true)), (18, AV.tup []),
                      (16, AV.sc true (Value.bool true)), (17, AV.tup []), (16, AV.sc true (Value.bool true)),
                      (16, AV.sc false (Value.bool (decide (D.toI (D.cell (D.get d 1) 0) < 2)))),
                      (15, AV.sc false (Value.bool (decide (D.toI (D.cell (D.get d 1) 0) < 2)))),
                      (14, AV.sc false (Value.bool (decide (D.toI (D.cell (D.get d 1) 0) < 2)))),
                      (10, AV.sc true (Value.bool false)),
                      (13, AV.sc false (Value.int IntKind.u8 (D.toI (D.cell (D.get d 1) 0)))),
                      (10, AV.sc true (Value.bool false)), (12, AV.ep false [Sh.int IntKind.u8] (D.get d 1) 0),
                      (10, AV.sc true (Value.bool false)), (11, AV.sl false [Sh.int IntKind.u8] d none),
                      (10, AV.sc true (Value.bool false)), (10, AV.sc false (Value.bool (decide ((↑(D.len d) : Int) < 2)))),
                      (9, AV.sc false (Value.bool (decide ((↑(D.len d) : Int) < 2)))),
                      (8, AV.sc false (Value.int IntKind.i64 (↑(D.len d) : Int))),
                      (7, AV.sl false [Sh.int IntKind.u8] d none), (6, AV.sc true (Value.bool true)),
                      (6, AV.sc false (Value.bool (decide (0 < (↑(D.len d) : Int))))),
                      (5, AV.sc false (Value.int IntKind.i64 (↑(D.len d) : Int))),
                      (4, AV.sl false [Sh.int IntKind.u8] d none), (0, AV.fn (Fn.yield l) [] []), (1, AV.ptr 3 0)],
                  df := [] },
                {
                  ob :=
                    [(0, [AV.sc false (Value.slice none 0 0)]), (1, [AV.sc false (Value.int IntKind.i64 0)]),
                      (2, [AV.sl false [Sh.int IntKind.i64, Sh.sl [Sh.int IntKind.u8]] ol (some (0, 1000))]),
                      (3, [AV.sl false [Sh.int IntKind.u8] d none])],
                  nx := 4, gn := [(0, 1000, 92)], nv := 1, ng := 1001, ep := 1000 }))
            (RT.br (decide ((0 : Int) ≤ 1 ∧ 1 < (↑(D.len d) : Int)))
              (RT.ok
                (Ex.normal,
                  { nt := 48,
                    tm :=
                      [(24,
                          AV.sc false
                            (Value.bool
                              (decide ((↑(D.len d) : Int) < IntKind.wrap IntKind.i64 (D.toI (D.cell (D.get d 1) 0)))))),
                        (23,
                          AV.sc false
                            (Value.bool
                              (decide ((↑(D.len d) : Int) < IntKind.wrap IntKind.i64 (D.toI (D.cell (D.get d 1) 0)))))),
                        (16, AV.sc true (Value.bool false)), (22, AV.sc false (Value.int IntKind.i64 (↑(D.len d) : Int))),
                        (16, AV.sc true (Value.bool false)), (21, AV.sl false [Sh.int IntKind.u8] d none),
                        (16, AV.sc true (Value.bool false)),
                        (20, AV.sc false (Value.int IntKind.i64 (IntKind.wrap IntKind.i64 (D.toI (D.cell (D.get d 1) 0))))),
                        (16, AV.sc true (Value.bool false)),
                        (19, AV.sc false (Value.int IntKind.u8 (D.toI (D.cell (D.get d 1) 0)))),
                        (16, AV.sc true (Value.bool false)), (18, AV.ep false [Sh.int IntKind.u8] (D.get d 1) 0),
                        (16, AV.sc true (Value.bool false)), (17, AV.sl false [Sh.int IntKind.u8] d none),
                        (16, AV.sc true (Value.bool false)),
                        (16, AV.sc false (Value.bool (decide (D.toI (D.cell (D.get d 1) 0) < 2)))),
                        (15, AV.sc false (Value.bool (decide (D.toI (D.cell (D.get d 1) 0) < 2)))),
                        (14, AV.sc false (Value.bool (decide (D.toI (D.cell (D.get d 1) 0) < 2)))),
                        (10, AV.sc true (Value.bool false)),
                        (13, AV.sc false (Value.int IntKind.u8 (D.toI (D.cell (D.get d 1) 0)))),
                        (10, AV.sc true (Value.bool false)), (12, AV.ep false [Sh.int IntKind.u8] (D.get d 1) 0),
                        (10, AV.sc true (Value.bool false)), (11, AV.sl false [Sh.int IntKind.u8] d none),
                        (10, AV.sc true (Value.bool false)),
                        (10, AV.sc false (Value.bool (decide ((↑(D.len d) : Int) < 2)))),
                        (9, AV.sc false (Value.bool (decide ((↑(D.len d) : Int) < 2)))),
                        (8, AV.sc false (Value.int IntKind.i64 (↑(D.len d) : Int))),
                        (7, AV.sl false [Sh.int IntKind.u8] d none), (6, AV.sc true (Value.bool true)),
                        (6, AV.sc false (Value.bool (decide (0 < (↑(D.len d) : Int))))),
                        (5, AV.sc false (Value.int IntKind.i64 (↑(D.len d) : Int))),
                        (4, AV.sl false [Sh.int IntKind.u8] d none), (0, AV.fn (Fn.yield l) [] []), (1, AV.ptr 3 0)],
                    df := [] },
                  {
                    ob :=
                      [(0, [AV.sc false (Value.slice none 0 0)]), (1, [AV.sc false (Value.int IntKind.i64 0)]),
                        (2, [AV.sl false [Sh.int IntKind.i64, Sh.sl [Sh.int IntKind.u8]] ol (some (0, 1000))]),
                        (3, [AV.sl false [Sh.int IntKind.u8] d none])],
                    nx := 4, gn := [(0, 1000, 92)], nv := 1, ng := 1001, ep := 1000 }))
              (RT.bad 42)))
          (RT.bad 42)))
      (RT.ok
        (Ex.exit 0,
          { nt := 48,
            tm :=
              [(6, AV.sc true (Value.bool false)), (6, AV.sc false (Value.bool (decide (0 < (↑(D.len d) : Int))))),
                (5, AV.sc false (Value.int IntKind.i64 (↑(D.len d) : Int))), (4, AV.sl false [Sh.int IntKind.u8] d none),
                (0, AV.fn (Fn.yield l) [] []), (1, AV.ptr 3 0)],
            df := [] },
          {
            ob :=
              [(0, [AV.sc false (Value.slice none 0 0)]), (1, [AV.sc false (Value.int IntKind.i64 0)]),
                (2, [AV.sl false [Sh.int IntKind.i64, Sh.sl [Sh.int IntKind.u8]] ol (some (0, 1000))]),
                (3, [AV.sl false [Sh.int IntKind.u8] d none])],
            nx := 4, gn := [(0, 1000, 92)], nv := 1, ng := 1001, ep := 1000 })) := by kernel_rfl
theorem it_adv (l : Nat) (d ol : D) : evC Tryz.prog (gam (clG Tryz.prog)) (lam []) 100 151 (.seq (sL (sR (itY Tryz.prog))) (sL (sR (sR (itY Tryz.prog))))) (itF l) (itH d ol) =
    RT.br (decide ((0 : Int) ≤ 0 ∧ 0 < (↑(D.len d) : Int)))
      (RT.br (decide ((0 : Int) ≤ 1 ∧ 1 < (↑(D.len d) : Int)))
        (RT.br
          (decide
            ((0 : Int) ≤ 2 ∧
              2 ≤ D.toI (D.cell (D.get d 1) 0) ∧
                D.toI (D.cell (D.get d 1) 0) ≤ (↑(D.len d) : Int) ∧ (↑(D.len d) : Int) ≤ (↑(D.len d) : Int)))
          (RT.br (decide ((0 : Int) ≤ 1 ∧ 1 < (↑(D.len d) : Int)))
            (RT.br
              (decide
                (0 ≤ D.toI (D.cell (D.get d 1) 0) ∧
                  D.toI (D.cell (D.get d 1) 0) ≤ (↑(D.len d) : Int) ∧
                    (↑(D.len d) : Int) ≤ (↑(D.len d) : Int) ∧ (↑(D.len d) : Int) ≤ (↑(D.len d) : Int)))
              (RT.ok
                (Ex.normal,
                  { nt := 48,
                    tm :=
                      [(43,
                          AV.sl false [Sh.int IntKind.u8]
                            (D.sub d (Int.toNat (D.toI (D.cell (D.get d 1) 0))) (Int.toNat (↑(D.len d) : Int))) none),
                        (42, AV.sc false (Value.int IntKind.u8 (D.toI (D.cell (D.get d 1) 0)))),
                        (41, AV.ep false [Sh.int IntKind.u8] (D.get d 1) 0), (40, AV.sl false [Sh.int IntKind.u8] d none),
                        (39, AV.sl false [Sh.int IntKind.u8] d none), (3, AV.ptr 4 0), (3, AV.any),
                        (38,
                          AV.agg
                            [AV.sc false (Value.int IntKind.i64 (IntKind.wrap IntKind.i64 (D.toI (D.cell (D.get d 0) 0)))),
                              AV.sl false [Sh.int IntKind.u8] (D.sub d 2 (Int.toNat (D.toI (D.cell (D.get d 1) 0)))) none]),
                        (37, AV.sl false [Sh.int IntKind.u8] (D.sub d 2 (Int.toNat (D.toI (D.cell (D.get d 1) 0)))) none),
                        (36, AV.sl false [Sh.int IntKind.u8] (D.sub d 2 (Int.toNat (D.toI (D.cell (D.get d 1) 0)))) none),
                        (35, AV.sc false (Value.int IntKind.u8 (D.toI (D.cell (D.get d 1) 0)))),
                        (34, AV.ep false [Sh.int IntKind.u8] (D.get d 1) 0), (33, AV.sl false [Sh.int IntKind.u8] d none),
                        (32, AV.sl false [Sh.int IntKind.u8] d none),
                        (31, AV.sc false (Value.int IntKind.i64 (IntKind.wrap IntKind.i64 (D.toI (D.cell (D.get d 0) 0))))),
                        (30, AV.sc false (Value.int IntKind.u8 (D.toI (D.cell (D.get d 0) 0)))),
                        (29, AV.ep false [Sh.int IntKind.u8] (D.get d 0) 0), (28, AV.sl false [Sh.int IntKind.u8] d none),
                        (0, AV.fn (Fn.yield l) [] []), (1, AV.ptr 3 0)],
                    df := [] },
                  {
                    ob :=
                      [(3,
                          [AV.sl false [Sh.int IntKind.u8]
                              (D.sub d (Int.toNat (D.toI (D.cell (D.get d 1) 0))) (Int.toNat (↑(D.len d) : Int))) none]),
                        (4,
                          [AV.sc false (Value.int IntKind.i64 (IntKind.wrap IntKind.i64 (D.toI (D.cell (D.get d 0) 0)))),
                            AV.sl false [Sh.int IntKind.u8] (D.sub d 2 (Int.toNat (D.toI (D.cell (D.get d 1) 0)))) none]),
                        (4, [AV.sc true (Value.int IntKind.i64 0), AV.sc true (Value.slice none 0 0)]),
                        (0, [AV.sc false (Value.slice none 0 0)]), (1, [AV.sc false (Value.int IntKind.i64 0)]),
                        (2, [AV.sl false [Sh.int IntKind.i64, Sh.sl [Sh.int IntKind.u8]] ol (some (0, 1000))]),
                        (3, [AV.sl false [Sh.int IntKind.u8] d none])],
                    nx := 5, gn := [(0, 1000, 92)], nv := 1, ng := 1001, ep := 1000 }))
              (RT.bad 37))
            (RT.bad 42))
          (RT.bad 37))
        (RT.bad 42))
      (RT.bad 42) := by kernel_rfl
theorem it_yb (l : Nat) (d ol : D) : evList Tryz.prog (callC Tryz.prog) (arrO (itR2 Tryz.prog)) ((regO (itR2 Tryz.prog)).take 2) (itF l) (itH d ol) = .ok (⟨48, (26, zerV) :: (25, .fn (.yield l) [] []) :: (itF l).tm, []⟩, itH d ol) := by kernel_rfl
theorem it_ya (l : Nat) (d ol : D) : evList Tryz.prog (callC Tryz.prog) (arrO (itR5 Tryz.prog)) ((regO (itR5 Tryz.prog)).take 2) (advF l) (advH d ol) = .ok (⟨48, (45, optV d) :: (44, .fn (.yield l) [] []) :: (advF l).tm, []⟩, advH d ol) := by kernel_rfl
theorem rd_ab (d ol : D) : evC Tryz.prog (gam (clG Tryz.prog)) (lam []) 100 104 (rfA (dcR Tryz.prog)) (dcF zerV false) (itH d ol) =
    RT.ok
      (Ex.normal,
        { nt := 24,
          tm :=
            [(6, AV.sc true (Value.bool false)), (5, AV.ptr 4 0), (13, AV.sc true (Value.bool false)),
              (12, AV.agg [AV.sc true (Value.int IntKind.i64 0), AV.sc true (Value.slice none 0 0)]), (2, AV.ptr 0 0),
              (3, AV.ptr 1 0), (4, AV.ptr 2 0)],
          df := [] },
        {
          ob :=
            [(4, [AV.sc true (Value.int IntKind.i64 0), AV.sc true (Value.slice none 0 0)]),
              (4, [AV.sc true (Value.int IntKind.i64 0), AV.sc true (Value.slice none 0 0)]),
              (0, [AV.sc false (Value.slice none 0 0)]), (1, [AV.sc false (Value.int IntKind.i64 0)]),
              (2, [AV.sl false [Sh.int IntKind.i64, Sh.sl [Sh.int IntKind.u8]] ol (some (0, 1000))]),
              (3, [AV.sl false [Sh.int IntKind.u8] d none])],
          nx := 5, gn := [(0, 1000, 92)], nv := 1, ng := 1001, ep := 1000 }) := by kernel_rfl
theorem rd_aa (d ol : D) : evC Tryz.prog (gam (clG Tryz.prog)) (lam []) 100 104 (rfA (dcR Tryz.prog)) (dcF (optV d) true) (advH d ol) =
    RT.ok
      (Ex.normal,
        { nt := 24,
          tm :=
            [(6, AV.sc true (Value.bool true)), (5, AV.ptr 5 0), (13, AV.sc true (Value.bool true)),
              (12,
                AV.agg
                  [AV.sc false (Value.int IntKind.i64 (IntKind.wrap IntKind.i64 (D.toI (D.cell (D.get d 0) 0)))),
                    AV.sl false [Sh.int IntKind.u8] (D.sub d 2 (Int.toNat (D.toI (D.cell (D.get d 1) 0)))) none]),
              (2, AV.ptr 0 0), (3, AV.ptr 1 0), (4, AV.ptr 2 0)],
          df := [] },
        {
          ob :=
            [(5,
                [AV.sc false (Value.int IntKind.i64 (IntKind.wrap IntKind.i64 (D.toI (D.cell (D.get d 0) 0)))),
                  AV.sl false [Sh.int IntKind.u8] (D.sub d 2 (Int.toNat (D.toI (D.cell (D.get d 1) 0)))) none]),
              (5, [AV.sc true (Value.int IntKind.i64 0), AV.sc true (Value.slice none 0 0)]),
              (3,
                [AV.sl false [Sh.int IntKind.u8]
                    (D.sub d (Int.toNat (D.toI (D.cell (D.get d 1) 0))) (Int.toNat (↑(D.len d) : Int))) none]),
              (4,
                [AV.sc false (Value.int IntKind.i64 (IntKind.wrap IntKind.i64 (D.toI (D.cell (D.get d 0) 0)))),
                  AV.sl false [Sh.int IntKind.u8] (D.sub d 2 (Int.toNat (D.toI (D.cell (D.get d 1) 0)))) none]),
              (4, [AV.sc true (Value.int IntKind.i64 0), AV.sc true (Value.slice none 0 0)]),
              (0, [AV.sc false (Value.slice none 0 0)]), (1, [AV.sc false (Value.int IntKind.i64 0)]),
              (2, [AV.sl false [Sh.int IntKind.i64, Sh.sl [Sh.int IntKind.u8]] ol (some (0, 1000))]),
              (3, [AV.sl false [Sh.int IntKind.u8] d none])],
          nx := 6, gn := [(0, 1000, 92)], nv := 1, ng := 1001, ep := 1000 }) := by kernel_rfl
theorem rd_bb (d ol : D) : evC Tryz.prog (gam (clG Tryz.prog)) (lam []) 100 104 (rfB (dcR Tryz.prog)) (r1F zerV false 4) (rbH d ol) =
    RT.ok
      (Ex.ret,
        { nt := 24,
          tm :=
            [(15, AV.sc true (Value.bool true)), (15, AV.sc true (Value.bool true)), (14, AV.sc true (Value.bool false)),
              (6, AV.sc true (Value.bool false)), (5, AV.ptr 4 0), (13, AV.sc true (Value.bool false)),
              (12, AV.agg [AV.sc true (Value.int IntKind.i64 0), AV.sc true (Value.slice none 0 0)]), (2, AV.ptr 0 0),
              (3, AV.ptr 1 0), (4, AV.ptr 2 0)],
          df := [] },
        {
          ob :=
            [(1, [AV.sc true (Value.int IntKind.i64 80)]), (0, [AV.sc true (Value.slice none 0 0)]),
              (4, [AV.sc true (Value.int IntKind.i64 0), AV.sc true (Value.slice none 0 0)]),
              (4, [AV.sc true (Value.int IntKind.i64 0), AV.sc true (Value.slice none 0 0)]),
              (0, [AV.sc false (Value.slice none 0 0)]), (1, [AV.sc false (Value.int IntKind.i64 0)]),
              (2, [AV.sl false [Sh.int IntKind.i64, Sh.sl [Sh.int IntKind.u8]] ol (some (0, 1000))]),
              (3, [AV.sl false [Sh.int IntKind.u8] d none])],
          nx := 5, gn := [(0, 1000, 92)], nv := 1, ng := 1001, ep := 1000 }) := by kernel_rfl
theorem rd_ba (d ol : D) : evC Tryz.prog (gam (clG Tryz.prog)) (lam []) 100 104 (rfB (dcR Tryz.prog)) (r1F (optV d) true 5) (raH d ol) =
    RT.br ((↑(D.len ol) : Int) == 64)
      (RT.ok
        (Ex.ret,
          { nt := 24,
            tm :=
              [(18, AV.sc true (Value.bool true)), (18, AV.sc false (Value.bool ((↑(D.len ol) : Int) == 64))),
                (17, AV.sc false (Value.int IntKind.i64 (↑(D.len ol) : Int))),
                (16, AV.sl false [Sh.int IntKind.i64, Sh.sl [Sh.int IntKind.u8]] ol (some (0, 1000))),
                (15, AV.sc true (Value.bool false)), (15, AV.sc true (Value.bool false)),
                (14, AV.sc true (Value.bool true)), (6, AV.sc true (Value.bool true)), (5, AV.ptr 5 0),
                (13, AV.sc true (Value.bool true)),
                (12,
                  AV.agg
                    [AV.sc false (Value.int IntKind.i64 (IntKind.wrap IntKind.i64 (D.toI (D.cell (D.get d 0) 0)))),
                      AV.sl false [Sh.int IntKind.u8] (D.sub d 2 (Int.toNat (D.toI (D.cell (D.get d 1) 0)))) none]),
                (2, AV.ptr 0 0), (3, AV.ptr 1 0), (4, AV.ptr 2 0)],
            df := [] },
          {
            ob :=
              [(1, [AV.sc true (Value.int IntKind.i64 3)]), (0, [AV.sc true (Value.slice none 0 0)]),
                (5,
                  [AV.sc false (Value.int IntKind.i64 (IntKind.wrap IntKind.i64 (D.toI (D.cell (D.get d 0) 0)))),
                    AV.sl false [Sh.int IntKind.u8] (D.sub d 2 (Int.toNat (D.toI (D.cell (D.get d 1) 0)))) none]),
                (5, [AV.sc true (Value.int IntKind.i64 0), AV.sc true (Value.slice none 0 0)]),
                (3,
                  [AV.sl false [Sh.int IntKind.u8]
                      (D.sub d (Int.toNat (D.toI (D.cell (D.get d 1) 0))) (Int.toNat (↑(D.len d) : Int))) none]),
                (4,
                  [AV.sc false (Value.int IntKind.i64 (IntKind.wrap IntKind.i64 (D.toI (D.cell (D.get d 0) 0)))),
                    AV.sl false [Sh.int IntKind.u8] (D.sub d 2 (Int.toNat (D.toI (D.cell (D.get d 1) 0)))) none]),
                (4, [AV.sc true (Value.int IntKind.i64 0), AV.sc true (Value.slice none 0 0)]),
                (0, [AV.sc false (Value.slice none 0 0)]), (1, [AV.sc false (Value.int IntKind.i64 0)]),
                (2, [AV.sl false [Sh.int IntKind.i64, Sh.sl [Sh.int IntKind.u8]] ol (some (0, 1000))]),
                (3, [AV.sl false [Sh.int IntKind.u8] d none])],
            nx := 6, gn := [(0, 1000, 92)], nv := 1, ng := 1001, ep := 1000 }))
      (RT.br (decide ((D.len ol + 1) * 32 ≤ 140737488355328))
        (RT.ok
          (Ex.normal,
            { nt := 24,
              tm :=
                [(22,
                    AV.sl false [Sh.int IntKind.i64, Sh.sl [Sh.int IntKind.u8]]
                      (D.app ol
                        (D.l
                          [D.t
                              [D.i (IntKind.wrap IntKind.i64 (D.toI (D.cell (D.get d 0) 0))),
                                D.sub d 2 (Int.toNat (D.toI (D.cell (D.get d 1) 0)))]]))
                      (some (0, 1002))),
                  (21,
                    AV.sl true [Sh.int IntKind.i64, Sh.sl [Sh.int IntKind.u8]]
                      (D.l
                        [D.t
                            [D.i (IntKind.wrap IntKind.i64 (D.toI (D.cell (D.get d 0) 0))),
                              D.sub d 2 (Int.toNat (D.toI (D.cell (D.get d 1) 0)))]])
                      (some (1, 1001))),
                  (20,
                    AV.agg
                      [AV.sc false (Value.int IntKind.i64 (IntKind.wrap IntKind.i64 (D.toI (D.cell (D.get d 0) 0)))),
                        AV.sl false [Sh.int IntKind.u8] (D.sub d 2 (Int.toNat (D.toI (D.cell (D.get d 1) 0)))) none]),
                  (19, AV.sl false [Sh.int IntKind.i64, Sh.sl [Sh.int IntKind.u8]] ol (some (0, 1000))),
                  (18, AV.sc true (Value.bool false)), (18, AV.sc false (Value.bool ((↑(D.len ol) : Int) == 64))),
                  (17, AV.sc false (Value.int IntKind.i64 (↑(D.len ol) : Int))),
                  (16, AV.sl false [Sh.int IntKind.i64, Sh.sl [Sh.int IntKind.u8]] ol (some (0, 1000))),
                  (15, AV.sc true (Value.bool false)), (15, AV.sc true (Value.bool false)),
                  (14, AV.sc true (Value.bool true)), (6, AV.sc true (Value.bool true)), (5, AV.ptr 5 0),
                  (13, AV.sc true (Value.bool true)),
                  (12,
                    AV.agg
                      [AV.sc false (Value.int IntKind.i64 (IntKind.wrap IntKind.i64 (D.toI (D.cell (D.get d 0) 0)))),
                        AV.sl false [Sh.int IntKind.u8] (D.sub d 2 (Int.toNat (D.toI (D.cell (D.get d 1) 0)))) none]),
                  (2, AV.ptr 0 0), (3, AV.ptr 1 0), (4, AV.ptr 2 0)],
              df := [] },
            {
              ob :=
                [(2,
                    [AV.sl false [Sh.int IntKind.i64, Sh.sl [Sh.int IntKind.u8]]
                        (D.app ol
                          (D.l
                            [D.t
                                [D.i (IntKind.wrap IntKind.i64 (D.toI (D.cell (D.get d 0) 0))),
                                  D.sub d 2 (Int.toNat (D.toI (D.cell (D.get d 1) 0)))]]))
                        (some (0, 1002))]),
                  (5,
                    [AV.sc false (Value.int IntKind.i64 (IntKind.wrap IntKind.i64 (D.toI (D.cell (D.get d 0) 0)))),
                      AV.sl false [Sh.int IntKind.u8] (D.sub d 2 (Int.toNat (D.toI (D.cell (D.get d 1) 0)))) none]),
                  (5, [AV.sc true (Value.int IntKind.i64 0), AV.sc true (Value.slice none 0 0)]),
                  (3,
                    [AV.sl false [Sh.int IntKind.u8]
                        (D.sub d (Int.toNat (D.toI (D.cell (D.get d 1) 0))) (Int.toNat (↑(D.len d) : Int))) none]),
                  (4,
                    [AV.sc false (Value.int IntKind.i64 (IntKind.wrap IntKind.i64 (D.toI (D.cell (D.get d 0) 0)))),
                      AV.sl false [Sh.int IntKind.u8] (D.sub d 2 (Int.toNat (D.toI (D.cell (D.get d 1) 0)))) none]),
                  (4, [AV.sc true (Value.int IntKind.i64 0), AV.sc true (Value.slice none 0 0)]),
                  (0, [AV.sc false (Value.slice none 0 0)]), (1, [AV.sc false (Value.int IntKind.i64 0)]),
                  (2, [AV.sl false [Sh.int IntKind.i64, Sh.sl [Sh.int IntKind.u8]] ol (some (0, 1000))]),
                  (3, [AV.sl false [Sh.int IntKind.u8] d none])],
              nx := 6, gn := [(0, 1002, 92), (1, 1001, 92), (0, 1000, 92)], nv := 2, ng := 1003, ep := 1000 }))
        (RT.bad 70)) := by kernel_rfl
theorem dc_end (d ol : D) : evC Tryz.prog (gam (clG Tryz.prog)) (lam []) 100 104 (sL (sR (sR (sR (sR (dcB Tryz.prog)))))) ⟨24, [(2, .ptr 0 0), (3, .ptr 1 0), (4, .ptr 2 0)], []⟩ (itH d ol) =
    RT.ok
      (Ex.normal,
        { nt := 24,
          tm :=
            [(23, AV.sl false [Sh.int IntKind.i64, Sh.sl [Sh.int IntKind.u8]] ol (some (0, 1000))), (2, AV.ptr 0 0),
              (3, AV.ptr 1 0), (4, AV.ptr 2 0)],
          df := [] },
        {
          ob :=
            [(1, [AV.sc true (Value.int IntKind.i64 0)]),
              (0, [AV.sl false [Sh.int IntKind.i64, Sh.sl [Sh.int IntKind.u8]] ol (some (0, 1000))]),
              (0, [AV.sc false (Value.slice none 0 0)]), (1, [AV.sc false (Value.int IntKind.i64 0)]),
              (2, [AV.sl false [Sh.int IntKind.i64, Sh.sl [Sh.int IntKind.u8]] ol (some (0, 1000))]),
              (3, [AV.sl false [Sh.int IntKind.u8] d none])],
          nx := 4, gn := [(0, 1000, 92)], nv := 1, ng := 1001, ep := 1000 }) := by kernel_rfl
end
end Go.Proofs.YtcambhbmobepjaaGreat

namespace Go.Proofs.YtcambhbmobepjaaGreat
set_option linter.unusedSimpArgs false
set_option linter.unusedVariables false
open Go.RowKit
set_option maxRecDepth 100000
noncomputable section

theorem RelT.keep {E : Env} {F : Tm} {a : Act} (hT : RelT E F a) (l : List Nat) : RelT E ⟨F.nt, l.map fun t => (t, look t F.tm), F.df⟩ a := by
  refine ⟨hT.sz, fun i => ?_, hT.df⟩
  show Rel E (look i (l.map fun t => (t, look t F.tm))) _
  rw [look_keep]
  split
  · exact hT.tm i
  · exact trivial
theorem RelT.put1 {E : Env} {F : Tm} {a : Act} {t : Nat} {av : AV} {v : Value} (hT : RelT E F a) (ht : t < F.nt) (hv : Rel E av v) : RelT E { F with tm := (t, av) :: F.tm } (a.put (some t) v) := by
  obtain ⟨F', h1, h2⟩ := putA_ok (K := fun F' => F' = { F with tm := (t, av) :: F.tm }) (dst := some t) (v := av) (u := v) (F := F) (by
    unfold putA
    simp only
    rw [show Nat.blt t F.nt = true from by simpa [Nat.blt_eq] using ht]
    rfl) hT hv
  rw [h1] at h2; exact h2
/-- a piece, and what comes behind it -/
theorem seq_then {P : Program} {E : Env} {F : Tm} {h : Hp} {w w0 : World} {G : Nat → Prop} {a : Act} {gs : List (FuncId × Spec)} (hm : Fit P) (hΓ : GamL P gs) (r : Option Nat) (m n f : Nat) {x y z : Code} {K : Out → Prop} {Q : Exit → Act → World → Prop} (H : (evC P (gam gs) (lam []) (n + 1) f (.seq x y) F h).holds K) (hc : calmC x = true) (hQ : ¬ LetsOut Q) (I : Inv P w0 G E h w) (hT : RelT E F a)
    (hz : ∀ F' h' E' a' w', (evC P (gam gs) (lam []) n f y F' h').holds K → Stepd P w0 G E h w E' h' w' → RelT E' F' a' → FarK w w' → z.wpIn (FW r) m P Q a' w')
    (hx : ∀ ex F' h' E' a' w', ex ≠ .normal → K (ex, F', h') → Stepd P w0 G E h w E' h' w' → RelT E' F' a' → FarK w w' → Q ex.to a' w') : (Code.seq x z).wpIn (FW r) m P Q a w := by
  unfold evC at H
  simp only at H
  rw [RT.holds_bind] at H
  refine wpIn_seq (segIn hm hΓ r m n f (Q := Exit.then (z.wpIn (FW r) m P Q) Q) H hc (fun h => hQ h) I hT ?_)
  intro ex F' h' E' a' w' hk S hT' hf
  cases ex with
  | normal => exact hz _ _ _ _ _ hk S hT' hf
  | exit id => exact hx _ _ _ _ _ _ (by simp) hk S hT' hf
  | ret => exact hx _ _ _ _ _ _ (by simp) hk S hT' hf
def bytesB (d : D) : Bool := decide (∀ i, i < d.len → 0 ≤ byN d i ∧ byN d i < 256)
def badO (d : D) : Bool := decide (d.len < 2 ∨ byN d 1 < 2 ∨ (d.len : Int) < byN d 1)
def optD (d : D) : D := .t [.i (IntKind.wrap IntKind.i64 (byN d 0)), D.sub d 2 (Int.toNat (byN d 1))]
/-- what is decoded: an error's number, the options -/
def decF : Nat → D → D → Int × D
  | 0, _, ol => (0, ol)
  | m + 1, d, ol => if d.len = 0 then (0, ol) else if badO d = true then (80, ol) else if ol.len = 64 then (3, ol) else decF m (advD d) (ol.app (.l [optD d]))
theorem decF_nil {m : Nat} {d ol : D} (h : d.len = 0) : decF m d ol = (0, ol) := by cases m <;> simp [decF, h]
theorem sub_len {d : D} {l u : Nat} (h1 : l ≤ u) (h2 : u ≤ d.len) : (d.sub l u).len = u - l := by
  unfold D.len at h2 ⊢
  rw [toL_sub]; simp only [List.length_drop, List.length_take]; omega
theorem sub_get {d : D} {l u i : Nat} (h : l + i < u) : (d.sub l u).get i = d.get (l + i) := by
  unfold D.get
  rw [toL_sub, List.getD_eq_getElem?_getD, List.getD_eq_getElem?_getD, List.getElem?_drop, List.getElem?_take_of_lt h]
theorem bytes_at {d : D} (h : bytesB d = true) {i : Nat} (hi : i < d.len) : 0 ≤ byN d i ∧ byN d i < 256 := of_decide_eq_true h i hi
theorem bytes_sub {d : D} (h : bytesB d = true) {l u : Nat} (h1 : l ≤ u) (h2 : u ≤ d.len) : bytesB (d.sub l u) = true := by
  refine decide_eq_true fun i hi => ?_
  rw [sub_len h1 h2] at hi
  unfold byN
  rw [sub_get (by omega)]
  exact bytes_at h (by omega)
theorem it_code : itX Tryz.prog = .seq (sL (itX Tryz.prog)) (.block 1 (.seq (.seq (sL (sL (itY Tryz.prog))) (.cond (.tmp 24) (.seq (.region 2 (arrO (itR2 Tryz.prog)) false) .ret) .skip)) (.seq (sL (sR (itY Tryz.prog))) (.seq (sL (sR (sR (itY Tryz.prog)))) (.seq (.region 5 (arrO (itR5 Tryz.prog)) false) (.cond (.tmp 47) .ret .skip)))))) := by kernel_rfl
theorem it_calm0 : calmC (sL (itX Tryz.prog)) = true := by kernel_rfl
theorem it_calm1 : calmC (sL (sL (itY Tryz.prog))) = true := by kernel_rfl
theorem it_calm3 : calmC (sL (sR (itY Tryz.prog))) = true := by kernel_rfl
theorem it_calm4 : calmC (sL (sR (sR (itY Tryz.prog)))) = true := by kernel_rfl
theorem dc_calmA : calmC (rfA (dcR Tryz.prog)) = true := by kernel_rfl
theorem dc_calmB : calmC (rfB (dcR Tryz.prog)) = true := by kernel_rfl
/-- what is seen of a round's beginning -/
def HeadK (l : Nat) (d ol : D) (o : Out) : Prop := o.2.2 = itH d ol ∧ o.2.1.df = [] ∧ ((o.1 = .exit 0 ∧ d.len = 0) ∨ (o.1 = .normal ∧ d.len ≠ 0 ∧ o.2.1.nt = 48 ∧ look 0 o.2.1.tm = .fn (.yield l) [] [] ∧ look 1 o.2.1.tm = .ptr 3 0 ∧ ∃ kn, look 24 o.2.1.tm = .sc kn (.bool (badO d))))
theorem head_holds (l : Nat) {d ol : D} (hb : bytesB d = true) : (evC Tryz.prog (gam (clG Tryz.prog)) (lam []) 100 151 (.seq (sL (itX Tryz.prog)) (sL (sL (itY Tryz.prog)))) (itF l) (itH d ol)).holds (HeadK l d ol) := by
  rw [it_head]
  refine ⟨fun h1 => ⟨fun h2 => ⟨rfl, rfl, .inr ⟨rfl, ?_, rfl, rfl, rfl, true, ?_⟩⟩, fun h2 => ⟨fun h3 => ⟨fun h4 => ⟨rfl, rfl, .inr ⟨rfl, ?_, rfl, rfl, rfl, true, ?_⟩⟩, fun h4 => ⟨fun _ => ⟨rfl, rfl, .inr ⟨rfl, ?_, rfl, rfl, rfl, false, ?_⟩⟩, fun h => absurd h3 (by rw [h]; decide)⟩⟩, fun h3 => ?_⟩⟩, fun h1 => ⟨rfl, rfl, .inl ⟨rfl, ?_⟩⟩⟩
  all_goals simp only [decide_eq_true_eq, decide_eq_false_iff_not] at *
  · omega
  · show AV.sc true (.bool true) = _
    unfold badO; rw [decide_eq_true (by omega)]
  · omega
  · show AV.sc true (.bool true) = _
    unfold badO; rw [decide_eq_true (by right; left; exact h4)]
  · omega
  · have := bytes_at hb (i := 1) (by omega)
    show AV.sc false (.bool (decide ((d.len : Int) < IntKind.wrap IntKind.i64 (byN d 1)))) = _
    rw [i64_id (by omega)]
    unfold badO
    congr 2
    have h4' : ¬ byN d 1 < 2 := h4
    simp only [decide_eq_decide]
    omega
  · omega
  · omega
end
end Go.Proofs.YtcambhbmobepjaaGreat

namespace Go.Proofs.YtcambhbmobepjaaGreat
set_option linter.unusedSimpArgs false
set_option linter.unusedVariables false
open Go.RowKit
set_option maxRecDepth 100000
noncomputable section

abbrev fdT : Tm := ⟨24, [(2, .ptr 0 0), (3, .ptr 1 0), (4, .ptr 2 0)], []⟩
abbrev errH (e : Int) (d ol : D) : Hp := ⟨[(0, [opN]), (1, [ai e]), (2, [shO ol]), (3, [asl byS d])], 4, [(0, 1000, 92)], 1, 1001, 1000⟩
abbrev recD (P : Program) (fn : FuncId) (t0 : Array Value) (Dp : Nat) : Loop := recL fn t0 #[12, 13] (rfA (dcR P)) (rfB (dcR P)) Dp .ready none
theorem zip2 {α β γ : Type} (f : γ → α × β → γ) (p q : α) (u v : β) (t : γ) : ((#[p, q] : Array α).zip #[u, v]).foldl f t = f (f t (p, u)) (q, v) := by
  rw [← Array.foldl_toList]
  simp
/-- two words of a round's -/
theorem round_tmps {E : Env} {t0 : Array Value} {x y : AV} {u v : Value} (hT : RelT E fdT { tmps := t0, defers := [] }) (hx : Rel E x u) (hy : Rel E y v) :
    RelT E ⟨24, [(13, y), (12, x), (2, .ptr 0 0), (3, .ptr 1 0), (4, .ptr 2 0)], []⟩ { tmps := ((#[12, 13] : Array Tmp).zip #[u, v]).foldl (fun t (p, v) => t.setIfInBounds p v) t0, defers := [] } := by
  have h1 := (hT.put1 (t := 12) (by decide) hx).put1 (t := 13) (by show 13 < 24; decide) hy
  rw [zip2]
  exact h1
theorem yield_two {P : Program} {n m f : Nat} {gs : List (FuncId × Spec)} (hm : Fit P) (hΓ : GamL P gs) {E : Env} {F : Tm} {h : Hp} {w w0 : World} {G : Nat → Prop} {a : Act} {o : Oper} {ops : Array Oper} {rest : List Oper} {d : Nat} {y x1 x2 : Operand} {ts : Array TypeId} {L : Nat} {R : Loop} {T0 : Array Value} {K : Out → Prop} {Q : Exit → Act → World → Prop}
    (ho : o.op = .call ⟨.value y, #[x1, x2], ts⟩) (hg : o.guard = none) (hd : o.dst = some d) (hy : a.eval y = .func (.yield L) #[] #[]) (hL : w.heap[L]? = some (.loop R)) (hst : R.state = .ready) (hpe : R.pending = none) (hps : R.params.size = 2) (hL0 : w0.heap.size ≤ L) (I : Inv P w0 G E h w)
    (hT0 : (R.params.zip #[a.eval x1, a.eval x2]).foldl (fun t (p, v) => t.setIfInBounds p v) R.tmps = T0) (hT : RelT E F { tmps := T0, defers := [] })
    (hca : calmC R.assign = true) (hcb : calmC R.body = true)
    (H : (evC P (gam gs) (lam []) n f R.assign F h).holds fun o => o.1 = .normal ∧ (evC P (gam gs) (lam []) n f R.body o.2.1 o.2.2).holds fun o => (o.1 = .normal ∨ o.1 = .ret) ∧ K o)
    (hn : ∀ ex F2 h2 E2 w', K (ex, F2, h2) → Stepd P w0 G E h w E2 h2 w' → FarX L w w' →
      ((ex = .normal ∧ w'.heap[L]? = some (.loop R) ∧ True → wpListIn (FW none) m P ops Q rest (a.put (some d) (.bool true)) w') ∧ (ex = .ret ∧ w'.heap[L]? = some (.loop { R with state := .done, pending := some .ret }) → wpListIn (FW none) m P ops Q rest (a.put (some d) (.bool false)) w'))) :
    wpListIn (FW none) m P ops Q (o :: rest) a w := by
  unfold wpListIn
  have hw : Region.wanted o (yielded ops a.tmps) = true := by simp [Region.wanted, hg]
  rw [if_pos hw]
  refine ⟨fun _ _ => trivial, ?_⟩
  rw [show o.semAt (FW none).round a.eval = execOp a.eval o from rfl, run_yieldOp (P := P) ho hy hL (by rw [hps]; rfl), Oper.uponIn_round]
  have hargs : (R.params.zip ((#[x1, x2] : Array Operand).map a.eval)).foldl (fun t (p, v) => t.setIfInBounds p v) R.tmps = T0 := by
    rw [← hT0, show (#[x1, x2] : Array Operand).map a.eval = #[a.eval x1, a.eval x2] from by simp]
  rw [hargs]
  refine ⟨fun h => depthFW (r := none) h, (roundIn_ev hm hΓ (m - 1) n f hL hst hpe hL0 I hT hca hcb H).mono ?_⟩
  rintro e w' ⟨ex, F2, h2, E2, hK, S, hf, (⟨rfl, rfl, hl⟩ | ⟨rfl, rfl, hl⟩)⟩
  · show wpListIn _ _ _ _ _ rest (a.put o.dst _) w'
    rw [hd]; exact (hn _ _ _ _ _ hK S hf).1 ⟨rfl, hl, trivial⟩
  · show wpListIn _ _ _ _ _ rest (a.put o.dst _) w'
    rw [hd]; exact (hn _ _ _ _ _ hK S hf).2 ⟨rfl, hl⟩
def opAt (l : List Oper) (i : Nat) : Oper := l.getD i ⟨none, .move (.const (.bool true)), 0, "", #[], none⟩
def callTs (o : Oper) : Array TypeId := match o.op with | .call c => c.argTypes | _ => #[]
def unTy (o : Oper) : TypeId := match o.op with | .unOp _ t _ => t | _ => 0
theorem it_ops2 : ∃ o : Oper, (arrO (itR2 Tryz.prog)).toList = (regO (itR2 Tryz.prog)).take 2 ++ [o] ∧ (∃ ts, o.op = .call ⟨.value (.tmp 25), #[.tmp 26, .const (.bool false)], ts⟩) ∧ o.guard = none ∧ o.dst = some 27 := ⟨opAt (regO (itR2 Tryz.prog)) 2, by kernel_rfl, ⟨callTs (opAt (regO (itR2 Tryz.prog)) 2), by kernel_rfl⟩, by kernel_rfl, by kernel_rfl⟩
theorem it_ops5 : ∃ o o2 : Oper, (arrO (itR5 Tryz.prog)).toList = (regO (itR5 Tryz.prog)).take 2 ++ [o, o2] ∧ (∃ ts, o.op = .call ⟨.value (.tmp 44), #[.tmp 45, .const (.bool true)], ts⟩) ∧ o.guard = none ∧ o.dst = some 46 ∧ (∃ t, o2.op = .unOp .not t (.tmp 46)) ∧ o2.guard = none ∧ o2.dst = some 47 := ⟨opAt (regO (itR5 Tryz.prog)) 2, opAt (regO (itR5 Tryz.prog)) 3, by kernel_rfl, ⟨callTs (opAt (regO (itR5 Tryz.prog)) 2), by kernel_rfl⟩, by kernel_rfl, by kernel_rfl, ⟨unTy (opAt (regO (itR5 Tryz.prog)) 3), by kernel_rfl⟩, by kernel_rfl, by kernel_rfl⟩
end
end Go.Proofs.YtcambhbmobepjaaGreat
