/- Kc2: the same options, controls: contracts. No condition. -/
import Derived.Test.YtcambhbmobepjaaGreatKc1
namespace Go.Proofs.YtcambhbmobepjaaGreat
set_option linter.unusedSimpArgs false
set_option linter.unusedVariables false
open Go.RowKit
set_option maxRecDepth 100000
noncomputable section

theorem rsame_soundF : SoundF Tryz.prog 84 (pureS Tryz.prog 84 FSameO) := by
  refine pure_in (gs := []) (ls := rsaLs Tryz.prog) mixed trivial rsaLs_ok 84 100 fun args K ho H => ?_
  unfold FSameO at H
  split at H
  · rename_i a b
    rw [rsa_tree]
    refine ⟨fun h1 => ⟨_, le_bool ?_, H⟩, fun h1 => ⟨fun h2 => ⟨fun h3 => ⟨_, le_bool ?_, H⟩, fun h3 => ⟨_, le_bool ?_, H⟩⟩, fun h2 => ?_⟩⟩
    · have : a.len ≠ b.len := by intro e; simp [e] at h1
      simp [sameO, this]
    · have := (of_decide_eq_true h2).1
      unfold sameO; rw [decide_eq_true this, show okFrom (oneE a b) a.len 0 = true from h3]; rfl
    · have := (of_decide_eq_true h2).1
      unfold sameO; rw [decide_eq_true this, show okFrom (oneE a b) a.len 0 = false from h3]; rfl
    · have : a.len = b.len := by simp at h1; omega
      exact absurd ⟨this, Nat.zero_le _⟩ (of_decide_eq_false h2)
  · exact H.elim
theorem osame_soundF : SoundF Tryz.prog 87 (pureS Tryz.prog 87 FSameO) := by
  refine pure_in (gs := []) (ls := eqfLs Tryz.prog) mixed trivial eqfLs_ok 87 100 fun args K ho H => ?_
  unfold FSameO at H
  split at H
  · rename_i a b
    rw [osa_tree]
    refine ⟨fun h1 => ⟨_, le_bool ?_, H⟩, fun h1 => ⟨fun h2 => ⟨fun h3 => ⟨_, le_bool ?_, H⟩, fun h3 => ⟨_, le_bool ?_, H⟩⟩, fun h2 => ?_⟩⟩
    · have : a.len ≠ b.len := by intro e; simp [e] at h1
      simp [sameO, this]
    · have := (of_decide_eq_true h2).2.1
      unfold sameO; rw [decide_eq_true this, show okFrom (oneE a b) a.len 0 = true from h3]; rfl
    · have := (of_decide_eq_true h2).2.1
      unfold sameO; rw [decide_eq_true this, show okFrom (oneE a b) a.len 0 = false from h3]; rfl
    · have : a.len = b.len := by simp at h1; omega
      exact absurd ⟨rfl, this, Nat.zero_le _⟩ (of_decide_eq_false h2)
  · exact H.elim
-- DEFS
abbrev autA (st id rq : Int) (d : D) (ct tm nk : Int) : AV := .agg [ai st, ai id, ai rq, asl opS d, ai ct, ai tm, ai nk]
abbrev lcpA (st id rq : Int) (d : D) (ct tm nk mg pr mu pe ne : Int) : AV := .agg [ai st, ai id, ai rq, asl opS d, ai ct, ai tm, ai nk, ai mg, ai pr, ai mu, ai pe, ai ne]
def sameG (P : Program) : List (FuncId × Spec) := [(87, pureS P 87 FSameO), (84, pureS P 84 FSameO)]
-- END
-- STOPS: sameO
theorem sameG_ok : GamL Tryz.prog (sameG Tryz.prog) := ⟨osame_soundF, rsame_soundF, trivial⟩
theorem lsa_tree (st id rq : Int) (d : D) (ct tm nk mg pr mu pe ne : Int) (st' id' rq' : Int) (d' : D) (ct' tm' nk' mg' pr' mu' pe' ne' : Int) : treeF (evF Tryz.prog (gam (sameG Tryz.prog)) (lam ([])) 100 20) [lcpA st id rq d ct tm nk mg pr mu pe ne, lcpA st' id' rq' d' ct' tm' nk' mg' pr' mu' pe' ne'] =
    RT.br (st == st')
      (RT.br (id == id')
        (RT.br (rq == rq')
          (RT.br (ct == ct')
            (RT.br (tm == tm')
              (RT.br (nk == nk')
                (RT.br (sameO d d')
                  (RT.br (mg == mg')
                    (RT.br (pr == pr')
                      (RT.br (mu == mu')
                        (RT.br (pe == pe') (RT.ok (AV.sc false (Value.bool (ne == ne'))))
                          (RT.ok (AV.sc true (Value.bool false))))
                        (RT.ok (AV.sc true (Value.bool false))))
                      (RT.ok (AV.sc true (Value.bool false))))
                    (RT.ok (AV.sc true (Value.bool false))))
                  (RT.ok (AV.sc true (Value.bool false))))
                (RT.ok (AV.sc true (Value.bool false))))
              (RT.ok (AV.sc true (Value.bool false))))
            (RT.ok (AV.sc true (Value.bool false))))
          (RT.ok (AV.sc true (Value.bool false))))
        (RT.ok (AV.sc true (Value.bool false))))
      (RT.ok (AV.sc true (Value.bool false))) := by kernel_rfl
theorem rlsa_tree (st id rq : Int) (d : D) (ct tm nk mg pr mu pe ne : Int) (st' id' rq' : Int) (d' : D) (ct' tm' nk' mg' pr' mu' pe' ne' : Int) : treeF (evF Tryz.prog (gam (sameG Tryz.prog)) (lam ([])) 100 16) [lcpA st id rq d ct tm nk mg pr mu pe ne, lcpA st' id' rq' d' ct' tm' nk' mg' pr' mu' pe' ne'] =
    RT.br (st == st')
      (RT.br (id == id')
        (RT.br (rq == rq')
          (RT.br (ct == ct')
            (RT.br (tm == tm')
              (RT.br (nk == nk')
                (RT.br (sameO d d')
                  (RT.br (mg == mg')
                    (RT.br (pr == pr')
                      (RT.br (mu == mu')
                        (RT.br (pe == pe') (RT.ok (AV.sc false (Value.bool (ne == ne'))))
                          (RT.ok (AV.sc true (Value.bool false))))
                        (RT.ok (AV.sc true (Value.bool false))))
                      (RT.ok (AV.sc true (Value.bool false))))
                    (RT.ok (AV.sc true (Value.bool false))))
                  (RT.ok (AV.sc true (Value.bool false))))
                (RT.ok (AV.sc true (Value.bool false))))
              (RT.ok (AV.sc true (Value.bool false))))
            (RT.ok (AV.sc true (Value.bool false))))
          (RT.ok (AV.sc true (Value.bool false))))
        (RT.ok (AV.sc true (Value.bool false))))
      (RT.ok (AV.sc true (Value.bool false))) := by kernel_rfl
theorem nxt_tree (st id rq : Int) (d : D) (ct tm nk mg pr mu pe ne : Int) : treeF (evF Tryz.prog (gam ([])) (lam ([])) 100 18) [lcpA st id rq d ct tm nk mg pr mu pe ne] =
    RT.br (tm == 0) (RT.ok (AV.sc false (Value.int IntKind.i64 (imax tm ne))))
      (RT.br (ne == 0) (RT.ok (AV.sc false (Value.int IntKind.i64 (imax tm ne))))
        (RT.ok (AV.sc false (Value.int IntKind.i64 (imin tm ne))))) := by kernel_rfl
theorem rnxt_tree (st id rq : Int) (d : D) (ct tm nk mg pr mu pe ne : Int) : treeF (evF Tryz.prog (gam ([])) (lam ([])) 100 19) [lcpA st id rq d ct tm nk mg pr mu pe ne] =
    RT.br (tm != 0)
      (RT.br (ne != 0) (RT.ok (AV.sc false (Value.int IntKind.i64 (imin tm ne))))
        (RT.ok (AV.sc false (Value.int IntKind.i64 (imax tm ne)))))
      (RT.ok (AV.sc false (Value.int IntKind.i64 (imax tm ne)))) := by kernel_rfl
def sameL (st id rq : Int) (d : D) (ct tm nk mg pr mu pe ne : Int) (st' id' rq' : Int) (d' : D) (ct' tm' nk' mg' pr' mu' pe' ne' : Int) : Bool :=
  st == st' && (id == id' && (rq == rq' && (ct == ct' && (tm == tm' && (nk == nk' && (sameO d d' && (mg == mg' && (pr == pr' && (mu == mu' && (pe == pe' && ne == ne'))))))))))
def FSameL : List AV → RT AV
  | [.agg [.sc false (.int .i64 st), .sc false (.int .i64 id), .sc false (.int .i64 rq), .sl false [.int .i64, .sl [.int .u8]] d none, .sc false (.int .i64 ct), .sc false (.int .i64 tm), .sc false (.int .i64 nk), .sc false (.int .i64 mg), .sc false (.int .i64 pr), .sc false (.int .i64 mu), .sc false (.int .i64 pe), .sc false (.int .i64 ne)],
     .agg [.sc false (.int .i64 st'), .sc false (.int .i64 id'), .sc false (.int .i64 rq'), .sl false [.int .i64, .sl [.int .u8]] d' none, .sc false (.int .i64 ct'), .sc false (.int .i64 tm'), .sc false (.int .i64 nk'), .sc false (.int .i64 mg'), .sc false (.int .i64 pr'), .sc false (.int .i64 mu'), .sc false (.int .i64 pe'), .sc false (.int .i64 ne')]] =>
      .ok (ab (sameL st id rq d ct tm nk mg pr mu pe ne st' id' rq' d' ct' tm' nk' mg' pr' mu' pe' ne'))
  | _ => .bad 206
theorem lsame_soundF : SoundF Tryz.prog 20 (pureS Tryz.prog 20 FSameL) := by
  refine pure_in (gs := sameG Tryz.prog) (ls := []) mixed sameG_ok trivial 20 100 fun args K ho H => ?_
  unfold FSameL at H
  split at H
  · rw [lsa_tree]
    simp only [RT.holds]
    repeat' refine And.intro (fun _ => ?_) (fun _ => ?_)
    all_goals exact ⟨_, le_bool (by simp_all only [sameL, Bool.true_and, Bool.false_and]), H⟩
  · exact H.elim
theorem rlsame_soundF : SoundF Tryz.prog 16 (pureS Tryz.prog 16 FSameL) := by
  refine pure_in (gs := sameG Tryz.prog) (ls := []) mixed sameG_ok trivial 16 100 fun args K ho H => ?_
  unfold FSameL at H
  split at H
  · rw [rlsa_tree]
    simp only [RT.holds]
    repeat' refine And.intro (fun _ => ?_) (fun _ => ?_)
    all_goals exact ⟨_, le_bool (by simp_all only [sameL, Bool.true_and, Bool.false_and]), H⟩
  · exact H.elim
def nextI (tm ne : Int) : Int := if tm = 0 ∨ ne = 0 then imax tm ne else imin tm ne
def FNextL : List AV → RT AV
  | [.agg [.sc false (.int .i64 st), .sc false (.int .i64 id), .sc false (.int .i64 rq), .sl false [.int .i64, .sl [.int .u8]] d none, .sc false (.int .i64 ct), .sc false (.int .i64 tm), .sc false (.int .i64 nk), .sc false (.int .i64 mg), .sc false (.int .i64 pr), .sc false (.int .i64 mu), .sc false (.int .i64 pe), .sc false (.int .i64 ne)]] => .ok (ai (nextI tm ne))
  | _ => .bad 206
theorem lnext_soundF : SoundF Tryz.prog 18 (pureS Tryz.prog 18 FNextL) := by
  refine pure_in (gs := []) (ls := []) mixed trivial trivial 18 100 fun args K ho H => ?_
  unfold FNextL at H
  split at H
  · rw [nxt_tree]
    simp only [RT.holds]
    repeat' refine And.intro (fun _ => ?_) (fun _ => ?_)
    all_goals exact ⟨_, le_int (by simp_all [nextI]), H⟩
  · exact H.elim
theorem rlnext_soundF : SoundF Tryz.prog 19 (pureS Tryz.prog 19 FNextL) := by
  refine pure_in (gs := []) (ls := []) mixed trivial trivial 19 100 fun args K ho H => ?_
  unfold FNextL at H
  split at H
  · rw [rnxt_tree]
    simp only [RT.holds]
    repeat' refine And.intro (fun _ => ?_) (fun _ => ?_)
    all_goals exact ⟨_, le_int (by simp_all [nextI]), H⟩
  · exact H.elim
end
end Go.Proofs.YtcambhbmobepjaaGreat
