/- Kc4: settings of the automaton, automata: contracts. No condition. -/
import Derived.Test.YtcambhbmobepjaaGreatKc3
namespace Go.Proofs.YtcambhbmobepjaaGreat
set_option linter.unusedSimpArgs false
set_option linter.unusedVariables false
open Go.RowKit
set_option maxRecDepth 100000
noncomputable section

-- DEFS
/-- nothing wrong, or what is -/
def errIf (b : Bool) (n : Int) : Int := if b then 0 else n
def rulesB (m g : Int) : Bool := decide (0 ≤ m ∧ m < 4294967296 ∧ 0 ≤ g ∧ g < 4294967296 ∧ g ≠ m)
def rlOf (d : D) : Option (D × D) := match d.raw with
  | [.t [.ki 1, .ki 2, .ki 2, .ki 128, .ki 1492, .ki 1492, .kb false], .t [.ki 5, .ki 4, .ki 4, m, .ki 0, g, .kb false]] => some (m, g)
  | _ => none
def FChk : List AV → RT AV
  | [.sl false [.int .i64, .int .i64, .int .i64, .int .i64, .int .i64, .int .i64, .bool] d none] => match rlOf d with
    | some (m, g) => .ok (ai (errIf (rulesB m.toI g.toI) 150))
    | none => .bad 207
  | _ => .bad 207
def FAre : List AV → RT AV
  | [.sl false [.int .i64, .int .i64, .int .i64, .int .i64, .int .i64, .int .i64, .bool] d none] => match rlOf d with
    | some (m, g) => .ok (ab (rulesB m.toI g.toI))
    | none => .bad 207
  | _ => .bad 207
def setB (m g b c d e : Int) : Bool := rulesB m g && (inB b 1 1000 && (inB c 1 1000 && (inB d 0 1000 && inB e 1 1048576)))
def FSet : List AV → RT AV
  | [.agg [.sl false [.int .i64, .int .i64, .int .i64, .int .i64, .int .i64, .int .i64, .bool] r none, .sc false (.int .i64 b), .sc false (.int .i64 c), .sc false (.int .i64 d), .sc false (.int .i64 e)]] => match rlOf r with
    | some (m, g) => .ok (ab (setB m.toI g.toI b c d e))
    | none => .bad 207
  | _ => .bad 207
def timB (st tm : Int) : Bool := if 4 ≤ st ∧ st ≤ 8 then inB tm 1 1099512676352 else decide (tm = 0)
def soundB (st id rq : Int) (d : D) (ct tm nk : Int) : Bool := inB st 0 9 && (inB id 0 255 && (inB rq 0 255 && (inB ct 0 1000 && (inB nk 0 1000 && (decide (encE d = 0) && timB st tm)))))
def FSound : List AV → RT AV
  | [.agg [.sc false (.int .i64 st), .sc false (.int .i64 id), .sc false (.int .i64 rq), .sl false [.int .i64, .sl [.int .u8]] d none, .sc false (.int .i64 ct), .sc false (.int .i64 tm), .sc false (.int .i64 nk)]] => .ok (ab (soundB st id rq d ct tm nk))
  | _ => .bad 207
def encG (P : Program) : List (FuncId × Spec) := [(78, pureS P 78 FEnc), (81, pureS P 81 FEnc)]
def chkG (P : Program) : List (FuncId × Spec) := [(118, pureS P 118 FChk), (85, pureS P 85 FAre)]
-- END
-- STOPS: encE encO rulesB errIf
theorem le_raw {kn kn' : Bool} {es : List Sh} {d e : D} {tip : Option (Nat × Nat)} (h : d.raw = e.raw) : Le (.sl kn es d tip) (.sl kn' es e none) := by
  have h1 : d.toL = e.toL := by unfold D.toL; rw [h]
  exact le_sl (by unfold D.len; rw [h1]) fun i _ => by unfold D.get; rw [h1]; exact eqEl_refl _ _ _
theorem rlOf_le {d m g : D} (h : rlOf d = some (m, g)) {kn kn' : Bool} : Le (.sl kn rlS d none) (.sl kn' rlS (rulD m.toI g.toI) none) := by
  unfold rlOf at h
  split at h
  · rename_i m' g' hd
    cases h
    have h1 : Le (.sl kn rlS d none) (.sl false rlS (.l [.t [.ki 1, .ki 2, .ki 2, .ki 128, .ki 1492, .ki 1492, .kb false], .t [.ki 5, .ki 4, .ki 4, m, .ki 0, g, .kb false]]) none) := le_raw hd
    have ll : ∀ x y : D, (D.l [x, y]).toL = [x, y] := fun x y => toL_l (by simp; unfold maxLen; omega)
    have h2 : Le (.sl false rlS (.l [.t [.ki 1, .ki 2, .ki 2, .ki 128, .ki 1492, .ki 1492, .kb false], .t [.ki 5, .ki 4, .ki 4, m, .ki 0, g, .kb false]]) none) (.sl kn' rlS (rulD m.toI g.toI) none) := by
      refine le_sl (by unfold D.len rulD; rw [ll, ll]; rfl) fun i hi => ?_
      unfold D.len at hi
      rw [ll] at hi
      unfold D.get rulD
      rw [ll, ll]
      match i, hi with
      | 0, _ => exact ⟨rfl, rfl, rfl, rfl, rfl, rfl, rfl, trivial⟩
      | 1, _ => exact ⟨rfl, rfl, rfl, rfl, rfl, rfl, rfl, trivial⟩
    exact fun E v hv => h2 E v (h1 E v hv)
  · cases h
theorem chk_soundF : SoundF Tryz.prog 118 (pureS Tryz.prog 118 FChk) := by
  refine pure_by (gs := []) (ls := []) mixed trivial trivial 118 100 fun args K ho H => ?_
  unfold FChk at H
  split at H
  · rename_i d
    split at H
    · rename_i m g hr
      refine ⟨_, leL_cons (rlOf_le (kn' := true) hr) leL_nil, ?_⟩
      generalize m.toI = m at H ⊢
      generalize g.toI = g at H ⊢
      rw [chk_tree]
      simp only [RT.holds]
      repeat' refine And.intro (fun _ => ?_) (fun _ => ?_)
      all_goals exact ⟨_, le_int (by simp_all [rulesB, errIf] <;> omega), H⟩
    · exact H.elim
  · exact H.elim
theorem are_soundF : SoundF Tryz.prog 85 (pureS Tryz.prog 85 FAre) := by
  refine pure_by (gs := []) (ls := []) mixed trivial trivial 85 100 fun args K ho H => ?_
  unfold FAre at H
  split at H
  · rename_i d
    split at H
    · rename_i m g hr
      refine ⟨_, leL_cons (rlOf_le (kn' := true) hr) leL_nil, ?_⟩
      generalize m.toI = m at H ⊢
      generalize g.toI = g at H ⊢
      rw [are_tree]
      simp only [RT.holds]
      repeat' refine And.intro (fun _ => ?_) (fun _ => ?_)
      all_goals exact ⟨_, le_bool (by simp_all [rulesB] <;> omega), H⟩
    · exact H.elim
  · exact H.elim
theorem chkG_ok : GamL Tryz.prog (chkG Tryz.prog) := ⟨chk_soundF, are_soundF, trivial⟩
theorem encG_ok : GamL Tryz.prog (encG Tryz.prog) := ⟨encode_soundF, rencode_soundF, trivial⟩
theorem set_tree (m g b c d e : Int) : treeF (evF Tryz.prog (gam (chkG Tryz.prog)) (lam ([])) 100 82) [.agg [.sl true rlS (rulD m g) none, ai b, ai c, ai d, ai e]] =
    RT.br (errIf (rulesB m g) 150 == 0)
      (RT.br (decide (1 ≤ b))
        (RT.br (decide (b ≤ 1000))
          (RT.br (decide (1 ≤ c))
            (RT.br (decide (c ≤ 1000))
              (RT.br (decide (0 ≤ d))
                (RT.br (decide (d ≤ 1000))
                  (RT.br (decide (1 ≤ e)) (RT.ok (AV.sc false (Value.bool (decide (e ≤ 1048576)))))
                    (RT.ok (AV.sc true (Value.bool false))))
                  (RT.ok (AV.sc true (Value.bool false))))
                (RT.ok (AV.sc true (Value.bool false))))
              (RT.ok (AV.sc true (Value.bool false))))
            (RT.ok (AV.sc true (Value.bool false))))
          (RT.ok (AV.sc true (Value.bool false))))
        (RT.ok (AV.sc true (Value.bool false))))
      (RT.ok (AV.sc true (Value.bool false))) := by kernel_rfl
theorem rset_tree (m g b c d e : Int) : treeF (evF Tryz.prog (gam (chkG Tryz.prog)) (lam ([])) 100 47) [.agg [.sl true rlS (rulD m g) none, ai b, ai c, ai d, ai e]] =
    RT.br (rulesB m g)
      (RT.br (decide (1 ≤ b))
        (RT.br (decide (b ≤ 1000))
          (RT.br (decide (1 ≤ c))
            (RT.br (decide (c ≤ 1000))
              (RT.br (decide (0 ≤ d))
                (RT.br (decide (d ≤ 1000))
                  (RT.br (decide (1 ≤ e)) (RT.ok (AV.sc false (Value.bool (decide (e ≤ 1048576)))))
                    (RT.ok (AV.sc true (Value.bool false))))
                  (RT.ok (AV.sc true (Value.bool false))))
                (RT.ok (AV.sc true (Value.bool false))))
              (RT.ok (AV.sc true (Value.bool false))))
            (RT.ok (AV.sc true (Value.bool false))))
          (RT.ok (AV.sc true (Value.bool false))))
        (RT.ok (AV.sc true (Value.bool false))))
      (RT.ok (AV.sc true (Value.bool false))) := by kernel_rfl
theorem sou_tree (st id rq : Int) (d : D) (ct tm nk : Int) : treeF (evF Tryz.prog (gam (encG Tryz.prog)) (lam ([])) 100 83) [autA st id rq d ct tm nk] =
    RT.br (decide (0 ≤ st))
      (RT.br (!decide (st ≤ 9)) (RT.ok (AV.sc true (Value.bool false)))
        (RT.br (decide (0 ≤ id))
          (RT.br (!decide (id ≤ 255)) (RT.ok (AV.sc true (Value.bool false)))
            (RT.br (decide (0 ≤ rq))
              (RT.br (!decide (rq ≤ 255)) (RT.ok (AV.sc true (Value.bool false)))
                (RT.br (decide (0 ≤ ct))
                  (RT.br (!decide (ct ≤ 1000)) (RT.ok (AV.sc true (Value.bool false)))
                    (RT.br (decide (0 ≤ nk))
                      (RT.br (!decide (nk ≤ 1000)) (RT.ok (AV.sc true (Value.bool false)))
                        (RT.br (encE d != 0) (RT.ok (AV.sc true (Value.bool false)))
                          (RT.br (decide (6 ≤ st))
                            (RT.br (decide (st ≤ 8))
                              (RT.br (decide (1 ≤ tm)) (RT.ok (AV.sc false (Value.bool (decide (tm ≤ 1099512676352)))))
                                (RT.ok (AV.sc true (Value.bool false))))
                              (RT.br (st == 4)
                                (RT.br (decide (1 ≤ tm)) (RT.ok (AV.sc false (Value.bool (decide (tm ≤ 1099512676352)))))
                                  (RT.ok (AV.sc true (Value.bool false))))
                                (RT.br (st == 5)
                                  (RT.br (decide (1 ≤ tm)) (RT.ok (AV.sc false (Value.bool (decide (tm ≤ 1099512676352)))))
                                    (RT.ok (AV.sc true (Value.bool false))))
                                  (RT.ok (AV.sc false (Value.bool (tm == 0)))))))
                            (RT.br (st == 4)
                              (RT.br (decide (1 ≤ tm)) (RT.ok (AV.sc false (Value.bool (decide (tm ≤ 1099512676352)))))
                                (RT.ok (AV.sc true (Value.bool false))))
                              (RT.br (st == 5)
                                (RT.br (decide (1 ≤ tm)) (RT.ok (AV.sc false (Value.bool (decide (tm ≤ 1099512676352)))))
                                  (RT.ok (AV.sc true (Value.bool false))))
                                (RT.ok (AV.sc false (Value.bool (tm == 0)))))))))
                      (RT.ok (AV.sc true (Value.bool false)))))
                  (RT.ok (AV.sc true (Value.bool false)))))
              (RT.ok (AV.sc true (Value.bool false)))))
          (RT.ok (AV.sc true (Value.bool false)))))
      (RT.ok (AV.sc true (Value.bool false))) := by kernel_rfl
theorem rsou_tree (st id rq : Int) (d : D) (ct tm nk : Int) : treeF (evF Tryz.prog (gam (encG Tryz.prog)) (lam ([])) 100 48) [autA st id rq d ct tm nk] =
    RT.br (decide (st < 0)) (RT.ok (AV.sc true (Value.bool false)))
      (RT.br (decide (9 < st)) (RT.ok (AV.sc true (Value.bool false)))
        (RT.br (decide (id < 0)) (RT.ok (AV.sc true (Value.bool false)))
          (RT.br (decide (255 < id)) (RT.ok (AV.sc true (Value.bool false)))
            (RT.br (decide (rq < 0)) (RT.ok (AV.sc true (Value.bool false)))
              (RT.br (decide (255 < rq)) (RT.ok (AV.sc true (Value.bool false)))
                (RT.br (decide (ct < 0)) (RT.ok (AV.sc true (Value.bool false)))
                  (RT.br (decide (1000 < ct)) (RT.ok (AV.sc true (Value.bool false)))
                    (RT.br (decide (nk < 0)) (RT.ok (AV.sc true (Value.bool false)))
                      (RT.br (decide (1000 < nk)) (RT.ok (AV.sc true (Value.bool false)))
                        (RT.br (encE d != 0) (RT.ok (AV.sc true (Value.bool false)))
                          (RT.br (decide (4 ≤ st))
                            (RT.br (!decide (st ≤ 8)) (RT.ok (AV.sc false (Value.bool (tm == 0))))
                              (RT.br (decide (1 ≤ tm)) (RT.ok (AV.sc false (Value.bool (decide (tm ≤ 1099512676352)))))
                                (RT.ok (AV.sc true (Value.bool false)))))
                            (RT.ok (AV.sc false (Value.bool (tm == 0))))))))))))))) := by kernel_rfl
theorem errIf_zero {b : Bool} {n : Int} (hn : n ≠ 0) : (errIf b n == 0) = b := by cases b <;> simp [errIf, hn]
theorem errIf_nz {b : Bool} {n : Int} (hn : n ≠ 0) : (errIf b n != 0) = !b := by cases b <;> simp [errIf, hn]
theorem le_one {x y : AV} (h : Le x y) : ∀ E vs, RelL E [x] vs → RelL E [y] vs := leL_cons h leL_nil
theorem set_soundF : SoundF Tryz.prog 82 (pureS Tryz.prog 82 FSet) := by
  refine pure_by (gs := chkG Tryz.prog) (ls := []) mixed chkG_ok trivial 82 100 fun args K ho H => ?_
  unfold FSet at H
  split at H
  · split at H
    · rename_i m g hr
      refine ⟨_, le_one (le_agg (leL_cons (rlOf_le (kn' := true) hr) fun _ _ h => h)), ?_⟩
      generalize m.toI = m at H ⊢
      generalize g.toI = g at H ⊢
      rw [set_tree, errIf_zero (by decide)]
      simp only [RT.holds]
      repeat' refine And.intro (fun _ => ?_) (fun _ => ?_)
      all_goals exact ⟨_, le_bool (by simp_all [setB, inB] <;> omega), H⟩
    · exact H.elim
  · exact H.elim
theorem rset_soundF : SoundF Tryz.prog 47 (pureS Tryz.prog 47 FSet) := by
  refine pure_by (gs := chkG Tryz.prog) (ls := []) mixed chkG_ok trivial 47 100 fun args K ho H => ?_
  unfold FSet at H
  split at H
  · split at H
    · rename_i m g hr
      refine ⟨_, le_one (le_agg (leL_cons (rlOf_le (kn' := true) hr) fun _ _ h => h)), ?_⟩
      generalize m.toI = m at H ⊢
      generalize g.toI = g at H ⊢
      rw [rset_tree]
      simp only [RT.holds]
      repeat' refine And.intro (fun _ => ?_) (fun _ => ?_)
      all_goals exact ⟨_, le_bool (by simp_all [setB, inB] <;> omega), H⟩
    · exact H.elim
  · exact H.elim
theorem timB_iff (st tm : Int) : timB st tm = true ↔ ((4 ≤ st ∧ st ≤ 8) ∧ 1 ≤ tm ∧ tm ≤ 1099512676352) ∨ (¬ (4 ≤ st ∧ st ≤ 8) ∧ tm = 0) := by
  unfold timB
  split
  · rename_i h; simp only [inB, decide_eq_true_eq]; omega
  · rename_i h; simp only [decide_eq_true_eq]; omega
theorem soundB_iff (st id rq : Int) (d : D) (ct tm nk en : Int) (he : encE d = en) : soundB st id rq d ct tm nk = true ↔ (0 ≤ st ∧ st ≤ 9) ∧ (0 ≤ id ∧ id ≤ 255) ∧ (0 ≤ rq ∧ rq ≤ 255) ∧ (0 ≤ ct ∧ ct ≤ 1000) ∧ (0 ≤ nk ∧ nk ≤ 1000) ∧ en = 0 ∧ (((4 ≤ st ∧ st ≤ 8) ∧ 1 ≤ tm ∧ tm ≤ 1099512676352) ∨ (¬ (4 ≤ st ∧ st ≤ 8) ∧ tm = 0)) := by
  simp only [soundB, inB, Bool.and_eq_true, decide_eq_true_eq, timB_iff, he]
theorem sou_soundF : SoundF Tryz.prog 83 (pureS Tryz.prog 83 FSound) := by
  refine pure_in (gs := encG Tryz.prog) (ls := []) mixed encG_ok trivial 83 100 fun args K ho H => ?_
  unfold FSound at H
  split at H
  · rename_i st id rq d ct tm nk
    rw [sou_tree]
    clear ho
    have hs := soundB_iff st id rq d ct tm nk _ rfl
    generalize encE d = en at hs ⊢
    generalize soundB st id rq d ct tm nk = sb at H hs
    simp only [RT.holds]
    repeat' refine And.intro (fun _ => ?_) (fun _ => ?_)
    all_goals refine ⟨_, le_bool ?_, H⟩
    all_goals clear H
    all_goals rw [Bool.eq_iff_iff, hs]
    all_goals clear hs
    all_goals simp only [decide_eq_true_eq, decide_eq_false_iff_not, Bool.not_eq_true', Bool.not_eq_false', bne_iff_ne, ne_eq, beq_iff_eq, Bool.not_eq_true, bne_eq_false_iff_eq, beq_eq_false_iff_ne, Bool.false_eq_true, false_iff] at *
    all_goals omega
  · exact H.elim
theorem rsou_soundF : SoundF Tryz.prog 48 (pureS Tryz.prog 48 FSound) := by
  refine pure_in (gs := encG Tryz.prog) (ls := []) mixed encG_ok trivial 48 100 fun args K ho H => ?_
  unfold FSound at H
  split at H
  · rename_i st id rq d ct tm nk
    rw [rsou_tree]
    clear ho
    have hs := soundB_iff st id rq d ct tm nk _ rfl
    generalize encE d = en at hs ⊢
    generalize soundB st id rq d ct tm nk = sb at H hs
    simp only [RT.holds]
    repeat' refine And.intro (fun _ => ?_) (fun _ => ?_)
    all_goals refine ⟨_, le_bool ?_, H⟩
    all_goals clear H
    all_goals rw [Bool.eq_iff_iff, hs]
    all_goals clear hs
    all_goals simp only [decide_eq_true_eq, decide_eq_false_iff_not, Bool.not_eq_true', Bool.not_eq_false', bne_iff_ne, ne_eq, beq_iff_eq, Bool.not_eq_true, bne_eq_false_iff_eq, beq_eq_false_iff_ne, Bool.false_eq_true, false_iff] at *
    all_goals omega
  · exact H.elim
end
end Go.Proofs.YtcambhbmobepjaaGreat
