/- Kc5: which controls may be. No condition. -/
import Derived.Test.YtcambhbmobepjaaGreatKc4
namespace Go.Proofs.YtcambhbmobepjaaGreat
set_option linter.unusedSimpArgs false
set_option linter.unusedVariables false
open Go.RowKit
set_option maxRecDepth 100000
noncomputable section

-- DEFS
def othX (m : Int) : Int := IntKind.i64.wrap ((BitVec.ofInt 64 m ^^^ BitVec.ofInt 64 1).toNat : Int)
def othP (m : Int) : Int := if othX m = 0 then 2 else othX m
def othY (m : Int) : Int := if m.tmod 2 = 0 then IntKind.i64.wrap (m + 1) else IntKind.i64.wrap (m - 1)
def othR (m : Int) : Int := if othY m = 0 then 2 else othY m
def FAutP : List AV → RT AV
  | [.agg [.sc false (.int .i64 _), .sc false (.int .i64 b), .sc false (.int .i64 c), .sc false (.int .i64 d), .sc false (.int .i64 e), .sc false (.int .i64 _), .sc false (.int .i64 _)], .sc false (.int .i64 m)] => .ok (.agg [.sl true rlS (rulD m (othP m)) none, ai b, ai c, ai d, ai e])
  | _ => .bad 208
def FAutR : List AV → RT AV
  | [.agg [.sc false (.int .i64 _), .sc false (.int .i64 b), .sc false (.int .i64 c), .sc false (.int .i64 d), .sc false (.int .i64 e), .sc false (.int .i64 _), .sc false (.int .i64 _)], .sc false (.int .i64 m)] => .ok (.agg [.sl true rlS (rulD m (othR m)) none, ai b, ai c, ai d, ai e])
  | _ => .bad 208
def autG (P : Program) : List (FuncId × Spec) := [(35, pureS P 35 FFits), (39, pureS P 39 FFits),
  (82, pureS P 82 FSet), (47, pureS P 47 FSet),
  (83, pureS P 83 FSound), (48, pureS P 48 FSound),
  (12, pureS P 12 FAutP), (13, pureS P 13 FAutR)]
-- END
-- STOPS: setB soundB fitsB othP othR
theorem le_rul {m g' : Int} {g : D} (h : g.toI = g') : Le (.sl true rlS (.l [.t [.ki 1, .ki 2, .ki 2, .ki 128, .ki 1492, .ki 1492, .kb false], .t [.ki 5, .ki 4, .ki 4, .i m, .ki 0, g, .kb false]]) none) (.sl true rlS (rulD m g') none) := by
  subst h; exact @rlOf_le (.l [.t [.ki 1, .ki 2, .ki 2, .ki 128, .ki 1492, .ki 1492, .kb false], .t [.ki 5, .ki 4, .ki 4, .i m, .ki 0, g, .kb false]]) (.i m) g rfl true true
theorem auto_soundF : SoundF Tryz.prog 12 (pureS Tryz.prog 12 FAutP) := by
  refine pure_in (gs := []) (ls := []) mixed trivial trivial 12 100 fun args K ho H => ?_
  unfold FAutP at H
  split at H
  · rename_i m
    rw [lau_tree]
    refine ⟨fun h1 => ⟨_, le_agg (leL_cons (le_rul ?_) fun _ _ h => h), H⟩, fun h1 => ⟨_, le_agg (leL_cons (le_rul ?_) fun _ _ h => h), H⟩⟩
    · have h1 : othX m = 0 := eq_of_beq (a := othX m) (b := 0) h1
      unfold othP; rw [if_pos h1]; rfl
    · have h1 : ¬ othX m = 0 := fun e => by
        have h1' : (othX m == 0) = false := h1
        rw [e] at h1'; cases h1'
      unfold othP; rw [if_neg h1]; rfl
  · exact H.elim
theorem rauto_soundF : SoundF Tryz.prog 13 (pureS Tryz.prog 13 FAutR) := by
  refine pure_in (gs := []) (ls := []) mixed trivial trivial 13 100 fun args K ho H => ?_
  unfold FAutR at H
  split at H
  · rename_i m
    rw [rlau_tree]
    simp only [RT.holds]
    repeat' refine And.intro (fun _ => ?_) (fun _ => ?_)
    all_goals first | (refine ⟨_, le_agg (leL_cons (le_rul ?_) fun _ _ h => h), H⟩; clear H ho; simp_all [othR, othY, D.toI]; done) | contradiction
  · exact H.elim
theorem autG_ok : GamL Tryz.prog (autG Tryz.prog) := ⟨fits_soundF, isconf_soundF, set_soundF, rset_soundF, sou_soundF, rsou_soundF, auto_soundF, rauto_soundF, trivial⟩
theorem lck_tree (a b c e f g h st id rq : Int) (d : D) (ct tm nk mg pr mu pe ne : Int) : treeF (evF Tryz.prog (gam (autG Tryz.prog)) (lam ([])) 100 11) [cfgA a b c e f g h, lcpA st id rq d ct tm nk mg pr mu pe ne] =
    RT.br (!fitsB a b c e f g h) (RT.ok (AV.sc true (Value.int IntKind.i64 170)))
      (RT.br (decide (1 ≤ mg))
        (RT.br (!decide (mg ≤ 4294967295)) (RT.ok (AV.sc true (Value.int IntKind.i64 170)))
          (RT.br (decide (0 ≤ pr))
            (RT.br (!decide (pr ≤ 4294967295)) (RT.ok (AV.sc true (Value.int IntKind.i64 170)))
              (RT.br (decide (128 ≤ mu))
                (RT.br (!decide (mu ≤ 1492)) (RT.ok (AV.sc true (Value.int IntKind.i64 170)))
                  (RT.br (decide (0 ≤ pe))
                    (RT.br (!decide (pe ≤ 1000)) (RT.ok (AV.sc true (Value.int IntKind.i64 170)))
                      (RT.br (st == 9)
                        (RT.br (decide (0 < g))
                          (RT.br (decide (1 ≤ ne))
                            (RT.br (setB mg (othP mg) b c e f)
                              (RT.br (soundB st id rq d ct tm nk)
                                (RT.br (ne != 0)
                                  (RT.br (!decide (ne ≤ 1099512676352)) (RT.ok (AV.sc true (Value.int IntKind.i64 170)))
                                    (RT.ok (AV.sc true (Value.int IntKind.i64 0))))
                                  (RT.ok (AV.sc true (Value.int IntKind.i64 0))))
                                (RT.ok (AV.sc true (Value.int IntKind.i64 170))))
                              (RT.ok (AV.sc true (Value.int IntKind.i64 170))))
                            (RT.br (setB mg (othP mg) b c e f)
                              (RT.br (soundB st id rq d ct tm nk)
                                (RT.br (ne != 0) (RT.ok (AV.sc true (Value.int IntKind.i64 170)))
                                  (RT.ok (AV.sc true (Value.int IntKind.i64 0))))
                                (RT.ok (AV.sc true (Value.int IntKind.i64 170))))
                              (RT.ok (AV.sc true (Value.int IntKind.i64 170)))))
                          (RT.br (setB mg (othP mg) b c e f)
                            (RT.br (soundB st id rq d ct tm nk)
                              (RT.br (ne != 0) (RT.ok (AV.sc true (Value.int IntKind.i64 170)))
                                (RT.ok (AV.sc true (Value.int IntKind.i64 0))))
                              (RT.ok (AV.sc true (Value.int IntKind.i64 170))))
                            (RT.ok (AV.sc true (Value.int IntKind.i64 170)))))
                        (RT.br (setB mg (othP mg) b c e f)
                          (RT.br (soundB st id rq d ct tm nk)
                            (RT.br (ne != 0) (RT.ok (AV.sc true (Value.int IntKind.i64 170)))
                              (RT.ok (AV.sc true (Value.int IntKind.i64 0))))
                            (RT.ok (AV.sc true (Value.int IntKind.i64 170))))
                          (RT.ok (AV.sc true (Value.int IntKind.i64 170))))))
                    (RT.ok (AV.sc true (Value.int IntKind.i64 170)))))
                (RT.ok (AV.sc true (Value.int IntKind.i64 170)))))
            (RT.ok (AV.sc true (Value.int IntKind.i64 170)))))
        (RT.ok (AV.sc true (Value.int IntKind.i64 170)))) := by kernel_rfl
theorem rlis_tree (a b c e f g h st id rq : Int) (d : D) (ct tm nk mg pr mu pe ne : Int) : treeF (evF Tryz.prog (gam (autG Tryz.prog)) (lam ([])) 100 17) [cfgA a b c e f g h, lcpA st id rq d ct tm nk mg pr mu pe ne] =
    RT.br (!fitsB a b c e f g h) (RT.ok (AV.sc true (Value.bool false)))
      (RT.br (decide (1 ≤ mg))
        (RT.br (!decide (mg ≤ 4294967295)) (RT.ok (AV.sc true (Value.bool false)))
          (RT.br (decide (0 ≤ pr))
            (RT.br (!decide (pr ≤ 4294967295)) (RT.ok (AV.sc true (Value.bool false)))
              (RT.br (decide (128 ≤ mu))
                (RT.br (!decide (mu ≤ 1492)) (RT.ok (AV.sc true (Value.bool false)))
                  (RT.br (decide (0 ≤ pe))
                    (RT.br (!decide (pe ≤ 1000)) (RT.ok (AV.sc true (Value.bool false)))
                      (RT.br (!setB mg (othR mg) b c e f) (RT.ok (AV.sc true (Value.bool false)))
                        (RT.br (!soundB st id rq d ct tm nk) (RT.ok (AV.sc true (Value.bool false)))
                          (RT.br (ne == 0) (RT.ok (AV.sc true (Value.bool true)))
                            (RT.br (st == 9)
                              (RT.br (g != 0)
                                (RT.br (decide (1 ≤ ne)) (RT.ok (AV.sc false (Value.bool (decide (ne ≤ 1099512676352)))))
                                  (RT.ok (AV.sc true (Value.bool false))))
                                (RT.ok (AV.sc true (Value.bool false))))
                              (RT.ok (AV.sc true (Value.bool false))))))))
                    (RT.ok (AV.sc true (Value.bool false)))))
                (RT.ok (AV.sc true (Value.bool false)))))
            (RT.ok (AV.sc true (Value.bool false)))))
        (RT.ok (AV.sc true (Value.bool false)))) := by kernel_rfl
/-! The other number. -/
theorem xor_one (n : Nat) : n ^^^ 1 = if n % 2 = 0 then n + 1 else n - 1 := by
  have h1 : (n ^^^ 1) / 2 = n / 2 := by rw [Nat.xor_div_two]; simp
  have h2 : (n ^^^ 1) % 2 = (n + 1) % 2 := by
    have := Nat.xor_mod_two_pow (a := n) (b := 1) (n := 1)
    rw [show 2 ^ 1 = 2 from rfl] at this
    rw [this]
    rcases Nat.mod_two_eq_zero_or_one n with h | h
    · rw [h]; show 1 = _; omega
    · rw [h]; show 0 = _; omega
  split <;> omega
theorem othX_eq {m : Int} (h1 : -1099511627776 < m) (h2 : m < 1099511627776) : othX m = if m % 2 = 0 then m + 1 else m - 1 := by
  unfold othX
  rw [BitVec.toNat_xor]
  have e1 : (BitVec.ofInt 64 1).toNat = 1 := by decide
  have e2 : (BitVec.ofInt 64 m).toNat = (m % 18446744073709551616).toNat := by rw [BitVec.toNat_ofInt]; rfl
  have hk : ((m % 18446744073709551616).toNat : Int) = m % 18446744073709551616 := Int.toNat_of_nonneg (by omega)
  rw [e1, e2, xor_one, IntWalk.i64_left]
  generalize (m % 18446744073709551616).toNat = k at hk ⊢
  unfold wrap64
  split <;> split <;> omega
theorem othY_eq {m : Int} (h1 : -1099511627776 < m) (h2 : m < 1099511627776) : othY m = if m % 2 = 0 then m + 1 else m - 1 := by
  unfold othY
  rw [IntWalk.i64_left, IntWalk.i64_left]
  unfold wrap64
  have : m.tmod 2 = 0 ↔ m % 2 = 0 := by rw [← Int.dvd_iff_tmod_eq_zero, Int.dvd_iff_emod_eq_zero]
  split <;> split <;> omega
theorem oth_same {m : Int} (h1 : -1099511627776 < m) (h2 : m < 1099511627776) : othP m = othR m := by
  unfold othP othR; rw [othX_eq h1 h2, othY_eq h1 h2]
theorem oth_may {m : Int} (h1 : 1 ≤ m) (h2 : m ≤ 4294967295) : rulesB m (othP m) = true ∧ rulesB m (othR m) = true := by
  rw [← oth_same (by omega) (by omega)]
  refine (and_self_iff).2 ?_
  unfold othP rulesB
  rw [othX_eq (by omega) (by omega)]
  apply decide_eq_true
  split <;> split <;> omega
end
end Go.Proofs.YtcambhbmobepjaaGreat
