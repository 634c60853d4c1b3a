/- Ke2: the page's example, whole; what a ProtRej tells of. No condition. -/
import Derived.Test.YtcambhbmobepjaaGreatKe1
namespace Go.Proofs.YtcambhbmobepjaaGreat
set_option linter.unusedSimpArgs false
set_option linter.unusedVariables false
open Go.RowKit
set_option maxRecDepth 100000
noncomputable section

-- DEFS
def awkG2 (P : Program) : List (FuncId × Spec) :=
  [(9, memoS P 9 mNewK mNewR (evF P (gam (awkG P)) (lam []) 100 9)),
   (50, memoS P 50 mDo1K mDo1R (memoS P 50 mDo2K mDo2R (evF P (gam (awkG P)) (lam []) 100 50)))]
-- END
theorem awkE_ok (f : FuncId) : SoundF Tryz.prog f (evF Tryz.prog (gam (awkG Tryz.prog)) (lam []) 100 f) := evF_ok mixed (gam_ok awkG_ok) (lam_ok (l := []) trivial) 100 f
theorem awkG2_ok : GamL Tryz.prog (awkG2 Tryz.prog) := ⟨memo_ok (awkE_ok _) (awkE_ok _) mNew, memo_ok (memo_ok (awkE_ok _) (awkE_ok _) mDo2) (awkE_ok _) mDo1, trivial⟩
def mAwkK : List AV := []
def mAwkR : AV :=
    (AV.sc true (Value.bool true))
theorem mAwk : okV (treeR (evF Tryz.prog (gam (awkG2 Tryz.prog)) (lam ([])) 100 21) mAwkK) = some mAwkR := by kernel_rfl
theorem rej_tree (c i : Int) (d : D) : treeF (evF Tryz.prog (gam ([])) (lam ([])) 100 14) [.agg [ai c, ai i, asl byS d]] =
    RT.br (decide ((↑(D.len d) : Int) < 2))
      (RT.ok (AV.tup [AV.sc true (Value.int IntKind.i64 0), AV.sc true (Value.bool false)]))
      (RT.br (decide ((0 : Int) ≤ 0 ∧ 0 < (↑(D.len d) : Int)))
        (RT.br true
          (RT.br (decide ((0 : Int) ≤ 1 ∧ 1 < (↑(D.len d) : Int)))
            (RT.br
              (decide
                ((0 : Int) ≤ 2 ∧
                  2 ≤ (↑(D.len d) : Int) ∧
                    (↑(D.len d) : Int) ≤ (↑(D.len d) : Int) ∧ (↑(D.len d) : Int) ≤ (↑(D.len d) : Int)))
              (RT.br (c != 8) (RT.ok (AV.tup [AV.sc true (Value.int IntKind.i64 0), AV.sc true (Value.bool false)]))
                (RT.ok
                  (AV.tup
                    [AV.sc false
                        (Value.int IntKind.i64
                          (IntKind.wrap IntKind.i64
                            (IntKind.wrap IntKind.u64
                              (↑(BitVec.toNat
                                    (BitVec.ofInt (IntKind.bits IntKind.u64)
                                        (IntKind.wrap IntKind.u64
                                          (IntKind.wrap IntKind.u64
                                              (↑(BitVec.toNat
                                                    (BitVec.ofInt (IntKind.bits IntKind.u64)
                                                        (IntKind.wrap IntKind.u64
                                                          (0 * 2 ^ min (Int.toNat 8) (IntKind.bits IntKind.u64))) |||
                                                      BitVec.ofInt (IntKind.bits IntKind.u64)
                                                        (IntKind.wrap IntKind.u64
                                                          (D.toI (D.cell (D.get d (Int.toNat 0)) 0))))) :
                                                Int) *
                                            2 ^ min (Int.toNat 8) (IntKind.bits IntKind.u64))) |||
                                      BitVec.ofInt (IntKind.bits IntKind.u64)
                                        (IntKind.wrap IntKind.u64
                                          (D.toI (D.cell (D.get d (Int.toNat (IntKind.wrap IntKind.i64 (0 + 1)))) 0))))) :
                                Int)))),
                      AV.sc true (Value.bool true)])))
              (RT.bad 37))
            (RT.bad 42))
          (RT.bad 25))
        (RT.bad 42)) := by kernel_rfl
theorem rrej_tree (c i : Int) (d : D) : treeF (evF Tryz.prog (gam ([])) (lam ([])) 100 15) [.agg [ai c, ai i, asl byS d]] =
    RT.br (c != 8) (RT.ok (AV.tup [AV.sc true (Value.int IntKind.i64 0), AV.sc true (Value.bool false)]))
      (RT.br (decide ((↑(D.len d) : Int) < 2))
        (RT.ok (AV.tup [AV.sc true (Value.int IntKind.i64 0), AV.sc true (Value.bool false)]))
        (RT.br (decide ((0 : Int) ≤ 0 ∧ 0 < (↑(D.len d) : Int)))
          (RT.br (decide ((0 : Int) ≤ 1 ∧ 1 < (↑(D.len d) : Int)))
            (RT.ok
              (AV.tup
                [AV.sc false
                    (Value.int IntKind.i64
                      (IntKind.wrap IntKind.i64
                        (IntKind.wrap IntKind.i64 (256 * IntKind.wrap IntKind.i64 (D.toI (D.cell (D.get d 0) 0))) +
                          IntKind.wrap IntKind.i64 (D.toI (D.cell (D.get d 1) 0))))),
                  AV.sc true (Value.bool true)]))
            (RT.bad 42))
          (RT.bad 42))) := by kernel_rfl
end
end Go.Proofs.YtcambhbmobepjaaGreat
