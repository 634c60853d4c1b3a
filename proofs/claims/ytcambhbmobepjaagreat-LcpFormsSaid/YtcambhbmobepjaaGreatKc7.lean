/- Kc7: new controls. No condition. -/
import Derived.Test.YtcambhbmobepjaaGreatKc6
namespace Go.Proofs.YtcambhbmobepjaaGreat
set_option linter.unusedSimpArgs false
set_option linter.unusedVariables false
open Go.RowKit
set_option maxRecDepth 100000
noncomputable section

-- DEFS
/-- where the structure of what is handed in is known, by the function's own code -/
def cloA (P : Program) : Spec := altS head1 (evF P (gam []) (lam []) 100 98) (pureS P 98 FCloneB)
def cloAG (P : Program) : List (FuncId × Spec) := [(98, cloA P)]
def copA (P : Program) : Spec := altS head1 (evF P (gam (cloAG P)) (lam []) 100 79) (pureS P 79 FCopied)
def encA (P : Program) : Spec := altS head1 (evF P (gam []) (lam []) 100 78) (pureS P 78 FEnc)
def rencA (P : Program) : Spec := altS head1 (evF P (gam []) (lam []) 100 81) (pureS P 81 FEnc)
def newG (P : Program) : List (FuncId × Spec) := [(35, pureS P 35 FFits), (39, pureS P 39 FFits),
  (78, encA P), (81, rencA P),
  (38, pureS P 38 FPut), (42, pureS P 42 FPut),
  (79, copA P)]
-- END
-- STOPS: encE encO
theorem cloA_ok : SoundF Tryz.prog 98 (cloA Tryz.prog) := alt_ok (evF_ok mixed (gam_ok (l := []) trivial) (lam_ok (l := []) trivial) 100 _) cloneb_soundF
theorem cloAG_ok : GamL Tryz.prog (cloAG Tryz.prog) := ⟨cloA_ok, trivial⟩
theorem copA_ok : SoundF Tryz.prog 79 (copA Tryz.prog) := alt_ok (evF_ok mixed (gam_ok cloAG_ok) (lam_ok (l := []) trivial) 100 _) copied_soundF
theorem encA_ok : SoundF Tryz.prog 78 (encA Tryz.prog) := alt_ok (evF_ok mixed (gam_ok (l := []) trivial) (lam_ok (l := []) trivial) 100 _) encode_soundF
theorem rencA_ok : SoundF Tryz.prog 81 (rencA Tryz.prog) := alt_ok (evF_ok mixed (gam_ok (l := []) trivial) (lam_ok (l := []) trivial) 100 _) rencode_soundF
theorem newG_ok : GamL Tryz.prog (newG Tryz.prog) := ⟨fits_soundF, isconf_soundF, encA_ok, rencA_ok, put_soundF, rput_soundF, copA_ok, trivial⟩
theorem new_tree (a b c e f g h m : Int) : treeF (evF Tryz.prog (gam (newG Tryz.prog)) (lam ([])) 100 9) [cfgA a b c e f g h, ai m] =
    RT.br (!fitsB a b c e f g h)
      (RT.ok
        (AV.tup
          [AV.agg
              [AV.sc true (Value.int IntKind.i64 0), AV.sc true (Value.int IntKind.i64 0),
                AV.sc true (Value.int IntKind.i64 0), AV.sc true (Value.slice none 0 0),
                AV.sc true (Value.int IntKind.i64 0), AV.sc true (Value.int IntKind.i64 0),
                AV.sc true (Value.int IntKind.i64 0), AV.sc true (Value.int IntKind.i64 0),
                AV.sc true (Value.int IntKind.i64 0), AV.sc true (Value.int IntKind.i64 0),
                AV.sc true (Value.int IntKind.i64 0), AV.sc true (Value.int IntKind.i64 0)],
            AV.sc true (Value.int IntKind.i64 170)]))
      (RT.br (decide (1 ≤ m))
        (RT.br (!decide (m ≤ 4294967295))
          (RT.ok
            (AV.tup
              [AV.agg
                  [AV.sc true (Value.int IntKind.i64 0), AV.sc true (Value.int IntKind.i64 0),
                    AV.sc true (Value.int IntKind.i64 0), AV.sc true (Value.slice none 0 0),
                    AV.sc true (Value.int IntKind.i64 0), AV.sc true (Value.int IntKind.i64 0),
                    AV.sc true (Value.int IntKind.i64 0), AV.sc true (Value.int IntKind.i64 0),
                    AV.sc true (Value.int IntKind.i64 0), AV.sc true (Value.int IntKind.i64 0),
                    AV.sc true (Value.int IntKind.i64 0), AV.sc true (Value.int IntKind.i64 0)],
                AV.sc true (Value.int IntKind.i64 170)]))
          (RT.br (decide (0 ≤ IntKind.wrap IntKind.u64 a ∧ IntKind.wrap IntKind.u64 a < 18446744073709551616))
            (RT.br (decide (0 ≤ IntKind.wrap IntKind.u64 m ∧ IntKind.wrap IntKind.u64 m < 18446744073709551616))
              (RT.ok
                (AV.tup
                  [AV.agg
                      [AV.sc true (Value.int IntKind.i64 0), AV.sc true (Value.int IntKind.i64 0),
                        AV.sc true (Value.int IntKind.i64 0),
                        AV.sl true [Sh.int IntKind.i64, Sh.sl [Sh.int IntKind.u8]]
                          (D.app
                            (D.app (D.l [])
                              (D.l
                                [D.t
                                    [D.ki 1,
                                      D.kl
                                        [D.i (byI (IntKind.wrap IntKind.u64 a) 2 0),
                                          D.i (byI (IntKind.wrap IntKind.u64 a) 2 1)]]]))
                            (D.l
                              [D.t
                                  [D.ki 5,
                                    D.kl
                                      [D.i (byI (IntKind.wrap IntKind.u64 m) 4 0),
                                        D.i (byI (IntKind.wrap IntKind.u64 m) 4 1),
                                        D.i (byI (IntKind.wrap IntKind.u64 m) 4 2),
                                        D.i (byI (IntKind.wrap IntKind.u64 m) 4 3)]]]))
                          none,
                        AV.sc true (Value.int IntKind.i64 0), AV.sc true (Value.int IntKind.i64 0),
                        AV.sc true (Value.int IntKind.i64 0), AV.sc false (Value.int IntKind.i64 m),
                        AV.sc true (Value.int IntKind.i64 0), AV.sc true (Value.int IntKind.i64 1492),
                        AV.sc true (Value.int IntKind.i64 0), AV.sc true (Value.int IntKind.i64 0)],
                    AV.sc true (Value.int IntKind.i64 0)]))
              (RT.bad 200))
            (RT.bad 200)))
        (RT.ok
          (AV.tup
            [AV.agg
                [AV.sc true (Value.int IntKind.i64 0), AV.sc true (Value.int IntKind.i64 0),
                  AV.sc true (Value.int IntKind.i64 0), AV.sc true (Value.slice none 0 0),
                  AV.sc true (Value.int IntKind.i64 0), AV.sc true (Value.int IntKind.i64 0),
                  AV.sc true (Value.int IntKind.i64 0), AV.sc true (Value.int IntKind.i64 0),
                  AV.sc true (Value.int IntKind.i64 0), AV.sc true (Value.int IntKind.i64 0),
                  AV.sc true (Value.int IntKind.i64 0), AV.sc true (Value.int IntKind.i64 0)],
              AV.sc true (Value.int IntKind.i64 170)]))) := by kernel_rfl
theorem rnew_tree (a b c e f g h m : Int) : treeF (evF Tryz.prog (gam (newG Tryz.prog)) (lam ([])) 100 10) [cfgA a b c e f g h, ai m] =
    RT.br (!fitsB a b c e f g h)
      (RT.ok
        (AV.tup
          [AV.agg
              [AV.sc true (Value.int IntKind.i64 0), AV.sc true (Value.int IntKind.i64 0),
                AV.sc true (Value.int IntKind.i64 0), AV.sc true (Value.slice none 0 0),
                AV.sc true (Value.int IntKind.i64 0), AV.sc true (Value.int IntKind.i64 0),
                AV.sc true (Value.int IntKind.i64 0), AV.sc true (Value.int IntKind.i64 0),
                AV.sc true (Value.int IntKind.i64 0), AV.sc true (Value.int IntKind.i64 0),
                AV.sc true (Value.int IntKind.i64 0), AV.sc true (Value.int IntKind.i64 0)],
            AV.sc true (Value.int IntKind.i64 170)]))
      (RT.br (decide (1 ≤ m))
        (RT.br (!decide (m ≤ 4294967295))
          (RT.ok
            (AV.tup
              [AV.agg
                  [AV.sc true (Value.int IntKind.i64 0), AV.sc true (Value.int IntKind.i64 0),
                    AV.sc true (Value.int IntKind.i64 0), AV.sc true (Value.slice none 0 0),
                    AV.sc true (Value.int IntKind.i64 0), AV.sc true (Value.int IntKind.i64 0),
                    AV.sc true (Value.int IntKind.i64 0), AV.sc true (Value.int IntKind.i64 0),
                    AV.sc true (Value.int IntKind.i64 0), AV.sc true (Value.int IntKind.i64 0),
                    AV.sc true (Value.int IntKind.i64 0), AV.sc true (Value.int IntKind.i64 0)],
                AV.sc true (Value.int IntKind.i64 170)]))
          (RT.br (decide (0 ≤ IntKind.wrap IntKind.u64 a ∧ IntKind.wrap IntKind.u64 a < 18446744073709551616))
            (RT.br (decide (0 ≤ IntKind.wrap IntKind.u64 m ∧ IntKind.wrap IntKind.u64 m < 18446744073709551616))
              (RT.ok
                (AV.tup
                  [AV.agg
                      [AV.sc true (Value.int IntKind.i64 0), AV.sc true (Value.int IntKind.i64 0),
                        AV.sc true (Value.int IntKind.i64 0),
                        AV.sl true [Sh.int IntKind.i64, Sh.sl [Sh.int IntKind.u8]]
                          (D.l
                            [D.t
                                [D.ki 1,
                                  D.kl
                                    [D.i (byI (IntKind.wrap IntKind.u64 a) 2 0),
                                      D.i (byI (IntKind.wrap IntKind.u64 a) 2 1)]],
                              D.t
                                [D.ki 5,
                                  D.kl
                                    [D.i (byI (IntKind.wrap IntKind.u64 m) 4 0), D.i (byI (IntKind.wrap IntKind.u64 m) 4 1),
                                      D.i (byI (IntKind.wrap IntKind.u64 m) 4 2),
                                      D.i (byI (IntKind.wrap IntKind.u64 m) 4 3)]]])
                          none,
                        AV.sc true (Value.int IntKind.i64 0), AV.sc true (Value.int IntKind.i64 0),
                        AV.sc true (Value.int IntKind.i64 0), AV.sc false (Value.int IntKind.i64 m),
                        AV.sc true (Value.int IntKind.i64 0), AV.sc true (Value.int IntKind.i64 1492),
                        AV.sc true (Value.int IntKind.i64 0), AV.sc true (Value.int IntKind.i64 0)],
                    AV.sc true (Value.int IntKind.i64 0)]))
              (RT.bad 200))
            (RT.bad 200)))
        (RT.ok
          (AV.tup
            [AV.agg
                [AV.sc true (Value.int IntKind.i64 0), AV.sc true (Value.int IntKind.i64 0),
                  AV.sc true (Value.int IntKind.i64 0), AV.sc true (Value.slice none 0 0),
                  AV.sc true (Value.int IntKind.i64 0), AV.sc true (Value.int IntKind.i64 0),
                  AV.sc true (Value.int IntKind.i64 0), AV.sc true (Value.int IntKind.i64 0),
                  AV.sc true (Value.int IntKind.i64 0), AV.sc true (Value.int IntKind.i64 0),
                  AV.sc true (Value.int IntKind.i64 0), AV.sc true (Value.int IntKind.i64 0)],
              AV.sc true (Value.int IntKind.i64 170)]))) := by kernel_rfl
end
end Go.Proofs.YtcambhbmobepjaaGreat
