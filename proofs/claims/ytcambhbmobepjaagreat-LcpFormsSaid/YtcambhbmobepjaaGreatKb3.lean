/- Kb3: opts.Encode's contract; the reference's loops. No condition. -/
import Derived.Test.YtcambhbmobepjaaGreatKb2
namespace Go.Proofs.YtcambhbmobepjaaGreat
set_option linter.unusedSimpArgs false
set_option linter.unusedVariables false
open Go.RowKit
set_option maxRecDepth 100000
noncomputable section

def FEnc : List AV → RT AV
  | [.sl false [.int .i64, .sl [.int .u8]] d none] => .ok (.tup [asl byS (encO d), ai (encE d)])
  | _ => .bad 205
theorem encE_many {d : D} (h : 64 < d.len) : encE d = 3 := by unfold encE; rw [if_pos h]
theorem encE_bad {d : D} (h : ¬ 64 < d.len) (h2 : okFrom (optOk d) d.len 0 = false) : encE d = 80 := by unfold encE; rw [if_neg h, h2]; rfl
theorem encE_long {d : D} (h : ¬ 64 < d.len) (h2 : okFrom (optOk d) d.len 0 = true) (h3 : 1488 < (encP d d.len).len) : encE d = 2 := by unfold encE; rw [if_neg h, h2, if_pos rfl, if_pos h3]
theorem encE_ok {d : D} (h : ¬ 64 < d.len) (h2 : okFrom (optOk d) d.len 0 = true) (h3 : ¬ 1488 < (encP d d.len).len) : encE d = 0 := by unfold encE; rw [if_neg h, h2, if_pos rfl, if_neg h3]
theorem encO_none {d : D} (h : encE d ≠ 0) : encO d = .l [] := by unfold encO; rw [if_neg h]
theorem encO_some {d : D} (h : encE d = 0) : encO d = encP d d.len := by unfold encO; rw [if_pos h]
theorem le_two {a b c d : AV} (h1 : Le a c) (h2 : Le b d) : Le (.tup [a, b]) (.tup [c, d]) := le_tup (leL_cons h1 (leL_cons h2 leL_nil))
theorem le_enc {d : D} {kn : Bool} {e : Int} (h : encE d = e) (he : e ≠ 0) {kn' : Bool} : Le (.tup [.sc kn (.slice none 0 0), .sc kn' (.int .i64 e)]) (.tup [asl byS (encO d), ai (encE d)]) :=
  le_two (le_nil (by rw [encO_none (by rw [h]; exact he)]; exact nil_len)) (le_int h.symm)
theorem le_encok {d : D} (h : encE d = 0) {kn kn' : Bool} {tip : Option (Nat × Nat)} : Le (.tup [.sl kn byS (encP d d.len) tip, .sc kn' (.int .i64 0)]) (.tup [asl byS (encO d), ai (encE d)]) :=
  le_two (le_sl (by rw [encO_some h]) fun i _ => by rw [encO_some h]; exact eqEl_refl _ _ _) (le_int h.symm)
theorem encode_soundF : SoundF Tryz.prog 78 (pureS Tryz.prog 78 FEnc) := by
  refine pure_in (gs := []) (ls := encLs Tryz.prog) mixed trivial encLs_ok 78 100 fun args K ho H => ?_
  unfold FEnc at H
  split at H
  · rename_i d
    rw [enc_tree]
    refine ⟨fun h1 => ?_, fun h1 => ⟨fun h2 => ⟨fun h3 => ⟨fun h4 => ?_, fun h4 => ?_⟩, fun h3 => ?_⟩, fun h2 => ?_⟩⟩
    · exact ⟨_, le_enc (encE_many (by have := of_decide_eq_true h1; omega)) (by decide), H⟩
    · have h1 := of_decide_eq_false h1
      exact ⟨_, le_enc (encE_long (by omega) h3 (by have := of_decide_eq_true h4; omega)) (by decide), H⟩
    · have h1 := of_decide_eq_false h1
      exact ⟨_, le_encok (encE_ok (by omega) h3 (by have := of_decide_eq_false h4; omega)), H⟩
    · have h1 := of_decide_eq_false h1
      exact ⟨_, le_enc (encE_bad (by omega) h3) (by decide), H⟩
    · have h1 := of_decide_eq_false h1
      have h2 := of_decide_eq_false h2
      exact absurd ⟨rfl, Nat.zero_le _, by omega, rfl⟩ h2
  · exact H.elim
/-! The reference's. -/
-- DEFS
def ren1L : Lw := ⟨[0, 2, 3, 4], [], 0, 0, 1000, 1000⟩
def ren1F (d : D) (e : Int) (i : Nat) : Tm := ⟨56, [(0, asl opS d), (2, nf), (3, ai e), (4, ai i)], []⟩
def ren1H : Hp := ⟨[], 0, [], 0, 1000, 1000⟩
def ren2L : Lw := ⟨[0, 2, 3, 5, 6], [(false, 5, 0, 5)], 0, 1, 2000, 2000⟩
def ren2H : Hp := ⟨[], 0, [(0, 2000, 5)], 1, 2001, 2000⟩
-- END
-- STOPS: okFrom badFrom encP optOk
theorem ren1_body (d : D) (i : Int) : roundT (⟨[0, 2, 3, 4], [], 0, 0, 1000, 1000⟩) (evC Tryz.prog (gam ([])) (lam ([])) 100 81 (loopAt 0 (bodyOf Tryz.prog 81)) (⟨56, [(0, asl opS d), (2, nf), (3, ai 0), (4, ai i)], []⟩) (⟨[], 0, [], 0, 1000, 1000⟩)) =
    RT.br (decide (i < (↑(D.len d) : Int)))
      (RT.br (decide (0 ≤ i ∧ i < (↑(D.len d) : Int)))
        (RT.br (decide (0 ≤ D.toI (D.cell (D.get d (Int.toNat i)) 0)))
          (RT.br (decide (D.toI (D.cell (D.get d (Int.toNat i)) 0) ≤ 255))
            (RT.br (!decide ((↑(D.len (D.cell (D.get d (Int.toNat i)) 1)) : Int) ≤ 253))
              (RT.ok
                (Ex.ret,
                  { nt := 56,
                    tm :=
                      [(0, AV.sl false [Sh.int IntKind.i64, Sh.sl [Sh.int IntKind.u8]] d none),
                        (2, AV.sc false (Value.slice none 0 0)), (3, AV.sc false (Value.int IntKind.i64 80)),
                        (4, AV.sc false (Value.int IntKind.i64 i))],
                    df := [] },
                  { ob := [], nx := 0, gn := [], nv := 0, ng := 1000, ep := 1000 }))
              (RT.ok
                (Ex.normal,
                  { nt := 56,
                    tm :=
                      [(0, AV.sl false [Sh.int IntKind.i64, Sh.sl [Sh.int IntKind.u8]] d none),
                        (2, AV.sc false (Value.slice none 0 0)), (3, AV.sc false (Value.int IntKind.i64 0)),
                        (4, AV.sc false (Value.int IntKind.i64 (IntKind.wrap IntKind.i64 (i + 1))))],
                    df := [] },
                  { ob := [], nx := 0, gn := [], nv := 0, ng := 1000, ep := 1000 })))
            (RT.ok
              (Ex.ret,
                { nt := 56,
                  tm :=
                    [(0, AV.sl false [Sh.int IntKind.i64, Sh.sl [Sh.int IntKind.u8]] d none),
                      (2, AV.sc false (Value.slice none 0 0)), (3, AV.sc false (Value.int IntKind.i64 80)),
                      (4, AV.sc false (Value.int IntKind.i64 i))],
                  df := [] },
                { ob := [], nx := 0, gn := [], nv := 0, ng := 1000, ep := 1000 })))
          (RT.ok
            (Ex.ret,
              { nt := 56,
                tm :=
                  [(0, AV.sl false [Sh.int IntKind.i64, Sh.sl [Sh.int IntKind.u8]] d none),
                    (2, AV.sc false (Value.slice none 0 0)), (3, AV.sc false (Value.int IntKind.i64 80)),
                    (4, AV.sc false (Value.int IntKind.i64 i))],
                df := [] },
              { ob := [], nx := 0, gn := [], nv := 0, ng := 1000, ep := 1000 })))
        (RT.bad 42))
      (RT.ok
        (Ex.exit 0,
          { nt := 56,
            tm :=
              [(0, AV.sl false [Sh.int IntKind.i64, Sh.sl [Sh.int IntKind.u8]] d none),
                (2, AV.sc false (Value.slice none 0 0)), (3, AV.sc false (Value.int IntKind.i64 0)),
                (4, AV.sc false (Value.int IntKind.i64 i))],
            df := [] },
          { ob := [], nx := 0, gn := [], nv := 0, ng := 1000, ep := 1000 })) := by kernel_rfl
theorem ren2_body (d out : D) (i : Int) : roundT (⟨[0, 2, 3, 5, 6], [(false, 5, 0, 5)], 0, 1, 2000, 2000⟩) (evC Tryz.prog (gam ([])) (lam ([])) 100 81 (loopAt 2 (bodyOf Tryz.prog 81)) (⟨56, [(0, asl opS d), (2, nf), (3, ai 0), (5, sh byS out 0 2000), (6, ai i)], []⟩) (⟨[], 0, [(0, 2000, 5)], 1, 2001, 2000⟩)) =
    RT.br (decide (i < (↑(D.len d) : Int)))
      (RT.br (decide (0 ≤ i ∧ i < (↑(D.len d) : Int)))
        (RT.br (decide (0 ≤ i ∧ i < (↑(D.len d) : Int)))
          (RT.br (decide ((D.len out + 2) * 1 ≤ 140737488355328))
            (RT.br (decide (0 ≤ i ∧ i < (↑(D.len d) : Int)))
              (RT.br
                (decide
                  ((D.len
                          (D.app out
                            (D.l
                              [D.t [D.i (IntKind.wrap IntKind.u8 (D.toI (D.cell (D.get d (Int.toNat i)) 0)))],
                                D.t
                                  [D.i
                                      (IntKind.wrap IntKind.u8
                                        (IntKind.wrap IntKind.i64
                                          ((↑(D.len (D.cell (D.get d (Int.toNat i)) 1)) : Int) + 2)))]])) +
                        D.len (D.cell (D.get d (Int.toNat i)) 1)) *
                      1 ≤
                    140737488355328))
                (RT.ok
                  (Ex.normal,
                    { nt := 56,
                      tm :=
                        [(0, AV.sl false [Sh.int IntKind.i64, Sh.sl [Sh.int IntKind.u8]] d none),
                          (2, AV.sc false (Value.slice none 0 0)), (3, AV.sc false (Value.int IntKind.i64 0)),
                          (5,
                            AV.sl false [Sh.int IntKind.u8]
                              (D.app
                                (D.app out
                                  (D.l
                                    [D.t [D.i (IntKind.wrap IntKind.u8 (D.toI (D.cell (D.get d (Int.toNat i)) 0)))],
                                      D.t
                                        [D.i
                                            (IntKind.wrap IntKind.u8
                                              (IntKind.wrap IntKind.i64
                                                ((↑(D.len (D.cell (D.get d (Int.toNat i)) 1)) : Int) + 2)))]]))
                                (D.cell (D.get d (Int.toNat i)) 1))
                              (some (0, 2000))),
                          (6, AV.sc false (Value.int IntKind.i64 (IntKind.wrap IntKind.i64 (i + 1))))],
                      df := [] },
                    { ob := [], nx := 0, gn := [(0, 2000, 5)], nv := 1, ng := 2001, ep := 2000 }))
                (RT.bad 70))
              (RT.bad 42))
            (RT.bad 70))
          (RT.bad 42))
        (RT.bad 42))
      (RT.ok
        (Ex.exit 2,
          { nt := 56,
            tm :=
              [(0, AV.sl false [Sh.int IntKind.i64, Sh.sl [Sh.int IntKind.u8]] d none),
                (2, AV.sc false (Value.slice none 0 0)), (3, AV.sc false (Value.int IntKind.i64 0)),
                (5, AV.sl false [Sh.int IntKind.u8] out (some (0, 2000))), (6, AV.sc false (Value.int IntKind.i64 i))],
            df := [] },
          { ob := [], nx := 0, gn := [(0, 2000, 5)], nv := 1, ng := 2001, ep := 2000 })) := by kernel_rfl
end
end Go.Proofs.YtcambhbmobepjaaGreat
