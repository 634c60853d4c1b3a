/- Kb1: opts.Encode. No condition. -/
import Derived.Test.YtcambhbmobepjaaGreatKa4
namespace Go.Proofs.YtcambhbmobepjaaGreat
set_option linter.unusedSimpArgs false
set_option linter.unusedVariables false
open Go.RowKit
set_option maxRecDepth 100000
noncomputable section

-- DEFS
abbrev nf : AV := .sc false (.slice none 0 0)
/-- all of so many, from one on -/
def okFrom (p : Nat → Bool) : Nat → Nat → Bool
  | 0, _ => true
  | n + 1, i => p i && okFrom p n (i + 1)
def badFrom (p : Nat → Bool) : Nat → Nat → Nat
  | 0, i => i
  | n + 1, i => if p i then badFrom p n (i + 1) else i
-- END
-- STOPS: okFrom badFrom
theorem okFrom_iff {p : Nat → Bool} : ∀ {n i : Nat}, okFrom p n i = true ↔ ∀ j, i ≤ j → j < i + n → p j = true
  | 0, i => by simp [okFrom]; omega
  | n + 1, i => by
    simp only [okFrom, Bool.and_eq_true, okFrom_iff (n := n) (i := i + 1)]
    exact ⟨fun ⟨h1, h2⟩ j hj hj2 => by
      by_cases e : j = i
      · rw [e]; exact h1
      · exact h2 j (by omega) (by omega), fun h => ⟨h i (by omega) (by omega), fun j h1 h2 => h j (by omega) (by omega)⟩⟩
theorem okFrom_snoc {p : Nat → Bool} {n : Nat} (h : okFrom p n 0 = true) (hp : p n = true) : okFrom p (n + 1) 0 = true := by
  rw [okFrom_iff] at h ⊢
  intro j _ hj
  by_cases e : j = n
  · rw [e]; exact hp
  · exact h j (by omega) (by omega)
theorem okFrom_false {p : Nat → Bool} {n i j : Nat} (h1 : i ≤ j) (h2 : j < i + n) (hp : p j = false) : okFrom p n i = false := by
  cases h : okFrom p n i
  · rfl
  · rw [okFrom_iff] at h
    have := h j h1 h2
    rw [hp] at this; cases this
theorem okFrom_join {p : Nat → Bool} {n m : Nat} (h : okFrom p n 0 = true) (h2 : okFrom p m n = true) : okFrom p (n + m) 0 = true := by
  rw [okFrom_iff] at h h2 ⊢
  intro j _ hj
  by_cases e : j < n
  · exact h j (by omega) (by omega)
  · exact h2 j (by omega) (by omega)
theorem badFrom_cons {p : Nat → Bool} {n i : Nat} (hp : p i = true) : badFrom p (n + 1) i = badFrom p n (i + 1) := by simp [badFrom, hp]
theorem badFrom_here {p : Nat → Bool} {n i : Nat} (hp : p i = false) : badFrom p (n + 1) i = i := by simp [badFrom, hp]
/-! Options' bytes. -/
def optT (d : D) (i : Nat) : Int := ((d.get i).cell 0).toI
def optB (d : D) (i : Nat) : D := (d.get i).cell 1
def optOk (d : D) (i : Nat) : Bool := decide (0 ≤ optT d i ∧ optT d i ≤ 255 ∧ (optB d i).len ≤ 253)
def headD (d : D) (i : Nat) : D := .l [.t [.i (IntKind.u8.wrap (optT d i))], .t [.i (IntKind.u8.wrap (IntKind.i64.wrap (((optB d i).len : Int) + 2)))]]
def encP (d : D) : Nat → D
  | 0 => .l []
  | i + 1 => ((encP d i).app (headD d i)).app (optB d i)
def encE (d : D) : Int := if 64 < d.len then 3 else if okFrom (optOk d) d.len 0 then (if 1488 < (encP d d.len).len then 2 else 0) else 80
def encO (d : D) : D := if encE d = 0 then encP d d.len else .l []
theorem nil_len : (D.l []).len = 0 := by simp [D.len, D.toL, D.raw]
theorem head_len (d : D) (i : Nat) : (headD d i).len = 2 := by
  unfold D.len headD
  rw [toL_l (by simp; unfold maxLen; omega)]; rfl
theorem enc_len {d : D} : ∀ {i : Nat}, i ≤ 64 → okFrom (optOk d) i 0 = true → (encP d i).len ≤ 255 * i
  | 0, _, _ => by simp [encP, nil_len]
  | i + 1, hi, h => by
    have h' := okFrom_iff.1 h
    have ih := enc_len (d := d) (i := i) (by omega) (okFrom_iff.2 fun j h1 h2 => h' j h1 (by omega))
    have ho := of_decide_eq_true (h' i (by omega) (by omega))
    simp only [encP]
    have e1 : ((encP d i).app (headD d i)).len = (encP d i).len + 2 := by rw [app_len (by rw [head_len]; unfold maxLen; omega), head_len]
    rw [app_len (by rw [e1]; unfold maxLen; omega), e1]
    omega
def encL : Lw := ⟨[2, 3, 4, 10, 11, 12], [(false, 4, 0, 5)], 0, 1, 1000, 1000⟩
def encF (d : D) (n : Int) (i : Nat) : Tm := ⟨45, [(2, nf), (3, ai 0), (4, sh byS (encP d i) 0 1000), (10, asl opS d), (11, ai n), (12, ai i)], []⟩
def encR (d : D) (n : Int) (i : Nat) : Tm := ⟨45, [(2, nf), (3, ai 80), (4, sh byS (encP d i) 0 1000), (10, asl opS d), (11, ai n), (12, ai i)], []⟩
def encH : Hp := ⟨[], 0, [(0, 1000, 5)], 1, 1001, 1000⟩
theorem enc_body (d out : D) (n i : Int) : roundT (⟨[2, 3, 4, 10, 11, 12], [(false, 4, 0, 5)], 0, 1, 1000, 1000⟩) (evC Tryz.prog (gam ([])) (lam ([])) 100 78 (loopAt 0 (bodyOf Tryz.prog 78)) (⟨45, [(2, nf), (3, ai 0), (4, sh byS out 0 1000), (10, asl opS d), (11, ai n), (12, ai i)], []⟩) (⟨[], 0, [(0, 1000, 5)], 1, 1001, 1000⟩)) =
    RT.br (decide (i < n))
      (RT.br (decide (0 ≤ i ∧ i < (↑(D.len d) : Int)))
        (RT.br (decide (0 ≤ D.toI (D.cell (D.get d (Int.toNat i)) 0)))
          (RT.br (!decide (D.toI (D.cell (D.get d (Int.toNat i)) 0) ≤ 255))
            (RT.ok
              (Ex.ret,
                { nt := 45,
                  tm :=
                    [(2, AV.sc false (Value.slice none 0 0)), (3, AV.sc false (Value.int IntKind.i64 80)),
                      (4, AV.sl false [Sh.int IntKind.u8] out (some (0, 1000))),
                      (10, AV.sl false [Sh.int IntKind.i64, Sh.sl [Sh.int IntKind.u8]] d none),
                      (11, AV.sc false (Value.int IntKind.i64 n)), (12, AV.sc false (Value.int IntKind.i64 i))],
                  df := [] },
                { ob := [], nx := 0, gn := [(0, 1000, 5)], nv := 1, ng := 1001, ep := 1000 }))
            (RT.br (decide (253 < (↑(D.len (D.cell (D.get d (Int.toNat i)) 1)) : Int)))
              (RT.ok
                (Ex.ret,
                  { nt := 45,
                    tm :=
                      [(2, AV.sc false (Value.slice none 0 0)), (3, AV.sc false (Value.int IntKind.i64 80)),
                        (4, AV.sl false [Sh.int IntKind.u8] out (some (0, 1000))),
                        (10, AV.sl false [Sh.int IntKind.i64, Sh.sl [Sh.int IntKind.u8]] d none),
                        (11, AV.sc false (Value.int IntKind.i64 n)), (12, AV.sc false (Value.int IntKind.i64 i))],
                    df := [] },
                  { ob := [], nx := 0, gn := [(0, 1000, 5)], nv := 1, ng := 1001, ep := 1000 }))
              (RT.br (decide ((D.len out + 2) * 1 ≤ 140737488355328))
                (RT.br
                  (decide
                    ((D.len
                            (D.app out
                              (D.l
                                [D.t [D.i (IntKind.wrap IntKind.u8 (D.toI (D.cell (D.get d (Int.toNat i)) 0)))],
                                  D.t
                                    [D.i
                                        (IntKind.wrap IntKind.u8
                                          (IntKind.wrap IntKind.i64
                                            ((↑(D.len (D.cell (D.get d (Int.toNat i)) 1)) : Int) + 2)))]])) +
                          D.len (D.cell (D.get d (Int.toNat i)) 1)) *
                        1 ≤
                      140737488355328))
                  (RT.ok
                    (Ex.normal,
                      { nt := 45,
                        tm :=
                          [(2, AV.sc false (Value.slice none 0 0)), (3, AV.sc false (Value.int IntKind.i64 0)),
                            (4,
                              AV.sl false [Sh.int IntKind.u8]
                                (D.app
                                  (D.app out
                                    (D.l
                                      [D.t [D.i (IntKind.wrap IntKind.u8 (D.toI (D.cell (D.get d (Int.toNat i)) 0)))],
                                        D.t
                                          [D.i
                                              (IntKind.wrap IntKind.u8
                                                (IntKind.wrap IntKind.i64
                                                  ((↑(D.len (D.cell (D.get d (Int.toNat i)) 1)) : Int) + 2)))]]))
                                  (D.cell (D.get d (Int.toNat i)) 1))
                                (some (0, 1000))),
                            (10, AV.sl false [Sh.int IntKind.i64, Sh.sl [Sh.int IntKind.u8]] d none),
                            (11, AV.sc false (Value.int IntKind.i64 n)),
                            (12, AV.sc false (Value.int IntKind.i64 (IntKind.wrap IntKind.i64 (i + 1))))],
                        df := [] },
                      { ob := [], nx := 0, gn := [(0, 1000, 5)], nv := 1, ng := 1001, ep := 1000 }))
                  (RT.bad 70))
                (RT.bad 70))))
          (RT.ok
            (Ex.ret,
              { nt := 45,
                tm :=
                  [(2, AV.sc false (Value.slice none 0 0)), (3, AV.sc false (Value.int IntKind.i64 80)),
                    (4, AV.sl false [Sh.int IntKind.u8] out (some (0, 1000))),
                    (10, AV.sl false [Sh.int IntKind.i64, Sh.sl [Sh.int IntKind.u8]] d none),
                    (11, AV.sc false (Value.int IntKind.i64 n)), (12, AV.sc false (Value.int IntKind.i64 i))],
                df := [] },
              { ob := [], nx := 0, gn := [(0, 1000, 5)], nv := 1, ng := 1001, ep := 1000 })))
        (RT.bad 42))
      (RT.ok
        (Ex.exit 0,
          { nt := 45,
            tm :=
              [(2, AV.sc false (Value.slice none 0 0)), (3, AV.sc false (Value.int IntKind.i64 0)),
                (4, AV.sl false [Sh.int IntKind.u8] out (some (0, 1000))),
                (10, AV.sl false [Sh.int IntKind.i64, Sh.sl [Sh.int IntKind.u8]] d none),
                (11, AV.sc false (Value.int IntKind.i64 n)), (12, AV.sc false (Value.int IntKind.i64 i))],
            df := [] },
          { ob := [], nx := 0, gn := [(0, 1000, 5)], nv := 1, ng := 1001, ep := 1000 })) := by kernel_rfl
end
end Go.Proofs.YtcambhbmobepjaaGreat
