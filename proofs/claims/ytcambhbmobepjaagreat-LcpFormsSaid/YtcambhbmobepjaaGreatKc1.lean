/- Kc1: the same options. No condition. -/
import Derived.Test.YtcambhbmobepjaaGreatKb4
namespace Go.Proofs.YtcambhbmobepjaaGreat
set_option linter.unusedSimpArgs false
set_option linter.unusedVariables false
open Go.RowKit
set_option maxRecDepth 100000
noncomputable section

-- DEFS
def oneE (a b : D) (i : Nat) : Bool := ((a.get i).cell 0).toI == ((b.get i).cell 0).toI && (((a.get i).cell 1).str.toList == ((b.get i).cell 1).str.toList)
def sameO (a b : D) : Bool := decide (a.len = b.len) && okFrom (oneE a b) a.len 0
def rsaL : Lw := ⟨[0, 1, 4, 5], [], 0, 0, 1000, 1000⟩
def rsaF (a b : D) (i : Nat) : Tm := ⟨27, [(0, asl opS a), (1, asl opS b), (4, ab false), (5, ai i)], []⟩
def eqfL : Lw := ⟨[1, 2, 6, 15, 16, 17], [], 0, 0, 1000, 1000⟩
abbrev smeF : AV := .fn (.func 124) [] []
def eqfF (a b : D) (n : Int) (i : Nat) : Tm := ⟨32, [(1, asl opS b), (2, smeF), (6, ab false), (15, asl opS a), (16, ai n), (17, ai i)], []⟩
-- END
-- STOPS: okFrom badFrom encP optOk oneE
theorem rsa_body (a b : D) (i : Int) : roundT (⟨[0, 1, 4, 5], [], 0, 0, 1000, 1000⟩) (evC Tryz.prog (gam ([])) (lam ([])) 100 84 (loopAt 0 (bodyOf Tryz.prog 84)) (⟨27, [(0, asl opS a), (1, asl opS b), (4, ab false), (5, ai i)], []⟩) (⟨[], 0, [], 0, 1000, 1000⟩)) =
    RT.br (decide (i < (↑(D.len a) : Int)))
      (RT.br (decide (0 ≤ i ∧ i < (↑(D.len a) : Int)))
        (RT.br (decide (0 ≤ i ∧ i < (↑(D.len b) : Int)))
          (RT.br (D.toI (D.cell (D.get a (Int.toNat i)) 0) == D.toI (D.cell (D.get b (Int.toNat i)) 0))
            (RT.br
              (!ByteArray.toList (D.str (D.cell (D.get a (Int.toNat i)) (0 + 1))) ==
                  ByteArray.toList (D.str (D.cell (D.get b (Int.toNat i)) (0 + 1))))
              (RT.ok
                (Ex.ret,
                  { nt := 27,
                    tm :=
                      [(0, AV.sl false [Sh.int IntKind.i64, Sh.sl [Sh.int IntKind.u8]] a none),
                        (1, AV.sl false [Sh.int IntKind.i64, Sh.sl [Sh.int IntKind.u8]] b none),
                        (4, AV.sc false (Value.bool false)), (5, AV.sc false (Value.int IntKind.i64 i))],
                    df := [] },
                  { ob := [], nx := 0, gn := [], nv := 0, ng := 1000, ep := 1000 }))
              (RT.ok
                (Ex.normal,
                  { nt := 27,
                    tm :=
                      [(0, AV.sl false [Sh.int IntKind.i64, Sh.sl [Sh.int IntKind.u8]] a none),
                        (1, AV.sl false [Sh.int IntKind.i64, Sh.sl [Sh.int IntKind.u8]] b none),
                        (4, AV.sc false (Value.bool false)),
                        (5, AV.sc false (Value.int IntKind.i64 (IntKind.wrap IntKind.i64 (i + 1))))],
                    df := [] },
                  { ob := [], nx := 0, gn := [], nv := 0, ng := 1000, ep := 1000 })))
            (RT.ok
              (Ex.ret,
                { nt := 27,
                  tm :=
                    [(0, AV.sl false [Sh.int IntKind.i64, Sh.sl [Sh.int IntKind.u8]] a none),
                      (1, AV.sl false [Sh.int IntKind.i64, Sh.sl [Sh.int IntKind.u8]] b none),
                      (4, AV.sc false (Value.bool false)), (5, AV.sc false (Value.int IntKind.i64 i))],
                  df := [] },
                { ob := [], nx := 0, gn := [], nv := 0, ng := 1000, ep := 1000 })))
          (RT.bad 42))
        (RT.bad 42))
      (RT.ok
        (Ex.exit 0,
          { nt := 27,
            tm :=
              [(0, AV.sl false [Sh.int IntKind.i64, Sh.sl [Sh.int IntKind.u8]] a none),
                (1, AV.sl false [Sh.int IntKind.i64, Sh.sl [Sh.int IntKind.u8]] b none),
                (4, AV.sc false (Value.bool false)), (5, AV.sc false (Value.int IntKind.i64 i))],
            df := [] },
          { ob := [], nx := 0, gn := [], nv := 0, ng := 1000, ep := 1000 })) := by kernel_rfl
theorem eqf_body (a b : D) (n i : Int) : roundT (⟨[1, 2, 6, 15, 16, 17], [], 0, 0, 1000, 1000⟩) (evC Tryz.prog (gam ([])) (lam ([])) 100 123 (loopAt 0 (bodyOf Tryz.prog 123)) (⟨32, [(1, asl opS b), (2, smeF), (6, ab false), (15, asl opS a), (16, ai n), (17, ai i)], []⟩) (⟨[], 0, [], 0, 1000, 1000⟩)) =
    RT.br (decide (i < n))
      (RT.br (decide (0 ≤ i ∧ i < (↑(D.len a) : Int)))
        (RT.br (decide (0 ≤ i ∧ i < (↑(D.len b) : Int)))
          (RT.br (D.toI (D.cell (D.get a (Int.toNat i)) 0) == D.toI (D.cell (D.get b (Int.toNat i)) 0))
            (RT.br
              (!ByteArray.toList (D.str (D.cell (D.get a (Int.toNat i)) (0 + 1))) ==
                  ByteArray.toList (D.str (D.cell (D.get b (Int.toNat i)) (0 + 1))))
              (RT.ok
                (Ex.ret,
                  { nt := 32,
                    tm :=
                      [(1, AV.sl false [Sh.int IntKind.i64, Sh.sl [Sh.int IntKind.u8]] b none),
                        (2, AV.fn (Fn.func 124) [] []), (6, AV.sc false (Value.bool false)),
                        (15, AV.sl false [Sh.int IntKind.i64, Sh.sl [Sh.int IntKind.u8]] a none),
                        (16, AV.sc false (Value.int IntKind.i64 n)), (17, AV.sc false (Value.int IntKind.i64 i))],
                    df := [] },
                  { ob := [], nx := 0, gn := [], nv := 0, ng := 1000, ep := 1000 }))
              (RT.ok
                (Ex.normal,
                  { nt := 32,
                    tm :=
                      [(1, AV.sl false [Sh.int IntKind.i64, Sh.sl [Sh.int IntKind.u8]] b none),
                        (2, AV.fn (Fn.func 124) [] []), (6, AV.sc false (Value.bool false)),
                        (15, AV.sl false [Sh.int IntKind.i64, Sh.sl [Sh.int IntKind.u8]] a none),
                        (16, AV.sc false (Value.int IntKind.i64 n)),
                        (17, AV.sc false (Value.int IntKind.i64 (IntKind.wrap IntKind.i64 (i + 1))))],
                    df := [] },
                  { ob := [], nx := 0, gn := [], nv := 0, ng := 1000, ep := 1000 })))
            (RT.ok
              (Ex.ret,
                { nt := 32,
                  tm :=
                    [(1, AV.sl false [Sh.int IntKind.i64, Sh.sl [Sh.int IntKind.u8]] b none),
                      (2, AV.fn (Fn.func 124) [] []), (6, AV.sc false (Value.bool false)),
                      (15, AV.sl false [Sh.int IntKind.i64, Sh.sl [Sh.int IntKind.u8]] a none),
                      (16, AV.sc false (Value.int IntKind.i64 n)), (17, AV.sc false (Value.int IntKind.i64 i))],
                  df := [] },
                { ob := [], nx := 0, gn := [], nv := 0, ng := 1000, ep := 1000 })))
          (RT.bad 42))
        (RT.bad 42))
      (RT.ok
        (Ex.exit 0,
          { nt := 32,
            tm :=
              [(1, AV.sl false [Sh.int IntKind.i64, Sh.sl [Sh.int IntKind.u8]] b none), (2, AV.fn (Fn.func 124) [] []),
                (6, AV.sc false (Value.bool false)),
                (15, AV.sl false [Sh.int IntKind.i64, Sh.sl [Sh.int IntKind.u8]] a none),
                (16, AV.sc false (Value.int IntKind.i64 n)), (17, AV.sc false (Value.int IntKind.i64 i))],
            df := [] },
          { ob := [], nx := 0, gn := [], nv := 0, ng := 1000, ep := 1000 })) := by kernel_rfl
-- DEFS
def rsaDec (F : Tm) (h : Hp) : Option (D × D × Nat) := match F, h with
  | ⟨27, [(0, .sl false [.int .i64, .sl [.int .u8]] a none), (1, .sl false [.int .i64, .sl [.int .u8]] b none), (4, .sc false (.bool false)), (5, .sc false (.int .i64 0))], []⟩, ⟨[], 0, [], 0, 1000, 1000⟩ => some (a, b, 0)
  | _, _ => none
def rsaT (x : D × D × Nat) : RT Out := need false (decide (x.1.len = x.2.1.len ∧ x.2.2 ≤ x.1.len)) 210
  (.br (okFrom (oneE x.1 x.2.1) (x.1.len - x.2.2) x.2.2) (.ok (.normal, rsaF x.1 x.2.1 x.1.len, ren1H)) (.ok (.ret, rsaF x.1 x.2.1 (badFrom (oneE x.1 x.2.1) (x.1.len - x.2.2) x.2.2), ren1H)))
def rsaLs (P : Program) : List (FuncId × Nat × BSpec) := [(84, 0, loopS P rsaL rsaDec rsaT)]
def eqfDec (F : Tm) (h : Hp) : Option (D × D × Int × Nat) := match F, h with
  | ⟨32, [(1, .sl false [.int .i64, .sl [.int .u8]] b none), (2, .fn (.func 124) [] []), (6, .sc false (.bool false)), (15, .sl false [.int .i64, .sl [.int .u8]] a none), (16, .sc false (.int .i64 n)), (17, .sc false (.int .i64 0))], []⟩, ⟨[], 0, [], 0, 1000, 1000⟩ => some (a, b, n, 0)
  | _, _ => none
def eqfT (x : D × D × Int × Nat) : RT Out := need false (decide (x.2.2.1 = (x.1.len : Int) ∧ x.1.len = x.2.1.len ∧ x.2.2.2 ≤ x.1.len)) 210
  (.br (okFrom (oneE x.1 x.2.1) (x.1.len - x.2.2.2) x.2.2.2) (.ok (.normal, eqfF x.1 x.2.1 x.2.2.1 x.1.len, ren1H)) (.ok (.ret, eqfF x.1 x.2.1 x.2.2.1 (badFrom (oneE x.1 x.2.1) (x.1.len - x.2.2.2) x.2.2.2), ren1H)))
def eqfLs (P : Program) : List (FuncId × Nat × BSpec) := [(123, 0, loopS P eqfL eqfDec eqfT)]
-- END
theorem rsa_loop : LamE Tryz.prog 84 0 (loopS Tryz.prog rsaL rsaDec rsaT) := by
  refine loop_in2 (gs := []) (ls := []) mixed trivial trivial _ 0 100 (by kernel_rfl) rsaL (mkF := fun x => rsaF x.1 x.2.1 x.2.2) (mkH := fun _ => ren1H) (fun x => x.1.len - x.2.2) ?_ ?_
  · intro F h x hx
    unfold rsaDec at hx
    split at hx
    · cases hx; exact ⟨rfl, rfl⟩
    · cases hx
  · rintro ⟨a, b, i⟩ K H
    obtain ⟨hc, H⟩ := need_holds H
    obtain ⟨hab, hi⟩ : a.len = b.len ∧ i ≤ a.len := of_decide_eq_true hc
    have hm := a.len_le
    show (roundT rsaL (evC _ _ _ _ _ _ (rsaF a b i) ren1H)).holds _
    unfold rsaL rsaF ren1H
    rw [rsa_body]
    simp only [Int.toNat_natCast]
    by_cases hlt : i < a.len
    · cases hp : oneE a b i
      · have hret : K (.ret, rsaF a b i, ren1H) := by
          have := H.2 (okFrom_false (Nat.le_refl _) (show i < i + (a.len - i) by omega) hp)
          dsimp only at this
          rwa [show a.len - i = (a.len - i - 1) + 1 by omega, badFrom_here hp] at this
        unfold oneE at hp
        repeat' refine And.intro (fun _ => ?_) (fun _ => ?_)
        all_goals first | exact hret | (exfalso; clear H hret; simp only [decide_eq_true_eq, decide_eq_false_iff_not, Bool.not_eq_true', Bool.not_eq_false'] at *; omega) | (exfalso; clear H hret; simp_all)
      · have hnext : ∃ x' : D × D × Nat, (rsaF a b (i + 1) = rsaF x'.1 x'.2.1 x'.2.2 ∧ ren1H = ren1H) ∧ x'.1.len - x'.2.2 < a.len - i ∧ (rsaT x').holds K := by
          refine ⟨(a, b, i + 1), ⟨rfl, rfl⟩, by show a.len - (i + 1) < a.len - i; omega, ?_⟩
          refine ⟨fun _ => ?_, fun hf => absurd (show a.len = b.len ∧ i + 1 ≤ a.len from ⟨hab, by omega⟩) (of_decide_eq_false hf)⟩
          have e : a.len - i = (a.len - (i + 1)) + 1 := by omega
          have e1 : okFrom (oneE a b) (a.len - i) i = okFrom (oneE a b) (a.len - (i + 1)) (i + 1) := by rw [e]; simp only [okFrom, hp, Bool.true_and]
          have e2 : badFrom (oneE a b) (a.len - i) i = badFrom (oneE a b) (a.len - (i + 1)) (i + 1) := by rw [e, badFrom_cons hp]
          dsimp only at H
          rw [e1, e2] at H
          exact H
        unfold oneE at hp
        repeat' refine And.intro (fun _ => ?_) (fun _ => ?_)
        all_goals first | (rw [wrap_succ hlt hm]; exact hnext) | (exfalso; clear H hnext; simp only [decide_eq_true_eq, decide_eq_false_iff_not, Bool.not_eq_true', Bool.not_eq_false'] at *; omega) | (exfalso; clear H hnext; simp_all)
    · have : i = a.len := by omega
      subst this
      refine ⟨fun h1 => ?_, fun h1 => H.1 (by rw [Nat.sub_self]; rfl)⟩
      have := of_decide_eq_true h1
      omega
theorem rsaLs_ok : LamL Tryz.prog (rsaLs Tryz.prog) := ⟨rsa_loop, trivial⟩
theorem eqf_loop : LamE Tryz.prog 123 0 (loopS Tryz.prog eqfL eqfDec eqfT) := by
  refine loop_in2 (gs := []) (ls := []) mixed trivial trivial _ 0 100 (by kernel_rfl) eqfL (mkF := fun x => eqfF x.1 x.2.1 x.2.2.1 x.2.2.2) (mkH := fun _ => ren1H) (fun x => x.1.len - x.2.2.2) ?_ ?_
  · intro F h x hx
    unfold eqfDec at hx
    split at hx
    · cases hx; exact ⟨rfl, rfl⟩
    · cases hx
  · rintro ⟨a, b, n, i⟩ K H
    obtain ⟨hc, H⟩ := need_holds H
    obtain ⟨rfl, hab, hi⟩ : n = (a.len : Int) ∧ a.len = b.len ∧ i ≤ a.len := of_decide_eq_true hc
    have hm := a.len_le
    show (roundT eqfL (evC _ _ _ _ _ _ (eqfF a b a.len i) ren1H)).holds _
    unfold eqfL eqfF ren1H
    rw [eqf_body]
    simp only [Int.toNat_natCast]
    by_cases hlt : i < a.len
    · cases hp : oneE a b i
      · have hret : K (.ret, eqfF a b a.len i, ren1H) := by
          have := H.2 (okFrom_false (Nat.le_refl _) (show i < i + (a.len - i) by omega) hp)
          dsimp only at this
          rwa [show a.len - i = (a.len - i - 1) + 1 by omega, badFrom_here hp] at this
        unfold oneE at hp
        repeat' refine And.intro (fun _ => ?_) (fun _ => ?_)
        all_goals first | exact hret | (exfalso; clear H hret; simp only [decide_eq_true_eq, decide_eq_false_iff_not, Bool.not_eq_true', Bool.not_eq_false'] at *; omega) | (exfalso; clear H hret; simp_all)
      · have hnext : ∃ x' : D × D × Int × Nat, (eqfF a b a.len (i + 1) = eqfF x'.1 x'.2.1 x'.2.2.1 x'.2.2.2 ∧ ren1H = ren1H) ∧ x'.1.len - x'.2.2.2 < a.len - i ∧ (eqfT x').holds K := by
          refine ⟨(a, b, a.len, i + 1), ⟨rfl, rfl⟩, by show a.len - (i + 1) < a.len - i; omega, ?_⟩
          refine ⟨fun _ => ?_, fun hf => absurd (show (a.len : Int) = a.len ∧ a.len = b.len ∧ i + 1 ≤ a.len from ⟨rfl, hab, by omega⟩) (of_decide_eq_false hf)⟩
          have e : a.len - i = (a.len - (i + 1)) + 1 := by omega
          have e1 : okFrom (oneE a b) (a.len - i) i = okFrom (oneE a b) (a.len - (i + 1)) (i + 1) := by rw [e]; simp only [okFrom, hp, Bool.true_and]
          have e2 : badFrom (oneE a b) (a.len - i) i = badFrom (oneE a b) (a.len - (i + 1)) (i + 1) := by rw [e, badFrom_cons hp]
          dsimp only at H
          rw [e1, e2] at H
          exact H
        unfold oneE at hp
        repeat' refine And.intro (fun _ => ?_) (fun _ => ?_)
        all_goals first | (rw [wrap_succ hlt hm]; exact hnext) | (exfalso; clear H hnext; simp only [decide_eq_true_eq, decide_eq_false_iff_not, Bool.not_eq_true', Bool.not_eq_false'] at *; omega) | (exfalso; clear H hnext; simp_all)
    · have : i = a.len := by omega
      subst this
      refine ⟨fun h1 => ?_, fun h1 => H.1 (by rw [Nat.sub_self]; rfl)⟩
      have := of_decide_eq_true h1
      omega
theorem eqfLs_ok : LamL Tryz.prog (eqfLs Tryz.prog) := ⟨eqf_loop, trivial⟩
theorem rsa_tree (a b : D) : treeF (evF Tryz.prog (gam ([])) (lam (rsaLs Tryz.prog)) 100 84) [asl opS a, asl opS b] =
    RT.br ((↑(D.len a) : Int) != (↑(D.len b) : Int)) (RT.ok (AV.sc true (Value.bool false)))
      (RT.br (decide (D.len a = D.len b ∧ 0 ≤ D.len a))
        (RT.br (okFrom (oneE a b) (D.len a - 0) 0) (RT.ok (AV.sc true (Value.bool true)))
          (RT.ok (AV.sc false (Value.bool false))))
        (RT.bad 210)) := by kernel_rfl
theorem osa_tree (a b : D) : treeF (evF Tryz.prog (gam ([])) (lam (eqfLs Tryz.prog)) 100 87) [asl opS a, asl opS b] =
    RT.br ((↑(D.len a) : Int) != (↑(D.len b) : Int)) (RT.ok (AV.sc true (Value.bool false)))
      (RT.br (decide ((↑(D.len a) : Int) = (↑(D.len a) : Int) ∧ D.len a = D.len b ∧ 0 ≤ D.len a))
        (RT.br (okFrom (oneE a b) (D.len a - 0) 0) (RT.ok (AV.sc true (Value.bool true)))
          (RT.ok (AV.sc false (Value.bool false))))
        (RT.bad 210)) := by kernel_rfl
def FSameO : List AV → RT AV
  | [.sl false [.int .i64, .sl [.int .u8]] a none, .sl false [.int .i64, .sl [.int .u8]] b none] => .ok (ab (sameO a b))
  | _ => .bad 205
end
end Go.Proofs.YtcambhbmobepjaaGreat
