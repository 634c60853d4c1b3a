/- Kd4: lcp.own, its loop. No condition. -/
import Derived.Test.YtcambhbmobepjaaGreatKd3
namespace Go.Proofs.YtcambhbmobepjaaGreat
set_option linter.unusedSimpArgs false
set_option linter.unusedVariables false
open Go.RowKit
set_option maxRecDepth 100000
noncomputable section

-- DEFS
def ownG (P : Program) : List (FuncId × Spec) := [(98, pureS P 98 FCloneB), (97, cloneRowS)]
abbrev ownC (st id rq : Int) (n : Nat) (ct tm nk mg pr mu pe ne : Int) : List AV := [ai st, ai id, ai rq, .rsl false 2 2 n, ai ct, ai tm, ai nk, ai mg, ai pr, ai mu, ai pe, ai ne]
-- END
theorem ownG_ok : GamL Tryz.prog (ownG Tryz.prog) := ⟨cloneb_soundF, cloneRow_soundF, trivial⟩
theorem own_body (st id rq : Int) (n : Nat) (ct tm nk mg pr mu pe ne : Int) (d : D) (i : Int) : roundT (⟨[1, 2, 13, 14], [], 3, 0, 1000, 1000⟩) (evC Tryz.prog (gam (ownG Tryz.prog)) (lam ([])) 100 61 (loopAt 0 (bodyOf Tryz.prog 61)) (⟨33, [(1, .ptr 0 0), (2, .ptr 1 0), (13, ai n), (14, ai i)], []⟩) (⟨[(0, ownC st id rq n ct tm nk mg pr mu pe ne), (1, zerC), (2, [.rw opS d])], 3, [], 0, 1000, 1000⟩)) =
    RT.br (decide (i < (↑n : Int)))
      (RT.br (decide (0 ≤ i ∧ i < (↑n : Int)))
        (RT.br (decide (Int.toNat i < D.len d))
          (RT.br (decide (0 ≤ i ∧ i < (↑n : Int)))
            (RT.br (decide (Int.toNat i < D.len d))
              (RT.ok
                (Ex.normal,
                  { nt := 33,
                    tm :=
                      [(1, AV.ptr 0 0), (2, AV.ptr 1 0), (13, AV.sc false (Value.int IntKind.i64 (↑n : Int))),
                        (14, AV.sc false (Value.int IntKind.i64 (IntKind.wrap IntKind.i64 (i + 1))))],
                    df := [] },
                  {
                    ob :=
                      [(0,
                          [AV.sc false (Value.int IntKind.i64 st), AV.sc false (Value.int IntKind.i64 id),
                            AV.sc false (Value.int IntKind.i64 rq), AV.rsl false 2 2 n,
                            AV.sc false (Value.int IntKind.i64 ct), AV.sc false (Value.int IntKind.i64 tm),
                            AV.sc false (Value.int IntKind.i64 nk), AV.sc false (Value.int IntKind.i64 mg),
                            AV.sc false (Value.int IntKind.i64 pr), AV.sc false (Value.int IntKind.i64 mu),
                            AV.sc false (Value.int IntKind.i64 pe), AV.sc false (Value.int IntKind.i64 ne)]),
                        (1,
                          [AV.sc false (Value.int IntKind.i64 0), AV.sc false (Value.int IntKind.i64 0),
                            AV.sc false (Value.int IntKind.i64 0), AV.sc false (Value.slice none 0 0),
                            AV.sc false (Value.int IntKind.i64 0), AV.sc false (Value.int IntKind.i64 0),
                            AV.sc false (Value.int IntKind.i64 0), AV.sc false (Value.int IntKind.i64 0),
                            AV.sc false (Value.int IntKind.i64 0), AV.sc false (Value.int IntKind.i64 0),
                            AV.sc false (Value.int IntKind.i64 0), AV.sc false (Value.int IntKind.i64 0)]),
                        (2,
                          [AV.rw [Sh.int IntKind.i64, Sh.sl [Sh.int IntKind.u8]]
                              (D.setE d (Int.toNat i)
                                (D.t [D.cell (D.get d (Int.toNat i)) 0, D.cell (D.get d (Int.toNat i)) 1]))])],
                    nx := 3, gn := [], nv := 0, ng := 1000, ep := 1000 }))
              (RT.bad 175))
            (RT.bad 179))
          (RT.bad 170))
        (RT.bad 179))
      (RT.ok
        (Ex.exit 0,
          { nt := 33,
            tm :=
              [(1, AV.ptr 0 0), (2, AV.ptr 1 0), (13, AV.sc false (Value.int IntKind.i64 (↑n : Int))),
                (14, AV.sc false (Value.int IntKind.i64 i))],
            df := [] },
          {
            ob :=
              [(0,
                  [AV.sc false (Value.int IntKind.i64 st), AV.sc false (Value.int IntKind.i64 id),
                    AV.sc false (Value.int IntKind.i64 rq), AV.rsl false 2 2 n, AV.sc false (Value.int IntKind.i64 ct),
                    AV.sc false (Value.int IntKind.i64 tm), AV.sc false (Value.int IntKind.i64 nk),
                    AV.sc false (Value.int IntKind.i64 mg), AV.sc false (Value.int IntKind.i64 pr),
                    AV.sc false (Value.int IntKind.i64 mu), AV.sc false (Value.int IntKind.i64 pe),
                    AV.sc false (Value.int IntKind.i64 ne)]),
                (1,
                  [AV.sc false (Value.int IntKind.i64 0), AV.sc false (Value.int IntKind.i64 0),
                    AV.sc false (Value.int IntKind.i64 0), AV.sc false (Value.slice none 0 0),
                    AV.sc false (Value.int IntKind.i64 0), AV.sc false (Value.int IntKind.i64 0),
                    AV.sc false (Value.int IntKind.i64 0), AV.sc false (Value.int IntKind.i64 0),
                    AV.sc false (Value.int IntKind.i64 0), AV.sc false (Value.int IntKind.i64 0),
                    AV.sc false (Value.int IntKind.i64 0), AV.sc false (Value.int IntKind.i64 0)]),
                (2, [AV.rw [Sh.int IntKind.i64, Sh.sl [Sh.int IntKind.u8]] d])],
            nx := 3, gn := [], nv := 0, ng := 1000, ep := 1000 })) := by kernel_rfl
-- STOPS: rebF
/-- options, each of whose data was copied -/
def rebF : Nat → D → Nat → D
  | 0, d, _ => d
  | m + 1, d, i => rebF m (d.setE i (.t [(d.get i).cell 0, (d.get i).cell 1])) (i + 1)
theorem rebF_ok : ∀ (m : Nat) (d : D) (i : Nat), i + m ≤ d.len → (rebF m d i).len = d.len ∧ ∀ q, eqEl opS ((rebF m d i).get q) (d.get q) 0
  | 0, d, i, _ => ⟨rfl, fun q => eqEl_refl _ _ _⟩
  | m + 1, d, i, h => by
    obtain ⟨h1, h2⟩ := rebF_ok m (d.setE i (.t [(d.get i).cell 0, (d.get i).cell 1])) (i + 1) (by rw [setE_len]; omega)
    refine ⟨h1.trans (setE_len _ _ _), fun q => ?_⟩
    have h3 := h2 q
    rw [setE_get (by omega)] at h3
    by_cases hq : q = i
    · subst hq
      rw [if_pos rfl] at h3
      exact ⟨h3.1, h3.2.1, trivial⟩
    · rw [if_neg hq] at h3; exact h3
def ownL : Lw := ⟨[1, 2, 13, 14], [], 3, 0, 1000, 1000⟩
/-- what the loop stands at: the control's cells, the row, where it is -/
structure OwnX where
  x : LcpV
  z : Int
  n : Nat
  d : D
  i : Nat
def ownF (n : Int) (i : Nat) : Tm := ⟨33, [(1, .ptr 0 0), (2, .ptr 1 0), (13, ai n), (14, ai i)], []⟩
def ownH (x : LcpV) (n : Nat) (d : D) : Hp := ⟨[(0, ownC x.st x.id x.rq n x.ct x.tm x.nk x.mg x.pr x.mu x.pe x.ne), (1, zerC), (2, [.rw opS d])], 3, [], 0, 1000, 1000⟩
def ownDec (F : Tm) (h : Hp) : Option OwnX := match F, h with
  | ⟨33, [(1, .ptr 0 0), (2, .ptr 1 0), (13, .sc false (.int .i64 n)), (14, .sc false (.int .i64 0))], []⟩,
    ⟨[(0, [.sc false (.int .i64 st), .sc false (.int .i64 id), .sc false (.int .i64 rq), .rsl false 2 2 m, .sc false (.int .i64 ct), .sc false (.int .i64 tm), .sc false (.int .i64 nk), .sc false (.int .i64 mg), .sc false (.int .i64 pr), .sc false (.int .i64 mu), .sc false (.int .i64 pe), .sc false (.int .i64 ne)]),
      (1, [.sc false (.int .i64 0), .sc false (.int .i64 0), .sc false (.int .i64 0), .sc false (.slice none 0 0), .sc false (.int .i64 0), .sc false (.int .i64 0), .sc false (.int .i64 0), .sc false (.int .i64 0), .sc false (.int .i64 0), .sc false (.int .i64 0), .sc false (.int .i64 0), .sc false (.int .i64 0)]), (2, [.rw [.int .i64, .sl [.int .u8]] d])], 3, [], 0, 1000, 1000⟩ => some ⟨⟨st, id, rq, .n, ct, tm, nk, mg, pr, mu, pe, ne⟩, n, m, d, 0⟩
  | _, _ => none
def ownT (x : OwnX) : RT Out := need false (decide (x.z = (x.n : Int) ∧ x.n = x.d.len ∧ x.i ≤ x.n)) 216 (.ok (.normal, ownF x.z x.n, ownH x.x x.n (rebF (x.n - x.i) x.d x.i)))
theorem own_loop1 : LamE Tryz.prog 61 0 (loopS Tryz.prog ownL ownDec ownT) := by
  refine loop_in2 (gs := ownG Tryz.prog) (ls := []) mixed ownG_ok trivial _ 0 100 (by kernel_rfl) ownL (mkF := fun x => ownF x.z x.i) (mkH := fun x => ownH x.x x.n x.d) (fun x => x.n - x.i) ?_ ?_
  · intro F h x hx
    unfold ownDec at hx
    split at hx
    · cases hx; exact ⟨rfl, rfl⟩
    · cases hx
  · rintro ⟨⟨st, id, rq, d0, ct, tm, nk, mg, pr, mu, pe, ne⟩, z, n, d, i⟩ K H
    obtain ⟨hc, H⟩ := need_holds H
    obtain ⟨rfl, hn, hi⟩ : z = (n : Int) ∧ n = d.len ∧ i ≤ n := of_decide_eq_true hc
    have hm := d.len_le
    show (roundT ownL (evC _ _ _ _ _ _ (ownF n i) (ownH ⟨st, id, rq, d0, ct, tm, nk, mg, pr, mu, pe, ne⟩ n d))).holds _
    unfold ownL ownF ownH
    rw [own_body]
    have hin : i < n → (0 : Int) ≤ (i : Int) ∧ (i : Int) < (n : Int) := fun h => ⟨by omega, by omega⟩
    have hid : i < n → Int.toNat (i : Int) < d.len := fun h => by rw [Int.toNat_natCast]; omega
    refine ⟨fun h1 => ?_, fun h1 => ?_⟩
    · have h1 : i < n := by have := of_decide_eq_true h1; omega
      refine ⟨fun _ => ⟨fun _ => ⟨fun _ => ⟨fun _ => ?_, fun h => absurd (hid h1) (of_decide_eq_false h)⟩, fun h => absurd (hin h1) (of_decide_eq_false h)⟩, fun h => absurd (hid h1) (of_decide_eq_false h)⟩, fun h => absurd (hin h1) (of_decide_eq_false h)⟩
      refine ⟨⟨⟨st, id, rq, d0, ct, tm, nk, mg, pr, mu, pe, ne⟩, n, n, d.setE i (.t [(d.get i).cell 0, (d.get i).cell 1]), i + 1⟩, ⟨?_, rfl⟩, by show n - (i + 1) < n - i; omega, ?_⟩
      · rw [wrap_succ (n := d.len) (by omega) hm]
      · refine ⟨fun _ => ?_, fun hf => ?_⟩
        · have e : n - i = (n - (i + 1)) + 1 := by omega
          show K (.normal, ownF n n, ownH ⟨st, id, rq, d0, ct, tm, nk, mg, pr, mu, pe, ne⟩ n (rebF (n - (i + 1)) _ (i + 1)))
          have H' : K (.normal, ownF n n, ownH ⟨st, id, rq, d0, ct, tm, nk, mg, pr, mu, pe, ne⟩ n (rebF (n - i) d i)) := H
          rw [e] at H'
          exact H'
        · exact absurd ⟨rfl, by rw [setE_len]; exact hn, by show i + 1 ≤ n; omega⟩ (of_decide_eq_false hf)
    · have h1 : i = n := by have := of_decide_eq_false h1; omega
      subst h1
      have H' : K (.normal, ownF i i, ownH ⟨st, id, rq, d0, ct, tm, nk, mg, pr, mu, pe, ne⟩ i (rebF (i - i) d i)) := H
      rw [Nat.sub_self] at H'
      exact H'
def ownLs (P : Program) : List (FuncId × Nat × BSpec) := [(61, 0, altB (knT 13) (runB P (ownG P) 100 61 0) (loopS P ownL ownDec ownT))]
theorem ownLs_ok : LamL Tryz.prog (ownLs Tryz.prog) := ⟨altB_ok (runB_ok mixed ownG_ok _ 0 100 (by kernel_rfl)) own_loop1, trivial⟩
end
end Go.Proofs.YtcambhbmobepjaaGreat
