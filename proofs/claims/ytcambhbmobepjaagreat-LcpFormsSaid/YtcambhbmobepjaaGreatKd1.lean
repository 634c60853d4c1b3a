/- Kd1: Light. No condition. -/
import Derived.Test.YtcambhbmobepjaaGreatKc8
namespace Go.Proofs.YtcambhbmobepjaaGreat
set_option linter.unusedSimpArgs false
set_option linter.unusedVariables false
open Go.RowKit
set_option maxRecDepth 100000
noncomputable section

-- DEFS
abbrev f0 : AV := .sc false (.int .i64 0)
abbrev lcpC (st id rq : Int) (d : D) (ct tm nk mg pr mu pe ne : Int) : List AV := [ai st, ai id, ai rq, asl opS d, ai ct, ai tm, ai nk, ai mg, ai pr, ai mu, ai pe, ai ne]
abbrev zerC : List AV := [f0, f0, f0, .sc false (.slice none 0 0), f0, f0, f0, f0, f0, f0, f0, f0]
def lgtL : Lw := ⟨[1, 2, 3, 4], [(false, 3, 0, 92)], 2, 1, 1000, 1000⟩
-- END
theorem lgt_body (st id rq : Int) (d : D) (ct tm nk mg pr mu pe ne : Int) (out : D) (i : Int) : roundT (⟨[1, 2, 3, 4], [(false, 3, 0, 92)], 2, 1, 1000, 1000⟩) (evC Tryz.prog (gam ([])) (lam ([])) 100 8 (loopAt 0 (bodyOf Tryz.prog 8)) (⟨49, [(1, .ptr 0 0), (2, .ptr 1 0), (3, sh opS out 0 1000), (4, ai i)], []⟩) (⟨[(0, lcpC st id rq d ct tm nk mg pr mu pe ne), (1, zerC)], 2, [(0, 1000, 92)], 1, 1001, 1000⟩)) =
    RT.br (decide (i < (↑(D.len d) : Int)))
      (RT.br (decide (i < 70))
        (RT.br (decide (0 ≤ i ∧ i < (↑(D.len d) : Int)))
          (RT.br (decide (0 ≤ i ∧ i < (↑(D.len d) : Int)))
            (RT.br (decide (0 ≤ i ∧ i < (↑(D.len d) : Int)))
              (RT.br
                (decide
                  ((0 : Int) ≤ 0 ∧
                    0 ≤ imin (↑(D.len (D.cell (D.get d (Int.toNat i)) 1)) : Int) 260 ∧
                      imin (↑(D.len (D.cell (D.get d (Int.toNat i)) 1)) : Int) 260 ≤
                          (↑(D.len (D.cell (D.get d (Int.toNat i)) 1)) : Int) ∧
                        (↑(D.len (D.cell (D.get d (Int.toNat i)) 1)) : Int) ≤
                          (↑(D.len (D.cell (D.get d (Int.toNat i)) 1)) : Int)))
                (RT.br (decide ((D.len out + 1) * 32 ≤ 140737488355328))
                  (RT.ok
                    (Ex.normal,
                      { nt := 49,
                        tm :=
                          [(1, AV.ptr 0 0), (2, AV.ptr 1 0),
                            (3,
                              AV.sl false [Sh.int IntKind.i64, Sh.sl [Sh.int IntKind.u8]]
                                (D.app out
                                  (D.l
                                    [D.t
                                        [D.i (D.toI (D.cell (D.get d (Int.toNat i)) 0)),
                                          D.sub (D.cell (D.get d (Int.toNat i)) 1) 0
                                            (Int.toNat (imin (↑(D.len (D.cell (D.get d (Int.toNat i)) 1)) : Int) 260))]]))
                                (some (0, 1000))),
                            (4, AV.sc false (Value.int IntKind.i64 (IntKind.wrap IntKind.i64 (i + 1))))],
                        df := [] },
                      {
                        ob :=
                          [(0,
                              [AV.sc false (Value.int IntKind.i64 st), AV.sc false (Value.int IntKind.i64 id),
                                AV.sc false (Value.int IntKind.i64 rq),
                                AV.sl false [Sh.int IntKind.i64, Sh.sl [Sh.int IntKind.u8]] d none,
                                AV.sc false (Value.int IntKind.i64 ct), AV.sc false (Value.int IntKind.i64 tm),
                                AV.sc false (Value.int IntKind.i64 nk), AV.sc false (Value.int IntKind.i64 mg),
                                AV.sc false (Value.int IntKind.i64 pr), AV.sc false (Value.int IntKind.i64 mu),
                                AV.sc false (Value.int IntKind.i64 pe), AV.sc false (Value.int IntKind.i64 ne)]),
                            (1,
                              [AV.sc false (Value.int IntKind.i64 0), AV.sc false (Value.int IntKind.i64 0),
                                AV.sc false (Value.int IntKind.i64 0), AV.sc false (Value.slice none 0 0),
                                AV.sc false (Value.int IntKind.i64 0), AV.sc false (Value.int IntKind.i64 0),
                                AV.sc false (Value.int IntKind.i64 0), AV.sc false (Value.int IntKind.i64 0),
                                AV.sc false (Value.int IntKind.i64 0), AV.sc false (Value.int IntKind.i64 0),
                                AV.sc false (Value.int IntKind.i64 0), AV.sc false (Value.int IntKind.i64 0)])],
                        nx := 2, gn := [(0, 1000, 92)], nv := 1, ng := 1001, ep := 1000 }))
                  (RT.bad 70))
                (RT.bad 37))
              (RT.bad 42))
            (RT.bad 42))
          (RT.bad 42))
        (RT.ok
          (Ex.exit 0,
            { nt := 49,
              tm :=
                [(1, AV.ptr 0 0), (2, AV.ptr 1 0),
                  (3, AV.sl false [Sh.int IntKind.i64, Sh.sl [Sh.int IntKind.u8]] out (some (0, 1000))),
                  (4, AV.sc false (Value.int IntKind.i64 i))],
              df := [] },
            {
              ob :=
                [(0,
                    [AV.sc false (Value.int IntKind.i64 st), AV.sc false (Value.int IntKind.i64 id),
                      AV.sc false (Value.int IntKind.i64 rq),
                      AV.sl false [Sh.int IntKind.i64, Sh.sl [Sh.int IntKind.u8]] d none,
                      AV.sc false (Value.int IntKind.i64 ct), AV.sc false (Value.int IntKind.i64 tm),
                      AV.sc false (Value.int IntKind.i64 nk), AV.sc false (Value.int IntKind.i64 mg),
                      AV.sc false (Value.int IntKind.i64 pr), AV.sc false (Value.int IntKind.i64 mu),
                      AV.sc false (Value.int IntKind.i64 pe), AV.sc false (Value.int IntKind.i64 ne)]),
                  (1,
                    [AV.sc false (Value.int IntKind.i64 0), AV.sc false (Value.int IntKind.i64 0),
                      AV.sc false (Value.int IntKind.i64 0), AV.sc false (Value.slice none 0 0),
                      AV.sc false (Value.int IntKind.i64 0), AV.sc false (Value.int IntKind.i64 0),
                      AV.sc false (Value.int IntKind.i64 0), AV.sc false (Value.int IntKind.i64 0),
                      AV.sc false (Value.int IntKind.i64 0), AV.sc false (Value.int IntKind.i64 0),
                      AV.sc false (Value.int IntKind.i64 0), AV.sc false (Value.int IntKind.i64 0)])],
              nx := 2, gn := [(0, 1000, 92)], nv := 1, ng := 1001, ep := 1000 })))
      (RT.ok
        (Ex.exit 0,
          { nt := 49,
            tm :=
              [(1, AV.ptr 0 0), (2, AV.ptr 1 0),
                (3, AV.sl false [Sh.int IntKind.i64, Sh.sl [Sh.int IntKind.u8]] out (some (0, 1000))),
                (4, AV.sc false (Value.int IntKind.i64 i))],
            df := [] },
          {
            ob :=
              [(0,
                  [AV.sc false (Value.int IntKind.i64 st), AV.sc false (Value.int IntKind.i64 id),
                    AV.sc false (Value.int IntKind.i64 rq),
                    AV.sl false [Sh.int IntKind.i64, Sh.sl [Sh.int IntKind.u8]] d none,
                    AV.sc false (Value.int IntKind.i64 ct), AV.sc false (Value.int IntKind.i64 tm),
                    AV.sc false (Value.int IntKind.i64 nk), AV.sc false (Value.int IntKind.i64 mg),
                    AV.sc false (Value.int IntKind.i64 pr), AV.sc false (Value.int IntKind.i64 mu),
                    AV.sc false (Value.int IntKind.i64 pe), AV.sc false (Value.int IntKind.i64 ne)]),
                (1,
                  [AV.sc false (Value.int IntKind.i64 0), AV.sc false (Value.int IntKind.i64 0),
                    AV.sc false (Value.int IntKind.i64 0), AV.sc false (Value.slice none 0 0),
                    AV.sc false (Value.int IntKind.i64 0), AV.sc false (Value.int IntKind.i64 0),
                    AV.sc false (Value.int IntKind.i64 0), AV.sc false (Value.int IntKind.i64 0),
                    AV.sc false (Value.int IntKind.i64 0), AV.sc false (Value.int IntKind.i64 0),
                    AV.sc false (Value.int IntKind.i64 0), AV.sc false (Value.int IntKind.i64 0)])],
            nx := 2, gn := [(0, 1000, 92)], nv := 1, ng := 1001, ep := 1000 })) := by kernel_rfl
-- STOPS: lgtN lgtE
/-- how many options are looked at, and what of each -/
def lgtN (d : D) : Nat := min d.len 70
def lgtE (d : D) (i : Nat) : D := .t [.i ((d.get i).cell 0).toI, ((d.get i).cell 1).sub 0 (imin ((((d.get i).cell 1).len : Nat) : Int) 260).toNat]
theorem imin_bounds (n : Nat) : 0 ≤ imin (n : Int) 260 ∧ imin (n : Int) 260 ≤ (n : Int) := by unfold imin; split <;> omega
def lgtF (i : Nat) (out : D) : Tm := ⟨49, [(1, .ptr 0 0), (2, .ptr 1 0), (3, sh opS out 0 1000), (4, ai i)], []⟩
def lgtH (st id rq : Int) (d : D) (ct tm nk mg pr mu pe ne : Int) : Hp := ⟨[(0, lcpC st id rq d ct tm nk mg pr mu pe ne), (1, zerC)], 2, [(0, 1000, 92)], 1, 1001, 1000⟩
structure LcpV where
  st : Int
  id : Int
  rq : Int
  d : D
  ct : Int
  tm : Int
  nk : Int
  mg : Int
  pr : Int
  mu : Int
  pe : Int
  ne : Int
def LcpV.cells (x : LcpV) : List AV := lcpC x.st x.id x.rq x.d x.ct x.tm x.nk x.mg x.pr x.mu x.pe x.ne
def LcpV.heap (x : LcpV) : Hp := lgtH x.st x.id x.rq x.d x.ct x.tm x.nk x.mg x.pr x.mu x.pe x.ne
def lgtDec (F : Tm) (h : Hp) : Option (LcpV × Nat) := match F, h with
  | ⟨49, [(1, .ptr 0 0), (2, .ptr 1 0), (3, .sl false [.int .i64, .sl [.int .u8]] (.l []) (some (0, 1000))), (4, .sc false (.int .i64 0))], []⟩,
    ⟨[(0, [.sc false (.int .i64 st), .sc false (.int .i64 id), .sc false (.int .i64 rq), .sl false [.int .i64, .sl [.int .u8]] d none, .sc false (.int .i64 ct), .sc false (.int .i64 tm), .sc false (.int .i64 nk), .sc false (.int .i64 mg), .sc false (.int .i64 pr), .sc false (.int .i64 mu), .sc false (.int .i64 pe), .sc false (.int .i64 ne)]),
      (1, [.sc false (.int .i64 0), .sc false (.int .i64 0), .sc false (.int .i64 0), .sc false (.slice none 0 0), .sc false (.int .i64 0), .sc false (.int .i64 0), .sc false (.int .i64 0), .sc false (.int .i64 0), .sc false (.int .i64 0), .sc false (.int .i64 0), .sc false (.int .i64 0), .sc false (.int .i64 0)])], 2, [(0, 1000, 92)], 1, 1001, 1000⟩ => some (⟨st, id, rq, d, ct, tm, nk, mg, pr, mu, pe, ne⟩, 0)
  | _, _ => none
def lgtT (x : LcpV × Nat) : RT Out := need false (decide (x.2 ≤ lgtN x.1.d)) 211 (.ok (.normal, lgtF (lgtN x.1.d) (tabD (lgtE x.1.d) (lgtN x.1.d)), x.1.heap))
theorem lgt_loop : LamE Tryz.prog 8 0 (loopS Tryz.prog lgtL lgtDec lgtT) := by
  refine loop_in2 (gs := []) (ls := []) mixed trivial trivial _ 0 100 (by kernel_rfl) lgtL (mkF := fun x => lgtF x.2 (tabD (lgtE x.1.d) x.2)) (mkH := fun x => x.1.heap) (fun x => lgtN x.1.d - x.2) ?_ ?_
  · intro F h x hx
    unfold lgtDec at hx
    split at hx
    · cases hx; exact ⟨rfl, rfl⟩
    · cases hx
  · rintro ⟨⟨st, id, rq, d, ct, tm, nk, mg, pr, mu, pe, ne⟩, i⟩ K H
    obtain ⟨hc, H⟩ := need_holds H
    have hi : i ≤ lgtN d := of_decide_eq_true hc
    have hm := d.len_le
    have hn : lgtN d ≤ d.len := Nat.min_le_left _ _
    have hn' : lgtN d ≤ 70 := Nat.min_le_right _ _
    have hN : lgtN d = min d.len 70 := rfl
    have hmx : (70 : Nat) ≤ maxLen := by unfold maxLen; omega
    have hb := imin_bounds ((d.get i).cell 1).len
    show (roundT lgtL (evC _ _ _ _ _ _ (lgtF i (tabD (lgtE d) i)) (lgtH st id rq d ct tm nk mg pr mu pe ne))).holds _
    unfold lgtL lgtF lgtH
    rw [lgt_body]
    have out : i = lgtN d → Round (fun x : LcpV × Nat => lgtF x.2 (tabD (lgtE x.1.d) x.2)) (fun x => x.1.heap) lgtT (fun x => lgtN x.1.d - x.2) 0 (⟨st, id, rq, d, ct, tm, nk, mg, pr, mu, pe, ne⟩, i) K (.exit 0, lgtF i (tabD (lgtE d) i), lgtH st id rq d ct tm nk mg pr mu pe ne) := fun e => by
      subst e; exact H
    refine ⟨fun h1 => ⟨fun h2 => ?_, fun h2 => out ?_⟩, fun h1 => out ?_⟩
    · have h1 : i < d.len := by have := of_decide_eq_true h1; omega
      have h2 : i < 70 := by have := of_decide_eq_true h2; omega
      have hin : (0 : Int) ≤ (i : Int) ∧ (i : Int) < (d.len : Int) := ⟨by omega, by omega⟩
      refine ⟨fun _ => ⟨fun _ => ⟨fun _ => ⟨fun _ => ⟨fun _ => ?_, fun h => ?_⟩, fun h => ?_⟩, fun h => absurd hin (of_decide_eq_false h)⟩, fun h => absurd hin (of_decide_eq_false h)⟩, fun h => absurd hin (of_decide_eq_false h)⟩
      · refine ⟨(⟨st, id, rq, d, ct, tm, nk, mg, pr, mu, pe, ne⟩, i + 1), ⟨?_, rfl⟩, by show lgtN d - (i + 1) < lgtN d - i; omega, ?_⟩
        · rw [wrap_succ (n := d.len) h1 hm]
          exact congrArg (fun o => lgtF (i + 1) o) (tabD_succ (f := lgtE d) (n := i) (by omega))
        · exact ⟨fun _ => H, fun hf => by
            have := of_decide_eq_false hf
            exact absurd (by show i + 1 ≤ lgtN d; omega) this⟩
      · refine absurd ?_ (of_decide_eq_false h)
        rw [tabD_len (by omega)]
        omega
      · exact absurd ⟨Int.le_refl _, hb.1, hb.2, Int.le_refl _⟩ (of_decide_eq_false h)
    · have h1 : i < d.len := by have := of_decide_eq_true h1; omega
      have h2 : ¬ i < 70 := by have := of_decide_eq_false h2; omega
      omega
    · have h1 : ¬ i < d.len := by have := of_decide_eq_false h1; omega
      omega
def lgtLs (P : Program) : List (FuncId × Nat × BSpec) := [(8, 0, loopS P lgtL lgtDec lgtT)]
theorem lgtLs_ok : LamL Tryz.prog (lgtLs Tryz.prog) := ⟨lgt_loop, trivial⟩
end
end Go.Proofs.YtcambhbmobepjaaGreat
