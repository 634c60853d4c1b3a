/- MpD: texts of this claim, one behind the other: Kz1 Kz2 Kz3 Kz4 Kz5. No condition. -/
import Derived.Test.YtomblhnchdokmaaGreatDoorMp9
import Derived.Test.YtomblhnchdokmaaGreatDoorMpC
namespace Go.Proofs.YtomblhnchdokmaaGreatDoor
set_option linter.unusedSimpArgs false
set_option linter.unusedVariables false
open Go.RowKit
set_option maxRecDepth 100000
noncomputable section
-- DEFS
structure rinX where
  rs : D
  x : Int
def rinL : Lw := ⟨[0, 1, 4, 5], [], 0, 0, 1000, 1000⟩
def rinF (a : rinX) (i : Nat) : Tm := ⟨18, [(0, .sl false inS a.rs none), (1, .sc false (.int .i64 a.x)), (4, .sc false (.bool false)), (5, .sc false (.int .i64 (i : Int)))], []⟩
def rinH (a : rinX) (i : Nat) : Hp := ⟨[], 0, [], 0, 1000, 1000⟩
def rinC : Cs := ⟨18, [(0, .sl inS), (1, .int .i64), (4, .lit (.sc false (.bool false))), (5, .lit (.sc false (.int .i64 0)))], [], 0, [], 0, 1000, 1000⟩
noncomputable def rinDec (F : Tm) (h : Hp) : Option (rinX × Nat) := match cdS rinC F h with
  | some [v0, v1] => some (⟨v0, v1.toI⟩, 0)
  | _ => none
-- END
theorem rin_body (rs : D) (x : Int) (i : Int) : roundT (⟨[0, 1, 4, 5], [], 0, 0, 1000, 1000⟩) (evC Tryz.prog (gam ([])) (lam ([])) 100 71 (loopAt 0 (bodyOf Tryz.prog 71)) (⟨18, [(0, .sl false inS rs none), (1, .sc false (.int .i64 x)), (4, .sc false (.bool false)), (5, .sc false (.int .i64 i))], []⟩) (⟨[], 0, [], 0, 1000, 1000⟩)) =
    RT.br (decide (i < (↑(D.len rs) : Int)))
      (RT.br (decide (0 ≤ i ∧ i < (↑(D.len rs) : Int)))
        (RT.br (D.toI (D.cell (D.get rs (Int.toNat i)) 0) == x)
          (RT.ok
            (Ex.ret,
              { nt := 18,
                tm :=
                  [(0, AV.sl false [Sh.int IntKind.i64] rs none), (1, AV.sc false (Value.int IntKind.i64 x)),
                    (4, AV.sc false (Value.bool true)), (5, AV.sc false (Value.int IntKind.i64 i))],
                df := [] },
              { ob := [], nx := 0, gn := [], nv := 0, ng := 1000, ep := 1000 }))
          (RT.ok
            (Ex.normal,
              { nt := 18,
                tm :=
                  [(0, AV.sl false [Sh.int IntKind.i64] rs none), (1, AV.sc false (Value.int IntKind.i64 x)),
                    (4, AV.sc false (Value.bool false)),
                    (5, AV.sc false (Value.int IntKind.i64 (IntKind.wrap IntKind.i64 (i + 1))))],
                df := [] },
              { ob := [], nx := 0, gn := [], nv := 0, ng := 1000, ep := 1000 })))
        (RT.bad 42))
      (RT.ok
        (Ex.exit 0,
          { nt := 18,
            tm :=
              [(0, AV.sl false [Sh.int IntKind.i64] rs none), (1, AV.sc false (Value.int IntKind.i64 x)),
                (4, AV.sc false (Value.bool false)), (5, AV.sc false (Value.int IntKind.i64 i))],
            df := [] },
          { ob := [], nx := 0, gn := [], nv := 0, ng := 1000, ep := 1000 })) := by kernel_rfl
-- DEFS
def rinR (a : rinX) (i : Nat) : Tm := ⟨18, [(0, .sl false inS a.rs none), (1, ik a.x), (4, .sc false (.bool true)), (5, ik (i : Int))], []⟩
def rinT : rinX × Nat → RT Out := srchT (fun a => a.rs.len) (fun a => notIn a.rs a.x) (fun _ => true) rinF rinR (fun a => rinH a 0) .ret
structure rplX where
  ba : Int
  sz : Int
  rs : D
def rplL : Lw := ⟨[1, 2, 3], [], 1, 0, 1000, 1000⟩
def rplF (a : rplX) (i : Nat) : Tm := ⟨73, [(1, .ptr 0 0), (2, .sc false (.bool false)), (3, .sc false (.int .i64 (i : Int)))], []⟩
def rplH (a : rplX) (i : Nat) : Hp := ⟨[(0, [.sc false (.int .i64 a.ba), .sc false (.int .i64 a.sz), .sl false inS a.rs none])], 1, [], 0, 1000, 1000⟩
def rplC : Cs := ⟨73, [(1, .lit (.ptr 0 0)), (2, .lit (.sc false (.bool false))), (3, .lit (.sc false (.int .i64 0)))], [(0, [.int .i64, .int .i64, .sl inS])], 1, [], 0, 1000, 1000⟩
noncomputable def rplDec (F : Tm) (h : Hp) : Option (rplX × Nat) := match cdS rplC F h with
  | some [v0, v1, v2] => some (⟨v0.toI, v1.toI, v2⟩, 0)
  | _ => none
-- END
theorem rpl_body (ba : Int) (sz : Int) (rs : D) (i : Int) : roundT (⟨[1, 2, 3], [], 1, 0, 1000, 1000⟩) (evC Tryz.prog (gam ([])) (lam ([])) 100 34 (loopAt 0 (bodyOf Tryz.prog 34)) (⟨73, [(1, .ptr 0 0), (2, .sc false (.bool false)), (3, .sc false (.int .i64 i))], []⟩) (⟨[(0, [.sc false (.int .i64 ba), .sc false (.int .i64 sz), .sl false inS rs none])], 1, [], 0, 1000, 1000⟩)) =
    RT.br (decide (i < (↑(D.len rs) : Int)))
      (RT.br (decide (0 ≤ i ∧ i < (↑(D.len rs) : Int)))
        (RT.br (decide (D.toI (D.cell (D.get rs (Int.toNat i)) 0) < 0))
          (RT.ok
            (Ex.ret,
              { nt := 73,
                tm := [(1, AV.ptr 0 0), (2, AV.sc false (Value.bool false)), (3, AV.sc false (Value.int IntKind.i64 i))],
                df := [] },
              {
                ob :=
                  [(0,
                      [AV.sc false (Value.int IntKind.i64 ba), AV.sc false (Value.int IntKind.i64 sz),
                        AV.sl false [Sh.int IntKind.i64] rs none])],
                nx := 1, gn := [], nv := 0, ng := 1000, ep := 1000 }))
          (RT.br (decide (sz ≤ D.toI (D.cell (D.get rs (Int.toNat i)) 0)))
            (RT.ok
              (Ex.ret,
                { nt := 73,
                  tm := [(1, AV.ptr 0 0), (2, AV.sc false (Value.bool false)), (3, AV.sc false (Value.int IntKind.i64 i))],
                  df := [] },
                {
                  ob :=
                    [(0,
                        [AV.sc false (Value.int IntKind.i64 ba), AV.sc false (Value.int IntKind.i64 sz),
                          AV.sl false [Sh.int IntKind.i64] rs none])],
                  nx := 1, gn := [], nv := 0, ng := 1000, ep := 1000 }))
            (RT.br (decide (0 < i))
              (RT.br
                (decide (0 ≤ IntKind.wrap IntKind.i64 (i - 1) ∧ IntKind.wrap IntKind.i64 (i - 1) < (↑(D.len rs) : Int)))
                (RT.br
                  (decide
                    (D.toI (D.cell (D.get rs (Int.toNat i)) 0) ≤
                      D.toI (D.cell (D.get rs (Int.toNat (IntKind.wrap IntKind.i64 (i - 1)))) 0)))
                  (RT.ok
                    (Ex.ret,
                      { nt := 73,
                        tm :=
                          [(1, AV.ptr 0 0), (2, AV.sc false (Value.bool false)),
                            (3, AV.sc false (Value.int IntKind.i64 i))],
                        df := [] },
                      {
                        ob :=
                          [(0,
                              [AV.sc false (Value.int IntKind.i64 ba), AV.sc false (Value.int IntKind.i64 sz),
                                AV.sl false [Sh.int IntKind.i64] rs none])],
                        nx := 1, gn := [], nv := 0, ng := 1000, ep := 1000 }))
                  (RT.ok
                    (Ex.normal,
                      { nt := 73,
                        tm :=
                          [(1, AV.ptr 0 0), (2, AV.sc false (Value.bool false)),
                            (3, AV.sc false (Value.int IntKind.i64 (IntKind.wrap IntKind.i64 (i + 1))))],
                        df := [] },
                      {
                        ob :=
                          [(0,
                              [AV.sc false (Value.int IntKind.i64 ba), AV.sc false (Value.int IntKind.i64 sz),
                                AV.sl false [Sh.int IntKind.i64] rs none])],
                        nx := 1, gn := [], nv := 0, ng := 1000, ep := 1000 })))
                (RT.bad 42))
              (RT.ok
                (Ex.normal,
                  { nt := 73,
                    tm :=
                      [(1, AV.ptr 0 0), (2, AV.sc false (Value.bool false)),
                        (3, AV.sc false (Value.int IntKind.i64 (IntKind.wrap IntKind.i64 (i + 1))))],
                    df := [] },
                  {
                    ob :=
                      [(0,
                          [AV.sc false (Value.int IntKind.i64 ba), AV.sc false (Value.int IntKind.i64 sz),
                            AV.sl false [Sh.int IntKind.i64] rs none])],
                    nx := 1, gn := [], nv := 0, ng := 1000, ep := 1000 })))))
        (RT.bad 42))
      (RT.ok
        (Ex.exit 0,
          { nt := 73,
            tm := [(1, AV.ptr 0 0), (2, AV.sc false (Value.bool false)), (3, AV.sc false (Value.int IntKind.i64 i))],
            df := [] },
          {
            ob :=
              [(0,
                  [AV.sc false (Value.int IntKind.i64 ba), AV.sc false (Value.int IntKind.i64 sz),
                    AV.sl false [Sh.int IntKind.i64] rs none])],
            nx := 1, gn := [], nv := 0, ng := 1000, ep := 1000 })) := by kernel_rfl
-- DEFS
def rplR (a : rplX) (i : Nat) : Tm := ⟨73, [(1, .ptr 0 0), (2, .sc false (.bool false)), (3, ik (i : Int))], []⟩
def rplT : rplX × Nat → RT Out := srchT (fun a => a.rs.len) (fun a => pcB a.rs a.rs a.sz) (fun _ => true) rplF rplR (fun a => rplH a 0) .ret
def rinLs (P : Program) : List (FuncId × Nat × BSpec) := [(71, 0, loopS P rinL rinDec rinT)]
def rplLs (P : Program) : List (FuncId × Nat × BSpec) := [(34, 0, loopS P rplL rplDec rplT)]
def FRin : List AV → RT AV
  | [.sl false [.int .i64] rs none, .sc false (.int .i64 x)] => .ok (.sc false (.bool (!sOk (notIn rs x) rs.len 0)))
  | _ => .bad 690
def FRpl : List AV → RT AV
  | [.agg [.sc false (.int .i64 ba), .sc false (.int .i64 sz), .sl false [.int .i64] rs none]] => .ok (.sc false (.bool (poolB ba sz rs)))
  | _ => .bad 691
-- END
-- STOPS: pcB poolB notIn sOk
theorem rinDec_0 : ∀ F h x, rinDec F h = some x → ∃ a, x = (a, 0) ∧ F = rinF a 0 ∧ h = rinH a 0 := by
  intro F h x hx
  unfold rinDec at hx
  split at hx
  · rename_i hd
    cases hx
    obtain ⟨h1, h2⟩ := cdS_ok hd
    exact ⟨_, rfl, h1, h2⟩
  · cases hx
theorem rinDec_ok : ∀ F h x, rinDec F h = some x → F = rinF x.1 x.2 ∧ h = rinH x.1 x.2 := by
  intro F h x hx
  obtain ⟨a, rfl, h1, h2⟩ := rinDec_0 F h x hx
  exact ⟨h1, h2⟩
theorem rplDec_0 : ∀ F h x, rplDec F h = some x → ∃ a, x = (a, 0) ∧ F = rplF a 0 ∧ h = rplH a 0 := by
  intro F h x hx
  unfold rplDec at hx
  split at hx
  · rename_i hd
    cases hx
    obtain ⟨h1, h2⟩ := cdS_ok hd
    exact ⟨_, rfl, h1, h2⟩
  · cases hx
theorem rplDec_ok : ∀ F h x, rplDec F h = some x → F = rplF x.1 x.2 ∧ h = rplH x.1 x.2 := by
  intro F h x hx
  obtain ⟨a, rfl, h1, h2⟩ := rplDec_0 F h x hx
  exact ⟨h1, h2⟩
theorem rin_loop : LamE Tryz.prog 71 0 (loopS Tryz.prog rinL rinDec rinT) := by
  refine srch_loop (gs := []) (ls := []) mixed trivial trivial _ 0 100 (by kernel_rfl) rinL (by intro h; cases h) (by intro h; cases h) (fun F h x hx => rinDec_ok F h x hx) ?_
  rintro ⟨rs, x⟩ i K _ hi H1 H2 H3
  dsimp only at hi H1 H2 H3
  have hm := rs.len_le
  show (roundT rinL (evC _ _ _ _ _ _ (rinF ⟨rs, x⟩ i) (rinH ⟨rs, x⟩ 0))).holds _
  unfold rinL rinF rinH
  rw [rin_body]
  simp only [Int.toNat_natCast]
  refine ⟨fun h1 => ⟨fun h2 => ⟨fun h3 => ?_, fun h3 => ?_⟩, fun h2 => ?_⟩, fun h1 => ?_⟩
  all_goals first | replace h1 : (i : Int) < rs.len := of_decide_eq_true h1 | replace h1 : ¬ (i : Int) < rs.len := of_decide_eq_false h1
  · exact H2 (by omega) (by unfold notIn; rw [show (rsC rs i == x) = true from h3]; rfl)
  · rw [wrap_nat (show i < rs.len by omega) hm]
    exact H1 (by omega) (by unfold notIn; rw [show (rsC rs i == x) = false from h3]; rfl)
  · have h2 := of_decide_eq_false h2
    omega
  · obtain rfl : i = rs.len := by omega
    exact H3 rfl
theorem rpl_loop : LamE Tryz.prog 34 0 (loopS Tryz.prog rplL rplDec rplT) := by
  refine srch_loop (gs := []) (ls := []) mixed trivial trivial _ 0 100 (by kernel_rfl) rplL (by intro h; cases h) (by intro h; cases h) (fun F h x hx => rplDec_ok F h x hx) ?_
  rintro ⟨ba, sz, rs⟩ i K _ hi H1 H2 H3
  dsimp only at hi H1 H2 H3
  have hm := rs.len_le
  show (roundT rplL (evC _ _ _ _ _ _ (rplF ⟨ba, sz, rs⟩ i) (rplH ⟨ba, sz, rs⟩ 0))).holds _
  unfold rplL rplF rplH
  rw [rpl_body]
  simp only [Int.toNat_natCast]
  have bad1 : ¬ (0 ≤ rsC rs i ∧ rsC rs i < sz) → pcB rs rs sz i = false := fun h => by unfold pcB; rw [decide_eq_false h, Bool.false_and]
  refine ⟨fun h1 => ⟨fun h2 => ⟨fun h3 => ?_, fun h3 => ⟨fun h4 => ?_, fun h4 => ⟨fun h5 => ⟨fun h6 => ⟨fun h7 => ?_, fun h7 => ?_⟩, fun h6 => ?_⟩, fun h5 => ?_⟩⟩⟩, fun h2 => ?_⟩, fun h1 => ?_⟩
  all_goals first | replace h1 : (i : Int) < rs.len := of_decide_eq_true h1 | replace h1 : ¬ (i : Int) < rs.len := of_decide_eq_false h1
  · have h3 : rsC rs i < 0 := of_decide_eq_true h3
    exact H2 (by omega) (bad1 (by omega))
  · have h4 : sz ≤ rsC rs i := of_decide_eq_true h4
    exact H2 (by omega) (bad1 (by omega))
  · have h5 : 0 < (i : Int) := of_decide_eq_true h5
    rw [wrap_pre (by omega) (show i ≤ rs.len by omega) hm, Int.toNat_natCast] at h7
    have h7 : rsC rs i ≤ rsC rs (i - 1) := of_decide_eq_true h7
    refine H2 (by omega) ?_
    unfold pcB
    rw [decide_eq_false (show ¬ i = 0 by omega), decide_eq_false (show ¬ rsC rs (i - 1) < rsC rs i by omega)]
    simp
  · have h5 : 0 < (i : Int) := of_decide_eq_true h5
    have h3 : ¬ rsC rs i < 0 := of_decide_eq_false h3
    have h4 : ¬ sz ≤ rsC rs i := of_decide_eq_false h4
    rw [wrap_pre (by omega) (show i ≤ rs.len by omega) hm, Int.toNat_natCast] at h7
    have h7 : ¬ rsC rs i ≤ rsC rs (i - 1) := of_decide_eq_false h7
    rw [wrap_nat (show i < rs.len by omega) hm]
    refine H1 (by omega) ?_
    unfold pcB
    rw [decide_eq_true (show 0 ≤ rsC rs i ∧ rsC rs i < sz by omega), decide_eq_true (show rsC rs (i - 1) < rsC rs i by omega)]
    simp
  · have h5 : 0 < (i : Int) := of_decide_eq_true h5
    have h6 := of_decide_eq_false h6
    rw [wrap_pre (by omega) (show i ≤ rs.len by omega) hm] at h6
    omega
  · have h5 : ¬ 0 < (i : Int) := of_decide_eq_false h5
    have h3 : ¬ rsC rs i < 0 := of_decide_eq_false h3
    have h4 : ¬ sz ≤ rsC rs i := of_decide_eq_false h4
    rw [wrap_nat (show i < rs.len by omega) hm]
    refine H1 (by omega) ?_
    unfold pcB
    rw [decide_eq_true (show 0 ≤ rsC rs i ∧ rsC rs i < sz by omega), decide_eq_true (show i = 0 by omega)]
    simp
  · have h2 := of_decide_eq_false h2
    omega
  · obtain rfl : i = rs.len := by omega
    exact H3 rfl
theorem rinLs_ok : LamL Tryz.prog (rinLs Tryz.prog) := ⟨rin_loop, trivial⟩
theorem rplLs_ok : LamL Tryz.prog (rplLs Tryz.prog) := ⟨rpl_loop, trivial⟩
theorem rpl_tree (ba sz : Int) (rs : D) : treeF (evF Tryz.prog (gam []) (lam (rplLs Tryz.prog)) 100 34) [.agg [ik ba, ik sz, .sl false inS rs none]] =
    RT.br (decide (ba < 1)) (RT.ok (AV.sc true (Value.bool false)))
      (RT.br (decide (4294967294 < ba)) (RT.ok (AV.sc true (Value.bool false)))
        (RT.br (decide (sz < 0)) (RT.ok (AV.sc true (Value.bool false)))
          (RT.br (decide (65536 < sz)) (RT.ok (AV.sc true (Value.bool false)))
            (RT.br (decide (4294967295 < IntKind.wrap IntKind.i64 (ba + sz))) (RT.ok (AV.sc true (Value.bool false)))
              (RT.br (decide (sz < (↑(D.len rs) : Int))) (RT.ok (AV.sc true (Value.bool false)))
                (RT.br true
                  (RT.br (sOk (pcB rs rs (D.toI (D.i sz))) (D.len rs - 0) 0) (RT.ok (AV.sc true (Value.bool true)))
                    (RT.ok (AV.sc false (Value.bool false))))
                  (RT.bad 210))))))) := by kernel_rfl
theorem rin_tree (rs : D) (x : Int) : treeF (evF Tryz.prog (gam []) (lam (rinLs Tryz.prog)) 100 71) [.sl false inS rs none, ik x] =
    RT.br true
      (RT.br (sOk (notIn rs (D.toI (D.i x))) (D.len rs - 0) 0) (RT.ok (AV.sc true (Value.bool false)))
        (RT.ok (AV.sc false (Value.bool true))))
      (RT.bad 210) := by kernel_rfl
theorem rin_soundF : SoundF Tryz.prog 71 (pureS Tryz.prog 71 FRin) := by
  refine pure_in mixed (gs := []) trivial rinLs_ok _ 100 fun args K ho H => ?_
  unfold FRin at H
  split at H
  · rename_i rs x
    rw [show ([.sl false [.int .i64] rs none, .sc false (.int .i64 x)] : List AV) = [.sl false inS rs none, ik x] from rfl, rin_tree, Nat.sub_zero]
    refine ⟨fun _ => ⟨fun h => ?_, fun h => ?_⟩, fun h => by cases h⟩
    · exact ⟨_, le_bool (show false = !sOk (notIn rs x) rs.len 0 by rw [show sOk (notIn rs x) rs.len 0 = true from h]; rfl), H⟩
    · exact ⟨_, le_bool (show true = !sOk (notIn rs x) rs.len 0 by rw [show sOk (notIn rs x) rs.len 0 = false from h]; rfl), H⟩
  · exact H.elim
theorem rpl_soundF : SoundF Tryz.prog 34 (pureS Tryz.prog 34 FRpl) := by
  refine pure_in mixed (gs := []) trivial rplLs_ok _ 100 fun args K ho H => ?_
  unfold FRpl at H
  split at H
  · rename_i ba sz rs
    rw [rpl_tree, Nat.sub_zero]
    have out : ∀ {kn b : Bool}, b = poolB ba sz rs → ∃ y, Le (.sc kn (.bool b)) y ∧ K y := fun he => ⟨_, le_bool he, H⟩
    have no : ¬ (1 ≤ ba ∧ ba ≤ 4294967294 ∧ 0 ≤ sz ∧ sz ≤ 65536 ∧ ba + sz - 1 ≤ 4294967294) → false = poolB ba sz rs := fun h => by unfold poolB; rw [decide_eq_false h]; rfl
    refine ⟨fun h1 => out (no ?_), fun h1 => ⟨fun h2 => out (no ?_), fun h2 => ⟨fun h3 => out (no ?_), fun h3 => ⟨fun h4 => out (no ?_), fun h4 => ?_⟩⟩⟩⟩
    · have := of_decide_eq_true h1; omega
    · have := of_decide_eq_true h2; omega
    · have := of_decide_eq_true h3; omega
    · have := of_decide_eq_true h4; omega
    have h1 := of_decide_eq_false h1
    have h2 := of_decide_eq_false h2
    have h3 := of_decide_eq_false h3
    have h4 := of_decide_eq_false h4
    rw [wrap_i64 (n := ba + sz) (by omega)]
    refine ⟨fun h5 => out (no ?_), fun h5 => ?_⟩
    · have := of_decide_eq_true h5; omega
    have h5 := of_decide_eq_false h5
    have hp : poolB ba sz rs = sOk (pcB rs rs sz) rs.len 0 := by
      unfold poolB
      rw [decide_eq_true (by omega), Bool.true_and]
    refine ⟨fun h6 => out ?_, fun h6 => ⟨fun _ => ⟨fun h7 => out ?_, fun h7 => out ?_⟩, fun h => by cases h⟩⟩
    · cases hb : poolB ba sz rs
      · rfl
      · have hall := (poolB_of hb).2
        have h6 := of_decide_eq_true h6
        have e := rise_len hall (rs.len - 1) (by omega)
        have e2 := (hall (rs.len - 1) (by omega)).1
        omega
    · rw [hp]; exact h7.symm
    · rw [hp]; exact h7.symm
  · exact H.elim
end
end Go.Proofs.YtomblhnchdokmaaGreatDoor

namespace Go.Proofs.YtomblhnchdokmaaGreatDoor
set_option linter.unusedSimpArgs false
set_option linter.unusedVariables false
open Go.RowKit
set_option maxRecDepth 100000
noncomputable section
-- NATLE
-- DEFS
abbrev u8j (n : Int) : AV := .sc false (.int .u8 n)
def FRkd : List AV → RT AV
  | [.agg [.sc false (.int .u8 a), .sc false (.int .u8 b), .sc false (.int .u8 c), .sc false (.int .u8 d), .sc false (.int .u8 e), .sc false (.int .u8 f)]] => need false (decide ((0 ≤ a ∧ a ≤ 255) ∧ (0 ≤ b ∧ b ≤ 255) ∧ (0 ≤ c ∧ c ≤ 255) ∧ (0 ≤ d ∧ d ≤ 255) ∧ (0 ≤ e ∧ e ≤ 255) ∧ (0 ≤ f ∧ f ≤ 255))) 692 (.ok (ik (knE a b c d e f)))
  | _ => .bad 693
def ckB (s : D) (t : Int) : Bool := decide (1 ≤ s.len ∧ s.len ≤ 64 ∧ 1 ≤ t ∧ t ≤ 1099511627776)
def FRck : List AV → RT AV
  | [.agg [.sl false [.int .u8] s none, .sc false (.int .i64 t)]] => .ok (.sc false (.bool (ckB s t)))
  | _ => .bad 694
def FRrt : List AV → RT AV
  | [.agg [.sc false (.int .i64 a), .sc false (.int .i64 b)]] => .ok (.sc false (.bool (rateB a b)))
  | _ => .bad 695
def lcB (a b c d e f g o : Int) : Bool := lcfB a b c d e f g && decide (1 ≤ o ∧ o ≤ 4294967294)
def FRlc : List AV → RT AV
  | [.agg [.sc false (.int .i64 a), .sc false (.int .i64 b), .sc false (.int .i64 c), .sc false (.int .i64 d), .sc false (.int .i64 e), .sc false (.int .i64 f), .sc false (.int .i64 g), .sc false (.int .i64 o)]] => .ok (.sc false (.bool (lcB a b c d e f g o)))
  | _ => .bad 696
-- END
theorem rkd_tree (m0 m1 m2 m3 m4 m5 : Int) : treeF (evF Tryz.prog (gam []) (lam []) 100 31) [.agg [u8j m0, u8j m1, u8j m2, u8j m3, u8j m4, u8j m5]] =
    RT.br
      (IntKind.wrap IntKind.i64
          (IntKind.wrap IntKind.i64
              (IntKind.wrap IntKind.i64
                  (IntKind.wrap IntKind.i64
                      (IntKind.wrap IntKind.i64
                          (IntKind.wrap IntKind.i64 (0 + IntKind.wrap IntKind.i64 m0) + IntKind.wrap IntKind.i64 m1) +
                        IntKind.wrap IntKind.i64 m2) +
                    IntKind.wrap IntKind.i64 m3) +
                IntKind.wrap IntKind.i64 m4) +
            IntKind.wrap IntKind.i64 m5) ==
        0)
      (RT.ok (AV.sc true (Value.int IntKind.i64 1)))
      (RT.br
        (IntKind.wrap IntKind.i64
            (IntKind.wrap IntKind.i64
                (IntKind.wrap IntKind.i64
                    (IntKind.wrap IntKind.i64
                        (IntKind.wrap IntKind.i64
                            (IntKind.wrap IntKind.i64 (0 + IntKind.wrap IntKind.i64 m0) + IntKind.wrap IntKind.i64 m1) +
                          IntKind.wrap IntKind.i64 m2) +
                      IntKind.wrap IntKind.i64 m3) +
                  IntKind.wrap IntKind.i64 m4) +
              IntKind.wrap IntKind.i64 m5) ==
          1530)
        (RT.ok (AV.sc true (Value.int IntKind.i64 2)))
        (RT.br true
          (RT.br (Int.tmod m0 2 == 1) (RT.ok (AV.sc true (Value.int IntKind.i64 3)))
            (RT.ok (AV.sc true (Value.int IntKind.i64 4))))
          (RT.bad 21))) := by kernel_rfl
theorem rck_tree (s : D) (t : Int) : treeF (evF Tryz.prog (gam []) (lam []) 100 32) [.agg [.sl false [.int .u8] s none, ik t]] =
    RT.br (decide (1 ≤ (↑(D.len s) : Int)))
      (RT.br (decide ((↑(D.len s) : Int) ≤ 64))
        (RT.br (decide (1 ≤ t)) (RT.ok (AV.sc false (Value.bool (decide (t ≤ 1099511627776)))))
          (RT.ok (AV.sc true (Value.bool false))))
        (RT.ok (AV.sc true (Value.bool false))))
      (RT.ok (AV.sc true (Value.bool false))) := by kernel_rfl
theorem rrt_tree (a b : Int) : treeF (evF Tryz.prog (gam []) (lam []) 100 33) [.agg [ik a, ik b]] =
    RT.br (decide (0 ≤ a))
      (RT.br (decide (a ≤ 1048576))
        (RT.br (decide (1 ≤ b)) (RT.ok (AV.sc false (Value.bool (decide (b ≤ 1048576)))))
          (RT.ok (AV.sc true (Value.bool false))))
        (RT.ok (AV.sc true (Value.bool false))))
      (RT.ok (AV.sc true (Value.bool false))) := by kernel_rfl
theorem rlc_tree (a b c d e f g o : Int) : treeF (evF Tryz.prog (gam []) (lam []) 100 35) [.agg [ik a, ik b, ik c, ik d, ik e, ik f, ik g, ik o]] =
    RT.br (decide (128 ≤ a))
      (RT.br (decide (a ≤ 1492))
        (RT.br (decide (1 ≤ b))
          (RT.br (decide (b ≤ 1000))
            (RT.br (decide (1 ≤ c))
              (RT.br (decide (c ≤ 1000))
                (RT.br (decide (0 ≤ d))
                  (RT.br (decide (d ≤ 1000))
                    (RT.br (decide (1 ≤ e))
                      (RT.br (decide (e ≤ 1048576))
                        (RT.br (decide (0 ≤ f))
                          (RT.br (decide (f ≤ 1048576))
                            (RT.br (decide (1 ≤ g))
                              (RT.br (decide (g ≤ 1000))
                                (RT.br (decide (1 ≤ o)) (RT.ok (AV.sc false (Value.bool (decide (o ≤ 4294967294)))))
                                  (RT.ok (AV.sc true (Value.bool false))))
                                (RT.ok (AV.sc true (Value.bool false))))
                              (RT.ok (AV.sc true (Value.bool false))))
                            (RT.ok (AV.sc true (Value.bool false))))
                          (RT.ok (AV.sc true (Value.bool false))))
                        (RT.ok (AV.sc true (Value.bool false))))
                      (RT.ok (AV.sc true (Value.bool false))))
                    (RT.ok (AV.sc true (Value.bool false))))
                  (RT.ok (AV.sc true (Value.bool false))))
                (RT.ok (AV.sc true (Value.bool false))))
              (RT.ok (AV.sc true (Value.bool false))))
            (RT.ok (AV.sc true (Value.bool false))))
          (RT.ok (AV.sc true (Value.bool false))))
        (RT.ok (AV.sc true (Value.bool false))))
      (RT.ok (AV.sc true (Value.bool false))) := by kernel_rfl
theorem sum_bytes {n a b c d e f : Int} (h : (0 ≤ a ∧ a ≤ 255) ∧ (0 ≤ b ∧ b ≤ 255) ∧ (0 ≤ c ∧ c ≤ 255) ∧ (0 ≤ d ∧ d ≤ 255) ∧ (0 ≤ e ∧ e ≤ 255) ∧ (0 ≤ f ∧ f ≤ 255)) (hn : n = 0 ∨ n = 255) : (a + b + c + d + e + f == 6 * n) = allI n a b c d e f := by
  unfold allI
  rw [Bool.eq_iff_iff]
  simp only [Bool.and_eq_true, beq_iff_eq]
  rcases hn with rfl | rfl <;> omega
theorem odd_byte {a : Int} (h : 0 ≤ a ∧ a ≤ 255) : (IntKind.wrap IntKind.u8 ((BitVec.ofInt 8 a &&& BitVec.ofInt 8 1).toNat : Int) == 1) = (Int.tmod a 2 == 1) := by
  obtain ⟨m, rfl⟩ := Int.eq_ofNat_of_zero_le h.1
  have hm : m < 256 := by omega
  have e1 : BitVec.ofInt 8 (m : Int) = BitVec.ofNat 8 m := by
    apply BitVec.eq_of_toNat_eq
    rw [BitVec.toNat_ofInt, BitVec.toNat_ofNat]
    omega
  rw [e1, show (1 : Int) = ((1 : Nat) : Int) from rfl, show BitVec.ofInt 8 ((1 : Nat) : Int) = BitVec.ofNat 8 1 from rfl, BitVec.toNat_and, BitVec.toNat_ofNat, BitVec.toNat_ofNat, Nat.mod_eq_of_lt hm, show 1 % 2 ^ 8 = 1 from rfl, Nat.and_one_is_mod, show Int.tmod (m : Int) 2 = ((m % 2 : Nat) : Int) from rfl]
  rcases Nat.mod_two_eq_zero_or_one m with h | h <;> rw [h] <;> rfl
theorem rkd_soundF : SoundF Tryz.prog 31 (pureS Tryz.prog 31 FRkd) := by
  refine pure_in mixed (gs := []) (ls := []) trivial trivial _ 100 fun args K ho H => ?_
  unfold FRkd at H
  split at H
  · rename_i a b c d e f
    obtain ⟨hc, H⟩ := need_holds H
    have hc := of_decide_eq_true hc
    rw [show ([.agg [.sc false (.int .u8 a), .sc false (.int .u8 b), .sc false (.int .u8 c), .sc false (.int .u8 d), .sc false (.int .u8 e), .sc false (.int .u8 f)]] : List AV) = [.agg [u8j a, u8j b, u8j c, u8j d, u8j e, u8j f]] from rfl, rkd_tree]
    rw [wrap_i64 (n := a) (by omega), wrap_i64 (n := b) (by omega), wrap_i64 (n := c) (by omega), wrap_i64 (n := d) (by omega), wrap_i64 (n := e) (by omega), wrap_i64 (n := f) (by omega), Int.zero_add, wrap_i64 (n := a) (by omega), wrap_i64 (n := a + b) (by omega), wrap_i64 (n := a + b + c) (by omega), wrap_i64 (n := a + b + c + d) (by omega), wrap_i64 (n := a + b + c + d + e) (by omega), wrap_i64 (n := a + b + c + d + e + f) (by omega)]
    have s0 := sum_bytes (n := 0) hc (.inl rfl)
    have s1 := sum_bytes (n := 255) hc (.inr rfl)
    have s2 := odd_byte hc.1
    refine ⟨fun h => ⟨_, le_int ?_, H⟩, fun h1 => ⟨fun h => ⟨_, le_int ?_, H⟩, fun h2 => ⟨fun _ => ⟨fun h => ⟨_, le_int ?_, H⟩, fun h => ⟨_, le_int ?_, H⟩⟩, fun h => by cases h⟩⟩⟩
    · unfold knE; rw [← s0, show (a + b + c + d + e + f == 6 * 0) = true from h]; rfl
    · unfold knE; rw [← s0, ← s1, show (a + b + c + d + e + f == 6 * 0) = false from h1, show (a + b + c + d + e + f == 6 * 255) = true from h]; rfl
    · unfold knE; rw [← s0, ← s1, s2, show (a + b + c + d + e + f == 6 * 0) = false from h1, show (a + b + c + d + e + f == 6 * 255) = false from h2, show (Int.tmod a 2 == 1) = true from h]; rfl
    · unfold knE; rw [← s0, ← s1, s2, show (a + b + c + d + e + f == 6 * 0) = false from h1, show (a + b + c + d + e + f == 6 * 255) = false from h2, show (Int.tmod a 2 == 1) = false from h]; rfl
  · exact H.elim
theorem rck_soundF : SoundF Tryz.prog 32 (pureS Tryz.prog 32 FRck) := by
  refine pure_in mixed (gs := []) (ls := []) trivial trivial _ 100 fun args K ho H => ?_
  unfold FRck at H
  split at H
  · rename_i s t
    rw [show ([.agg [.sl false [.int .u8] s none, .sc false (.int .i64 t)]] : List AV) = [.agg [.sl false [.int .u8] s none, ik t]] from rfl, rck_tree]
    have out : ∀ {kn b : Bool}, (b = true ↔ (1 ≤ s.len ∧ s.len ≤ 64 ∧ 1 ≤ t ∧ t ≤ 1099511627776)) → ∃ y, Le (.sc kn (.bool b)) y ∧ K y := fun h => ⟨_, le_bool (by unfold ckB; rw [Bool.eq_iff_iff, decide_eq_true_eq]; exact h), H⟩
    refine ⟨fun h1 => ⟨fun h2 => ⟨fun h3 => out ?_, fun h3 => out ?_⟩, fun h2 => out ?_⟩, fun h1 => out ?_⟩
    all_goals simp only [decide_eq_true_eq, decide_eq_false_iff_not, Bool.false_eq_true, false_iff] at *
    all_goals omega
  · exact H.elim
theorem rrt_soundF : SoundF Tryz.prog 33 (pureS Tryz.prog 33 FRrt) := by
  refine pure_in mixed (gs := []) (ls := []) trivial trivial _ 100 fun args K ho H => ?_
  unfold FRrt at H
  split at H
  · rename_i a b
    rw [show ([.agg [.sc false (.int .i64 a), .sc false (.int .i64 b)]] : List AV) = [.agg [ik a, ik b]] from rfl, rrt_tree]
    have out : ∀ {kn q : Bool}, (q = true ↔ (0 ≤ a ∧ a ≤ 1048576 ∧ 1 ≤ b ∧ b ≤ 1048576)) → ∃ y, Le (.sc kn (.bool q)) y ∧ K y := fun h => ⟨_, le_bool (by unfold rateB; rw [Bool.eq_iff_iff, decide_eq_true_eq]; exact h), H⟩
    refine ⟨fun h1 => ⟨fun h2 => ⟨fun h3 => out ?_, fun h3 => out ?_⟩, fun h2 => out ?_⟩, fun h1 => out ?_⟩
    all_goals simp only [decide_eq_true_eq, decide_eq_false_iff_not, Bool.false_eq_true, false_iff] at *
    all_goals omega
  · exact H.elim
theorem rlc_soundF : SoundF Tryz.prog 35 (pureS Tryz.prog 35 FRlc) := by
  refine pure_in mixed (gs := []) (ls := []) trivial trivial _ 100 fun args K ho H => ?_
  unfold FRlc at H
  split at H
  · rename_i a b c d e f g o
    rw [show ([.agg [.sc false (.int .i64 a), .sc false (.int .i64 b), .sc false (.int .i64 c), .sc false (.int .i64 d), .sc false (.int .i64 e), .sc false (.int .i64 f), .sc false (.int .i64 g), .sc false (.int .i64 o)]] : List AV) = [.agg [ik a, ik b, ik c, ik d, ik e, ik f, ik g, ik o]] from rfl, rlc_tree]
    have out : ∀ {kn q : Bool}, (q = true ↔ ((128 ≤ a ∧ a ≤ 1492 ∧ 1 ≤ b ∧ b ≤ 1000 ∧ 1 ≤ c ∧ c ≤ 1000 ∧ 0 ≤ d ∧ d ≤ 1000 ∧ 1 ≤ e ∧ e ≤ 1048576 ∧ 0 ≤ f ∧ f ≤ 1048576 ∧ 1 ≤ g ∧ g ≤ 1000) ∧ 1 ≤ o ∧ o ≤ 4294967294)) → ∃ y, Le (.sc kn (.bool q)) y ∧ K y := fun h => ⟨_, le_bool (by unfold lcB lcfB; rw [Bool.eq_iff_iff, Bool.and_eq_true, decide_eq_true_eq, decide_eq_true_eq]; exact h), H⟩
    refine ⟨fun h1 => ⟨fun h2 => ⟨fun h3 => ⟨fun h4 => ⟨fun h5 => ⟨fun h6 => ⟨fun h7 => ⟨fun h8 => ⟨fun h9 => ⟨fun h10 => ⟨fun h11 => ⟨fun h12 => ⟨fun h13 => ⟨fun h14 => ⟨fun h15 => out ?_, fun h => out ?_⟩, fun h => out ?_⟩, fun h => out ?_⟩, fun h => out ?_⟩, fun h => out ?_⟩, fun h => out ?_⟩, fun h => out ?_⟩, fun h => out ?_⟩, fun h => out ?_⟩, fun h => out ?_⟩, fun h => out ?_⟩, fun h => out ?_⟩, fun h => out ?_⟩, fun h => out ?_⟩, fun h => out ?_⟩
    all_goals simp only [decide_eq_true_eq, decide_eq_false_iff_not, Bool.false_eq_true, false_iff] at *
    all_goals omega
  · exact H.elim
end
end Go.Proofs.YtomblhnchdokmaaGreatDoor

namespace Go.Proofs.YtomblhnchdokmaaGreatDoor
set_option linter.unusedSimpArgs false
set_option linter.unusedVariables false
open Go.RowKit
set_option maxRecDepth 100000
noncomputable section
-- DEFS
structure rsiX where
  n : Int
  nm : ByteArray
  sv : D
  m0 : Int
  m1 : Int
  m2 : Int
  m3 : Int
  m4 : Int
  m5 : Int
  sc : D
  tk : Int
  a1 : Int
  a2 : Int
  o1 : Int
  o2 : Int
  lo : Int
  hi : Int
  qu : Int
  ba : Int
  sz : Int
  rs : D
  l1 : Int
  l2 : Int
  l3 : Int
  l4 : Int
  l5 : Int
  l6 : Int
  l7 : Int
  ow : Int
  id : Int
  sh : Int
  wk : Int
  rm : Int
def rsiL : Lw := ⟨[1, 2, 3, 4], [], 1, 0, 2000, 2000⟩
def rsiF (a : rsiX) (i : Nat) : Tm := ⟨131, [(1, .ptr 0 0), (2, .sc false (.bool false)), (3, .sc false (.int .i64 a.n)), (4, .sc false (.int .i64 (i : Int)))], []⟩
def rsiH (a : rsiX) (i : Nat) : Hp := ⟨[(0, [.sc false (.string a.nm), .sl false stS a.sv none, .sc false (.int .u8 a.m0), .sc false (.int .u8 a.m1), .sc false (.int .u8 a.m2), .sc false (.int .u8 a.m3), .sc false (.int .u8 a.m4), .sc false (.int .u8 a.m5), .sl false byS a.sc none, .sc false (.int .i64 a.tk), .sc false (.int .i64 a.a1), .sc false (.int .i64 a.a2), .sc false (.int .i64 a.o1), .sc false (.int .i64 a.o2), .sc false (.int .i64 a.lo), .sc false (.int .i64 a.hi), .sc false (.int .i64 a.qu), .sc false (.int .i64 a.ba), .sc false (.int .i64 a.sz), .sl false inS a.rs none, .sc false (.int .i64 a.l1), .sc false (.int .i64 a.l2), .sc false (.int .i64 a.l3), .sc false (.int .i64 a.l4), .sc false (.int .i64 a.l5), .sc false (.int .i64 a.l6), .sc false (.int .i64 a.l7), .sc false (.int .i64 a.ow), .sc false (.int .i64 a.id), .sc false (.int .i64 a.sh), .sc false (.int .i64 a.wk), .sc false (.int .i64 a.rm)])], 1, [], 0, 2000, 2000⟩
def rsiC : Cs := ⟨131, [(1, .lit (.ptr 0 0)), (2, .lit (.sc false (.bool false))), (3, .int .i64), (4, .lit (.sc false (.int .i64 0)))], [(0, [.str, .sl stS, .int .u8, .int .u8, .int .u8, .int .u8, .int .u8, .int .u8, .sl byS, .int .i64, .int .i64, .int .i64, .int .i64, .int .i64, .int .i64, .int .i64, .int .i64, .int .i64, .int .i64, .sl inS, .int .i64, .int .i64, .int .i64, .int .i64, .int .i64, .int .i64, .int .i64, .int .i64, .int .i64, .int .i64, .int .i64, .int .i64])], 1, [], 0, 2000, 2000⟩
noncomputable def rsiDec (F : Tm) (h : Hp) : Option (rsiX × Nat) := match cdS rsiC F h with
  | some (v0 :: v1 :: v2 :: v3 :: v4 :: v5 :: v6 :: v7 :: v8 :: v9 :: v10 :: v11 :: v12 :: v13 :: v14 :: v15 :: v16 :: v17 :: v18 :: v19 :: r) => (match r with | [v20, v21, v22, v23, v24, v25, v26, v27, v28, v29, v30, v31, v32] => some (⟨v0.toI, v1.toS, v2, v3.toI, v4.toI, v5.toI, v6.toI, v7.toI, v8.toI, v9, v10.toI, v11.toI, v12.toI, v13.toI, v14.toI, v15.toI, v16.toI, v17.toI, v18.toI, v19.toI, v20, v21.toI, v22.toI, v23.toI, v24.toI, v25.toI, v26.toI, v27.toI, v28.toI, v29.toI, v30.toI, v31.toI, v32.toI⟩, 0) | _ => none)
  | _ => none
-- END
theorem rsi_body (n : Int) (nm : ByteArray) (sv : D) (m0 : Int) (m1 : Int) (m2 : Int) (m3 : Int) (m4 : Int) (m5 : Int) (sc : D) (tk : Int) (a1 : Int) (a2 : Int) (o1 : Int) (o2 : Int) (lo : Int) (hi : Int) (qu : Int) (ba : Int) (sz : Int) (rs : D) (l1 : Int) (l2 : Int) (l3 : Int) (l4 : Int) (l5 : Int) (l6 : Int) (l7 : Int) (ow : Int) (id : Int) (sh : Int) (wk : Int) (rm : Int) (i : Int) : roundT (⟨[1, 2, 3, 4], [], 1, 0, 2000, 2000⟩) (evC Tryz.prog (gam ([])) (lam ([])) 100 7 (loopAt 2 (bodyOf Tryz.prog 7)) (⟨131, [(1, .ptr 0 0), (2, .sc false (.bool false)), (3, .sc false (.int .i64 n)), (4, .sc false (.int .i64 i))], []⟩) (⟨[(0, [.sc false (.string nm), .sl false stS sv none, .sc false (.int .u8 m0), .sc false (.int .u8 m1), .sc false (.int .u8 m2), .sc false (.int .u8 m3), .sc false (.int .u8 m4), .sc false (.int .u8 m5), .sl false byS sc none, .sc false (.int .i64 tk), .sc false (.int .i64 a1), .sc false (.int .i64 a2), .sc false (.int .i64 o1), .sc false (.int .i64 o2), .sc false (.int .i64 lo), .sc false (.int .i64 hi), .sc false (.int .i64 qu), .sc false (.int .i64 ba), .sc false (.int .i64 sz), .sl false inS rs none, .sc false (.int .i64 l1), .sc false (.int .i64 l2), .sc false (.int .i64 l3), .sc false (.int .i64 l4), .sc false (.int .i64 l5), .sc false (.int .i64 l6), .sc false (.int .i64 l7), .sc false (.int .i64 ow), .sc false (.int .i64 id), .sc false (.int .i64 sh), .sc false (.int .i64 wk), .sc false (.int .i64 rm)])], 1, [], 0, 2000, 2000⟩)) =
    RT.br (decide (i < n))
      (RT.br (decide (0 ≤ i ∧ i < (↑(D.len sv) : Int)))
        (RT.br (decide (0 ≤ n ∧ n < (↑(D.len sv) : Int)))
          (RT.br
            (ByteArray.toList (D.toS (D.cell (D.get sv (Int.toNat i)) 0)) ==
              ByteArray.toList (D.toS (D.cell (D.get sv (Int.toNat n)) 0)))
            (RT.ok
              (Ex.ret,
                { nt := 131,
                  tm :=
                    [(1, AV.ptr 0 0), (2, AV.sc false (Value.bool false)), (3, AV.sc false (Value.int IntKind.i64 n)),
                      (4, AV.sc false (Value.int IntKind.i64 i))],
                  df := [] },
                {
                  ob :=
                    [(0,
                        [AV.sc false (Value.string nm), AV.sl false [Sh.str] sv none, AV.sc false (Value.int IntKind.u8 m0),
                          AV.sc false (Value.int IntKind.u8 m1), AV.sc false (Value.int IntKind.u8 m2),
                          AV.sc false (Value.int IntKind.u8 m3), AV.sc false (Value.int IntKind.u8 m4),
                          AV.sc false (Value.int IntKind.u8 m5), AV.sl false [Sh.int IntKind.u8] sc none,
                          AV.sc false (Value.int IntKind.i64 tk), AV.sc false (Value.int IntKind.i64 a1),
                          AV.sc false (Value.int IntKind.i64 a2), AV.sc false (Value.int IntKind.i64 o1),
                          AV.sc false (Value.int IntKind.i64 o2), AV.sc false (Value.int IntKind.i64 lo),
                          AV.sc false (Value.int IntKind.i64 hi), AV.sc false (Value.int IntKind.i64 qu),
                          AV.sc false (Value.int IntKind.i64 ba), AV.sc false (Value.int IntKind.i64 sz),
                          AV.sl false [Sh.int IntKind.i64] rs none, AV.sc false (Value.int IntKind.i64 l1),
                          AV.sc false (Value.int IntKind.i64 l2), AV.sc false (Value.int IntKind.i64 l3),
                          AV.sc false (Value.int IntKind.i64 l4), AV.sc false (Value.int IntKind.i64 l5),
                          AV.sc false (Value.int IntKind.i64 l6), AV.sc false (Value.int IntKind.i64 l7),
                          AV.sc false (Value.int IntKind.i64 ow), AV.sc false (Value.int IntKind.i64 id),
                          AV.sc false (Value.int IntKind.i64 sh), AV.sc false (Value.int IntKind.i64 wk),
                          AV.sc false (Value.int IntKind.i64 rm)])],
                  nx := 1, gn := [], nv := 0, ng := 2000, ep := 2000 }))
            (RT.ok
              (Ex.normal,
                { nt := 131,
                  tm :=
                    [(1, AV.ptr 0 0), (2, AV.sc false (Value.bool false)), (3, AV.sc false (Value.int IntKind.i64 n)),
                      (4, AV.sc false (Value.int IntKind.i64 (IntKind.wrap IntKind.i64 (i + 1))))],
                  df := [] },
                {
                  ob :=
                    [(0,
                        [AV.sc false (Value.string nm), AV.sl false [Sh.str] sv none, AV.sc false (Value.int IntKind.u8 m0),
                          AV.sc false (Value.int IntKind.u8 m1), AV.sc false (Value.int IntKind.u8 m2),
                          AV.sc false (Value.int IntKind.u8 m3), AV.sc false (Value.int IntKind.u8 m4),
                          AV.sc false (Value.int IntKind.u8 m5), AV.sl false [Sh.int IntKind.u8] sc none,
                          AV.sc false (Value.int IntKind.i64 tk), AV.sc false (Value.int IntKind.i64 a1),
                          AV.sc false (Value.int IntKind.i64 a2), AV.sc false (Value.int IntKind.i64 o1),
                          AV.sc false (Value.int IntKind.i64 o2), AV.sc false (Value.int IntKind.i64 lo),
                          AV.sc false (Value.int IntKind.i64 hi), AV.sc false (Value.int IntKind.i64 qu),
                          AV.sc false (Value.int IntKind.i64 ba), AV.sc false (Value.int IntKind.i64 sz),
                          AV.sl false [Sh.int IntKind.i64] rs none, AV.sc false (Value.int IntKind.i64 l1),
                          AV.sc false (Value.int IntKind.i64 l2), AV.sc false (Value.int IntKind.i64 l3),
                          AV.sc false (Value.int IntKind.i64 l4), AV.sc false (Value.int IntKind.i64 l5),
                          AV.sc false (Value.int IntKind.i64 l6), AV.sc false (Value.int IntKind.i64 l7),
                          AV.sc false (Value.int IntKind.i64 ow), AV.sc false (Value.int IntKind.i64 id),
                          AV.sc false (Value.int IntKind.i64 sh), AV.sc false (Value.int IntKind.i64 wk),
                          AV.sc false (Value.int IntKind.i64 rm)])],
                  nx := 1, gn := [], nv := 0, ng := 2000, ep := 2000 })))
          (RT.bad 42))
        (RT.bad 42))
      (RT.ok
        (Ex.exit 2,
          { nt := 131,
            tm :=
              [(1, AV.ptr 0 0), (2, AV.sc false (Value.bool false)), (3, AV.sc false (Value.int IntKind.i64 n)),
                (4, AV.sc false (Value.int IntKind.i64 i))],
            df := [] },
          {
            ob :=
              [(0,
                  [AV.sc false (Value.string nm), AV.sl false [Sh.str] sv none, AV.sc false (Value.int IntKind.u8 m0),
                    AV.sc false (Value.int IntKind.u8 m1), AV.sc false (Value.int IntKind.u8 m2),
                    AV.sc false (Value.int IntKind.u8 m3), AV.sc false (Value.int IntKind.u8 m4),
                    AV.sc false (Value.int IntKind.u8 m5), AV.sl false [Sh.int IntKind.u8] sc none,
                    AV.sc false (Value.int IntKind.i64 tk), AV.sc false (Value.int IntKind.i64 a1),
                    AV.sc false (Value.int IntKind.i64 a2), AV.sc false (Value.int IntKind.i64 o1),
                    AV.sc false (Value.int IntKind.i64 o2), AV.sc false (Value.int IntKind.i64 lo),
                    AV.sc false (Value.int IntKind.i64 hi), AV.sc false (Value.int IntKind.i64 qu),
                    AV.sc false (Value.int IntKind.i64 ba), AV.sc false (Value.int IntKind.i64 sz),
                    AV.sl false [Sh.int IntKind.i64] rs none, AV.sc false (Value.int IntKind.i64 l1),
                    AV.sc false (Value.int IntKind.i64 l2), AV.sc false (Value.int IntKind.i64 l3),
                    AV.sc false (Value.int IntKind.i64 l4), AV.sc false (Value.int IntKind.i64 l5),
                    AV.sc false (Value.int IntKind.i64 l6), AV.sc false (Value.int IntKind.i64 l7),
                    AV.sc false (Value.int IntKind.i64 ow), AV.sc false (Value.int IntKind.i64 id),
                    AV.sc false (Value.int IntKind.i64 sh), AV.sc false (Value.int IntKind.i64 wk),
                    AV.sc false (Value.int IntKind.i64 rm)])],
            nx := 1, gn := [], nv := 0, ng := 2000, ep := 2000 })) := by kernel_rfl
-- DEFS
def rsiR (a : rsiX) (i : Nat) : Tm := rsiF a i
def rsiP (a : rsiX) (k : Nat) : Bool := !(srvS a.sv a.n.toNat == srvS a.sv k)
def rsiT : rsiX × Nat → RT Out := srchT (fun a => a.n.toNat) rsiP (fun a => decide (0 ≤ a.n ∧ a.n < a.sv.len)) rsiF rsiR (fun a => rsiH a 0) .ret
def rsiLs (P : Program) : List (FuncId × Nat × BSpec) := [(7, 2, loopS P rsiL rsiDec rsiT)]
-- END
-- STOPS: srvS
theorem rsiDec_0 : ∀ F h x, rsiDec F h = some x → ∃ a, x = (a, 0) ∧ F = rsiF a 0 ∧ h = rsiH a 0 := by
  intro F h x hx
  unfold rsiDec at hx
  split at hx
  · rename_i hd
    split at hx
    · cases hx
      obtain ⟨h1, h2⟩ := cdS_ok hd
      exact ⟨_, rfl, h1, h2⟩
    · cases hx
  · cases hx
theorem rsiDec_ok : ∀ F h x, rsiDec F h = some x → F = rsiF x.1 x.2 ∧ h = rsiH x.1 x.2 := by
  intro F h x hx
  obtain ⟨a, rfl, h1, h2⟩ := rsiDec_0 F h x hx
  exact ⟨h1, h2⟩
theorem rsi_loop : LamE Tryz.prog 7 2 (loopS Tryz.prog rsiL rsiDec rsiT) := by
  refine srch_loop (gs := []) (ls := []) mixed trivial trivial _ 2 100 (by kernel_rfl) rsiL (by intro h; cases h) (by intro h; cases h) (fun F h x hx => rsiDec_ok F h x hx) ?_
  rintro ⟨n, nm, sv, m0, m1, m2, m3, m4, m5, sc, tk, a1, a2, o1, o2, lo, hi, qu, ba, sz, rs, l1, l2, l3, l4, l5, l6, l7, ow, id, sh, wk, rm⟩ i K hn hle H1 H2 H3
  obtain ⟨g1, g2⟩ : 0 ≤ n ∧ n < sv.len := of_decide_eq_true hn
  dsimp only at hle H1 H2 H3
  have hm := sv.len_le
  unfold maxLen at hm
  show (roundT rsiL (evC _ _ _ _ _ _ (rsiF ⟨n, nm, sv, m0, m1, m2, m3, m4, m5, sc, tk, a1, a2, o1, o2, lo, hi, qu, ba, sz, rs, l1, l2, l3, l4, l5, l6, l7, ow, id, sh, wk, rm⟩ i) (rsiH ⟨n, nm, sv, m0, m1, m2, m3, m4, m5, sc, tk, a1, a2, o1, o2, lo, hi, qu, ba, sz, rs, l1, l2, l3, l4, l5, l6, l7, ow, id, sh, wk, rm⟩ 0))).holds _
  unfold rsiL rsiF rsiH
  rw [rsi_body]
  simp only [Int.toNat_natCast]
  have hP : (((sv.get i).cell 0).toS.toList == ((sv.get n.toNat).cell 0).toS.toList) = !rsiP ⟨n, nm, sv, m0, m1, m2, m3, m4, m5, sc, tk, a1, a2, o1, o2, lo, hi, qu, ba, sz, rs, l1, l2, l3, l4, l5, l6, l7, ow, id, sh, wk, rm⟩ i := by
    show _ = !!(srvS sv n.toNat == srvS sv i)
    rw [Bool.not_not, beq_toListBytes, Bool.eq_iff_iff, beq_iff_eq, beq_iff_eq]
    exact eq_comm
  rw [hP]
  refine ⟨fun h1 => ⟨fun h2 => ⟨fun h3 => ⟨fun h4 => ?_, fun h4 => ?_⟩, fun h3 => ?_⟩, fun h2 => ?_⟩, fun h1 => ?_⟩
  all_goals first | replace h1 : (i : Int) < n := of_decide_eq_true h1 | replace h1 : ¬ (i : Int) < n := of_decide_eq_false h1
  · exact H2 (by omega) (by rwa [Bool.not_eq_true'] at h4)
  · rw [wrap_i64 (n := (i : Int) + 1) (by omega)]
    exact H1 (by omega) (by rwa [Bool.not_eq_false'] at h4)
  · have := of_decide_eq_false h3; omega
  · have := of_decide_eq_false h2; omega
  · obtain rfl : i = n.toNat := by omega
    exact H3 rfl
theorem rsiLs_ok : LamL Tryz.prog (rsiLs Tryz.prog) := ⟨rsi_loop, trivial⟩
end
end Go.Proofs.YtomblhnchdokmaaGreatDoor

namespace Go.Proofs.YtomblhnchdokmaaGreatDoor
set_option linter.unusedSimpArgs false
set_option linter.unusedVariables false
open Go.RowKit
set_option maxRecDepth 100000
noncomputable section
-- DEFS
structure rsoX where
  nm : ByteArray
  sv : D
  m0 : Int
  m1 : Int
  m2 : Int
  m3 : Int
  m4 : Int
  m5 : Int
  sc : D
  tk : Int
  a1 : Int
  a2 : Int
  o1 : Int
  o2 : Int
  lo : Int
  hi : Int
  qu : Int
  ba : Int
  sz : Int
  rs : D
  l1 : Int
  l2 : Int
  l3 : Int
  l4 : Int
  l5 : Int
  l6 : Int
  l7 : Int
  ow : Int
  id : Int
  sh : Int
  wk : Int
  rm : Int
def rsoL : Lw := ⟨[1, 2, 3], [], 1, 0, 1000, 1000⟩
def rsoF (a : rsoX) (i : Nat) : Tm := ⟨131, [(1, .ptr 0 0), (2, .sc false (.bool false)), (3, .sc false (.int .i64 (i : Int)))], []⟩
def rsoH (a : rsoX) (i : Nat) : Hp := ⟨[(0, [.sc false (.string a.nm), .sl false stS a.sv none, .sc false (.int .u8 a.m0), .sc false (.int .u8 a.m1), .sc false (.int .u8 a.m2), .sc false (.int .u8 a.m3), .sc false (.int .u8 a.m4), .sc false (.int .u8 a.m5), .sl false byS a.sc none, .sc false (.int .i64 a.tk), .sc false (.int .i64 a.a1), .sc false (.int .i64 a.a2), .sc false (.int .i64 a.o1), .sc false (.int .i64 a.o2), .sc false (.int .i64 a.lo), .sc false (.int .i64 a.hi), .sc false (.int .i64 a.qu), .sc false (.int .i64 a.ba), .sc false (.int .i64 a.sz), .sl false inS a.rs none, .sc false (.int .i64 a.l1), .sc false (.int .i64 a.l2), .sc false (.int .i64 a.l3), .sc false (.int .i64 a.l4), .sc false (.int .i64 a.l5), .sc false (.int .i64 a.l6), .sc false (.int .i64 a.l7), .sc false (.int .i64 a.ow), .sc false (.int .i64 a.id), .sc false (.int .i64 a.sh), .sc false (.int .i64 a.wk), .sc false (.int .i64 a.rm)])], 1, [], 0, 1000, 1000⟩
def rsoC : Cs := ⟨131, [(1, .lit (.ptr 0 0)), (2, .lit (.sc false (.bool false))), (3, .lit (.sc false (.int .i64 0)))], [(0, [.str, .sl stS, .int .u8, .int .u8, .int .u8, .int .u8, .int .u8, .int .u8, .sl byS, .int .i64, .int .i64, .int .i64, .int .i64, .int .i64, .int .i64, .int .i64, .int .i64, .int .i64, .int .i64, .sl inS, .int .i64, .int .i64, .int .i64, .int .i64, .int .i64, .int .i64, .int .i64, .int .i64, .int .i64, .int .i64, .int .i64, .int .i64])], 1, [], 0, 1000, 1000⟩
noncomputable def rsoDec (F : Tm) (h : Hp) : Option (rsoX × Nat) := match cdS rsoC F h with
  | some (v0 :: v1 :: v2 :: v3 :: v4 :: v5 :: v6 :: v7 :: v8 :: v9 :: v10 :: v11 :: v12 :: v13 :: v14 :: v15 :: v16 :: v17 :: v18 :: v19 :: r) => (match r with | [v20, v21, v22, v23, v24, v25, v26, v27, v28, v29, v30, v31] => some (⟨v0.toS, v1, v2.toI, v3.toI, v4.toI, v5.toI, v6.toI, v7.toI, v8, v9.toI, v10.toI, v11.toI, v12.toI, v13.toI, v14.toI, v15.toI, v16.toI, v17.toI, v18.toI, v19, v20.toI, v21.toI, v22.toI, v23.toI, v24.toI, v25.toI, v26.toI, v27.toI, v28.toI, v29.toI, v30.toI, v31.toI⟩, 0) | _ => none)
  | _ => none
-- END
theorem rso_body (nm : ByteArray) (sv : D) (m0 : Int) (m1 : Int) (m2 : Int) (m3 : Int) (m4 : Int) (m5 : Int) (sc : D) (tk : Int) (a1 : Int) (a2 : Int) (o1 : Int) (o2 : Int) (lo : Int) (hi : Int) (qu : Int) (ba : Int) (sz : Int) (rs : D) (l1 : Int) (l2 : Int) (l3 : Int) (l4 : Int) (l5 : Int) (l6 : Int) (l7 : Int) (ow : Int) (id : Int) (sh : Int) (wk : Int) (rm : Int) (i : Int) : roundT (⟨[1, 2, 3], [], 1, 0, 1000, 1000⟩) (evC Tryz.prog (gam ([])) (lam (rsiLs Tryz.prog)) 100 7 (loopAt 0 (bodyOf Tryz.prog 7)) (⟨131, [(1, .ptr 0 0), (2, .sc false (.bool false)), (3, .sc false (.int .i64 i))], []⟩) (⟨[(0, [.sc false (.string nm), .sl false stS sv none, .sc false (.int .u8 m0), .sc false (.int .u8 m1), .sc false (.int .u8 m2), .sc false (.int .u8 m3), .sc false (.int .u8 m4), .sc false (.int .u8 m5), .sl false byS sc none, .sc false (.int .i64 tk), .sc false (.int .i64 a1), .sc false (.int .i64 a2), .sc false (.int .i64 o1), .sc false (.int .i64 o2), .sc false (.int .i64 lo), .sc false (.int .i64 hi), .sc false (.int .i64 qu), .sc false (.int .i64 ba), .sc false (.int .i64 sz), .sl false inS rs none, .sc false (.int .i64 l1), .sc false (.int .i64 l2), .sc false (.int .i64 l3), .sc false (.int .i64 l4), .sc false (.int .i64 l5), .sc false (.int .i64 l6), .sc false (.int .i64 l7), .sc false (.int .i64 ow), .sc false (.int .i64 id), .sc false (.int .i64 sh), .sc false (.int .i64 wk), .sc false (.int .i64 rm)])], 1, [], 0, 1000, 1000⟩)) =
    RT.br (decide (i < (↑(D.len sv) : Int)))
      (RT.br (decide (0 ≤ i ∧ i < (↑(D.len sv) : Int)))
        (RT.br (decide (1 ≤ (↑(ByteArray.size (D.toS (D.cell (D.get sv (Int.toNat i)) 0))) : Int)))
          (RT.br (!decide ((↑(ByteArray.size (D.toS (D.cell (D.get sv (Int.toNat i)) 0))) : Int) ≤ 64))
            (RT.ok
              (Ex.ret,
                { nt := 131,
                  tm := [(1, AV.ptr 0 0), (2, AV.sc false (Value.bool false)), (3, AV.sc false (Value.int IntKind.i64 i))],
                  df := [] },
                {
                  ob :=
                    [(0,
                        [AV.sc false (Value.string nm), AV.sl false [Sh.str] sv none, AV.sc false (Value.int IntKind.u8 m0),
                          AV.sc false (Value.int IntKind.u8 m1), AV.sc false (Value.int IntKind.u8 m2),
                          AV.sc false (Value.int IntKind.u8 m3), AV.sc false (Value.int IntKind.u8 m4),
                          AV.sc false (Value.int IntKind.u8 m5), AV.sl false [Sh.int IntKind.u8] sc none,
                          AV.sc false (Value.int IntKind.i64 tk), AV.sc false (Value.int IntKind.i64 a1),
                          AV.sc false (Value.int IntKind.i64 a2), AV.sc false (Value.int IntKind.i64 o1),
                          AV.sc false (Value.int IntKind.i64 o2), AV.sc false (Value.int IntKind.i64 lo),
                          AV.sc false (Value.int IntKind.i64 hi), AV.sc false (Value.int IntKind.i64 qu),
                          AV.sc false (Value.int IntKind.i64 ba), AV.sc false (Value.int IntKind.i64 sz),
                          AV.sl false [Sh.int IntKind.i64] rs none, AV.sc false (Value.int IntKind.i64 l1),
                          AV.sc false (Value.int IntKind.i64 l2), AV.sc false (Value.int IntKind.i64 l3),
                          AV.sc false (Value.int IntKind.i64 l4), AV.sc false (Value.int IntKind.i64 l5),
                          AV.sc false (Value.int IntKind.i64 l6), AV.sc false (Value.int IntKind.i64 l7),
                          AV.sc false (Value.int IntKind.i64 ow), AV.sc false (Value.int IntKind.i64 id),
                          AV.sc false (Value.int IntKind.i64 sh), AV.sc false (Value.int IntKind.i64 wk),
                          AV.sc false (Value.int IntKind.i64 rm)])],
                  nx := 1, gn := [], nv := 0, ng := 1000, ep := 1000 }))
            (RT.br (decide (0 ≤ i ∧ i < (↑(D.len sv) : Int)) && true)
              (RT.br
                (sOk
                  (rsiP
                    { n := D.toI (D.i i), nm := D.toS (D.s nm), sv := sv, m0 := D.toI (D.i m0), m1 := D.toI (D.i m1),
                      m2 := D.toI (D.i m2), m3 := D.toI (D.i m3), m4 := D.toI (D.i m4), m5 := D.toI (D.i m5), sc := sc,
                      tk := D.toI (D.i tk), a1 := D.toI (D.i a1), a2 := D.toI (D.i a2), o1 := D.toI (D.i o1),
                      o2 := D.toI (D.i o2), lo := D.toI (D.i lo), hi := D.toI (D.i hi), qu := D.toI (D.i qu),
                      ba := D.toI (D.i ba), sz := D.toI (D.i sz), rs := rs, l1 := D.toI (D.i l1), l2 := D.toI (D.i l2),
                      l3 := D.toI (D.i l3), l4 := D.toI (D.i l4), l5 := D.toI (D.i l5), l6 := D.toI (D.i l6),
                      l7 := D.toI (D.i l7), ow := D.toI (D.i ow), id := D.toI (D.i id), sh := D.toI (D.i sh),
                      wk := D.toI (D.i wk), rm := D.toI (D.i rm) })
                  (Int.toNat i - 0) 0)
                (RT.ok
                  (Ex.normal,
                    { nt := 131,
                      tm :=
                        [(1, AV.ptr 0 0), (2, AV.sc false (Value.bool false)),
                          (3, AV.sc false (Value.int IntKind.i64 (IntKind.wrap IntKind.i64 (i + 1))))],
                      df := [] },
                    {
                      ob :=
                        [(0,
                            [AV.sc false (Value.string nm), AV.sl false [Sh.str] sv none,
                              AV.sc false (Value.int IntKind.u8 m0), AV.sc false (Value.int IntKind.u8 m1),
                              AV.sc false (Value.int IntKind.u8 m2), AV.sc false (Value.int IntKind.u8 m3),
                              AV.sc false (Value.int IntKind.u8 m4), AV.sc false (Value.int IntKind.u8 m5),
                              AV.sl false [Sh.int IntKind.u8] sc none, AV.sc false (Value.int IntKind.i64 tk),
                              AV.sc false (Value.int IntKind.i64 a1), AV.sc false (Value.int IntKind.i64 a2),
                              AV.sc false (Value.int IntKind.i64 o1), AV.sc false (Value.int IntKind.i64 o2),
                              AV.sc false (Value.int IntKind.i64 lo), AV.sc false (Value.int IntKind.i64 hi),
                              AV.sc false (Value.int IntKind.i64 qu), AV.sc false (Value.int IntKind.i64 ba),
                              AV.sc false (Value.int IntKind.i64 sz), AV.sl false [Sh.int IntKind.i64] rs none,
                              AV.sc false (Value.int IntKind.i64 l1), AV.sc false (Value.int IntKind.i64 l2),
                              AV.sc false (Value.int IntKind.i64 l3), AV.sc false (Value.int IntKind.i64 l4),
                              AV.sc false (Value.int IntKind.i64 l5), AV.sc false (Value.int IntKind.i64 l6),
                              AV.sc false (Value.int IntKind.i64 l7), AV.sc false (Value.int IntKind.i64 ow),
                              AV.sc false (Value.int IntKind.i64 id), AV.sc false (Value.int IntKind.i64 sh),
                              AV.sc false (Value.int IntKind.i64 wk), AV.sc false (Value.int IntKind.i64 rm)])],
                      nx := 1, gn := [], nv := 0, ng := 1000, ep := 1000 }))
                (RT.ok
                  (Ex.ret,
                    { nt := 131,
                      tm :=
                        [(1, AV.ptr 0 0), (2, AV.sc false (Value.bool false)), (3, AV.sc false (Value.int IntKind.i64 i))],
                      df := [] },
                    {
                      ob :=
                        [(0,
                            [AV.sc false (Value.string nm), AV.sl false [Sh.str] sv none,
                              AV.sc false (Value.int IntKind.u8 m0), AV.sc false (Value.int IntKind.u8 m1),
                              AV.sc false (Value.int IntKind.u8 m2), AV.sc false (Value.int IntKind.u8 m3),
                              AV.sc false (Value.int IntKind.u8 m4), AV.sc false (Value.int IntKind.u8 m5),
                              AV.sl false [Sh.int IntKind.u8] sc none, AV.sc false (Value.int IntKind.i64 tk),
                              AV.sc false (Value.int IntKind.i64 a1), AV.sc false (Value.int IntKind.i64 a2),
                              AV.sc false (Value.int IntKind.i64 o1), AV.sc false (Value.int IntKind.i64 o2),
                              AV.sc false (Value.int IntKind.i64 lo), AV.sc false (Value.int IntKind.i64 hi),
                              AV.sc false (Value.int IntKind.i64 qu), AV.sc false (Value.int IntKind.i64 ba),
                              AV.sc false (Value.int IntKind.i64 sz), AV.sl false [Sh.int IntKind.i64] rs none,
                              AV.sc false (Value.int IntKind.i64 l1), AV.sc false (Value.int IntKind.i64 l2),
                              AV.sc false (Value.int IntKind.i64 l3), AV.sc false (Value.int IntKind.i64 l4),
                              AV.sc false (Value.int IntKind.i64 l5), AV.sc false (Value.int IntKind.i64 l6),
                              AV.sc false (Value.int IntKind.i64 l7), AV.sc false (Value.int IntKind.i64 ow),
                              AV.sc false (Value.int IntKind.i64 id), AV.sc false (Value.int IntKind.i64 sh),
                              AV.sc false (Value.int IntKind.i64 wk), AV.sc false (Value.int IntKind.i64 rm)])],
                      nx := 1, gn := [], nv := 0, ng := 1000, ep := 1000 })))
              (RT.bad 210)))
          (RT.ok
            (Ex.ret,
              { nt := 131,
                tm := [(1, AV.ptr 0 0), (2, AV.sc false (Value.bool false)), (3, AV.sc false (Value.int IntKind.i64 i))],
                df := [] },
              {
                ob :=
                  [(0,
                      [AV.sc false (Value.string nm), AV.sl false [Sh.str] sv none, AV.sc false (Value.int IntKind.u8 m0),
                        AV.sc false (Value.int IntKind.u8 m1), AV.sc false (Value.int IntKind.u8 m2),
                        AV.sc false (Value.int IntKind.u8 m3), AV.sc false (Value.int IntKind.u8 m4),
                        AV.sc false (Value.int IntKind.u8 m5), AV.sl false [Sh.int IntKind.u8] sc none,
                        AV.sc false (Value.int IntKind.i64 tk), AV.sc false (Value.int IntKind.i64 a1),
                        AV.sc false (Value.int IntKind.i64 a2), AV.sc false (Value.int IntKind.i64 o1),
                        AV.sc false (Value.int IntKind.i64 o2), AV.sc false (Value.int IntKind.i64 lo),
                        AV.sc false (Value.int IntKind.i64 hi), AV.sc false (Value.int IntKind.i64 qu),
                        AV.sc false (Value.int IntKind.i64 ba), AV.sc false (Value.int IntKind.i64 sz),
                        AV.sl false [Sh.int IntKind.i64] rs none, AV.sc false (Value.int IntKind.i64 l1),
                        AV.sc false (Value.int IntKind.i64 l2), AV.sc false (Value.int IntKind.i64 l3),
                        AV.sc false (Value.int IntKind.i64 l4), AV.sc false (Value.int IntKind.i64 l5),
                        AV.sc false (Value.int IntKind.i64 l6), AV.sc false (Value.int IntKind.i64 l7),
                        AV.sc false (Value.int IntKind.i64 ow), AV.sc false (Value.int IntKind.i64 id),
                        AV.sc false (Value.int IntKind.i64 sh), AV.sc false (Value.int IntKind.i64 wk),
                        AV.sc false (Value.int IntKind.i64 rm)])],
                nx := 1, gn := [], nv := 0, ng := 1000, ep := 1000 })))
        (RT.bad 42))
      (RT.ok
        (Ex.exit 0,
          { nt := 131,
            tm := [(1, AV.ptr 0 0), (2, AV.sc false (Value.bool false)), (3, AV.sc false (Value.int IntKind.i64 i))],
            df := [] },
          {
            ob :=
              [(0,
                  [AV.sc false (Value.string nm), AV.sl false [Sh.str] sv none, AV.sc false (Value.int IntKind.u8 m0),
                    AV.sc false (Value.int IntKind.u8 m1), AV.sc false (Value.int IntKind.u8 m2),
                    AV.sc false (Value.int IntKind.u8 m3), AV.sc false (Value.int IntKind.u8 m4),
                    AV.sc false (Value.int IntKind.u8 m5), AV.sl false [Sh.int IntKind.u8] sc none,
                    AV.sc false (Value.int IntKind.i64 tk), AV.sc false (Value.int IntKind.i64 a1),
                    AV.sc false (Value.int IntKind.i64 a2), AV.sc false (Value.int IntKind.i64 o1),
                    AV.sc false (Value.int IntKind.i64 o2), AV.sc false (Value.int IntKind.i64 lo),
                    AV.sc false (Value.int IntKind.i64 hi), AV.sc false (Value.int IntKind.i64 qu),
                    AV.sc false (Value.int IntKind.i64 ba), AV.sc false (Value.int IntKind.i64 sz),
                    AV.sl false [Sh.int IntKind.i64] rs none, AV.sc false (Value.int IntKind.i64 l1),
                    AV.sc false (Value.int IntKind.i64 l2), AV.sc false (Value.int IntKind.i64 l3),
                    AV.sc false (Value.int IntKind.i64 l4), AV.sc false (Value.int IntKind.i64 l5),
                    AV.sc false (Value.int IntKind.i64 l6), AV.sc false (Value.int IntKind.i64 l7),
                    AV.sc false (Value.int IntKind.i64 ow), AV.sc false (Value.int IntKind.i64 id),
                    AV.sc false (Value.int IntKind.i64 sh), AV.sc false (Value.int IntKind.i64 wk),
                    AV.sc false (Value.int IntKind.i64 rm)])],
            nx := 1, gn := [], nv := 0, ng := 1000, ep := 1000 })) := by kernel_rfl
-- DEFS
def rsoR (a : rsoX) (i : Nat) : Tm := rsoF a i
def rsoT : rsoX × Nat → RT Out := srchT (fun a => a.sv.len) (fun a => srvP (srvS a.sv)) (fun _ => true) rsoF rsoR (fun a => rsoH a 0) .ret
def rsoLs (P : Program) : List (FuncId × Nat × BSpec) := (7, 0, loopS P rsoL rsoDec rsoT) :: rsiLs P
def FRhs : List AV → RT AV
  | [.agg [.sc false (.int .i64 ba), .sc false (.int .i64 sz), .sl false [.int .i64] rs none, _], .sc false (.int .i64 a)] => need false (decide (1 ≤ ba ∧ ba ≤ 4294967294 ∧ 1 ≤ a ∧ a ≤ 4294967294 ∧ 0 ≤ sz ∧ sz ≤ 65536)) 697 (.ok (.sc false (.bool (decide (ba ≤ a ∧ a < ba + sz) && sOk (notIn rs (a - ba)) rs.len 0))))
  | _ => .bad 698
def rhsG (P : Program) : List (FuncId × Spec) := [(71, pureS P 71 FRin)]
-- END
-- STOPS: srvS notIn sOk rsiP
theorem rsoDec_0 : ∀ F h x, rsoDec F h = some x → ∃ a, x = (a, 0) ∧ F = rsoF a 0 ∧ h = rsoH a 0 := by
  intro F h x hx
  unfold rsoDec at hx
  split at hx
  · rename_i hd
    split at hx
    · cases hx
      obtain ⟨h1, h2⟩ := cdS_ok hd
      exact ⟨_, rfl, h1, h2⟩
    · cases hx
  · cases hx
theorem rsoDec_ok : ∀ F h x, rsoDec F h = some x → F = rsoF x.1 x.2 ∧ h = rsoH x.1 x.2 := by
  intro F h x hx
  obtain ⟨a, rfl, h1, h2⟩ := rsoDec_0 F h x hx
  exact ⟨h1, h2⟩
theorem rhs_tree (ba sz : Int) (rs : D) (x : AV) (a : Int) : treeF (evF Tryz.prog (gam (rhsG Tryz.prog)) (lam []) 100 37) [.agg [ik ba, ik sz, .sl false inS rs none, x], ik a] =
    RT.br (decide (a < ba)) (RT.ok (AV.sc true (Value.bool false)))
      (RT.br (decide (sz ≤ IntKind.wrap IntKind.i64 (a - ba))) (RT.ok (AV.sc true (Value.bool false)))
        (RT.ok (AV.sc false (Value.bool !!sOk (notIn rs (IntKind.wrap IntKind.i64 (a - ba))) (D.len rs) 0)))) := by kernel_rfl
theorem rso_loop : LamE Tryz.prog 7 0 (loopS Tryz.prog rsoL rsoDec rsoT) := by
  refine srch_loop (gs := []) (ls := rsiLs Tryz.prog) mixed trivial rsiLs_ok _ 0 100 (by kernel_rfl) rsoL (by intro h; cases h) (by intro h; cases h) (fun F h x hx => rsoDec_ok F h x hx) ?_
  rintro ⟨nm, sv, m0, m1, m2, m3, m4, m5, sc, tk, a1, a2, o1, o2, lo, hi, qu, ba, sz, rs, l1, l2, l3, l4, l5, l6, l7, ow, id, sh, wk, rm⟩ i K _ hle H1 H2 H3
  dsimp only at hle H1 H2 H3
  have hm := sv.len_le
  show (roundT rsoL (evC _ _ _ _ _ _ (rsoF ⟨nm, sv, m0, m1, m2, m3, m4, m5, sc, tk, a1, a2, o1, o2, lo, hi, qu, ba, sz, rs, l1, l2, l3, l4, l5, l6, l7, ow, id, sh, wk, rm⟩ i) (rsoH ⟨nm, sv, m0, m1, m2, m3, m4, m5, sc, tk, a1, a2, o1, o2, lo, hi, qu, ba, sz, rs, l1, l2, l3, l4, l5, l6, l7, ow, id, sh, wk, rm⟩ 0))).holds _
  unfold rsoL rsoF rsoH
  rw [rso_body]
  simp only [Int.toNat_natCast]
  have small : ¬ (1 ≤ (srvS sv i).size ∧ (srvS sv i).size ≤ 64) → srvP (srvS sv) i = false := fun h => by unfold srvP; rw [decide_eq_false h, Bool.false_and]
  have big : 1 ≤ (srvS sv i).size ∧ (srvS sv i).size ≤ 64 → srvP (srvS sv) i = sOk (fun k => !(srvS sv i == srvS sv k)) i 0 := fun h => by unfold srvP; rw [decide_eq_true h, Bool.true_and]
  refine ⟨fun h1 => ⟨fun h2 => ⟨fun h3 => ⟨fun h4 => ?_, fun h4 => ⟨fun h5 => ⟨fun h6 => ?_, fun h6 => ?_⟩, fun h5 => ?_⟩⟩, fun h3 => ?_⟩, fun h2 => ?_⟩, fun h1 => ?_⟩
  all_goals first | replace h1 : (i : Int) < sv.len := of_decide_eq_true h1 | replace h1 : ¬ (i : Int) < sv.len := of_decide_eq_false h1
  · have h4 : ¬ ((srvS sv i).size : Int) ≤ 64 := by rw [Bool.not_eq_true'] at h4; exact of_decide_eq_false h4
    exact H2 (by omega) (small (by omega))
  · have h3 : 1 ≤ ((srvS sv i).size : Int) := of_decide_eq_true h3
    have h4 : ((srvS sv i).size : Int) ≤ 64 := by rw [Bool.not_eq_false'] at h4; exact of_decide_eq_true h4
    rw [wrap_nat (show i < sv.len by omega) hm]
    exact H1 (by omega) ((big (by omega)).trans h6)
  · have h3 : 1 ≤ ((srvS sv i).size : Int) := of_decide_eq_true h3
    have h4 : ((srvS sv i).size : Int) ≤ 64 := by rw [Bool.not_eq_false'] at h4; exact of_decide_eq_true h4
    exact H2 (by omega) ((big (by omega)).trans h6)
  · rw [Bool.and_true] at h5
    have := of_decide_eq_false h5; omega
  · have h3 : ¬ 1 ≤ ((srvS sv i).size : Int) := of_decide_eq_false h3
    exact H2 (by omega) (small (by omega))
  · have := of_decide_eq_false h2; omega
  · obtain rfl : i = sv.len := by omega
    exact H3 rfl
theorem rsoLs_ok : LamL Tryz.prog (rsoLs Tryz.prog) := ⟨rso_loop, rsiLs_ok⟩
theorem rhsG_ok : GamL Tryz.prog (rhsG Tryz.prog) := ⟨rin_soundF, trivial⟩
theorem rhs_soundF : SoundF Tryz.prog 37 (pureS Tryz.prog 37 FRhs) := by
  refine pure_in mixed rhsG_ok (ls := []) trivial _ 100 fun args K ho H => ?_
  unfold FRhs at H
  split at H
  · rename_i ba sz rs x a
    obtain ⟨hc, H⟩ := need_holds H
    obtain ⟨k1, k2, k3, k4, k5, k6⟩ := of_decide_eq_true hc
    rw [rhs_tree, wrap_i64 (n := a - ba) (by omega)]
    refine ⟨fun h1 => ?_, fun h1 => ⟨fun h2 => ?_, fun h2 => ?_⟩⟩
    · have h1 := of_decide_eq_true h1
      exact ⟨_, le_bool (by rw [decide_eq_false (show ¬ (ba ≤ a ∧ a < ba + sz) by omega)]; rfl), H⟩
    · have h2 := of_decide_eq_true h2
      exact ⟨_, le_bool (by rw [decide_eq_false (show ¬ (ba ≤ a ∧ a < ba + sz) by omega)]; rfl), H⟩
    · have h1 := of_decide_eq_false h1
      have h2 := of_decide_eq_false h2
      exact ⟨_, le_bool (by rw [decide_eq_true (show ba ≤ a ∧ a < ba + sz by omega), Bool.true_and, Bool.not_not]), H⟩
  · exact H.elim
end
end Go.Proofs.YtomblhnchdokmaaGreatDoor

namespace Go.Proofs.YtomblhnchdokmaaGreatDoor
set_option linter.unusedSimpArgs false
set_option linter.unusedVariables false
open Go.RowKit
set_option maxRecDepth 100000
noncomputable section
-- NATLE
-- DEFS
def risG (P : Program) : List (FuncId × Spec) :=
  (31, pureS P 31 FRkd) :: (32, pureS P 32 FRck) :: (33, pureS P 33 FRrt) ::
  (34, pureS P 34 FRpl) :: (35, pureS P 35 FRlc) :: (37, pureS P 37 FRhs) :: []
def byte6 (a b c d e f : Int) : Bool := decide ((0 ≤ a ∧ a ≤ 255) ∧ (0 ≤ b ∧ b ≤ 255) ∧ (0 ≤ c ∧ c ≤ 255) ∧ (0 ≤ d ∧ d ≤ 255) ∧ (0 ≤ e ∧ e ≤ 255) ∧ (0 ≤ f ∧ f ≤ 255))
def FRis : List AV → RT AV
  | [.agg cs] => cfT (fun nm sv m0 m1 m2 m3 m4 m5 sc tk a1 a2 o1 o2 lo hi qu ba sz rs l1 l2 l3 l4 l5 l6 l7 ow id sh wk rm => need false (byte6 m0 m1 m2 m3 m4 m5) 699 (.ok (.sc false (.bool (isB nm sv m0 m1 m2 m3 m4 m5 sc tk a1 a2 o1 o2 lo hi qu ba sz rs l1 l2 l3 l4 l5 l6 l7 ow id sh wk rm))))) cs
  | _ => .bad 700
-- END
-- STOPS: srvS notIn sOk rsiP knE ckB rateB poolB lcB srvP
theorem ris_tree (nm : ByteArray) (sv : D) (m0 m1 m2 m3 m4 m5 : Int) (sc : D) (tk a1 a2 o1 o2 lo hi qu ba sz : Int) (rs : D) (l1 l2 l3 l4 l5 l6 l7 ow id sh wk rm : Int) : treeF (evF Tryz.prog (gam (risG Tryz.prog)) (lam (rsoLs Tryz.prog)) 100 7) [.agg (cfA nm sv m0 m1 m2 m3 m4 m5 sc tk a1 a2 o1 o2 lo hi qu ba sz rs l1 l2 l3 l4 l5 l6 l7 ow id sh wk rm)] =
    RT.br (decide (64 < (↑(ByteArray.size nm) : Int))) (RT.ok (AV.sc true (Value.bool false)))
      (RT.br (decide (8 < (↑(D.len sv) : Int))) (RT.ok (AV.sc true (Value.bool false)))
        (RT.br
          (decide
            ((0 ≤ m0 ∧ m0 ≤ 255) ∧
              (0 ≤ m1 ∧ m1 ≤ 255) ∧ (0 ≤ m2 ∧ m2 ≤ 255) ∧ (0 ≤ m3 ∧ m3 ≤ 255) ∧ (0 ≤ m4 ∧ m4 ≤ 255) ∧ 0 ≤ m5 ∧ m5 ≤ 255))
          (RT.br (knE m0 m1 m2 m3 m4 m5 != 4) (RT.ok (AV.sc true (Value.bool false)))
            (RT.br (!ckB sc tk) (RT.ok (AV.sc true (Value.bool false)))
              (RT.br (!rateB a1 a2) (RT.ok (AV.sc true (Value.bool false)))
                (RT.br (!rateB o1 o2) (RT.ok (AV.sc true (Value.bool false)))
                  (RT.br (!poolB ba sz rs) (RT.ok (AV.sc true (Value.bool false)))
                    (RT.br (!lcB l1 l2 l3 l4 l5 l6 l7 ow) (RT.ok (AV.sc true (Value.bool false)))
                      (RT.br true
                        (RT.br (sOk (srvP (srvS sv)) (D.len sv - 0) 0)
                          (RT.br (decide (lo < 1)) (RT.ok (AV.sc true (Value.bool false)))
                            (RT.br (decide (65534 < hi)) (RT.ok (AV.sc true (Value.bool false)))
                              (RT.br (decide (hi < lo)) (RT.ok (AV.sc true (Value.bool false)))
                                (RT.br (decide (0 ≤ qu))
                                  (RT.br (!decide (qu ≤ 1099511627776)) (RT.ok (AV.sc true (Value.bool false)))
                                    (RT.br
                                      (decide (1 ≤ ba ∧ ba ≤ 4294967294 ∧ 1 ≤ ow ∧ ow ≤ 4294967294 ∧ 0 ≤ sz ∧ sz ≤ 65536))
                                      (RT.br
                                        (!(decide (ba ≤ ow ∧ ow < ba + sz) &&
                                            sOk (notIn rs (D.toI (D.i ow) - D.toI (D.i ba))) (D.len rs) 0))
                                        (RT.br (decide (1 ≤ id))
                                          (RT.br (decide (id ≤ 1048576))
                                            (RT.br (decide (1 ≤ sh))
                                              (RT.br (decide (sh ≤ 64))
                                                (RT.br (decide (1 ≤ wk))
                                                  (RT.br (decide (wk ≤ 16))
                                                    (RT.br (decide (1 ≤ rm))
                                                      (RT.ok (AV.sc false (Value.bool (decide (rm ≤ 64)))))
                                                      (RT.ok (AV.sc true (Value.bool false))))
                                                    (RT.ok (AV.sc true (Value.bool false))))
                                                  (RT.ok (AV.sc true (Value.bool false))))
                                                (RT.ok (AV.sc true (Value.bool false))))
                                              (RT.ok (AV.sc true (Value.bool false))))
                                            (RT.ok (AV.sc true (Value.bool false))))
                                          (RT.ok (AV.sc true (Value.bool false))))
                                        (RT.ok (AV.sc true (Value.bool false))))
                                      (RT.bad 697)))
                                  (RT.ok (AV.sc true (Value.bool false)))))))
                          (RT.ok (AV.sc false (Value.bool false))))
                        (RT.bad 210))))))))
          (RT.bad 692))) := by kernel_rfl
theorem risG_ok : GamL Tryz.prog (risG Tryz.prog) := ⟨rkd_soundF, rck_soundF, rrt_soundF, rpl_soundF, rlc_soundF, rhs_soundF, trivial⟩
set_option maxHeartbeats 4000000 in
theorem ris_soundF : SoundF Tryz.prog 7 (pureS Tryz.prog 7 FRis) := by
  refine pure_in mixed risG_ok rsoLs_ok _ 100 fun args K ho H => ?_
  unfold FRis at H
  split at H
  · obtain ⟨nm, sv, m0, m1, m2, m3, m4, m5, sc, tk, a1, a2, o1, o2, lo, hi, qu, ba, sz, rs, l1, l2, l3, l4, l5, l6, l7, ow, id, sh, wk, rm, rfl, H2⟩ := cfT_inv H
    clear H
    obtain ⟨hby, H⟩ := need_holds H2
    clear H2
    have hby' := of_decide_eq_true hby
    have out : ∀ {kn b : Bool}, isB nm sv m0 m1 m2 m3 m4 m5 sc tk a1 a2 o1 o2 lo hi qu ba sz rs l1 l2 l3 l4 l5 l6 l7 ow id sh wk rm = b → ∃ y, Le (.sc kn (.bool b)) y ∧ K y := fun h => ⟨_, le_bool h.symm, H⟩
    clear H
    unfold isB at out
    rw [ris_tree]
    have e1 : (lnE l1 l2 l3 l4 l5 l6 l7 ow != 0) = !lcB l1 l2 l3 l4 l5 l6 l7 ow := by unfold lnE lcB; cases lcfB l1 l2 l3 l4 l5 l6 l7 && decide (1 ≤ ow ∧ ow ≤ 4294967294) <;> rfl
    have e2 : (ckiE sc tk != 0) = !ckB sc tk := by unfold ckiE ckB; cases decide (1 ≤ sc.len ∧ sc.len ≤ 64 ∧ 1 ≤ tk ∧ tk ≤ 1099511627776) <;> rfl
    have e3 : srvB sv = (sOk (srvP (srvS sv)) sv.len 0 && decide (sv.len ≤ 8)) := rfl
    rw [e1, e2, e3] at out
    refine ⟨fun c1 => out (by rw [c1]; simp), fun c1 => ⟨fun c2 => out ?q2, fun c2 => ⟨fun _ => ⟨fun c3 => out (by rw [c3]; simp), fun c3 => ⟨fun c4 => out (by rw [Bool.not_eq_true'] at c4; rw [c4]; simp), fun c4 => ⟨fun c5 => out (by rw [Bool.not_eq_true'] at c5; rw [c5]; simp), fun c5 => ⟨fun c6 => out (by rw [Bool.not_eq_true'] at c6; rw [c6]; simp), fun c6 => ⟨fun c7 => out (by rw [Bool.not_eq_true'] at c7; rw [c7]; simp), fun c7 => ⟨fun c8 => out (by rw [Bool.not_eq_true'] at c8; rw [c8]; simp), fun c8 => ⟨fun _ => ?main, fun h => by cases h⟩⟩⟩⟩⟩⟩⟩, fun h => absurd hby' (of_decide_eq_false h)⟩⟩⟩
    case q2 =>
      have := of_decide_eq_true c2
      rw [decide_eq_false (show ¬ sv.len ≤ 8 by omega)]
      simp
    case main =>
      rw [Bool.not_eq_false'] at c4 c5 c6 c7 c8
      have c2 := of_decide_eq_false c2
      rw [c1, c3, c4, c5, c6, c7, c8, decide_eq_true (show sv.len ≤ 8 by omega), own_has c7] at out
      simp only [Bool.and_true, Bool.true_and, Bool.not_false, Bool.not_true, Bool.and_self] at out
      obtain ⟨⟨q1, q2, q3, q4, q5⟩, _⟩ := poolB_of c7
      have hid : idB lo hi qu = decide (1 ≤ lo ∧ hi ≤ 65534 ∧ lo ≤ hi ∧ 0 ≤ qu ∧ qu ≤ 1099511627776) := rfl
      have how : 1 ≤ ow ∧ ow ≤ 4294967294 := by
        unfold lcB at c8
        rw [Bool.and_eq_true] at c8
        exact of_decide_eq_true c8.2
      refine ⟨fun c9 => ?_, fun c9 => out ?_⟩
      rotate_left
      · rw [show sOk (srvP (srvS sv)) sv.len 0 = false from c9]; simp
      rw [show sOk (srvP (srvS sv)) sv.len 0 = true from c9, hid] at out
      simp only [Bool.true_and] at out
      have nid : ¬ (1 ≤ lo ∧ hi ≤ 65534 ∧ lo ≤ hi ∧ 0 ≤ qu ∧ qu ≤ 1099511627776) → ∀ {kn : Bool}, ∃ y, Le (.sc kn (.bool false)) y ∧ K y := fun h => out (by rw [decide_eq_false h, Bool.false_and])
      refine ⟨fun d1 => nid ?_, fun d1 => ⟨fun d2 => nid ?_, fun d2 => ⟨fun d3 => nid ?_, fun d3 => ⟨fun d4 => ⟨fun d5 => nid ?_, fun d5 => ⟨fun _ => ?_, fun h => absurd ⟨q1, q2, how.1, how.2, q3, q4⟩ (of_decide_eq_false h)⟩⟩, fun d4 => nid ?_⟩⟩⟩⟩
      · have := of_decide_eq_true d1; omega
      · have := of_decide_eq_true d2; omega
      · have := of_decide_eq_true d3; omega
      · rw [Bool.not_eq_true'] at d5; have := of_decide_eq_false d5; omega
      rotate_left
      · have := of_decide_eq_false d4; omega
      have d1 := of_decide_eq_false d1
      have d2 := of_decide_eq_false d2
      have d3 := of_decide_eq_false d3
      have d4 := of_decide_eq_true d4
      rw [Bool.not_eq_false'] at d5
      have d5 := of_decide_eq_true d5
      rw [decide_eq_true (show 1 ≤ lo ∧ hi ≤ 65534 ∧ lo ≤ hi ∧ 0 ≤ qu ∧ qu ≤ 1099511627776 by omega)] at out
      simp only [Bool.true_and] at out
      refine ⟨fun g0 => ?_, fun g0 => out ?_⟩
      rotate_left
      · rw [show (!(decide (ba ≤ ow ∧ ow < ba + sz) && sOk (notIn rs (ow - ba)) rs.len 0)) = false from g0]; rfl
      rw [show (!(decide (ba ≤ ow ∧ ow < ba + sz) && sOk (notIn rs (ow - ba)) rs.len 0)) = true from g0] at out
      simp only [Bool.true_and] at out
      clear g0 hby hby' c1 c3 c4 c5 c6 c7 c8 c9 hid how nid e1 e2 e3
      refine ⟨fun i1 => ⟨fun i2 => ⟨fun i3 => ⟨fun i4 => ⟨fun i5 => ⟨fun i6 => ⟨fun i7 => out ?_, fun h => out ?_⟩, fun h => out ?_⟩, fun h => out ?_⟩, fun h => out ?_⟩, fun h => out ?_⟩, fun h => out ?_⟩, fun h => out ?_⟩
      · rw [i1, i2, i3, i4, i5, i6, i7]; rfl
      all_goals simp only [h, Bool.false_and, Bool.and_false]
  · exact H.elim
end
end Go.Proofs.YtomblhnchdokmaaGreatDoor
