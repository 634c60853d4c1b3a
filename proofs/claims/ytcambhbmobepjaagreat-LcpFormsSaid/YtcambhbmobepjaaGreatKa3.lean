/- Ka3: a contract with a loop: auto.copied. No condition. -/
import Derived.Test.YtcambhbmobepjaaGreatKa2
namespace Go.Proofs.YtcambhbmobepjaaGreat
set_option linter.unusedSimpArgs false
set_option linter.unusedVariables false
open Go.RowKit
set_option maxRecDepth 100000
noncomputable section

-- DEFS
def cloneG (P : Program) : List (FuncId × Spec) := [(98, pureS P 98 FCloneB)]
abbrev sh (es : List Sh) (d : D) (k g : Nat) : AV := .sl false es d (some (k, g))
-- END
theorem cloneG_ok : GamL Tryz.prog (cloneG Tryz.prog) := ⟨cloneb_soundF, trivial⟩
/-- the first n of what f tells -/
def tabD (f : Nat → D) (n : Nat) : D := .l ((List.range n).map f)
theorem tabD_toL {f : Nat → D} {n : Nat} (h : n ≤ maxLen) : (tabD f n).toL = (List.range n).map f := toL_l (by simpa using h)
theorem tabD_len {f : Nat → D} {n : Nat} (h : n ≤ maxLen) : (tabD f n).len = n := by unfold D.len; rw [tabD_toL h]; simp
theorem tabD_get {f : Nat → D} {n : Nat} (h : n ≤ maxLen) {i : Nat} (hi : i < n) : (tabD f n).get i = f i := by
  unfold D.get; rw [tabD_toL h, List.getD_eq_getElem?_getD]; simp [hi]
theorem tabD_succ {f : Nat → D} {n : Nat} (h : n ≤ maxLen) : (tabD f n).app (.l [f n]) = tabD f (n + 1) := by
  unfold D.app
  rw [tabD_toL h, toL_l (show [f n].length ≤ maxLen by simp; unfold maxLen; omega)]
  unfold tabD
  rw [List.range_succ, List.map_append]; rfl
theorem wrap_succ {i n : Nat} (hi : i < n) (hn : n ≤ maxLen) : IntKind.i64.wrap ((i : Int) + 1) = ((i + 1 : Nat) : Int) := by
  unfold maxLen at hn
  rw [IntWalk.i64_left]
  unfold wrap64
  omega
def copL : Lw := ⟨[3, 6, 7, 8], [(false, 3, 0, 92)], 0, 1, 1000, 1000⟩
def copF (d : D) (n : Int) (i : Nat) (out : D) : Tm := ⟨23, [(3, sh opS out 0 1000), (6, asl opS d), (7, ai n), (8, ai i)], []⟩
def copH : Hp := ⟨[], 0, [(0, 1000, 92)], 1, 1001, 1000⟩
theorem cop_body (d out : D) (n i : Int) : roundT (⟨[3, 6, 7, 8], [(false, 3, 0, 92)], 0, 1, 1000, 1000⟩) (evC Tryz.prog (gam (cloneG Tryz.prog)) (lam ([])) 100 79 (loopAt 0 (bodyOf Tryz.prog 79)) (⟨23, [(3, sh opS out 0 1000), (6, asl opS d), (7, ai n), (8, ai i)], []⟩) (⟨[], 0, [(0, 1000, 92)], 1, 1001, 1000⟩)) =
    RT.br (decide (i < n))
      (RT.br (decide (0 ≤ i ∧ i < (↑(D.len d) : Int)))
        (RT.br (decide ((D.len out + 1) * 32 ≤ 140737488355328))
          (RT.ok
            (Ex.normal,
              { nt := 23,
                tm :=
                  [(3,
                      AV.sl false [Sh.int IntKind.i64, Sh.sl [Sh.int IntKind.u8]]
                        (D.app out
                          (D.l [D.t [D.i (D.toI (D.cell (D.get d (Int.toNat i)) 0)), D.cell (D.get d (Int.toNat i)) 1]]))
                        (some (0, 1000))),
                    (6, AV.sl false [Sh.int IntKind.i64, Sh.sl [Sh.int IntKind.u8]] d none),
                    (7, AV.sc false (Value.int IntKind.i64 n)),
                    (8, AV.sc false (Value.int IntKind.i64 (IntKind.wrap IntKind.i64 (i + 1))))],
                df := [] },
              { ob := [], nx := 0, gn := [(0, 1000, 92)], nv := 1, ng := 1001, ep := 1000 }))
          (RT.bad 70))
        (RT.bad 42))
      (RT.ok
        (Ex.exit 0,
          { nt := 23,
            tm :=
              [(3, AV.sl false [Sh.int IntKind.i64, Sh.sl [Sh.int IntKind.u8]] out (some (0, 1000))),
                (6, AV.sl false [Sh.int IntKind.i64, Sh.sl [Sh.int IntKind.u8]] d none),
                (7, AV.sc false (Value.int IntKind.i64 n)), (8, AV.sc false (Value.int IntKind.i64 i))],
            df := [] },
          { ob := [], nx := 0, gn := [(0, 1000, 92)], nv := 1, ng := 1001, ep := 1000 })) := by kernel_rfl
-- STOPS: tabD copE
/-- an option, copied -/
def copE (d : D) (i : Nat) : D := .t [.i ((d.get i).cell 0).toI, (d.get i).cell 1]
def copDec (F : Tm) (h : Hp) : Option (D × Int × Nat) := match F, h with
  | ⟨23, [(3, .sl false [.int .i64, .sl [.int .u8]] (.l []) (some (0, 1000))), (6, .sl false [.int .i64, .sl [.int .u8]] d none), (7, .sc false (.int .i64 n)), (8, .sc false (.int .i64 0))], []⟩, ⟨[], 0, [(0, 1000, 92)], 1, 1001, 1000⟩ => some (d, n, 0)
  | _, _ => none
def copT (x : D × Int × Nat) : RT Out := need false (decide (x.2.1 = (x.1.len : Int) ∧ x.2.2 ≤ x.1.len ∧ x.1.len * 32 ≤ room)) 210 (.ok (.normal, copF x.1 x.2.1 x.1.len (tabD (copE x.1) x.1.len), copH))
theorem cop_loop : LamE Tryz.prog 79 0 (loopS Tryz.prog copL copDec copT) := by
  refine loop_in2 (gs := cloneG Tryz.prog) (ls := []) mixed cloneG_ok trivial _ 0 100 (by kernel_rfl) copL (mkF := fun x => copF x.1 x.2.1 x.2.2 (tabD (copE x.1) x.2.2)) (mkH := fun _ => copH) (fun x => x.1.len - x.2.2) ?_ ?_
  · intro F h x hx
    unfold copDec at hx
    split at hx
    · cases hx; exact ⟨rfl, rfl⟩
    · cases hx
  · rintro ⟨d, n, i⟩ K H
    obtain ⟨hc, H⟩ := need_holds H
    obtain ⟨rfl, hi, hb⟩ : n = (d.len : Int) ∧ i ≤ d.len ∧ d.len * 32 ≤ room := of_decide_eq_true hc
    have hm := d.len_le
    show (roundT copL (evC _ _ _ _ _ _ (copF d d.len i (tabD (copE d) i)) copH)).holds _
    unfold copL copF copH
    rw [cop_body]
    refine ⟨fun h1 => ⟨fun h2 => ⟨fun h3 => ?_, fun h3 => ?_⟩, fun h2 => ?_⟩, fun h1 => ?_⟩
    · have h1 : i < d.len := by have := of_decide_eq_true h1; omega
      refine ⟨(d, d.len, i + 1), ⟨?_, rfl⟩, by show d.len - (i + 1) < d.len - i; omega, ?_⟩
      · rw [wrap_succ h1 hm]
        exact congrArg (fun o => copF d d.len (i + 1) o) (tabD_succ (f := copE d) (n := i) (by omega))
      · exact ⟨fun _ => H, fun hf => by
          have := of_decide_eq_false hf
          exact absurd ⟨rfl, by show i + 1 ≤ d.len; omega, hb⟩ this⟩
    · have h1 : i < d.len := by have := of_decide_eq_true h1; omega
      have h3 := of_decide_eq_false h3
      refine absurd ?_ h3
      rw [tabD_len (by omega)]
      unfold room at hb
      omega
    · have h1 : i < d.len := by have := of_decide_eq_true h1; omega
      have h2 := of_decide_eq_false h2
      omega
    · have h1 : i = d.len := by have := of_decide_eq_false h1; omega
      subst h1
      exact H
def copLs (P : Program) : List (FuncId × Nat × BSpec) := [(79, 0, loopS P copL copDec copT)]
theorem copLs_ok : LamL Tryz.prog (copLs Tryz.prog) := ⟨cop_loop, trivial⟩
end
end Go.Proofs.YtcambhbmobepjaaGreat
