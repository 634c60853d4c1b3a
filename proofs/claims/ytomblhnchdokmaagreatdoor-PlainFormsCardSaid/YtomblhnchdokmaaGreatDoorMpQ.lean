/- MpQ: texts of this claim, one behind the other: Kq5 Kz7. No condition. -/
import Derived.Test.YtomblhnchdokmaaGreatDoorMpD
import Derived.Test.YtomblhnchdokmaaGreatDoorMp7
import Derived.Test.YtomblhnchdokmaaGreatDoorMpE
import Derived.Test.YtomblhnchdokmaaGreatDoorMpK
import Derived.Test.YtomblhnchdokmaaGreatDoorMpY
namespace Go.Proofs.YtomblhnchdokmaaGreatDoor
set_option linter.unusedSimpArgs false
set_option linter.unusedVariables false
open Go.RowKit
set_option maxRecDepth 100000
noncomputable section
-- NATLE
-- FAST
-- DEFS
/-- a contract on arguments that are seen as plain data -/
def args0S (P : Program) (f : FuncId) (sp : Spec) : Spec := fun args h => sp (args0 P f args) h
def FPlK : Spec := fun args h => match args, h with
  | [.agg cs], ⟨[], 0, [], 0, 0, 0⟩ => cfT (fun nm sv m0 m1 m2 m3 m4 m5 sc tk a1 a2 o1 o2 lo hi qu ba sz rs l1 l2 l3 l4 l5 l6 l7 ow id sh wk rm => bif isB nm sv m0 m1 m2 m3 m4 m5 sc tk a1 a2 o1 o2 lo hi qu ba sz rs l1 l2 l3 l4 l5 l6 l7 ow id sh wk rm then .ok (.tup [.ptr 0 0, kk 0], plO nm sv m0 m1 m2 m3 m4 m5 sc tk a1 a2 o1 o2 lo hi qu ba sz rs l1 l2 l3 l4 l5 l6 l7 ow id sh wk rm) else .ok (.tup [.sc true (.pointer none), kk 230], ⟨[], 7, [], 0, 1000, 1000⟩)) cs
  | _, _ => .bad 680
def hkG (P : Program) : List (FuncId × Spec) := (6, args0S P 6 (newT FPlK)) :: []
def FTru : List AV → RT AV
  | [] => .ok (.sc false (.bool true))
  | _ => .bad 701
def hkS (P : Program) : List (FuncId × Spec) :=
  (15, rangeV P (hkG P) true 100 15) :: (16, rangeV P (hkG P) true 100 16) :: (17, rangeV P (hkG P) true 100 17) :: []
-- END
theorem args0S_ok {P : Program} {f : FuncId} {sp : Spec} (hs : SoundF P f sp) : SoundF P f (args0S P f sp) := fun _ h K H w0 G E w _ I hr => hs _ h K H w0 G E w _ I (args0_rel hr)
theorem a27  : treeF (evF Tryz.prog (gam (hkS Tryz.prog)) (lam ([])) 100 19) [] =
    RT.br false
      (RT.br false
        (RT.br false (RT.br false (RT.ok (AV.sc true (Value.bool false))) (RT.ok (AV.sc true (Value.bool false))))
          (RT.br false (RT.ok (AV.sc true (Value.bool false))) (RT.ok (AV.sc true (Value.bool false)))))
        (RT.br false (RT.br false (RT.ok (AV.sc true (Value.bool false))) (RT.ok (AV.sc true (Value.bool false))))
          (RT.br false (RT.ok (AV.sc true (Value.bool false))) (RT.ok (AV.sc true (Value.bool false))))))
      (RT.br false
        (RT.br false
          (RT.br false (RT.br false (RT.ok (AV.sc true (Value.bool false))) (RT.ok (AV.sc true (Value.bool false))))
            (RT.br false (RT.ok (AV.sc true (Value.bool false))) (RT.ok (AV.sc true (Value.bool false)))))
          (RT.br false (RT.br false (RT.ok (AV.sc true (Value.bool false))) (RT.ok (AV.sc true (Value.bool false))))
            (RT.br false (RT.ok (AV.sc true (Value.bool false))) (RT.ok (AV.sc true (Value.bool false))))))
        (RT.br false
          (RT.br false (RT.br false (RT.ok (AV.sc true (Value.bool false))) (RT.ok (AV.sc true (Value.bool false))))
            (RT.br false (RT.ok (AV.sc true (Value.bool false))) (RT.ok (AV.sc true (Value.bool false)))))
          (RT.br false
            (RT.br false (RT.br false (RT.ok (AV.sc true (Value.bool true))) (RT.ok (AV.sc true (Value.bool false))))
              (RT.br false (RT.ok (AV.sc true (Value.bool true))) (RT.ok (AV.sc true (Value.bool false)))))
            (RT.br false (RT.br false (RT.ok (AV.sc true (Value.bool true))) (RT.ok (AV.sc true (Value.bool false))))
              (RT.br true (RT.ok (AV.sc true (Value.bool true))) (RT.ok (AV.sc true (Value.bool false)))))))) := by rw [← fvF_eq Tryz.prog (gam (hkS Tryz.prog)) (lam ([])) false 100 19]; kernel_rfl
theorem rg_ok {G : List (FuncId × Spec)} (hG : GamL Tryz.prog G) (m : Bool) (f : FuncId) : SoundF Tryz.prog f (rangeV Tryz.prog G m 100 f) := by rw [rangeV_eq]; exact rangeF_ok mixed hG 100 f
theorem plnK_pre : SoundF Tryz.prog 6 FPlK := fun args h K H w0 G E w vals I hr => by
  have h2 : (FPl args h).holds (fun x => ∃ y, Le x.1 y ∧ K (y, x.2)) := by
    unfold FPlK at H
    split at H
    · rename_i cs
      obtain ⟨nm, sv, m0, m1, m2, m3, m4, m5, sc, tk, a1, a2, o1, o2, lo, hi, qu, ba, sz, rs, l1, l2, l3, l4, l5, l6, l7, ow, id, sh, wk, rm, rfl, H2⟩ := cfT_inv H
      show (RT.br (isB nm sv m0 m1 m2 m3 m4 m5 sc tk a1 a2 o1 o2 lo hi qu ba sz rs l1 l2 l3 l4 l5 l6 l7 ow id sh wk rm) _ _).holds _
      cases hb : isB nm sv m0 m1 m2 m3 m4 m5 sc tk a1 a2 o1 o2 lo hi qu ba sz rs l1 l2 l3 l4 l5 l6 l7 ow id sh wk rm
      · rw [hb] at H2
        exact ⟨fun h => (by cases h), fun _ => ⟨_, le_tup (leL_cons (Le.refl _) (leL_cons (le_int rfl) leL_nil)), H2⟩⟩
      · rw [hb] at H2
        exact ⟨fun _ => ⟨_, le_tup (leL_cons (Le.refl _) (leL_cons (le_int rfl) leL_nil)), H2⟩, fun h => (by cases h)⟩
    · exact H.elim
  refine (pln_pre _ _ _ h2 w0 G E w vals I hr).mono ?_
  rintro e w' ⟨r, h', v, E', ⟨y, hle, hk⟩, rfl, S, hv⟩
  exact ⟨y, h', v, E', hk, rfl, S, hle _ _ hv⟩
theorem hkG_ok : GamL Tryz.prog (hkG Tryz.prog) := ⟨args0S_ok (newT_ok plnK_pre), trivial⟩
theorem hkS_ok : GamL Tryz.prog (hkS Tryz.prog) := ⟨rg_ok hkG_ok true _, rg_ok hkG_ok true _, rg_ok hkG_ok true _, trivial⟩
theorem a27_soundF : SoundF Tryz.prog 19 (pureS Tryz.prog 19 FTru) := by
  refine pure_in mixed hkS_ok (ls := []) trivial _ 100 fun args K ho H => ?_
  unfold FTru at H
  split at H
  · rw [a27]
    refine ⟨fun h => Bool.noConfusion h, fun _ => ⟨fun h => Bool.noConfusion h, fun _ => ⟨fun h => Bool.noConfusion h, fun _ => ⟨fun h => Bool.noConfusion h, fun _ => ⟨fun h => Bool.noConfusion h, fun _ => ⟨fun _ => ?_, fun h => Bool.noConfusion h⟩⟩⟩⟩⟩⟩
    exact ⟨_, le_bool rfl, H⟩
  · exact H.elim
end
end Go.Proofs.YtomblhnchdokmaaGreatDoor

namespace Go.Proofs.YtomblhnchdokmaaGreatDoor
set_option linter.unusedSimpArgs false
set_option linter.unusedVariables false
open Go.RowKit
set_option maxRecDepth 100000
noncomputable section
-- SHARE isB 32
-- DEFS
def cutD (d : D) (k : Int) : D := d.sub 0 (imin (d.len : Int) k).toNat
def svC (sv : D) : D := growD (.l []) (ligE sv) (ligN sv)
def FLig : List AV → RT AV
  | [.agg cs] => cfT (fun nm sv m0 m1 m2 m3 m4 m5 sc tk a1 a2 o1 o2 lo hi qu ba sz rs l1 l2 l3 l4 l5 l6 l7 ow id sh wk rm => .ok (.agg (cfA (cutS nm) (svC sv) m0 m1 m2 m3 m4 m5 (cutD sc 70) tk a1 a2 o1 o2 lo hi qu ba sz (cutD rs 300) l1 l2 l3 l4 l5 l6 l7 ow id sh wk rm))) cs
  | _ => .bad 702
def errB (b : Bool) : Int := bif b then 0 else 230
def FCk : List AV → RT AV
  | [.agg cs] => cfT (fun nm sv m0 m1 m2 m3 m4 m5 sc tk a1 a2 o1 o2 lo hi qu ba sz rs l1 l2 l3 l4 l5 l6 l7 ow id sh wk rm => .ok (ik (errB (isB nm sv m0 m1 m2 m3 m4 m5 sc tk a1 a2 o1 o2 lo hi qu ba sz rs l1 l2 l3 l4 l5 l6 l7 ow id sh wk rm)))) cs
  | _ => .bad 703
def pfC (P : Program) : List (FuncId × Spec) := (6, args0S P 6 (newT FPl)) :: []
def pfG (P : Program) : List (FuncId × Spec) :=
  (5, pureS P 5 FLig) :: me P (pcG P) 14 awkK awkR :: (7, pureS P 7 FRis) ::
  (8, pureS P 8 FCk) :: (39, objR FIfr) :: pfC P
-- END
-- STOPS: isB cutS cutD svC errB
theorem pce_tree (nm : ByteArray) (sv : D) (m0 m1 m2 m3 m4 m5 : Int) (sc : D) (tk a1 a2 o1 o2 lo hi qu ba sz : Int) (rs : D) (l1 l2 l3 l4 l5 l6 l7 ow id sh wk rm : Int) : treeF (evF Tryz.prog (gam (pfC Tryz.prog)) (lam []) 100 8) [.agg (cfA nm sv m0 m1 m2 m3 m4 m5 sc tk a1 a2 o1 o2 lo hi qu ba sz rs l1 l2 l3 l4 l5 l6 l7 ow id sh wk rm)] =
    (fun (qisB0 : Bool) => RT.br (qisB0) (RT.ok (AV.sc false (Value.int IntKind.i64 0))) (RT.ok (AV.sc false (Value.int IntKind.i64 230)))) (isB nm sv m0 m1 m2 m3 m4 m5 sc tk a1 a2 o1 o2 lo hi qu ba sz rs l1 l2 l3 l4 l5 l6 l7 ow id sh wk rm) := by kernel_rfl
theorem pfm_tree (nm : ByteArray) (sv : D) (m0 m1 m2 m3 m4 m5 : Int) (sc : D) (tk a1 a2 o1 o2 lo hi qu ba sz : Int) (rs : D) (l1 l2 l3 l4 l5 l6 l7 ow id sh wk rm : Int) : treeF (evF Tryz.prog (gam (pfG Tryz.prog)) (lam []) 100 3) [.agg (cfA nm sv m0 m1 m2 m3 m4 m5 sc tk a1 a2 o1 o2 lo hi qu ba sz rs l1 l2 l3 l4 l5 l6 l7 ow id sh wk rm)] =
    (fun (qisB0 : Bool) => RT.br (qisB0) (RT.br (decide ((0 ≤ m0 ∧ m0 ≤ 255) ∧ (0 ≤ m1 ∧ m1 ≤ 255) ∧ (0 ≤ m2 ∧ m2 ≤ 255) ∧ (0 ≤ m3 ∧ m3 ≤ 255) ∧ (0 ≤ m4 ∧ m4 ≤ 255) ∧ 0 ≤ m5 ∧ m5 ≤ 255)) (RT.br (!qisB0 == true) (RT.ok (AV.sc true (Value.bool false))) (RT.br (!qisB0 == true) (RT.ok (AV.sc true (Value.bool false))) (RT.br (!qisB0) (RT.br true (RT.ok (AV.sc true (Value.bool false))) (RT.br (!qisB0 == (errB (qisB0) == 0)) (RT.ok (AV.sc true (Value.bool false))) (RT.br (!qisB0) (RT.br (errB (qisB0) != 230) (RT.ok (AV.sc true (Value.bool false))) (RT.br (qisB0) (RT.br (decide (0 < Int.toNat (hi - lo + 1) ∧ (0 : Int) ≤ 0 ∧ (0 : Int) ≤ 1099511627776)) (RT.br false (RT.br ((↑(D.len (growD (D.l []) (idE lo) (idN lo hi))) : Int) == IntKind.wrap IntKind.i64 (IntKind.wrap IntKind.i64 (hi - lo) + 1)) (RT.br (0 == IntKind.wrap IntKind.i64 (IntKind.wrap IntKind.i64 (sz - (↑(D.len (cutD rs 300)) : Int)) - 0)) (RT.br true (RT.br true (RT.ok (AV.sc true (Value.bool true))) (RT.ok (AV.sc true (Value.bool false)))) (RT.ok (AV.sc true (Value.bool false)))) (RT.ok (AV.sc true (Value.bool false)))) (RT.ok (AV.sc true (Value.bool false)))) (RT.br ((↑(D.len (growD (D.l []) (idE lo) (idN lo hi))) : Int) == IntKind.wrap IntKind.i64 (IntKind.wrap IntKind.i64 (hi - lo) + 1)) (RT.br (sz - (↑(D.len (cutD rs 300)) : Int) == IntKind.wrap IntKind.i64 (IntKind.wrap IntKind.i64 (sz - (↑(D.len (cutD rs 300)) : Int)) - 0)) (RT.br true (RT.br true (RT.ok (AV.sc true (Value.bool true))) (RT.ok (AV.sc true (Value.bool false)))) (RT.ok (AV.sc true (Value.bool false)))) (RT.ok (AV.sc true (Value.bool false)))) (RT.ok (AV.sc true (Value.bool false))))) (RT.bad 705)) (RT.ok (AV.sc true (Value.bool true))))) (RT.br (qisB0) (RT.br (decide (0 < Int.toNat (hi - lo + 1) ∧ (0 : Int) ≤ 0 ∧ (0 : Int) ≤ 1099511627776)) (RT.br false (RT.br ((↑(D.len (growD (D.l []) (idE lo) (idN lo hi))) : Int) == IntKind.wrap IntKind.i64 (IntKind.wrap IntKind.i64 (hi - lo) + 1)) (RT.br (0 == IntKind.wrap IntKind.i64 (IntKind.wrap IntKind.i64 (sz - (↑(D.len (cutD rs 300)) : Int)) - 0)) (RT.br true (RT.br true (RT.ok (AV.sc true (Value.bool true))) (RT.ok (AV.sc true (Value.bool false)))) (RT.ok (AV.sc true (Value.bool false)))) (RT.ok (AV.sc true (Value.bool false)))) (RT.ok (AV.sc true (Value.bool false)))) (RT.br ((↑(D.len (growD (D.l []) (idE lo) (idN lo hi))) : Int) == IntKind.wrap IntKind.i64 (IntKind.wrap IntKind.i64 (hi - lo) + 1)) (RT.br (sz - (↑(D.len (cutD rs 300)) : Int) == IntKind.wrap IntKind.i64 (IntKind.wrap IntKind.i64 (sz - (↑(D.len (cutD rs 300)) : Int)) - 0)) (RT.br true (RT.br true (RT.ok (AV.sc true (Value.bool true))) (RT.ok (AV.sc true (Value.bool false)))) (RT.ok (AV.sc true (Value.bool false)))) (RT.ok (AV.sc true (Value.bool false)))) (RT.ok (AV.sc true (Value.bool false))))) (RT.bad 705)) (RT.ok (AV.sc true (Value.bool true))))))) (RT.br (!qisB0 == (errB (qisB0) == 0)) (RT.ok (AV.sc true (Value.bool false))) (RT.br (!qisB0) (RT.br (errB (qisB0) != 230) (RT.ok (AV.sc true (Value.bool false))) (RT.br (qisB0) (RT.br (decide (0 < Int.toNat (hi - lo + 1) ∧ (0 : Int) ≤ 0 ∧ (0 : Int) ≤ 1099511627776)) (RT.br false (RT.br ((↑(D.len (growD (D.l []) (idE lo) (idN lo hi))) : Int) == IntKind.wrap IntKind.i64 (IntKind.wrap IntKind.i64 (hi - lo) + 1)) (RT.br (0 == IntKind.wrap IntKind.i64 (IntKind.wrap IntKind.i64 (sz - (↑(D.len (cutD rs 300)) : Int)) - 0)) (RT.br true (RT.br true (RT.ok (AV.sc true (Value.bool true))) (RT.ok (AV.sc true (Value.bool false)))) (RT.ok (AV.sc true (Value.bool false)))) (RT.ok (AV.sc true (Value.bool false)))) (RT.ok (AV.sc true (Value.bool false)))) (RT.br ((↑(D.len (growD (D.l []) (idE lo) (idN lo hi))) : Int) == IntKind.wrap IntKind.i64 (IntKind.wrap IntKind.i64 (hi - lo) + 1)) (RT.br (sz - (↑(D.len (cutD rs 300)) : Int) == IntKind.wrap IntKind.i64 (IntKind.wrap IntKind.i64 (sz - (↑(D.len (cutD rs 300)) : Int)) - 0)) (RT.br true (RT.br true (RT.ok (AV.sc true (Value.bool true))) (RT.ok (AV.sc true (Value.bool false)))) (RT.ok (AV.sc true (Value.bool false)))) (RT.ok (AV.sc true (Value.bool false)))) (RT.ok (AV.sc true (Value.bool false))))) (RT.bad 705)) (RT.ok (AV.sc true (Value.bool true))))) (RT.br (qisB0) (RT.br (decide (0 < Int.toNat (hi - lo + 1) ∧ (0 : Int) ≤ 0 ∧ (0 : Int) ≤ 1099511627776)) (RT.br false (RT.br ((↑(D.len (growD (D.l []) (idE lo) (idN lo hi))) : Int) == IntKind.wrap IntKind.i64 (IntKind.wrap IntKind.i64 (hi - lo) + 1)) (RT.br (0 == IntKind.wrap IntKind.i64 (IntKind.wrap IntKind.i64 (sz - (↑(D.len (cutD rs 300)) : Int)) - 0)) (RT.br true (RT.br true (RT.ok (AV.sc true (Value.bool true))) (RT.ok (AV.sc true (Value.bool false)))) (RT.ok (AV.sc true (Value.bool false)))) (RT.ok (AV.sc true (Value.bool false)))) (RT.ok (AV.sc true (Value.bool false)))) (RT.br ((↑(D.len (growD (D.l []) (idE lo) (idN lo hi))) : Int) == IntKind.wrap IntKind.i64 (IntKind.wrap IntKind.i64 (hi - lo) + 1)) (RT.br (sz - (↑(D.len (cutD rs 300)) : Int) == IntKind.wrap IntKind.i64 (IntKind.wrap IntKind.i64 (sz - (↑(D.len (cutD rs 300)) : Int)) - 0)) (RT.br true (RT.br true (RT.ok (AV.sc true (Value.bool true))) (RT.ok (AV.sc true (Value.bool false)))) (RT.ok (AV.sc true (Value.bool false)))) (RT.ok (AV.sc true (Value.bool false)))) (RT.ok (AV.sc true (Value.bool false))))) (RT.bad 705)) (RT.ok (AV.sc true (Value.bool true))))))))) (RT.bad 699)) (RT.br (decide ((0 ≤ m0 ∧ m0 ≤ 255) ∧ (0 ≤ m1 ∧ m1 ≤ 255) ∧ (0 ≤ m2 ∧ m2 ≤ 255) ∧ (0 ≤ m3 ∧ m3 ≤ 255) ∧ (0 ≤ m4 ∧ m4 ≤ 255) ∧ 0 ≤ m5 ∧ m5 ≤ 255)) (RT.br (!qisB0 == false) (RT.ok (AV.sc true (Value.bool false))) (RT.br (!qisB0 == false) (RT.ok (AV.sc true (Value.bool false))) (RT.br (!qisB0) (RT.br false (RT.ok (AV.sc true (Value.bool false))) (RT.br (!qisB0 == (errB (qisB0) == 0)) (RT.ok (AV.sc true (Value.bool false))) (RT.br (!qisB0) (RT.br (errB (qisB0) != 230) (RT.ok (AV.sc true (Value.bool false))) (RT.br (qisB0) (RT.br (0 == IntKind.wrap IntKind.i64 (IntKind.wrap IntKind.i64 (hi - lo) + 1)) (RT.br (0 == IntKind.wrap IntKind.i64 (IntKind.wrap IntKind.i64 (sz - (↑(D.len (cutD rs 300)) : Int)) - 0)) (RT.ok (AV.sc true (Value.bool true))) (RT.ok (AV.sc true (Value.bool false)))) (RT.ok (AV.sc true (Value.bool false)))) (RT.ok (AV.sc true (Value.bool true))))) (RT.br (qisB0) (RT.br (0 == IntKind.wrap IntKind.i64 (IntKind.wrap IntKind.i64 (hi - lo) + 1)) (RT.br (0 == IntKind.wrap IntKind.i64 (IntKind.wrap IntKind.i64 (sz - (↑(D.len (cutD rs 300)) : Int)) - 0)) (RT.ok (AV.sc true (Value.bool true))) (RT.ok (AV.sc true (Value.bool false)))) (RT.ok (AV.sc true (Value.bool false)))) (RT.ok (AV.sc true (Value.bool true))))))) (RT.br (!qisB0 == (errB (qisB0) == 0)) (RT.ok (AV.sc true (Value.bool false))) (RT.br (!qisB0) (RT.br (errB (qisB0) != 230) (RT.ok (AV.sc true (Value.bool false))) (RT.br (qisB0) (RT.br (0 == IntKind.wrap IntKind.i64 (IntKind.wrap IntKind.i64 (hi - lo) + 1)) (RT.br (0 == IntKind.wrap IntKind.i64 (IntKind.wrap IntKind.i64 (sz - (↑(D.len (cutD rs 300)) : Int)) - 0)) (RT.ok (AV.sc true (Value.bool true))) (RT.ok (AV.sc true (Value.bool false)))) (RT.ok (AV.sc true (Value.bool false)))) (RT.ok (AV.sc true (Value.bool true))))) (RT.br (qisB0) (RT.br (0 == IntKind.wrap IntKind.i64 (IntKind.wrap IntKind.i64 (hi - lo) + 1)) (RT.br (0 == IntKind.wrap IntKind.i64 (IntKind.wrap IntKind.i64 (sz - (↑(D.len (cutD rs 300)) : Int)) - 0)) (RT.ok (AV.sc true (Value.bool true))) (RT.ok (AV.sc true (Value.bool false)))) (RT.ok (AV.sc true (Value.bool false)))) (RT.ok (AV.sc true (Value.bool true))))))))) (RT.bad 699))) (isB (cutS nm) (svC sv) m0 m1 m2 m3 m4 m5 (cutD sc 70) tk a1 a2 o1 o2 lo hi qu ba sz (cutD rs 300) l1 l2 l3 l4 l5 l6 l7 ow id sh wk rm) := by kernel_rfl
end
end Go.Proofs.YtomblhnchdokmaaGreatDoor
