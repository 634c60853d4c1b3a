/- MhK: texts of this claim, one behind the other: Kq5. No condition. -/
import Derived.Test.YtomblhnchdokmaaGreatDoorMhD
import Derived.Test.YtomblhnchdokmaaGreatDoorMh7
import Derived.Test.YtomblhnchdokmaaGreatDoorMhE
namespace Go.Proofs.YtomblhnchdokmaaGreatDoor
set_option linter.unusedSimpArgs false
set_option linter.unusedVariables false
open Go.RowKit
set_option maxRecDepth 100000
noncomputable section
-- NATLE
-- FAST
-- DEFS
/-- a contract on arguments that are seen as plain data -/
def args0S (P : Program) (f : FuncId) (sp : Spec) : Spec := fun args h => sp (args0 P f args) h
def FPlK : Spec := fun args h => match args, h with
  | [.agg cs], ⟨[], 0, [], 0, 0, 0⟩ => cfT (fun nm sv m0 m1 m2 m3 m4 m5 sc tk a1 a2 o1 o2 lo hi qu ba sz rs l1 l2 l3 l4 l5 l6 l7 ow id sh wk rm => bif isB nm sv m0 m1 m2 m3 m4 m5 sc tk a1 a2 o1 o2 lo hi qu ba sz rs l1 l2 l3 l4 l5 l6 l7 ow id sh wk rm then .ok (.tup [.ptr 0 0, kk 0], plO nm sv m0 m1 m2 m3 m4 m5 sc tk a1 a2 o1 o2 lo hi qu ba sz rs l1 l2 l3 l4 l5 l6 l7 ow id sh wk rm) else .ok (.tup [.sc true (.pointer none), kk 230], ⟨[], 7, [], 0, 1000, 1000⟩)) cs
  | _, _ => .bad 680
def hkG (P : Program) : List (FuncId × Spec) := (6, args0S P 6 (newT FPlK)) :: []
def FTru : List AV → RT AV
  | [] => .ok (.sc false (.bool true))
  | _ => .bad 701
def hkS (P : Program) : List (FuncId × Spec) :=
  (15, rangeV P (hkG P) true 100 15) :: (16, rangeV P (hkG P) true 100 16) :: (17, rangeV P (hkG P) true 100 17) :: []
-- END
theorem args0S_ok {P : Program} {f : FuncId} {sp : Spec} (hs : SoundF P f sp) : SoundF P f (args0S P f sp) := fun _ h K H w0 G E w _ I hr => hs _ h K H w0 G E w _ I (args0_rel hr)
theorem a27  : treeF (evF Tryz.prog (gam (hkS Tryz.prog)) (lam ([])) 100 19) [] =
    RT.br false
      (RT.br false
        (RT.br false (RT.br false (RT.ok (AV.sc true (Value.bool false))) (RT.ok (AV.sc true (Value.bool false))))
          (RT.br false (RT.ok (AV.sc true (Value.bool false))) (RT.ok (AV.sc true (Value.bool false)))))
        (RT.br false (RT.br false (RT.ok (AV.sc true (Value.bool false))) (RT.ok (AV.sc true (Value.bool false))))
          (RT.br false (RT.ok (AV.sc true (Value.bool false))) (RT.ok (AV.sc true (Value.bool false))))))
      (RT.br false
        (RT.br false
          (RT.br false (RT.br false (RT.ok (AV.sc true (Value.bool false))) (RT.ok (AV.sc true (Value.bool false))))
            (RT.br false (RT.ok (AV.sc true (Value.bool false))) (RT.ok (AV.sc true (Value.bool false)))))
          (RT.br false (RT.br false (RT.ok (AV.sc true (Value.bool false))) (RT.ok (AV.sc true (Value.bool false))))
            (RT.br false (RT.ok (AV.sc true (Value.bool false))) (RT.ok (AV.sc true (Value.bool false))))))
        (RT.br false
          (RT.br false (RT.br false (RT.ok (AV.sc true (Value.bool false))) (RT.ok (AV.sc true (Value.bool false))))
            (RT.br false (RT.ok (AV.sc true (Value.bool false))) (RT.ok (AV.sc true (Value.bool false)))))
          (RT.br false
            (RT.br false (RT.br false (RT.ok (AV.sc true (Value.bool true))) (RT.ok (AV.sc true (Value.bool false))))
              (RT.br false (RT.ok (AV.sc true (Value.bool true))) (RT.ok (AV.sc true (Value.bool false)))))
            (RT.br false (RT.br false (RT.ok (AV.sc true (Value.bool true))) (RT.ok (AV.sc true (Value.bool false))))
              (RT.br true (RT.ok (AV.sc true (Value.bool true))) (RT.ok (AV.sc true (Value.bool false)))))))) := by rw [← fvF_eq Tryz.prog (gam (hkS Tryz.prog)) (lam ([])) false 100 19]; kernel_rfl
theorem rg_ok {G : List (FuncId × Spec)} (hG : GamL Tryz.prog G) (m : Bool) (f : FuncId) : SoundF Tryz.prog f (rangeV Tryz.prog G m 100 f) := by rw [rangeV_eq]; exact rangeF_ok mixed hG 100 f
theorem plnK_pre : SoundF Tryz.prog 6 FPlK := fun args h K H w0 G E w vals I hr => by
  have h2 : (FPl args h).holds (fun x => ∃ y, Le x.1 y ∧ K (y, x.2)) := by
    unfold FPlK at H
    split at H
    · rename_i cs
      obtain ⟨nm, sv, m0, m1, m2, m3, m4, m5, sc, tk, a1, a2, o1, o2, lo, hi, qu, ba, sz, rs, l1, l2, l3, l4, l5, l6, l7, ow, id, sh, wk, rm, rfl, H2⟩ := cfT_inv H
      show (RT.br (isB nm sv m0 m1 m2 m3 m4 m5 sc tk a1 a2 o1 o2 lo hi qu ba sz rs l1 l2 l3 l4 l5 l6 l7 ow id sh wk rm) _ _).holds _
      cases hb : isB nm sv m0 m1 m2 m3 m4 m5 sc tk a1 a2 o1 o2 lo hi qu ba sz rs l1 l2 l3 l4 l5 l6 l7 ow id sh wk rm
      · rw [hb] at H2
        exact ⟨fun h => (by cases h), fun _ => ⟨_, le_tup (leL_cons (Le.refl _) (leL_cons (le_int rfl) leL_nil)), H2⟩⟩
      · rw [hb] at H2
        exact ⟨fun _ => ⟨_, le_tup (leL_cons (Le.refl _) (leL_cons (le_int rfl) leL_nil)), H2⟩, fun h => (by cases h)⟩
    · exact H.elim
  refine (pln_pre _ _ _ h2 w0 G E w vals I hr).mono ?_
  rintro e w' ⟨r, h', v, E', ⟨y, hle, hk⟩, rfl, S, hv⟩
  exact ⟨y, h', v, E', hk, rfl, S, hle _ _ hv⟩
theorem hkG_ok : GamL Tryz.prog (hkG Tryz.prog) := ⟨args0S_ok (newT_ok plnK_pre), trivial⟩
theorem hkS_ok : GamL Tryz.prog (hkS Tryz.prog) := ⟨rg_ok hkG_ok true _, rg_ok hkG_ok true _, rg_ok hkG_ok true _, trivial⟩
theorem a27_soundF : SoundF Tryz.prog 19 (pureS Tryz.prog 19 FTru) := by
  refine pure_in mixed hkS_ok (ls := []) trivial _ 100 fun args K ho H => ?_
  unfold FTru at H
  split at H
  · rw [a27]
    refine ⟨fun h => Bool.noConfusion h, fun _ => ⟨fun h => Bool.noConfusion h, fun _ => ⟨fun h => Bool.noConfusion h, fun _ => ⟨fun h => Bool.noConfusion h, fun _ => ⟨fun h => Bool.noConfusion h, fun _ => ⟨fun _ => ?_, fun h => Bool.noConfusion h⟩⟩⟩⟩⟩⟩
    exact ⟨_, le_bool rfl, H⟩
  · exact H.elim
end
end Go.Proofs.YtomblhnchdokmaaGreatDoor
