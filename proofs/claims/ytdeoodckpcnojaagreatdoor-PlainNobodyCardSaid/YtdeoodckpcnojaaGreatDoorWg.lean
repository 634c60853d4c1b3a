/- Wg: the tables of the page's example are right. No condition. -/
import Derived.Test.YtdeoodckpcnojaaGreatDoorWe
import Derived.Test.YtdeoodckpcnojaaGreatDoorW5
namespace Go.Proofs.YtdeoodckpcnojaaGreatDoor
set_option linter.unusedSimpArgs false
set_option linter.unusedVariables false
open Go.RowKit
set_option maxRecDepth 100000
noncomputable section
theorem evk {G : List (FuncId × Spec)} (hG : GamL Tryz.prog G) (n : Nat) (f : FuncId) : SoundF Tryz.prog f (evF Tryz.prog (gam G) (lam []) n f) := evF_ok mixed (gam_ok hG) (lam_ok (l := []) trivial) n f
theorem kn_ok {G : List (FuncId × Spec)} (hG : GamL Tryz.prog G) (f : FuncId) : SoundF Tryz.prog f (kn Tryz.prog G f).2 := known_ok (evk hG 100 f)
theorem me_ok {G G' : List (FuncId × Spec)} (hG : GamL Tryz.prog G) (hG' : GamL Tryz.prog G') {n : Nat} {f : FuncId} {k : List AV} {r : AV} (hk : okV (treeR (evF Tryz.prog (gam G') (lam []) n f) k) = some r) : SoundF Tryz.prog f (me Tryz.prog G f k r).2 := memo_ok (evk hG 100 f) (evk hG' n f) hk
theorem grG_ok : GamL Tryz.prog (grG Tryz.prog) := ⟨grow_soundF, trivial⟩
theorem clG_ok : GamL Tryz.prog clG := ⟨cloneRow_soundF, trivial⟩
theorem niG_ok : GamL Tryz.prog [] := trivial
theorem rsG_ok : GamL Tryz.prog (rsG Tryz.prog) := by
  have e := evk shG_ok 1000 242
  exact ⟨memo_ok (memo_ok (memo_ok (memo_ok (evk shG_ok 100 _) e su3) e su2) e su1) e su0, shG_ok⟩
theorem paG_ok : GamL Tryz.prog (paG Tryz.prog) := ⟨kn_ok niG_ok _, kn_ok grG_ok _, kn_ok niG_ok _, kn_ok clG_ok _, me_ok shG_ok shG_ok ckP, me_ok shG_ok rsG_ok ckR, grG_ok⟩
theorem pbG_ok : GamL Tryz.prog (pbG Tryz.prog) := by
  have e := evk paG_ok 1000 103
  exact ⟨memo_ok (memo_ok (evk paG_ok 100 _) e ln6) e ln1, merge_ok (evk paG_ok 100 _), paG_ok⟩
theorem peG_ok : GamL Tryz.prog (peG Tryz.prog) :=
  ⟨kn_ok pbG_ok _, kn_ok pbG_ok _, kn_ok pbG_ok _, kn_ok pbG_ok _, kn_ok pbG_ok _, kn_ok pbG_ok _, kn_ok pbG_ok _, kn_ok pbG_ok _, kn_ok pbG_ok _, kn_ok niG_ok _, pbG_ok⟩
theorem pcG_ok : GamL Tryz.prog (pcG Tryz.prog) :=
  ⟨me_ok pbG_ok paG_ok ls, me_ok pbG_ok paG_ok dc, me_ok pbG_ok paG_ok ak, me_ok pbG_ok pbG_ok ckc, me_ok pbG_ok paG_ok cf, peG_ok⟩
theorem awk_ok : SoundF Tryz.prog 17 (me Tryz.prog (pcG Tryz.prog) 17 awkK awkR).2 := me_ok pcG_ok pcG_ok awk
end
end Go.Proofs.YtdeoodckpcnojaaGreatDoor
