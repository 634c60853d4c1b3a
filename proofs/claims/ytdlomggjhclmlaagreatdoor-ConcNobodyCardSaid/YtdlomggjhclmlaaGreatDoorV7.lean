/- V7: the tables of the page's example are right. No condition. -/
import Derived.Test.YtdlomggjhclmlaaGreatDoorWa
import Derived.Test.YtdlomggjhclmlaaGreatDoorWb
import Derived.Test.YtdlomggjhclmlaaGreatDoorWi
import Derived.Test.YtdlomggjhclmlaaGreatDoorV6
namespace Go.Proofs.YtdlomggjhclmlaaGreatDoor
set_option linter.unusedSimpArgs false
set_option linter.unusedVariables false
open Go.RowKit
set_option maxRecDepth 100000
noncomputable section
theorem mixed : Fit Tryz.prog := ⟨by kernel_rfl, by kernel_rfl⟩
theorem shG_ok : GamL Tryz.prog (shG Tryz.prog) := by
  have ev : ∀ f, SoundF Tryz.prog f (evF Tryz.prog (gam []) (lam []) 100 f) := fun f => evF_ok mixed (gam_ok (l := []) trivial) (lam_ok (l := []) trivial) 100 f
  exact ⟨memo_ok (memo_ok (memo_ok (memo_ok (memo_ok (memo_ok (memo_ok (memo_ok (ev _) (ev _) sP9) (ev _) sP6) (ev _) sP8) (ev _) sP4) (ev _) sP3) (ev _) sP2) (ev _) sP1) (ev _) sP0, trivial⟩
theorem evk {G : List (FuncId × Spec)} (hG : GamL Tryz.prog G) (n : Nat) (f : FuncId) : SoundF Tryz.prog f (evF Tryz.prog (gam G) (lam []) n f) := evF_ok mixed (gam_ok hG) (lam_ok (l := []) trivial) n f
theorem kn_ok {G : List (FuncId × Spec)} (hG : GamL Tryz.prog G) (f : FuncId) : SoundF Tryz.prog f (kn Tryz.prog G f).2 := known_ok (evk hG 100 f)
theorem me_ok {G G' : List (FuncId × Spec)} (hG : GamL Tryz.prog G) (hG' : GamL Tryz.prog G') {n : Nat} {f : FuncId} {k : List AV} {r : AV} (hk : okV (treeR (evF Tryz.prog (gam G') (lam []) n f) k) = some r) : SoundF Tryz.prog f (me Tryz.prog G f k r).2 := memo_ok (evk hG 100 f) (evk hG' n f) hk
theorem rg_ok {G : List (FuncId × Spec)} (hG : GamL Tryz.prog G) (f : FuncId) : SoundF Tryz.prog f (rangeV Tryz.prog G true 100 f) := by rw [rangeV_eq]; exact rangeF_ok mixed hG 100 f
theorem grG_ok : GamL Tryz.prog (grG Tryz.prog) := ⟨grow_soundF, trivial⟩
theorem clG_ok : GamL Tryz.prog clG := ⟨cloneRow_soundF, trivial⟩
theorem niG_ok : GamL Tryz.prog [] := trivial
theorem plG_ok : GamL Tryz.prog (plG Tryz.prog) := ⟨rg_ok niG_ok _, trivial⟩
theorem paG_ok : GamL Tryz.prog (paG Tryz.prog) := ⟨kn_ok niG_ok _, kn_ok grG_ok _, kn_ok niG_ok _, kn_ok clG_ok _, me_ok shG_ok shG_ok ckP, grG_ok⟩
theorem pbG_ok : GamL Tryz.prog (pbG Tryz.prog) := ⟨me_ok paG_ok paG_ok ln1, merge_ok (evk paG_ok 100 _), paG_ok⟩
theorem peG_ok : GamL Tryz.prog (peG Tryz.prog) := ⟨kn_ok pbG_ok _, kn_ok pbG_ok _, kn_ok pbG_ok _, kn_ok pbG_ok _, kn_ok pbG_ok _, kn_ok pbG_ok _, kn_ok niG_ok _, pbG_ok⟩
theorem pcG_ok : GamL Tryz.prog (pcG Tryz.prog) := ⟨me_ok plG_ok plG_ok gat, me_ok pbG_ok pbG_ok ckc, me_ok paG_ok paG_ok dc, me_ok paG_ok paG_ok cf, peG_ok⟩
theorem rdG_ok : GamL Tryz.prog (rdG Tryz.prog) := ⟨rg_ok pcG_ok _, pcG_ok⟩
theorem stg (f : FuncId) : SoundF Tryz.prog f (mergeS (gcS (evF Tryz.prog (gam (rdG Tryz.prog)) (lam []) 100 f))) := merge_ok (gc_ok (evk rdG_ok 100 f))
theorem awG_ok : GamL Tryz.prog (awG Tryz.prog) :=
  ⟨memoH_ok (stg _) (bad_ok _) st1, memoH_ok (stg _) (memoH_ok (stg _) (memoH_ok (stg _) (memoH_ok (stg _) (memoH_ok (stg _) (bad_ok _) st6) st5) st4) st3) st2, rdG_ok⟩
theorem awk_ok : SoundF Tryz.prog 16 (me Tryz.prog (awG Tryz.prog) 16 awkK awkR).2 := me_ok awG_ok awG_ok awk
end
end Go.Proofs.YtdlomggjhclmlaaGreatDoor
