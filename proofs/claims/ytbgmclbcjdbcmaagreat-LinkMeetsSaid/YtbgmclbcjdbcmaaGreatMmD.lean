/- LinkMeets: for whatever input the law answers true, and each argument reads afterwards as before. No condition. -/
import Derived.Test.YtbgmclbcjdbcmaaGreatRows
import Derived.Test.YtbgmclbcjdbcmaaGreatMm2
import Derived.Test.YtbgmclbcjdbcmaaGreatMm6
namespace Go.Proofs.YtbgmclbcjdbcmaaGreat.linkMeetsDone
open Go.ChangeShapes Go.WideShapes Go.ChangeAt Go.RowKit
open Go.ChangeMaps (open_string shut_string)

theorem own : ownKnob Tryz.prog.godebug = none := by kernel_rfl
theorem laidOut : laidOutB Tryz.prog = true := by kernel_rfl

set_option maxRecDepth 100000 in
set_option maxHeartbeats 4000000 in
theorem lifted (os : Os) (started : os.Started) (H : Type) (enc : TypeId × Value → H) :
    ReturnsInHanded {} Tryz.checked os 3 .any (Rows.linkMeetsSpec.pre6 enc Tryz.prog Tryz.f3 Rows.linkMeetsRow.domain false) (Rows.linkMeetsSpec.post enc Tryz.prog Tryz.f3 false true false false) := by
  refine returnsInHanded_of_change_shaped (C := Tryz.checked) own started (by kernel_rfl) Tryz.func3
    (ChangeSpec.witness6 (enc := enc) (C := Tryz.checked) false ⟨#[], #[.agg #[.int .i64 0, .int .i64 0, .int .i64 0, .int .i64 0, .int .i64 0, .int .i64 0, .int .i64 0, .int .i64 0], .int .u32 0, .int .u32 0], []⟩ 8 (by kernel_rfl) (by kernel_rfl) (by kernel_rfl) (by kernel_rfl)) ?_
  intro W base args ds gs before hval0 hW hcnd hwt _ _
  have hval : ∀ (j : Nat) t v, Tryz.f3.params[j]? = some t → args[j]? = some v → Value.okWide Tryz.prog W .any base t v := hval0
  have hW' := hW
  obtain ⟨p, q, hA0, hV, rfl, hfz, hnd⟩ := hW
  have hA : DataW.TrodAll enc Tryz.prog W 0 (fun _ => true) true Tryz.f3.params.toList args.toList ds p := hA0
  have hwt : (DataW.weightsEach Tryz.prog (Tryz.f3.params.toList ++ Rows.linkMeetsSpec.plain.varTypes Tryz.prog) (ds ++ gs)).all (· ≤ reachBytes) = true := hwt
  rw [Tryz.params3] at hA hval hwt
  obtain ⟨v0, vs0, d0, ds0, p0, q0, hargs, rfl, rfl, h0, t0⟩ := trodAll_cons hA
  obtain ⟨v1, vs1, d1, ds1, p1, q1, rfl, rfl, rfl, h1, t1⟩ := trodAll_cons t0
  obtain ⟨v2, vs2, d2, ds2, p2, q2, rfl, rfl, rfl, h2, t2⟩ := trodAll_cons t1
  obtain ⟨rfl, rfl, rfl⟩ := trodAll_nil t2
  obtain rfl : args = #[v0, v1, v2] := by cases args; simp_all
  obtain ⟨rfl, rfl⟩ := trodVars_none hV
  simp only [List.cons_append, List.nil_append, DataW.weightsEach, List.all_append, Bool.and_eq_true] at hwt
  obtain ⟨y0, y1, y2, _⟩ := hwt
  have k0 := h0
  have lt0 : ∀ x ∈ p0, x.block < W.heap.size := by obtain ⟨m, hm⟩ := k0; exact DataW.trod_lt m _ _ _ hm
  obtain ⟨c0, rfl⟩ := arg_agg Tryz.underlying25 (hval 0 25 v0 rfl rfl)
  obtain ⟨D0, C0⟩ := arg_open (es := [.int .i64, .int .i64, .int .i64, .int .i64, .int .i64, .int .i64, .int .i64, .int .i64]) (by kernel_rfl) h0 y0
  have g0 := cl_wf C0
  obtain ⟨x0_0, x0_1, x0_2, x0_3, x0_4, x0_5, x0_6, x0_7, rfl⟩ := list8 (C0.length.2)
  have R0 : Rel (env0 W) (.agg (avL [.int .i64, .int .i64, .int .i64, .int .i64, .int .i64, .int .i64, .int .i64, .int .i64] [x0_0, x0_1, x0_2, x0_3, x0_4, x0_5, x0_6, x0_7])) (.agg c0.toArray) := ⟨c0.toArray, rfl, avL_rel (E := env0 W) C0, cl_one C0⟩
  have k1 := h1
  have lt1 : ∀ x ∈ p1, x.block < W.heap.size := by obtain ⟨m, hm⟩ := k1; exact DataW.trod_lt m _ _ _ hm
  obtain ⟨c1, rfl⟩ := okWide_int Tryz.underlying26 (hval 1 26 v1 rfl rfl)
  obtain ⟨D1, C1⟩ := arg_open (es := [.int .u32]) (by kernel_rfl) h1 y1
  have g1 := cl_wf C1
  obtain ⟨x1_0, rfl⟩ := list1 (C1.length.2)
  have R1 : RelL (env0 W) (avL [.int .u32] [x1_0]) [_] := avL_rel (E := env0 W) C1
  have k2 := h2
  have lt2 : ∀ x ∈ p2, x.block < W.heap.size := by obtain ⟨m, hm⟩ := k2; exact DataW.trod_lt m _ _ _ hm
  obtain ⟨c2, rfl⟩ := okWide_int Tryz.underlying26 (hval 2 26 v2 rfl rfl)
  obtain ⟨D2, C2⟩ := arg_open (es := [.int .u32]) (by kernel_rfl) h2 y2
  have g2 := cl_wf C2
  obtain ⟨x2_0, rfl⟩ := list1 (C2.length.2)
  have R2 : RelL (env0 W) (avL [.int .u32] [x2_0]) [_] := avL_rel (E := env0 W) C2
  clear hA0 hval0
  refine (law_callsT lm9_soundF (relL_cons R0 (relL_cons (relL_head R1) (relL_cons (relL_head R2) relL_nil))) (lm9_join x0_0 x0_1 x0_2 x0_3 x0_4 x0_5 x0_6 x0_7 x1_0 x2_0 g0 g1 g2)).mono fun e W' ⟨he, bel⟩ => ?_
  subst he
  exact ⟨_, rfl, _, _, _, [], _, [], hW', trodAll_mk1 (shut_bool Tryz.underlying4 _), (trodAll_cons_mk (Below.trod laidOut (by kernel_rfl) (of_decide_eq_true (by kernel_rfl)) k0 bel lt0) (trodAll_cons_mk (Below.trod laidOut (by kernel_rfl) (of_decide_eq_true (by kernel_rfl)) k1 bel lt1) (trodAll_cons_mk (Below.trod laidOut (by kernel_rfl) (of_decide_eq_true (by kernel_rfl)) k2 bel lt2) trodAll_mk0))), rfl, bel.frame _, fun h => by cases h⟩

theorem over : Rows.linkMeetsRow.holds Tryz.pinned (OpenSpec.ofChange Rows.linkMeetsSpec) :=
  OpenClaim.holds_of_wide 3 Tryz.f3 rfl rfl rfl rfl rfl rfl rfl ⟨rfl, rfl, rfl, rfl, rfl⟩ rfl rfl rfl rfl rfl (by kernel_rfl) Tryz.func3 (by kernel_rfl)
    (of_decide_eq_true (by kernel_rfl)) (by unfold Func.isWrapper; first | (rw [if_pos (by decide +kernel)]; kernel_rfl) | (rw [if_neg (by decide +kernel)]; exact ⟨rfl, rfl⟩))
    (fun os started H enc _ => lifted os started H enc)

theorem linkMeets_holds : Rows.LinkMeetsSaid := over
#print axioms linkMeets_holds
end Go.Proofs.YtbgmclbcjdbcmaaGreat.linkMeetsDone
