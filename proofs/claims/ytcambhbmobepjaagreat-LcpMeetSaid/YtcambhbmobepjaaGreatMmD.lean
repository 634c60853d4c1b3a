/- LcpMeet: for whatever input the law answers true, and each argument reads afterwards as before. No condition. -/
import Derived.Test.YtcambhbmobepjaaGreatRows
import Derived.Test.YtcambhbmobepjaaGreatMm2
import Derived.Test.YtcambhbmobepjaaGreatMm5
namespace Go.Proofs.YtcambhbmobepjaaGreat.lcpMeetDone
open Go.ChangeShapes Go.WideShapes Go.ChangeAt Go.RowKit
open Go.ChangeMaps (open_string shut_string)

theorem own : ownKnob Tryz.prog.godebug = none := by kernel_rfl
theorem laidOut : laidOutB Tryz.prog = true := by kernel_rfl

set_option maxRecDepth 100000 in
set_option maxHeartbeats 4000000 in
theorem lifted (os : Os) (started : os.Started) (H : Type) (enc : TypeId × Value → H) :
    ReturnsInHanded {} Tryz.checked os 4 .any (Rows.lcpMeetSpec.pre6 enc Tryz.prog Tryz.f4 Rows.lcpMeetRow.domain false) (Rows.lcpMeetSpec.post enc Tryz.prog Tryz.f4 false true false false) := by
  refine returnsInHanded_of_change_shaped (C := Tryz.checked) own started (by kernel_rfl) Tryz.func4
    (ChangeSpec.witness6 (enc := enc) (C := Tryz.checked) false ⟨#[], #[.agg #[.int .i64 0, .int .i64 0, .int .i64 0, .int .i64 0, .int .i64 0, .int .i64 0, .int .i64 0], .agg #[.int .i64 0, .int .i64 0, .int .i64 0, .int .i64 0, .int .i64 0, .int .i64 0, .int .i64 0], .int .u32 0, .int .u32 0, .bool false], []⟩ 8 (by kernel_rfl) (by kernel_rfl) (by kernel_rfl) (by kernel_rfl)) ?_
  intro W base args ds gs before hval0 hW hcnd hwt _ _
  have hval : ∀ (j : Nat) t v, Tryz.f4.params[j]? = some t → args[j]? = some v → Value.okWide Tryz.prog W .any base t v := hval0
  have hW' := hW
  obtain ⟨p, q, hA0, hV, rfl, hfz, hnd⟩ := hW
  have hA : DataW.TrodAll enc Tryz.prog W 0 (fun _ => true) true Tryz.f4.params.toList args.toList ds p := hA0
  have hwt : (DataW.weightsEach Tryz.prog (Tryz.f4.params.toList ++ Rows.lcpMeetSpec.plain.varTypes Tryz.prog) (ds ++ gs)).all (· ≤ reachBytes) = true := hwt
  rw [Tryz.params4] at hA hval hwt
  obtain ⟨v0, vs0, d0, ds0, p0, q0, hargs, rfl, rfl, h0, t0⟩ := trodAll_cons hA
  obtain ⟨v1, vs1, d1, ds1, p1, q1, rfl, rfl, rfl, h1, t1⟩ := trodAll_cons t0
  obtain ⟨v2, vs2, d2, ds2, p2, q2, rfl, rfl, rfl, h2, t2⟩ := trodAll_cons t1
  obtain ⟨v3, vs3, d3, ds3, p3, q3, rfl, rfl, rfl, h3, t3⟩ := trodAll_cons t2
  obtain ⟨v4, vs4, d4, ds4, p4, q4, rfl, rfl, rfl, h4, t4⟩ := trodAll_cons t3
  obtain ⟨rfl, rfl, rfl⟩ := trodAll_nil t4
  obtain rfl : args = #[v0, v1, v2, v3, v4] := by cases args; simp_all
  obtain ⟨rfl, rfl⟩ := trodVars_none hV
  simp only [List.cons_append, List.nil_append, DataW.weightsEach, List.all_append, Bool.and_eq_true] at hwt
  obtain ⟨y0, y1, y2, y3, y4, _⟩ := hwt
  have k0 := h0
  have lt0 : ∀ x ∈ p0, x.block < W.heap.size := by obtain ⟨m, hm⟩ := k0; exact DataW.trod_lt m _ _ _ hm
  obtain ⟨c0, rfl⟩ := arg_agg Tryz.underlying23 (hval 0 23 v0 rfl rfl)
  obtain ⟨D0, C0⟩ := arg_open (es := [.int .i64, .int .i64, .int .i64, .int .i64, .int .i64, .int .i64, .int .i64]) (by kernel_rfl) h0 y0
  have g0 := cl_wf C0
  obtain ⟨x0_0, x0_1, x0_2, x0_3, x0_4, x0_5, x0_6, rfl⟩ := list7 (C0.length.2)
  have R0 : Rel (env0 W) (.agg (avL [.int .i64, .int .i64, .int .i64, .int .i64, .int .i64, .int .i64, .int .i64] [x0_0, x0_1, x0_2, x0_3, x0_4, x0_5, x0_6])) (.agg c0.toArray) := ⟨c0.toArray, rfl, avL_rel (E := env0 W) C0, cl_one C0⟩
  have k1 := h1
  have lt1 : ∀ x ∈ p1, x.block < W.heap.size := by obtain ⟨m, hm⟩ := k1; exact DataW.trod_lt m _ _ _ hm
  obtain ⟨c1, rfl⟩ := arg_agg Tryz.underlying23 (hval 1 23 v1 rfl rfl)
  obtain ⟨D1, C1⟩ := arg_open (es := [.int .i64, .int .i64, .int .i64, .int .i64, .int .i64, .int .i64, .int .i64]) (by kernel_rfl) h1 y1
  have g1 := cl_wf C1
  obtain ⟨x1_0, x1_1, x1_2, x1_3, x1_4, x1_5, x1_6, rfl⟩ := list7 (C1.length.2)
  have R1 : Rel (env0 W) (.agg (avL [.int .i64, .int .i64, .int .i64, .int .i64, .int .i64, .int .i64, .int .i64] [x1_0, x1_1, x1_2, x1_3, x1_4, x1_5, x1_6])) (.agg c1.toArray) := ⟨c1.toArray, rfl, avL_rel (E := env0 W) C1, cl_one C1⟩
  have k2 := h2
  have lt2 : ∀ x ∈ p2, x.block < W.heap.size := by obtain ⟨m, hm⟩ := k2; exact DataW.trod_lt m _ _ _ hm
  obtain ⟨c2, rfl⟩ := okWide_int Tryz.underlying54 (hval 2 54 v2 rfl rfl)
  obtain ⟨D2, C2⟩ := arg_open (es := [.int .u32]) (by kernel_rfl) h2 y2
  have g2 := cl_wf C2
  obtain ⟨x2_0, rfl⟩ := list1 (C2.length.2)
  have R2 : RelL (env0 W) (avL [.int .u32] [x2_0]) [_] := avL_rel (E := env0 W) C2
  have k3 := h3
  have lt3 : ∀ x ∈ p3, x.block < W.heap.size := by obtain ⟨m, hm⟩ := k3; exact DataW.trod_lt m _ _ _ hm
  obtain ⟨c3, rfl⟩ := okWide_int Tryz.underlying54 (hval 3 54 v3 rfl rfl)
  obtain ⟨D3, C3⟩ := arg_open (es := [.int .u32]) (by kernel_rfl) h3 y3
  have g3 := cl_wf C3
  obtain ⟨x3_0, rfl⟩ := list1 (C3.length.2)
  have R3 : RelL (env0 W) (avL [.int .u32] [x3_0]) [_] := avL_rel (E := env0 W) C3
  have k4 := h4
  have lt4 : ∀ x ∈ p4, x.block < W.heap.size := by obtain ⟨m, hm⟩ := k4; exact DataW.trod_lt m _ _ _ hm
  obtain ⟨c4, rfl⟩ := okWide_bool Tryz.underlying4 (hval 4 4 v4 rfl rfl)
  obtain ⟨D4, C4⟩ := arg_open (es := [.bool]) (by kernel_rfl) h4 y4
  have g4 := cl_wf C4
  obtain ⟨x4_0, rfl⟩ := list1 (C4.length.2)
  have R4 : RelL (env0 W) (avL [.bool] [x4_0]) [_] := avL_rel (E := env0 W) C4
  clear hA0 hval0
  refine (law_callsT meet_soundF (relL_cons R0 (relL_cons R1 (relL_cons (relL_head R2) (relL_cons (relL_head R3) (relL_cons (relL_head R4) relL_nil))))) (meet_join x0_0 x0_1 x0_2 x0_3 x0_4 x0_5 x0_6 x1_0 x1_1 x1_2 x1_3 x1_4 x1_5 x1_6 x2_0 x3_0 x4_0 g0 g1 g2 g3 g4)).mono fun e W' ⟨he, bel⟩ => ?_
  subst he
  exact ⟨_, rfl, _, _, _, [], _, [], hW', trodAll_mk1 (shut_bool Tryz.underlying4 _), (trodAll_cons_mk (Below.trod laidOut (by kernel_rfl) (of_decide_eq_true (by kernel_rfl)) k0 bel lt0) (trodAll_cons_mk (Below.trod laidOut (by kernel_rfl) (of_decide_eq_true (by kernel_rfl)) k1 bel lt1) (trodAll_cons_mk (Below.trod laidOut (by kernel_rfl) (of_decide_eq_true (by kernel_rfl)) k2 bel lt2) (trodAll_cons_mk (Below.trod laidOut (by kernel_rfl) (of_decide_eq_true (by kernel_rfl)) k3 bel lt3) (trodAll_cons_mk (Below.trod laidOut (by kernel_rfl) (of_decide_eq_true (by kernel_rfl)) k4 bel lt4) trodAll_mk0))))), rfl, bel.frame _, fun h => by cases h⟩

theorem over : Rows.lcpMeetRow.holds Tryz.pinned (OpenSpec.ofChange Rows.lcpMeetSpec) :=
  OpenClaim.holds_of_wide 4 Tryz.f4 rfl rfl rfl rfl rfl rfl rfl ⟨rfl, rfl, rfl, rfl, rfl⟩ rfl rfl rfl rfl rfl (by kernel_rfl) Tryz.func4 (by kernel_rfl)
    (of_decide_eq_true (by kernel_rfl)) (by unfold Func.isWrapper; first | (rw [if_pos (by decide +kernel)]; kernel_rfl) | (rw [if_neg (by decide +kernel)]; exact ⟨rfl, rfl⟩))
    (fun os started H enc _ => lifted os started H enc)

theorem lcpMeet_holds : Rows.LcpMeetSaid := over
#print axioms lcpMeet_holds
end Go.Proofs.YtcambhbmobepjaaGreat.lcpMeetDone
