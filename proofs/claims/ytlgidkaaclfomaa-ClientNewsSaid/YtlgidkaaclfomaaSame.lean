/- Do both clients stand alike? -/
import Derived.Test.YtlgidkaaclfomaaRBgn
namespace Go.Proofs.Ytlgidkaaclfomaa
open Go.RowKit
set_option maxRecDepth 10000

theorem run_load_part {W : World} {B : Nat} {cs : Array Value} (hr : W.rangeAt B 1 cs.toList) (hs : cs.size = 37) :
    (loadVar 37 ⟨B, 1, none⟩).run Try.prog W = .ok (.agg cs) W := by
  obtain ⟨d, hu, hd⟩ : ∃ d, Try.prog.underlying 37 = some d ∧ d.isRow = true := by
    have hu : (Try.prog.underlying 37).map (·.isRow) = some true := by kernel_rfl
    cases h : Try.prog.underlying 37 with
    | none => rw [h] at hu; cases hu
    | some d => rw [h] at hu; simp at hu; exact ⟨d, rfl, hu⟩
  have := run_loadVar_mid (P := Try.prog) W B 1 37 cs.toList d hr hu hd (by rw [Array.length_toList, hs]; kernel_rfl)
  simpa using this
theorem range_below {w W : World} {B o : Nat} {cs : List Value} (h : w.rangeAt B o cs) (hb : Below w.heap.size w W) : W.rangeAt B o cs := fun j v hv => cell_below (h j v hv) hb

theorem exec_load_part {o : Oper} {ev : Operand → Value} {W : World} {x : Operand} {B : Nat} {cs : Array Value} (ho : o.op = .load 37 x) (hx : ev x = .pointer (some ⟨B, 1, none⟩))
    (hr : W.rangeAt B 1 cs.toList) (hs : cs.size = 37) : (execOp ev o).run Try.prog W = .ok (.value (.agg cs)) W := by
  have hr := run_load_part hr hs
  unfold execOp
  simp only [ho, hx, Instr.loadAt, Instr.sureAddr, hr, Sem.run_bind, Sem.run_pure, Result.andThen_ok]
theorem still {f : FuncId} {args : Array Value} {w : World} {v : Value} (B : Nat) (h : Calls Try.prog f args w fun e w' => e = .returned v ∧ w' = w) : Calls Try.prog f args w fun e w' => e = .returned v ∧ Below B w w' := by
  refine h.mono ?_
  rintro e w' ⟨h1, rfl⟩
  exact ⟨h1, Below.refl _ _⟩
theorem lower {f : FuncId} {args : Array Value} {w : World} {v : Value} {B : Nat} (hB : B ≤ w.heap.size) (h : Calls Try.prog f args w fun e w' => e = .returned v ∧ Below w.heap.size w w') : Calls Try.prog f args w fun e w' => e = .returned v ∧ Below B w w' := by
  refine h.mono ?_
  rintro e w' ⟨h1, h2⟩
  exact ⟨h1, h2.mono hB⟩

set_option maxHeartbeats 8000000 in
theorem same_true (B2 B : Nat) (cs : Array Value) (w : World) (h0 : w.cell? ⟨B2, 0, none⟩ = some (.pointer (some ⟨B, 0, none⟩))) (hr : w.rangeAt B2 1 cs.toList) (hs : cs.size = 37) (h9 : cs[9]? = some (.int .i64 1))
    (hc37 : w.cell? ⟨B, 37, none⟩ = some (.bool true)) (hc9 : w.cell? ⟨B, 9, none⟩ = some (.int .i64 1)) :
    Calls Try.prog 8 #[.pointer (some ⟨B2, 0, none⟩)] w fun e w' => e = .returned (.bool true) ∧ Below w.heap.size w w' := by
  have h10 : w.cell? ⟨B2, 10, none⟩ = some (.int .i64 1) := hr 9 _ (by rw [← h9]; simp)
  have HF : Hid (∀ W, Below w.heap.size w W → W.cell? ⟨B2, 0, none⟩ = some (.pointer (some ⟨B, 0, none⟩)) ∧ W.cell? ⟨B2, 10, none⟩ = some (.int .i64 1)) := fun W hW => ⟨cell_below h0 hW, cell_below h10 hW⟩
  have HR : Hid (∀ W, Below w.heap.size w W → W.rangeAt B2 1 cs.toList) := fun W hW => range_below hr hW
  have Hs := Lib.hid hs
  have HP := Lib.hid (fun W (hW : Below w.heap.size w W) => still w.heap.size (phase_of B W 1 (cell_below hc37 hW) (cell_below hc9 hW)))
  have HI := Lib.hid (fun W (hW : Below w.heap.size w W) => still w.heap.size (session_of B W 1 (by decide) (cell_below hc37 hW) (cell_below hc9 hW)))
  have HU := Lib.hid (fun W (hW : Below w.heap.size w W) => still w.heap.size (up_of B W 1 (by decide) (cell_below hc37 hW) (cell_below hc9 hW)))
  have HA := Lib.hid (fun W (hW : Below w.heap.size w W) => still w.heap.size (address_of B W 1 (by decide) (cell_below hc37 hW) (cell_below hc9 hW)))
  have RI := Lib.hid (fun W (hW : Below w.heap.size w W) => lower hW.size (rid_of cs 1 h9 (by decide) W))
  have RU := Lib.hid (fun W (hW : Below w.heap.size w W) => lower hW.size (rup_of cs 1 h9 (by decide) W))
  have RA := Lib.hid (fun W (hW : Below w.heap.size w W) => lower hW.size (raddress_of cs 1 h9 hs (by decide) W))
  have Hk : Hid (Below w.heap.size w w.drew) := (Below.refl _ _).drew
  clear h0 hr hs h9 hc37 hc9 h10
  go_enter Try.func8, Try.ntmps8
  go_wp2
  refine rn_begin (w.heap.size) (by kernel_rfl) ?_
  have hA := fun W (hW : Sn w.heap.size w.drew W) => HF.out W (Hk.out.trans hW)
  refine rn_take (i := 0) rfl (by kernel_rfl) (by kernel_rfl) (by kernel_rfl) (fun _ _ _ h => h) (by rfl) (v := ?_) ?_ ?_
  rotate_left 1
  · intro W hW; go_simp; all_goals with_reducible rfl
  simp only [Act.put, List.setIfInBounds_toArray, List.set_cons_zero, List.set_cons_succ]
  refine rn_take (i := 1) rfl (by kernel_rfl) (by kernel_rfl) (by kernel_rfl) (fun _ _ _ h => h) (by rfl) (v := ?_) ?_ ?_
  rotate_left 1
  · intro W hW; go_simp; all_goals with_reducible rfl
  simp only [Act.put, List.setIfInBounds_toArray, List.set_cons_zero, List.set_cons_succ]
  refine rn_take (i := 2) rfl (by kernel_rfl) (by kernel_rfl) (by kernel_rfl) (fun _ _ _ h => h) (by rfl) (v := ?_) ?_ ?_
  rotate_left 1
  · intro W hW; go_simp; all_goals with_reducible rfl
  simp only [Act.put, List.setIfInBounds_toArray, List.set_cons_zero, List.set_cons_succ]
  refine rn_take (i := 3) rfl (by kernel_rfl) (by kernel_rfl) (by kernel_rfl) (fun _ _ _ h => h) (by rfl) (v := ?_) ?_ ?_
  rotate_left 1
  · intro W hW; go_simp; all_goals with_reducible rfl
  simp only [Act.put, List.setIfInBounds_toArray, List.set_cons_zero, List.set_cons_succ]
  refine rn_take (i := 5) rfl (by kernel_rfl) (by kernel_rfl) (by kernel_rfl) (fun _ _ _ h => h) (by rfl) (v := ?_) ?_ ?_
  rotate_left 1
  · intro W hW; go_simp; all_goals with_reducible rfl
  simp only [Act.put, List.setIfInBounds_toArray, List.set_cons_zero, List.set_cons_succ]
  refine rn_take (i := 6) rfl (by kernel_rfl) (by kernel_rfl) (by kernel_rfl) (fun _ _ _ h => h) (by rfl) (v := ?_) ?_ ?_
  rotate_left 1
  · intro W hW; go_simp; all_goals with_reducible rfl
  simp only [Act.put, List.setIfInBounds_toArray, List.set_cons_zero, List.set_cons_succ]
  refine rn_take (i := 7) rfl (by kernel_rfl) (by kernel_rfl) (by kernel_rfl) (fun _ _ _ h => h) (by rfl) (v := ?_) ?_ ?_
  rotate_left 1
  · intro W hW; go_simp; all_goals with_reducible rfl
  simp only [Act.put, List.setIfInBounds_toArray, List.set_cons_zero, List.set_cons_succ]
  refine rn_take (i := 8) rfl (by kernel_rfl) (by kernel_rfl) (by kernel_rfl) (fun _ _ _ h => h) (by rfl) (v := ?_) ?_ ?_
  rotate_left 1
  · intro W hW; go_simp; all_goals with_reducible rfl
  simp only [Act.put, List.setIfInBounds_toArray, List.set_cons_zero, List.set_cons_succ]
  refine rn_take (i := 9) rfl (by kernel_rfl) (by kernel_rfl) (by kernel_rfl) (fun _ _ _ h => h) (by rfl) (v := ?_) ?_ ?_
  rotate_left 1
  · intro W hW; go_simp; all_goals with_reducible rfl
  simp only [Act.put, List.setIfInBounds_toArray, List.set_cons_zero, List.set_cons_succ]
  refine rn_call (i := 4) (by kernel_rfl) rfl (by rfl) (f := 12) (args := ?_) ?_ ?_
  rotate_left 1
  · go_simp; all_goals with_reducible rfl
  refine (HP.out _ Hk.out).mono ?_; rintro e w4 ⟨rfl, hb4⟩
  have Hk := Lib.hid (Hk.out.trans hb4); clear hA; have hA := fun W (hW : Sn w.heap.size w4 W) => HF.out W (Hk.out.trans hW)
  refine ⟨_, rfl, hb4, ?_⟩
  simp only [Act.put, List.setIfInBounds_toArray, List.set_cons_zero, List.set_cons_succ]
  clear hb4
  refine rn_take (i := 10) rfl (by kernel_rfl) (by kernel_rfl) (by kernel_rfl) (fun _ _ _ h => h) (by rfl) (v := ?_) ?_ ?_
  rotate_left 1
  · intro W hW; go_simp; all_goals with_reducible rfl
  simp only [Act.put, List.setIfInBounds_toArray, List.set_cons_zero, List.set_cons_succ]
  refine rn_take (i := 11) rfl (by kernel_rfl) (by kernel_rfl) (by kernel_rfl) (fun _ _ _ h => h) (by rfl) (v := ?_) ?_ ?_
  rotate_left 1
  · intro W hW; go_simp; all_goals with_reducible rfl
  simp only [Act.put, List.setIfInBounds_toArray, List.set_cons_zero, List.set_cons_succ]
  refine rn_take (i := 12) rfl (by kernel_rfl) (by kernel_rfl) (by kernel_rfl) (fun _ _ _ h => h) (by rfl) (v := ?_) ?_ ?_
  rotate_left 1
  · intro W hW; go_simp; all_goals with_reducible rfl
  simp only [Act.put, List.setIfInBounds_toArray, List.set_cons_zero, List.set_cons_succ]
  refine rn_take (i := 13) rfl (by kernel_rfl) (by kernel_rfl) (by kernel_rfl) (fun _ _ _ h => h) (by rfl) (v := ?_) ?_ ?_
  rotate_left 1
  · intro W hW; go_simp; all_goals with_reducible rfl
  simp only [Act.put, List.setIfInBounds_toArray, List.set_cons_zero, List.set_cons_succ]
  refine rn_take (i := 14) rfl (by kernel_rfl) (by kernel_rfl) (by kernel_rfl) (fun _ _ _ h => h) (by rfl) (v := ?_) ?_ ?_
  rotate_left 1
  · intro W hW; go_simp; all_goals with_reducible rfl
  simp only [Act.put, List.setIfInBounds_toArray, List.set_cons_zero, List.set_cons_succ]
  refine rn_take (i := 15) rfl (by kernel_rfl) (by kernel_rfl) (by kernel_rfl) (fun _ _ _ h => h) (by rfl) (v := ?_) ?_ ?_
  rotate_left 1
  · intro W hW; go_simp; all_goals with_reducible rfl
  simp only [Act.put, List.setIfInBounds_toArray, List.set_cons_zero, List.set_cons_succ]
  refine rn_take (i := 17) rfl (by kernel_rfl) (by kernel_rfl) (by kernel_rfl) (fun _ _ _ h => h) (by rfl) (v := ?_) ?_ ?_
  rotate_left 1
  · intro W hW; go_simp; all_goals with_reducible rfl
  simp only [Act.put, List.setIfInBounds_toArray, List.set_cons_zero, List.set_cons_succ]
  refine rn_take (i := 18) rfl (by kernel_rfl) (by kernel_rfl) (by kernel_rfl) (fun _ _ _ h => h) (by rfl) (v := ?_) ?_ ?_
  rotate_left 1
  · intro W hW; go_simp; all_goals with_reducible rfl
  simp only [Act.put, List.setIfInBounds_toArray, List.set_cons_zero, List.set_cons_succ]
  refine rn_take (i := 19) rfl (by kernel_rfl) (by kernel_rfl) (by kernel_rfl) (fun _ _ _ h => h) (by rfl) (v := ?_) ?_ ?_
  rotate_left 1
  · intro W hW; go_simp; all_goals with_reducible rfl
  simp only [Act.put, List.setIfInBounds_toArray, List.set_cons_zero, List.set_cons_succ]
  refine rn_take (i := 20) rfl (by kernel_rfl) (by kernel_rfl) (by kernel_rfl) (fun _ _ _ h => h) (by rfl) (v := .agg cs) (fun W hW => exec_load_part rfl rfl (HR.out W (Hk.out.trans hW)) Hs.out) ?_
  simp only [Act.put, List.setIfInBounds_toArray, List.set_cons_zero, List.set_cons_succ]
  refine rn_call (i := 16) (by kernel_rfl) rfl (by rfl) (f := 18) (args := ?_) ?_ ?_
  rotate_left 1
  · go_simp; all_goals with_reducible rfl
  refine (HI.out _ Hk.out).mono ?_; rintro e w16 ⟨rfl, hb16⟩
  have Hk := Lib.hid (Hk.out.trans hb16); clear hA; have hA := fun W (hW : Sn w.heap.size w16 W) => HF.out W (Hk.out.trans hW)
  refine ⟨_, rfl, hb16, ?_⟩
  simp only [Act.put, List.setIfInBounds_toArray, List.set_cons_zero, List.set_cons_succ]
  clear hb16
  refine rn_call (i := 21) (by kernel_rfl) rfl (by rfl) (f := 19) (args := ?_) ?_ ?_
  rotate_left 1
  · go_simp; all_goals with_reducible rfl
  refine (RI.out _ Hk.out).mono ?_; rintro e w21 ⟨rfl, hb21⟩
  have Hk := Lib.hid (Hk.out.trans hb21); clear hA; have hA := fun W (hW : Sn w.heap.size w21 W) => HF.out W (Hk.out.trans hW)
  refine ⟨_, rfl, hb21, ?_⟩
  simp only [Act.put, List.setIfInBounds_toArray, List.set_cons_zero, List.set_cons_succ]
  clear hb21
  refine rn_take (i := 22) rfl (by kernel_rfl) (by kernel_rfl) (by kernel_rfl) (fun _ _ _ h => h) (by rfl) (v := ?_) ?_ ?_
  rotate_left 1
  · intro W hW; go_simp; all_goals with_reducible rfl
  simp only [Act.put, List.setIfInBounds_toArray, List.set_cons_zero, List.set_cons_succ]
  refine rn_take (i := 23) rfl (by kernel_rfl) (by kernel_rfl) (by kernel_rfl) (fun _ _ _ h => h) (by rfl) (v := ?_) ?_ ?_
  rotate_left 1
  · intro W hW; go_simp; all_goals with_reducible rfl
  simp only [Act.put, List.setIfInBounds_toArray, List.set_cons_zero, List.set_cons_succ]
  refine rn_take (i := 24) rfl (by kernel_rfl) (by kernel_rfl) (by kernel_rfl) (fun _ _ _ h => h) (by rfl) (v := ?_) ?_ ?_
  rotate_left 1
  · intro W hW; go_simp; all_goals with_reducible rfl
  simp only [Act.put, List.setIfInBounds_toArray, List.set_cons_zero, List.set_cons_succ]
  refine rn_take (i := 25) rfl (by kernel_rfl) (by kernel_rfl) (by kernel_rfl) (fun _ _ _ h => h) (by rfl) (v := ?_) ?_ ?_
  rotate_left 1
  · intro W hW; go_simp; all_goals with_reducible rfl
  simp only [Act.put, List.setIfInBounds_toArray, List.set_cons_zero, List.set_cons_succ]
  refine rn_take (i := 26) rfl (by kernel_rfl) (by kernel_rfl) (by kernel_rfl) (fun _ _ _ h => h) (by rfl) (v := ?_) ?_ ?_
  rotate_left 1
  · intro W hW; go_simp; all_goals with_reducible rfl
  simp only [Act.put, List.setIfInBounds_toArray, List.set_cons_zero, List.set_cons_succ]
  refine rn_take (i := 27) rfl (by kernel_rfl) (by kernel_rfl) (by kernel_rfl) (fun _ _ _ h => h) (by rfl) (v := ?_) ?_ ?_
  rotate_left 1
  · intro W hW; go_simp; all_goals with_reducible rfl
  simp only [Act.put, List.setIfInBounds_toArray, List.set_cons_zero, List.set_cons_succ]
  refine rn_take (i := 28) rfl (by kernel_rfl) (by kernel_rfl) (by kernel_rfl) (fun _ _ _ h => h) (by rfl) (v := ?_) ?_ ?_
  rotate_left 1
  · intro W hW; go_simp; all_goals with_reducible rfl
  simp only [Act.put, List.setIfInBounds_toArray, List.set_cons_zero, List.set_cons_succ]
  refine rn_take (i := 30) rfl (by kernel_rfl) (by kernel_rfl) (by kernel_rfl) (fun _ _ _ h => h) (by rfl) (v := ?_) ?_ ?_
  rotate_left 1
  · intro W hW; go_simp; all_goals with_reducible rfl
  simp only [Act.put, List.setIfInBounds_toArray, List.set_cons_zero, List.set_cons_succ]
  refine rn_take (i := 31) rfl (by kernel_rfl) (by kernel_rfl) (by kernel_rfl) (fun _ _ _ h => h) (by rfl) (v := ?_) ?_ ?_
  rotate_left 1
  · intro W hW; go_simp; all_goals with_reducible rfl
  simp only [Act.put, List.setIfInBounds_toArray, List.set_cons_zero, List.set_cons_succ]
  refine rn_take (i := 32) rfl (by kernel_rfl) (by kernel_rfl) (by kernel_rfl) (fun _ _ _ h => h) (by rfl) (v := ?_) ?_ ?_
  rotate_left 1
  · intro W hW; go_simp; all_goals with_reducible rfl
  simp only [Act.put, List.setIfInBounds_toArray, List.set_cons_zero, List.set_cons_succ]
  refine rn_take (i := 33) rfl (by kernel_rfl) (by kernel_rfl) (by kernel_rfl) (fun _ _ _ h => h) (by rfl) (v := .agg cs) (fun W hW => exec_load_part rfl rfl (HR.out W (Hk.out.trans hW)) Hs.out) ?_
  simp only [Act.put, List.setIfInBounds_toArray, List.set_cons_zero, List.set_cons_succ]
  refine rn_call (i := 29) (by kernel_rfl) rfl (by rfl) (f := 20) (args := ?_) ?_ ?_
  rotate_left 1
  · go_simp; all_goals with_reducible rfl
  refine (HU.out _ Hk.out).mono ?_; rintro e w29 ⟨rfl, hb29⟩
  have Hk := Lib.hid (Hk.out.trans hb29); clear hA; have hA := fun W (hW : Sn w.heap.size w29 W) => HF.out W (Hk.out.trans hW)
  refine ⟨_, rfl, hb29, ?_⟩
  simp only [Act.put, List.setIfInBounds_toArray, List.set_cons_zero, List.set_cons_succ]
  clear hb29
  refine rn_call (i := 34) (by kernel_rfl) rfl (by rfl) (f := 21) (args := ?_) ?_ ?_
  rotate_left 1
  · go_simp; all_goals with_reducible rfl
  refine (RU.out _ Hk.out).mono ?_; rintro e w34 ⟨rfl, hb34⟩
  have Hk := Lib.hid (Hk.out.trans hb34); clear hA; have hA := fun W (hW : Sn w.heap.size w34 W) => HF.out W (Hk.out.trans hW)
  refine ⟨_, rfl, hb34, ?_⟩
  simp only [Act.put, List.setIfInBounds_toArray, List.set_cons_zero, List.set_cons_succ]
  clear hb34
  refine rn_take (i := 35) rfl (by kernel_rfl) (by kernel_rfl) (by kernel_rfl) (fun _ _ _ h => h) (by rfl) (v := ?_) ?_ ?_
  rotate_left 1
  · intro W hW; go_simp; all_goals with_reducible rfl
  simp only [Act.put, List.setIfInBounds_toArray, List.set_cons_zero, List.set_cons_succ]
  refine rn_take (i := 36) rfl (by kernel_rfl) (by kernel_rfl) (by kernel_rfl) (fun _ _ _ h => h) (by rfl) (v := ?_) ?_ ?_
  rotate_left 1
  · intro W hW; go_simp; all_goals with_reducible rfl
  simp only [Act.put, List.setIfInBounds_toArray, List.set_cons_zero, List.set_cons_succ]
  refine rn_take (i := 37) rfl (by kernel_rfl) (by kernel_rfl) (by kernel_rfl) (fun _ _ _ h => h) (by rfl) (v := ?_) ?_ ?_
  rotate_left 1
  · intro W hW; go_simp; all_goals with_reducible rfl
  simp only [Act.put, List.setIfInBounds_toArray, List.set_cons_zero, List.set_cons_succ]
  refine rn_take (i := 38) rfl (by kernel_rfl) (by kernel_rfl) (by kernel_rfl) (fun _ _ _ h => h) (by rfl) (v := ?_) ?_ ?_
  rotate_left 1
  · intro W hW; go_simp; all_goals with_reducible rfl
  simp only [Act.put, List.setIfInBounds_toArray, List.set_cons_zero, List.set_cons_succ]
  refine rn_take (i := 39) rfl (by kernel_rfl) (by kernel_rfl) (by kernel_rfl) (fun _ _ _ h => h) (by rfl) (v := ?_) ?_ ?_
  rotate_left 1
  · intro W hW; go_simp; all_goals with_reducible rfl
  simp only [Act.put, List.setIfInBounds_toArray, List.set_cons_zero, List.set_cons_succ]
  refine rn_take (i := 40) rfl (by kernel_rfl) (by kernel_rfl) (by kernel_rfl) (fun _ _ _ h => h) (by rfl) (v := ?_) ?_ ?_
  rotate_left 1
  · intro W hW; go_simp; all_goals with_reducible rfl
  simp only [Act.put, List.setIfInBounds_toArray, List.set_cons_zero, List.set_cons_succ]
  refine rn_take (i := 41) rfl (by kernel_rfl) (by kernel_rfl) (by kernel_rfl) (fun _ _ _ h => h) (by rfl) (v := ?_) ?_ ?_
  rotate_left 1
  · intro W hW; go_simp; all_goals with_reducible rfl
  simp only [Act.put, List.setIfInBounds_toArray, List.set_cons_zero, List.set_cons_succ]
  refine rn_take (i := 43) rfl (by kernel_rfl) (by kernel_rfl) (by kernel_rfl) (fun _ _ _ h => h) (by rfl) (v := ?_) ?_ ?_
  rotate_left 1
  · intro W hW; go_simp; all_goals with_reducible rfl
  simp only [Act.put, List.setIfInBounds_toArray, List.set_cons_zero, List.set_cons_succ]
  refine rn_take (i := 44) rfl (by kernel_rfl) (by kernel_rfl) (by kernel_rfl) (fun _ _ _ h => h) (by rfl) (v := ?_) ?_ ?_
  rotate_left 1
  · intro W hW; go_simp; all_goals with_reducible rfl
  simp only [Act.put, List.setIfInBounds_toArray, List.set_cons_zero, List.set_cons_succ]
  refine rn_take (i := 45) rfl (by kernel_rfl) (by kernel_rfl) (by kernel_rfl) (fun _ _ _ h => h) (by rfl) (v := ?_) ?_ ?_
  rotate_left 1
  · intro W hW; go_simp; all_goals with_reducible rfl
  simp only [Act.put, List.setIfInBounds_toArray, List.set_cons_zero, List.set_cons_succ]
  refine rn_take (i := 46) rfl (by kernel_rfl) (by kernel_rfl) (by kernel_rfl) (fun _ _ _ h => h) (by rfl) (v := .agg cs) (fun W hW => exec_load_part rfl rfl (HR.out W (Hk.out.trans hW)) Hs.out) ?_
  simp only [Act.put, List.setIfInBounds_toArray, List.set_cons_zero, List.set_cons_succ]
  refine rn_call (i := 42) (by kernel_rfl) rfl (by rfl) (f := 22) (args := ?_) ?_ ?_
  rotate_left 1
  · go_simp; all_goals with_reducible rfl
  refine (HA.out _ Hk.out).mono ?_; rintro e w42 ⟨rfl, hb42⟩
  have Hk := Lib.hid (Hk.out.trans hb42); clear hA; have hA := fun W (hW : Sn w.heap.size w42 W) => HF.out W (Hk.out.trans hW)
  refine ⟨_, rfl, hb42, ?_⟩
  simp only [Act.put, List.setIfInBounds_toArray, List.set_cons_zero, List.set_cons_succ]
  clear hb42
  refine rn_call (i := 47) (by kernel_rfl) rfl (by rfl) (f := 23) (args := ?_) ?_ ?_
  rotate_left 1
  · go_simp; all_goals with_reducible rfl
  refine (RA.out _ Hk.out).mono ?_; rintro e w47 ⟨rfl, hb47⟩
  have Hk := Lib.hid (Hk.out.trans hb47); clear hA; have hA := fun W (hW : Sn w.heap.size w47 W) => HF.out W (Hk.out.trans hW)
  refine ⟨_, rfl, hb47, ?_⟩
  simp only [Act.put, List.setIfInBounds_toArray, List.set_cons_zero, List.set_cons_succ]
  clear hb47
  refine rn_take (i := 48) rfl (by kernel_rfl) (by kernel_rfl) (by kernel_rfl) (fun _ _ _ h => h) (by rfl) (v := ?_) ?_ ?_
  rotate_left 1
  · intro W hW; go_simp; all_goals with_reducible rfl
  simp only [Act.put, List.setIfInBounds_toArray, List.set_cons_zero, List.set_cons_succ]
  refine rn_take (i := 49) rfl (by kernel_rfl) (by kernel_rfl) (by kernel_rfl) (fun _ _ _ h => h) (by rfl) (v := ?_) ?_ ?_
  rotate_left 1
  · intro W hW; go_simp; all_goals with_reducible rfl
  simp only [Act.put, List.setIfInBounds_toArray, List.set_cons_zero, List.set_cons_succ]
  refine rn_take (i := 50) rfl (by kernel_rfl) (by kernel_rfl) (by kernel_rfl) (fun _ _ _ h => h) (by rfl) (v := ?_) ?_ ?_
  rotate_left 1
  · intro W hW; go_simp; all_goals with_reducible rfl
  simp only [Act.put, List.setIfInBounds_toArray, List.set_cons_zero, List.set_cons_succ]
  refine rn_done (by kernel_rfl) ?_
  go_wp2
  go_ret
  exact ⟨rfl, Hk.out⟩
end Go.Proofs.Ytlgidkaaclfomaa
