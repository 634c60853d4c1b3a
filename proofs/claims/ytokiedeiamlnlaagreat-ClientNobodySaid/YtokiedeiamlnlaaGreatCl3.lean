/- conciergeref26.New. -/
import Derived.Test.YtokiedeiamlnlaaGreatCl2
namespace Go.Proofs.YtokiedeiamlnlaaGreat
set_option linter.unusedSimpArgs false
set_option linter.unusedVariables false
open Go.RowKit
set_option maxRecDepth 10000

theorem below_setRow {B : Nat} {a w : World} (h : Below B a w) {g : Nat} (hg : B ≤ g) (cs : Array Value) : Below B a (w.setRow g cs) :=
  ⟨h.os, h.tape, h.output, by rw [setRow_size]; exact h.size, fun k hk => (setRow_other w g k cs (by omega)).trans (h.block k hk)⟩

/-- results: a client out of its cell, and one that is a temporary -/
theorem rres {fn : Func} {tmps : Array Value} {W : World} {B : Nat} {cs : Array Value} {t : TypeId} {fr : Nat × Nat} {p q : Tmp} {v : Value} (hb : W.heap[B]? = some (.cells cs t fr)) (hs : cs.size = 37)
    (h : fn.results = #[.cell p 53, .tmp q]) (hp : tmps.getD p undef = .pointer (some ⟨B, 0, none⟩)) (hq : tmps.getD q undef = v) :
    (results fn tmps).run Tryz.prog W = .ok (.tuple #[.agg cs, v]) W := by
  have hl := run_var_block (P := Tryz.prog) hb 53 (by kernel_rfl) (by rw [hs]; kernel_rfl)
  rw [results_cell_tmp h, hp, hq]
  simp only [asAddr, Sem.run_pure, Result.andThen_ok, hl]

def rZero : Array Value := #[z8, z8, z8, z8, z8, z8, zn, .string ⟨#[]⟩, zi, zi, z8, z8, z8, z8, z8, z8, zi, zi, zi, zi, zn, zi, zi, zi, zi, zi, zi, zi, zi, zi, zi, zi, zn, zi, zi, zi, .bool false]

set_option maxHeartbeats 4000000 in
theorem rnew_yes (m : Mac) (uv : Value) (u : List UInt8) (s : ByteArray) (mg : Int) (w : World) (hv : IsBytes w uv u) (hok : newOk m u.length s.size mg) :
    Calls Tryz.prog 38 #[m.v, uv, .string s, .int .i64 mg] w fun e w' => e = .returned (.tuple #[.agg (rCells m uv s mg 0), .int .i64 0]) ∧ Below w.heap.size w w' := by
  obtain ⟨a, cap, rfl, -, -⟩ := hv.shape
  clear hv
  obtain ⟨hk, h1, h2, h3, h4⟩ := hok
  have HK := Lib.hid (single_b m true (by simp [hk]))
  clear hk
  unfold Mac.v at *
  rcases m with ⟨m1, m2, m3, m4, m5, m6⟩
  have h1' : (u.length : Int) ≤ 64 := by omega
  have h2' : (s.size : Int) ≤ 64 := by omega
  go_enter Tryz.func38, Tryz.ntmps38
  go_wp2_with (first
    | (show wpList _ _ _ (Oper.mk none (Op.store _ _ _) _ _ _ _ :: _) _ _; go_must (refine wpList_store_row rfl 53 _ _ rfl _ _ rfl rfl _ _ HZ.out (by kernel_rfl) (by rfl) (by simp [Value.oneCell']) ?_))
    | (go_at_call 79; refine (HK.out _).mono ?_; rintro e w1 ⟨rfl, hb1⟩
       have HA := Lib.hid ((hb1.block w.heap.size (by simp only [World.size_alloc]; omega)).trans (alloc2 w _ _).1)
       have HZ := Lib.hid ((hb1.block (w.heap.size + 1) (by simp only [World.size_alloc]; omega)).trans (alloc2 w _ _).2.1)
       have hA := six_cells HA.out))
  obtain ⟨W, hW⟩ : ∃ W, W = w1.setRow (w.heap.size + 1) (rCells ⟨m1, m2, m3, m4, m5, m6⟩ (.slice a u.length cap) s mg 0) := ⟨_, rfl⟩
  have hN : W.heap[w.heap.size + 1]? = some (.cells (rCells ⟨m1, m2, m3, m4, m5, m6⟩ (.slice a u.length cap) s mg 0) 53 (0, 0)) := by rw [hW]; exact setRow_heap w1 _ _ _ _ _ HZ.out
  have hB : Below w.heap.size w W := by rw [hW]; exact below_setRow (((Below.refl _ _).alloc (Nat.le_refl _) _).alloc (by simp) _ |>.trans (hb1.mono (by simp only [World.size_alloc]; omega))) (by omega) _
  refine bodyPost_ret (v := .tuple #[.agg (rCells ⟨m1, m2, m3, m4, m5, m6⟩ (.slice a u.length cap) s mg 0), .int .i64 0]) ?_ rfl ⟨rfl, by rw [hW] at hB; exact hB⟩
  rw [hW] at hN
  exact rres hN rfl rfl rfl rfl

set_option maxHeartbeats 4000000 in
theorem rnew_no (m : Mac) (uv : Value) (u : List UInt8) (s : ByteArray) (mg : Int) (w : World) (hv : IsBytes w uv u) (hno : ¬ newOk m u.length s.size mg) :
    Calls Tryz.prog 38 #[m.v, uv, .string s, .int .i64 mg] w fun e w' => e = .returned (.tuple #[.agg rZero, .int .i64 260]) ∧ Below w.heap.size w w' := by
  obtain ⟨a, cap, rfl, -, -⟩ := hv.shape
  clear hv
  obtain ⟨r, hr⟩ : ∃ r : Bool, r = true ↔ kindN m.a m.b m.c m.d m.e m.f = 4 := ⟨decide (kindN m.a m.b m.c m.d m.e m.f = 4), by simp⟩
  have HK := Lib.hid (single_b m r hr)
  unfold newOk at hno
  rw [← hr] at hno
  clear hr
  unfold Mac.v at *
  rcases m with ⟨m1, m2, m3, m4, m5, m6⟩
  go_enter Tryz.func38, Tryz.ntmps38
  cases r
  case' false => clear hno
  case' true =>
    have hno2 : ¬ (u.length ≤ 64 ∧ s.size ≤ 64 ∧ 1 ≤ mg ∧ mg ≤ 4294967295) := fun h => hno ⟨rfl, h⟩
    clear hno
  all_goals go_wp2_with (first
    | (show wpList _ _ _ (Oper.mk none (Op.store _ _ _) _ _ _ _ :: _) _ _; go_must (refine wpList_store_row rfl 53 _ _ rfl _ _ rfl rfl _ _ HZ.out (by kernel_rfl) (by rfl) (by simp [Value.oneCell']) ?_))
    | (go_at_call 79; refine (HK.out _).mono ?_; rintro e w1 ⟨rfl, hb1⟩
       have HZ := Lib.hid ((hb1.block (w.heap.size + 1) (by simp only [World.size_alloc]; omega)).trans (alloc2 w _ _).2.1)))
  all_goals
    obtain ⟨W, hW⟩ : ∃ W, W = w1.setRow (w.heap.size + 1) rZero := ⟨_, rfl⟩
    have hN : W.heap[w.heap.size + 1]? = some (.cells rZero 53 (0, 0)) := by rw [hW]; exact setRow_heap w1 _ _ _ _ _ HZ.out
    have hB : Below w.heap.size w W := by rw [hW]; exact below_setRow (((Below.refl _ _).alloc (Nat.le_refl _) _).alloc (by simp) _ |>.trans (hb1.mono (by simp only [World.size_alloc]; omega))) (by omega) _
    refine bodyPost_ret (v := .tuple #[.agg rZero, .int .i64 260]) ?_ rfl ⟨rfl, by rw [hW] at hB; exact hB⟩
    rw [hW] at hN
    exact rres hN rfl rfl rfl rfl
end Go.Proofs.YtokiedeiamlnlaaGreat
