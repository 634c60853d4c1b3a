/- A table: none, known, timed; what it holds; calls of one that nobody made. -/
import Derived.Test.YtkifagflnpkkaaaNote
namespace Go.Proofs.Ytkifagflnpkkaaa
set_option linter.unusedSimpArgs false
set_option linter.unusedVariables false
open Go.RowKit
set_option maxRecDepth 10000


/-- v is no table that somebody made: b = true -/
def NoneIs (w : World) (v : Value) (b : Bool) : Prop := (v = .pointer none ∧ b = true) ∨ ∃ T m, v = .pointer (some ⟨T, 0, none⟩) ∧ w.cell? ⟨T, 0, none⟩ = some (.map m) ∧ b = m.isNone

theorem eql_by (w : World) (r : Option Nat) : (binOp .eql 67 (.map r) (.map none)).run Try.prog w = .ok (.bool r.isNone) w := by cases r <;> kernel_rfl
theorem none_any (v : Value) (b : Bool) (w : World) (h : NoneIs w v b) : Calls Try.prog 30 #[v] w fun e w' => e = .returned (.bool b) ∧ w' = w := by
  rcases h with ⟨rfl, rfl⟩ | ⟨T, m, rfl, hc, rfl⟩
  · go_enter Try.func30, Try.ntmps30
    go_wp2
    all_goals go_ret
    all_goals exact ⟨rfl, rfl⟩
  · have hq := eql_by w m
    go_enter Try.func30, Try.ntmps30
    go_wp2
    all_goals go_ret
    all_goals exact ⟨rfl, rfl⟩
theorem known_any (k : Int) (w : World) : Calls Try.prog 32 #[.int .i64 k] w fun e w' => e = .returned (.bool (decide (1 ≤ k ∧ k ≤ 65534))) ∧ w' = w := by
  go_enter Try.func32, Try.ntmps32
  go_wp2
  all_goals go_ret
  all_goals refine ⟨?_, rfl⟩
  all_goals congr 2
  all_goals simp
  all_goals omega
theorem timed_any (k : Int) (w : World) : Calls Try.prog 36 #[.int .i64 k] w fun e w' => e = .returned (.bool (decide (0 ≤ k ∧ k ≤ 1099511627776))) ∧ w' = w := by
  go_enter Try.func36, Try.ntmps36
  go_wp2
  all_goals go_ret
  all_goals refine ⟨?_, rfl⟩
  all_goals congr 2
  all_goals simp
  all_goals omega
theorem none_alloc {w : World} {v : Value} {b : Bool} (h : NoneIs w v b) {o : Obj} : NoneIs (w.alloc o) v b := by
  rcases h with h | ⟨T, m, rfl, h2, h3⟩
  · exact .inl h
  · exact .inr ⟨T, m, rfl, by rw [World.cell?_alloc_lt _ _ _ (World.block_lt_of_cell? w _ h2)]; exact h2, h3⟩
def ent0 : EntL := ⟨0, ⟨0, 0, 0, 0, 0, 0⟩, 0⟩
theorem len_nil (v : Value)  (w : World) (h : NoneIs w v true) : Calls Try.prog 15 #[v] w fun e w' => e = .returned (.int .i64 0) ∧ Below w.heap.size w w' := by
  have Hn := Lib.hid h
  clear h
  go_enter Try.func15, Try.ntmps15
  go_wp2_with (first
    | (go_at_call 30; refine (none_any _ _ _ (by first | exact Hn.out | exact none_alloc Hn.out)).mono ?_; rintro e w1 ⟨rfl, rfl⟩))
  exact bodyPost_ret (v := (.int .i64 0)) (by simp [results, Try.results15, go_sem]) rfl ⟨rfl, by first | assumption | exact Below.refl _ _ | exact (Below.refl _ _).alloc (Nat.le_refl _) _ | exact ((Below.refl _ _).alloc (Nat.le_refl _) _).alloc (by simp) _⟩
theorem shards_nil (v : Value)  (w : World) (h : NoneIs w v true) : Calls Try.prog 27 #[v] w fun e w' => e = .returned (.int .i64 0) ∧ Below w.heap.size w w' := by
  have Hn := Lib.hid h
  clear h
  go_enter Try.func27, Try.ntmps27
  go_wp2_with (first
    | (go_at_call 30; refine (none_any _ _ _ (by first | exact Hn.out | exact none_alloc Hn.out)).mono ?_; rintro e w1 ⟨rfl, rfl⟩))
  exact bodyPost_ret (v := (.int .i64 0)) (by simp [results, Try.results27, go_sem]) rfl ⟨rfl, by first | assumption | exact Below.refl _ _ | exact (Below.refl _ _).alloc (Nat.le_refl _) _ | exact ((Below.refl _ _).alloc (Nat.le_refl _) _).alloc (by simp) _⟩
theorem shard_nil (v : Value) (k : Int) (w : World) (h : NoneIs w v true) : Calls Try.prog 12 #[v, .int .i64 k] w fun e w' => e = .returned (.tuple #[.int .i64 0, .int .i64 4]) ∧ Below w.heap.size w w' := by
  have Hn := Lib.hid h
  clear h
  go_enter Try.func12, Try.ntmps12
  go_wp2_with (first
    | (go_at_call 30; refine (none_any _ _ _ (by first | exact Hn.out | exact none_alloc Hn.out)).mono ?_; rintro e w1 ⟨rfl, rfl⟩))
  exact bodyPost_ret (v := (.tuple #[.int .i64 0, .int .i64 4])) (by simp [results, Try.results12, go_sem]) rfl ⟨rfl, by first | assumption | exact Below.refl _ _ | exact (Below.refl _ _).alloc (Nat.le_refl _) _ | exact ((Below.refl _ _).alloc (Nat.le_refl _) _).alloc (by simp) _⟩
theorem list_nil (v : Value) (k : Int) (w : World) (h : NoneIs w v true) : Calls Try.prog 11 #[v, .int .i64 k] w fun e w' => e = .returned (.tuple #[.slice none 0 0, .int .i64 4]) ∧ Below w.heap.size w w' := by
  have Hn := Lib.hid h
  clear h
  go_enter Try.func11, Try.ntmps11
  go_wp2_with (first
    | (go_at_call 30; refine (none_any _ _ _ (by first | exact Hn.out | exact none_alloc Hn.out)).mono ?_; rintro e w1 ⟨rfl, rfl⟩))
  exact bodyPost_ret (v := (.tuple #[.slice none 0 0, .int .i64 4])) (by simp [results, Try.results11, go_sem]) rfl ⟨rfl, by first | assumption | exact Below.refl _ _ | exact (Below.refl _ _).alloc (Nat.le_refl _) _ | exact ((Below.refl _ _).alloc (Nat.le_refl _) _).alloc (by simp) _⟩
theorem touch_nil (v : Value) (k t : Int) (w : World) (h : NoneIs w v true) : Calls Try.prog 26 #[v, .int .i64 k, .int .i64 t] w fun e w' => e = .returned (.int .i64 4) ∧ Below w.heap.size w w' := by
  have Hn := Lib.hid h
  clear h
  go_enter Try.func26, Try.ntmps26
  go_wp2_with (first
    | (go_at_call 30; refine (none_any _ _ _ (by first | exact Hn.out | exact none_alloc Hn.out)).mono ?_; rintro e w1 ⟨rfl, rfl⟩))
  exact bodyPost_ret (v := (.int .i64 4)) (by simp [results, Try.results26, go_sem]) rfl ⟨rfl, by first | assumption | exact Below.refl _ _ | exact (Below.refl _ _).alloc (Nat.le_refl _) _ | exact ((Below.refl _ _).alloc (Nat.le_refl _) _).alloc (by simp) _⟩
theorem fork_nil (v : Value)  (w : World) (h : NoneIs w v true) : Calls Try.prog 28 #[v] w fun e w' => e = .returned (.pointer none) ∧ Below w.heap.size w w' := by
  have Hn := Lib.hid h
  clear h
  go_enter Try.func28, Try.ntmps28
  go_wp2_with (first
    | (go_at_call 30; refine (none_any _ _ _ (by first | exact Hn.out | exact none_alloc Hn.out)).mono ?_; rintro e w1 ⟨rfl, rfl⟩))
  exact bodyPost_ret (v := (.pointer none)) (by simp [results, Try.results28, go_sem]) rfl ⟨rfl, by first | assumption | exact Below.refl _ _ | exact (Below.refl _ _).alloc (Nat.le_refl _) _ | exact ((Below.refl _ _).alloc (Nat.le_refl _) _).alloc (by simp) _⟩
theorem idle_nil (v : Value) (k t u : Int) (w : World) (h : NoneIs w v true) : Calls Try.prog 18 #[v, .int .i64 k, .int .i64 t, .int .i64 u] w fun e w' => e = .returned (.tuple #[.slice none 0 0, .int .i64 4]) ∧ Below w.heap.size w w' := by
  have Hn := Lib.hid h
  clear h
  go_enter Try.func18, Try.ntmps18
  go_wp2_with (first
    | (go_at_call 11; refine (list_nil _ _ _ Hn.out).mono ?_; rintro e w1 ⟨rfl, hb⟩)
    | (go_at_call 30; refine (none_any _ _ _ (by first | exact Hn.out | exact none_alloc Hn.out)).mono ?_; rintro e w1 ⟨rfl, rfl⟩))
  exact bodyPost_ret (v := (.tuple #[.slice none 0 0, .int .i64 4])) (by simp [results, Try.results18, go_sem]) rfl ⟨rfl, by first | assumption | exact Below.refl _ _ | exact (Below.refl _ _).alloc (Nat.le_refl _) _ | exact ((Below.refl _ _).alloc (Nat.le_refl _) _).alloc (by simp) _⟩
theorem of_nil (v : Value) (m : Mac) (w : World) (h : NoneIs w v true) : Calls Try.prog 14 #[v, m.v] w fun e w' => e = .returned (.slice none 0 0) ∧ Below w.heap.size w w' := by
  have Hn := Lib.hid h
  clear h
  go_enter Try.func14, Try.ntmps14
  go_wp2_with (first
    | (go_at_call 30; refine (none_any _ _ _ (by first | exact Hn.out | exact none_alloc Hn.out)).mono ?_; rintro e w1 ⟨rfl, rfl⟩))
  exact bodyPost_ret (v := (.slice none 0 0)) (by simp [results, Try.results14, go_sem]) rfl ⟨rfl, by first | assumption | exact Below.refl _ _ | exact (Below.refl _ _).alloc (Nat.le_refl _) _ | exact ((Below.refl _ _).alloc (Nat.le_refl _) _).alloc (by simp) _⟩
end Go.Proofs.Ytkifagflnpkkaaa
