/- slices.Clone of a row. -/
import Derived.Test.YtkifagflnpkkaaaDel
import Derived.Lib.SliceRun
namespace Go.Proofs.Ytkifagflnpkkaaa
set_option linter.unusedSimpArgs false
set_option linter.unusedVariables false
open Go.RowKit
set_option maxRecDepth 10000

theorem own_src {w : World} {base : Nat} {e : TypeId} {size : Nat} {v : Value} {n : Nat} {xs : List Value} (h : w.ownsRow base e size v n xs) (h1 : ∀ u ∈ xs, u.oneCell' = true) : SrcOf w size v n xs := by
  rcases h.2 with ⟨rfl, rfl⟩ | ⟨g, cap, cur, rfl, -, hg, hnc, hcm, hcs, htk⟩
  · exact .inl ⟨rfl, rfl, List.eq_nil_of_length_eq_zero (by rw [h.1]; simp)⟩
  · exact .inr ⟨⟨g, 0, none⟩, cap, rfl, h.1, fun j u hu => row_read hg htk 0 0 rfl j u (by simpa using hu), h1⟩
theorem eql_nil {w : World} {t e : TypeId} {a : Option Addr} {n c : Nat} (h : Try.prog.underlying t = some (.slice e)) : (binOp .eql t (.slice a n c) (.slice none 0 0)).run Try.prog w = .ok (.bool a.isNone) w :=
  Lib.run_eql_slice_nil w t e a n c 0 0 h

theorem clone_int (v : Value) (n : Nat) (xs : List Value) (w : World) (hv : w.ownsRow 0 3 1 v n xs) (h1 : ∀ u ∈ xs, u.oneCell' = true) (hn : n ≤ 1000000) :
    Calls Try.prog 35 #[v] w fun e w' => ∃ v', e = .returned v' ∧ Below w.heap.size w w' ∧ w'.ownsRow w.heap.size 3 1 v' n xs := by
  have Hsrc0 := Lib.hid (own_src hv h1)
  have hlen := hv.1
  rcases hv.2 with ⟨rfl, rfl⟩ | ⟨g, cap, cur, rfl, -⟩
  · have hq : ∀ W, (binOp .eql 43 (.slice none 0 0) (.slice none 0 0)).run Try.prog W = .ok (.bool true) W := fun W => eql_nil el_int.ht
    obtain rfl : xs = [] := List.eq_nil_of_length_eq_zero (by simpa using hlen)
    go_enter Try.func35, Try.ntmps35
    go_wp2
    exact bodyPost_ret (v := .slice none 0 0) (by simp [results, Try.results35, go_sem]) rfl ⟨_, rfl, Below.refl _ _, World.ownsRow_nil _ _ _ _⟩
  · have hq : ∀ W, (binOp .eql 43 (.slice (some ⟨g, 0, none⟩) n cap) (.slice none 0 0)).run Try.prog W = .ok (.bool false) W := fun W => eql_nil el_int.ht
    have Hsrc := Lib.hid (Hsrc0.out.alloc (.cells #[] 3))
    have Hown := Lib.hid (own_empty w w.heap.size (Nat.le_refl _) 3 1)
    go_enter Try.func35, Try.ntmps35
    go_wp2_with (at_builtin; go_must (refine wpList_append_from rfl _ _ _ rfl w.heap.size el_int rfl Hown.out rfl Hsrc.out (by omega) (by simp) ?_); intro v' w' ho hg hb)
    refine bodyPost_ret (v := v') (by simp [results, Try.results35, go_sem]) rfl ⟨_, rfl, ((Below.refl _ _).alloc (Nat.le_refl _) _).trans hb, ?_⟩
    simpa using ho

theorem clone_ent (v : Value) (n : Nat) (xs : List Value) (w : World) (hv : w.ownsRow 0 40 8 v n xs) (h1 : ∀ u ∈ xs, u.oneCell' = true) (hn : n ≤ 1000000) :
    Calls Try.prog 31 #[v] w fun e w' => ∃ v', e = .returned v' ∧ Below w.heap.size w w' ∧ w'.ownsRow w.heap.size 40 8 v' n xs := by
  have Hsrc0 := Lib.hid (own_src hv h1)
  have hlen := hv.1
  rcases hv.2 with ⟨rfl, rfl⟩ | ⟨g, cap, cur, rfl, -⟩
  · have hq : ∀ W, (binOp .eql 22 (.slice none 0 0) (.slice none 0 0)).run Try.prog W = .ok (.bool true) W := fun W => eql_nil el_ent.ht
    obtain rfl : xs = [] := List.eq_nil_of_length_eq_zero (by simpa using hlen)
    go_enter Try.func31, Try.ntmps31
    go_wp2
    exact bodyPost_ret (v := .slice none 0 0) (by simp [results, Try.results31, go_sem]) rfl ⟨_, rfl, Below.refl _ _, World.ownsRow_nil _ _ _ _⟩
  · have hq : ∀ W, (binOp .eql 22 (.slice (some ⟨g, 0, none⟩) n cap) (.slice none 0 0)).run Try.prog W = .ok (.bool false) W := fun W => eql_nil el_ent.ht
    have Hsrc := Lib.hid (Hsrc0.out.alloc (.cells #[] 40))
    have Hown := Lib.hid (own_empty w w.heap.size (Nat.le_refl _) 40 8)
    go_enter Try.func31, Try.ntmps31
    go_wp2_with (at_builtin; go_must (refine wpList_append_from rfl _ _ _ rfl w.heap.size el_ent rfl Hown.out rfl Hsrc.out (by omega) (by simp) ?_); intro v' w' ho hg hb)
    refine bodyPost_ret (v := v') (by simp [results, Try.results31, go_sem]) rfl ⟨_, rfl, ((Below.refl _ _).alloc (Nat.le_refl _) _).trans hb, ?_⟩
    simpa using ho
end Go.Proofs.Ytkifagflnpkkaaa
