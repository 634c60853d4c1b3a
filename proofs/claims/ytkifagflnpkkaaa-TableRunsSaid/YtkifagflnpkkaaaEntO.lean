/- Entries that came in. No condition. -/
import Derived.Test.YtkifagflnpkkaaaOpn
import Derived.Test.YtkifagflnpkkaaaTAwk
import Derived.Deep.Strs
namespace Go.Proofs.Ytkifagflnpkkaaa
set_option linter.unusedSimpArgs false
set_option linter.unusedVariables false
open Go.RowKit Go.ChangeShapes Go.WideShapes Go.ChangeAt
set_option maxRecDepth 10000

theorem Mac.cells_of {cs : List Value} {l : List UInt8} (hc : cs.length = 6) (hl : l.length = 6) (h : ∀ i a, l[i]? = some a → (cs.drop (i * 1)).take 1 = [bv a]) : ∃ m : Mac, cs = [bv m.a, bv m.b, bv m.c, bv m.d, bv m.e, bv m.f] := by
  match l, hl with
  | [a, b, c, d, e, f], _ =>
    match cs, hc with
    | [v0, v1, v2, v3, v4, v5], _ =>
      have h0 := h 0 a rfl
      have h1 := h 1 b rfl
      have h2 := h 2 c rfl
      have h3 := h 3 d rfl
      have h4 := h 4 e rfl
      have h5 := h 5 f rfl
      simp only [List.drop_zero, List.drop_succ_cons, List.take_succ_cons, List.take_zero, Nat.mul_one, List.cons.injEq, and_true] at h0 h1 h2 h3 h4 h5
      exact ⟨⟨a, b, c, d, e, f⟩, by rw [h0, h1, h2, h3, h4, h5]⟩
theorem opens_mac : Opens Try.prog 38 (fun _ cs (m : Mac) => cs = [bv m.a, bv m.b, bv m.c, bv m.d, bv m.e, bv m.f]) :=
  (opens_array (k := 6) (n := 1) Try.underlying38 (by kernel_rfl) (opens_byte Try.underlying5)).map fun _ _ _ ⟨h1, h2, h3⟩ => Mac.cells_of (h1.trans (by kernel_rfl)) h2 h3
theorem opens_ent : Opens Try.prog 40 (fun _ cs (x : EntL) => cs = ec x ∧ (Lit.int .i64 x.id).wf = true ∧ (Lit.int .i64 x.seen).wf = true) :=
  (opens_struct Try.underlying40 (opensF_cons (n := 1) rfl (by kernel_rfl) (by decide) (opens_int Try.underlying3) (opensF_cons (n := 6) rfl (by kernel_rfl) (by decide) opens_mac (opensF_cons (n := 1) rfl (by kernel_rfl) (by decide) (opens_int Try.underlying3) opensF_nil (fun _ _ _ _ _ => trivial)) (fun _ _ _ _ _ => trivial)) (fun _ _ _ _ _ => trivial)) (by simp)).map
    fun w cs ⟨i, m, s, _⟩ ⟨h0, h⟩ => by
      have hl : cs.length = 8 := h0.trans (by kernel_rfl)
      simp only [reduceCtorEq, if_false, if_true] at h
      obtain ⟨⟨h1, w1⟩, h2, ⟨h3, w2⟩, _⟩ := h
      refine ⟨⟨i, m, s⟩, ?_, w1, w2⟩
      match cs, hl with
      | [v0, v1, v2, v3, v4, v5, v6, v7], _ =>
        simp only [List.take_succ_cons, List.take_zero, List.drop_succ_cons, List.drop_zero, List.cons.injEq, and_true] at h1 h2 h3
        simp only [ec, h1, h2, h3]
end Go.Proofs.Ytkifagflnpkkaaa
