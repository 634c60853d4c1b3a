/- Calls that came in. No condition. -/
import Derived.Test.YtkifagflnpkkaaaEntO
import Derived.Test.YtkifagflnpkkaaaTRun
namespace Go.Proofs.Ytkifagflnpkkaaa
set_option linter.unusedSimpArgs false
set_option linter.unusedVariables false
open Go.RowKit Go.ChangeShapes Go.WideShapes Go.ChangeAt
set_option maxRecDepth 10000

theorem opens_op : Opens Try.prog 65 (fun _ cs (x : OpL) => cs = opc x) :=
  (opens_struct Try.underlying65 (opensF_cons (n := 1) rfl (by kernel_rfl) (by decide) (opens_byte Try.underlying5) (opensF_cons (n := 1) rfl (by kernel_rfl) (by decide) (opens_int Try.underlying3) (opensF_cons (n := 1) rfl (by kernel_rfl) (by decide) (opens_byte Try.underlying5) (opensF_cons (n := 1) rfl (by kernel_rfl) (by decide) (opens_int Try.underlying3) (opensF_cons (n := 1) rfl (by kernel_rfl) (by decide) (opens_int Try.underlying3) (opensF_cons (n := 1) rfl (by kernel_rfl) (by decide) (opens_int Try.underlying3) opensF_nil
    (fun _ _ _ _ _ => trivial)) (fun _ _ _ _ _ => trivial)) (fun _ _ _ _ _ => trivial)) (fun _ _ _ _ _ => trivial)) (fun _ _ _ _ _ => trivial)) (fun _ _ _ _ _ => trivial)) (by simp)).map
    fun w cs ⟨d, i, m, t, u, s, _⟩ ⟨h0, h⟩ => by
      have hl : cs.length = 6 := h0.trans (by kernel_rfl)
      simp only [reduceCtorEq, if_false, if_true] at h
      obtain ⟨h1, ⟨h2, _⟩, h3, ⟨h4, _⟩, ⟨h5, _⟩, ⟨h6, _⟩, _⟩ := h
      refine ⟨⟨d, i, m, t, u, s⟩, ?_⟩
      match cs, hl with
      | [v0, v1, v2, v3, v4, v5], _ =>
        simp only [List.take_succ_cons, List.take_zero, List.drop_succ_cons, List.drop_zero, List.cons.injEq, and_true] at h1 h2 h3 h4 h5 h6
        simp only [opc, h1, h2, h3, h4, h5, h6]
end Go.Proofs.Ytkifagflnpkkaaa
