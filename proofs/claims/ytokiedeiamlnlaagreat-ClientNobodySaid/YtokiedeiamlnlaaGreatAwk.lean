/- The law's own: one, awake. -/
import Derived.Test.YtokiedeiamlnlaaGreatRBgn
namespace Go.Proofs.YtokiedeiamlnlaaGreat
set_option linter.unusedSimpArgs false
set_option linter.unusedVariables false
open Go.RowKit
set_option maxRecDepth 10000

def m0 : Mac := ⟨2, 0, 0, 0, 0, 1⟩
def isp : ByteArray := ⟨#[105, 115, 112]⟩
def L27 : List UInt8 := [255, 255, 255, 255, 255, 255, 2, 0, 0, 0, 0, 1, 136, 99, 17, 9, 0, 0, 0, 7, 1, 1, 0, 3, 105, 115, 112]
theorem disc27 : discL m0 bcast 9 0 (tagsOf [] isp.data.toList) = L27 := by decide

theorem l27_cells {w : World} {v : Value} (h : IsBytes w v L27) : ∃ x c, v = .slice (some x) 27 c ∧ (27 : Int) ≤ c ∧ w.cell? x = some (.int .u8 255) ∧ w.cell? ⟨x.block, x.off + 11, none⟩ = some (.int .u8 1) ∧
    (convert 24 9 (.slice (some ⟨x.block, x.off + 14, none⟩) 13 (c - 14))).run Tryz.prog w = .ok (.string ⟨#[17, 9, 0, 0, 0, 7, 1, 1, 0, 3, 105, 115, 112]⟩) w := by
  rcases h with ⟨_, h⟩ | ⟨x, c, rfl, h1, h2, h3⟩
  · cases h
  · refine ⟨x, c, rfl, by have : L27.length = 27 := rfl; omega, ?_, h3 11 (by decide), ?_⟩
    · have := h3 0 (by decide)
      rwa [show x.add (0 : Nat) = x by unfold Addr.add; simp] at this
    · refine run_string_bytes (P := Tryz.prog) (l := [17, 9, 0, 0, 0, 7, 1, 1, 0, 3, 105, 115, 112]) el_u8.ht (by kernel_rfl) (dst := 9) (by kernel_rfl) (.inr ⟨x.add 14, c - 14, rfl, ?_, by omega, fun i hi => ?_⟩)
      · have : L27.length = 27 := rfl
        simp only [List.length_cons, List.length_nil]; omega
      · rw [addr_add, h3 (14 + i) (by simp only [List.length_cons, List.length_nil] at hi; have : L27.length = 27 := rfl; omega)]
        rcases i with _ | _ | _ | _ | _ | _ | _ | _ | _ | _ | _ | _ | _ | i <;> first | rfl | (exfalso; simp only [List.length_cons, List.length_nil] at hi; omega)

theorem one_any (w : World) : Calls Tryz.prog 39 #[] w fun e w' => ∃ B uv, e = .returned (.tuple #[.pointer (some ⟨B, 0, none⟩), .bool true]) ∧ w.heap.size ≤ B ∧ w'.heap[B]? = some (.cells (cCells m0 uv isp 7 0) 37 (0, 0)) ∧ (∃ wq, wq.heap.size = B ∧ IsBytes wq uv [] ∧ Below B wq w') ∧ Below w.heap.size w w' := by
  have HN : Hid (Calls Tryz.prog 16 #[m0.v, .slice none 0 0, .string isp, .int .i64 7] w _) := new_yes m0 (.slice none 0 0) [] isp 7 w (.nil _) ⟨by decide, by decide, by decide, by decide, by decide⟩
  go_enter Tryz.func39, Tryz.ntmps39
  go_wp2_with (go_at_call 16; refine HN.out.mono ?_; rintro e w1 ⟨B, uv, rfl, h1, h2, h3, h4⟩)
  exact bodyPost_ret (v := .tuple #[.pointer (some ⟨B, 0, none⟩), .bool true]) (by simp [results, Tryz.results39, go_sem]) rfl ⟨B, uv, rfl, h1, h2, h3, h4⟩

set_option maxHeartbeats 4000000 in
theorem awake_true (w : World) : Calls Tryz.prog 15 #[] w fun e w' => e = .returned (.bool true) ∧ Below w.heap.size w w' := by
  have HO := Lib.hid (one_any w)
  go_enter Tryz.func15, Tryz.ntmps15
  go_wp2_with (first
    | (go_at_call 39; refine HO.out.mono ?_; rintro e w1 ⟨B, uv, rfl, h1, h2, h3, h4⟩
       have HF := Lib.hid (begin_first B m0 uv [] isp 7 w1 (by decide) (by decide) h2 h3)
       have Hb1 := Lib.hid h4
       have Hle := Lib.hid h1
       have HlB : Hid (B < w1.heap.size) := (Array.getElem?_eq_some_iff.1 h2).1
       rw [disc27] at HF
       clear h1 h2 h3 h4)
    | (go_at_call 5; refine HF.out.mono ?_; rintro e w2 ⟨v, rfl, hbut, hc, hs⟩
       have HB2 : Hid (Below w.heap.size w w2) := Hb1.out.trans ((hbut.below (Nat.le_of_lt HlB.out)).mono Hle.out)
       have HP := Lib.hid (phase_of B w2 1 (cc_cell hc).2.2.2.1 (cc_cell hc).2.2.1)
       have hcc := l27_cells hs.1
       obtain ⟨x, c, rfl, hx⟩ := hcc
       clear hbut hc hs HF)
    | (go_at_call 9; refine HP.out.mono ?_; rintro e w3 ⟨rfl, rfl⟩))
  go_ret
  exact ⟨rfl, HB2.out⟩
end Go.Proofs.YtokiedeiamlnlaaGreat
