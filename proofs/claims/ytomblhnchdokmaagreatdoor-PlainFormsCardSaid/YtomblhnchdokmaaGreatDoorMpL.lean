/- MpL: texts of this claim, one behind the other: LaM. No condition. -/
import Derived.Test.YtomblhnchdokmaaGreatDoorRows
import Derived.Test.YtomblhnchdokmaaGreatDoorMpE
import Derived.Lib.LaidU8
import Derived.MakeChecks
namespace Go.Proofs.YtomblhnchdokmaaGreatDoor
set_option linter.unusedSimpArgs false
set_option linter.unusedVariables false
open Go.RowKit
set_option maxRecDepth 100000
theorem var_at {P : Program} {W : World} {l : List (String × DataW Unit)} (h : laidMet P l W) {n : String} {k : IntKind} {zs : List Int} {g t e : Nat} {m : Nat} (hm : (n, (Lib.tabData k zs : DataW Unit)) ∈ l)
    (hg : P.globalNamed n = some g) (hty : (P.globals[g]?).map (·.type) = some t) (ht : P.underlying t = some (.array m e)) (he : P.underlying e = some (.int k)) (hce : P.cellsOf e = 1) (hct : P.cellsOf t = m) :
    ZAt (env0 W) (zs.map fun z => Value.int k z) g 0 ∧ ∀ u ∈ zs.map fun z => Value.int k z, u.oneCell' = true := by
  obtain ⟨g', t', cs, fuel, p, h1, h2, h3, h4⟩ := Lib.laidMet.reads h hm
  rw [hg] at h1; cases h1
  rw [hty] at h2; cases h2
  have hc := Lib.cells_of_tab ht he hce hct h4
  unfold World.var? at h3
  rw [hg] at h3
  refine ⟨fun i u hu => ?_, fun u hu => ?_⟩
  · show W.cell? ⟨g, 0 + i, none⟩ = some u
    simp only [Option.bind_some] at h3
    split at h3
    · rename_i cs' e' fr hb
      cases h3
      rw [Nat.zero_add, cell_of_row W g i cs e' fr hb, ← Array.getElem?_toList, hc]
      exact hu
    · cases h3
  · obtain ⟨z, _, rfl⟩ := List.mem_map.1 hu
    rfl
def zs_0 : List Int := [0, 1, 56, 2, 57, 49, 28, 3, 61, 58, 42, 50, 38, 29, 17, 4, 62, 47, 59, 36, 45, 43, 51, 22, 53, 39, 33, 30, 24, 18, 12, 5, 63, 55, 48, 27, 60, 41, 37, 16, 46, 35, 44, 21, 52, 32, 23, 11, 54, 26, 40, 15, 34, 20, 31, 10, 25, 14, 19, 9, 13, 8, 7, 6]
theorem lay_0_eq : lay_0 = zs_0.map fun z => Value.int .u8 z := by kernel_rfl
def zs_1 : List Int := [1116352408, 1899447441, 3049323471, 3921009573, 961987163, 1508970993, 2453635748, 2870763221, 3624381080, 310598401, 607225278, 1426881987, 1925078388, 2162078206, 2614888103, 3248222580, 3835390401, 4022224774, 264347078, 604807628, 770255983, 1249150122, 1555081692, 1996064986, 2554220882, 2821834349, 2952996808, 3210313671, 3336571891, 3584528711, 113926993, 338241895, 666307205, 773529912, 1294757372, 1396182291, 1695183700, 1986661051, 2177026350, 2456956037, 2730485921, 2820302411, 3259730800, 3345764771, 3516065817, 3600352804, 4094571909, 275423344, 430227734, 506948616, 659060556, 883997877, 958139571, 1322822218, 1537002063, 1747873779, 1955562222, 2024104815, 2227730452, 2361852424, 2428436474, 2756734187, 3204031479, 3329325298]
theorem lay_1_eq : lay_1 = zs_1.map fun z => Value.int .u32 z := by kernel_rfl
theorem laid_env {W : World} (h : laidMetH Tryz.prog Rows.plainFormsRow.laid W) : Laid (env0 W) := by
  rw [MakeChecks.laidMetH_plain _ _ _ (by kernel_rfl)] at h
  have hl : Rows.plainFormsRow.laid = [("math/bits.deBruijn64tab", (Lib.tabData .u8 zs_0 : DataW Unit)), ("concierge/sha.rounds", (Lib.tabData .u32 zs_1 : DataW Unit))] := by kernel_rfl
  rw [hl] at h
  intro g vs hg
  unfold layT layF at hg
  cases h0 : Nat.beq 0 g
  rotate_left
  · obtain rfl := Nat.eq_of_beq_eq_true h0
    rw [h0, cond_true] at hg
    cases hg
    rw [lay_0_eq]
    exact var_at h (n := "math/bits.deBruijn64tab") (by simp) (by kernel_rfl) (t := 398) (by kernel_rfl) Tryz.underlying398 Tryz.underlying5 (by kernel_rfl) (by kernel_rfl)
  rw [h0, cond_false] at hg
  unfold layF at hg
  cases h1 : Nat.beq 1 g
  rotate_left
  · obtain rfl := Nat.eq_of_beq_eq_true h1
    rw [h1, cond_true] at hg
    cases hg
    rw [lay_1_eq]
    exact var_at h (n := "concierge/sha.rounds") (by simp) (by kernel_rfl) (t := 477) (by kernel_rfl) Tryz.underlying477 Tryz.underlying252 (by kernel_rfl) (by kernel_rfl)
  rw [h1, cond_false] at hg
  unfold layF at hg
  cases hg
end Go.Proofs.YtomblhnchdokmaaGreatDoor
