/- What the calls of a table share. No condition. -/
import Derived.Test.YtkifagflnpkkaaaIdl
import Derived.Test.YtkifagflnpkkaaaFrk
namespace Go.Proofs.Ytkifagflnpkkaaa
set_option linter.unusedSimpArgs false
set_option linter.unusedVariables false
-- FSX: ec, iv, facts_tobj, macs
open Go.RowKit
set_option maxRecDepth 10000

theorem rz_three {P : Program} {ops : Array Oper} {Q : Exit → Act → World → Prop} {S : World → Prop} (i j k : Nat) {fuel : Nat} {listed : Array Bool} {a : Act} {wk : World} (hr : (Region.ready .any ops listed == [i, j, k] && decide (0 < fuel)) = true) (h : rsSt P .any ops Q S (fuel - 1) listed a wk i) (h2 : rsSt P .any ops Q S (fuel - 1) listed a wk j) (h3 : rsSt P .any ops Q S (fuel - 1) listed a wk k) : wpAnyH P .any ops Q S fuel listed a wk := by
  simp only [Bool.and_eq_true, beq_iff_eq, decide_eq_true_eq] at hr
  obtain ⟨fuel, rfl⟩ : ∃ f, fuel = f + 1 := ⟨fuel - 1, by omega⟩
  refine wpAnyH_all hr.1 (by simp) fun q hq => ?_
  rcases (by simpa using hq : q = i ∨ q = j ∨ q = k) with rfl | rfl | rfl
  · exact h
  · exact h2
  · exact h3
theorem St.tupk {w0 w w' : World} {G z : Nat → Prop} {O : List As} {T : List Rd} (H : St w0 G z O T w) (i : Nat) {B n : Nat} {L L' : List EntL} {A : Nat → Prop} (hO : O[i]? = some (tobj B n L A)) (ht : Tab w' B n L' A) (hk : Kpt w w' A) : St w0 G z (O.set i (tobj B n L' A)) T w' := by
  have := H.upd i hO (tobj B n L' A) (w' := w') hk ht (fun b hb => .inl hb) [] (by simp)
  simpa using this
/-- what the state is, before and behind a call -/
def BothIs (w0 : World) (G z : Nat → Prop) (B n X : Nat) (L : List EntL) (A : Nat → Prop) (ad : Option Addr) (c : Nat) (w : World) : Prop :=
  St w0 G z [tobj X n L A, va B [.pointer (some ⟨X, 0, none⟩), .int .i64 n, .slice ad L.length c] 31] [rdS rEnt (.slice ad L.length c) L] w

/-- where a call's results lie that reads what this state reads -/
abbrev St.zn {w0 w : World} {G z : Nat → Prop} {O : List As} {T : List Rd} (_ : St w0 G z O T w) : Nat → Prop := zone w0 z O w
end Go.Proofs.Ytkifagflnpkkaaa
