/- EvI: answers to arguments that are known, kept. No condition. -/
import Derived.Test.YtdlomggjhclmlaaGreatDoorEvH
namespace Go.Proofs.YtdlomggjhclmlaaGreatDoor
set_option linter.unusedSimpArgs false
set_option linter.unusedVariables false
open Go.RowKit
set_option maxRecDepth 10000
noncomputable section

/-- bytes by their numbers -/
def bs (l : List Nat) : ByteArray := ⟨(l.map UInt8.ofNat).toArray⟩
def bsL (s : ByteArray) : List Nat := s.data.toList.map UInt8.toNat
def all2 (f : D → D → Bool) : List D → List D → Bool
  | [], [] => true
  | a :: x, b :: y => bif f a b then all2 f x y else false
  | _, _ => false
theorem all2_ok {f : D → D → Bool} : ∀ {l l' : List D}, all2 f l l' = true → l.length = l'.length ∧ ∀ i, i < l.length → f (l.getD i .n) (l'.getD i .n) = true
  | [], [], _ => ⟨rfl, fun i hi => by simp at hi⟩
  | a :: x, b :: y, h => by
    simp only [all2] at h
    cases hf : f a b
    · rw [hf] at h; cases h
    · rw [hf] at h
      obtain ⟨h1, h2⟩ := all2_ok (l := x) (l' := y) h
      refine ⟨by simp [h1], fun i hi => ?_⟩
      cases i with
      | zero => exact hf
      | succ i => exact h2 i (by simpa using hi)
  | [], _ :: _, h => by cases h
  | _ :: _, [], h => by cases h
mutual
/-- the same data -/
def eqS : Sh → D → D → Bool
  | .int _, d, e => d.toI == e.toI
  | .bool, d, e => d.toB == e.toB
  | .str, d, e => decide (d.toS = e.toS)
  | .sl es, d, e => all2 (fun a b => eqEs es a b 0) d.toL e.toL
def eqEs : List Sh → D → D → Nat → Bool
  | [], _, _, _ => true
  | s :: ss, d, e, j => bif eqS s (d.cell j) (e.cell j) then eqEs ss d e (j + 1) else false
end
mutual
theorem eqS_lf {Z : Nat → Nat → Option Value} : ∀ (s : Sh) {v : Value} {d e : D}, eqS s d e = true → LF Z s v d → LF Z s v e
  | .int k, v, d, e, h, H => by
    have : d.toI = e.toI := by simpa [eqS] using h
    simp only [LF] at H ⊢; rw [← this]; exact H
  | .bool, v, d, e, h, H => by
    have : d.toB = e.toB := by simpa [eqS] using h
    simp only [LF] at H ⊢; rw [← this]; exact H
  | .str, v, d, e, h, H => by
    have : d.toS = e.toS := by simpa [eqS] using h
    simp only [LF] at H ⊢; rw [← this]; exact H
  | .sl es, v, d, e, h, ⟨h0, ad, cap, h1, h2, h3, h4, h5⟩ => by
    simp only [eqS] at h
    obtain ⟨hl, hg⟩ := all2_ok h
    have hl' : e.len = d.len := hl.symm
    refine ⟨by rw [hl']; exact h0, ad, cap, by rw [hl']; exact h1, by rw [hl']; exact h2, h3, h4, fun hn => ?_⟩
    obtain ⟨b, o, g1, g2⟩ := h5 (by rw [← hl']; exact hn)
    exact ⟨b, o, g1, fun i hi => eqEs_el es (hg i (by rw [hl'] at hi; exact hi)) (g2 i (by rw [← hl']; exact hi))⟩
theorem eqEs_el {Z : Nat → Nat → Option Value} : ∀ (es : List Sh) {b o : Nat} {d e : D} {j : Nat}, eqEs es d e j = true → EL Z es b o d j → EL Z es b o e j
  | [], _, _, _, _, _, _, _ => trivial
  | s :: ss, b, o, d, e, j, h, ⟨⟨v, g1, g2⟩, g3⟩ => by
    simp only [eqEs] at h
    cases hs : eqS s (d.cell j) (e.cell j)
    · rw [hs] at h; cases h
    · rw [hs] at h
      exact ⟨⟨v, g1, eqS_lf s hs g2⟩, eqEs_el ss h g3⟩
end
mutual
/-- the same values, what is known of them set apart -/
def eqA : AV → AV → Bool
  | .sc _ (.int k m), .sc _ (.int k' n) => bif decide (k = k') then m == n else false
  | .sc _ (.bool m), .sc _ (.bool n) => m == n
  | .sc _ (.string m), .sc _ (.string n) => decide (m = n)
  | .sc _ (.slice none 0 0), .sl _ _ e none => decide (e.len = 0)
  | .sc _ (.slice none 0 0), .sc _ (.slice none 0 0) => true
  | .sl _ es d _, .sl _ es' e none => bif Sh.eqsL es es' then eqS (.sl es) d e else false
  | .agg xs, .agg ys => eqAL xs ys
  | .tup xs, .tup ys => eqAL xs ys
  | _, _ => false
def eqAL : List AV → List AV → Bool
  | [], [] => true
  | x :: xs, y :: ys => bif eqA x y then eqAL xs ys else false
  | _, _ => false
end
theorem cond_split {a b : Bool} (h : (bif a then b else false) = true) : a = true ∧ b = true := by
  cases a
  · cases h
  · exact ⟨rfl, h⟩
mutual
theorem eqA_le : ∀ (x y : AV), eqA x y = true → Le x y
  | x, y, h => by
    unfold eqA at h
    split at h
    · obtain ⟨h1, h2⟩ := cond_split h
      obtain rfl := of_decide_eq_true h1
      exact le_int (by simpa using h2)
    · exact le_bool (by simpa using h)
    · exact le_str (of_decide_eq_true h)
    · exact le_nil (of_decide_eq_true h)
    · exact fun E v hv => hv
    · obtain ⟨h1, h2⟩ := cond_split h
      obtain rfl := Sh.eqsL_eq _ _ h1
      exact fun E v hv => ⟨eqS_lf _ h2 hv.1, trivial⟩
    · rename_i xs ys; exact le_agg fun E vs hv => eqAL_le xs ys h E vs hv
    · rename_i xs ys; exact le_tup fun E vs hv => eqAL_le xs ys h E vs hv
    · cases h
theorem eqAL_le : ∀ (xs ys : List AV), eqAL xs ys = true → ∀ E vs, RelL E xs vs → RelL E ys vs
  | [], [], _ => fun _ _ h => h
  | x :: xs, y :: ys, h => by
    simp only [eqAL] at h
    obtain ⟨h1, h2⟩ := cond_split h
    exact leL_cons (eqA_le x y h1) (eqAL_le xs ys h2)
  | [], _ :: _, h => by cases h
  | _ :: _, [], h => by cases h
end
/-- the answer, where all branches are known -/
def okV : RT AV → Option AV
  | .ok a => some a
  | .bad _ => none
  | .br b x y => bif b then okV x else okV y
  | .all x y => match okV x, okV y with
    | some a, some b => bif eqA a b then some b else none
    | _, _ => none
theorem okV_holds : ∀ {t : RT AV} {r : AV}, okV t = some r → t.holds fun a => Le a r
  | .ok a, r, h => by cases h; exact Le.refl _
  | .bad _, r, h => by cases h
  | .br b x y, r, h => by
    simp only [okV] at h
    refine ⟨fun hb => ?_, fun hb => ?_⟩
    · rw [hb] at h; exact okV_holds (t := x) h
    · rw [hb] at h; exact okV_holds (t := y) h
  | .all x y, r, h => by
    simp only [okV] at h
    split at h
    · rename_i a b ha hb
      cases he : eqA a b
      · rw [he] at h; cases h
      · rw [he] at h
        have h2 : b = r := Option.some.inj h
        subst h2
        exact ⟨RT.holds_mono (fun c hc E v hv => eqA_le _ _ he E v (hc E v hv)) _ (okV_holds ha), okV_holds hb⟩
    · cases h
/-- the answer to one row of arguments -/
def Fone (key : List AV) (res : AV) : List AV → RT AV := fun args => bif eqAL args key then .ok res else .bad 219
def hitK (P : Program) (f : FuncId) (key args : List AV) : Bool := bif allKL args then eqAL (args0 P f args) key else false
def memoS (P : Program) (f : FuncId) (key : List AV) (res : AV) (sp : Spec) : Spec := altS (hitK P f key) (pureS P f (Fone key res)) sp
theorem memo_one {P : Program} {f : FuncId} {spm : Spec} {key : List AV} {res : AV} (hm : SoundF P f spm) (hk : okV (treeR spm key) = some res) : SoundF P f (pureS P f (Fone key res)) :=
  pureS_row hm fun args K ho H => by
    unfold Fone at H
    cases he : eqAL args key
    · rw [he] at H; exact H.elim
    · rw [he] at H
      exact ⟨key, eqAL_le _ _ he, RT.holds_mono (fun a ha => ⟨res, ha, H⟩) _ (okV_holds hk)⟩
theorem memo_ok {P : Program} {f : FuncId} {sp spm : Spec} {key : List AV} {res : AV} (hs : SoundF P f sp) (hm : SoundF P f spm) (hk : okV (treeR spm key) = some res) : SoundF P f (memoS P f key res sp) :=
  alt_ok (memo_one hm hk) hs
end
end Go.Proofs.YtdlomggjhclmlaaGreatDoor
