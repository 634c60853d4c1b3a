/- Kc8: new controls: contracts. No condition. -/
import Derived.Test.YtcambhbmobepjaaGreatKc7
namespace Go.Proofs.YtcambhbmobepjaaGreat
set_option linter.unusedSimpArgs false
set_option linter.unusedVariables false
open Go.RowKit
set_option maxRecDepth 100000
noncomputable section

-- DEFS
abbrev k0 : AV := .sc true (.int .i64 0)
def uns (n : Int) : Int := IntKind.u64.wrap n
def byL (n : Int) : Nat → D
  | 2 => .kl [.i (byI n 2 0), .i (byI n 2 1)]
  | _ => .kl [.i (byI n 4 0), .i (byI n 4 1), .i (byI n 4 2), .i (byI n 4 3)]
def asksD (a m : Int) : D := .l [.t [.ki 1, byL (uns a) 2], .t [.ki 5, byL (uns m) 4]]
def newB (a b c e f g h m : Int) : Bool := fitsB a b c e f g h && decide (1 ≤ m ∧ m ≤ 4294967295)
abbrev newY (a m : Int) : AV := .tup [.agg [k0, k0, k0, .sl true opS (asksD a m) none, k0, k0, k0, ai m, k0, .sc true (.int .i64 1492), k0, k0], k0]
abbrev newN : AV := .tup [.agg [k0, k0, k0, .sc true (.slice none 0 0), k0, k0, k0, k0, k0, k0, k0, k0], .sc true (.int .i64 170)]
def FLNew : List AV → RT AV
  | [.agg [.sc false (.int .i64 a), .sc false (.int .i64 b), .sc false (.int .i64 c), .sc false (.int .i64 e), .sc false (.int .i64 f), .sc false (.int .i64 g), .sc false (.int .i64 h)], .sc false (.int .i64 m)] => .br (newB a b c e f g h m) (.ok (newY a m)) (.ok newN)
  | _ => .bad 210
-- END
theorem uns_range (n : Int) : 0 ≤ IntKind.u64.wrap n ∧ IntKind.u64.wrap n < 18446744073709551616 := by
  have : IntKind.u64.wrap n = n % 18446744073709551616 := by
    simp [IntKind.wrap, IntKind.bits, IntKind.signed]
  omega
theorem newB_iff (a b c e f g h m : Int) : newB a b c e f g h m = true ↔ fitsB a b c e f g h = true ∧ 1 ≤ m ∧ m ≤ 4294967295 := by
  simp only [newB, Bool.and_eq_true, decide_eq_true_eq]
theorem le_asks {a m : Int} {d : D} (h : d.raw = (asksD a m).raw) : Le (.tup [.agg [k0, k0, k0, .sl true opS d none, k0, k0, k0, ai m, k0, .sc true (.int .i64 1492), k0, k0], k0]) (newY a m) :=
  le_tup (leL_cons (le_agg (leL_cons (Le.refl _) (leL_cons (Le.refl _) (leL_cons (Le.refl _) (leL_cons (le_raw h) fun _ _ h => h))))) fun _ _ h => h)
theorem lnew_soundF : SoundF Tryz.prog 9 (pureS Tryz.prog 9 FLNew) := by
  refine pure_in (gs := newG Tryz.prog) (ls := []) mixed newG_ok trivial 9 100 fun args K ho H => ?_
  unfold FLNew at H
  split at H
  · rename_i a b c e f g h m
    rw [new_tree]
    have hn := newB_iff a b c e f g h m
    have hno : ∀ (hx : ¬ (fitsB a b c e f g h = true ∧ 1 ≤ m ∧ m ≤ 4294967295)), K newN := fun hx => H.2 (by cases hb : newB a b c e f g h m; rfl; exact absurd (hn.1 hb) hx)
    refine ⟨fun h1 => ⟨_, Le.refl _, hno fun hx => ?_⟩, fun h1 => ⟨fun h2 => ⟨fun h3 => ⟨_, Le.refl _, hno fun hx => ?_⟩, fun h3 => ⟨fun h4 => ⟨fun h5 => ⟨_, le_asks (a := a) (by kernel_rfl), H.1 (hn.2 ?_)⟩, fun h5 => absurd (uns_range m) (of_decide_eq_false h5)⟩, fun h4 => absurd (uns_range a) (of_decide_eq_false h4)⟩⟩, fun h2 => ⟨_, Le.refl _, hno fun hx => ?_⟩⟩⟩
    · rw [hx.1] at h1; cases h1
    · rw [decide_eq_true hx.2.2] at h3; cases h3
    · refine ⟨by cases hf : fitsB a b c e f g h; rw [hf] at h1; cases h1; rfl, of_decide_eq_true h2, ?_⟩
      simpa using h3
    · exact absurd hx.2.1 (of_decide_eq_false h2)
  · exact H.elim
theorem rlnew_soundF : SoundF Tryz.prog 10 (pureS Tryz.prog 10 FLNew) := by
  refine pure_in (gs := newG Tryz.prog) (ls := []) mixed newG_ok trivial 10 100 fun args K ho H => ?_
  unfold FLNew at H
  split at H
  · rename_i a b c e f g h m
    rw [rnew_tree]
    have hn := newB_iff a b c e f g h m
    have hno : ∀ (hx : ¬ (fitsB a b c e f g h = true ∧ 1 ≤ m ∧ m ≤ 4294967295)), K newN := fun hx => H.2 (by cases hb : newB a b c e f g h m; rfl; exact absurd (hn.1 hb) hx)
    refine ⟨fun h1 => ⟨_, Le.refl _, hno fun hx => ?_⟩, fun h1 => ⟨fun h2 => ⟨fun h3 => ⟨_, Le.refl _, hno fun hx => ?_⟩, fun h3 => ⟨fun h4 => ⟨fun h5 => ⟨_, le_asks (a := a) (by kernel_rfl), H.1 (hn.2 ?_)⟩, fun h5 => absurd (uns_range m) (of_decide_eq_false h5)⟩, fun h4 => absurd (uns_range a) (of_decide_eq_false h4)⟩⟩, fun h2 => ⟨_, Le.refl _, hno fun hx => ?_⟩⟩⟩
    · rw [hx.1] at h1; cases h1
    · rw [decide_eq_true hx.2.2] at h3; cases h3
    · refine ⟨by cases hf : fitsB a b c e f g h; rw [hf] at h1; cases h1; rfl, of_decide_eq_true h2, ?_⟩
      simpa using h3
    · exact absurd hx.2.1 (of_decide_eq_false h2)
  · exact H.elim
end
end Go.Proofs.YtcambhbmobepjaaGreat
