/- Grw: slices.Grow of a nil slice of bytes, as a contract. No condition. -/
import Derived.Test.YtdeoodckpcnojaaGreatDoorEvJ
import Derived.Test.YtdeoodckpcnojaaGreatDoorCat
namespace Go.Proofs.YtdeoodckpcnojaaGreatDoor
set_option linter.unusedSimpArgs false
set_option linter.unusedVariables false
open Go.RowKit
set_option maxRecDepth 10000
noncomputable section
def growS : Spec := fun args h => match args with
  | [.sc _ (.slice none 0 0), .sc kn (.int .i64 n)] => need kn (decide (0 ≤ n ∧ n ≤ 140737488355328)) 440 (.ok (newVec true [.int .u8] (.l []) 5 h))
  | _ => .bad 441
theorem grow_soundF : SoundF Tryz.prog 244 growS := by
  intro args h K H w0 G E w vals I hr
  unfold growS at H
  split at H
  · rename_i k kn n
    obtain ⟨hc, H2⟩ := need_holds H
    clear H
    obtain ⟨h0, h1⟩ := of_decide_eq_true hc
    obtain ⟨u, r, rfl, hu, v, r', rfl, hv, hr'⟩ := hr
    have hr' : r' = [] := hr'
    subst hr'
    obtain rfl : u = .slice none 0 0 := hu.1
    obtain rfl := rel_int hv
    obtain ⟨m, rfl⟩ := Int.eq_ofNat_of_zero_le h0
    have hl : (D.l []).len = 0 := by simp [D.len, D.toL, D.raw]
    refine (grow_nil m (by omega) w).mono ?_
    rintro e w' ⟨v, rfl, hb, ho⟩
    obtain ⟨E', S, hR⟩ := own_vecE (kn := true) (e := 5) (es := [.int .u8]) (d := .l []) (news := []) I (by kernel_rfl) hb (by rw [hl]; exact ho) (by simp) (by rw [hl, Nat.zero_mul]; exact Nat.zero_le _) (fun i hi => by rw [hl] at hi; omega)
    exact ⟨_, _, v, E', H2, rfl, S, hR⟩
  · exact H.elim
end
end Go.Proofs.YtdeoodckpcnojaaGreatDoor
