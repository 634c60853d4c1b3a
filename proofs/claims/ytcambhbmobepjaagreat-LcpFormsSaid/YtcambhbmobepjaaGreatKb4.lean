/- Kb4: the reference's Encode. No condition. -/
import Derived.Test.YtcambhbmobepjaaGreatKb3
namespace Go.Proofs.YtcambhbmobepjaaGreat
set_option linter.unusedSimpArgs false
set_option linter.unusedVariables false
open Go.RowKit
set_option maxRecDepth 100000
noncomputable section

-- DEFS
def ren2F (d : D) (i : Nat) : Tm := ⟨56, [(0, asl opS d), (2, nf), (3, ai 0), (5, sh byS (encP d i) 0 2000), (6, ai i)], []⟩
def ren1Dec (F : Tm) (h : Hp) : Option (D × Nat) := match F, h with
  | ⟨56, [(0, .sl false [.int .i64, .sl [.int .u8]] d none), (2, .sc false (.slice none 0 0)), (3, .sc false (.int .i64 0)), (4, .sc false (.int .i64 0))], []⟩, ⟨[], 0, [], 0, 1000, 1000⟩ => some (d, 0)
  | _, _ => none
def ren1T (x : D × Nat) : RT Out := need false (decide (x.2 ≤ x.1.len)) 210
  (.br (okFrom (optOk x.1) (x.1.len - x.2) x.2) (.ok (.normal, ren1F x.1 0 x.1.len, ren1H)) (.ok (.ret, ren1F x.1 80 (badFrom (optOk x.1) (x.1.len - x.2) x.2), ren1H)))
def ren2Dec (F : Tm) (h : Hp) : Option (D × Nat) := match F, h with
  | ⟨56, [(0, .sl false [.int .i64, .sl [.int .u8]] d none), (2, .sc false (.slice none 0 0)), (3, .sc false (.int .i64 0)), (5, .sl false [.int .u8] (.l []) (some (0, 2000))), (6, .sc false (.int .i64 0))], []⟩, ⟨[], 0, [(0, 2000, 5)], 1, 2001, 2000⟩ => some (d, 0)
  | _, _ => none
def ren2T (x : D × Nat) : RT Out := need false (decide (x.2 ≤ x.1.len ∧ x.1.len ≤ 64 ∧ okFrom (optOk x.1) x.1.len 0 = true)) 210 (.ok (.normal, ren2F x.1 x.1.len, ren2H))
def renLs (P : Program) : List (FuncId × Nat × BSpec) := [(81, 0, loopS P ren1L ren1Dec ren1T), (81, 2, loopS P ren2L ren2Dec ren2T)]
-- END
-- STOPS: okFrom badFrom encP optOk
theorem ren1_loop : LamE Tryz.prog 81 0 (loopS Tryz.prog ren1L ren1Dec ren1T) := by
  refine loop_in2 (gs := []) (ls := []) mixed trivial trivial _ 0 100 (by kernel_rfl) ren1L (mkF := fun x => ren1F x.1 0 x.2) (mkH := fun _ => ren1H) (fun x => x.1.len - x.2) ?_ ?_
  · intro F h x hx
    unfold ren1Dec at hx
    split at hx
    · cases hx; exact ⟨rfl, rfl⟩
    · cases hx
  · rintro ⟨d, i⟩ K H
    obtain ⟨hc, H⟩ := need_holds H
    have hi : i ≤ d.len := of_decide_eq_true hc
    have hm := d.len_le
    show (roundT ren1L (evC _ _ _ _ _ _ (ren1F d 0 i) ren1H)).holds _
    unfold ren1L ren1F ren1H
    rw [ren1_body]
    simp only [Int.toNat_natCast]
    by_cases hlt : i < d.len
    · cases hp : optOk d i
      · have hret : K (.ret, ren1F d 80 i, ren1H) := by
          have := H.2 (okFrom_false (Nat.le_refl _) (show i < i + (d.len - i) by omega) hp)
          dsimp only at this
          rwa [show d.len - i = (d.len - i - 1) + 1 by omega, badFrom_here hp] at this
        have hp' := of_decide_eq_false hp
        unfold optT optB at hp'
        repeat' refine And.intro (fun _ => ?_) (fun _ => ?_)
        all_goals first | exact hret | (exfalso; clear H hret; simp only [decide_eq_true_eq, decide_eq_false_iff_not, Bool.not_eq_true', Bool.not_eq_false'] at *; omega)
      · have hnext : ∃ x' : D × Nat, (ren1F d 0 (i + 1) = ren1F x'.1 0 x'.2 ∧ ren1H = ren1H) ∧ x'.1.len - x'.2 < d.len - i ∧ (ren1T x').holds K := by
          refine ⟨(d, i + 1), ⟨rfl, rfl⟩, by show d.len - (i + 1) < d.len - i; omega, ?_⟩
          refine ⟨fun _ => ?_, fun hf => absurd (show i + 1 ≤ d.len by omega) (of_decide_eq_false hf)⟩
          have e : d.len - i = (d.len - (i + 1)) + 1 := by omega
          have e1 : okFrom (optOk d) (d.len - i) i = okFrom (optOk d) (d.len - (i + 1)) (i + 1) := by rw [e]; simp only [okFrom, hp, Bool.true_and]
          have e2 : badFrom (optOk d) (d.len - i) i = badFrom (optOk d) (d.len - (i + 1)) (i + 1) := by rw [e, badFrom_cons hp]
          dsimp only at H
          rw [e1, e2] at H
          exact H
        have hp' := of_decide_eq_true hp
        unfold optT optB at hp'
        repeat' refine And.intro (fun _ => ?_) (fun _ => ?_)
        all_goals first | (rw [wrap_succ hlt hm]; exact hnext) | (exfalso; clear H hnext; simp only [decide_eq_true_eq, decide_eq_false_iff_not, Bool.not_eq_true', Bool.not_eq_false'] at *; omega)
    · have : i = d.len := by omega
      subst this
      refine ⟨fun h1 => ?_, fun h1 => H.1 (by rw [Nat.sub_self]; rfl)⟩
      have := of_decide_eq_true h1
      omega
theorem ren2_loop : LamE Tryz.prog 81 2 (loopS Tryz.prog ren2L ren2Dec ren2T) := by
  refine loop_in2 (gs := []) (ls := []) mixed trivial trivial _ 2 100 (by kernel_rfl) ren2L (mkF := fun x => ren2F x.1 x.2) (mkH := fun _ => ren2H) (fun x => x.1.len - x.2) ?_ ?_
  · intro F h x hx
    unfold ren2Dec at hx
    split at hx
    · cases hx; exact ⟨rfl, rfl⟩
    · cases hx
  · rintro ⟨d, i⟩ K H
    obtain ⟨hc, H⟩ := need_holds H
    obtain ⟨hi, h64, hall⟩ : i ≤ d.len ∧ d.len ≤ 64 ∧ okFrom (optOk d) d.len 0 = true := of_decide_eq_true hc
    have hm := d.len_le
    have hok : okFrom (optOk d) i 0 = true := okFrom_iff.2 fun j h1 h2 => okFrom_iff.1 hall j h1 (by omega)
    have hel := enc_len (by omega) hok
    show (roundT ren2L (evC _ _ _ _ _ _ (ren2F d i) ren2H)).holds _
    unfold ren2L ren2F ren2H
    rw [ren2_body]
    simp only [Int.toNat_natCast]
    by_cases hlt : i < d.len
    · have hp := okFrom_iff.1 hall i (by omega) (by omega)
      have hnext : ∃ x' : D × Nat, (ren2F d (i + 1) = ren2F x'.1 x'.2 ∧ ren2H = ren2H) ∧ x'.1.len - x'.2 < d.len - i ∧ (ren2T x').holds K :=
        ⟨(d, i + 1), ⟨rfl, rfl⟩, by show d.len - (i + 1) < d.len - i; omega, fun _ => H, fun hf => absurd ⟨show i + 1 ≤ d.len by omega, h64, hall⟩ (of_decide_eq_false hf)⟩
      have hp' := of_decide_eq_true hp
      unfold optT optB at hp'
      have hap : ((encP d i).app (headD d i)).len = (encP d i).len + 2 := by rw [app_len (by rw [head_len]; unfold maxLen; omega), head_len]
      unfold headD optT optB at hap
      repeat' refine And.intro (fun _ => ?_) (fun _ => ?_)
      all_goals first | (rw [wrap_succ hlt hm]; exact hnext) | (exfalso; clear H hnext; simp only [decide_eq_true_eq, decide_eq_false_iff_not, Bool.not_eq_true', Bool.not_eq_false'] at *; omega)
    · have : i = d.len := by omega
      subst this
      refine ⟨fun h1 => ?_, fun h1 => H⟩
      have := of_decide_eq_true h1
      omega
theorem renLs_ok : LamL Tryz.prog (renLs Tryz.prog) := ⟨ren1_loop, ren2_loop, trivial⟩
theorem ren_tree (d : D) : treeF (evF Tryz.prog (gam ([])) (lam (renLs Tryz.prog)) 100 81) [asl opS d] =
    RT.br (decide (64 < (↑(D.len d) : Int)))
      (RT.ok (AV.tup [AV.sc true (Value.slice none 0 0), AV.sc true (Value.int IntKind.i64 3)]))
      (RT.br true
        (RT.br (okFrom (optOk d) (D.len d - 0) 0)
          (RT.br (decide (0 ≤ D.len d ∧ D.len d ≤ 64 ∧ okFrom (optOk d) (D.len d) 0 = true))
            (RT.br (decide (1488 < (↑(D.len (encP d (D.len d))) : Int)))
              (RT.ok (AV.tup [AV.sc true (Value.slice none 0 0), AV.sc true (Value.int IntKind.i64 2)]))
              (RT.ok
                (AV.tup [AV.sl false [Sh.int IntKind.u8] (encP d (D.len d)) none, AV.sc true (Value.int IntKind.i64 0)])))
            (RT.bad 210))
          (RT.ok (AV.tup [AV.sc false (Value.slice none 0 0), AV.sc false (Value.int IntKind.i64 80)])))
        (RT.bad 210)) := by kernel_rfl
theorem rencode_soundF : SoundF Tryz.prog 81 (pureS Tryz.prog 81 FEnc) := by
  refine pure_in (gs := []) (ls := renLs Tryz.prog) mixed trivial renLs_ok 81 100 fun args K ho H => ?_
  unfold FEnc at H
  split at H
  · rename_i d
    rw [ren_tree]
    refine ⟨fun h1 => ?_, fun h1 => ⟨fun _ => ⟨fun h3 => ⟨fun h2 => ⟨fun h4 => ?_, fun h4 => ?_⟩, fun h2 => ?_⟩, fun h3 => ?_⟩, fun h2 => ?_⟩⟩
    · exact ⟨_, le_enc (encE_many (by have := of_decide_eq_true h1; omega)) (by decide), H⟩
    · have h1 := of_decide_eq_false h1
      exact ⟨_, le_enc (encE_long (by omega) h3 (by have := of_decide_eq_true h4; omega)) (by decide), H⟩
    · have h1 := of_decide_eq_false h1
      exact ⟨_, le_encok (encE_ok (by omega) h3 (by have := of_decide_eq_false h4; omega)), H⟩
    · have h1 := of_decide_eq_false h1
      have h2 := of_decide_eq_false h2
      exact absurd ⟨Nat.zero_le _, by omega, h3⟩ h2
    · have h1 := of_decide_eq_false h1
      exact ⟨_, le_enc (encE_bad (by omega) h3) (by decide), H⟩
    · cases h2
  · exact H.elim
end
end Go.Proofs.YtcambhbmobepjaaGreat
