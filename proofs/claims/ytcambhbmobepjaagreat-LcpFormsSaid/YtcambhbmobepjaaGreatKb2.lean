/- Kb2: opts.Encode whole. No condition. -/
import Derived.Test.YtcambhbmobepjaaGreatKb1
namespace Go.Proofs.YtcambhbmobepjaaGreat
set_option linter.unusedSimpArgs false
set_option linter.unusedVariables false
open Go.RowKit
set_option maxRecDepth 100000
noncomputable section

-- DEFS
def encDec (F : Tm) (h : Hp) : Option (D × Int × Nat) := match F, h with
  | ⟨45, [(2, .sc false (.slice none 0 0)), (3, .sc false (.int .i64 0)), (4, .sl false [.int .u8] (.l []) (some (0, 1000))), (10, .sl false [.int .i64, .sl [.int .u8]] d none), (11, .sc false (.int .i64 n)), (12, .sc false (.int .i64 0))], []⟩, ⟨[], 0, [(0, 1000, 5)], 1, 1001, 1000⟩ => some (d, n, 0)
  | _, _ => none
def encT (x : D × Int × Nat) : RT Out := need false (decide (x.2.1 = (x.1.len : Int) ∧ x.2.2 ≤ x.1.len ∧ x.1.len ≤ 64 ∧ okFrom (optOk x.1) x.2.2 0 = true)) 210
  (.br (okFrom (optOk x.1) (x.1.len - x.2.2) x.2.2) (.ok (.normal, encF x.1 x.2.1 x.1.len, encH)) (.ok (.ret, encR x.1 x.2.1 (badFrom (optOk x.1) (x.1.len - x.2.2) x.2.2), encH)))
def encLs (P : Program) : List (FuncId × Nat × BSpec) := [(78, 0, loopS P encL encDec encT)]
-- END
-- STOPS: encP optOk okFrom badFrom
theorem enc_loop : LamE Tryz.prog 78 0 (loopS Tryz.prog encL encDec encT) := by
  refine loop_in2 (gs := []) (ls := []) mixed trivial trivial _ 0 100 (by kernel_rfl) encL (mkF := fun x => encF x.1 x.2.1 x.2.2) (mkH := fun _ => encH) (fun x => x.1.len - x.2.2) ?_ ?_
  · intro F h x hx
    unfold encDec at hx
    split at hx
    · cases hx; exact ⟨rfl, rfl⟩
    · cases hx
  · rintro ⟨d, n, i⟩ K H
    obtain ⟨hc, H⟩ := need_holds H
    obtain ⟨rfl, hi, h64, hok⟩ : n = (d.len : Int) ∧ i ≤ d.len ∧ d.len ≤ 64 ∧ okFrom (optOk d) i 0 = true := of_decide_eq_true hc
    have hm := d.len_le
    have hel := enc_len (by omega) hok
    show (roundT encL (evC _ _ _ _ _ _ (encF d d.len i) encH)).holds _
    unfold encL encF encH
    rw [enc_body]
    simp only [Int.toNat_natCast]
    by_cases hlt : i < d.len
    · cases hp : optOk d i
      · have hret : K (.ret, encR d d.len i, encH) := by
          have := H.2 (okFrom_false (Nat.le_refl _) (show i < i + (d.len - i) by omega) hp)
          dsimp only at this
          rwa [show d.len - i = (d.len - i - 1) + 1 by omega, badFrom_here hp] at this
        have hp' := of_decide_eq_false hp
        unfold optT optB at hp'
        repeat' refine And.intro (fun _ => ?_) (fun _ => ?_)
        all_goals first | exact hret | (exfalso; clear H hret; simp only [decide_eq_true_eq, decide_eq_false_iff_not, Bool.not_eq_true', Bool.not_eq_false'] at *; omega)
      · have hnext : ∃ x' : D × Int × Nat, (encF d d.len (i + 1) = encF x'.1 x'.2.1 x'.2.2 ∧ encH = encH) ∧ x'.1.len - x'.2.2 < d.len - i ∧ (encT x').holds K := by
          refine ⟨(d, d.len, i + 1), ⟨rfl, rfl⟩, by show d.len - (i + 1) < d.len - i; omega, ?_⟩
          refine ⟨fun _ => ?_, fun hf => absurd ⟨rfl, by show i + 1 ≤ d.len; omega, h64, okFrom_snoc hok hp⟩ (of_decide_eq_false hf)⟩
          have e : d.len - i = (d.len - (i + 1)) + 1 := by omega
          have e1 : okFrom (optOk d) (d.len - i) i = okFrom (optOk d) (d.len - (i + 1)) (i + 1) := by rw [e]; simp only [okFrom, hp, Bool.true_and]
          have e2 : badFrom (optOk d) (d.len - i) i = badFrom (optOk d) (d.len - (i + 1)) (i + 1) := by rw [e, badFrom_cons hp]
          dsimp only at H
          rw [e1, e2] at H
          exact H
        have hp' := of_decide_eq_true hp
        unfold optT optB at hp'
        have hap : ((encP d i).app (headD d i)).len = (encP d i).len + 2 := by rw [app_len (by rw [head_len]; unfold maxLen; omega), head_len]
        unfold headD optT optB at hap
        repeat' refine And.intro (fun _ => ?_) (fun _ => ?_)
        all_goals first | (rw [wrap_succ hlt hm]; exact hnext) | (exfalso; clear H hnext; simp only [decide_eq_true_eq, decide_eq_false_iff_not, Bool.not_eq_true', Bool.not_eq_false'] at *; omega)
    · have : i = d.len := by omega
      subst this
      refine ⟨fun h1 => ?_, fun h1 => H.1 (by rw [Nat.sub_self]; rfl)⟩
      have := of_decide_eq_true h1
      omega
theorem encLs_ok : LamL Tryz.prog (encLs Tryz.prog) := ⟨enc_loop, trivial⟩
theorem enc_tree (d : D) : treeF (evF Tryz.prog (gam ([])) (lam (encLs Tryz.prog)) 100 78) [asl opS d] =
    RT.br (decide (64 < (↑(D.len d) : Int)))
      (RT.ok (AV.tup [AV.sc true (Value.slice none 0 0), AV.sc true (Value.int IntKind.i64 3)]))
      (RT.br (decide ((↑(D.len d) : Int) = (↑(D.len d) : Int) ∧ 0 ≤ D.len d ∧ D.len d ≤ 64 ∧ true = true))
        (RT.br (okFrom (optOk d) (D.len d - 0) 0)
          (RT.br (decide (1488 < (↑(D.len (encP d (D.len d))) : Int)))
            (RT.ok (AV.tup [AV.sc true (Value.slice none 0 0), AV.sc true (Value.int IntKind.i64 2)]))
            (RT.ok
              (AV.tup [AV.sl false [Sh.int IntKind.u8] (encP d (D.len d)) none, AV.sc true (Value.int IntKind.i64 0)])))
          (RT.ok (AV.tup [AV.sc false (Value.slice none 0 0), AV.sc false (Value.int IntKind.i64 80)])))
        (RT.bad 210)) := by kernel_rfl
end
end Go.Proofs.YtcambhbmobepjaaGreat
