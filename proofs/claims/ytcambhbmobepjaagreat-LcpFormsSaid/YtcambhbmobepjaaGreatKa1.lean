/- Ka1: contracts: octet.Put, the reference's Put; settings. No condition. -/
import Derived.Test.YtcambhbmobepjaaGreatEvF
import Derived.Test.YtcambhbmobepjaaGreatPut
namespace Go.Proofs.YtcambhbmobepjaaGreat
set_option linter.unusedSimpArgs false
set_option linter.unusedVariables false
open Go.RowKit
set_option maxRecDepth 100000
noncomputable section

theorem mixed : Fit Tryz.prog := ⟨by kernel_rfl, by kernel_rfl⟩
-- DEFS
abbrev ai (n : Int) : AV := .sc false (.int .i64 n)
abbrev ab (b : Bool) : AV := .sc false (.bool b)
abbrev asl (es : List Sh) (d : D) : AV := .sl false es d none
abbrev byS : List Sh := [.int .u8]
-- END
theorem relL_two {E : Env} {x y : AV} {vals : List Value} (h : RelL E [x, y] vals) : ∃ u v, vals = [u, v] ∧ Rel E x u ∧ Rel E y v := by
  obtain ⟨u, r, rfl, h1, v, r', rfl, h2, h3⟩ := h
  have h3' : r' = [] := h3
  subst h3'
  exact ⟨u, v, rfl, h1, h2⟩
/-- a number's byte, the highest first -/
def byI (n : Int) (s i : Nat) : Int := (beByte n.toNat (s - 1 - i)).toNat
def beD (n s : Int) : D := bif decide (1 ≤ s ∧ s ≤ 8) then .l ((List.range s.toNat).map fun i => .i (byI n s.toNat i)) else .l []
theorem beD_eq (n s : Int) : beD n s = eBs (beI n.toNat s) := by
  unfold beD beI
  by_cases h : 1 ≤ s ∧ s ≤ 8
  · rw [decide_eq_true h, if_pos h]
    show D.l _ = D.l _
    unfold be
    rw [List.map_map]; rfl
  · rw [decide_eq_false h, if_neg h]; rfl
def FPut : List AV → RT AV
  | [.sc _ (.int .u64 n), .sc _ (.int .i64 s)] => need false (decide (0 ≤ n ∧ n < 18446744073709551616)) 200 (.ok (.sl true byS (beD n s) none))
  | _ => .bad 201
theorem put_soundF : SoundF Tryz.prog 38 (pureS Tryz.prog 38 FPut) := by
  refine pureS_direct fun args K H w0 G E h w vals I hr => ?_
  unfold FPut at H
  split at H
  · rename_i n s
    obtain ⟨hc, H⟩ := need_holds H
    obtain ⟨h0, h1⟩ := of_decide_eq_true hc
    obtain ⟨u, v, rfl, hu, hv⟩ := relL_two hr
    obtain rfl := rel_int hu
    obtain rfl := rel_int hv
    obtain ⟨m, rfl⟩ := Int.eq_ofNat_of_zero_le h0
    by_cases hs : 1 ≤ s ∧ s ≤ 8
    · obtain ⟨k, rfl⟩ := Int.eq_ofNat_of_zero_le (show 0 ≤ s by omega)
      refine (put_any m (by omega) k (by omega) (by omega) w).mono ?_
      rintro e w' ⟨v, rfl, hb, ho⟩
      obtain ⟨E', h2, h3⟩ := own_bytesE I hb ho (by simp [be, room]; omega)
      refine ⟨_, v, E', H, rfl, h2, ?_⟩
      have hk : beI m (k : Int) = be m k := by unfold beI; rw [if_pos hs]; rfl
      rw [beD_eq, Int.toNat_natCast, hk]; exact h3
    · refine (put_bad m s (by omega) w).mono ?_
      rintro e w' ⟨rfl, rfl⟩
      refine ⟨_, _, E, H, rfl, Stepd.refl I, ?_⟩
      have hk : beI m s = [] := by unfold beI; rw [if_neg hs]
      rw [beD_eq, Int.toNat_natCast, hk]
      exact le_nil (kn := true) (by simp [eBs, D.len, D.toL, D.raw]) E _ ⟨rfl, rfl⟩
  · exact H.elim
theorem rput_soundF : SoundF Tryz.prog 42 (pureS Tryz.prog 42 FPut) := by
  refine pureS_direct fun args K H w0 G E h w vals I hr => ?_
  unfold FPut at H
  split at H
  · rename_i n s
    obtain ⟨hc, H⟩ := need_holds H
    obtain ⟨h0, h1⟩ := of_decide_eq_true hc
    obtain ⟨u, v, rfl, hu, hv⟩ := relL_two hr
    obtain rfl := rel_int hu
    obtain rfl := rel_int hv
    obtain ⟨m, rfl⟩ := Int.eq_ofNat_of_zero_le h0
    by_cases hs : 1 ≤ s ∧ s ≤ 8
    · obtain ⟨k, rfl⟩ := Int.eq_ofNat_of_zero_le (show 0 ≤ s by omega)
      refine (rput_any m (by omega) k (by omega) (by omega) w).mono ?_
      rintro e w' ⟨v, rfl, hb, ho⟩
      obtain ⟨E', h2, h3⟩ := own_bytesE I hb ho (by simp [be, room]; omega)
      refine ⟨_, v, E', H, rfl, h2, ?_⟩
      have hk : beI m (k : Int) = be m k := by unfold beI; rw [if_pos hs]; rfl
      rw [beD_eq, Int.toNat_natCast, hk]; exact h3
    · refine (rput_bad m s (by omega) w).mono ?_
      rintro e w' ⟨rfl, rfl⟩
      refine ⟨_, _, E, H, rfl, Stepd.refl I, ?_⟩
      have hk : beI m s = [] := by unfold beI; rw [if_neg hs]
      rw [beD_eq, Int.toNat_natCast, hk]
      exact le_nil (kn := true) (by simp [eBs, D.len, D.toL, D.raw]) E _ ⟨rfl, rfl⟩
  · exact H.elim
-- STOPS: byI
/-! Settings. -/
def inB (n lo hi : Int) : Bool := decide (lo ≤ n ∧ n ≤ hi)
def fitsB (a b c d e f g : Int) : Bool := inB a 128 1492 && inB b 1 1000 && inB c 1 1000 && inB d 0 1000 && inB e 1 1048576 && inB f 0 1048576 && inB g 1 1000
theorem fits_tree (a b c d e f g : Int) : treeF (evF Tryz.prog (gam ([])) (lam ([])) 100 35) [.agg [ai a, ai b, ai c, ai d, ai e, ai f, ai g]] =
    RT.br (decide (128 ≤ a))
      (RT.br (decide (a ≤ 1492))
        (RT.br (decide (1 ≤ b))
          (RT.br (decide (b ≤ 1000))
            (RT.br (decide (1 ≤ c))
              (RT.br (decide (c ≤ 1000))
                (RT.br (decide (0 ≤ d))
                  (RT.br (decide (d ≤ 1000))
                    (RT.br (decide (1 ≤ e))
                      (RT.br (decide (e ≤ 1048576))
                        (RT.br (decide (0 ≤ f))
                          (RT.br (decide (f ≤ 1048576))
                            (RT.br (decide (1 ≤ g)) (RT.ok (AV.sc false (Value.bool (decide (g ≤ 1000)))))
                              (RT.ok (AV.sc true (Value.bool false))))
                            (RT.ok (AV.sc true (Value.bool false))))
                          (RT.ok (AV.sc true (Value.bool false))))
                        (RT.ok (AV.sc true (Value.bool false))))
                      (RT.ok (AV.sc true (Value.bool false))))
                    (RT.ok (AV.sc true (Value.bool false))))
                  (RT.ok (AV.sc true (Value.bool false))))
                (RT.ok (AV.sc true (Value.bool false))))
              (RT.ok (AV.sc true (Value.bool false))))
            (RT.ok (AV.sc true (Value.bool false))))
          (RT.ok (AV.sc true (Value.bool false))))
        (RT.ok (AV.sc true (Value.bool false))))
      (RT.ok (AV.sc true (Value.bool false))) := by kernel_rfl
theorem isconf_tree (a b c d e f g : Int) : treeF (evF Tryz.prog (gam ([])) (lam ([])) 100 39) [.agg [ai a, ai b, ai c, ai d, ai e, ai f, ai g]] =
    RT.br (decide (128 ≤ a))
      (RT.br (decide (a ≤ 1492))
        (RT.br (decide (1 ≤ b))
          (RT.br (decide (b ≤ 1000))
            (RT.br (decide (1 ≤ c))
              (RT.br (decide (c ≤ 1000))
                (RT.br (decide (0 ≤ d))
                  (RT.br (decide (d ≤ 1000))
                    (RT.br (decide (1 ≤ e))
                      (RT.br (decide (e ≤ 1048576))
                        (RT.br (decide (0 ≤ f))
                          (RT.br (decide (f ≤ 1048576))
                            (RT.br (decide (1 ≤ g)) (RT.ok (AV.sc false (Value.bool (decide (g ≤ 1000)))))
                              (RT.ok (AV.sc true (Value.bool false))))
                            (RT.ok (AV.sc true (Value.bool false))))
                          (RT.ok (AV.sc true (Value.bool false))))
                        (RT.ok (AV.sc true (Value.bool false))))
                      (RT.ok (AV.sc true (Value.bool false))))
                    (RT.ok (AV.sc true (Value.bool false))))
                  (RT.ok (AV.sc true (Value.bool false))))
                (RT.ok (AV.sc true (Value.bool false))))
              (RT.ok (AV.sc true (Value.bool false))))
            (RT.ok (AV.sc true (Value.bool false))))
          (RT.ok (AV.sc true (Value.bool false))))
        (RT.ok (AV.sc true (Value.bool false))))
      (RT.ok (AV.sc true (Value.bool false))) := by kernel_rfl
def FFits : List AV → RT AV
  | [.agg [.sc false (.int .i64 a), .sc false (.int .i64 b), .sc false (.int .i64 c), .sc false (.int .i64 d), .sc false (.int .i64 e), .sc false (.int .i64 f), .sc false (.int .i64 g)]] => .ok (ab (fitsB a b c d e f g))
  | _ => .bad 202
theorem fits_soundF : SoundF Tryz.prog 35 (pureS Tryz.prog 35 FFits) := by
  refine pure_in (gs := []) (ls := []) mixed trivial trivial 35 100 fun args K _ H => ?_
  unfold FFits at H
  split at H
  · rw [fits_tree]
    simp only [RT.holds]
    repeat' refine And.intro (fun _ => ?_) (fun _ => ?_)
    all_goals exact ⟨_, le_bool (by simp_all [fitsB, inB] <;> omega), H⟩
  · exact H.elim
theorem isconf_soundF : SoundF Tryz.prog 39 (pureS Tryz.prog 39 FFits) := by
  refine pure_in (gs := []) (ls := []) mixed trivial trivial 39 100 fun args K _ H => ?_
  unfold FFits at H
  split at H
  · rw [isconf_tree]
    simp only [RT.holds]
    repeat' refine And.intro (fun _ => ?_) (fun _ => ?_)
    all_goals exact ⟨_, le_bool (by simp_all [fitsB, inB] <;> omega), H⟩
  · exact H.elim
end
end Go.Proofs.YtcambhbmobepjaaGreat
