/- Ke3: what a ProtRej tells of; which controls may be: the law's tree. No condition. -/
import Derived.Test.YtcambhbmobepjaaGreatKe2
import Derived.Test.YtcambhbmobepjaaGreatTake
namespace Go.Proofs.YtcambhbmobepjaaGreat
set_option linter.unusedSimpArgs false
set_option linter.unusedVariables false
open Go.RowKit
set_option maxRecDepth 100000
noncomputable section

-- DEFS
def byA (d : D) (i : Nat) : Int := ((d.get i).cell 0).toI
def rejB (c : Int) (d : D) : Bool := decide (c = 8 ∧ 2 ≤ d.len)
def rejN (c : Int) (d : D) : Int := if c = 8 ∧ 2 ≤ d.len then 256 * byA d 0 + byA d 1 else 0
def rngB (d : D) : Bool := decide (2 ≤ d.len → (0 ≤ byA d 0 ∧ byA d 0 < 256) ∧ (0 ≤ byA d 1 ∧ byA d 1 < 256))
def FRej : List AV → RT AV
  | [.agg [.sc false (.int .i64 c), .sc false (.int .i64 _), .sl false [.int .u8] d none]] => need false (rngB d) 221 (.ok (.tup [ai (rejN c d), ab (rejB c d)]))
  | _ => .bad 222
-- END
-- STOPS: rejB rejN rngB newB asksD lisB nextI sameL sameO lgtE lgtN
theorem awk_soundF : SoundF Tryz.prog 21 (pureS Tryz.prog 21 (Fone mAwkK mAwkR)) :=
  memo_one (evF_ok mixed (gam_ok awkG2_ok) (lam_ok (l := []) trivial) 100 _) mAwk
theorem or_bytes {x y : Int} (hx : 0 ≤ x ∧ x < 256) (hy : 0 ≤ y ∧ y < 256) :
    IntKind.wrap IntKind.i64 (IntKind.wrap IntKind.u64 (↑(BitVec.toNat (BitVec.ofInt (IntKind.bits IntKind.u64) (IntKind.wrap IntKind.u64 (IntKind.wrap IntKind.u64 (↑(BitVec.toNat (BitVec.ofInt (IntKind.bits IntKind.u64) (IntKind.wrap IntKind.u64 (0 * 2 ^ min (Int.toNat 8) (IntKind.bits IntKind.u64))) |||
      BitVec.ofInt (IntKind.bits IntKind.u64) (IntKind.wrap IntKind.u64 x))) : Int) * 2 ^ min (Int.toNat 8) (IntKind.bits IntKind.u64))) ||| BitVec.ofInt (IntKind.bits IntKind.u64) (IntKind.wrap IntKind.u64 y))) : Int)) = 256 * x + y := by
  obtain ⟨a, rfl⟩ := Int.eq_ofNat_of_zero_le hx.1
  obtain ⟨b, rfl⟩ := Int.eq_ofNat_of_zero_le hy.1
  have ha : a < 256 := by omega
  have hb : b < 256 := by omega
  have hw : ∀ n : Nat, n < 18446744073709551616 → IntKind.u64.wrap (n : Int) = n := fun n hn => by
    have : IntKind.u64.wrap (n : Int) = (n : Int) % 18446744073709551616 := by simp [IntKind.wrap, IntKind.bits, IntKind.signed]
    rw [this]; omega
  have ho : ∀ p q : Nat, p < 72057594037927936 → q < 256 → BitVec.toNat (BitVec.ofInt (IntKind.bits IntKind.u64) ((p * 256 : Nat) : Int) ||| BitVec.ofInt (IntKind.bits IntKind.u64) (q : Int)) = 256 * p + q := fun p q hp hq => by
    have := u64_or_byte p q hp hq
    rw [hw q (by omega)] at this
    have h2 := hw (256 * p + q) (by omega)
    unfold bits at this
    rw [show ((p : Int) * 256) = ((p * 256 : Nat) : Int) by simp] at this
    have h3 : ∀ z : Nat, z < 18446744073709551616 → IntKind.u64.wrap (z : Int) = ((256 * p + q : Nat) : Int) → z = 256 * p + q := fun z hz h => by
      rw [hw z hz] at h; exact Int.ofNat.inj h
    exact h3 _ (BitVec.isLt _) this
  have hm : min (Int.toNat 8) (IntKind.bits IntKind.u64) = 8 := by decide
  rw [hm, show IntKind.u64.wrap (0 * 2 ^ 8) = ((0 * 256 : Nat) : Int) from by decide, hw a (by omega), ho 0 a (by omega) ha, Nat.mul_zero, Nat.zero_add, hw a (by omega), show ((a : Int) * 2 ^ 8) = ((a * 256 : Nat) : Int) by simp, hw (a * 256) (by omega), hw b (by omega), ho a b (by omega) hb, hw _ (by omega), IntWalk.i64_left]
  unfold wrap64
  omega
theorem rej_soundF : SoundF Tryz.prog 14 (pureS Tryz.prog 14 FRej) := by
  refine pure_in (gs := []) (ls := []) mixed trivial trivial 14 100 fun args K ho H => ?_
  unfold FRej at H
  split at H
  · rename_i c i d
    obtain ⟨hr, H⟩ := need_holds H
    have hr : 2 ≤ d.len → (0 ≤ byA d 0 ∧ byA d 0 < 256) ∧ (0 ≤ byA d 1 ∧ byA d 1 < 256) := of_decide_eq_true hr
    rw [rej_tree]
    have fin : ∀ {n : Int} {b : Bool} {k1 k2 : Bool}, n = rejN c d → b = rejB c d → ∃ y, Le (.tup [.sc k1 (.int .i64 n), .sc k2 (.bool b)]) y ∧ K y := fun h1 h2 => ⟨_, le_tup (leL_cons (le_int h1) (leL_cons (le_bool h2) fun _ _ h => h)), H⟩
    refine ⟨fun h1 => fin ?_ ?_, fun h1 => ?_⟩
    · have h1 : d.len < 2 := by have := of_decide_eq_true h1; omega
      unfold rejN; rw [if_neg (by omega)]
    · have h1 : d.len < 2 := by have := of_decide_eq_true h1; omega
      unfold rejB; rw [decide_eq_false (by omega)]
    · have h1 : 2 ≤ d.len := by have := of_decide_eq_false h1; omega
      refine ⟨fun _ => ⟨fun _ => ⟨fun _ => ⟨fun _ => ⟨fun h2 => fin ?_ ?_, fun h2 => fin ?_ ?_⟩, fun h => absurd ⟨by omega, by omega, by omega, by omega⟩ (of_decide_eq_false h)⟩, fun h => absurd ⟨by omega, by omega⟩ (of_decide_eq_false h)⟩, fun h => by cases h⟩, fun h => absurd ⟨by omega, by omega⟩ (of_decide_eq_false h)⟩
      · have : c ≠ 8 := bne_iff_ne.1 h2
        unfold rejN; rw [if_neg (by omega)]
      · have : c ≠ 8 := bne_iff_ne.1 h2
        unfold rejB; rw [decide_eq_false (by omega)]
      · have : c = 8 := by simpa using h2
        unfold rejN; rw [if_pos ⟨this, h1⟩]
        obtain ⟨r1, r2⟩ := hr h1
        exact or_bytes r1 r2
      · have : c = 8 := by simpa using h2
        unfold rejB; rw [decide_eq_true ⟨this, h1⟩]
  · exact H.elim
theorem i64_id {n : Int} (h : 0 ≤ n ∧ n < 9223372036854775808) : IntKind.i64.wrap n = n := by rw [IntWalk.i64_left]; unfold wrap64; omega
theorem rrej_soundF : SoundF Tryz.prog 15 (pureS Tryz.prog 15 FRej) := by
  refine pure_in (gs := []) (ls := []) mixed trivial trivial 15 100 fun args K ho H => ?_
  unfold FRej at H
  split at H
  · rename_i c i d
    obtain ⟨hr, H⟩ := need_holds H
    have hr : 2 ≤ d.len → (0 ≤ byA d 0 ∧ byA d 0 < 256) ∧ (0 ≤ byA d 1 ∧ byA d 1 < 256) := of_decide_eq_true hr
    rw [rrej_tree]
    have fin : ∀ {n : Int} {b : Bool} {k1 k2 : Bool}, n = rejN c d → b = rejB c d → ∃ y, Le (.tup [.sc k1 (.int .i64 n), .sc k2 (.bool b)]) y ∧ K y := fun h1 h2 => ⟨_, le_tup (leL_cons (le_int h1) (leL_cons (le_bool h2) fun _ _ h => h)), H⟩
    refine ⟨fun h1 => fin ?_ ?_, fun h1 => ⟨fun h2 => fin ?_ ?_, fun h2 => ?_⟩⟩
    · have : c ≠ 8 := bne_iff_ne.1 h1
      unfold rejN; rw [if_neg (by omega)]
    · have : c ≠ 8 := bne_iff_ne.1 h1
      unfold rejB; rw [decide_eq_false (by omega)]
    · have h1 : d.len < 2 := by have := of_decide_eq_true h2; omega
      unfold rejN; rw [if_neg (by omega)]
    · have h1 : d.len < 2 := by have := of_decide_eq_true h2; omega
      unfold rejB; rw [decide_eq_false (by omega)]
    · have hc : c = 8 := by simpa using h1
      have h2 : 2 ≤ d.len := by have := of_decide_eq_false h2; omega
      refine ⟨fun _ => ⟨fun _ => fin ?_ ?_, fun h => absurd ⟨by omega, by omega⟩ (of_decide_eq_false h)⟩, fun h => absurd ⟨by omega, by omega⟩ (of_decide_eq_false h)⟩
      · unfold rejN; rw [if_pos ⟨hc, h2⟩]
        obtain ⟨r1, r2⟩ := hr h2
        show IntKind.i64.wrap (IntKind.i64.wrap (256 * IntKind.i64.wrap (byA d 0)) + IntKind.i64.wrap (byA d 1)) = _
        rw [i64_id (n := byA d 0) (by omega), i64_id (n := byA d 1) (by omega), i64_id (n := 256 * byA d 0) (by omega), i64_id (by omega)]
      · unfold rejB; rw [decide_eq_true ⟨hc, h2⟩]
  · exact H.elim
-- DEFS
/-- a new control, whether there is one or not -/
def nwD (b : Bool) (a m : Int) : D := bif b then asksD a m else .l []
def nwI (b : Bool) (n : Int) : Int := bif b then n else 0
abbrev nwT (b : Bool) (a m : Int) : AV := .tup [.agg [k0, k0, k0, asl opS (nwD b a m), k0, k0, k0, ai (nwI b m), k0, ai (nwI b 1492), k0, k0], ai (errIf b 170)]
def FLNew1 : List AV → RT AV
  | [.agg [.sc false (.int .i64 a), .sc false (.int .i64 b), .sc false (.int .i64 c), .sc false (.int .i64 e), .sc false (.int .i64 f), .sc false (.int .i64 g), .sc false (.int .i64 h)], .sc false (.int .i64 m)] => .ok (nwT (newB a b c e f g h m) a m)
  | _ => .bad 210
-- END
-- STOPS: nwD nwI errIf
theorem le_newN {a m : Int} : Le newN (nwT false a m) := by
  refine le_tup (leL_cons (le_agg (leL_cons (Le.refl _) (leL_cons (Le.refl _) (leL_cons (Le.refl _) (leL_cons (le_nil ?_) (leL_cons (Le.refl _) (leL_cons (Le.refl _) (leL_cons (Le.refl _) (leL_cons (le_int rfl) (leL_cons (Le.refl _) (leL_cons (le_int rfl) fun _ _ h => h))))))))))) (leL_cons (le_int rfl) fun _ _ h => h))
  simp [nwD, D.len, D.toL, D.raw]
theorem le_newY {a m : Int} {d : D} (h : d.raw = (asksD a m).raw) : Le (.tup [.agg [k0, k0, k0, .sl true opS d none, k0, k0, k0, ai m, k0, .sc true (.int .i64 1492), k0, k0], k0]) (nwT true a m) :=
  le_tup (leL_cons (le_agg (leL_cons (Le.refl _) (leL_cons (Le.refl _) (leL_cons (Le.refl _) (leL_cons (le_raw h) (leL_cons (Le.refl _) (leL_cons (Le.refl _) (leL_cons (Le.refl _) (leL_cons (le_int rfl) (leL_cons (Le.refl _) (leL_cons (le_int rfl) fun _ _ h => h))))))))))) (leL_cons (le_int rfl) fun _ _ h => h))
theorem lnew1_soundF : SoundF Tryz.prog 9 (pureS Tryz.prog 9 FLNew1) := by
  refine pure_in (gs := newG Tryz.prog) (ls := []) mixed newG_ok trivial 9 100 fun args K ho H => ?_
  unfold FLNew1 at H
  split at H
  · rename_i a b c e f g h m
    rw [new_tree]
    have hn := newB_iff a b c e f g h m
    have H : K (nwT (newB a b c e f g h m) a m) := H
    have hno : ∀ (hx : ¬ (fitsB a b c e f g h = true ∧ 1 ≤ m ∧ m ≤ 4294967295)), ∃ y, Le newN y ∧ K y := fun hx => by
      have hb : newB a b c e f g h m = false := by cases hb : newB a b c e f g h m; rfl; exact absurd (hn.1 hb) hx
      rw [hb] at H
      exact ⟨_, le_newN, H⟩
    refine ⟨fun h1 => hno fun hx => ?_, fun h1 => ⟨fun h2 => ⟨fun h3 => hno fun hx => ?_, fun h3 => ⟨fun h4 => ⟨fun h5 => ?_, fun h5 => absurd (uns_range m) (of_decide_eq_false h5)⟩, fun h4 => absurd (uns_range a) (of_decide_eq_false h4)⟩⟩, fun h2 => hno fun hx => ?_⟩⟩
    · rw [hx.1] at h1; cases h1
    · rw [decide_eq_true hx.2.2] at h3; cases h3
    · have hb : newB a b c e f g h m = true := hn.2 ⟨by cases hf : fitsB a b c e f g h; rw [hf] at h1; cases h1; rfl, of_decide_eq_true h2, by simpa using h3⟩
      rw [hb] at H
      exact ⟨_, le_newY (a := a) (by kernel_rfl), H⟩
    · exact absurd hx.2.1 (of_decide_eq_false h2)
  · exact H.elim
theorem rlnew1_soundF : SoundF Tryz.prog 10 (pureS Tryz.prog 10 FLNew1) := by
  refine pure_in (gs := newG Tryz.prog) (ls := []) mixed newG_ok trivial 10 100 fun args K ho H => ?_
  unfold FLNew1 at H
  split at H
  · rename_i a b c e f g h m
    rw [rnew_tree]
    have hn := newB_iff a b c e f g h m
    have H : K (nwT (newB a b c e f g h m) a m) := H
    have hno : ∀ (hx : ¬ (fitsB a b c e f g h = true ∧ 1 ≤ m ∧ m ≤ 4294967295)), ∃ y, Le newN y ∧ K y := fun hx => by
      have hb : newB a b c e f g h m = false := by cases hb : newB a b c e f g h m; rfl; exact absurd (hn.1 hb) hx
      rw [hb] at H
      exact ⟨_, le_newN, H⟩
    refine ⟨fun h1 => hno fun hx => ?_, fun h1 => ⟨fun h2 => ⟨fun h3 => hno fun hx => ?_, fun h3 => ⟨fun h4 => ⟨fun h5 => ?_, fun h5 => absurd (uns_range m) (of_decide_eq_false h5)⟩, fun h4 => absurd (uns_range a) (of_decide_eq_false h4)⟩⟩, fun h2 => hno fun hx => ?_⟩⟩
    · rw [hx.1] at h1; cases h1
    · rw [decide_eq_true hx.2.2] at h3; cases h3
    · have hb : newB a b c e f g h m = true := hn.2 ⟨by cases hf : fitsB a b c e f g h; rw [hf] at h1; cases h1; rfl, of_decide_eq_true h2, by simpa using h3⟩
      rw [hb] at H
      exact ⟨_, le_newY (a := a) (by kernel_rfl), H⟩
    · exact absurd hx.2.1 (of_decide_eq_false h2)
  · exact H.elim
-- DEFS
def lawG (P : Program) : List (FuncId × Spec) := [(8, pureS P 8 FLight), (9, pureS P 9 FLNew1), (10, pureS P 10 FLNew1),
  (11, pureS P 11 FLck), (17, pureS P 17 FLis), (12, pureS P 12 FAutP), (13, pureS P 13 FAutR),
  (14, pureS P 14 FRej), (15, pureS P 15 FRej), (18, pureS P 18 FNextL), (19, pureS P 19 FNextL),
  (20, pureS P 20 FSameL), (16, pureS P 16 FSameL), (21, pureS P 21 (Fone mAwkK mAwkR))]
-- END
theorem lawG_ok : GamL Tryz.prog (lawG Tryz.prog) := ⟨light_soundF, lnew1_soundF, rlnew1_soundF, lcheck_soundF, rlis_soundF, auto_soundF, rauto_soundF, rej_soundF, rrej_soundF, lnext_soundF, rlnext_soundF, lsame_soundF, rlsame_soundF, awk_soundF, trivial⟩
end
end Go.Proofs.YtcambhbmobepjaaGreat
